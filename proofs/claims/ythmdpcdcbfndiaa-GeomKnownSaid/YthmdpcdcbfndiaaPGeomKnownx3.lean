-- MADE BY THIS SESSION (fakeprint): not the kit's print
import Derived.Test.YthmdpcdcbfndiaaPGeomKnownx0
import Derived.Test.YthmdpcdcbfndiaaPGeomKnownx1
import Derived.Test.YthmdpcdcbfndiaaPGeomKnownx2
namespace Go.Proofs.Ythmdpcdcbfndiaa.PGeomKnown
open Go.RowKit Go.Proofs.YthmdpcdcbfndiaaW.PrintWords Go.Proofs.YthmdpcdcbfndiaaW.PrintLast Go.Proofs.YthmdpcdcbfndiaaW.PrintMore
attribute [local go_sem] max2_int min2_int max_two min_two max_three min_three max_four min_four   -- for this text's walks alone
set_option linter.unusedVariables false
set_option linter.unusedSimpArgs false

/-! ### casematelaw14_GeomKnown: function 8 -/
mutual
def casematelaw14_GeomKnown.j0 : Nat → Bool → Int → Int → Option (Bool)
  | 0, _, _, _ => none
  | k + 1, x56, x133000, x133001 => if x56 = true then (some false) else ((geom_Place.f k x133000 x133001 2 21).bind fun bt142 => ((geom_Place.f k x133000 x133001 3 0).bind fun bt144 => ((geom_Place.f k x133000 x133001 4 0).bind fun bt146 => ((geom_What.f k x133000 x133001 53).bind fun bt148 => ((geom_What.f k x133000 x133001 54).bind fun bt151 => (casematelaw14_GeomKnown.l0 k bt142.1 bt142.2 bt144.2 bt146.1 bt146.2 bt148.1 bt148.2.1 bt148.2.2 bt151.2.2 (([(⟨3, 1⟩ : S23), (⟨65, 1⟩ : S23), (⟨4, 0⟩ : S23), (⟨4, 65⟩ : S23)] : List (S23))) 0))))))
def casematelaw14_GeomKnown.l0 : Nat → Int → Int → Int → Int → Int → Int → Int → Int → Int → List (S23) → Int → Option (Bool)
  | 0, _, _, _, _, _, _, _, _, _, _, _ => none
  | k + 1, x3, x4, x6, x7, x8, x9, x10, x11, x14, x15, x16 => if x16 < (x15.length : Int) then (if 0 ≤ x16 then ((geom_Check.f ((rd_T23 x15 x16).f0) ((rd_T23 x15 x16).f1)).bind fun t158 => (if t158 = 2 then (casematelaw14_GeomKnown.l0 k x3 x4 x6 x7 x8 x9 x10 x11 x14 x15 (wrap64 (x16 + 1))) else (some false))) else (none)) else (if x3 = 29 then (if x4 = 0 then (if x6 = 2 then (if x7 = 53 then (if x8 = 0 then (if x9 = 4 then (if x10 = 0 then (if x11 = 0 then (if x14 = 2 then ((casematelaw14_works.f k).bind fun t159 => (some t159)) else (some false)) else (some false)) else (some false)) else (some false)) else (some false)) else (some false)) else (some false)) else (some false)) else (some false))
end
def casematelaw14_GeomKnown.f (k : Nat)  : Option (Bool) := (geom_Nodes.f k 4 1).bind fun t134 => (if t134 = 3 then ((geom_Logical.f 4 1).bind fun t135 => (if t135 = 2 then ((geom_Capacity.f k 4 1).bind fun t136 => (if t136 = 17 then ((geom_Leaves.f 5 3).bind fun t137 => (if t137 = 15 then ((geom_Height.f k 5 3).bind fun t138 => (if t138 = 4 then ((geom_Nodes.f k 5 3).bind fun t139 => (if t139 = 15 then ((geom_Capacity.f k 5 3).bind fun t140 => (if t140 = 29 then ((geom_Half.f k 5 3).bind fun t141 => (casematelaw14_GeomKnown.j0 k (t141 != 34) 4 1)) else (casematelaw14_GeomKnown.j0 k true 4 1))) else (casematelaw14_GeomKnown.j0 k true 4 1))) else (casematelaw14_GeomKnown.j0 k true 4 1))) else (casematelaw14_GeomKnown.j0 k true 4 1))) else (casematelaw14_GeomKnown.j0 k true 4 1))) else (casematelaw14_GeomKnown.j0 k true 4 1))) else (casematelaw14_GeomKnown.j0 k true 4 1))
theorem casematelaw14_GeomKnown.mono_l : ∀ k, (∀ y0 y1 y2, LeO (casematelaw14_GeomKnown.j0 k y0 y1 y2) (casematelaw14_GeomKnown.j0 (k + 1) y0 y1 y2)) ∧ (∀ y0 y1 y2 y3 y4 y5 y6 y7 y8 y9 y10, LeO (casematelaw14_GeomKnown.l0 k y0 y1 y2 y3 y4 y5 y6 y7 y8 y9 y10) (casematelaw14_GeomKnown.l0 (k + 1) y0 y1 y2 y3 y4 y5 y6 y7 y8 y9 y10))
  | 0 => ⟨fun _ _ _ r h => by simp [casematelaw14_GeomKnown.j0] at h, fun _ _ _ _ _ _ _ _ _ _ _ r h => by simp [casematelaw14_GeomKnown.l0] at h⟩
  | k + 1 => by
    obtain ⟨ih0, ih1⟩ := casematelaw14_GeomKnown.mono_l k
    refine ⟨?_, ?_⟩
    · intro y0 y1 y2
      unfold casematelaw14_GeomKnown.j0
      repeat' first
      | (with_reducible exact ih0 _ _ _)
      | (with_reducible exact ih1 _ _ _ _ _ _ _ _ _ _ _)
      | (with_reducible exact casematelaw14_works.mono _)
      | (with_reducible exact geom_Capacity.mono _ _ _)
      | (with_reducible exact geom_Half.mono _ _ _)
      | (with_reducible exact geom_Height.mono _ _ _)
      | (with_reducible exact geom_Nodes.mono _ _ _)
      | (with_reducible exact geom_Place.mono _ _ _ _ _)
      | (with_reducible exact geom_What.mono _ _ _ _)
      | (with_reducible exact LeO.refl _)
      | (with_reducible exact LeO.none _)
      | (with_reducible refine LeO.ite ?_ ?_)
      | (with_reducible refine LeO.bind ?_ (fun _ => ?_))
      | exact ih0 _ _ _
      | exact ih1 _ _ _ _ _ _ _ _ _ _ _
      | exact casematelaw14_works.mono _
      | exact geom_Capacity.mono _ _ _
      | exact geom_Half.mono _ _ _
      | exact geom_Height.mono _ _ _
      | exact geom_Nodes.mono _ _ _
      | exact geom_Place.mono _ _ _ _ _
      | exact geom_What.mono _ _ _ _
      | exact LeO.none _
      | refine LeO.ite ?_ ?_
      | refine LeO.bind ?_ (fun _ => ?_)
    · intro y0 y1 y2 y3 y4 y5 y6 y7 y8 y9 y10
      unfold casematelaw14_GeomKnown.l0
      repeat' first
      | (with_reducible exact ih0 _ _ _)
      | (with_reducible exact ih1 _ _ _ _ _ _ _ _ _ _ _)
      | (with_reducible exact casematelaw14_works.mono _)
      | (with_reducible exact geom_Capacity.mono _ _ _)
      | (with_reducible exact geom_Half.mono _ _ _)
      | (with_reducible exact geom_Height.mono _ _ _)
      | (with_reducible exact geom_Nodes.mono _ _ _)
      | (with_reducible exact geom_Place.mono _ _ _ _ _)
      | (with_reducible exact geom_What.mono _ _ _ _)
      | (with_reducible exact LeO.refl _)
      | (with_reducible exact LeO.none _)
      | (with_reducible refine LeO.ite ?_ ?_)
      | (with_reducible refine LeO.bind ?_ (fun _ => ?_))
      | exact ih0 _ _ _
      | exact ih1 _ _ _ _ _ _ _ _ _ _ _
      | exact casematelaw14_works.mono _
      | exact geom_Capacity.mono _ _ _
      | exact geom_Half.mono _ _ _
      | exact geom_Height.mono _ _ _
      | exact geom_Nodes.mono _ _ _
      | exact geom_Place.mono _ _ _ _ _
      | exact geom_What.mono _ _ _ _
      | exact LeO.none _
      | refine LeO.ite ?_ ?_
      | refine LeO.bind ?_ (fun _ => ?_)
theorem casematelaw14_GeomKnown.mono : ∀ k, LeO (casematelaw14_GeomKnown.f k ) (casematelaw14_GeomKnown.f (k + 1) ) := by
  intro  k
  obtain ⟨ih0, ih1⟩ := casematelaw14_GeomKnown.mono_l k
  unfold casematelaw14_GeomKnown.f
  repeat' first
      | (with_reducible exact ih0 _ _ _)
      | (with_reducible exact ih1 _ _ _ _ _ _ _ _ _ _ _)
      | (with_reducible exact casematelaw14_works.mono _)
      | (with_reducible exact geom_Capacity.mono _ _ _)
      | (with_reducible exact geom_Half.mono _ _ _)
      | (with_reducible exact geom_Height.mono _ _ _)
      | (with_reducible exact geom_Nodes.mono _ _ _)
      | (with_reducible exact geom_Place.mono _ _ _ _ _)
      | (with_reducible exact geom_What.mono _ _ _ _)
      | (with_reducible exact LeO.refl _)
      | (with_reducible exact LeO.none _)
      | (with_reducible refine LeO.ite ?_ ?_)
      | (with_reducible refine LeO.bind ?_ (fun _ => ?_))
      | exact ih0 _ _ _
      | exact ih1 _ _ _ _ _ _ _ _ _ _ _
      | exact casematelaw14_works.mono _
      | exact geom_Capacity.mono _ _ _
      | exact geom_Half.mono _ _ _
      | exact geom_Height.mono _ _ _
      | exact geom_Nodes.mono _ _ _
      | exact geom_Place.mono _ _ _ _ _
      | exact geom_What.mono _ _ _ _
      | exact LeO.none _
      | refine LeO.ite ?_ ?_
      | refine LeO.bind ?_ (fun _ => ?_)
set_option maxHeartbeats 8000000 in
set_option maxRecDepth 100000 in
theorem casematelaw14_GeomKnown.calls (k : Nat)  (r : Bool) (w : World) (h : casematelaw14_GeomKnown.f k  = some r) :
    Calls Try.prog 8 #[] w fun e w' => e = .returned (.bool r) ∧ Below w.heap.size w w' := by
  have hu23 := Try.underlying23
  have HB := Aside0.mk (Below.refl w.heap.size w)
  have H : ((geom_Nodes.f k 4 1).bind fun t134 => (if t134 = 3 then ((geom_Logical.f 4 1).bind fun t135 => (if t135 = 2 then ((geom_Capacity.f k 4 1).bind fun t136 => (if t136 = 17 then ((geom_Leaves.f 5 3).bind fun t137 => (if t137 = 15 then ((geom_Height.f k 5 3).bind fun t138 => (if t138 = 4 then ((geom_Nodes.f k 5 3).bind fun t139 => (if t139 = 15 then ((geom_Capacity.f k 5 3).bind fun t140 => (if t140 = 29 then ((geom_Half.f k 5 3).bind fun t141 => (casematelaw14_GeomKnown.j0 k (t141 != 34) 4 1)) else (casematelaw14_GeomKnown.j0 k true 4 1))) else (casematelaw14_GeomKnown.j0 k true 4 1))) else (casematelaw14_GeomKnown.j0 k true 4 1))) else (casematelaw14_GeomKnown.j0 k true 4 1))) else (casematelaw14_GeomKnown.j0 k true 4 1))) else (casematelaw14_GeomKnown.j0 k true 4 1))) else (casematelaw14_GeomKnown.j0 k true 4 1))) = some r := h
  clear h
  have HC1 := Aside0.mk H
  clear H
  go_enter Try.func8, Try.ntmps8
  go_upto_region 3 with (first | ((with_reducible refine gate_dst (N := 1) rfl ?_); refine box_event ?hg (N := 1) ?hd (cs := #[.int .i64 0, .int .i64 0]) (t := 23) ?hr ?_; (case hd => rfl); (case hg => rfl); (case hr => first | (go_simp; done) | (go_simp; rfl)); intro gb132 hg w2 hbox hb; have n0_ := Aside0.mk (below_step (by repeat (first | (with_reducible first | exact HB.out | apply below_alloc | apply pw_below_drewN | apply below_drew1) | exact HB.out)) hb); have n1_ := Aside0.mk (hbox); have n2_ := Aside0.mk ((by rw [hg]; exact (below_size (by repeat (first | (with_reducible first | exact HB.out | apply below_alloc | apply pw_below_drewN | apply below_drew1) | exact HB.out))) : w.heap.size ≤ gb132)); have n3_ := Aside0.mk ((by rw [hg]; exact (below_size (by repeat (first | (with_reducible first | exact HB.out | apply below_alloc | apply pw_below_drewN | apply below_drew1) | exact HB.out))) : w.heap.size ≤ gb132)); clear HB; have HB := n0_; have BK132 := n1_; have GW132 := n2_; have GE132 := n3_; clear n0_ n1_ n2_ n3_; clear hb hbox hg; have hcz3_0 : w2.cell? ⟨gb132, 0, none⟩ = some (.int .i64 0) := (blk_cell BK132.out 0).trans rfl; have hcz3_1 : w2.cell? ⟨gb132, 1, none⟩ = some (.int .i64 0) := (blk_cell BK132.out 1).trans rfl; have hfz3_0 := blk_frozen BK132.out 0; have hfz3_1 := blk_frozen BK132.out 1) | ((with_reducible refine gate_dst (N := 2) rfl ?_); refine box_event ?hg (N := 2) ?hd (cs := #[.int .i64 0, .int .i64 0]) (t := 23) ?hr ?_; (case hd => rfl); (case hg => rfl); (case hr => first | (go_simp; done) | (go_simp; rfl)); intro gb133 hg w4 hbox hb; have n0_ := Aside0.mk (blk_below (g := gb132) (o := .cells #[.int .i64 4, .int .i64 1] 23 (0, 0)) (by (with_reducible repeat (first | refine blk_drewN ?_ _ | refine blk_drew ?_ | refine blk_alloc ?_ _)); refine blk_put (cs := #[.int .i64 4, .int .i64 0]) ?_ 1 _ rfl; (with_reducible repeat (first | refine blk_drewN ?_ _ | refine blk_drew ?_ | refine blk_alloc ?_ _)); refine blk_put (cs := #[.int .i64 0, .int .i64 0]) ?_ 0 _ rfl; (with_reducible repeat (first | refine blk_drewN ?_ _ | refine blk_drew ?_ | refine blk_alloc ?_ _)); exact BK132.out) hb); have n1_ := Aside0.mk (below_step (by repeat (first | (with_reducible first | exact HB.out | apply below_alloc | apply pw_below_drewN | apply below_drew1 | refine below_set ?_ GE132.out) | exact HB.out)) hb); have n2_ := Aside0.mk (hbox); have n3_ := Aside0.mk ((by rw [hg]; exact (below_size (by repeat (first | (with_reducible first | exact HB.out | apply below_alloc | apply pw_below_drewN | apply below_drew1 | refine below_set ?_ GE132.out) | exact HB.out))) : w.heap.size ≤ gb133)); have n4_ := Aside0.mk ((by rw [hg]; exact (below_size (by repeat (first | (with_reducible first | exact HB.out | apply below_alloc | apply pw_below_drewN | apply below_drew1 | refine below_set ?_ GE132.out) | exact HB.out))) : w.heap.size ≤ gb133)); have n5_ := Aside0.mk ((by rw [hg]; exact Nat.ne_of_lt (blk_lt (g := gb132) (o := .cells #[.int .i64 4, .int .i64 1] 23 (0, 0)) (by (with_reducible repeat (first | refine blk_drewN ?_ _ | refine blk_drew ?_ | refine blk_alloc ?_ _)); refine blk_put (cs := #[.int .i64 4, .int .i64 0]) ?_ 1 _ rfl; (with_reducible repeat (first | refine blk_drewN ?_ _ | refine blk_drew ?_ | refine blk_alloc ?_ _)); refine blk_put (cs := #[.int .i64 0, .int .i64 0]) ?_ 0 _ rfl; (with_reducible repeat (first | refine blk_drewN ?_ _ | refine blk_drew ?_ | refine blk_alloc ?_ _)); exact BK132.out)) : gb132 ≠ gb133)); have n6_ := Aside0.mk ((by rw [hg]; exact Nat.ne_of_gt (blk_lt (g := gb132) (o := .cells #[.int .i64 4, .int .i64 1] 23 (0, 0)) (by (with_reducible repeat (first | refine blk_drewN ?_ _ | refine blk_drew ?_ | refine blk_alloc ?_ _)); refine blk_put (cs := #[.int .i64 4, .int .i64 0]) ?_ 1 _ rfl; (with_reducible repeat (first | refine blk_drewN ?_ _ | refine blk_drew ?_ | refine blk_alloc ?_ _)); refine blk_put (cs := #[.int .i64 0, .int .i64 0]) ?_ 0 _ rfl; (with_reducible repeat (first | refine blk_drewN ?_ _ | refine blk_drew ?_ | refine blk_alloc ?_ _)); exact BK132.out)) : gb133 ≠ gb132)); clear BK132; clear HB; have BK132 := n0_; have HB := n1_; have BK133 := n2_; have GW133 := n3_; have GE133 := n4_; have NB132_133 := n5_; have NB133_132 := n6_; clear n0_ n1_ n2_ n3_ n4_ n5_ n6_; clear hb hbox hg; have hnb5 := NB133_132.out; have hnc5 := NB132_133.out; have hcz6_0 : w4.cell? ⟨gb133, 0, none⟩ = some (.int .i64 0) := (blk_cell BK133.out 0).trans rfl; have hcz6_1 : w4.cell? ⟨gb133, 1, none⟩ = some (.int .i64 0) := (blk_cell BK133.out 1).trans rfl; have hfz6_0 := blk_frozen BK133.out 0; have hfz6_1 := blk_frozen BK133.out 1))
  (try simp only [Act.put, List.setIfInBounds_toArray, List.set_cons_zero, List.set_cons_succ])
  go_cut [56] (fun v56 wc => ∃ (kq : Nat) (x56_0 : Bool), v56 = .bool x56_0 ∧ Aside0 (casematelaw14_GeomKnown.j0 kq x56_0 4 1 = some r) ∧ Aside0 (kq ≤ k) ∧ Aside0 (wc.heap[gb132]? = some (.cells #[.int .i64 4, .int .i64 1] 23 (0, 0))) ∧ Aside0 (wc.heap[gb133]? = some (.cells #[.int .i64 5, .int .i64 3] 23 (0, 0))) ∧ Aside0 (Below w.heap.size w wc))
  case first =>
    have H := HC1.out
    clear HC1
    replace H := Option.bind_eq_some_iff.mp H
    obtain ⟨t134, A70, H⟩ := H
    replace H : (if t134 = 3 then ((geom_Logical.f 4 1).bind fun t135 => (if t135 = 2 then ((geom_Capacity.f k 4 1).bind fun t136 => (if t136 = 17 then ((geom_Leaves.f 5 3).bind fun t137 => (if t137 = 15 then ((geom_Height.f k 5 3).bind fun t138 => (if t138 = 4 then ((geom_Nodes.f k 5 3).bind fun t139 => (if t139 = 15 then ((geom_Capacity.f k 5 3).bind fun t140 => (if t140 = 29 then ((geom_Half.f k 5 3).bind fun t141 => (casematelaw14_GeomKnown.j0 k (t141 != 34) 4 1)) else (casematelaw14_GeomKnown.j0 k true 4 1))) else (casematelaw14_GeomKnown.j0 k true 4 1))) else (casematelaw14_GeomKnown.j0 k true 4 1))) else (casematelaw14_GeomKnown.j0 k true 4 1))) else (casematelaw14_GeomKnown.j0 k true 4 1))) else (casematelaw14_GeomKnown.j0 k true 4 1))) else (casematelaw14_GeomKnown.j0 k true 4 1)) = some r := H
    have A7 := Aside0.mk A70
    clear A70
    by_cases c8 : t134 = 3
    · rw [if_pos c8] at H
      have c8b0 : (t134 == 3) = true := beq_iff_eq.mpr c8
      have c8b1 : (t134 != 3) = false := bne_eq_false_iff_eq.mpr c8
      clear c8
      (first | rw [c8b0] | (simp only [i64_w, i32_w]; rw [c8b0]) | skip)
      replace H := Option.bind_eq_some_iff.mp H
      obtain ⟨t135, A90, H⟩ := H
      replace H : (if t135 = 2 then ((geom_Capacity.f k 4 1).bind fun t136 => (if t136 = 17 then ((geom_Leaves.f 5 3).bind fun t137 => (if t137 = 15 then ((geom_Height.f k 5 3).bind fun t138 => (if t138 = 4 then ((geom_Nodes.f k 5 3).bind fun t139 => (if t139 = 15 then ((geom_Capacity.f k 5 3).bind fun t140 => (if t140 = 29 then ((geom_Half.f k 5 3).bind fun t141 => (casematelaw14_GeomKnown.j0 k (t141 != 34) 4 1)) else (casematelaw14_GeomKnown.j0 k true 4 1))) else (casematelaw14_GeomKnown.j0 k true 4 1))) else (casematelaw14_GeomKnown.j0 k true 4 1))) else (casematelaw14_GeomKnown.j0 k true 4 1))) else (casematelaw14_GeomKnown.j0 k true 4 1))) else (casematelaw14_GeomKnown.j0 k true 4 1)) = some r := H
      have A9 := Aside0.mk A90
      clear A90
      by_cases c10 : t135 = 2
      · rw [if_pos c10] at H
        have c10b0 : (t135 == 2) = true := beq_iff_eq.mpr c10
        have c10b1 : (t135 != 2) = false := bne_eq_false_iff_eq.mpr c10
        clear c10
        replace H := Option.bind_eq_some_iff.mp H
        obtain ⟨t136, A110, H⟩ := H
        replace H : (if t136 = 17 then ((geom_Leaves.f 5 3).bind fun t137 => (if t137 = 15 then ((geom_Height.f k 5 3).bind fun t138 => (if t138 = 4 then ((geom_Nodes.f k 5 3).bind fun t139 => (if t139 = 15 then ((geom_Capacity.f k 5 3).bind fun t140 => (if t140 = 29 then ((geom_Half.f k 5 3).bind fun t141 => (casematelaw14_GeomKnown.j0 k (t141 != 34) 4 1)) else (casematelaw14_GeomKnown.j0 k true 4 1))) else (casematelaw14_GeomKnown.j0 k true 4 1))) else (casematelaw14_GeomKnown.j0 k true 4 1))) else (casematelaw14_GeomKnown.j0 k true 4 1))) else (casematelaw14_GeomKnown.j0 k true 4 1)) = some r := H
        have A11 := Aside0.mk A110
        clear A110
        by_cases c12 : t136 = 17
        · rw [if_pos c12] at H
          have c12b0 : (t136 == 17) = true := beq_iff_eq.mpr c12
          have c12b1 : (t136 != 17) = false := bne_eq_false_iff_eq.mpr c12
          clear c12
          replace H := Option.bind_eq_some_iff.mp H
          obtain ⟨t137, A130, H⟩ := H
          replace H : (if t137 = 15 then ((geom_Height.f k 5 3).bind fun t138 => (if t138 = 4 then ((geom_Nodes.f k 5 3).bind fun t139 => (if t139 = 15 then ((geom_Capacity.f k 5 3).bind fun t140 => (if t140 = 29 then ((geom_Half.f k 5 3).bind fun t141 => (casematelaw14_GeomKnown.j0 k (t141 != 34) 4 1)) else (casematelaw14_GeomKnown.j0 k true 4 1))) else (casematelaw14_GeomKnown.j0 k true 4 1))) else (casematelaw14_GeomKnown.j0 k true 4 1))) else (casematelaw14_GeomKnown.j0 k true 4 1)) = some r := H
          have A13 := Aside0.mk A130
          clear A130
          by_cases c14 : t137 = 15
          · rw [if_pos c14] at H
            have c14b0 : (t137 == 15) = true := beq_iff_eq.mpr c14
            have c14b1 : (t137 != 15) = false := bne_eq_false_iff_eq.mpr c14
            clear c14
            replace H := Option.bind_eq_some_iff.mp H
            obtain ⟨t138, A150, H⟩ := H
            replace H : (if t138 = 4 then ((geom_Nodes.f k 5 3).bind fun t139 => (if t139 = 15 then ((geom_Capacity.f k 5 3).bind fun t140 => (if t140 = 29 then ((geom_Half.f k 5 3).bind fun t141 => (casematelaw14_GeomKnown.j0 k (t141 != 34) 4 1)) else (casematelaw14_GeomKnown.j0 k true 4 1))) else (casematelaw14_GeomKnown.j0 k true 4 1))) else (casematelaw14_GeomKnown.j0 k true 4 1)) = some r := H
            have A15 := Aside0.mk A150
            clear A150
            by_cases c16 : t138 = 4
            · rw [if_pos c16] at H
              have c16b0 : (t138 == 4) = true := beq_iff_eq.mpr c16
              have c16b1 : (t138 != 4) = false := bne_eq_false_iff_eq.mpr c16
              clear c16
              replace H := Option.bind_eq_some_iff.mp H
              obtain ⟨t139, A170, H⟩ := H
              replace H : (if t139 = 15 then ((geom_Capacity.f k 5 3).bind fun t140 => (if t140 = 29 then ((geom_Half.f k 5 3).bind fun t141 => (casematelaw14_GeomKnown.j0 k (t141 != 34) 4 1)) else (casematelaw14_GeomKnown.j0 k true 4 1))) else (casematelaw14_GeomKnown.j0 k true 4 1)) = some r := H
              have A17 := Aside0.mk A170
              clear A170
              by_cases c18 : t139 = 15
              · rw [if_pos c18] at H
                have c18b0 : (t139 == 15) = true := beq_iff_eq.mpr c18
                have c18b1 : (t139 != 15) = false := bne_eq_false_iff_eq.mpr c18
                clear c18
                replace H := Option.bind_eq_some_iff.mp H
                obtain ⟨t140, A190, H⟩ := H
                replace H : (if t140 = 29 then ((geom_Half.f k 5 3).bind fun t141 => (casematelaw14_GeomKnown.j0 k (t141 != 34) 4 1)) else (casematelaw14_GeomKnown.j0 k true 4 1)) = some r := H
                have A19 := Aside0.mk A190
                clear A190
                by_cases c20 : t140 = 29
                · rw [if_pos c20] at H
                  have c20b0 : (t140 == 29) = true := beq_iff_eq.mpr c20
                  have c20b1 : (t140 != 29) = false := bne_eq_false_iff_eq.mpr c20
                  clear c20
                  replace H := Option.bind_eq_some_iff.mp H
                  obtain ⟨t141, A210, H⟩ := H
                  replace H : (casematelaw14_GeomKnown.j0 k (t141 != 34) 4 1) = some r := H
                  have A21 := Aside0.mk A210
                  clear A210
                  have H' := Aside0.mk H
                  clear H
                  have hnb22 := NB132_133.out
                  have hnc22 := NB133_132.out
                  have hcz23_0 : w4.cell? ⟨gb132, 0, none⟩ = some (.int .i64 4) := (blk_cell BK132.out 0).trans rfl
                  have hcz23_1 : w4.cell? ⟨gb132, 1, none⟩ = some (.int .i64 1) := (blk_cell BK132.out 1).trans rfl
                  have hfz23_0 := blk_frozen BK132.out 0
                  have hfz23_1 := blk_frozen BK132.out 1
                  go_wp2_with (first | ((with_reducible refine gate_callee (f := 15) rfl ?_); refine goesL_ (some 20) rfl rfl Try.func15 (by kernel_rfl) rfl #[.agg #[.int .i64 4, .int .i64 1]] rfl (by (try simp only [List.map_toArray, List.map_cons, List.map_nil]); first | done | rfl | (simp only [List.length_drop, List.length_take]; rfl)) ?_; (with_reducible refine (geom_Nodes.calls k 4 1 t134 _ A7.out).mono ?_); rintro e w24 ⟨rfl, hb⟩; refine ⟨_, rfl, ?_⟩; have n0_ := Aside0.mk (blk_below (g := gb132) (o := .cells #[.int .i64 4, .int .i64 1] 23 (0, 0)) (by (with_reducible repeat (first | refine blk_drewN ?_ _ | refine blk_drew ?_ | refine blk_alloc ?_ _)); refine blk_far ?_ NB132_133.out _; (with_reducible repeat (first | refine blk_drewN ?_ _ | refine blk_drew ?_ | refine blk_alloc ?_ _)); refine blk_far ?_ NB132_133.out _; (with_reducible repeat (first | refine blk_drewN ?_ _ | refine blk_drew ?_ | refine blk_alloc ?_ _)); exact BK132.out) hb); have n1_ := Aside0.mk (blk_below (g := gb133) (o := .cells #[.int .i64 5, .int .i64 3] 23 (0, 0)) (by (with_reducible repeat (first | refine blk_drewN ?_ _ | refine blk_drew ?_ | refine blk_alloc ?_ _)); refine blk_put (cs := #[.int .i64 5, .int .i64 0]) ?_ 1 _ rfl; (with_reducible repeat (first | refine blk_drewN ?_ _ | refine blk_drew ?_ | refine blk_alloc ?_ _)); refine blk_put (cs := #[.int .i64 0, .int .i64 0]) ?_ 0 _ rfl; (with_reducible repeat (first | refine blk_drewN ?_ _ | refine blk_drew ?_ | refine blk_alloc ?_ _)); exact BK133.out) hb); have n2_ := Aside0.mk (below_step (by repeat (first | (with_reducible first | exact HB.out | apply below_alloc | apply pw_below_drewN | apply below_drew1 | refine below_set ?_ GE132.out | refine below_set ?_ GE133.out) | exact HB.out)) hb); clear BK132; clear BK133; clear HB; have BK132 := n0_; have BK133 := n1_; have HB := n2_; clear n0_ n1_ n2_; (try clear hb); (try clear hb2); (try clear hk); (try clear hi); have hcz25_0 : w24.cell? ⟨gb132, 0, none⟩ = some (.int .i64 4) := (blk_cell BK132.out 0).trans rfl; have hcz25_1 : w24.cell? ⟨gb132, 1, none⟩ = some (.int .i64 1) := (blk_cell BK132.out 1).trans rfl; have hfz25_0 := blk_frozen BK132.out 0; have hfz25_1 := blk_frozen BK132.out 1) | (go_at_call 17; (with_reducible refine (geom_Logical.calls 4 1 t135 _ A9.out).mono ?_); rintro e w26 ⟨rfl, hb⟩; have n0_ := Aside0.mk (blk_below (g := gb132) (o := .cells #[.int .i64 4, .int .i64 1] 23 (0, 0)) (by (with_reducible repeat (first | refine blk_drewN ?_ _ | refine blk_drew ?_ | refine blk_alloc ?_ _)); exact BK132.out) hb); have n1_ := Aside0.mk (blk_below (g := gb133) (o := .cells #[.int .i64 5, .int .i64 3] 23 (0, 0)) (by (with_reducible repeat (first | refine blk_drewN ?_ _ | refine blk_drew ?_ | refine blk_alloc ?_ _)); exact BK133.out) hb); have n2_ := Aside0.mk (below_step (by repeat (first | (with_reducible first | exact HB.out | apply below_alloc | apply pw_below_drewN | apply below_drew1 | refine below_set ?_ GE132.out | refine below_set ?_ GE133.out) | exact HB.out)) hb); clear BK132; clear BK133; clear HB; have BK132 := n0_; have BK133 := n1_; have HB := n2_; clear n0_ n1_ n2_; (try clear hb); (try clear hb2); (try clear hk); (try clear hi); have hcz27_0 : w26.cell? ⟨gb132, 0, none⟩ = some (.int .i64 4) := (blk_cell BK132.out 0).trans rfl; have hcz27_1 : w26.cell? ⟨gb132, 1, none⟩ = some (.int .i64 1) := (blk_cell BK132.out 1).trans rfl; have hfz27_0 := blk_frozen BK132.out 0; have hfz27_1 := blk_frozen BK132.out 1) | (go_at_call 19; (with_reducible refine (geom_Capacity.calls k 4 1 t136 _ A11.out).mono ?_); rintro e w28 ⟨rfl, hb⟩; have n0_ := Aside0.mk (blk_below (g := gb132) (o := .cells #[.int .i64 4, .int .i64 1] 23 (0, 0)) (by (with_reducible repeat (first | refine blk_drewN ?_ _ | refine blk_drew ?_ | refine blk_alloc ?_ _)); exact BK132.out) hb); have n1_ := Aside0.mk (blk_below (g := gb133) (o := .cells #[.int .i64 5, .int .i64 3] 23 (0, 0)) (by (with_reducible repeat (first | refine blk_drewN ?_ _ | refine blk_drew ?_ | refine blk_alloc ?_ _)); exact BK133.out) hb); have n2_ := Aside0.mk (below_step (by repeat (first | (with_reducible first | exact HB.out | apply below_alloc | apply pw_below_drewN | apply below_drew1 | refine below_set ?_ GE132.out | refine below_set ?_ GE133.out) | exact HB.out)) hb); clear BK132; clear BK133; clear HB; have BK132 := n0_; have BK133 := n1_; have HB := n2_; clear n0_ n1_ n2_; (try clear hb); (try clear hb2); (try clear hk); (try clear hi); have hcz29_0 : w28.cell? ⟨gb133, 0, none⟩ = some (.int .i64 5) := (blk_cell BK133.out 0).trans rfl; have hcz29_1 : w28.cell? ⟨gb133, 1, none⟩ = some (.int .i64 3) := (blk_cell BK133.out 1).trans rfl; have hfz29_0 := blk_frozen BK133.out 0; have hfz29_1 := blk_frozen BK133.out 1) | (go_at_call 11; (with_reducible refine (geom_Leaves.calls 5 3 t137 _ A13.out).mono ?_); rintro e w30 ⟨rfl, hb⟩; have n0_ := Aside0.mk (blk_below (g := gb132) (o := .cells #[.int .i64 4, .int .i64 1] 23 (0, 0)) (by (with_reducible repeat (first | refine blk_drewN ?_ _ | refine blk_drew ?_ | refine blk_alloc ?_ _)); exact BK132.out) hb); have n1_ := Aside0.mk (blk_below (g := gb133) (o := .cells #[.int .i64 5, .int .i64 3] 23 (0, 0)) (by (with_reducible repeat (first | refine blk_drewN ?_ _ | refine blk_drew ?_ | refine blk_alloc ?_ _)); exact BK133.out) hb); have n2_ := Aside0.mk (below_step (by repeat (first | (with_reducible first | exact HB.out | apply below_alloc | apply pw_below_drewN | apply below_drew1 | refine below_set ?_ GE132.out | refine below_set ?_ GE133.out) | exact HB.out)) hb); clear BK132; clear BK133; clear HB; have BK132 := n0_; have BK133 := n1_; have HB := n2_; clear n0_ n1_ n2_; (try clear hb); (try clear hb2); (try clear hk); (try clear hi); have hcz31_0 : w30.cell? ⟨gb133, 0, none⟩ = some (.int .i64 5) := (blk_cell BK133.out 0).trans rfl; have hcz31_1 : w30.cell? ⟨gb133, 1, none⟩ = some (.int .i64 3) := (blk_cell BK133.out 1).trans rfl; have hfz31_0 := blk_frozen BK133.out 0; have hfz31_1 := blk_frozen BK133.out 1) | (go_at_call 13; (with_reducible refine (geom_Height.calls k 5 3 t138 _ A15.out).mono ?_); rintro e w32 ⟨rfl, hb⟩; have n0_ := Aside0.mk (blk_below (g := gb132) (o := .cells #[.int .i64 4, .int .i64 1] 23 (0, 0)) (by (with_reducible repeat (first | refine blk_drewN ?_ _ | refine blk_drew ?_ | refine blk_alloc ?_ _)); exact BK132.out) hb); have n1_ := Aside0.mk (blk_below (g := gb133) (o := .cells #[.int .i64 5, .int .i64 3] 23 (0, 0)) (by (with_reducible repeat (first | refine blk_drewN ?_ _ | refine blk_drew ?_ | refine blk_alloc ?_ _)); exact BK133.out) hb); have n2_ := Aside0.mk (below_step (by repeat (first | (with_reducible first | exact HB.out | apply below_alloc | apply pw_below_drewN | apply below_drew1 | refine below_set ?_ GE132.out | refine below_set ?_ GE133.out) | exact HB.out)) hb); clear BK132; clear BK133; clear HB; have BK132 := n0_; have BK133 := n1_; have HB := n2_; clear n0_ n1_ n2_; (try clear hb); (try clear hb2); (try clear hk); (try clear hi); have hcz33_0 : w32.cell? ⟨gb133, 0, none⟩ = some (.int .i64 5) := (blk_cell BK133.out 0).trans rfl; have hcz33_1 : w32.cell? ⟨gb133, 1, none⟩ = some (.int .i64 3) := (blk_cell BK133.out 1).trans rfl; have hfz33_0 := blk_frozen BK133.out 0; have hfz33_1 := blk_frozen BK133.out 1) | (go_at_call 15; (with_reducible refine (geom_Nodes.calls k 5 3 t139 _ A17.out).mono ?_); rintro e w34 ⟨rfl, hb⟩; have n0_ := Aside0.mk (blk_below (g := gb132) (o := .cells #[.int .i64 4, .int .i64 1] 23 (0, 0)) (by (with_reducible repeat (first | refine blk_drewN ?_ _ | refine blk_drew ?_ | refine blk_alloc ?_ _)); exact BK132.out) hb); have n1_ := Aside0.mk (blk_below (g := gb133) (o := .cells #[.int .i64 5, .int .i64 3] 23 (0, 0)) (by (with_reducible repeat (first | refine blk_drewN ?_ _ | refine blk_drew ?_ | refine blk_alloc ?_ _)); exact BK133.out) hb); have n2_ := Aside0.mk (below_step (by repeat (first | (with_reducible first | exact HB.out | apply below_alloc | apply pw_below_drewN | apply below_drew1 | refine below_set ?_ GE132.out | refine below_set ?_ GE133.out) | exact HB.out)) hb); clear BK132; clear BK133; clear HB; have BK132 := n0_; have BK133 := n1_; have HB := n2_; clear n0_ n1_ n2_; (try clear hb); (try clear hb2); (try clear hk); (try clear hi); have hcz35_0 : w34.cell? ⟨gb133, 0, none⟩ = some (.int .i64 5) := (blk_cell BK133.out 0).trans rfl; have hcz35_1 : w34.cell? ⟨gb133, 1, none⟩ = some (.int .i64 3) := (blk_cell BK133.out 1).trans rfl; have hfz35_0 := blk_frozen BK133.out 0; have hfz35_1 := blk_frozen BK133.out 1) | (go_at_call 19; (with_reducible refine (geom_Capacity.calls k 5 3 t140 _ A19.out).mono ?_); rintro e w36 ⟨rfl, hb⟩; have n0_ := Aside0.mk (blk_below (g := gb132) (o := .cells #[.int .i64 4, .int .i64 1] 23 (0, 0)) (by (with_reducible repeat (first | refine blk_drewN ?_ _ | refine blk_drew ?_ | refine blk_alloc ?_ _)); exact BK132.out) hb); have n1_ := Aside0.mk (blk_below (g := gb133) (o := .cells #[.int .i64 5, .int .i64 3] 23 (0, 0)) (by (with_reducible repeat (first | refine blk_drewN ?_ _ | refine blk_drew ?_ | refine blk_alloc ?_ _)); exact BK133.out) hb); have n2_ := Aside0.mk (below_step (by repeat (first | (with_reducible first | exact HB.out | apply below_alloc | apply pw_below_drewN | apply below_drew1 | refine below_set ?_ GE132.out | refine below_set ?_ GE133.out) | exact HB.out)) hb); clear BK132; clear BK133; clear HB; have BK132 := n0_; have BK133 := n1_; have HB := n2_; clear n0_ n1_ n2_; (try clear hb); (try clear hb2); (try clear hk); (try clear hi); have hcz37_0 : w36.cell? ⟨gb133, 0, none⟩ = some (.int .i64 5) := (blk_cell BK133.out 0).trans rfl; have hcz37_1 : w36.cell? ⟨gb133, 1, none⟩ = some (.int .i64 3) := (blk_cell BK133.out 1).trans rfl; have hfz37_0 := blk_frozen BK133.out 0; have hfz37_1 := blk_frozen BK133.out 1) | (go_at_call 21; (with_reducible refine (geom_Half.calls k 5 3 t141 _ A21.out).mono ?_); rintro e w38 ⟨rfl, hb⟩; have n0_ := Aside0.mk (blk_below (g := gb132) (o := .cells #[.int .i64 4, .int .i64 1] 23 (0, 0)) (by (with_reducible repeat (first | refine blk_drewN ?_ _ | refine blk_drew ?_ | refine blk_alloc ?_ _)); exact BK132.out) hb); have n1_ := Aside0.mk (blk_below (g := gb133) (o := .cells #[.int .i64 5, .int .i64 3] 23 (0, 0)) (by (with_reducible repeat (first | refine blk_drewN ?_ _ | refine blk_drew ?_ | refine blk_alloc ?_ _)); exact BK133.out) hb); have n2_ := Aside0.mk (below_step (by repeat (first | (with_reducible first | exact HB.out | apply below_alloc | apply pw_below_drewN | apply below_drew1 | refine below_set ?_ GE132.out | refine below_set ?_ GE133.out) | exact HB.out)) hb); clear BK132; clear BK133; clear HB; have BK132 := n0_; have BK133 := n1_; have HB := n2_; clear n0_ n1_ n2_; (try clear hb); (try clear hb2); (try clear hk); (try clear hi)))
                  go_meet
                  case rel => exact ⟨_, ((t141 != 34)), (by first | rfl | (simp; done) | (simp [*]; done)), H', ⟨by first | omega | exact Nat.le_refl _⟩, ⟨by (with_reducible repeat (first | refine blk_drewN ?_ _ | refine blk_drew ?_ | refine blk_alloc ?_ _)); exact BK132.out⟩, ⟨by (with_reducible repeat (first | refine blk_drewN ?_ _ | refine blk_drew ?_ | refine blk_alloc ?_ _)); exact BK133.out⟩, ⟨by repeat (first | (with_reducible first | exact HB.out | apply below_alloc | apply pw_below_drewN | apply below_drew1 | refine below_set ?_ GE132.out | refine below_set ?_ GE133.out) | exact HB.out)⟩⟩
                · rw [if_neg c20] at H
                  have c20b0 : (t140 == 29) = false := beq_eq_false_iff_ne.mpr c20
                  have c20b1 : (t140 != 29) = true := bne_iff_ne.mpr c20
                  have H' := Aside0.mk H
                  clear H
                  have hnb39 := NB132_133.out
                  have hnc39 := NB133_132.out
                  have hcz40_0 : w4.cell? ⟨gb132, 0, none⟩ = some (.int .i64 4) := (blk_cell BK132.out 0).trans rfl
                  have hcz40_1 : w4.cell? ⟨gb132, 1, none⟩ = some (.int .i64 1) := (blk_cell BK132.out 1).trans rfl
                  have hfz40_0 := blk_frozen BK132.out 0
                  have hfz40_1 := blk_frozen BK132.out 1
                  go_wp2_with (first | ((with_reducible refine gate_callee (f := 15) rfl ?_); refine goesL_ (some 20) rfl rfl Try.func15 (by kernel_rfl) rfl #[.agg #[.int .i64 4, .int .i64 1]] rfl (by (try simp only [List.map_toArray, List.map_cons, List.map_nil]); first | done | rfl | (simp only [List.length_drop, List.length_take]; rfl)) ?_; (with_reducible refine (geom_Nodes.calls k 4 1 t134 _ A7.out).mono ?_); rintro e w41 ⟨rfl, hb⟩; refine ⟨_, rfl, ?_⟩; have n0_ := Aside0.mk (blk_below (g := gb132) (o := .cells #[.int .i64 4, .int .i64 1] 23 (0, 0)) (by (with_reducible repeat (first | refine blk_drewN ?_ _ | refine blk_drew ?_ | refine blk_alloc ?_ _)); refine blk_far ?_ NB132_133.out _; (with_reducible repeat (first | refine blk_drewN ?_ _ | refine blk_drew ?_ | refine blk_alloc ?_ _)); refine blk_far ?_ NB132_133.out _; (with_reducible repeat (first | refine blk_drewN ?_ _ | refine blk_drew ?_ | refine blk_alloc ?_ _)); exact BK132.out) hb); have n1_ := Aside0.mk (blk_below (g := gb133) (o := .cells #[.int .i64 5, .int .i64 3] 23 (0, 0)) (by (with_reducible repeat (first | refine blk_drewN ?_ _ | refine blk_drew ?_ | refine blk_alloc ?_ _)); refine blk_put (cs := #[.int .i64 5, .int .i64 0]) ?_ 1 _ rfl; (with_reducible repeat (first | refine blk_drewN ?_ _ | refine blk_drew ?_ | refine blk_alloc ?_ _)); refine blk_put (cs := #[.int .i64 0, .int .i64 0]) ?_ 0 _ rfl; (with_reducible repeat (first | refine blk_drewN ?_ _ | refine blk_drew ?_ | refine blk_alloc ?_ _)); exact BK133.out) hb); have n2_ := Aside0.mk (below_step (by repeat (first | (with_reducible first | exact HB.out | apply below_alloc | apply pw_below_drewN | apply below_drew1 | refine below_set ?_ GE132.out | refine below_set ?_ GE133.out) | exact HB.out)) hb); clear BK132; clear BK133; clear HB; have BK132 := n0_; have BK133 := n1_; have HB := n2_; clear n0_ n1_ n2_; (try clear hb); (try clear hb2); (try clear hk); (try clear hi); have hcz42_0 : w41.cell? ⟨gb132, 0, none⟩ = some (.int .i64 4) := (blk_cell BK132.out 0).trans rfl; have hcz42_1 : w41.cell? ⟨gb132, 1, none⟩ = some (.int .i64 1) := (blk_cell BK132.out 1).trans rfl; have hfz42_0 := blk_frozen BK132.out 0; have hfz42_1 := blk_frozen BK132.out 1) | (go_at_call 17; (with_reducible refine (geom_Logical.calls 4 1 t135 _ A9.out).mono ?_); rintro e w43 ⟨rfl, hb⟩; have n0_ := Aside0.mk (blk_below (g := gb132) (o := .cells #[.int .i64 4, .int .i64 1] 23 (0, 0)) (by (with_reducible repeat (first | refine blk_drewN ?_ _ | refine blk_drew ?_ | refine blk_alloc ?_ _)); exact BK132.out) hb); have n1_ := Aside0.mk (blk_below (g := gb133) (o := .cells #[.int .i64 5, .int .i64 3] 23 (0, 0)) (by (with_reducible repeat (first | refine blk_drewN ?_ _ | refine blk_drew ?_ | refine blk_alloc ?_ _)); exact BK133.out) hb); have n2_ := Aside0.mk (below_step (by repeat (first | (with_reducible first | exact HB.out | apply below_alloc | apply pw_below_drewN | apply below_drew1 | refine below_set ?_ GE132.out | refine below_set ?_ GE133.out) | exact HB.out)) hb); clear BK132; clear BK133; clear HB; have BK132 := n0_; have BK133 := n1_; have HB := n2_; clear n0_ n1_ n2_; (try clear hb); (try clear hb2); (try clear hk); (try clear hi); have hcz44_0 : w43.cell? ⟨gb132, 0, none⟩ = some (.int .i64 4) := (blk_cell BK132.out 0).trans rfl; have hcz44_1 : w43.cell? ⟨gb132, 1, none⟩ = some (.int .i64 1) := (blk_cell BK132.out 1).trans rfl; have hfz44_0 := blk_frozen BK132.out 0; have hfz44_1 := blk_frozen BK132.out 1) | (go_at_call 19; (with_reducible refine (geom_Capacity.calls k 4 1 t136 _ A11.out).mono ?_); rintro e w45 ⟨rfl, hb⟩; have n0_ := Aside0.mk (blk_below (g := gb132) (o := .cells #[.int .i64 4, .int .i64 1] 23 (0, 0)) (by (with_reducible repeat (first | refine blk_drewN ?_ _ | refine blk_drew ?_ | refine blk_alloc ?_ _)); exact BK132.out) hb); have n1_ := Aside0.mk (blk_below (g := gb133) (o := .cells #[.int .i64 5, .int .i64 3] 23 (0, 0)) (by (with_reducible repeat (first | refine blk_drewN ?_ _ | refine blk_drew ?_ | refine blk_alloc ?_ _)); exact BK133.out) hb); have n2_ := Aside0.mk (below_step (by repeat (first | (with_reducible first | exact HB.out | apply below_alloc | apply pw_below_drewN | apply below_drew1 | refine below_set ?_ GE132.out | refine below_set ?_ GE133.out) | exact HB.out)) hb); clear BK132; clear BK133; clear HB; have BK132 := n0_; have BK133 := n1_; have HB := n2_; clear n0_ n1_ n2_; (try clear hb); (try clear hb2); (try clear hk); (try clear hi); have hcz46_0 : w45.cell? ⟨gb133, 0, none⟩ = some (.int .i64 5) := (blk_cell BK133.out 0).trans rfl; have hcz46_1 : w45.cell? ⟨gb133, 1, none⟩ = some (.int .i64 3) := (blk_cell BK133.out 1).trans rfl; have hfz46_0 := blk_frozen BK133.out 0; have hfz46_1 := blk_frozen BK133.out 1) | (go_at_call 11; (with_reducible refine (geom_Leaves.calls 5 3 t137 _ A13.out).mono ?_); rintro e w47 ⟨rfl, hb⟩; have n0_ := Aside0.mk (blk_below (g := gb132) (o := .cells #[.int .i64 4, .int .i64 1] 23 (0, 0)) (by (with_reducible repeat (first | refine blk_drewN ?_ _ | refine blk_drew ?_ | refine blk_alloc ?_ _)); exact BK132.out) hb); have n1_ := Aside0.mk (blk_below (g := gb133) (o := .cells #[.int .i64 5, .int .i64 3] 23 (0, 0)) (by (with_reducible repeat (first | refine blk_drewN ?_ _ | refine blk_drew ?_ | refine blk_alloc ?_ _)); exact BK133.out) hb); have n2_ := Aside0.mk (below_step (by repeat (first | (with_reducible first | exact HB.out | apply below_alloc | apply pw_below_drewN | apply below_drew1 | refine below_set ?_ GE132.out | refine below_set ?_ GE133.out) | exact HB.out)) hb); clear BK132; clear BK133; clear HB; have BK132 := n0_; have BK133 := n1_; have HB := n2_; clear n0_ n1_ n2_; (try clear hb); (try clear hb2); (try clear hk); (try clear hi); have hcz48_0 : w47.cell? ⟨gb133, 0, none⟩ = some (.int .i64 5) := (blk_cell BK133.out 0).trans rfl; have hcz48_1 : w47.cell? ⟨gb133, 1, none⟩ = some (.int .i64 3) := (blk_cell BK133.out 1).trans rfl; have hfz48_0 := blk_frozen BK133.out 0; have hfz48_1 := blk_frozen BK133.out 1) | (go_at_call 13; (with_reducible refine (geom_Height.calls k 5 3 t138 _ A15.out).mono ?_); rintro e w49 ⟨rfl, hb⟩; have n0_ := Aside0.mk (blk_below (g := gb132) (o := .cells #[.int .i64 4, .int .i64 1] 23 (0, 0)) (by (with_reducible repeat (first | refine blk_drewN ?_ _ | refine blk_drew ?_ | refine blk_alloc ?_ _)); exact BK132.out) hb); have n1_ := Aside0.mk (blk_below (g := gb133) (o := .cells #[.int .i64 5, .int .i64 3] 23 (0, 0)) (by (with_reducible repeat (first | refine blk_drewN ?_ _ | refine blk_drew ?_ | refine blk_alloc ?_ _)); exact BK133.out) hb); have n2_ := Aside0.mk (below_step (by repeat (first | (with_reducible first | exact HB.out | apply below_alloc | apply pw_below_drewN | apply below_drew1 | refine below_set ?_ GE132.out | refine below_set ?_ GE133.out) | exact HB.out)) hb); clear BK132; clear BK133; clear HB; have BK132 := n0_; have BK133 := n1_; have HB := n2_; clear n0_ n1_ n2_; (try clear hb); (try clear hb2); (try clear hk); (try clear hi); have hcz50_0 : w49.cell? ⟨gb133, 0, none⟩ = some (.int .i64 5) := (blk_cell BK133.out 0).trans rfl; have hcz50_1 : w49.cell? ⟨gb133, 1, none⟩ = some (.int .i64 3) := (blk_cell BK133.out 1).trans rfl; have hfz50_0 := blk_frozen BK133.out 0; have hfz50_1 := blk_frozen BK133.out 1) | (go_at_call 15; (with_reducible refine (geom_Nodes.calls k 5 3 t139 _ A17.out).mono ?_); rintro e w51 ⟨rfl, hb⟩; have n0_ := Aside0.mk (blk_below (g := gb132) (o := .cells #[.int .i64 4, .int .i64 1] 23 (0, 0)) (by (with_reducible repeat (first | refine blk_drewN ?_ _ | refine blk_drew ?_ | refine blk_alloc ?_ _)); exact BK132.out) hb); have n1_ := Aside0.mk (blk_below (g := gb133) (o := .cells #[.int .i64 5, .int .i64 3] 23 (0, 0)) (by (with_reducible repeat (first | refine blk_drewN ?_ _ | refine blk_drew ?_ | refine blk_alloc ?_ _)); exact BK133.out) hb); have n2_ := Aside0.mk (below_step (by repeat (first | (with_reducible first | exact HB.out | apply below_alloc | apply pw_below_drewN | apply below_drew1 | refine below_set ?_ GE132.out | refine below_set ?_ GE133.out) | exact HB.out)) hb); clear BK132; clear BK133; clear HB; have BK132 := n0_; have BK133 := n1_; have HB := n2_; clear n0_ n1_ n2_; (try clear hb); (try clear hb2); (try clear hk); (try clear hi); have hcz52_0 : w51.cell? ⟨gb133, 0, none⟩ = some (.int .i64 5) := (blk_cell BK133.out 0).trans rfl; have hcz52_1 : w51.cell? ⟨gb133, 1, none⟩ = some (.int .i64 3) := (blk_cell BK133.out 1).trans rfl; have hfz52_0 := blk_frozen BK133.out 0; have hfz52_1 := blk_frozen BK133.out 1) | (go_at_call 19; (with_reducible refine (geom_Capacity.calls k 5 3 t140 _ A19.out).mono ?_); rintro e w53 ⟨rfl, hb⟩; have n0_ := Aside0.mk (blk_below (g := gb132) (o := .cells #[.int .i64 4, .int .i64 1] 23 (0, 0)) (by (with_reducible repeat (first | refine blk_drewN ?_ _ | refine blk_drew ?_ | refine blk_alloc ?_ _)); exact BK132.out) hb); have n1_ := Aside0.mk (blk_below (g := gb133) (o := .cells #[.int .i64 5, .int .i64 3] 23 (0, 0)) (by (with_reducible repeat (first | refine blk_drewN ?_ _ | refine blk_drew ?_ | refine blk_alloc ?_ _)); exact BK133.out) hb); have n2_ := Aside0.mk (below_step (by repeat (first | (with_reducible first | exact HB.out | apply below_alloc | apply pw_below_drewN | apply below_drew1 | refine below_set ?_ GE132.out | refine below_set ?_ GE133.out) | exact HB.out)) hb); clear BK132; clear BK133; clear HB; have BK132 := n0_; have BK133 := n1_; have HB := n2_; clear n0_ n1_ n2_; (try clear hb); (try clear hb2); (try clear hk); (try clear hi)))
                  go_meet
                  case rel => exact ⟨_, (true), (by first | rfl | (simp; done) | (simp [*]; done)), H', ⟨by first | omega | exact Nat.le_refl _⟩, ⟨by (with_reducible repeat (first | refine blk_drewN ?_ _ | refine blk_drew ?_ | refine blk_alloc ?_ _)); exact BK132.out⟩, ⟨by (with_reducible repeat (first | refine blk_drewN ?_ _ | refine blk_drew ?_ | refine blk_alloc ?_ _)); exact BK133.out⟩, ⟨by repeat (first | (with_reducible first | exact HB.out | apply below_alloc | apply pw_below_drewN | apply below_drew1 | refine below_set ?_ GE132.out | refine below_set ?_ GE133.out) | exact HB.out)⟩⟩
              · rw [if_neg c18] at H
                have c18b0 : (t139 == 15) = false := beq_eq_false_iff_ne.mpr c18
                have c18b1 : (t139 != 15) = true := bne_iff_ne.mpr c18
                have H' := Aside0.mk H
                clear H
                have hnb54 := NB132_133.out
                have hnc54 := NB133_132.out
                have hcz55_0 : w4.cell? ⟨gb132, 0, none⟩ = some (.int .i64 4) := (blk_cell BK132.out 0).trans rfl
                have hcz55_1 : w4.cell? ⟨gb132, 1, none⟩ = some (.int .i64 1) := (blk_cell BK132.out 1).trans rfl
                have hfz55_0 := blk_frozen BK132.out 0
                have hfz55_1 := blk_frozen BK132.out 1
                go_wp2_with (first | ((with_reducible refine gate_callee (f := 15) rfl ?_); refine goesL_ (some 20) rfl rfl Try.func15 (by kernel_rfl) rfl #[.agg #[.int .i64 4, .int .i64 1]] rfl (by (try simp only [List.map_toArray, List.map_cons, List.map_nil]); first | done | rfl | (simp only [List.length_drop, List.length_take]; rfl)) ?_; (with_reducible refine (geom_Nodes.calls k 4 1 t134 _ A7.out).mono ?_); rintro e w56 ⟨rfl, hb⟩; refine ⟨_, rfl, ?_⟩; have n0_ := Aside0.mk (blk_below (g := gb132) (o := .cells #[.int .i64 4, .int .i64 1] 23 (0, 0)) (by (with_reducible repeat (first | refine blk_drewN ?_ _ | refine blk_drew ?_ | refine blk_alloc ?_ _)); refine blk_far ?_ NB132_133.out _; (with_reducible repeat (first | refine blk_drewN ?_ _ | refine blk_drew ?_ | refine blk_alloc ?_ _)); refine blk_far ?_ NB132_133.out _; (with_reducible repeat (first | refine blk_drewN ?_ _ | refine blk_drew ?_ | refine blk_alloc ?_ _)); exact BK132.out) hb); have n1_ := Aside0.mk (blk_below (g := gb133) (o := .cells #[.int .i64 5, .int .i64 3] 23 (0, 0)) (by (with_reducible repeat (first | refine blk_drewN ?_ _ | refine blk_drew ?_ | refine blk_alloc ?_ _)); refine blk_put (cs := #[.int .i64 5, .int .i64 0]) ?_ 1 _ rfl; (with_reducible repeat (first | refine blk_drewN ?_ _ | refine blk_drew ?_ | refine blk_alloc ?_ _)); refine blk_put (cs := #[.int .i64 0, .int .i64 0]) ?_ 0 _ rfl; (with_reducible repeat (first | refine blk_drewN ?_ _ | refine blk_drew ?_ | refine blk_alloc ?_ _)); exact BK133.out) hb); have n2_ := Aside0.mk (below_step (by repeat (first | (with_reducible first | exact HB.out | apply below_alloc | apply pw_below_drewN | apply below_drew1 | refine below_set ?_ GE132.out | refine below_set ?_ GE133.out) | exact HB.out)) hb); clear BK132; clear BK133; clear HB; have BK132 := n0_; have BK133 := n1_; have HB := n2_; clear n0_ n1_ n2_; (try clear hb); (try clear hb2); (try clear hk); (try clear hi); have hcz57_0 : w56.cell? ⟨gb132, 0, none⟩ = some (.int .i64 4) := (blk_cell BK132.out 0).trans rfl; have hcz57_1 : w56.cell? ⟨gb132, 1, none⟩ = some (.int .i64 1) := (blk_cell BK132.out 1).trans rfl; have hfz57_0 := blk_frozen BK132.out 0; have hfz57_1 := blk_frozen BK132.out 1) | (go_at_call 17; (with_reducible refine (geom_Logical.calls 4 1 t135 _ A9.out).mono ?_); rintro e w58 ⟨rfl, hb⟩; have n0_ := Aside0.mk (blk_below (g := gb132) (o := .cells #[.int .i64 4, .int .i64 1] 23 (0, 0)) (by (with_reducible repeat (first | refine blk_drewN ?_ _ | refine blk_drew ?_ | refine blk_alloc ?_ _)); exact BK132.out) hb); have n1_ := Aside0.mk (blk_below (g := gb133) (o := .cells #[.int .i64 5, .int .i64 3] 23 (0, 0)) (by (with_reducible repeat (first | refine blk_drewN ?_ _ | refine blk_drew ?_ | refine blk_alloc ?_ _)); exact BK133.out) hb); have n2_ := Aside0.mk (below_step (by repeat (first | (with_reducible first | exact HB.out | apply below_alloc | apply pw_below_drewN | apply below_drew1 | refine below_set ?_ GE132.out | refine below_set ?_ GE133.out) | exact HB.out)) hb); clear BK132; clear BK133; clear HB; have BK132 := n0_; have BK133 := n1_; have HB := n2_; clear n0_ n1_ n2_; (try clear hb); (try clear hb2); (try clear hk); (try clear hi); have hcz59_0 : w58.cell? ⟨gb132, 0, none⟩ = some (.int .i64 4) := (blk_cell BK132.out 0).trans rfl; have hcz59_1 : w58.cell? ⟨gb132, 1, none⟩ = some (.int .i64 1) := (blk_cell BK132.out 1).trans rfl; have hfz59_0 := blk_frozen BK132.out 0; have hfz59_1 := blk_frozen BK132.out 1) | (go_at_call 19; (with_reducible refine (geom_Capacity.calls k 4 1 t136 _ A11.out).mono ?_); rintro e w60 ⟨rfl, hb⟩; have n0_ := Aside0.mk (blk_below (g := gb132) (o := .cells #[.int .i64 4, .int .i64 1] 23 (0, 0)) (by (with_reducible repeat (first | refine blk_drewN ?_ _ | refine blk_drew ?_ | refine blk_alloc ?_ _)); exact BK132.out) hb); have n1_ := Aside0.mk (blk_below (g := gb133) (o := .cells #[.int .i64 5, .int .i64 3] 23 (0, 0)) (by (with_reducible repeat (first | refine blk_drewN ?_ _ | refine blk_drew ?_ | refine blk_alloc ?_ _)); exact BK133.out) hb); have n2_ := Aside0.mk (below_step (by repeat (first | (with_reducible first | exact HB.out | apply below_alloc | apply pw_below_drewN | apply below_drew1 | refine below_set ?_ GE132.out | refine below_set ?_ GE133.out) | exact HB.out)) hb); clear BK132; clear BK133; clear HB; have BK132 := n0_; have BK133 := n1_; have HB := n2_; clear n0_ n1_ n2_; (try clear hb); (try clear hb2); (try clear hk); (try clear hi); have hcz61_0 : w60.cell? ⟨gb133, 0, none⟩ = some (.int .i64 5) := (blk_cell BK133.out 0).trans rfl; have hcz61_1 : w60.cell? ⟨gb133, 1, none⟩ = some (.int .i64 3) := (blk_cell BK133.out 1).trans rfl; have hfz61_0 := blk_frozen BK133.out 0; have hfz61_1 := blk_frozen BK133.out 1) | (go_at_call 11; (with_reducible refine (geom_Leaves.calls 5 3 t137 _ A13.out).mono ?_); rintro e w62 ⟨rfl, hb⟩; have n0_ := Aside0.mk (blk_below (g := gb132) (o := .cells #[.int .i64 4, .int .i64 1] 23 (0, 0)) (by (with_reducible repeat (first | refine blk_drewN ?_ _ | refine blk_drew ?_ | refine blk_alloc ?_ _)); exact BK132.out) hb); have n1_ := Aside0.mk (blk_below (g := gb133) (o := .cells #[.int .i64 5, .int .i64 3] 23 (0, 0)) (by (with_reducible repeat (first | refine blk_drewN ?_ _ | refine blk_drew ?_ | refine blk_alloc ?_ _)); exact BK133.out) hb); have n2_ := Aside0.mk (below_step (by repeat (first | (with_reducible first | exact HB.out | apply below_alloc | apply pw_below_drewN | apply below_drew1 | refine below_set ?_ GE132.out | refine below_set ?_ GE133.out) | exact HB.out)) hb); clear BK132; clear BK133; clear HB; have BK132 := n0_; have BK133 := n1_; have HB := n2_; clear n0_ n1_ n2_; (try clear hb); (try clear hb2); (try clear hk); (try clear hi); have hcz63_0 : w62.cell? ⟨gb133, 0, none⟩ = some (.int .i64 5) := (blk_cell BK133.out 0).trans rfl; have hcz63_1 : w62.cell? ⟨gb133, 1, none⟩ = some (.int .i64 3) := (blk_cell BK133.out 1).trans rfl; have hfz63_0 := blk_frozen BK133.out 0; have hfz63_1 := blk_frozen BK133.out 1) | (go_at_call 13; (with_reducible refine (geom_Height.calls k 5 3 t138 _ A15.out).mono ?_); rintro e w64 ⟨rfl, hb⟩; have n0_ := Aside0.mk (blk_below (g := gb132) (o := .cells #[.int .i64 4, .int .i64 1] 23 (0, 0)) (by (with_reducible repeat (first | refine blk_drewN ?_ _ | refine blk_drew ?_ | refine blk_alloc ?_ _)); exact BK132.out) hb); have n1_ := Aside0.mk (blk_below (g := gb133) (o := .cells #[.int .i64 5, .int .i64 3] 23 (0, 0)) (by (with_reducible repeat (first | refine blk_drewN ?_ _ | refine blk_drew ?_ | refine blk_alloc ?_ _)); exact BK133.out) hb); have n2_ := Aside0.mk (below_step (by repeat (first | (with_reducible first | exact HB.out | apply below_alloc | apply pw_below_drewN | apply below_drew1 | refine below_set ?_ GE132.out | refine below_set ?_ GE133.out) | exact HB.out)) hb); clear BK132; clear BK133; clear HB; have BK132 := n0_; have BK133 := n1_; have HB := n2_; clear n0_ n1_ n2_; (try clear hb); (try clear hb2); (try clear hk); (try clear hi); have hcz65_0 : w64.cell? ⟨gb133, 0, none⟩ = some (.int .i64 5) := (blk_cell BK133.out 0).trans rfl; have hcz65_1 : w64.cell? ⟨gb133, 1, none⟩ = some (.int .i64 3) := (blk_cell BK133.out 1).trans rfl; have hfz65_0 := blk_frozen BK133.out 0; have hfz65_1 := blk_frozen BK133.out 1) | (go_at_call 15; (with_reducible refine (geom_Nodes.calls k 5 3 t139 _ A17.out).mono ?_); rintro e w66 ⟨rfl, hb⟩; have n0_ := Aside0.mk (blk_below (g := gb132) (o := .cells #[.int .i64 4, .int .i64 1] 23 (0, 0)) (by (with_reducible repeat (first | refine blk_drewN ?_ _ | refine blk_drew ?_ | refine blk_alloc ?_ _)); exact BK132.out) hb); have n1_ := Aside0.mk (blk_below (g := gb133) (o := .cells #[.int .i64 5, .int .i64 3] 23 (0, 0)) (by (with_reducible repeat (first | refine blk_drewN ?_ _ | refine blk_drew ?_ | refine blk_alloc ?_ _)); exact BK133.out) hb); have n2_ := Aside0.mk (below_step (by repeat (first | (with_reducible first | exact HB.out | apply below_alloc | apply pw_below_drewN | apply below_drew1 | refine below_set ?_ GE132.out | refine below_set ?_ GE133.out) | exact HB.out)) hb); clear BK132; clear BK133; clear HB; have BK132 := n0_; have BK133 := n1_; have HB := n2_; clear n0_ n1_ n2_; (try clear hb); (try clear hb2); (try clear hk); (try clear hi)))
                go_meet
                case rel => exact ⟨_, (true), (by first | rfl | (simp; done) | (simp [*]; done)), H', ⟨by first | omega | exact Nat.le_refl _⟩, ⟨by (with_reducible repeat (first | refine blk_drewN ?_ _ | refine blk_drew ?_ | refine blk_alloc ?_ _)); exact BK132.out⟩, ⟨by (with_reducible repeat (first | refine blk_drewN ?_ _ | refine blk_drew ?_ | refine blk_alloc ?_ _)); exact BK133.out⟩, ⟨by repeat (first | (with_reducible first | exact HB.out | apply below_alloc | apply pw_below_drewN | apply below_drew1 | refine below_set ?_ GE132.out | refine below_set ?_ GE133.out) | exact HB.out)⟩⟩
            · rw [if_neg c16] at H
              have c16b0 : (t138 == 4) = false := beq_eq_false_iff_ne.mpr c16
              have c16b1 : (t138 != 4) = true := bne_iff_ne.mpr c16
              have H' := Aside0.mk H
              clear H
              have hnb67 := NB132_133.out
              have hnc67 := NB133_132.out
              have hcz68_0 : w4.cell? ⟨gb132, 0, none⟩ = some (.int .i64 4) := (blk_cell BK132.out 0).trans rfl
              have hcz68_1 : w4.cell? ⟨gb132, 1, none⟩ = some (.int .i64 1) := (blk_cell BK132.out 1).trans rfl
              have hfz68_0 := blk_frozen BK132.out 0
              have hfz68_1 := blk_frozen BK132.out 1
              go_wp2_with (first | ((with_reducible refine gate_callee (f := 15) rfl ?_); refine goesL_ (some 20) rfl rfl Try.func15 (by kernel_rfl) rfl #[.agg #[.int .i64 4, .int .i64 1]] rfl (by (try simp only [List.map_toArray, List.map_cons, List.map_nil]); first | done | rfl | (simp only [List.length_drop, List.length_take]; rfl)) ?_; (with_reducible refine (geom_Nodes.calls k 4 1 t134 _ A7.out).mono ?_); rintro e w69 ⟨rfl, hb⟩; refine ⟨_, rfl, ?_⟩; have n0_ := Aside0.mk (blk_below (g := gb132) (o := .cells #[.int .i64 4, .int .i64 1] 23 (0, 0)) (by (with_reducible repeat (first | refine blk_drewN ?_ _ | refine blk_drew ?_ | refine blk_alloc ?_ _)); refine blk_far ?_ NB132_133.out _; (with_reducible repeat (first | refine blk_drewN ?_ _ | refine blk_drew ?_ | refine blk_alloc ?_ _)); refine blk_far ?_ NB132_133.out _; (with_reducible repeat (first | refine blk_drewN ?_ _ | refine blk_drew ?_ | refine blk_alloc ?_ _)); exact BK132.out) hb); have n1_ := Aside0.mk (blk_below (g := gb133) (o := .cells #[.int .i64 5, .int .i64 3] 23 (0, 0)) (by (with_reducible repeat (first | refine blk_drewN ?_ _ | refine blk_drew ?_ | refine blk_alloc ?_ _)); refine blk_put (cs := #[.int .i64 5, .int .i64 0]) ?_ 1 _ rfl; (with_reducible repeat (first | refine blk_drewN ?_ _ | refine blk_drew ?_ | refine blk_alloc ?_ _)); refine blk_put (cs := #[.int .i64 0, .int .i64 0]) ?_ 0 _ rfl; (with_reducible repeat (first | refine blk_drewN ?_ _ | refine blk_drew ?_ | refine blk_alloc ?_ _)); exact BK133.out) hb); have n2_ := Aside0.mk (below_step (by repeat (first | (with_reducible first | exact HB.out | apply below_alloc | apply pw_below_drewN | apply below_drew1 | refine below_set ?_ GE132.out | refine below_set ?_ GE133.out) | exact HB.out)) hb); clear BK132; clear BK133; clear HB; have BK132 := n0_; have BK133 := n1_; have HB := n2_; clear n0_ n1_ n2_; (try clear hb); (try clear hb2); (try clear hk); (try clear hi); have hcz70_0 : w69.cell? ⟨gb132, 0, none⟩ = some (.int .i64 4) := (blk_cell BK132.out 0).trans rfl; have hcz70_1 : w69.cell? ⟨gb132, 1, none⟩ = some (.int .i64 1) := (blk_cell BK132.out 1).trans rfl; have hfz70_0 := blk_frozen BK132.out 0; have hfz70_1 := blk_frozen BK132.out 1) | (go_at_call 17; (with_reducible refine (geom_Logical.calls 4 1 t135 _ A9.out).mono ?_); rintro e w71 ⟨rfl, hb⟩; have n0_ := Aside0.mk (blk_below (g := gb132) (o := .cells #[.int .i64 4, .int .i64 1] 23 (0, 0)) (by (with_reducible repeat (first | refine blk_drewN ?_ _ | refine blk_drew ?_ | refine blk_alloc ?_ _)); exact BK132.out) hb); have n1_ := Aside0.mk (blk_below (g := gb133) (o := .cells #[.int .i64 5, .int .i64 3] 23 (0, 0)) (by (with_reducible repeat (first | refine blk_drewN ?_ _ | refine blk_drew ?_ | refine blk_alloc ?_ _)); exact BK133.out) hb); have n2_ := Aside0.mk (below_step (by repeat (first | (with_reducible first | exact HB.out | apply below_alloc | apply pw_below_drewN | apply below_drew1 | refine below_set ?_ GE132.out | refine below_set ?_ GE133.out) | exact HB.out)) hb); clear BK132; clear BK133; clear HB; have BK132 := n0_; have BK133 := n1_; have HB := n2_; clear n0_ n1_ n2_; (try clear hb); (try clear hb2); (try clear hk); (try clear hi); have hcz72_0 : w71.cell? ⟨gb132, 0, none⟩ = some (.int .i64 4) := (blk_cell BK132.out 0).trans rfl; have hcz72_1 : w71.cell? ⟨gb132, 1, none⟩ = some (.int .i64 1) := (blk_cell BK132.out 1).trans rfl; have hfz72_0 := blk_frozen BK132.out 0; have hfz72_1 := blk_frozen BK132.out 1) | (go_at_call 19; (with_reducible refine (geom_Capacity.calls k 4 1 t136 _ A11.out).mono ?_); rintro e w73 ⟨rfl, hb⟩; have n0_ := Aside0.mk (blk_below (g := gb132) (o := .cells #[.int .i64 4, .int .i64 1] 23 (0, 0)) (by (with_reducible repeat (first | refine blk_drewN ?_ _ | refine blk_drew ?_ | refine blk_alloc ?_ _)); exact BK132.out) hb); have n1_ := Aside0.mk (blk_below (g := gb133) (o := .cells #[.int .i64 5, .int .i64 3] 23 (0, 0)) (by (with_reducible repeat (first | refine blk_drewN ?_ _ | refine blk_drew ?_ | refine blk_alloc ?_ _)); exact BK133.out) hb); have n2_ := Aside0.mk (below_step (by repeat (first | (with_reducible first | exact HB.out | apply below_alloc | apply pw_below_drewN | apply below_drew1 | refine below_set ?_ GE132.out | refine below_set ?_ GE133.out) | exact HB.out)) hb); clear BK132; clear BK133; clear HB; have BK132 := n0_; have BK133 := n1_; have HB := n2_; clear n0_ n1_ n2_; (try clear hb); (try clear hb2); (try clear hk); (try clear hi); have hcz74_0 : w73.cell? ⟨gb133, 0, none⟩ = some (.int .i64 5) := (blk_cell BK133.out 0).trans rfl; have hcz74_1 : w73.cell? ⟨gb133, 1, none⟩ = some (.int .i64 3) := (blk_cell BK133.out 1).trans rfl; have hfz74_0 := blk_frozen BK133.out 0; have hfz74_1 := blk_frozen BK133.out 1) | (go_at_call 11; (with_reducible refine (geom_Leaves.calls 5 3 t137 _ A13.out).mono ?_); rintro e w75 ⟨rfl, hb⟩; have n0_ := Aside0.mk (blk_below (g := gb132) (o := .cells #[.int .i64 4, .int .i64 1] 23 (0, 0)) (by (with_reducible repeat (first | refine blk_drewN ?_ _ | refine blk_drew ?_ | refine blk_alloc ?_ _)); exact BK132.out) hb); have n1_ := Aside0.mk (blk_below (g := gb133) (o := .cells #[.int .i64 5, .int .i64 3] 23 (0, 0)) (by (with_reducible repeat (first | refine blk_drewN ?_ _ | refine blk_drew ?_ | refine blk_alloc ?_ _)); exact BK133.out) hb); have n2_ := Aside0.mk (below_step (by repeat (first | (with_reducible first | exact HB.out | apply below_alloc | apply pw_below_drewN | apply below_drew1 | refine below_set ?_ GE132.out | refine below_set ?_ GE133.out) | exact HB.out)) hb); clear BK132; clear BK133; clear HB; have BK132 := n0_; have BK133 := n1_; have HB := n2_; clear n0_ n1_ n2_; (try clear hb); (try clear hb2); (try clear hk); (try clear hi); have hcz76_0 : w75.cell? ⟨gb133, 0, none⟩ = some (.int .i64 5) := (blk_cell BK133.out 0).trans rfl; have hcz76_1 : w75.cell? ⟨gb133, 1, none⟩ = some (.int .i64 3) := (blk_cell BK133.out 1).trans rfl; have hfz76_0 := blk_frozen BK133.out 0; have hfz76_1 := blk_frozen BK133.out 1) | (go_at_call 13; (with_reducible refine (geom_Height.calls k 5 3 t138 _ A15.out).mono ?_); rintro e w77 ⟨rfl, hb⟩; have n0_ := Aside0.mk (blk_below (g := gb132) (o := .cells #[.int .i64 4, .int .i64 1] 23 (0, 0)) (by (with_reducible repeat (first | refine blk_drewN ?_ _ | refine blk_drew ?_ | refine blk_alloc ?_ _)); exact BK132.out) hb); have n1_ := Aside0.mk (blk_below (g := gb133) (o := .cells #[.int .i64 5, .int .i64 3] 23 (0, 0)) (by (with_reducible repeat (first | refine blk_drewN ?_ _ | refine blk_drew ?_ | refine blk_alloc ?_ _)); exact BK133.out) hb); have n2_ := Aside0.mk (below_step (by repeat (first | (with_reducible first | exact HB.out | apply below_alloc | apply pw_below_drewN | apply below_drew1 | refine below_set ?_ GE132.out | refine below_set ?_ GE133.out) | exact HB.out)) hb); clear BK132; clear BK133; clear HB; have BK132 := n0_; have BK133 := n1_; have HB := n2_; clear n0_ n1_ n2_; (try clear hb); (try clear hb2); (try clear hk); (try clear hi)))
              go_meet
              case rel => exact ⟨_, (true), (by first | rfl | (simp; done) | (simp [*]; done)), H', ⟨by first | omega | exact Nat.le_refl _⟩, ⟨by (with_reducible repeat (first | refine blk_drewN ?_ _ | refine blk_drew ?_ | refine blk_alloc ?_ _)); exact BK132.out⟩, ⟨by (with_reducible repeat (first | refine blk_drewN ?_ _ | refine blk_drew ?_ | refine blk_alloc ?_ _)); exact BK133.out⟩, ⟨by repeat (first | (with_reducible first | exact HB.out | apply below_alloc | apply pw_below_drewN | apply below_drew1 | refine below_set ?_ GE132.out | refine below_set ?_ GE133.out) | exact HB.out)⟩⟩
          · rw [if_neg c14] at H
            have c14b0 : (t137 == 15) = false := beq_eq_false_iff_ne.mpr c14
            have c14b1 : (t137 != 15) = true := bne_iff_ne.mpr c14
            have H' := Aside0.mk H
            clear H
            have hnb78 := NB132_133.out
            have hnc78 := NB133_132.out
            have hcz79_0 : w4.cell? ⟨gb132, 0, none⟩ = some (.int .i64 4) := (blk_cell BK132.out 0).trans rfl
            have hcz79_1 : w4.cell? ⟨gb132, 1, none⟩ = some (.int .i64 1) := (blk_cell BK132.out 1).trans rfl
            have hfz79_0 := blk_frozen BK132.out 0
            have hfz79_1 := blk_frozen BK132.out 1
            go_wp2_with (first | ((with_reducible refine gate_callee (f := 15) rfl ?_); refine goesL_ (some 20) rfl rfl Try.func15 (by kernel_rfl) rfl #[.agg #[.int .i64 4, .int .i64 1]] rfl (by (try simp only [List.map_toArray, List.map_cons, List.map_nil]); first | done | rfl | (simp only [List.length_drop, List.length_take]; rfl)) ?_; (with_reducible refine (geom_Nodes.calls k 4 1 t134 _ A7.out).mono ?_); rintro e w80 ⟨rfl, hb⟩; refine ⟨_, rfl, ?_⟩; have n0_ := Aside0.mk (blk_below (g := gb132) (o := .cells #[.int .i64 4, .int .i64 1] 23 (0, 0)) (by (with_reducible repeat (first | refine blk_drewN ?_ _ | refine blk_drew ?_ | refine blk_alloc ?_ _)); refine blk_far ?_ NB132_133.out _; (with_reducible repeat (first | refine blk_drewN ?_ _ | refine blk_drew ?_ | refine blk_alloc ?_ _)); refine blk_far ?_ NB132_133.out _; (with_reducible repeat (first | refine blk_drewN ?_ _ | refine blk_drew ?_ | refine blk_alloc ?_ _)); exact BK132.out) hb); have n1_ := Aside0.mk (blk_below (g := gb133) (o := .cells #[.int .i64 5, .int .i64 3] 23 (0, 0)) (by (with_reducible repeat (first | refine blk_drewN ?_ _ | refine blk_drew ?_ | refine blk_alloc ?_ _)); refine blk_put (cs := #[.int .i64 5, .int .i64 0]) ?_ 1 _ rfl; (with_reducible repeat (first | refine blk_drewN ?_ _ | refine blk_drew ?_ | refine blk_alloc ?_ _)); refine blk_put (cs := #[.int .i64 0, .int .i64 0]) ?_ 0 _ rfl; (with_reducible repeat (first | refine blk_drewN ?_ _ | refine blk_drew ?_ | refine blk_alloc ?_ _)); exact BK133.out) hb); have n2_ := Aside0.mk (below_step (by repeat (first | (with_reducible first | exact HB.out | apply below_alloc | apply pw_below_drewN | apply below_drew1 | refine below_set ?_ GE132.out | refine below_set ?_ GE133.out) | exact HB.out)) hb); clear BK132; clear BK133; clear HB; have BK132 := n0_; have BK133 := n1_; have HB := n2_; clear n0_ n1_ n2_; (try clear hb); (try clear hb2); (try clear hk); (try clear hi); have hcz81_0 : w80.cell? ⟨gb132, 0, none⟩ = some (.int .i64 4) := (blk_cell BK132.out 0).trans rfl; have hcz81_1 : w80.cell? ⟨gb132, 1, none⟩ = some (.int .i64 1) := (blk_cell BK132.out 1).trans rfl; have hfz81_0 := blk_frozen BK132.out 0; have hfz81_1 := blk_frozen BK132.out 1) | (go_at_call 17; (with_reducible refine (geom_Logical.calls 4 1 t135 _ A9.out).mono ?_); rintro e w82 ⟨rfl, hb⟩; have n0_ := Aside0.mk (blk_below (g := gb132) (o := .cells #[.int .i64 4, .int .i64 1] 23 (0, 0)) (by (with_reducible repeat (first | refine blk_drewN ?_ _ | refine blk_drew ?_ | refine blk_alloc ?_ _)); exact BK132.out) hb); have n1_ := Aside0.mk (blk_below (g := gb133) (o := .cells #[.int .i64 5, .int .i64 3] 23 (0, 0)) (by (with_reducible repeat (first | refine blk_drewN ?_ _ | refine blk_drew ?_ | refine blk_alloc ?_ _)); exact BK133.out) hb); have n2_ := Aside0.mk (below_step (by repeat (first | (with_reducible first | exact HB.out | apply below_alloc | apply pw_below_drewN | apply below_drew1 | refine below_set ?_ GE132.out | refine below_set ?_ GE133.out) | exact HB.out)) hb); clear BK132; clear BK133; clear HB; have BK132 := n0_; have BK133 := n1_; have HB := n2_; clear n0_ n1_ n2_; (try clear hb); (try clear hb2); (try clear hk); (try clear hi); have hcz83_0 : w82.cell? ⟨gb132, 0, none⟩ = some (.int .i64 4) := (blk_cell BK132.out 0).trans rfl; have hcz83_1 : w82.cell? ⟨gb132, 1, none⟩ = some (.int .i64 1) := (blk_cell BK132.out 1).trans rfl; have hfz83_0 := blk_frozen BK132.out 0; have hfz83_1 := blk_frozen BK132.out 1) | (go_at_call 19; (with_reducible refine (geom_Capacity.calls k 4 1 t136 _ A11.out).mono ?_); rintro e w84 ⟨rfl, hb⟩; have n0_ := Aside0.mk (blk_below (g := gb132) (o := .cells #[.int .i64 4, .int .i64 1] 23 (0, 0)) (by (with_reducible repeat (first | refine blk_drewN ?_ _ | refine blk_drew ?_ | refine blk_alloc ?_ _)); exact BK132.out) hb); have n1_ := Aside0.mk (blk_below (g := gb133) (o := .cells #[.int .i64 5, .int .i64 3] 23 (0, 0)) (by (with_reducible repeat (first | refine blk_drewN ?_ _ | refine blk_drew ?_ | refine blk_alloc ?_ _)); exact BK133.out) hb); have n2_ := Aside0.mk (below_step (by repeat (first | (with_reducible first | exact HB.out | apply below_alloc | apply pw_below_drewN | apply below_drew1 | refine below_set ?_ GE132.out | refine below_set ?_ GE133.out) | exact HB.out)) hb); clear BK132; clear BK133; clear HB; have BK132 := n0_; have BK133 := n1_; have HB := n2_; clear n0_ n1_ n2_; (try clear hb); (try clear hb2); (try clear hk); (try clear hi); have hcz85_0 : w84.cell? ⟨gb133, 0, none⟩ = some (.int .i64 5) := (blk_cell BK133.out 0).trans rfl; have hcz85_1 : w84.cell? ⟨gb133, 1, none⟩ = some (.int .i64 3) := (blk_cell BK133.out 1).trans rfl; have hfz85_0 := blk_frozen BK133.out 0; have hfz85_1 := blk_frozen BK133.out 1) | (go_at_call 11; (with_reducible refine (geom_Leaves.calls 5 3 t137 _ A13.out).mono ?_); rintro e w86 ⟨rfl, hb⟩; have n0_ := Aside0.mk (blk_below (g := gb132) (o := .cells #[.int .i64 4, .int .i64 1] 23 (0, 0)) (by (with_reducible repeat (first | refine blk_drewN ?_ _ | refine blk_drew ?_ | refine blk_alloc ?_ _)); exact BK132.out) hb); have n1_ := Aside0.mk (blk_below (g := gb133) (o := .cells #[.int .i64 5, .int .i64 3] 23 (0, 0)) (by (with_reducible repeat (first | refine blk_drewN ?_ _ | refine blk_drew ?_ | refine blk_alloc ?_ _)); exact BK133.out) hb); have n2_ := Aside0.mk (below_step (by repeat (first | (with_reducible first | exact HB.out | apply below_alloc | apply pw_below_drewN | apply below_drew1 | refine below_set ?_ GE132.out | refine below_set ?_ GE133.out) | exact HB.out)) hb); clear BK132; clear BK133; clear HB; have BK132 := n0_; have BK133 := n1_; have HB := n2_; clear n0_ n1_ n2_; (try clear hb); (try clear hb2); (try clear hk); (try clear hi)))
            go_meet
            case rel => exact ⟨_, (true), (by first | rfl | (simp; done) | (simp [*]; done)), H', ⟨by first | omega | exact Nat.le_refl _⟩, ⟨by (with_reducible repeat (first | refine blk_drewN ?_ _ | refine blk_drew ?_ | refine blk_alloc ?_ _)); exact BK132.out⟩, ⟨by (with_reducible repeat (first | refine blk_drewN ?_ _ | refine blk_drew ?_ | refine blk_alloc ?_ _)); exact BK133.out⟩, ⟨by repeat (first | (with_reducible first | exact HB.out | apply below_alloc | apply pw_below_drewN | apply below_drew1 | refine below_set ?_ GE132.out | refine below_set ?_ GE133.out) | exact HB.out)⟩⟩
        · rw [if_neg c12] at H
          have c12b0 : (t136 == 17) = false := beq_eq_false_iff_ne.mpr c12
          have c12b1 : (t136 != 17) = true := bne_iff_ne.mpr c12
          have H' := Aside0.mk H
          clear H
          have hnb87 := NB132_133.out
          have hnc87 := NB133_132.out
          have hcz88_0 : w4.cell? ⟨gb132, 0, none⟩ = some (.int .i64 4) := (blk_cell BK132.out 0).trans rfl
          have hcz88_1 : w4.cell? ⟨gb132, 1, none⟩ = some (.int .i64 1) := (blk_cell BK132.out 1).trans rfl
          have hfz88_0 := blk_frozen BK132.out 0
          have hfz88_1 := blk_frozen BK132.out 1
          go_wp2_with (first | ((with_reducible refine gate_callee (f := 15) rfl ?_); refine goesL_ (some 20) rfl rfl Try.func15 (by kernel_rfl) rfl #[.agg #[.int .i64 4, .int .i64 1]] rfl (by (try simp only [List.map_toArray, List.map_cons, List.map_nil]); first | done | rfl | (simp only [List.length_drop, List.length_take]; rfl)) ?_; (with_reducible refine (geom_Nodes.calls k 4 1 t134 _ A7.out).mono ?_); rintro e w89 ⟨rfl, hb⟩; refine ⟨_, rfl, ?_⟩; have n0_ := Aside0.mk (blk_below (g := gb132) (o := .cells #[.int .i64 4, .int .i64 1] 23 (0, 0)) (by (with_reducible repeat (first | refine blk_drewN ?_ _ | refine blk_drew ?_ | refine blk_alloc ?_ _)); refine blk_far ?_ NB132_133.out _; (with_reducible repeat (first | refine blk_drewN ?_ _ | refine blk_drew ?_ | refine blk_alloc ?_ _)); refine blk_far ?_ NB132_133.out _; (with_reducible repeat (first | refine blk_drewN ?_ _ | refine blk_drew ?_ | refine blk_alloc ?_ _)); exact BK132.out) hb); have n1_ := Aside0.mk (blk_below (g := gb133) (o := .cells #[.int .i64 5, .int .i64 3] 23 (0, 0)) (by (with_reducible repeat (first | refine blk_drewN ?_ _ | refine blk_drew ?_ | refine blk_alloc ?_ _)); refine blk_put (cs := #[.int .i64 5, .int .i64 0]) ?_ 1 _ rfl; (with_reducible repeat (first | refine blk_drewN ?_ _ | refine blk_drew ?_ | refine blk_alloc ?_ _)); refine blk_put (cs := #[.int .i64 0, .int .i64 0]) ?_ 0 _ rfl; (with_reducible repeat (first | refine blk_drewN ?_ _ | refine blk_drew ?_ | refine blk_alloc ?_ _)); exact BK133.out) hb); have n2_ := Aside0.mk (below_step (by repeat (first | (with_reducible first | exact HB.out | apply below_alloc | apply pw_below_drewN | apply below_drew1 | refine below_set ?_ GE132.out | refine below_set ?_ GE133.out) | exact HB.out)) hb); clear BK132; clear BK133; clear HB; have BK132 := n0_; have BK133 := n1_; have HB := n2_; clear n0_ n1_ n2_; (try clear hb); (try clear hb2); (try clear hk); (try clear hi); have hcz90_0 : w89.cell? ⟨gb132, 0, none⟩ = some (.int .i64 4) := (blk_cell BK132.out 0).trans rfl; have hcz90_1 : w89.cell? ⟨gb132, 1, none⟩ = some (.int .i64 1) := (blk_cell BK132.out 1).trans rfl; have hfz90_0 := blk_frozen BK132.out 0; have hfz90_1 := blk_frozen BK132.out 1) | (go_at_call 17; (with_reducible refine (geom_Logical.calls 4 1 t135 _ A9.out).mono ?_); rintro e w91 ⟨rfl, hb⟩; have n0_ := Aside0.mk (blk_below (g := gb132) (o := .cells #[.int .i64 4, .int .i64 1] 23 (0, 0)) (by (with_reducible repeat (first | refine blk_drewN ?_ _ | refine blk_drew ?_ | refine blk_alloc ?_ _)); exact BK132.out) hb); have n1_ := Aside0.mk (blk_below (g := gb133) (o := .cells #[.int .i64 5, .int .i64 3] 23 (0, 0)) (by (with_reducible repeat (first | refine blk_drewN ?_ _ | refine blk_drew ?_ | refine blk_alloc ?_ _)); exact BK133.out) hb); have n2_ := Aside0.mk (below_step (by repeat (first | (with_reducible first | exact HB.out | apply below_alloc | apply pw_below_drewN | apply below_drew1 | refine below_set ?_ GE132.out | refine below_set ?_ GE133.out) | exact HB.out)) hb); clear BK132; clear BK133; clear HB; have BK132 := n0_; have BK133 := n1_; have HB := n2_; clear n0_ n1_ n2_; (try clear hb); (try clear hb2); (try clear hk); (try clear hi); have hcz92_0 : w91.cell? ⟨gb132, 0, none⟩ = some (.int .i64 4) := (blk_cell BK132.out 0).trans rfl; have hcz92_1 : w91.cell? ⟨gb132, 1, none⟩ = some (.int .i64 1) := (blk_cell BK132.out 1).trans rfl; have hfz92_0 := blk_frozen BK132.out 0; have hfz92_1 := blk_frozen BK132.out 1) | (go_at_call 19; (with_reducible refine (geom_Capacity.calls k 4 1 t136 _ A11.out).mono ?_); rintro e w93 ⟨rfl, hb⟩; have n0_ := Aside0.mk (blk_below (g := gb132) (o := .cells #[.int .i64 4, .int .i64 1] 23 (0, 0)) (by (with_reducible repeat (first | refine blk_drewN ?_ _ | refine blk_drew ?_ | refine blk_alloc ?_ _)); exact BK132.out) hb); have n1_ := Aside0.mk (blk_below (g := gb133) (o := .cells #[.int .i64 5, .int .i64 3] 23 (0, 0)) (by (with_reducible repeat (first | refine blk_drewN ?_ _ | refine blk_drew ?_ | refine blk_alloc ?_ _)); exact BK133.out) hb); have n2_ := Aside0.mk (below_step (by repeat (first | (with_reducible first | exact HB.out | apply below_alloc | apply pw_below_drewN | apply below_drew1 | refine below_set ?_ GE132.out | refine below_set ?_ GE133.out) | exact HB.out)) hb); clear BK132; clear BK133; clear HB; have BK132 := n0_; have BK133 := n1_; have HB := n2_; clear n0_ n1_ n2_; (try clear hb); (try clear hb2); (try clear hk); (try clear hi)))
          go_meet
          case rel => exact ⟨_, (true), (by first | rfl | (simp; done) | (simp [*]; done)), H', ⟨by first | omega | exact Nat.le_refl _⟩, ⟨by (with_reducible repeat (first | refine blk_drewN ?_ _ | refine blk_drew ?_ | refine blk_alloc ?_ _)); exact BK132.out⟩, ⟨by (with_reducible repeat (first | refine blk_drewN ?_ _ | refine blk_drew ?_ | refine blk_alloc ?_ _)); exact BK133.out⟩, ⟨by repeat (first | (with_reducible first | exact HB.out | apply below_alloc | apply pw_below_drewN | apply below_drew1 | refine below_set ?_ GE132.out | refine below_set ?_ GE133.out) | exact HB.out)⟩⟩
      · rw [if_neg c10] at H
        have c10b0 : (t135 == 2) = false := beq_eq_false_iff_ne.mpr c10
        have c10b1 : (t135 != 2) = true := bne_iff_ne.mpr c10
        have H' := Aside0.mk H
        clear H
        have hnb94 := NB132_133.out
        have hnc94 := NB133_132.out
        have hcz95_0 : w4.cell? ⟨gb132, 0, none⟩ = some (.int .i64 4) := (blk_cell BK132.out 0).trans rfl
        have hcz95_1 : w4.cell? ⟨gb132, 1, none⟩ = some (.int .i64 1) := (blk_cell BK132.out 1).trans rfl
        have hfz95_0 := blk_frozen BK132.out 0
        have hfz95_1 := blk_frozen BK132.out 1
        go_wp2_with (first | ((with_reducible refine gate_callee (f := 15) rfl ?_); refine goesL_ (some 20) rfl rfl Try.func15 (by kernel_rfl) rfl #[.agg #[.int .i64 4, .int .i64 1]] rfl (by (try simp only [List.map_toArray, List.map_cons, List.map_nil]); first | done | rfl | (simp only [List.length_drop, List.length_take]; rfl)) ?_; (with_reducible refine (geom_Nodes.calls k 4 1 t134 _ A7.out).mono ?_); rintro e w96 ⟨rfl, hb⟩; refine ⟨_, rfl, ?_⟩; have n0_ := Aside0.mk (blk_below (g := gb132) (o := .cells #[.int .i64 4, .int .i64 1] 23 (0, 0)) (by (with_reducible repeat (first | refine blk_drewN ?_ _ | refine blk_drew ?_ | refine blk_alloc ?_ _)); refine blk_far ?_ NB132_133.out _; (with_reducible repeat (first | refine blk_drewN ?_ _ | refine blk_drew ?_ | refine blk_alloc ?_ _)); refine blk_far ?_ NB132_133.out _; (with_reducible repeat (first | refine blk_drewN ?_ _ | refine blk_drew ?_ | refine blk_alloc ?_ _)); exact BK132.out) hb); have n1_ := Aside0.mk (blk_below (g := gb133) (o := .cells #[.int .i64 5, .int .i64 3] 23 (0, 0)) (by (with_reducible repeat (first | refine blk_drewN ?_ _ | refine blk_drew ?_ | refine blk_alloc ?_ _)); refine blk_put (cs := #[.int .i64 5, .int .i64 0]) ?_ 1 _ rfl; (with_reducible repeat (first | refine blk_drewN ?_ _ | refine blk_drew ?_ | refine blk_alloc ?_ _)); refine blk_put (cs := #[.int .i64 0, .int .i64 0]) ?_ 0 _ rfl; (with_reducible repeat (first | refine blk_drewN ?_ _ | refine blk_drew ?_ | refine blk_alloc ?_ _)); exact BK133.out) hb); have n2_ := Aside0.mk (below_step (by repeat (first | (with_reducible first | exact HB.out | apply below_alloc | apply pw_below_drewN | apply below_drew1 | refine below_set ?_ GE132.out | refine below_set ?_ GE133.out) | exact HB.out)) hb); clear BK132; clear BK133; clear HB; have BK132 := n0_; have BK133 := n1_; have HB := n2_; clear n0_ n1_ n2_; (try clear hb); (try clear hb2); (try clear hk); (try clear hi); have hcz97_0 : w96.cell? ⟨gb132, 0, none⟩ = some (.int .i64 4) := (blk_cell BK132.out 0).trans rfl; have hcz97_1 : w96.cell? ⟨gb132, 1, none⟩ = some (.int .i64 1) := (blk_cell BK132.out 1).trans rfl; have hfz97_0 := blk_frozen BK132.out 0; have hfz97_1 := blk_frozen BK132.out 1) | (go_at_call 17; (with_reducible refine (geom_Logical.calls 4 1 t135 _ A9.out).mono ?_); rintro e w98 ⟨rfl, hb⟩; have n0_ := Aside0.mk (blk_below (g := gb132) (o := .cells #[.int .i64 4, .int .i64 1] 23 (0, 0)) (by (with_reducible repeat (first | refine blk_drewN ?_ _ | refine blk_drew ?_ | refine blk_alloc ?_ _)); exact BK132.out) hb); have n1_ := Aside0.mk (blk_below (g := gb133) (o := .cells #[.int .i64 5, .int .i64 3] 23 (0, 0)) (by (with_reducible repeat (first | refine blk_drewN ?_ _ | refine blk_drew ?_ | refine blk_alloc ?_ _)); exact BK133.out) hb); have n2_ := Aside0.mk (below_step (by repeat (first | (with_reducible first | exact HB.out | apply below_alloc | apply pw_below_drewN | apply below_drew1 | refine below_set ?_ GE132.out | refine below_set ?_ GE133.out) | exact HB.out)) hb); clear BK132; clear BK133; clear HB; have BK132 := n0_; have BK133 := n1_; have HB := n2_; clear n0_ n1_ n2_; (try clear hb); (try clear hb2); (try clear hk); (try clear hi)))
        go_meet
        case rel => exact ⟨_, (true), (by first | rfl | (simp; done) | (simp [*]; done)), H', ⟨by first | omega | exact Nat.le_refl _⟩, ⟨by (with_reducible repeat (first | refine blk_drewN ?_ _ | refine blk_drew ?_ | refine blk_alloc ?_ _)); exact BK132.out⟩, ⟨by (with_reducible repeat (first | refine blk_drewN ?_ _ | refine blk_drew ?_ | refine blk_alloc ?_ _)); exact BK133.out⟩, ⟨by repeat (first | (with_reducible first | exact HB.out | apply below_alloc | apply pw_below_drewN | apply below_drew1 | refine below_set ?_ GE132.out | refine below_set ?_ GE133.out) | exact HB.out)⟩⟩
    · rw [if_neg c8] at H
      have c8b0 : (t134 == 3) = false := beq_eq_false_iff_ne.mpr c8
      have c8b1 : (t134 != 3) = true := bne_iff_ne.mpr c8
      (first | rw [c8b0] | (simp only [i64_w, i32_w]; rw [c8b0]) | skip)
      have H' := Aside0.mk H
      clear H
      have hnb99 := NB132_133.out
      have hnc99 := NB133_132.out
      have hcz100_0 : w4.cell? ⟨gb132, 0, none⟩ = some (.int .i64 4) := (blk_cell BK132.out 0).trans rfl
      have hcz100_1 : w4.cell? ⟨gb132, 1, none⟩ = some (.int .i64 1) := (blk_cell BK132.out 1).trans rfl
      have hfz100_0 := blk_frozen BK132.out 0
      have hfz100_1 := blk_frozen BK132.out 1
      go_wp2_with (first | ((with_reducible refine gate_callee (f := 15) rfl ?_); refine goesL_ (some 20) rfl rfl Try.func15 (by kernel_rfl) rfl #[.agg #[.int .i64 4, .int .i64 1]] rfl (by (try simp only [List.map_toArray, List.map_cons, List.map_nil]); first | done | rfl | (simp only [List.length_drop, List.length_take]; rfl)) ?_; (with_reducible refine (geom_Nodes.calls k 4 1 t134 _ A7.out).mono ?_); rintro e w101 ⟨rfl, hb⟩; refine ⟨_, rfl, ?_⟩; have n0_ := Aside0.mk (blk_below (g := gb132) (o := .cells #[.int .i64 4, .int .i64 1] 23 (0, 0)) (by (with_reducible repeat (first | refine blk_drewN ?_ _ | refine blk_drew ?_ | refine blk_alloc ?_ _)); refine blk_far ?_ NB132_133.out _; (with_reducible repeat (first | refine blk_drewN ?_ _ | refine blk_drew ?_ | refine blk_alloc ?_ _)); refine blk_far ?_ NB132_133.out _; (with_reducible repeat (first | refine blk_drewN ?_ _ | refine blk_drew ?_ | refine blk_alloc ?_ _)); exact BK132.out) hb); have n1_ := Aside0.mk (blk_below (g := gb133) (o := .cells #[.int .i64 5, .int .i64 3] 23 (0, 0)) (by (with_reducible repeat (first | refine blk_drewN ?_ _ | refine blk_drew ?_ | refine blk_alloc ?_ _)); refine blk_put (cs := #[.int .i64 5, .int .i64 0]) ?_ 1 _ rfl; (with_reducible repeat (first | refine blk_drewN ?_ _ | refine blk_drew ?_ | refine blk_alloc ?_ _)); refine blk_put (cs := #[.int .i64 0, .int .i64 0]) ?_ 0 _ rfl; (with_reducible repeat (first | refine blk_drewN ?_ _ | refine blk_drew ?_ | refine blk_alloc ?_ _)); exact BK133.out) hb); have n2_ := Aside0.mk (below_step (by repeat (first | (with_reducible first | exact HB.out | apply below_alloc | apply pw_below_drewN | apply below_drew1 | refine below_set ?_ GE132.out | refine below_set ?_ GE133.out) | exact HB.out)) hb); clear BK132; clear BK133; clear HB; have BK132 := n0_; have BK133 := n1_; have HB := n2_; clear n0_ n1_ n2_; (try clear hb); (try clear hb2); (try clear hk); (try clear hi)))
      go_meet
      case rel => exact ⟨_, (true), (by first | rfl | (simp; done) | (simp [*]; done)), H', ⟨by first | omega | exact Nat.le_refl _⟩, ⟨by (with_reducible repeat (first | refine blk_drewN ?_ _ | refine blk_drew ?_ | refine blk_alloc ?_ _)); exact BK132.out⟩, ⟨by (with_reducible repeat (first | refine blk_drewN ?_ _ | refine blk_drew ?_ | refine blk_alloc ?_ _)); exact BK133.out⟩, ⟨by repeat (first | (with_reducible first | exact HB.out | apply below_alloc | apply pw_below_drewN | apply below_drew1 | refine below_set ?_ GE132.out | refine below_set ?_ GE133.out) | exact HB.out)⟩⟩
  case rest =>
    clear HC1
    try clear c1
    try clear c2
    try clear p2
    try clear c3
    try clear c5
    try clear c6
    try clear c7
    try clear c8
    try clear c8b0
    try clear c8b1
    try clear c9
    try clear c10
    try clear c10b0
    try clear c10b1
    try clear c12
    try clear c12b0
    try clear c12b1
    try clear c14
    try clear c14b0
    try clear c14b1
    try clear c15
    try clear c16
    try clear c16b0
    try clear c16b1
    try clear c18
    try clear c18b0
    try clear c18b1
    try clear c20
    try clear c20b0
    try clear c20b1
    try clear c22
    try clear c39
    try clear c54
    try clear c67
    try clear c78
    try clear c87
    try clear c94
    try clear c99
    try clear hcz100_0
    try clear hcz100_1
    try clear hcz23_0
    try clear hcz23_1
    try clear hcz25_0
    try clear hcz25_1
    try clear hcz27_0
    try clear hcz27_1
    try clear hcz29_0
    try clear hcz29_1
    try clear hcz31_0
    try clear hcz31_1
    try clear hcz33_0
    try clear hcz33_1
    try clear hcz35_0
    try clear hcz35_1
    try clear hcz37_0
    try clear hcz37_1
    try clear hcz3_0
    try clear hcz3_1
    try clear hcz40_0
    try clear hcz40_1
    try clear hcz42_0
    try clear hcz42_1
    try clear hcz44_0
    try clear hcz44_1
    try clear hcz46_0
    try clear hcz46_1
    try clear hcz48_0
    try clear hcz48_1
    try clear hcz50_0
    try clear hcz50_1
    try clear hcz52_0
    try clear hcz52_1
    try clear hcz55_0
    try clear hcz55_1
    try clear hcz57_0
    try clear hcz57_1
    try clear hcz59_0
    try clear hcz59_1
    try clear hcz61_0
    try clear hcz61_1
    try clear hcz63_0
    try clear hcz63_1
    try clear hcz65_0
    try clear hcz65_1
    try clear hcz68_0
    try clear hcz68_1
    try clear hcz6_0
    try clear hcz6_1
    try clear hcz70_0
    try clear hcz70_1
    try clear hcz72_0
    try clear hcz72_1
    try clear hcz74_0
    try clear hcz74_1
    try clear hcz76_0
    try clear hcz76_1
    try clear hcz79_0
    try clear hcz79_1
    try clear hcz81_0
    try clear hcz81_1
    try clear hcz83_0
    try clear hcz83_1
    try clear hcz85_0
    try clear hcz85_1
    try clear hcz88_0
    try clear hcz88_1
    try clear hcz90_0
    try clear hcz90_1
    try clear hcz92_0
    try clear hcz92_1
    try clear hcz95_0
    try clear hcz95_1
    try clear hcz97_0
    try clear hcz97_1
    try clear hfz100_0
    try clear hfz100_1
    try clear hfz23_0
    try clear hfz23_1
    try clear hfz25_0
    try clear hfz25_1
    try clear hfz27_0
    try clear hfz27_1
    try clear hfz29_0
    try clear hfz29_1
    try clear hfz31_0
    try clear hfz31_1
    try clear hfz33_0
    try clear hfz33_1
    try clear hfz35_0
    try clear hfz35_1
    try clear hfz37_0
    try clear hfz37_1
    try clear hfz3_0
    try clear hfz3_1
    try clear hfz40_0
    try clear hfz40_1
    try clear hfz42_0
    try clear hfz42_1
    try clear hfz44_0
    try clear hfz44_1
    try clear hfz46_0
    try clear hfz46_1
    try clear hfz48_0
    try clear hfz48_1
    try clear hfz50_0
    try clear hfz50_1
    try clear hfz52_0
    try clear hfz52_1
    try clear hfz55_0
    try clear hfz55_1
    try clear hfz57_0
    try clear hfz57_1
    try clear hfz59_0
    try clear hfz59_1
    try clear hfz61_0
    try clear hfz61_1
    try clear hfz63_0
    try clear hfz63_1
    try clear hfz65_0
    try clear hfz65_1
    try clear hfz68_0
    try clear hfz68_1
    try clear hfz6_0
    try clear hfz6_1
    try clear hfz70_0
    try clear hfz70_1
    try clear hfz72_0
    try clear hfz72_1
    try clear hfz74_0
    try clear hfz74_1
    try clear hfz76_0
    try clear hfz76_1
    try clear hfz79_0
    try clear hfz79_1
    try clear hfz81_0
    try clear hfz81_1
    try clear hfz83_0
    try clear hfz83_1
    try clear hfz85_0
    try clear hfz85_1
    try clear hfz88_0
    try clear hfz88_1
    try clear hfz90_0
    try clear hfz90_1
    try clear hfz92_0
    try clear hfz92_1
    try clear hfz95_0
    try clear hfz95_1
    try clear hfz97_0
    try clear hfz97_1
    obtain ⟨kq, x56_0, rfl, HA, HJ0, BK132, BK133, HB⟩ := hcut
    cases kq with
    | zero => exact absurd HA.out (by simp [casematelaw14_GeomKnown.j0])
    | succ kj0 =>
      have H := HA.out
      clear HA
      simp only [casematelaw14_GeomKnown.j0] at H
      by_cases c102 : x56_0 = true
      · subst c102
        have H1 : (some false) = some r := by rw [if_pos rfl] at H; exact H
        clear H
        have H := H1
        clear H1
        obtain rfl := Option.some.inj H
        go_wp2
        go_ret
        exact ⟨by first | rfl | (simp [errW_none, errW_some] <;> rfl) | (simp [*, errW_none, errW_some] <;> rfl), by repeat (first | (with_reducible first | exact HB.out | apply below_alloc | apply pw_below_drewN | apply below_drew1 | refine below_set ?_ GE132.out | refine below_set ?_ GE133.out) | exact HB.out)⟩
      · replace c102 := Bool.eq_false_iff.mpr c102
        subst c102
        have H1 : ((geom_Place.f kj0 4 1 2 21).bind fun bt142 => ((geom_Place.f kj0 4 1 3 0).bind fun bt144 => ((geom_Place.f kj0 4 1 4 0).bind fun bt146 => ((geom_What.f kj0 4 1 53).bind fun bt148 => ((geom_What.f kj0 4 1 54).bind fun bt151 => (casematelaw14_GeomKnown.l0 kj0 bt142.1 bt142.2 bt144.2 bt146.1 bt146.2 bt148.1 bt148.2.1 bt148.2.2 bt151.2.2 (([(⟨3, 1⟩ : S23), (⟨65, 1⟩ : S23), (⟨4, 0⟩ : S23), (⟨4, 65⟩ : S23)] : List (S23))) 0)))))) = some r := by rw [if_neg (show ¬ (false = true) by decide)] at H; exact H
        clear H
        have H := H1
        clear H1
        replace H := Option.bind_eq_some_iff.mp H
        obtain ⟨⟨t142, t143⟩, A1030, H⟩ := H
        replace H : ((geom_Place.f kj0 4 1 3 0).bind fun bt144 => ((geom_Place.f kj0 4 1 4 0).bind fun bt146 => ((geom_What.f kj0 4 1 53).bind fun bt148 => ((geom_What.f kj0 4 1 54).bind fun bt151 => (casematelaw14_GeomKnown.l0 kj0 t142 t143 bt144.2 bt146.1 bt146.2 bt148.1 bt148.2.1 bt148.2.2 bt151.2.2 (([(⟨3, 1⟩ : S23), (⟨65, 1⟩ : S23), (⟨4, 0⟩ : S23), (⟨4, 65⟩ : S23)] : List (S23))) 0))))) = some r := H
        have A103 := Aside0.mk A1030
        clear A1030
        replace H := Option.bind_eq_some_iff.mp H
        obtain ⟨⟨t144, t145⟩, A1040, H⟩ := H
        replace H : ((geom_Place.f kj0 4 1 4 0).bind fun bt146 => ((geom_What.f kj0 4 1 53).bind fun bt148 => ((geom_What.f kj0 4 1 54).bind fun bt151 => (casematelaw14_GeomKnown.l0 kj0 t142 t143 t145 bt146.1 bt146.2 bt148.1 bt148.2.1 bt148.2.2 bt151.2.2 (([(⟨3, 1⟩ : S23), (⟨65, 1⟩ : S23), (⟨4, 0⟩ : S23), (⟨4, 65⟩ : S23)] : List (S23))) 0)))) = some r := H
        have A104 := Aside0.mk A1040
        clear A1040
        replace H := Option.bind_eq_some_iff.mp H
        obtain ⟨⟨t146, t147⟩, A1050, H⟩ := H
        replace H : ((geom_What.f kj0 4 1 53).bind fun bt148 => ((geom_What.f kj0 4 1 54).bind fun bt151 => (casematelaw14_GeomKnown.l0 kj0 t142 t143 t145 t146 t147 bt148.1 bt148.2.1 bt148.2.2 bt151.2.2 (([(⟨3, 1⟩ : S23), (⟨65, 1⟩ : S23), (⟨4, 0⟩ : S23), (⟨4, 65⟩ : S23)] : List (S23))) 0))) = some r := H
        have A105 := Aside0.mk A1050
        clear A1050
        replace H := Option.bind_eq_some_iff.mp H
        obtain ⟨⟨t148, t149, t150⟩, A1060, H⟩ := H
        replace H : ((geom_What.f kj0 4 1 54).bind fun bt151 => (casematelaw14_GeomKnown.l0 kj0 t142 t143 t145 t146 t147 t148 t149 t150 bt151.2.2 (([(⟨3, 1⟩ : S23), (⟨65, 1⟩ : S23), (⟨4, 0⟩ : S23), (⟨4, 65⟩ : S23)] : List (S23))) 0)) = some r := H
        have A106 := Aside0.mk A1060
        clear A1060
        replace H := Option.bind_eq_some_iff.mp H
        obtain ⟨⟨t151, t152, t153⟩, A1070, H⟩ := H
        replace H : (casematelaw14_GeomKnown.l0 kj0 t142 t143 t145 t146 t147 t148 t149 t150 t153 (([(⟨3, 1⟩ : S23), (⟨65, 1⟩ : S23), (⟨4, 0⟩ : S23), (⟨4, 65⟩ : S23)] : List (S23))) 0) = some r := H
        have A107 := Aside0.mk A1070
        clear A1070
        obtain ⟨y154, hy154⟩ : ∃ y_ : List (S23), y_ = (([(⟨3, 1⟩ : S23), (⟨65, 1⟩ : S23), (⟨4, 0⟩ : S23), (⟨4, 65⟩ : S23)] : List (S23))) := ⟨_, rfl⟩
        replace H : (casematelaw14_GeomKnown.l0 kj0 t142 t143 t145 t146 t147 t148 t149 t150 t153 y154 0) = some r := by first | (rw [hy154]; with_reducible exact H) | (have H2_ := (Option.bind_some _ _).symm.trans H; rw [hy154]; with_reducible exact H2_) | (have H2_ := (Option.bind_some _ _).symm.trans H; with_reducible exact H2_) | with_reducible exact H | (rw [hy154]; exact H) | exact H
        have Ny154 := Aside0.mk hy154
        clear hy154
        have H' := Aside0.mk H
        clear H
        have hnb108 := NB132_133.out
        have hnc108 := NB133_132.out
        have hcz109_0 : wc.cell? ⟨gb132, 0, none⟩ = some (.int .i64 4) := (blk_cell BK132.out 0).trans rfl
        have hcz109_1 : wc.cell? ⟨gb132, 1, none⟩ = some (.int .i64 1) := (blk_cell BK132.out 1).trans rfl
        have hfz109_0 := blk_frozen BK132.out 0
        have hfz109_1 := blk_frozen BK132.out 1
        go_wp2_with (first | ((with_reducible refine gate_callee (f := 26) rfl ?_); refine goesL_ (some 59) rfl rfl Try.func26 (by kernel_rfl) rfl #[.agg #[.int .i64 4, .int .i64 1], .int .i64 2, .int .i64 21] rfl (by (try simp only [List.map_toArray, List.map_cons, List.map_nil]); first | done | rfl | (simp only [List.length_drop, List.length_take]; rfl)) ?_; (with_reducible refine (geom_Place.calls kj0 4 1 2 21 t142 t143 _ A103.out).mono ?_); rintro e w110 ⟨rfl, hb⟩; refine ⟨_, rfl, ?_⟩; have n0_ := Aside0.mk (blk_below (g := gb132) (o := .cells #[.int .i64 4, .int .i64 1] 23 (0, 0)) (by (with_reducible repeat (first | refine blk_drewN ?_ _ | refine blk_drew ?_ | refine blk_alloc ?_ _)); exact BK132.out) hb); have n1_ := Aside0.mk (blk_below (g := gb133) (o := .cells #[.int .i64 5, .int .i64 3] 23 (0, 0)) (by (with_reducible repeat (first | refine blk_drewN ?_ _ | refine blk_drew ?_ | refine blk_alloc ?_ _)); exact BK133.out) hb); have n2_ := Aside0.mk (below_step (by repeat (first | (with_reducible first | exact HB.out | apply below_alloc | apply pw_below_drewN | apply below_drew1 | refine below_set ?_ GE132.out | refine below_set ?_ GE133.out) | exact HB.out)) hb); clear BK132; clear BK133; clear HB; have BK132 := n0_; have BK133 := n1_; have HB := n2_; clear n0_ n1_ n2_; (try clear hb); (try clear hb2); (try clear hk); (try clear hi); have hcz111_0 : w110.cell? ⟨gb132, 0, none⟩ = some (.int .i64 4) := (blk_cell BK132.out 0).trans rfl; have hcz111_1 : w110.cell? ⟨gb132, 1, none⟩ = some (.int .i64 1) := (blk_cell BK132.out 1).trans rfl; have hfz111_0 := blk_frozen BK132.out 0; have hfz111_1 := blk_frozen BK132.out 1) | ((with_reducible refine gate_callee (f := 26) rfl ?_); refine goesL_ (some 64) rfl rfl Try.func26 (by kernel_rfl) rfl #[.agg #[.int .i64 4, .int .i64 1], .int .i64 3, .int .i64 0] rfl (by (try simp only [List.map_toArray, List.map_cons, List.map_nil]); first | done | rfl | (simp only [List.length_drop, List.length_take]; rfl)) ?_; (with_reducible refine (geom_Place.calls kj0 4 1 3 0 t144 t145 _ A104.out).mono ?_); rintro e w112 ⟨rfl, hb⟩; refine ⟨_, rfl, ?_⟩; have n0_ := Aside0.mk (blk_below (g := gb132) (o := .cells #[.int .i64 4, .int .i64 1] 23 (0, 0)) (by (with_reducible repeat (first | refine blk_drewN ?_ _ | refine blk_drew ?_ | refine blk_alloc ?_ _)); exact BK132.out) hb); have n1_ := Aside0.mk (blk_below (g := gb133) (o := .cells #[.int .i64 5, .int .i64 3] 23 (0, 0)) (by (with_reducible repeat (first | refine blk_drewN ?_ _ | refine blk_drew ?_ | refine blk_alloc ?_ _)); exact BK133.out) hb); have n2_ := Aside0.mk (below_step (by repeat (first | (with_reducible first | exact HB.out | apply below_alloc | apply pw_below_drewN | apply below_drew1 | refine below_set ?_ GE132.out | refine below_set ?_ GE133.out) | exact HB.out)) hb); clear BK132; clear BK133; clear HB; have BK132 := n0_; have BK133 := n1_; have HB := n2_; clear n0_ n1_ n2_; (try clear hb); (try clear hb2); (try clear hk); (try clear hi); have hcz113_0 : w112.cell? ⟨gb132, 0, none⟩ = some (.int .i64 4) := (blk_cell BK132.out 0).trans rfl; have hcz113_1 : w112.cell? ⟨gb132, 1, none⟩ = some (.int .i64 1) := (blk_cell BK132.out 1).trans rfl; have hfz113_0 := blk_frozen BK132.out 0; have hfz113_1 := blk_frozen BK132.out 1) | ((with_reducible refine gate_callee (f := 26) rfl ?_); refine goesL_ (some 69) rfl rfl Try.func26 (by kernel_rfl) rfl #[.agg #[.int .i64 4, .int .i64 1], .int .i64 4, .int .i64 0] rfl (by (try simp only [List.map_toArray, List.map_cons, List.map_nil]); first | done | rfl | (simp only [List.length_drop, List.length_take]; rfl)) ?_; (with_reducible refine (geom_Place.calls kj0 4 1 4 0 t146 t147 _ A105.out).mono ?_); rintro e w114 ⟨rfl, hb⟩; refine ⟨_, rfl, ?_⟩; have n0_ := Aside0.mk (blk_below (g := gb132) (o := .cells #[.int .i64 4, .int .i64 1] 23 (0, 0)) (by (with_reducible repeat (first | refine blk_drewN ?_ _ | refine blk_drew ?_ | refine blk_alloc ?_ _)); exact BK132.out) hb); have n1_ := Aside0.mk (blk_below (g := gb133) (o := .cells #[.int .i64 5, .int .i64 3] 23 (0, 0)) (by (with_reducible repeat (first | refine blk_drewN ?_ _ | refine blk_drew ?_ | refine blk_alloc ?_ _)); exact BK133.out) hb); have n2_ := Aside0.mk (below_step (by repeat (first | (with_reducible first | exact HB.out | apply below_alloc | apply pw_below_drewN | apply below_drew1 | refine below_set ?_ GE132.out | refine below_set ?_ GE133.out) | exact HB.out)) hb); clear BK132; clear BK133; clear HB; have BK132 := n0_; have BK133 := n1_; have HB := n2_; clear n0_ n1_ n2_; (try clear hb); (try clear hb2); (try clear hk); (try clear hi); have hcz115_0 : w114.cell? ⟨gb132, 0, none⟩ = some (.int .i64 4) := (blk_cell BK132.out 0).trans rfl; have hcz115_1 : w114.cell? ⟨gb132, 1, none⟩ = some (.int .i64 1) := (blk_cell BK132.out 1).trans rfl; have hfz115_0 := blk_frozen BK132.out 0; have hfz115_1 := blk_frozen BK132.out 1) | ((with_reducible refine gate_callee (f := 28) rfl ?_); refine goesL_ (some 74) rfl rfl Try.func28 (by kernel_rfl) rfl #[.agg #[.int .i64 4, .int .i64 1], .int .i64 53] rfl (by (try simp only [List.map_toArray, List.map_cons, List.map_nil]); first | done | rfl | (simp only [List.length_drop, List.length_take]; rfl)) ?_; (with_reducible refine (geom_What.calls kj0 4 1 53 t148 t149 t150 _ A106.out).mono ?_); rintro e w116 ⟨rfl, hb⟩; refine ⟨_, rfl, ?_⟩; have n0_ := Aside0.mk (blk_below (g := gb132) (o := .cells #[.int .i64 4, .int .i64 1] 23 (0, 0)) (by (with_reducible repeat (first | refine blk_drewN ?_ _ | refine blk_drew ?_ | refine blk_alloc ?_ _)); exact BK132.out) hb); have n1_ := Aside0.mk (blk_below (g := gb133) (o := .cells #[.int .i64 5, .int .i64 3] 23 (0, 0)) (by (with_reducible repeat (first | refine blk_drewN ?_ _ | refine blk_drew ?_ | refine blk_alloc ?_ _)); exact BK133.out) hb); have n2_ := Aside0.mk (below_step (by repeat (first | (with_reducible first | exact HB.out | apply below_alloc | apply pw_below_drewN | apply below_drew1 | refine below_set ?_ GE132.out | refine below_set ?_ GE133.out) | exact HB.out)) hb); clear BK132; clear BK133; clear HB; have BK132 := n0_; have BK133 := n1_; have HB := n2_; clear n0_ n1_ n2_; (try clear hb); (try clear hb2); (try clear hk); (try clear hi); have hcz117_0 : w116.cell? ⟨gb132, 0, none⟩ = some (.int .i64 4) := (blk_cell BK132.out 0).trans rfl; have hcz117_1 : w116.cell? ⟨gb132, 1, none⟩ = some (.int .i64 1) := (blk_cell BK132.out 1).trans rfl; have hfz117_0 := blk_frozen BK132.out 0; have hfz117_1 := blk_frozen BK132.out 1) | ((with_reducible refine gate_callee (f := 28) rfl ?_); refine goesL_ (some 80) rfl rfl Try.func28 (by kernel_rfl) rfl #[.agg #[.int .i64 4, .int .i64 1], .int .i64 54] rfl (by (try simp only [List.map_toArray, List.map_cons, List.map_nil]); first | done | rfl | (simp only [List.length_drop, List.length_take]; rfl)) ?_; (with_reducible refine (geom_What.calls kj0 4 1 54 t151 t152 t153 _ A107.out).mono ?_); rintro e w118 ⟨rfl, hb⟩; refine ⟨_, rfl, ?_⟩; have n0_ := Aside0.mk (blk_below (g := gb132) (o := .cells #[.int .i64 4, .int .i64 1] 23 (0, 0)) (by (with_reducible repeat (first | refine blk_drewN ?_ _ | refine blk_drew ?_ | refine blk_alloc ?_ _)); exact BK132.out) hb); have n1_ := Aside0.mk (blk_below (g := gb133) (o := .cells #[.int .i64 5, .int .i64 3] 23 (0, 0)) (by (with_reducible repeat (first | refine blk_drewN ?_ _ | refine blk_drew ?_ | refine blk_alloc ?_ _)); exact BK133.out) hb); have n2_ := Aside0.mk (below_step (by repeat (first | (with_reducible first | exact HB.out | apply below_alloc | apply pw_below_drewN | apply below_drew1 | refine below_set ?_ GE132.out | refine below_set ?_ GE133.out) | exact HB.out)) hb); clear BK132; clear BK133; clear HB; have BK132 := n0_; have BK133 := n1_; have HB := n2_; clear n0_ n1_ n2_; (try clear hb); (try clear hb2); (try clear hk); (try clear hi)) | ((with_reducible refine gate_dst (N := 88) rfl ?_); refine Kd.R_lit k23 _ 23 ?hg (N := 88) ?hd (xs := ([(⟨3, 1⟩ : S23), (⟨65, 1⟩ : S23), (⟨4, 0⟩ : S23), (⟨4, 65⟩ : S23)] : List (S23))) (inner := [.int .i64 3, .int .i64 1, .int .i64 65, .int .i64 1, .int .i64 4, .int .i64 0, .int .i64 4, .int .i64 65]) (ok := fun _ => True) (okp := fun _ => True) ?hr ?hp (fun _ hk => hk) trivial (Below.refl _ _) (Nat.le_refl _) (by simp) ?_; (case hd => rfl); (case hg => rfl); (case hr => first | (go_simp; done) | (go_simp; rfl)); (case hp => exact (Reps.c2 (show Kd.M k23 _ _ _ (⟨3, 1⟩ : S23) [.int .i64 3, .int .i64 1] from (k23_mkM _ _ _ (⟨3, 1⟩ : S23) )) (Reps.c2 (show Kd.M k23 _ _ _ (⟨65, 1⟩ : S23) [.int .i64 65, .int .i64 1] from (k23_mkM _ _ _ (⟨65, 1⟩ : S23) )) (Reps.c2 (show Kd.M k23 _ _ _ (⟨4, 0⟩ : S23) [.int .i64 4, .int .i64 0] from (k23_mkM _ _ _ (⟨4, 0⟩ : S23) )) (Reps.c2 (show Kd.M k23 _ _ _ (⟨4, 65⟩ : S23) [.int .i64 4, .int .i64 65] from (k23_mkM _ _ _ (⟨4, 65⟩ : S23) )) (Reps.none _ _)))))); intro v155 w119 ho120 hb hg_ hnew_; clear hg_ hnew_; (first | rw [← Ny154.out] at ho120 | (simp only [Int.reduceToNat] at ho120; rw [← Ny154.out] at ho120)); have n0_ := Aside0.mk (Kd.R_lower (Kd.R_newB (Kd.R_newB ho120 (g := gb132) (o := .cells #[.int .i64 4, .int .i64 1] 23 (0, 0)) (by (with_reducible repeat (first | refine blk_drewN ?_ _ | refine blk_drew ?_ | refine blk_alloc ?_ _)); exact BK132.out)) (g := gb133) (o := .cells #[.int .i64 5, .int .i64 3] 23 (0, 0)) (by (with_reducible repeat (first | refine blk_drewN ?_ _ | refine blk_drew ?_ | refine blk_alloc ?_ _)); exact BK133.out)) (below_size (by repeat (first | (with_reducible first | exact HB.out | apply below_alloc | apply pw_below_drewN | apply below_drew1 | refine below_set ?_ GE132.out | refine below_set ?_ GE133.out) | exact HB.out)))); have n1_ := Aside0.mk (blk_below (g := gb132) (o := .cells #[.int .i64 4, .int .i64 1] 23 (0, 0)) (by (with_reducible repeat (first | refine blk_drewN ?_ _ | refine blk_drew ?_ | refine blk_alloc ?_ _)); exact BK132.out) hb); have n2_ := Aside0.mk (blk_below (g := gb133) (o := .cells #[.int .i64 5, .int .i64 3] 23 (0, 0)) (by (with_reducible repeat (first | refine blk_drewN ?_ _ | refine blk_drew ?_ | refine blk_alloc ?_ _)); exact BK133.out) hb); have n3_ := Aside0.mk (below_step (by repeat (first | (with_reducible first | exact HB.out | apply below_alloc | apply pw_below_drewN | apply below_drew1 | refine below_set ?_ GE132.out | refine below_set ?_ GE133.out) | exact HB.out)) hb); clear BK132; clear BK133; clear HB; have HO156 := n0_; have BK132 := n1_; have BK133 := n2_; have HB := n3_; clear n0_ n1_ n2_ n3_; clear hb ho120))
        go_loopg [16] kj0 (fun kq v16 w' => ∃ (x16_2 : Int), v16 = .int .i64 x16_2 ∧ Aside0 (casematelaw14_GeomKnown.l0 kq t142 t143 t145 t146 t147 t148 t149 t150 t153 y154 x16_2 = some r) ∧ Aside0 (kq ≤ kj0) ∧ Aside0 (Kd.R k23 23 w' w.heap.size (fun k_ => k_ ≠ gb132 ∧ k_ ≠ gb133) v155 y154) ∧ Aside0 (w'.heap[gb132]? = some (.cells #[.int .i64 4, .int .i64 1] 23 (0, 0))) ∧ Aside0 (w'.heap[gb133]? = some (.cells #[.int .i64 5, .int .i64 3] 23 (0, 0))) ∧ Aside0 (Below w.heap.size w w'))
        case atStart => exact ⟨(0), (by first | rfl | (simp; done) | (simp [*]; done)), H', ⟨Nat.le_refl _⟩, ⟨by (with_reducible repeat (first | apply Kd.R_alloc | apply Kd.R_drewN | apply Kd.R_drew)); exact Kd.R_mono HO156.out (fun _ hk => ⟨hk.1.2, hk.2⟩)⟩, ⟨by (with_reducible repeat (first | refine blk_drewN ?_ _ | refine blk_drew ?_ | refine blk_alloc ?_ _)); exact BK132.out⟩, ⟨by (with_reducible repeat (first | refine blk_drewN ?_ _ | refine blk_drew ?_ | refine blk_alloc ?_ _)); exact BK133.out⟩, ⟨by repeat (first | (with_reducible first | exact HB.out | apply below_alloc | apply pw_below_drewN | apply below_drew1 | refine below_set ?_ GE132.out | refine below_set ?_ GE133.out) | exact HB.out)⟩⟩
        case round =>
          clear H'
          try clear c1
          try clear c2
          try clear p2
          try clear c3
          try clear c5
          try clear c6
          try clear c7
          try clear c8
          try clear c8b0
          try clear c8b1
          try clear c9
          try clear c10
          try clear c10b0
          try clear c10b1
          try clear c12
          try clear c12b0
          try clear c12b1
          try clear c14
          try clear c14b0
          try clear c14b1
          try clear c15
          try clear c16
          try clear c16b0
          try clear c16b1
          try clear c18
          try clear c18b0
          try clear c18b1
          try clear c20
          try clear c20b0
          try clear c20b1
          try clear c22
          try clear c26
          try clear c28
          try clear c39
          try clear c54
          try clear c67
          try clear c78
          try clear c87
          try clear c94
          try clear c99
          try clear c102
          try clear c108
          try clear hcz100_0
          try clear hcz100_1
          try clear hcz109_0
          try clear hcz109_1
          try clear hcz111_0
          try clear hcz111_1
          try clear hcz113_0
          try clear hcz113_1
          try clear hcz115_0
          try clear hcz115_1
          try clear hcz117_0
          try clear hcz117_1
          try clear hcz23_0
          try clear hcz23_1
          try clear hcz25_0
          try clear hcz25_1
          try clear hcz27_0
          try clear hcz27_1
          try clear hcz29_0
          try clear hcz29_1
          try clear hcz31_0
          try clear hcz31_1
          try clear hcz33_0
          try clear hcz33_1
          try clear hcz35_0
          try clear hcz35_1
          try clear hcz37_0
          try clear hcz37_1
          try clear hcz3_0
          try clear hcz3_1
          try clear hcz40_0
          try clear hcz40_1
          try clear hcz42_0
          try clear hcz42_1
          try clear hcz44_0
          try clear hcz44_1
          try clear hcz46_0
          try clear hcz46_1
          try clear hcz48_0
          try clear hcz48_1
          try clear hcz50_0
          try clear hcz50_1
          try clear hcz52_0
          try clear hcz52_1
          try clear hcz55_0
          try clear hcz55_1
          try clear hcz57_0
          try clear hcz57_1
          try clear hcz59_0
          try clear hcz59_1
          try clear hcz61_0
          try clear hcz61_1
          try clear hcz63_0
          try clear hcz63_1
          try clear hcz65_0
          try clear hcz65_1
          try clear hcz68_0
          try clear hcz68_1
          try clear hcz6_0
          try clear hcz6_1
          try clear hcz70_0
          try clear hcz70_1
          try clear hcz72_0
          try clear hcz72_1
          try clear hcz74_0
          try clear hcz74_1
          try clear hcz76_0
          try clear hcz76_1
          try clear hcz79_0
          try clear hcz79_1
          try clear hcz81_0
          try clear hcz81_1
          try clear hcz83_0
          try clear hcz83_1
          try clear hcz85_0
          try clear hcz85_1
          try clear hcz88_0
          try clear hcz88_1
          try clear hcz90_0
          try clear hcz90_1
          try clear hcz92_0
          try clear hcz92_1
          try clear hcz95_0
          try clear hcz95_1
          try clear hcz97_0
          try clear hcz97_1
          try clear hfz100_0
          try clear hfz100_1
          try clear hfz109_0
          try clear hfz109_1
          try clear hfz111_0
          try clear hfz111_1
          try clear hfz113_0
          try clear hfz113_1
          try clear hfz115_0
          try clear hfz115_1
          try clear hfz117_0
          try clear hfz117_1
          try clear hfz23_0
          try clear hfz23_1
          try clear hfz25_0
          try clear hfz25_1
          try clear hfz27_0
          try clear hfz27_1
          try clear hfz29_0
          try clear hfz29_1
          try clear hfz31_0
          try clear hfz31_1
          try clear hfz33_0
          try clear hfz33_1
          try clear hfz35_0
          try clear hfz35_1
          try clear hfz37_0
          try clear hfz37_1
          try clear hfz3_0
          try clear hfz3_1
          try clear hfz40_0
          try clear hfz40_1
          try clear hfz42_0
          try clear hfz42_1
          try clear hfz44_0
          try clear hfz44_1
          try clear hfz46_0
          try clear hfz46_1
          try clear hfz48_0
          try clear hfz48_1
          try clear hfz50_0
          try clear hfz50_1
          try clear hfz52_0
          try clear hfz52_1
          try clear hfz55_0
          try clear hfz55_1
          try clear hfz57_0
          try clear hfz57_1
          try clear hfz59_0
          try clear hfz59_1
          try clear hfz61_0
          try clear hfz61_1
          try clear hfz63_0
          try clear hfz63_1
          try clear hfz65_0
          try clear hfz65_1
          try clear hfz68_0
          try clear hfz68_1
          try clear hfz6_0
          try clear hfz6_1
          try clear hfz70_0
          try clear hfz70_1
          try clear hfz72_0
          try clear hfz72_1
          try clear hfz74_0
          try clear hfz74_1
          try clear hfz76_0
          try clear hfz76_1
          try clear hfz79_0
          try clear hfz79_1
          try clear hfz81_0
          try clear hfz81_1
          try clear hfz83_0
          try clear hfz83_1
          try clear hfz85_0
          try clear hfz85_1
          try clear hfz88_0
          try clear hfz88_1
          try clear hfz90_0
          try clear hfz90_1
          try clear hfz92_0
          try clear hfz92_1
          try clear hfz95_0
          try clear hfz95_1
          try clear hfz97_0
          try clear hfz97_1
          try clear p2
          obtain ⟨x16_2, rfl, HA, HK2, HO_15, BK132, BK133, HB⟩ := hrel
          cases gk with
          | zero => exact absurd HA.out (by simp [casematelaw14_GeomKnown.l0])
          | succ k2 =>
            have H := HA.out
            clear HA
            simp only [casematelaw14_GeomKnown.l0] at H
            by_cases c121 : x16_2 < (y154.length : Int)
            · rw [if_pos c121] at H
              have c121b0 : decide (x16_2 < (y154.length : Int)) = true := decide_eq_true c121
              clear c121
              by_cases c122 : 0 ≤ x16_2
              · rw [if_pos c122] at H
                have c122b0 : decide (0 ≤ x16_2) = true := decide_eq_true c122
                clear c122
                replace H := Option.bind_eq_some_iff.mp H
                obtain ⟨t158, A1230, H⟩ := H
                replace H : (if t158 = 2 then (casematelaw14_GeomKnown.l0 k2 t142 t143 t145 t146 t147 t148 t149 t150 t153 y154 (wrap64 (x16_2 + 1))) else (some false)) = some r := H
                have A123 := Aside0.mk A1230
                clear A1230
                by_cases c124 : t158 = 2
                · rw [if_pos c124] at H
                  have c124b0 : (t158 == 2) = true := beq_iff_eq.mpr c124
                  have c124b1 : (t158 != 2) = false := bne_eq_false_iff_eq.mpr c124
                  clear c124
                  have H' := Aside0.mk H
                  clear H
                  obtain ⟨Ao125, co125, eo125⟩ := Kd.R_slice HO_15.out
                  subst eo125
                  have p157 : 0 ≤ (x16_2 : Int) := of_decide_eq_true (by first | (with_reducible assumption) | assumption)
                  have q157 : x16_2 < (y154.length : Int) := of_decide_eq_true (by first | (with_reducible assumption) | assumption)
                  obtain ⟨ad157, e157, hx157_0, hx157_1⟩ := at_T23 (Kd.R_reads' HO_15.out).2.2 x16_2 p157 q157
                  cases e157
                  replace p157 := eq_true p157
                  replace q157 := eq_true q157
                  go_wp2_with (first | ((with_reducible refine gate_callee (f := 9) rfl ?_); refine goesL_ (some 99) rfl rfl Try.func9 (by kernel_rfl) rfl #[.agg #[.int .i64 ((rd_T23 y154 x16_2).f0), .int .i64 ((rd_T23 y154 x16_2).f1)]] rfl (by (try simp only [List.map_toArray, List.map_cons, List.map_nil]); first | done | rfl | (simp only [List.length_drop, List.length_take]; rfl)) ?_; (with_reducible refine (geom_Check.calls ((rd_T23 y154 x16_2).f0) ((rd_T23 y154 x16_2).f1) t158 _ A123.out).mono ?_); rintro e w126 ⟨rfl, hb⟩; refine ⟨_, rfl, ?_⟩; have n0_ := Aside0.mk (Kd.R_below (by (with_reducible repeat (first | apply Kd.R_alloc | apply Kd.R_drewN | apply Kd.R_drew)); exact HO_15.out) hb); have n1_ := Aside0.mk (blk_below (g := gb132) (o := .cells #[.int .i64 4, .int .i64 1] 23 (0, 0)) (by (with_reducible repeat (first | refine blk_drewN ?_ _ | refine blk_drew ?_ | refine blk_alloc ?_ _)); exact BK132.out) hb); have n2_ := Aside0.mk (blk_below (g := gb133) (o := .cells #[.int .i64 5, .int .i64 3] 23 (0, 0)) (by (with_reducible repeat (first | refine blk_drewN ?_ _ | refine blk_drew ?_ | refine blk_alloc ?_ _)); exact BK133.out) hb); have n3_ := Aside0.mk (below_step (by repeat (first | (with_reducible first | exact HB.out | apply below_alloc | apply pw_below_drewN | apply below_drew1 | refine below_set ?_ GE132.out | refine below_set ?_ GE133.out) | exact HB.out)) hb); clear HO_15; clear BK132; clear BK133; clear HB; have HO_15 := n0_; have BK132 := n1_; have BK133 := n2_; have HB := n3_; clear n0_ n1_ n2_ n3_; (try clear hb); (try clear hb2); (try clear hk); (try clear hi)))
                  go_roundg k2
                  case measure => have := HJ0.out; have := HK2.out; omega
                  case rel => exact ⟨(wrap64 (x16_2 + 1)), (by first | rfl | (simp; done) | (simp [*]; done)), H', ⟨by have := HJ0.out; have := HK2.out; omega⟩, ⟨by (with_reducible repeat (first | apply Kd.R_alloc | apply Kd.R_drewN | apply Kd.R_drew)); exact HO_15.out⟩, ⟨by (with_reducible repeat (first | refine blk_drewN ?_ _ | refine blk_drew ?_ | refine blk_alloc ?_ _)); exact BK132.out⟩, ⟨by (with_reducible repeat (first | refine blk_drewN ?_ _ | refine blk_drew ?_ | refine blk_alloc ?_ _)); exact BK133.out⟩, ⟨by repeat (first | (with_reducible first | exact HB.out | apply below_alloc | apply pw_below_drewN | apply below_drew1 | refine below_set ?_ GE132.out | refine below_set ?_ GE133.out) | exact HB.out)⟩⟩
                · rw [if_neg c124] at H
                  have c124b0 : (t158 == 2) = false := beq_eq_false_iff_ne.mpr c124
                  have c124b1 : (t158 != 2) = true := bne_iff_ne.mpr c124
                  obtain rfl := Option.some.inj H
                  obtain ⟨Ao127, co127, eo127⟩ := Kd.R_slice HO_15.out
                  subst eo127
                  have p157 : 0 ≤ (x16_2 : Int) := of_decide_eq_true (by first | (with_reducible assumption) | assumption)
                  have q157 : x16_2 < (y154.length : Int) := of_decide_eq_true (by first | (with_reducible assumption) | assumption)
                  obtain ⟨ad157, e157, hx157_0, hx157_1⟩ := at_T23 (Kd.R_reads' HO_15.out).2.2 x16_2 p157 q157
                  cases e157
                  replace p157 := eq_true p157
                  replace q157 := eq_true q157
                  go_wp2_with (first | ((with_reducible refine gate_callee (f := 9) rfl ?_); refine goesL_ (some 99) rfl rfl Try.func9 (by kernel_rfl) rfl #[.agg #[.int .i64 ((rd_T23 y154 x16_2).f0), .int .i64 ((rd_T23 y154 x16_2).f1)]] rfl (by (try simp only [List.map_toArray, List.map_cons, List.map_nil]); first | done | rfl | (simp only [List.length_drop, List.length_take]; rfl)) ?_; (with_reducible refine (geom_Check.calls ((rd_T23 y154 x16_2).f0) ((rd_T23 y154 x16_2).f1) t158 _ A123.out).mono ?_); rintro e w128 ⟨rfl, hb⟩; refine ⟨_, rfl, ?_⟩; have n0_ := Aside0.mk (Kd.R_below (by (with_reducible repeat (first | apply Kd.R_alloc | apply Kd.R_drewN | apply Kd.R_drew)); exact HO_15.out) hb); have n1_ := Aside0.mk (blk_below (g := gb132) (o := .cells #[.int .i64 4, .int .i64 1] 23 (0, 0)) (by (with_reducible repeat (first | refine blk_drewN ?_ _ | refine blk_drew ?_ | refine blk_alloc ?_ _)); exact BK132.out) hb); have n2_ := Aside0.mk (blk_below (g := gb133) (o := .cells #[.int .i64 5, .int .i64 3] 23 (0, 0)) (by (with_reducible repeat (first | refine blk_drewN ?_ _ | refine blk_drew ?_ | refine blk_alloc ?_ _)); exact BK133.out) hb); have n3_ := Aside0.mk (below_step (by repeat (first | (with_reducible first | exact HB.out | apply below_alloc | apply pw_below_drewN | apply below_drew1 | refine below_set ?_ GE132.out | refine below_set ?_ GE133.out) | exact HB.out)) hb); clear HO_15; clear BK132; clear BK133; clear HB; have HO_15 := n0_; have BK132 := n1_; have BK133 := n2_; have HB := n3_; clear n0_ n1_ n2_ n3_; (try clear hb); (try clear hb2); (try clear hk); (try clear hi)))
                  go_ret
                  exact ⟨by first | rfl | (simp [errW_none, errW_some] <;> rfl) | (simp [*, errW_none, errW_some] <;> rfl), by repeat (first | (with_reducible first | exact HB.out | apply below_alloc | apply pw_below_drewN | apply below_drew1 | refine below_set ?_ GE132.out | refine below_set ?_ GE133.out) | exact HB.out)⟩
              · rw [if_neg c122] at H
                exact absurd H (by simp)
            · rw [if_neg c121] at H
              have c121b0 : decide (x16_2 < (y154.length : Int)) = false := decide_eq_false c121
              clear c121
              by_cases c129 : t142 = 29
              · rw [if_pos c129] at H
                have c129b0 : (t142 == 29) = true := beq_iff_eq.mpr c129
                have c129b1 : (t142 != 29) = false := bne_eq_false_iff_eq.mpr c129
                clear c129
                by_cases c130 : t143 = 0
                · rw [if_pos c130] at H
                  have c130b0 : (t143 == 0) = true := beq_iff_eq.mpr c130
                  have c130b1 : (t143 != 0) = false := bne_eq_false_iff_eq.mpr c130
                  clear c130
                  by_cases c131 : t145 = 2
                  · rw [if_pos c131] at H
                    have c131b0 : (t145 == 2) = true := beq_iff_eq.mpr c131
                    have c131b1 : (t145 != 2) = false := bne_eq_false_iff_eq.mpr c131
                    clear c131
                    by_cases c132 : t146 = 53
                    · rw [if_pos c132] at H
                      have c132b0 : (t146 == 53) = true := beq_iff_eq.mpr c132
                      have c132b1 : (t146 != 53) = false := bne_eq_false_iff_eq.mpr c132
                      clear c132
                      by_cases c133 : t147 = 0
                      · rw [if_pos c133] at H
                        have c133b0 : (t147 == 0) = true := beq_iff_eq.mpr c133
                        have c133b1 : (t147 != 0) = false := bne_eq_false_iff_eq.mpr c133
                        clear c133
                        by_cases c134 : t148 = 4
                        · rw [if_pos c134] at H
                          have c134b0 : (t148 == 4) = true := beq_iff_eq.mpr c134
                          have c134b1 : (t148 != 4) = false := bne_eq_false_iff_eq.mpr c134
                          clear c134
                          by_cases c135 : t149 = 0
                          · rw [if_pos c135] at H
                            have c135b0 : (t149 == 0) = true := beq_iff_eq.mpr c135
                            have c135b1 : (t149 != 0) = false := bne_eq_false_iff_eq.mpr c135
                            clear c135
                            by_cases c136 : t150 = 0
                            · rw [if_pos c136] at H
                              have c136b0 : (t150 == 0) = true := beq_iff_eq.mpr c136
                              have c136b1 : (t150 != 0) = false := bne_eq_false_iff_eq.mpr c136
                              clear c136
                              by_cases c137 : t153 = 2
                              · rw [if_pos c137] at H
                                have c137b0 : (t153 == 2) = true := beq_iff_eq.mpr c137
                                have c137b1 : (t153 != 2) = false := bne_eq_false_iff_eq.mpr c137
                                clear c137
                                replace H := Option.bind_eq_some_iff.mp H
                                obtain ⟨t159, A1380, H⟩ := H
                                replace H : (some t159) = some r := H
                                have A138 := Aside0.mk A1380
                                clear A1380
                                obtain rfl := Option.some.inj H
                                obtain ⟨Ao139, co139, eo139⟩ := Kd.R_slice HO_15.out
                                subst eo139
                                go_wp2_with (first | (go_at_call 25; (with_reducible refine (casematelaw14_works.calls k2  t159 _ A138.out).mono ?_); rintro e w140 ⟨rfl, hb⟩; have n0_ := Aside0.mk (Kd.R_below (by (with_reducible repeat (first | apply Kd.R_alloc | apply Kd.R_drewN | apply Kd.R_drew)); exact HO_15.out) hb); have n1_ := Aside0.mk (blk_below (g := gb132) (o := .cells #[.int .i64 4, .int .i64 1] 23 (0, 0)) (by (with_reducible repeat (first | refine blk_drewN ?_ _ | refine blk_drew ?_ | refine blk_alloc ?_ _)); exact BK132.out) hb); have n2_ := Aside0.mk (blk_below (g := gb133) (o := .cells #[.int .i64 5, .int .i64 3] 23 (0, 0)) (by (with_reducible repeat (first | refine blk_drewN ?_ _ | refine blk_drew ?_ | refine blk_alloc ?_ _)); exact BK133.out) hb); have n3_ := Aside0.mk (below_step (by repeat (first | (with_reducible first | exact HB.out | apply below_alloc | apply pw_below_drewN | apply below_drew1 | refine below_set ?_ GE132.out | refine below_set ?_ GE133.out) | exact HB.out)) hb); clear HO_15; clear BK132; clear BK133; clear HB; have HO_15 := n0_; have BK132 := n1_; have BK133 := n2_; have HB := n3_; clear n0_ n1_ n2_ n3_; (try clear hb); (try clear hb2); (try clear hk); (try clear hi)))
                                go_ret
                                exact ⟨by first | rfl | (simp [errW_none, errW_some] <;> rfl) | (simp [*, errW_none, errW_some] <;> rfl), by repeat (first | (with_reducible first | exact HB.out | apply below_alloc | apply pw_below_drewN | apply below_drew1 | refine below_set ?_ GE132.out | refine below_set ?_ GE133.out) | exact HB.out)⟩
                              · rw [if_neg c137] at H
                                have c137b0 : (t153 == 2) = false := beq_eq_false_iff_ne.mpr c137
                                have c137b1 : (t153 != 2) = true := bne_iff_ne.mpr c137
                                obtain rfl := Option.some.inj H
                                obtain ⟨Ao141, co141, eo141⟩ := Kd.R_slice HO_15.out
                                subst eo141
                                go_wp2
                                go_ret
                                exact ⟨by first | rfl | (simp [errW_none, errW_some] <;> rfl) | (simp [*, errW_none, errW_some] <;> rfl), by repeat (first | (with_reducible first | exact HB.out | apply below_alloc | apply pw_below_drewN | apply below_drew1 | refine below_set ?_ GE132.out | refine below_set ?_ GE133.out) | exact HB.out)⟩
                            · rw [if_neg c136] at H
                              have c136b0 : (t150 == 0) = false := beq_eq_false_iff_ne.mpr c136
                              have c136b1 : (t150 != 0) = true := bne_iff_ne.mpr c136
                              obtain rfl := Option.some.inj H
                              obtain ⟨Ao142, co142, eo142⟩ := Kd.R_slice HO_15.out
                              subst eo142
                              go_wp2
                              go_ret
                              exact ⟨by first | rfl | (simp [errW_none, errW_some] <;> rfl) | (simp [*, errW_none, errW_some] <;> rfl), by repeat (first | (with_reducible first | exact HB.out | apply below_alloc | apply pw_below_drewN | apply below_drew1 | refine below_set ?_ GE132.out | refine below_set ?_ GE133.out) | exact HB.out)⟩
                          · rw [if_neg c135] at H
                            have c135b0 : (t149 == 0) = false := beq_eq_false_iff_ne.mpr c135
                            have c135b1 : (t149 != 0) = true := bne_iff_ne.mpr c135
                            obtain rfl := Option.some.inj H
                            obtain ⟨Ao143, co143, eo143⟩ := Kd.R_slice HO_15.out
                            subst eo143
                            go_wp2
                            go_ret
                            exact ⟨by first | rfl | (simp [errW_none, errW_some] <;> rfl) | (simp [*, errW_none, errW_some] <;> rfl), by repeat (first | (with_reducible first | exact HB.out | apply below_alloc | apply pw_below_drewN | apply below_drew1 | refine below_set ?_ GE132.out | refine below_set ?_ GE133.out) | exact HB.out)⟩
                        · rw [if_neg c134] at H
                          have c134b0 : (t148 == 4) = false := beq_eq_false_iff_ne.mpr c134
                          have c134b1 : (t148 != 4) = true := bne_iff_ne.mpr c134
                          obtain rfl := Option.some.inj H
                          obtain ⟨Ao144, co144, eo144⟩ := Kd.R_slice HO_15.out
                          subst eo144
                          go_wp2
                          go_ret
                          exact ⟨by first | rfl | (simp [errW_none, errW_some] <;> rfl) | (simp [*, errW_none, errW_some] <;> rfl), by repeat (first | (with_reducible first | exact HB.out | apply below_alloc | apply pw_below_drewN | apply below_drew1 | refine below_set ?_ GE132.out | refine below_set ?_ GE133.out) | exact HB.out)⟩
                      · rw [if_neg c133] at H
                        have c133b0 : (t147 == 0) = false := beq_eq_false_iff_ne.mpr c133
                        have c133b1 : (t147 != 0) = true := bne_iff_ne.mpr c133
                        obtain rfl := Option.some.inj H
                        obtain ⟨Ao145, co145, eo145⟩ := Kd.R_slice HO_15.out
                        subst eo145
                        go_wp2
                        go_ret
                        exact ⟨by first | rfl | (simp [errW_none, errW_some] <;> rfl) | (simp [*, errW_none, errW_some] <;> rfl), by repeat (first | (with_reducible first | exact HB.out | apply below_alloc | apply pw_below_drewN | apply below_drew1 | refine below_set ?_ GE132.out | refine below_set ?_ GE133.out) | exact HB.out)⟩
                    · rw [if_neg c132] at H
                      have c132b0 : (t146 == 53) = false := beq_eq_false_iff_ne.mpr c132
                      have c132b1 : (t146 != 53) = true := bne_iff_ne.mpr c132
                      obtain rfl := Option.some.inj H
                      obtain ⟨Ao146, co146, eo146⟩ := Kd.R_slice HO_15.out
                      subst eo146
                      go_wp2
                      go_ret
                      exact ⟨by first | rfl | (simp [errW_none, errW_some] <;> rfl) | (simp [*, errW_none, errW_some] <;> rfl), by repeat (first | (with_reducible first | exact HB.out | apply below_alloc | apply pw_below_drewN | apply below_drew1 | refine below_set ?_ GE132.out | refine below_set ?_ GE133.out) | exact HB.out)⟩
                  · rw [if_neg c131] at H
                    have c131b0 : (t145 == 2) = false := beq_eq_false_iff_ne.mpr c131
                    have c131b1 : (t145 != 2) = true := bne_iff_ne.mpr c131
                    obtain rfl := Option.some.inj H
                    obtain ⟨Ao147, co147, eo147⟩ := Kd.R_slice HO_15.out
                    subst eo147
                    go_wp2
                    go_ret
                    exact ⟨by first | rfl | (simp [errW_none, errW_some] <;> rfl) | (simp [*, errW_none, errW_some] <;> rfl), by repeat (first | (with_reducible first | exact HB.out | apply below_alloc | apply pw_below_drewN | apply below_drew1 | refine below_set ?_ GE132.out | refine below_set ?_ GE133.out) | exact HB.out)⟩
                · rw [if_neg c130] at H
                  have c130b0 : (t143 == 0) = false := beq_eq_false_iff_ne.mpr c130
                  have c130b1 : (t143 != 0) = true := bne_iff_ne.mpr c130
                  obtain rfl := Option.some.inj H
                  obtain ⟨Ao148, co148, eo148⟩ := Kd.R_slice HO_15.out
                  subst eo148
                  go_wp2
                  go_ret
                  exact ⟨by first | rfl | (simp [errW_none, errW_some] <;> rfl) | (simp [*, errW_none, errW_some] <;> rfl), by repeat (first | (with_reducible first | exact HB.out | apply below_alloc | apply pw_below_drewN | apply below_drew1 | refine below_set ?_ GE132.out | refine below_set ?_ GE133.out) | exact HB.out)⟩
              · rw [if_neg c129] at H
                have c129b0 : (t142 == 29) = false := beq_eq_false_iff_ne.mpr c129
                have c129b1 : (t142 != 29) = true := bne_iff_ne.mpr c129
                obtain rfl := Option.some.inj H
                obtain ⟨Ao149, co149, eo149⟩ := Kd.R_slice HO_15.out
                subst eo149
                go_wp2
                go_ret
                exact ⟨by first | rfl | (simp [errW_none, errW_some] <;> rfl) | (simp [*, errW_none, errW_some] <;> rfl), by repeat (first | (with_reducible first | exact HB.out | apply below_alloc | apply pw_below_drewN | apply below_drew1 | refine below_set ?_ GE132.out | refine below_set ?_ GE133.out) | exact HB.out)⟩

/-- THE ONE PURE STATEMENT of casematelaw14_GeomKnown: yours. -/
def casematelaw14_GeomKnown.Pure : Prop := ∃ k, casematelaw14_GeomKnown.f k  = some true
theorem casematelaw14_GeomKnown.walk (P : casematelaw14_GeomKnown.Pure)  (w : World)  :
    Calls Try.prog 8 #[] w fun e w' => e = .returned (.bool true) ∧ Below w.heap.size w w' := by
  obtain ⟨k, h⟩ := P  
  refine (casematelaw14_GeomKnown.calls k  true w h).mono ?_
  rintro e w' ⟨rfl, hd⟩
  exact ⟨rfl, hd⟩

end Go.Proofs.Ythmdpcdcbfndiaa.PGeomKnown
