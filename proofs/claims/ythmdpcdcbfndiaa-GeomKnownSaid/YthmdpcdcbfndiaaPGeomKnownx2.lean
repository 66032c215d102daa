-- MADE BY THIS SESSION (fakeprint): not the kit's print
import Derived.Test.YthmdpcdcbfndiaaWk
import Derived.Test.YthmdpcdcbfndiaaPGeomKnownx0
import Derived.Test.YthmdpcdcbfndiaaPGeomKnownx1
namespace Go.Proofs.Ythmdpcdcbfndiaa.PGeomKnown
open Go.RowKit Go.Proofs.YthmdpcdcbfndiaaW.PrintWords Go.Proofs.YthmdpcdcbfndiaaW.PrintLast Go.Proofs.YthmdpcdcbfndiaaW.PrintMore
attribute [local go_sem] max2_int min2_int max_two min_two max_three min_three max_four min_four   -- for this text's walks alone
set_option linter.unusedVariables false
set_option linter.unusedSimpArgs false

/-! ### casematelaw14_works: function 25 -/
def casematelaw14_works.f (k : Nat)  : Option (Bool) := (geom_Place.f k 4 1 3 1).bind fun bt124 => ((geom_Leaves.f 4 1).bind fun t126 => (if t126 = 4 then ((geom_Height.f k 4 1).bind fun t127 => (if t127 = 2 then ((geom_Half.f k 4 1).bind fun t128 => (if t128 = 21 then ((geom_Sectors.f k 4 1).bind fun t129 => (if t129 = 54 then (if bt124.1 = 50 then (some (bt124.2 == 0)) else (some false)) else (some false))) else (some false))) else (some false))) else (some false)))
theorem casematelaw14_works.mono : ∀ k, LeO (casematelaw14_works.f k ) (casematelaw14_works.f (k + 1) ) := by
  intro  k
  unfold casematelaw14_works.f
  repeat' first
      | (with_reducible exact geom_Half.mono _ _ _)
      | (with_reducible exact geom_Height.mono _ _ _)
      | (with_reducible exact geom_Place.mono _ _ _ _ _)
      | (with_reducible exact geom_Sectors.mono _ _ _)
      | (with_reducible exact LeO.refl _)
      | (with_reducible exact LeO.none _)
      | (with_reducible refine LeO.ite ?_ ?_)
      | (with_reducible refine LeO.bind ?_ (fun _ => ?_))
      | exact geom_Half.mono _ _ _
      | exact geom_Height.mono _ _ _
      | exact geom_Place.mono _ _ _ _ _
      | exact geom_Sectors.mono _ _ _
      | exact LeO.none _
      | refine LeO.ite ?_ ?_
      | refine LeO.bind ?_ (fun _ => ?_)
set_option maxHeartbeats 8000000 in
set_option maxRecDepth 100000 in
theorem casematelaw14_works.calls (k : Nat)  (r : Bool) (w : World) (h : casematelaw14_works.f k  = some r) :
    Calls Try.prog 25 #[] w fun e w' => e = .returned (.bool r) ∧ Below w.heap.size w w' := by
  have hu23 := Try.underlying23
  have HB := Aside0.mk (Below.refl w.heap.size w)
  have H : ((geom_Place.f k 4 1 3 1).bind fun bt124 => ((geom_Leaves.f 4 1).bind fun t126 => (if t126 = 4 then ((geom_Height.f k 4 1).bind fun t127 => (if t127 = 2 then ((geom_Half.f k 4 1).bind fun t128 => (if t128 = 21 then ((geom_Sectors.f k 4 1).bind fun t129 => (if t129 = 54 then (if bt124.1 = 50 then (some (bt124.2 == 0)) else (some false)) else (some false))) else (some false))) else (some false))) else (some false)))) = some r := h
  clear h
  replace H := Option.bind_eq_some_iff.mp H
  obtain ⟨⟨t124, t125⟩, A10, H⟩ := H
  replace H : ((geom_Leaves.f 4 1).bind fun t126 => (if t126 = 4 then ((geom_Height.f k 4 1).bind fun t127 => (if t127 = 2 then ((geom_Half.f k 4 1).bind fun t128 => (if t128 = 21 then ((geom_Sectors.f k 4 1).bind fun t129 => (if t129 = 54 then (if t124 = 50 then (some (t125 == 0)) else (some false)) else (some false))) else (some false))) else (some false))) else (some false))) = some r := H
  have A1 := Aside0.mk A10
  clear A10
  replace H := Option.bind_eq_some_iff.mp H
  obtain ⟨t126, A20, H⟩ := H
  replace H : (if t126 = 4 then ((geom_Height.f k 4 1).bind fun t127 => (if t127 = 2 then ((geom_Half.f k 4 1).bind fun t128 => (if t128 = 21 then ((geom_Sectors.f k 4 1).bind fun t129 => (if t129 = 54 then (if t124 = 50 then (some (t125 == 0)) else (some false)) else (some false))) else (some false))) else (some false))) else (some false)) = some r := H
  have A2 := Aside0.mk A20
  clear A20
  by_cases c3 : t126 = 4
  · rw [if_pos c3] at H
    have c3b0 : (t126 == 4) = true := beq_iff_eq.mpr c3
    have c3b1 : (t126 != 4) = false := bne_eq_false_iff_eq.mpr c3
    clear c3
    replace H := Option.bind_eq_some_iff.mp H
    obtain ⟨t127, A40, H⟩ := H
    replace H : (if t127 = 2 then ((geom_Half.f k 4 1).bind fun t128 => (if t128 = 21 then ((geom_Sectors.f k 4 1).bind fun t129 => (if t129 = 54 then (if t124 = 50 then (some (t125 == 0)) else (some false)) else (some false))) else (some false))) else (some false)) = some r := H
    have A4 := Aside0.mk A40
    clear A40
    by_cases c5 : t127 = 2
    · rw [if_pos c5] at H
      have c5b0 : (t127 == 2) = true := beq_iff_eq.mpr c5
      have c5b1 : (t127 != 2) = false := bne_eq_false_iff_eq.mpr c5
      clear c5
      replace H := Option.bind_eq_some_iff.mp H
      obtain ⟨t128, A60, H⟩ := H
      replace H : (if t128 = 21 then ((geom_Sectors.f k 4 1).bind fun t129 => (if t129 = 54 then (if t124 = 50 then (some (t125 == 0)) else (some false)) else (some false))) else (some false)) = some r := H
      have A6 := Aside0.mk A60
      clear A60
      by_cases c7 : t128 = 21
      · rw [if_pos c7] at H
        have c7b0 : (t128 == 21) = true := beq_iff_eq.mpr c7
        have c7b1 : (t128 != 21) = false := bne_eq_false_iff_eq.mpr c7
        clear c7
        replace H := Option.bind_eq_some_iff.mp H
        obtain ⟨t129, A80, H⟩ := H
        replace H : (if t129 = 54 then (if t124 = 50 then (some (t125 == 0)) else (some false)) else (some false)) = some r := H
        have A8 := Aside0.mk A80
        clear A80
        by_cases c9 : t129 = 54
        · rw [if_pos c9] at H
          have c9b0 : (t129 == 54) = true := beq_iff_eq.mpr c9
          have c9b1 : (t129 != 54) = false := bne_eq_false_iff_eq.mpr c9
          clear c9
          by_cases c10 : t124 = 50
          · rw [if_pos c10] at H
            have c10b0 : (t124 == 50) = true := beq_iff_eq.mpr c10
            have c10b1 : (t124 != 50) = false := bne_eq_false_iff_eq.mpr c10
            clear c10
            obtain rfl := Option.some.inj H
            go_enter Try.func25, Try.ntmps25
            go_wp2_with (first | ((with_reducible refine gate_dst (N := 1) rfl ?_); refine box_event ?hg (N := 1) ?hd (cs := #[.int .i64 0, .int .i64 0]) (t := 23) ?hr ?_; (case hd => rfl); (case hg => rfl); (case hr => first | (go_simp; done) | (go_simp; rfl)); intro gb123 hg w11 hbox hb; have n0_ := Aside0.mk (below_step (by repeat (first | (with_reducible first | exact HB.out | apply below_alloc | apply pw_below_drewN | apply below_drew1) | exact HB.out)) hb); have n1_ := Aside0.mk (hbox); have n2_ := Aside0.mk ((by rw [hg]; exact (below_size (by repeat (first | (with_reducible first | exact HB.out | apply below_alloc | apply pw_below_drewN | apply below_drew1) | exact HB.out))) : w.heap.size ≤ gb123)); have n3_ := Aside0.mk ((by rw [hg]; exact (below_size (by repeat (first | (with_reducible first | exact HB.out | apply below_alloc | apply pw_below_drewN | apply below_drew1) | exact HB.out))) : w.heap.size ≤ gb123)); clear HB; have HB := n0_; have BK123 := n1_; have GW123 := n2_; have GE123 := n3_; clear n0_ n1_ n2_ n3_; clear hb hbox hg; have hcz12_0 : w11.cell? ⟨gb123, 0, none⟩ = some (.int .i64 0) := (blk_cell BK123.out 0).trans rfl; have hcz12_1 : w11.cell? ⟨gb123, 1, none⟩ = some (.int .i64 0) := (blk_cell BK123.out 1).trans rfl; have hfz12_0 := blk_frozen BK123.out 0; have hfz12_1 := blk_frozen BK123.out 1) | ((with_reducible refine gate_callee (f := 26) rfl ?_); refine goesL_ (some 7) rfl rfl Try.func26 (by kernel_rfl) rfl #[.agg #[.int .i64 4, .int .i64 1], .int .i64 3, .int .i64 1] rfl (by (try simp only [List.map_toArray, List.map_cons, List.map_nil]); first | done | rfl | (simp only [List.length_drop, List.length_take]; rfl)) ?_; (with_reducible refine (geom_Place.calls k 4 1 3 1 t124 t125 _ A1.out).mono ?_); rintro e w13 ⟨rfl, hb⟩; refine ⟨_, rfl, ?_⟩; have n0_ := Aside0.mk (blk_below (g := gb123) (o := .cells #[.int .i64 4, .int .i64 1] 23 (0, 0)) (by (with_reducible repeat (first | refine blk_drewN ?_ _ | refine blk_drew ?_ | refine blk_alloc ?_ _)); refine blk_put (cs := #[.int .i64 4, .int .i64 0]) ?_ 1 _ rfl; (with_reducible repeat (first | refine blk_drewN ?_ _ | refine blk_drew ?_ | refine blk_alloc ?_ _)); refine blk_put (cs := #[.int .i64 0, .int .i64 0]) ?_ 0 _ rfl; (with_reducible repeat (first | refine blk_drewN ?_ _ | refine blk_drew ?_ | refine blk_alloc ?_ _)); exact BK123.out) hb); have n1_ := Aside0.mk (below_step (by repeat (first | (with_reducible first | exact HB.out | apply below_alloc | apply pw_below_drewN | apply below_drew1 | refine below_set ?_ GE123.out) | exact HB.out)) hb); clear BK123; clear HB; have BK123 := n0_; have HB := n1_; clear n0_ n1_; (try clear hb); (try clear hb2); (try clear hk); (try clear hi); have hcz14_0 : w13.cell? ⟨gb123, 0, none⟩ = some (.int .i64 4) := (blk_cell BK123.out 0).trans rfl; have hcz14_1 : w13.cell? ⟨gb123, 1, none⟩ = some (.int .i64 1) := (blk_cell BK123.out 1).trans rfl; have hfz14_0 := blk_frozen BK123.out 0; have hfz14_1 := blk_frozen BK123.out 1) | ((with_reducible refine gate_callee (f := 11) rfl ?_); refine goesL_ (some 11) rfl rfl Try.func11 (by kernel_rfl) rfl #[.agg #[.int .i64 4, .int .i64 1]] rfl (by (try simp only [List.map_toArray, List.map_cons, List.map_nil]); first | done | rfl | (simp only [List.length_drop, List.length_take]; rfl)) ?_; (with_reducible refine (geom_Leaves.calls 4 1 t126 _ A2.out).mono ?_); rintro e w15 ⟨rfl, hb⟩; refine ⟨_, rfl, ?_⟩; have n0_ := Aside0.mk (blk_below (g := gb123) (o := .cells #[.int .i64 4, .int .i64 1] 23 (0, 0)) (by (with_reducible repeat (first | refine blk_drewN ?_ _ | refine blk_drew ?_ | refine blk_alloc ?_ _)); exact BK123.out) hb); have n1_ := Aside0.mk (below_step (by repeat (first | (with_reducible first | exact HB.out | apply below_alloc | apply pw_below_drewN | apply below_drew1 | refine below_set ?_ GE123.out) | exact HB.out)) hb); clear BK123; clear HB; have BK123 := n0_; have HB := n1_; clear n0_ n1_; (try clear hb); (try clear hb2); (try clear hk); (try clear hi); have hcz16_0 : w15.cell? ⟨gb123, 0, none⟩ = some (.int .i64 4) := (blk_cell BK123.out 0).trans rfl; have hcz16_1 : w15.cell? ⟨gb123, 1, none⟩ = some (.int .i64 1) := (blk_cell BK123.out 1).trans rfl; have hfz16_0 := blk_frozen BK123.out 0; have hfz16_1 := blk_frozen BK123.out 1) | (go_at_call 13; (with_reducible refine (geom_Height.calls k 4 1 t127 _ A4.out).mono ?_); rintro e w17 ⟨rfl, hb⟩; have n0_ := Aside0.mk (blk_below (g := gb123) (o := .cells #[.int .i64 4, .int .i64 1] 23 (0, 0)) (by (with_reducible repeat (first | refine blk_drewN ?_ _ | refine blk_drew ?_ | refine blk_alloc ?_ _)); exact BK123.out) hb); have n1_ := Aside0.mk (below_step (by repeat (first | (with_reducible first | exact HB.out | apply below_alloc | apply pw_below_drewN | apply below_drew1 | refine below_set ?_ GE123.out) | exact HB.out)) hb); clear BK123; clear HB; have BK123 := n0_; have HB := n1_; clear n0_ n1_; (try clear hb); (try clear hb2); (try clear hk); (try clear hi); have hcz18_0 : w17.cell? ⟨gb123, 0, none⟩ = some (.int .i64 4) := (blk_cell BK123.out 0).trans rfl; have hcz18_1 : w17.cell? ⟨gb123, 1, none⟩ = some (.int .i64 1) := (blk_cell BK123.out 1).trans rfl; have hfz18_0 := blk_frozen BK123.out 0; have hfz18_1 := blk_frozen BK123.out 1) | (go_at_call 21; (with_reducible refine (geom_Half.calls k 4 1 t128 _ A6.out).mono ?_); rintro e w19 ⟨rfl, hb⟩; have n0_ := Aside0.mk (blk_below (g := gb123) (o := .cells #[.int .i64 4, .int .i64 1] 23 (0, 0)) (by (with_reducible repeat (first | refine blk_drewN ?_ _ | refine blk_drew ?_ | refine blk_alloc ?_ _)); exact BK123.out) hb); have n1_ := Aside0.mk (below_step (by repeat (first | (with_reducible first | exact HB.out | apply below_alloc | apply pw_below_drewN | apply below_drew1 | refine below_set ?_ GE123.out) | exact HB.out)) hb); clear BK123; clear HB; have BK123 := n0_; have HB := n1_; clear n0_ n1_; (try clear hb); (try clear hb2); (try clear hk); (try clear hi); have hcz20_0 : w19.cell? ⟨gb123, 0, none⟩ = some (.int .i64 4) := (blk_cell BK123.out 0).trans rfl; have hcz20_1 : w19.cell? ⟨gb123, 1, none⟩ = some (.int .i64 1) := (blk_cell BK123.out 1).trans rfl; have hfz20_0 := blk_frozen BK123.out 0; have hfz20_1 := blk_frozen BK123.out 1) | (go_at_call 23; (with_reducible refine (geom_Sectors.calls k 4 1 t129 _ A8.out).mono ?_); rintro e w21 ⟨rfl, hb⟩; have n0_ := Aside0.mk (blk_below (g := gb123) (o := .cells #[.int .i64 4, .int .i64 1] 23 (0, 0)) (by (with_reducible repeat (first | refine blk_drewN ?_ _ | refine blk_drew ?_ | refine blk_alloc ?_ _)); exact BK123.out) hb); have n1_ := Aside0.mk (below_step (by repeat (first | (with_reducible first | exact HB.out | apply below_alloc | apply pw_below_drewN | apply below_drew1 | refine below_set ?_ GE123.out) | exact HB.out)) hb); clear BK123; clear HB; have BK123 := n0_; have HB := n1_; clear n0_ n1_; (try clear hb); (try clear hb2); (try clear hk); (try clear hi)))
            go_ret
            exact ⟨by first | rfl | (simp [errW_none, errW_some] <;> rfl) | (simp [*, errW_none, errW_some] <;> rfl), by repeat (first | (with_reducible first | exact HB.out | apply below_alloc | apply pw_below_drewN | apply below_drew1 | refine below_set ?_ GE123.out) | exact HB.out)⟩
          · rw [if_neg c10] at H
            have c10b0 : (t124 == 50) = false := beq_eq_false_iff_ne.mpr c10
            have c10b1 : (t124 != 50) = true := bne_iff_ne.mpr c10
            obtain rfl := Option.some.inj H
            go_enter Try.func25, Try.ntmps25
            go_wp2_with (first | ((with_reducible refine gate_dst (N := 1) rfl ?_); refine box_event ?hg (N := 1) ?hd (cs := #[.int .i64 0, .int .i64 0]) (t := 23) ?hr ?_; (case hd => rfl); (case hg => rfl); (case hr => first | (go_simp; done) | (go_simp; rfl)); intro gb123 hg w22 hbox hb; have n0_ := Aside0.mk (below_step (by repeat (first | (with_reducible first | exact HB.out | apply below_alloc | apply pw_below_drewN | apply below_drew1) | exact HB.out)) hb); have n1_ := Aside0.mk (hbox); have n2_ := Aside0.mk ((by rw [hg]; exact (below_size (by repeat (first | (with_reducible first | exact HB.out | apply below_alloc | apply pw_below_drewN | apply below_drew1) | exact HB.out))) : w.heap.size ≤ gb123)); have n3_ := Aside0.mk ((by rw [hg]; exact (below_size (by repeat (first | (with_reducible first | exact HB.out | apply below_alloc | apply pw_below_drewN | apply below_drew1) | exact HB.out))) : w.heap.size ≤ gb123)); clear HB; have HB := n0_; have BK123 := n1_; have GW123 := n2_; have GE123 := n3_; clear n0_ n1_ n2_ n3_; clear hb hbox hg; have hcz23_0 : w22.cell? ⟨gb123, 0, none⟩ = some (.int .i64 0) := (blk_cell BK123.out 0).trans rfl; have hcz23_1 : w22.cell? ⟨gb123, 1, none⟩ = some (.int .i64 0) := (blk_cell BK123.out 1).trans rfl; have hfz23_0 := blk_frozen BK123.out 0; have hfz23_1 := blk_frozen BK123.out 1) | ((with_reducible refine gate_callee (f := 26) rfl ?_); refine goesL_ (some 7) rfl rfl Try.func26 (by kernel_rfl) rfl #[.agg #[.int .i64 4, .int .i64 1], .int .i64 3, .int .i64 1] rfl (by (try simp only [List.map_toArray, List.map_cons, List.map_nil]); first | done | rfl | (simp only [List.length_drop, List.length_take]; rfl)) ?_; (with_reducible refine (geom_Place.calls k 4 1 3 1 t124 t125 _ A1.out).mono ?_); rintro e w24 ⟨rfl, hb⟩; refine ⟨_, rfl, ?_⟩; have n0_ := Aside0.mk (blk_below (g := gb123) (o := .cells #[.int .i64 4, .int .i64 1] 23 (0, 0)) (by (with_reducible repeat (first | refine blk_drewN ?_ _ | refine blk_drew ?_ | refine blk_alloc ?_ _)); refine blk_put (cs := #[.int .i64 4, .int .i64 0]) ?_ 1 _ rfl; (with_reducible repeat (first | refine blk_drewN ?_ _ | refine blk_drew ?_ | refine blk_alloc ?_ _)); refine blk_put (cs := #[.int .i64 0, .int .i64 0]) ?_ 0 _ rfl; (with_reducible repeat (first | refine blk_drewN ?_ _ | refine blk_drew ?_ | refine blk_alloc ?_ _)); exact BK123.out) hb); have n1_ := Aside0.mk (below_step (by repeat (first | (with_reducible first | exact HB.out | apply below_alloc | apply pw_below_drewN | apply below_drew1 | refine below_set ?_ GE123.out) | exact HB.out)) hb); clear BK123; clear HB; have BK123 := n0_; have HB := n1_; clear n0_ n1_; (try clear hb); (try clear hb2); (try clear hk); (try clear hi); have hcz25_0 : w24.cell? ⟨gb123, 0, none⟩ = some (.int .i64 4) := (blk_cell BK123.out 0).trans rfl; have hcz25_1 : w24.cell? ⟨gb123, 1, none⟩ = some (.int .i64 1) := (blk_cell BK123.out 1).trans rfl; have hfz25_0 := blk_frozen BK123.out 0; have hfz25_1 := blk_frozen BK123.out 1) | ((with_reducible refine gate_callee (f := 11) rfl ?_); refine goesL_ (some 11) rfl rfl Try.func11 (by kernel_rfl) rfl #[.agg #[.int .i64 4, .int .i64 1]] rfl (by (try simp only [List.map_toArray, List.map_cons, List.map_nil]); first | done | rfl | (simp only [List.length_drop, List.length_take]; rfl)) ?_; (with_reducible refine (geom_Leaves.calls 4 1 t126 _ A2.out).mono ?_); rintro e w26 ⟨rfl, hb⟩; refine ⟨_, rfl, ?_⟩; have n0_ := Aside0.mk (blk_below (g := gb123) (o := .cells #[.int .i64 4, .int .i64 1] 23 (0, 0)) (by (with_reducible repeat (first | refine blk_drewN ?_ _ | refine blk_drew ?_ | refine blk_alloc ?_ _)); exact BK123.out) hb); have n1_ := Aside0.mk (below_step (by repeat (first | (with_reducible first | exact HB.out | apply below_alloc | apply pw_below_drewN | apply below_drew1 | refine below_set ?_ GE123.out) | exact HB.out)) hb); clear BK123; clear HB; have BK123 := n0_; have HB := n1_; clear n0_ n1_; (try clear hb); (try clear hb2); (try clear hk); (try clear hi); have hcz27_0 : w26.cell? ⟨gb123, 0, none⟩ = some (.int .i64 4) := (blk_cell BK123.out 0).trans rfl; have hcz27_1 : w26.cell? ⟨gb123, 1, none⟩ = some (.int .i64 1) := (blk_cell BK123.out 1).trans rfl; have hfz27_0 := blk_frozen BK123.out 0; have hfz27_1 := blk_frozen BK123.out 1) | (go_at_call 13; (with_reducible refine (geom_Height.calls k 4 1 t127 _ A4.out).mono ?_); rintro e w28 ⟨rfl, hb⟩; have n0_ := Aside0.mk (blk_below (g := gb123) (o := .cells #[.int .i64 4, .int .i64 1] 23 (0, 0)) (by (with_reducible repeat (first | refine blk_drewN ?_ _ | refine blk_drew ?_ | refine blk_alloc ?_ _)); exact BK123.out) hb); have n1_ := Aside0.mk (below_step (by repeat (first | (with_reducible first | exact HB.out | apply below_alloc | apply pw_below_drewN | apply below_drew1 | refine below_set ?_ GE123.out) | exact HB.out)) hb); clear BK123; clear HB; have BK123 := n0_; have HB := n1_; clear n0_ n1_; (try clear hb); (try clear hb2); (try clear hk); (try clear hi); have hcz29_0 : w28.cell? ⟨gb123, 0, none⟩ = some (.int .i64 4) := (blk_cell BK123.out 0).trans rfl; have hcz29_1 : w28.cell? ⟨gb123, 1, none⟩ = some (.int .i64 1) := (blk_cell BK123.out 1).trans rfl; have hfz29_0 := blk_frozen BK123.out 0; have hfz29_1 := blk_frozen BK123.out 1) | (go_at_call 21; (with_reducible refine (geom_Half.calls k 4 1 t128 _ A6.out).mono ?_); rintro e w30 ⟨rfl, hb⟩; have n0_ := Aside0.mk (blk_below (g := gb123) (o := .cells #[.int .i64 4, .int .i64 1] 23 (0, 0)) (by (with_reducible repeat (first | refine blk_drewN ?_ _ | refine blk_drew ?_ | refine blk_alloc ?_ _)); exact BK123.out) hb); have n1_ := Aside0.mk (below_step (by repeat (first | (with_reducible first | exact HB.out | apply below_alloc | apply pw_below_drewN | apply below_drew1 | refine below_set ?_ GE123.out) | exact HB.out)) hb); clear BK123; clear HB; have BK123 := n0_; have HB := n1_; clear n0_ n1_; (try clear hb); (try clear hb2); (try clear hk); (try clear hi); have hcz31_0 : w30.cell? ⟨gb123, 0, none⟩ = some (.int .i64 4) := (blk_cell BK123.out 0).trans rfl; have hcz31_1 : w30.cell? ⟨gb123, 1, none⟩ = some (.int .i64 1) := (blk_cell BK123.out 1).trans rfl; have hfz31_0 := blk_frozen BK123.out 0; have hfz31_1 := blk_frozen BK123.out 1) | (go_at_call 23; (with_reducible refine (geom_Sectors.calls k 4 1 t129 _ A8.out).mono ?_); rintro e w32 ⟨rfl, hb⟩; have n0_ := Aside0.mk (blk_below (g := gb123) (o := .cells #[.int .i64 4, .int .i64 1] 23 (0, 0)) (by (with_reducible repeat (first | refine blk_drewN ?_ _ | refine blk_drew ?_ | refine blk_alloc ?_ _)); exact BK123.out) hb); have n1_ := Aside0.mk (below_step (by repeat (first | (with_reducible first | exact HB.out | apply below_alloc | apply pw_below_drewN | apply below_drew1 | refine below_set ?_ GE123.out) | exact HB.out)) hb); clear BK123; clear HB; have BK123 := n0_; have HB := n1_; clear n0_ n1_; (try clear hb); (try clear hb2); (try clear hk); (try clear hi)))
            go_ret
            exact ⟨by first | rfl | (simp [errW_none, errW_some] <;> rfl) | (simp [*, errW_none, errW_some] <;> rfl), by repeat (first | (with_reducible first | exact HB.out | apply below_alloc | apply pw_below_drewN | apply below_drew1 | refine below_set ?_ GE123.out) | exact HB.out)⟩
        · rw [if_neg c9] at H
          have c9b0 : (t129 == 54) = false := beq_eq_false_iff_ne.mpr c9
          have c9b1 : (t129 != 54) = true := bne_iff_ne.mpr c9
          obtain rfl := Option.some.inj H
          go_enter Try.func25, Try.ntmps25
          go_wp2_with (first | ((with_reducible refine gate_dst (N := 1) rfl ?_); refine box_event ?hg (N := 1) ?hd (cs := #[.int .i64 0, .int .i64 0]) (t := 23) ?hr ?_; (case hd => rfl); (case hg => rfl); (case hr => first | (go_simp; done) | (go_simp; rfl)); intro gb123 hg w33 hbox hb; have n0_ := Aside0.mk (below_step (by repeat (first | (with_reducible first | exact HB.out | apply below_alloc | apply pw_below_drewN | apply below_drew1) | exact HB.out)) hb); have n1_ := Aside0.mk (hbox); have n2_ := Aside0.mk ((by rw [hg]; exact (below_size (by repeat (first | (with_reducible first | exact HB.out | apply below_alloc | apply pw_below_drewN | apply below_drew1) | exact HB.out))) : w.heap.size ≤ gb123)); have n3_ := Aside0.mk ((by rw [hg]; exact (below_size (by repeat (first | (with_reducible first | exact HB.out | apply below_alloc | apply pw_below_drewN | apply below_drew1) | exact HB.out))) : w.heap.size ≤ gb123)); clear HB; have HB := n0_; have BK123 := n1_; have GW123 := n2_; have GE123 := n3_; clear n0_ n1_ n2_ n3_; clear hb hbox hg; have hcz34_0 : w33.cell? ⟨gb123, 0, none⟩ = some (.int .i64 0) := (blk_cell BK123.out 0).trans rfl; have hcz34_1 : w33.cell? ⟨gb123, 1, none⟩ = some (.int .i64 0) := (blk_cell BK123.out 1).trans rfl; have hfz34_0 := blk_frozen BK123.out 0; have hfz34_1 := blk_frozen BK123.out 1) | ((with_reducible refine gate_callee (f := 26) rfl ?_); refine goesL_ (some 7) rfl rfl Try.func26 (by kernel_rfl) rfl #[.agg #[.int .i64 4, .int .i64 1], .int .i64 3, .int .i64 1] rfl (by (try simp only [List.map_toArray, List.map_cons, List.map_nil]); first | done | rfl | (simp only [List.length_drop, List.length_take]; rfl)) ?_; (with_reducible refine (geom_Place.calls k 4 1 3 1 t124 t125 _ A1.out).mono ?_); rintro e w35 ⟨rfl, hb⟩; refine ⟨_, rfl, ?_⟩; have n0_ := Aside0.mk (blk_below (g := gb123) (o := .cells #[.int .i64 4, .int .i64 1] 23 (0, 0)) (by (with_reducible repeat (first | refine blk_drewN ?_ _ | refine blk_drew ?_ | refine blk_alloc ?_ _)); refine blk_put (cs := #[.int .i64 4, .int .i64 0]) ?_ 1 _ rfl; (with_reducible repeat (first | refine blk_drewN ?_ _ | refine blk_drew ?_ | refine blk_alloc ?_ _)); refine blk_put (cs := #[.int .i64 0, .int .i64 0]) ?_ 0 _ rfl; (with_reducible repeat (first | refine blk_drewN ?_ _ | refine blk_drew ?_ | refine blk_alloc ?_ _)); exact BK123.out) hb); have n1_ := Aside0.mk (below_step (by repeat (first | (with_reducible first | exact HB.out | apply below_alloc | apply pw_below_drewN | apply below_drew1 | refine below_set ?_ GE123.out) | exact HB.out)) hb); clear BK123; clear HB; have BK123 := n0_; have HB := n1_; clear n0_ n1_; (try clear hb); (try clear hb2); (try clear hk); (try clear hi); have hcz36_0 : w35.cell? ⟨gb123, 0, none⟩ = some (.int .i64 4) := (blk_cell BK123.out 0).trans rfl; have hcz36_1 : w35.cell? ⟨gb123, 1, none⟩ = some (.int .i64 1) := (blk_cell BK123.out 1).trans rfl; have hfz36_0 := blk_frozen BK123.out 0; have hfz36_1 := blk_frozen BK123.out 1) | ((with_reducible refine gate_callee (f := 11) rfl ?_); refine goesL_ (some 11) rfl rfl Try.func11 (by kernel_rfl) rfl #[.agg #[.int .i64 4, .int .i64 1]] rfl (by (try simp only [List.map_toArray, List.map_cons, List.map_nil]); first | done | rfl | (simp only [List.length_drop, List.length_take]; rfl)) ?_; (with_reducible refine (geom_Leaves.calls 4 1 t126 _ A2.out).mono ?_); rintro e w37 ⟨rfl, hb⟩; refine ⟨_, rfl, ?_⟩; have n0_ := Aside0.mk (blk_below (g := gb123) (o := .cells #[.int .i64 4, .int .i64 1] 23 (0, 0)) (by (with_reducible repeat (first | refine blk_drewN ?_ _ | refine blk_drew ?_ | refine blk_alloc ?_ _)); exact BK123.out) hb); have n1_ := Aside0.mk (below_step (by repeat (first | (with_reducible first | exact HB.out | apply below_alloc | apply pw_below_drewN | apply below_drew1 | refine below_set ?_ GE123.out) | exact HB.out)) hb); clear BK123; clear HB; have BK123 := n0_; have HB := n1_; clear n0_ n1_; (try clear hb); (try clear hb2); (try clear hk); (try clear hi); have hcz38_0 : w37.cell? ⟨gb123, 0, none⟩ = some (.int .i64 4) := (blk_cell BK123.out 0).trans rfl; have hcz38_1 : w37.cell? ⟨gb123, 1, none⟩ = some (.int .i64 1) := (blk_cell BK123.out 1).trans rfl; have hfz38_0 := blk_frozen BK123.out 0; have hfz38_1 := blk_frozen BK123.out 1) | (go_at_call 13; (with_reducible refine (geom_Height.calls k 4 1 t127 _ A4.out).mono ?_); rintro e w39 ⟨rfl, hb⟩; have n0_ := Aside0.mk (blk_below (g := gb123) (o := .cells #[.int .i64 4, .int .i64 1] 23 (0, 0)) (by (with_reducible repeat (first | refine blk_drewN ?_ _ | refine blk_drew ?_ | refine blk_alloc ?_ _)); exact BK123.out) hb); have n1_ := Aside0.mk (below_step (by repeat (first | (with_reducible first | exact HB.out | apply below_alloc | apply pw_below_drewN | apply below_drew1 | refine below_set ?_ GE123.out) | exact HB.out)) hb); clear BK123; clear HB; have BK123 := n0_; have HB := n1_; clear n0_ n1_; (try clear hb); (try clear hb2); (try clear hk); (try clear hi); have hcz40_0 : w39.cell? ⟨gb123, 0, none⟩ = some (.int .i64 4) := (blk_cell BK123.out 0).trans rfl; have hcz40_1 : w39.cell? ⟨gb123, 1, none⟩ = some (.int .i64 1) := (blk_cell BK123.out 1).trans rfl; have hfz40_0 := blk_frozen BK123.out 0; have hfz40_1 := blk_frozen BK123.out 1) | (go_at_call 21; (with_reducible refine (geom_Half.calls k 4 1 t128 _ A6.out).mono ?_); rintro e w41 ⟨rfl, hb⟩; have n0_ := Aside0.mk (blk_below (g := gb123) (o := .cells #[.int .i64 4, .int .i64 1] 23 (0, 0)) (by (with_reducible repeat (first | refine blk_drewN ?_ _ | refine blk_drew ?_ | refine blk_alloc ?_ _)); exact BK123.out) hb); have n1_ := Aside0.mk (below_step (by repeat (first | (with_reducible first | exact HB.out | apply below_alloc | apply pw_below_drewN | apply below_drew1 | refine below_set ?_ GE123.out) | exact HB.out)) hb); clear BK123; clear HB; have BK123 := n0_; have HB := n1_; clear n0_ n1_; (try clear hb); (try clear hb2); (try clear hk); (try clear hi); have hcz42_0 : w41.cell? ⟨gb123, 0, none⟩ = some (.int .i64 4) := (blk_cell BK123.out 0).trans rfl; have hcz42_1 : w41.cell? ⟨gb123, 1, none⟩ = some (.int .i64 1) := (blk_cell BK123.out 1).trans rfl; have hfz42_0 := blk_frozen BK123.out 0; have hfz42_1 := blk_frozen BK123.out 1) | (go_at_call 23; (with_reducible refine (geom_Sectors.calls k 4 1 t129 _ A8.out).mono ?_); rintro e w43 ⟨rfl, hb⟩; have n0_ := Aside0.mk (blk_below (g := gb123) (o := .cells #[.int .i64 4, .int .i64 1] 23 (0, 0)) (by (with_reducible repeat (first | refine blk_drewN ?_ _ | refine blk_drew ?_ | refine blk_alloc ?_ _)); exact BK123.out) hb); have n1_ := Aside0.mk (below_step (by repeat (first | (with_reducible first | exact HB.out | apply below_alloc | apply pw_below_drewN | apply below_drew1 | refine below_set ?_ GE123.out) | exact HB.out)) hb); clear BK123; clear HB; have BK123 := n0_; have HB := n1_; clear n0_ n1_; (try clear hb); (try clear hb2); (try clear hk); (try clear hi)))
          go_ret
          exact ⟨by first | rfl | (simp [errW_none, errW_some] <;> rfl) | (simp [*, errW_none, errW_some] <;> rfl), by repeat (first | (with_reducible first | exact HB.out | apply below_alloc | apply pw_below_drewN | apply below_drew1 | refine below_set ?_ GE123.out) | exact HB.out)⟩
      · rw [if_neg c7] at H
        have c7b0 : (t128 == 21) = false := beq_eq_false_iff_ne.mpr c7
        have c7b1 : (t128 != 21) = true := bne_iff_ne.mpr c7
        obtain rfl := Option.some.inj H
        go_enter Try.func25, Try.ntmps25
        go_wp2_with (first | ((with_reducible refine gate_dst (N := 1) rfl ?_); refine box_event ?hg (N := 1) ?hd (cs := #[.int .i64 0, .int .i64 0]) (t := 23) ?hr ?_; (case hd => rfl); (case hg => rfl); (case hr => first | (go_simp; done) | (go_simp; rfl)); intro gb123 hg w44 hbox hb; have n0_ := Aside0.mk (below_step (by repeat (first | (with_reducible first | exact HB.out | apply below_alloc | apply pw_below_drewN | apply below_drew1) | exact HB.out)) hb); have n1_ := Aside0.mk (hbox); have n2_ := Aside0.mk ((by rw [hg]; exact (below_size (by repeat (first | (with_reducible first | exact HB.out | apply below_alloc | apply pw_below_drewN | apply below_drew1) | exact HB.out))) : w.heap.size ≤ gb123)); have n3_ := Aside0.mk ((by rw [hg]; exact (below_size (by repeat (first | (with_reducible first | exact HB.out | apply below_alloc | apply pw_below_drewN | apply below_drew1) | exact HB.out))) : w.heap.size ≤ gb123)); clear HB; have HB := n0_; have BK123 := n1_; have GW123 := n2_; have GE123 := n3_; clear n0_ n1_ n2_ n3_; clear hb hbox hg; have hcz45_0 : w44.cell? ⟨gb123, 0, none⟩ = some (.int .i64 0) := (blk_cell BK123.out 0).trans rfl; have hcz45_1 : w44.cell? ⟨gb123, 1, none⟩ = some (.int .i64 0) := (blk_cell BK123.out 1).trans rfl; have hfz45_0 := blk_frozen BK123.out 0; have hfz45_1 := blk_frozen BK123.out 1) | ((with_reducible refine gate_callee (f := 26) rfl ?_); refine goesL_ (some 7) rfl rfl Try.func26 (by kernel_rfl) rfl #[.agg #[.int .i64 4, .int .i64 1], .int .i64 3, .int .i64 1] rfl (by (try simp only [List.map_toArray, List.map_cons, List.map_nil]); first | done | rfl | (simp only [List.length_drop, List.length_take]; rfl)) ?_; (with_reducible refine (geom_Place.calls k 4 1 3 1 t124 t125 _ A1.out).mono ?_); rintro e w46 ⟨rfl, hb⟩; refine ⟨_, rfl, ?_⟩; have n0_ := Aside0.mk (blk_below (g := gb123) (o := .cells #[.int .i64 4, .int .i64 1] 23 (0, 0)) (by (with_reducible repeat (first | refine blk_drewN ?_ _ | refine blk_drew ?_ | refine blk_alloc ?_ _)); refine blk_put (cs := #[.int .i64 4, .int .i64 0]) ?_ 1 _ rfl; (with_reducible repeat (first | refine blk_drewN ?_ _ | refine blk_drew ?_ | refine blk_alloc ?_ _)); refine blk_put (cs := #[.int .i64 0, .int .i64 0]) ?_ 0 _ rfl; (with_reducible repeat (first | refine blk_drewN ?_ _ | refine blk_drew ?_ | refine blk_alloc ?_ _)); exact BK123.out) hb); have n1_ := Aside0.mk (below_step (by repeat (first | (with_reducible first | exact HB.out | apply below_alloc | apply pw_below_drewN | apply below_drew1 | refine below_set ?_ GE123.out) | exact HB.out)) hb); clear BK123; clear HB; have BK123 := n0_; have HB := n1_; clear n0_ n1_; (try clear hb); (try clear hb2); (try clear hk); (try clear hi); have hcz47_0 : w46.cell? ⟨gb123, 0, none⟩ = some (.int .i64 4) := (blk_cell BK123.out 0).trans rfl; have hcz47_1 : w46.cell? ⟨gb123, 1, none⟩ = some (.int .i64 1) := (blk_cell BK123.out 1).trans rfl; have hfz47_0 := blk_frozen BK123.out 0; have hfz47_1 := blk_frozen BK123.out 1) | ((with_reducible refine gate_callee (f := 11) rfl ?_); refine goesL_ (some 11) rfl rfl Try.func11 (by kernel_rfl) rfl #[.agg #[.int .i64 4, .int .i64 1]] rfl (by (try simp only [List.map_toArray, List.map_cons, List.map_nil]); first | done | rfl | (simp only [List.length_drop, List.length_take]; rfl)) ?_; (with_reducible refine (geom_Leaves.calls 4 1 t126 _ A2.out).mono ?_); rintro e w48 ⟨rfl, hb⟩; refine ⟨_, rfl, ?_⟩; have n0_ := Aside0.mk (blk_below (g := gb123) (o := .cells #[.int .i64 4, .int .i64 1] 23 (0, 0)) (by (with_reducible repeat (first | refine blk_drewN ?_ _ | refine blk_drew ?_ | refine blk_alloc ?_ _)); exact BK123.out) hb); have n1_ := Aside0.mk (below_step (by repeat (first | (with_reducible first | exact HB.out | apply below_alloc | apply pw_below_drewN | apply below_drew1 | refine below_set ?_ GE123.out) | exact HB.out)) hb); clear BK123; clear HB; have BK123 := n0_; have HB := n1_; clear n0_ n1_; (try clear hb); (try clear hb2); (try clear hk); (try clear hi); have hcz49_0 : w48.cell? ⟨gb123, 0, none⟩ = some (.int .i64 4) := (blk_cell BK123.out 0).trans rfl; have hcz49_1 : w48.cell? ⟨gb123, 1, none⟩ = some (.int .i64 1) := (blk_cell BK123.out 1).trans rfl; have hfz49_0 := blk_frozen BK123.out 0; have hfz49_1 := blk_frozen BK123.out 1) | (go_at_call 13; (with_reducible refine (geom_Height.calls k 4 1 t127 _ A4.out).mono ?_); rintro e w50 ⟨rfl, hb⟩; have n0_ := Aside0.mk (blk_below (g := gb123) (o := .cells #[.int .i64 4, .int .i64 1] 23 (0, 0)) (by (with_reducible repeat (first | refine blk_drewN ?_ _ | refine blk_drew ?_ | refine blk_alloc ?_ _)); exact BK123.out) hb); have n1_ := Aside0.mk (below_step (by repeat (first | (with_reducible first | exact HB.out | apply below_alloc | apply pw_below_drewN | apply below_drew1 | refine below_set ?_ GE123.out) | exact HB.out)) hb); clear BK123; clear HB; have BK123 := n0_; have HB := n1_; clear n0_ n1_; (try clear hb); (try clear hb2); (try clear hk); (try clear hi); have hcz51_0 : w50.cell? ⟨gb123, 0, none⟩ = some (.int .i64 4) := (blk_cell BK123.out 0).trans rfl; have hcz51_1 : w50.cell? ⟨gb123, 1, none⟩ = some (.int .i64 1) := (blk_cell BK123.out 1).trans rfl; have hfz51_0 := blk_frozen BK123.out 0; have hfz51_1 := blk_frozen BK123.out 1) | (go_at_call 21; (with_reducible refine (geom_Half.calls k 4 1 t128 _ A6.out).mono ?_); rintro e w52 ⟨rfl, hb⟩; have n0_ := Aside0.mk (blk_below (g := gb123) (o := .cells #[.int .i64 4, .int .i64 1] 23 (0, 0)) (by (with_reducible repeat (first | refine blk_drewN ?_ _ | refine blk_drew ?_ | refine blk_alloc ?_ _)); exact BK123.out) hb); have n1_ := Aside0.mk (below_step (by repeat (first | (with_reducible first | exact HB.out | apply below_alloc | apply pw_below_drewN | apply below_drew1 | refine below_set ?_ GE123.out) | exact HB.out)) hb); clear BK123; clear HB; have BK123 := n0_; have HB := n1_; clear n0_ n1_; (try clear hb); (try clear hb2); (try clear hk); (try clear hi)))
        go_ret
        exact ⟨by first | rfl | (simp [errW_none, errW_some] <;> rfl) | (simp [*, errW_none, errW_some] <;> rfl), by repeat (first | (with_reducible first | exact HB.out | apply below_alloc | apply pw_below_drewN | apply below_drew1 | refine below_set ?_ GE123.out) | exact HB.out)⟩
    · rw [if_neg c5] at H
      have c5b0 : (t127 == 2) = false := beq_eq_false_iff_ne.mpr c5
      have c5b1 : (t127 != 2) = true := bne_iff_ne.mpr c5
      obtain rfl := Option.some.inj H
      go_enter Try.func25, Try.ntmps25
      go_wp2_with (first | ((with_reducible refine gate_dst (N := 1) rfl ?_); refine box_event ?hg (N := 1) ?hd (cs := #[.int .i64 0, .int .i64 0]) (t := 23) ?hr ?_; (case hd => rfl); (case hg => rfl); (case hr => first | (go_simp; done) | (go_simp; rfl)); intro gb123 hg w53 hbox hb; have n0_ := Aside0.mk (below_step (by repeat (first | (with_reducible first | exact HB.out | apply below_alloc | apply pw_below_drewN | apply below_drew1) | exact HB.out)) hb); have n1_ := Aside0.mk (hbox); have n2_ := Aside0.mk ((by rw [hg]; exact (below_size (by repeat (first | (with_reducible first | exact HB.out | apply below_alloc | apply pw_below_drewN | apply below_drew1) | exact HB.out))) : w.heap.size ≤ gb123)); have n3_ := Aside0.mk ((by rw [hg]; exact (below_size (by repeat (first | (with_reducible first | exact HB.out | apply below_alloc | apply pw_below_drewN | apply below_drew1) | exact HB.out))) : w.heap.size ≤ gb123)); clear HB; have HB := n0_; have BK123 := n1_; have GW123 := n2_; have GE123 := n3_; clear n0_ n1_ n2_ n3_; clear hb hbox hg; have hcz54_0 : w53.cell? ⟨gb123, 0, none⟩ = some (.int .i64 0) := (blk_cell BK123.out 0).trans rfl; have hcz54_1 : w53.cell? ⟨gb123, 1, none⟩ = some (.int .i64 0) := (blk_cell BK123.out 1).trans rfl; have hfz54_0 := blk_frozen BK123.out 0; have hfz54_1 := blk_frozen BK123.out 1) | ((with_reducible refine gate_callee (f := 26) rfl ?_); refine goesL_ (some 7) rfl rfl Try.func26 (by kernel_rfl) rfl #[.agg #[.int .i64 4, .int .i64 1], .int .i64 3, .int .i64 1] rfl (by (try simp only [List.map_toArray, List.map_cons, List.map_nil]); first | done | rfl | (simp only [List.length_drop, List.length_take]; rfl)) ?_; (with_reducible refine (geom_Place.calls k 4 1 3 1 t124 t125 _ A1.out).mono ?_); rintro e w55 ⟨rfl, hb⟩; refine ⟨_, rfl, ?_⟩; have n0_ := Aside0.mk (blk_below (g := gb123) (o := .cells #[.int .i64 4, .int .i64 1] 23 (0, 0)) (by (with_reducible repeat (first | refine blk_drewN ?_ _ | refine blk_drew ?_ | refine blk_alloc ?_ _)); refine blk_put (cs := #[.int .i64 4, .int .i64 0]) ?_ 1 _ rfl; (with_reducible repeat (first | refine blk_drewN ?_ _ | refine blk_drew ?_ | refine blk_alloc ?_ _)); refine blk_put (cs := #[.int .i64 0, .int .i64 0]) ?_ 0 _ rfl; (with_reducible repeat (first | refine blk_drewN ?_ _ | refine blk_drew ?_ | refine blk_alloc ?_ _)); exact BK123.out) hb); have n1_ := Aside0.mk (below_step (by repeat (first | (with_reducible first | exact HB.out | apply below_alloc | apply pw_below_drewN | apply below_drew1 | refine below_set ?_ GE123.out) | exact HB.out)) hb); clear BK123; clear HB; have BK123 := n0_; have HB := n1_; clear n0_ n1_; (try clear hb); (try clear hb2); (try clear hk); (try clear hi); have hcz56_0 : w55.cell? ⟨gb123, 0, none⟩ = some (.int .i64 4) := (blk_cell BK123.out 0).trans rfl; have hcz56_1 : w55.cell? ⟨gb123, 1, none⟩ = some (.int .i64 1) := (blk_cell BK123.out 1).trans rfl; have hfz56_0 := blk_frozen BK123.out 0; have hfz56_1 := blk_frozen BK123.out 1) | ((with_reducible refine gate_callee (f := 11) rfl ?_); refine goesL_ (some 11) rfl rfl Try.func11 (by kernel_rfl) rfl #[.agg #[.int .i64 4, .int .i64 1]] rfl (by (try simp only [List.map_toArray, List.map_cons, List.map_nil]); first | done | rfl | (simp only [List.length_drop, List.length_take]; rfl)) ?_; (with_reducible refine (geom_Leaves.calls 4 1 t126 _ A2.out).mono ?_); rintro e w57 ⟨rfl, hb⟩; refine ⟨_, rfl, ?_⟩; have n0_ := Aside0.mk (blk_below (g := gb123) (o := .cells #[.int .i64 4, .int .i64 1] 23 (0, 0)) (by (with_reducible repeat (first | refine blk_drewN ?_ _ | refine blk_drew ?_ | refine blk_alloc ?_ _)); exact BK123.out) hb); have n1_ := Aside0.mk (below_step (by repeat (first | (with_reducible first | exact HB.out | apply below_alloc | apply pw_below_drewN | apply below_drew1 | refine below_set ?_ GE123.out) | exact HB.out)) hb); clear BK123; clear HB; have BK123 := n0_; have HB := n1_; clear n0_ n1_; (try clear hb); (try clear hb2); (try clear hk); (try clear hi); have hcz58_0 : w57.cell? ⟨gb123, 0, none⟩ = some (.int .i64 4) := (blk_cell BK123.out 0).trans rfl; have hcz58_1 : w57.cell? ⟨gb123, 1, none⟩ = some (.int .i64 1) := (blk_cell BK123.out 1).trans rfl; have hfz58_0 := blk_frozen BK123.out 0; have hfz58_1 := blk_frozen BK123.out 1) | (go_at_call 13; (with_reducible refine (geom_Height.calls k 4 1 t127 _ A4.out).mono ?_); rintro e w59 ⟨rfl, hb⟩; have n0_ := Aside0.mk (blk_below (g := gb123) (o := .cells #[.int .i64 4, .int .i64 1] 23 (0, 0)) (by (with_reducible repeat (first | refine blk_drewN ?_ _ | refine blk_drew ?_ | refine blk_alloc ?_ _)); exact BK123.out) hb); have n1_ := Aside0.mk (below_step (by repeat (first | (with_reducible first | exact HB.out | apply below_alloc | apply pw_below_drewN | apply below_drew1 | refine below_set ?_ GE123.out) | exact HB.out)) hb); clear BK123; clear HB; have BK123 := n0_; have HB := n1_; clear n0_ n1_; (try clear hb); (try clear hb2); (try clear hk); (try clear hi)))
      go_ret
      exact ⟨by first | rfl | (simp [errW_none, errW_some] <;> rfl) | (simp [*, errW_none, errW_some] <;> rfl), by repeat (first | (with_reducible first | exact HB.out | apply below_alloc | apply pw_below_drewN | apply below_drew1 | refine below_set ?_ GE123.out) | exact HB.out)⟩
  · rw [if_neg c3] at H
    have c3b0 : (t126 == 4) = false := beq_eq_false_iff_ne.mpr c3
    have c3b1 : (t126 != 4) = true := bne_iff_ne.mpr c3
    obtain rfl := Option.some.inj H
    go_enter Try.func25, Try.ntmps25
    go_wp2_with (first | ((with_reducible refine gate_dst (N := 1) rfl ?_); refine box_event ?hg (N := 1) ?hd (cs := #[.int .i64 0, .int .i64 0]) (t := 23) ?hr ?_; (case hd => rfl); (case hg => rfl); (case hr => first | (go_simp; done) | (go_simp; rfl)); intro gb123 hg w60 hbox hb; have n0_ := Aside0.mk (below_step (by repeat (first | (with_reducible first | exact HB.out | apply below_alloc | apply pw_below_drewN | apply below_drew1) | exact HB.out)) hb); have n1_ := Aside0.mk (hbox); have n2_ := Aside0.mk ((by rw [hg]; exact (below_size (by repeat (first | (with_reducible first | exact HB.out | apply below_alloc | apply pw_below_drewN | apply below_drew1) | exact HB.out))) : w.heap.size ≤ gb123)); have n3_ := Aside0.mk ((by rw [hg]; exact (below_size (by repeat (first | (with_reducible first | exact HB.out | apply below_alloc | apply pw_below_drewN | apply below_drew1) | exact HB.out))) : w.heap.size ≤ gb123)); clear HB; have HB := n0_; have BK123 := n1_; have GW123 := n2_; have GE123 := n3_; clear n0_ n1_ n2_ n3_; clear hb hbox hg; have hcz61_0 : w60.cell? ⟨gb123, 0, none⟩ = some (.int .i64 0) := (blk_cell BK123.out 0).trans rfl; have hcz61_1 : w60.cell? ⟨gb123, 1, none⟩ = some (.int .i64 0) := (blk_cell BK123.out 1).trans rfl; have hfz61_0 := blk_frozen BK123.out 0; have hfz61_1 := blk_frozen BK123.out 1) | ((with_reducible refine gate_callee (f := 26) rfl ?_); refine goesL_ (some 7) rfl rfl Try.func26 (by kernel_rfl) rfl #[.agg #[.int .i64 4, .int .i64 1], .int .i64 3, .int .i64 1] rfl (by (try simp only [List.map_toArray, List.map_cons, List.map_nil]); first | done | rfl | (simp only [List.length_drop, List.length_take]; rfl)) ?_; (with_reducible refine (geom_Place.calls k 4 1 3 1 t124 t125 _ A1.out).mono ?_); rintro e w62 ⟨rfl, hb⟩; refine ⟨_, rfl, ?_⟩; have n0_ := Aside0.mk (blk_below (g := gb123) (o := .cells #[.int .i64 4, .int .i64 1] 23 (0, 0)) (by (with_reducible repeat (first | refine blk_drewN ?_ _ | refine blk_drew ?_ | refine blk_alloc ?_ _)); refine blk_put (cs := #[.int .i64 4, .int .i64 0]) ?_ 1 _ rfl; (with_reducible repeat (first | refine blk_drewN ?_ _ | refine blk_drew ?_ | refine blk_alloc ?_ _)); refine blk_put (cs := #[.int .i64 0, .int .i64 0]) ?_ 0 _ rfl; (with_reducible repeat (first | refine blk_drewN ?_ _ | refine blk_drew ?_ | refine blk_alloc ?_ _)); exact BK123.out) hb); have n1_ := Aside0.mk (below_step (by repeat (first | (with_reducible first | exact HB.out | apply below_alloc | apply pw_below_drewN | apply below_drew1 | refine below_set ?_ GE123.out) | exact HB.out)) hb); clear BK123; clear HB; have BK123 := n0_; have HB := n1_; clear n0_ n1_; (try clear hb); (try clear hb2); (try clear hk); (try clear hi); have hcz63_0 : w62.cell? ⟨gb123, 0, none⟩ = some (.int .i64 4) := (blk_cell BK123.out 0).trans rfl; have hcz63_1 : w62.cell? ⟨gb123, 1, none⟩ = some (.int .i64 1) := (blk_cell BK123.out 1).trans rfl; have hfz63_0 := blk_frozen BK123.out 0; have hfz63_1 := blk_frozen BK123.out 1) | ((with_reducible refine gate_callee (f := 11) rfl ?_); refine goesL_ (some 11) rfl rfl Try.func11 (by kernel_rfl) rfl #[.agg #[.int .i64 4, .int .i64 1]] rfl (by (try simp only [List.map_toArray, List.map_cons, List.map_nil]); first | done | rfl | (simp only [List.length_drop, List.length_take]; rfl)) ?_; (with_reducible refine (geom_Leaves.calls 4 1 t126 _ A2.out).mono ?_); rintro e w64 ⟨rfl, hb⟩; refine ⟨_, rfl, ?_⟩; have n0_ := Aside0.mk (blk_below (g := gb123) (o := .cells #[.int .i64 4, .int .i64 1] 23 (0, 0)) (by (with_reducible repeat (first | refine blk_drewN ?_ _ | refine blk_drew ?_ | refine blk_alloc ?_ _)); exact BK123.out) hb); have n1_ := Aside0.mk (below_step (by repeat (first | (with_reducible first | exact HB.out | apply below_alloc | apply pw_below_drewN | apply below_drew1 | refine below_set ?_ GE123.out) | exact HB.out)) hb); clear BK123; clear HB; have BK123 := n0_; have HB := n1_; clear n0_ n1_; (try clear hb); (try clear hb2); (try clear hk); (try clear hi)))
    go_ret
    exact ⟨by first | rfl | (simp [errW_none, errW_some] <;> rfl) | (simp [*, errW_none, errW_some] <;> rfl), by repeat (first | (with_reducible first | exact HB.out | apply below_alloc | apply pw_below_drewN | apply below_drew1 | refine below_set ?_ GE123.out) | exact HB.out)⟩

-- NOT PRINTED: function 36 (slices_IndexFunc_int_int)

/-! ### geom_What: by hand: function 28 -/
set_option maxHeartbeats 4000000 in
set_option maxRecDepth 100000 in
theorem what1.calls (x pl : Int) (g : Nat) (w : World) (hc : w.cell? ⟨g, 0, none⟩ = some (.int .i64 pl)) :
    Calls Try.prog 37 #[.int .i64 x, .pointer (some ⟨g, 0, none⟩)] w fun e w' => e = .returned (.bool (decide (pl < x))) ∧ w = w' := by
  go_enter Try.func37, Try.ntmps37
  go_wp2
  go_ret
  exact ⟨rfl, rfl⟩
set_option maxHeartbeats 4000000 in
set_option maxRecDepth 100000 in
theorem indexfunc.calls (xs : List Int) (pl : Int) (g g7 n : Nat) (w : World) (hc : w.cell? ⟨g, 0, none⟩ = some (.int .i64 pl)) (hx : ∀ j, j < 6 → w.cell? ⟨g7, j, none⟩ = some (.int .i64 (xs.getD j 0)))
    (hn : n < 6) (h1 : pl < xs.getD n 0) (h2 : ∀ j, j < n → xs.getD j 0 ≤ pl) :
    Calls Try.prog 36 #[.slice (some ⟨g7, 0, none⟩) 6 6, .func (.func 37) #[] #[.pointer (some ⟨g, 0, none⟩)]] w fun e w' => e = .returned (.int .i64 n) ∧ w = w' := by
  have X := Aside0.mk hx
  have H1 := Aside0.mk h1
  have H2 := Aside0.mk h2
  have HC := Aside0.mk hc
  clear hx h1 h2 hc
  go_enter Try.func36, Try.ntmps36
  go_wp2
  go_loop [8] (fun t => ∃ k : Nat, k ≤ n ∧ t = .int .i64 k) (fun t => 6 - (intOf t).toNat)
  case atStart => exact ⟨0, Nat.zero_le _, rfl⟩
  case round =>
    obtain ⟨k, hk, rfl⟩ := hrel
    have hck := X.out k (by omega)
    have hlt : decide ((k : Int) < 6) = true := by simp; omega
    by_cases hkn : k < n
    · have hle := H2.out k hkn
      have hd : decide (pl < xs.getD k 0) = false := by simpa using hle
      clear hle
      generalize xs.getD k 0 = x at hck hd
      go_wp2_with (go_at_call 37; (with_reducible refine (what1.calls x pl g _ HC.out).mono ?_); rintro e w' ⟨rfl, rfl⟩)
      go_round
      case rel => exact ⟨k + 1, by omega, by go_num⟩
      case measure => simp [intOf]; omega
    · obtain rfl : k = n := by omega
      have hd : decide (pl < xs.getD k 0) = true := by simpa using H1.out
      generalize xs.getD k 0 = x at hck hd
      go_wp2_with (go_at_call 37; (with_reducible refine (what1.calls x pl g _ HC.out).mono ?_); rintro e w' ⟨rfl, rfl⟩)
      go_ret
      exact ⟨rfl, rfl⟩
def geom_What.f (k : Nat) (M R pl : Int) : Option (Int × Int × Int) := (geom_is.f M R).bind fun b => (if b = true then (if pl < 0 then (some (0, 0, 2)) else ((geom_Sectors.f k M R).bind fun s => (if pl ≥ s then (some (0, 0, 2)) else ((geom_Half.f k M R).bind fun hf => ((geom_Nodes.f k M R).bind fun nd => (if pl < 8 then ((geom_least.f 1).bind fun l => (some (1, wrap64 (wrap64 pl + l), 0))) else (if pl < (wrap64 (8 + wrap64 (2 * hf))) then ((geom_least.f 2).bind fun l => (some (2, wrap64 (wrap64 (pl - 8) + l), 0))) else (if pl < (wrap64 (wrap64 (8 + wrap64 (2 * hf)) + nd)) then ((geom_least.f 3).bind fun l => (some (3, wrap64 (wrap64 (pl - (wrap64 (8 + wrap64 (2 * hf)))) + l), 0))) else (if pl < (wrap64 (wrap64 (wrap64 (8 + wrap64 (2 * hf)) + nd) + R)) then ((geom_least.f 4).bind fun l => (some (4, wrap64 (wrap64 (pl - (wrap64 (wrap64 (8 + wrap64 (2 * hf)) + nd))) + l), 0))) else (none)))))))))) else (some (0, 0, 2)))
theorem geom_What.mono : ∀ M R pl k, LeO (geom_What.f k M R pl) (geom_What.f (k + 1) M R pl) := by
  intro M R pl k
  unfold geom_What.f
  repeat' first
    | (with_reducible exact geom_Half.mono _ _ _)
    | (with_reducible exact geom_Nodes.mono _ _ _)
    | (with_reducible exact geom_Sectors.mono _ _ _)
    | (with_reducible exact LeO.refl _)
    | (with_reducible exact LeO.none _)
    | (with_reducible refine LeO.ite ?_ ?_)
    | (with_reducible refine LeO.bind ?_ (fun _ => ?_))
set_option maxHeartbeats 4000000 in
set_option maxRecDepth 100000 in
theorem geom_What.no1 (M R pl : Int) (w : World) (H1 : Aside0 (geom_is.f M R = some false)) :
    Calls Try.prog 28 #[.agg #[.int .i64 M, .int .i64 R], .int .i64 pl] w fun e w' => e = .returned (.tuple #[.int .i64 0, .int .i64 0, .int .i64 2]) ∧ Below w.heap.size w w' := by
  have HB := Aside0.mk (Below.refl w.heap.size w)
  go_enter Try.func28, Try.ntmps28
  go_wp2_with fail
  obtain ⟨q0_, q1_, nb_⟩ := Wk.blks2 w (.cells #[.int .i64 M, .int .i64 R] 23 (0, 0)) (.cells #[.int .i64 pl] 3 (0, 0))
  obtain ⟨W0, hW_⟩ : ∃ W, W = ((w.alloc (.cells #[.int .i64 M, .int .i64 R] 23 (0, 0))).alloc (.cells #[.int .i64 pl] 3 (0, 0))) := ⟨_, rfl⟩
  rw [← hW_]
  rw [← hW_] at q0_
  rw [← hW_] at q1_
  rw [← hW_] at nb_
  have sz_ := below_size HB.out
  have hb2_ := Aside0.mk (below_step HB.out nb_)
  obtain ⟨g2, hgg2_⟩ : ∃ g, g = w.heap.size := ⟨_, rfl⟩
  obtain ⟨g3, hgg3_⟩ : ∃ g, g = w.heap.size + 1 := ⟨_, rfl⟩
  rw [← hgg3_]
  rw [← hgg3_] at q1_
  rw [← hgg2_]
  rw [← hgg2_] at q0_
  have GEg2 := Aside0.mk (show w.heap.size ≤ g2 by omega)
  have GEg3 := Aside0.mk (show w.heap.size ≤ g3 by omega)
  have Dg2g3 : g2 ≠ g3 := by omega
  have Dg3g2 : g3 ≠ g2 := by omega
  have BKg2 := Aside0.mk q0_
  have BKg3 := Aside0.mk q1_
  clear HB
  have HB := hb2_
  clear hb2_ hW_ nb_ sz_ hgg2_ hgg3_ q0_ q1_
  have NBKg2_ := Aside0.mk (blk_drew BKg2.out)
  have NBKg3_ := Aside0.mk (blk_drew BKg3.out)
  have NHB_ := Aside0.mk (below_drew1 HB.out)
  clear BKg2 BKg3 HB
  have BKg2 := NBKg2_
  have BKg3 := NBKg3_
  have HB := NHB_
  clear NBKg2_ NBKg3_ NHB_
  refine start_ (n := 13) (S := fun w' => w'.cell? ⟨g2, 0, none⟩ = some (.int .i64 M) ∧ w'.cell? ⟨g2, 1, none⟩ = some (.int .i64 R) ∧ w'.cell? ⟨g3, 0, none⟩ = some (.int .i64 pl)) (ds := []) #[false, false, false, false, false, false, false, false, false, false, false, false, false] (by kernel_rfl) rfl rfl ⟨(blk_cell BKg2.out 0).trans rfl, (blk_cell BKg2.out 1).trans rfl, (blk_cell BKg3.out 0).trans rfl⟩ (fun hHeld => ?_)
  generalize W0.drew = W1 at BKg2 BKg3 HB hHeld ⊢
  refine take_ (i := 0) (N := some 9) (v := ?_) (a' := ?_) #[true, false, false, false, false, false, false, false, false, false, false, false, false] rfl rfl (by kernel_rfl) (fun _ _ _ h => h) (Or.inl ⟨by rfl, ?_⟩) hHeld ?_ ?_
  rotate_left
  · rintro w' ⟨s0, s1, s2⟩
    go_simp
    with_reducible rfl
  rotate_left
  · simp only [Act.put, List.setIfInBounds_toArray, List.set_cons_zero, List.set_cons_succ, i64_w, i32_w]
    rfl
  refine one_ (i := 1) (N := some 10) #[true, true, false, false, false, false, false, false, false, false, false, false, false] rfl rfl (by kernel_rfl) (by decide) (fun K hK => ?_)
  refine goes_ Try.func30 (by kernel_rfl) rfl #[.agg #[.int .i64 M, .int .i64 R]] (by rfl) rfl rfl (by (try simp only [List.map_toArray, List.map_cons, List.map_nil]); first | done | rfl | (simp only [List.length_drop, List.length_take]; rfl)) ?_
  with_reducible refine (geom_is.calls M R false _ H1.out).mono ?_
  rintro e W2 ⟨rfl, hb⟩
  refine ⟨_, rfl, ?_⟩
  have NBKg2_ := Aside0.mk (blk_below (o := .cells #[.int .i64 M, .int .i64 R] 23 (0, 0)) (by (with_reducible repeat (first | refine blk_drewN ?_ _ | refine blk_drew ?_ | refine blk_alloc ?_ _)); exact BKg2.out) hb)
  have NBKg3_ := Aside0.mk (blk_below (o := .cells #[.int .i64 pl] 3 (0, 0)) (by (with_reducible repeat (first | refine blk_drewN ?_ _ | refine blk_drew ?_ | refine blk_alloc ?_ _)); exact BKg3.out) hb)
  have NHB_ := Aside0.mk (below_step (by repeat (first | (with_reducible first | exact HB.out | apply below_alloc | apply pw_below_drewN | apply below_drew1) | exact HB.out)) hb)
  clear BKg2 BKg3 HB
  have BKg2 := NBKg2_
  have BKg3 := NBKg3_
  have HB := NHB_
  clear NBKg2_ NBKg3_ NHB_
  clear hb
  refine hK.out _ _ ⟨(blk_cell BKg2.out 0).trans rfl, (blk_cell BKg2.out 1).trans rfl, (blk_cell BKg3.out 0).trans rfl⟩ (fun hHeld => ?_)
  clear hK K
  refine norm_ (a' := ?_) ?_ ?_
  rotate_left
  · show Act.put _ (some 10) _ = _
    simp only [Act.put, List.setIfInBounds_toArray, List.set_cons_zero, List.set_cons_succ, i64_w, i32_w]
    rfl
  refine pure_ (i := 2) (N := some 11) (v := ?_) (a' := ?_) #[true, true, true, false, false, false, false, false, false, false, false, false, false] rfl rfl (by kernel_rfl) (fun _ _ _ h => h) (Or.inl ⟨by rfl, ?_⟩) ?_ ?_
  rotate_left
  · intro w'
    go_simp
    with_reducible rfl
  rotate_left
  · simp only [Act.put, List.setIfInBounds_toArray, List.set_cons_zero, List.set_cons_succ, i64_w, i32_w]
    rfl
  refine pure_ (i := 3) (N := some 12) (v := ?_) (a' := ?_) #[true, true, true, true, false, false, false, false, false, false, false, false, false] rfl rfl (by kernel_rfl) (fun _ _ _ h => h) (Or.inl ⟨by rfl, ?_⟩) ?_ ?_
  rotate_left
  · intro w'
    go_simp
    with_reducible rfl
  rotate_left
  · simp only [Act.put, List.setIfInBounds_toArray, List.set_cons_zero, List.set_cons_succ, i64_w, i32_w]
    rfl
  refine pure_ (i := 4) (N := some 13) (v := undef) (a' := ?_) #[true, true, true, true, true, false, false, false, false, false, false, false, false] rfl rfl (by kernel_rfl) (fun _ _ _ h => h) (Or.inr ⟨by rfl, rfl⟩) ?_ ?_
  rotate_left
  · simp only [Act.put, List.setIfInBounds_toArray, List.set_cons_zero, List.set_cons_succ, i64_w, i32_w]
    rfl
  refine pure_ (i := 5) (N := some 14) (v := undef) (a' := ?_) #[true, true, true, true, true, true, false, false, false, false, false, false, false] rfl rfl (by kernel_rfl) (fun _ _ _ h => h) (Or.inr ⟨by rfl, rfl⟩) ?_ ?_
  rotate_left
  · simp only [Act.put, List.setIfInBounds_toArray, List.set_cons_zero, List.set_cons_succ, i64_w, i32_w]
    rfl
  refine pure_ (i := 6) (N := some 15) (v := ?_) (a' := ?_) #[true, true, true, true, true, true, true, false, false, false, false, false, false] rfl rfl (by kernel_rfl) (fun _ _ _ h => h) (Or.inl ⟨by rfl, ?_⟩) ?_ ?_
  rotate_left
  · intro w'
    go_simp
    with_reducible rfl
  rotate_left
  · simp only [Act.put, List.setIfInBounds_toArray, List.set_cons_zero, List.set_cons_succ, i64_w, i32_w]
    rfl
  refine pure_ (i := 7) (N := some 16) (v := ?_) (a' := ?_) #[true, true, true, true, true, true, true, true, false, false, false, false, false] rfl rfl (by kernel_rfl) (fun _ _ _ h => h) (Or.inl ⟨by rfl, ?_⟩) ?_ ?_
  rotate_left
  · intro w'
    go_simp
    with_reducible rfl
  rotate_left
  · simp only [Act.put, List.setIfInBounds_toArray, List.set_cons_zero, List.set_cons_succ, i64_w, i32_w]
    rfl
  refine pure_ (i := 8) (N := some 17) (v := undef) (a' := ?_) #[true, true, true, true, true, true, true, true, true, false, false, false, false] rfl rfl (by kernel_rfl) (fun _ _ _ h => h) (Or.inr ⟨by rfl, rfl⟩) ?_ ?_
  rotate_left
  · simp only [Act.put, List.setIfInBounds_toArray, List.set_cons_zero, List.set_cons_succ, i64_w, i32_w]
    rfl
  refine pure_ (i := 9) (N := some 18) (v := undef) (a' := ?_) #[true, true, true, true, true, true, true, true, true, true, false, false, false] rfl rfl (by kernel_rfl) (fun _ _ _ h => h) (Or.inr ⟨by rfl, rfl⟩) ?_ ?_
  rotate_left
  · simp only [Act.put, List.setIfInBounds_toArray, List.set_cons_zero, List.set_cons_succ, i64_w, i32_w]
    rfl
  refine one_ (i := 10) (N := some 19) #[true, true, true, true, true, true, true, true, true, true, true, false, false] rfl rfl (by kernel_rfl) (by decide) (fun K hK => ?_)
  refine off_ (by rfl) ?_
  refine hK.out _ _ ⟨(blk_cell BKg2.out 0).trans rfl, (blk_cell BKg2.out 1).trans rfl, (blk_cell BKg3.out 0).trans rfl⟩ (fun hHeld => ?_)
  clear hK K
  refine norm_ (a' := ?_) ?_ ?_
  rotate_left
  · show Act.put _ (some 19) _ = _
    simp only [Act.put, List.setIfInBounds_toArray, List.set_cons_zero, List.set_cons_succ, i64_w, i32_w]
    rfl
  refine pure_ (i := 11) (N := some 20) (v := undef) (a' := ?_) #[true, true, true, true, true, true, true, true, true, true, true, true, false] rfl rfl (by kernel_rfl) (fun _ _ _ h => h) (Or.inr ⟨by rfl, rfl⟩) ?_ ?_
  rotate_left
  · simp only [Act.put, List.setIfInBounds_toArray, List.set_cons_zero, List.set_cons_succ, i64_w, i32_w]
    rfl
  refine pure_ (i := 12) (N := some 21) (v := ?_) (a' := ?_) #[true, true, true, true, true, true, true, true, true, true, true, true, true] rfl rfl (by kernel_rfl) (fun _ _ _ h => h) (Or.inl ⟨by rfl, ?_⟩) ?_ ?_
  rotate_left
  · intro w'
    go_simp
    with_reducible rfl
  rotate_left
  · simp only [Act.put, List.setIfInBounds_toArray, List.set_cons_zero, List.set_cons_succ, i64_w, i32_w]
    rfl
  refine done_ (by kernel_rfl) ?_
  go_wp2
  go_ret3
  exact ⟨by first | rfl | (simp; done) | (simp [*]; done), HB.out⟩
set_option maxHeartbeats 4000000 in
set_option maxRecDepth 100000 in
theorem geom_What.no2 (M R pl : Int) (w : World) (H1 : Aside0 (geom_is.f M R = some true)) (c : decide (pl < 0) = true) :
    Calls Try.prog 28 #[.agg #[.int .i64 M, .int .i64 R], .int .i64 pl] w fun e w' => e = .returned (.tuple #[.int .i64 0, .int .i64 0, .int .i64 2]) ∧ Below w.heap.size w w' := by
  have HB := Aside0.mk (Below.refl w.heap.size w)
  go_enter Try.func28, Try.ntmps28
  go_wp2_with fail
  obtain ⟨q0_, q1_, nb_⟩ := Wk.blks2 w (.cells #[.int .i64 M, .int .i64 R] 23 (0, 0)) (.cells #[.int .i64 pl] 3 (0, 0))
  obtain ⟨W0, hW_⟩ : ∃ W, W = ((w.alloc (.cells #[.int .i64 M, .int .i64 R] 23 (0, 0))).alloc (.cells #[.int .i64 pl] 3 (0, 0))) := ⟨_, rfl⟩
  rw [← hW_]
  rw [← hW_] at q0_
  rw [← hW_] at q1_
  rw [← hW_] at nb_
  have sz_ := below_size HB.out
  have hb2_ := Aside0.mk (below_step HB.out nb_)
  obtain ⟨g2, hgg2_⟩ : ∃ g, g = w.heap.size := ⟨_, rfl⟩
  obtain ⟨g3, hgg3_⟩ : ∃ g, g = w.heap.size + 1 := ⟨_, rfl⟩
  rw [← hgg3_]
  rw [← hgg3_] at q1_
  rw [← hgg2_]
  rw [← hgg2_] at q0_
  have GEg2 := Aside0.mk (show w.heap.size ≤ g2 by omega)
  have GEg3 := Aside0.mk (show w.heap.size ≤ g3 by omega)
  have Dg2g3 : g2 ≠ g3 := by omega
  have Dg3g2 : g3 ≠ g2 := by omega
  have BKg2 := Aside0.mk q0_
  have BKg3 := Aside0.mk q1_
  clear HB
  have HB := hb2_
  clear hb2_ hW_ nb_ sz_ hgg2_ hgg3_ q0_ q1_
  have NBKg2_ := Aside0.mk (blk_drew BKg2.out)
  have NBKg3_ := Aside0.mk (blk_drew BKg3.out)
  have NHB_ := Aside0.mk (below_drew1 HB.out)
  clear BKg2 BKg3 HB
  have BKg2 := NBKg2_
  have BKg3 := NBKg3_
  have HB := NHB_
  clear NBKg2_ NBKg3_ NHB_
  refine start_ (n := 13) (S := fun w' => w'.cell? ⟨g2, 0, none⟩ = some (.int .i64 M) ∧ w'.cell? ⟨g2, 1, none⟩ = some (.int .i64 R) ∧ w'.cell? ⟨g3, 0, none⟩ = some (.int .i64 pl)) (ds := []) #[false, false, false, false, false, false, false, false, false, false, false, false, false] (by kernel_rfl) rfl rfl ⟨(blk_cell BKg2.out 0).trans rfl, (blk_cell BKg2.out 1).trans rfl, (blk_cell BKg3.out 0).trans rfl⟩ (fun hHeld => ?_)
  generalize W0.drew = W1 at BKg2 BKg3 HB hHeld ⊢
  refine take_ (i := 0) (N := some 9) (v := ?_) (a' := ?_) #[true, false, false, false, false, false, false, false, false, false, false, false, false] rfl rfl (by kernel_rfl) (fun _ _ _ h => h) (Or.inl ⟨by rfl, ?_⟩) hHeld ?_ ?_
  rotate_left
  · rintro w' ⟨s0, s1, s2⟩
    go_simp
    with_reducible rfl
  rotate_left
  · simp only [Act.put, List.setIfInBounds_toArray, List.set_cons_zero, List.set_cons_succ, i64_w, i32_w]
    rfl
  refine one_ (i := 1) (N := some 10) #[true, true, false, false, false, false, false, false, false, false, false, false, false] rfl rfl (by kernel_rfl) (by decide) (fun K hK => ?_)
  refine goes_ Try.func30 (by kernel_rfl) rfl #[.agg #[.int .i64 M, .int .i64 R]] (by rfl) rfl rfl (by (try simp only [List.map_toArray, List.map_cons, List.map_nil]); first | done | rfl | (simp only [List.length_drop, List.length_take]; rfl)) ?_
  with_reducible refine (geom_is.calls M R true _ H1.out).mono ?_
  rintro e W2 ⟨rfl, hb⟩
  refine ⟨_, rfl, ?_⟩
  have NBKg2_ := Aside0.mk (blk_below (o := .cells #[.int .i64 M, .int .i64 R] 23 (0, 0)) (by (with_reducible repeat (first | refine blk_drewN ?_ _ | refine blk_drew ?_ | refine blk_alloc ?_ _)); exact BKg2.out) hb)
  have NBKg3_ := Aside0.mk (blk_below (o := .cells #[.int .i64 pl] 3 (0, 0)) (by (with_reducible repeat (first | refine blk_drewN ?_ _ | refine blk_drew ?_ | refine blk_alloc ?_ _)); exact BKg3.out) hb)
  have NHB_ := Aside0.mk (below_step (by repeat (first | (with_reducible first | exact HB.out | apply below_alloc | apply pw_below_drewN | apply below_drew1) | exact HB.out)) hb)
  clear BKg2 BKg3 HB
  have BKg2 := NBKg2_
  have BKg3 := NBKg3_
  have HB := NHB_
  clear NBKg2_ NBKg3_ NHB_
  clear hb
  refine hK.out _ _ ⟨(blk_cell BKg2.out 0).trans rfl, (blk_cell BKg2.out 1).trans rfl, (blk_cell BKg3.out 0).trans rfl⟩ (fun hHeld => ?_)
  clear hK K
  refine norm_ (a' := ?_) ?_ ?_
  rotate_left
  · show Act.put _ (some 10) _ = _
    simp only [Act.put, List.setIfInBounds_toArray, List.set_cons_zero, List.set_cons_succ, i64_w, i32_w]
    rfl
  refine pure_ (i := 2) (N := some 11) (v := ?_) (a' := ?_) #[true, true, true, false, false, false, false, false, false, false, false, false, false] rfl rfl (by kernel_rfl) (fun _ _ _ h => h) (Or.inl ⟨by rfl, ?_⟩) ?_ ?_
  rotate_left
  · intro w'
    go_simp
    with_reducible rfl
  rotate_left
  · simp only [Act.put, List.setIfInBounds_toArray, List.set_cons_zero, List.set_cons_succ, i64_w, i32_w]
    rfl
  refine pure_ (i := 3) (N := some 12) (v := ?_) (a' := ?_) #[true, true, true, true, false, false, false, false, false, false, false, false, false] rfl rfl (by kernel_rfl) (fun _ _ _ h => h) (Or.inl ⟨by rfl, ?_⟩) ?_ ?_
  rotate_left
  · intro w'
    go_simp
    with_reducible rfl
  rotate_left
  · simp only [Act.put, List.setIfInBounds_toArray, List.set_cons_zero, List.set_cons_succ, i64_w, i32_w]
    rfl
  refine take_ (i := 4) (N := some 13) (v := ?_) (a' := ?_) #[true, true, true, true, true, false, false, false, false, false, false, false, false] rfl rfl (by kernel_rfl) (fun _ _ _ h => h) (Or.inl ⟨by rfl, ?_⟩) hHeld ?_ ?_
  rotate_left
  · rintro w' ⟨s0, s1, s2⟩
    go_simp
    with_reducible rfl
  rotate_left
  · simp only [Act.put, List.setIfInBounds_toArray, List.set_cons_zero, List.set_cons_succ, i64_w, i32_w]
    rfl
  refine pure_ (i := 5) (N := some 14) (v := ?_) (a' := ?_) #[true, true, true, true, true, true, false, false, false, false, false, false, false] rfl rfl (by kernel_rfl) (fun _ _ _ h => h) (Or.inl ⟨by rfl, ?_⟩) ?_ ?_
  rotate_left
  · intro w'
    go_simp
    with_reducible rfl
  rotate_left
  · simp only [Act.put, List.setIfInBounds_toArray, List.set_cons_zero, List.set_cons_succ, i64_w, i32_w]
    rfl
  refine pure_ (i := 6) (N := some 15) (v := ?_) (a' := ?_) #[true, true, true, true, true, true, true, false, false, false, false, false, false] rfl rfl (by kernel_rfl) (fun _ _ _ h => h) (Or.inl ⟨by rfl, ?_⟩) ?_ ?_
  rotate_left
  · intro w'
    go_simp
    with_reducible rfl
  rotate_left
  · simp only [Act.put, List.setIfInBounds_toArray, List.set_cons_zero, List.set_cons_succ, i64_w, i32_w]
    rfl
  refine pure_ (i := 7) (N := some 16) (v := ?_) (a' := ?_) #[true, true, true, true, true, true, true, true, false, false, false, false, false] rfl rfl (by kernel_rfl) (fun _ _ _ h => h) (Or.inl ⟨by rfl, ?_⟩) ?_ ?_
  rotate_left
  · intro w'
    go_simp
    with_reducible rfl
  rotate_left
  · simp only [Act.put, List.setIfInBounds_toArray, List.set_cons_zero, List.set_cons_succ, i64_w, i32_w]
    rfl
  refine pure_ (i := 8) (N := some 17) (v := undef) (a' := ?_) #[true, true, true, true, true, true, true, true, true, false, false, false, false] rfl rfl (by kernel_rfl) (fun _ _ _ h => h) (Or.inr ⟨by rfl, rfl⟩) ?_ ?_
  rotate_left
  · simp only [Act.put, List.setIfInBounds_toArray, List.set_cons_zero, List.set_cons_succ, i64_w, i32_w]
    rfl
  refine pure_ (i := 9) (N := some 18) (v := undef) (a' := ?_) #[true, true, true, true, true, true, true, true, true, true, false, false, false] rfl rfl (by kernel_rfl) (fun _ _ _ h => h) (Or.inr ⟨by rfl, rfl⟩) ?_ ?_
  rotate_left
  · simp only [Act.put, List.setIfInBounds_toArray, List.set_cons_zero, List.set_cons_succ, i64_w, i32_w]
    rfl
  refine one_ (i := 10) (N := some 19) #[true, true, true, true, true, true, true, true, true, true, true, false, false] rfl rfl (by kernel_rfl) (by decide) (fun K hK => ?_)
  refine off_ (by rfl) ?_
  refine hK.out _ _ ⟨(blk_cell BKg2.out 0).trans rfl, (blk_cell BKg2.out 1).trans rfl, (blk_cell BKg3.out 0).trans rfl⟩ (fun hHeld => ?_)
  clear hK K
  refine norm_ (a' := ?_) ?_ ?_
  rotate_left
  · show Act.put _ (some 19) _ = _
    simp only [Act.put, List.setIfInBounds_toArray, List.set_cons_zero, List.set_cons_succ, i64_w, i32_w]
    rfl
  refine pure_ (i := 11) (N := some 20) (v := undef) (a' := ?_) #[true, true, true, true, true, true, true, true, true, true, true, true, false] rfl rfl (by kernel_rfl) (fun _ _ _ h => h) (Or.inr ⟨by rfl, rfl⟩) ?_ ?_
  rotate_left
  · simp only [Act.put, List.setIfInBounds_toArray, List.set_cons_zero, List.set_cons_succ, i64_w, i32_w]
    rfl
  refine pure_ (i := 12) (N := some 21) (v := ?_) (a' := ?_) #[true, true, true, true, true, true, true, true, true, true, true, true, true] rfl rfl (by kernel_rfl) (fun _ _ _ h => h) (Or.inl ⟨by rfl, ?_⟩) ?_ ?_
  rotate_left
  · intro w'
    go_simp
    with_reducible rfl
  rotate_left
  · simp only [Act.put, List.setIfInBounds_toArray, List.set_cons_zero, List.set_cons_succ, i64_w, i32_w]
    rfl
  refine done_ (by kernel_rfl) ?_
  go_wp2
  go_ret3
  exact ⟨by first | rfl | (simp; done) | (simp [*]; done), HB.out⟩
set_option maxHeartbeats 4000000 in
set_option maxRecDepth 100000 in
theorem geom_What.no3 (k : Nat) (M R pl s : Int) (w : World) (H1 : Aside0 (geom_is.f M R = some true)) (HS : Aside0 (geom_Sectors.f k M R = some s)) (c : decide (pl < 0) = false) (d : decide (s ≤ pl) = true) :
    Calls Try.prog 28 #[.agg #[.int .i64 M, .int .i64 R], .int .i64 pl] w fun e w' => e = .returned (.tuple #[.int .i64 0, .int .i64 0, .int .i64 2]) ∧ Below w.heap.size w w' := by
  have HB := Aside0.mk (Below.refl w.heap.size w)
  go_enter Try.func28, Try.ntmps28
  go_wp2_with fail
  obtain ⟨q0_, q1_, nb_⟩ := Wk.blks2 w (.cells #[.int .i64 M, .int .i64 R] 23 (0, 0)) (.cells #[.int .i64 pl] 3 (0, 0))
  obtain ⟨W0, hW_⟩ : ∃ W, W = ((w.alloc (.cells #[.int .i64 M, .int .i64 R] 23 (0, 0))).alloc (.cells #[.int .i64 pl] 3 (0, 0))) := ⟨_, rfl⟩
  rw [← hW_]
  rw [← hW_] at q0_
  rw [← hW_] at q1_
  rw [← hW_] at nb_
  have sz_ := below_size HB.out
  have hb2_ := Aside0.mk (below_step HB.out nb_)
  obtain ⟨g2, hgg2_⟩ : ∃ g, g = w.heap.size := ⟨_, rfl⟩
  obtain ⟨g3, hgg3_⟩ : ∃ g, g = w.heap.size + 1 := ⟨_, rfl⟩
  rw [← hgg3_]
  rw [← hgg3_] at q1_
  rw [← hgg2_]
  rw [← hgg2_] at q0_
  have GEg2 := Aside0.mk (show w.heap.size ≤ g2 by omega)
  have GEg3 := Aside0.mk (show w.heap.size ≤ g3 by omega)
  have Dg2g3 : g2 ≠ g3 := by omega
  have Dg3g2 : g3 ≠ g2 := by omega
  have BKg2 := Aside0.mk q0_
  have BKg3 := Aside0.mk q1_
  clear HB
  have HB := hb2_
  clear hb2_ hW_ nb_ sz_ hgg2_ hgg3_ q0_ q1_
  have NBKg2_ := Aside0.mk (blk_drew BKg2.out)
  have NBKg3_ := Aside0.mk (blk_drew BKg3.out)
  have NHB_ := Aside0.mk (below_drew1 HB.out)
  clear BKg2 BKg3 HB
  have BKg2 := NBKg2_
  have BKg3 := NBKg3_
  have HB := NHB_
  clear NBKg2_ NBKg3_ NHB_
  refine start_ (n := 13) (S := fun w' => w'.cell? ⟨g2, 0, none⟩ = some (.int .i64 M) ∧ w'.cell? ⟨g2, 1, none⟩ = some (.int .i64 R) ∧ w'.cell? ⟨g3, 0, none⟩ = some (.int .i64 pl)) (ds := []) #[false, false, false, false, false, false, false, false, false, false, false, false, false] (by kernel_rfl) rfl rfl ⟨(blk_cell BKg2.out 0).trans rfl, (blk_cell BKg2.out 1).trans rfl, (blk_cell BKg3.out 0).trans rfl⟩ (fun hHeld => ?_)
  generalize W0.drew = W1 at BKg2 BKg3 HB hHeld ⊢
  refine take_ (i := 0) (N := some 9) (v := ?_) (a' := ?_) #[true, false, false, false, false, false, false, false, false, false, false, false, false] rfl rfl (by kernel_rfl) (fun _ _ _ h => h) (Or.inl ⟨by rfl, ?_⟩) hHeld ?_ ?_
  rotate_left
  · rintro w' ⟨s0, s1, s2⟩
    go_simp
    with_reducible rfl
  rotate_left
  · simp only [Act.put, List.setIfInBounds_toArray, List.set_cons_zero, List.set_cons_succ, i64_w, i32_w]
    rfl
  refine one_ (i := 1) (N := some 10) #[true, true, false, false, false, false, false, false, false, false, false, false, false] rfl rfl (by kernel_rfl) (by decide) (fun K hK => ?_)
  refine goes_ Try.func30 (by kernel_rfl) rfl #[.agg #[.int .i64 M, .int .i64 R]] (by rfl) rfl rfl (by (try simp only [List.map_toArray, List.map_cons, List.map_nil]); first | done | rfl | (simp only [List.length_drop, List.length_take]; rfl)) ?_
  with_reducible refine (geom_is.calls M R true _ H1.out).mono ?_
  rintro e W2 ⟨rfl, hb⟩
  refine ⟨_, rfl, ?_⟩
  have NBKg2_ := Aside0.mk (blk_below (o := .cells #[.int .i64 M, .int .i64 R] 23 (0, 0)) (by (with_reducible repeat (first | refine blk_drewN ?_ _ | refine blk_drew ?_ | refine blk_alloc ?_ _)); exact BKg2.out) hb)
  have NBKg3_ := Aside0.mk (blk_below (o := .cells #[.int .i64 pl] 3 (0, 0)) (by (with_reducible repeat (first | refine blk_drewN ?_ _ | refine blk_drew ?_ | refine blk_alloc ?_ _)); exact BKg3.out) hb)
  have NHB_ := Aside0.mk (below_step (by repeat (first | (with_reducible first | exact HB.out | apply below_alloc | apply pw_below_drewN | apply below_drew1) | exact HB.out)) hb)
  clear BKg2 BKg3 HB
  have BKg2 := NBKg2_
  have BKg3 := NBKg3_
  have HB := NHB_
  clear NBKg2_ NBKg3_ NHB_
  clear hb
  refine hK.out _ _ ⟨(blk_cell BKg2.out 0).trans rfl, (blk_cell BKg2.out 1).trans rfl, (blk_cell BKg3.out 0).trans rfl⟩ (fun hHeld => ?_)
  clear hK K
  refine norm_ (a' := ?_) ?_ ?_
  rotate_left
  · show Act.put _ (some 10) _ = _
    simp only [Act.put, List.setIfInBounds_toArray, List.set_cons_zero, List.set_cons_succ, i64_w, i32_w]
    rfl
  refine pure_ (i := 2) (N := some 11) (v := ?_) (a' := ?_) #[true, true, true, false, false, false, false, false, false, false, false, false, false] rfl rfl (by kernel_rfl) (fun _ _ _ h => h) (Or.inl ⟨by rfl, ?_⟩) ?_ ?_
  rotate_left
  · intro w'
    go_simp
    with_reducible rfl
  rotate_left
  · simp only [Act.put, List.setIfInBounds_toArray, List.set_cons_zero, List.set_cons_succ, i64_w, i32_w]
    rfl
  refine pure_ (i := 3) (N := some 12) (v := ?_) (a' := ?_) #[true, true, true, true, false, false, false, false, false, false, false, false, false] rfl rfl (by kernel_rfl) (fun _ _ _ h => h) (Or.inl ⟨by rfl, ?_⟩) ?_ ?_
  rotate_left
  · intro w'
    go_simp
    with_reducible rfl
  rotate_left
  · simp only [Act.put, List.setIfInBounds_toArray, List.set_cons_zero, List.set_cons_succ, i64_w, i32_w]
    rfl
  refine take_ (i := 4) (N := some 13) (v := ?_) (a' := ?_) #[true, true, true, true, true, false, false, false, false, false, false, false, false] rfl rfl (by kernel_rfl) (fun _ _ _ h => h) (Or.inl ⟨by rfl, ?_⟩) hHeld ?_ ?_
  rotate_left
  · rintro w' ⟨s0, s1, s2⟩
    go_simp
    with_reducible rfl
  rotate_left
  · simp only [Act.put, List.setIfInBounds_toArray, List.set_cons_zero, List.set_cons_succ, i64_w, i32_w]
    rfl
  refine pure_ (i := 5) (N := some 14) (v := ?_) (a' := ?_) #[true, true, true, true, true, true, false, false, false, false, false, false, false] rfl rfl (by kernel_rfl) (fun _ _ _ h => h) (Or.inl ⟨by rfl, ?_⟩) ?_ ?_
  rotate_left
  · intro w'
    go_simp
    with_reducible rfl
  rotate_left
  · simp only [Act.put, List.setIfInBounds_toArray, List.set_cons_zero, List.set_cons_succ, i64_w, i32_w]
    rfl
  refine pure_ (i := 6) (N := some 15) (v := ?_) (a' := ?_) #[true, true, true, true, true, true, true, false, false, false, false, false, false] rfl rfl (by kernel_rfl) (fun _ _ _ h => h) (Or.inl ⟨by rfl, ?_⟩) ?_ ?_
  rotate_left
  · intro w'
    go_simp
    with_reducible rfl
  rotate_left
  · simp only [Act.put, List.setIfInBounds_toArray, List.set_cons_zero, List.set_cons_succ, i64_w, i32_w]
    rfl
  refine pure_ (i := 7) (N := some 16) (v := ?_) (a' := ?_) #[true, true, true, true, true, true, true, true, false, false, false, false, false] rfl rfl (by kernel_rfl) (fun _ _ _ h => h) (Or.inl ⟨by rfl, ?_⟩) ?_ ?_
  rotate_left
  · intro w'
    go_simp
    with_reducible rfl
  rotate_left
  · simp only [Act.put, List.setIfInBounds_toArray, List.set_cons_zero, List.set_cons_succ, i64_w, i32_w]
    rfl
  refine take_ (i := 8) (N := some 17) (v := ?_) (a' := ?_) #[true, true, true, true, true, true, true, true, true, false, false, false, false] rfl rfl (by kernel_rfl) (fun _ _ _ h => h) (Or.inl ⟨by rfl, ?_⟩) hHeld ?_ ?_
  rotate_left
  · rintro w' ⟨s0, s1, s2⟩
    go_simp
    with_reducible rfl
  rotate_left
  · simp only [Act.put, List.setIfInBounds_toArray, List.set_cons_zero, List.set_cons_succ, i64_w, i32_w]
    rfl
  refine take_ (i := 9) (N := some 18) (v := ?_) (a' := ?_) #[true, true, true, true, true, true, true, true, true, true, false, false, false] rfl rfl (by kernel_rfl) (fun _ _ _ h => h) (Or.inl ⟨by rfl, ?_⟩) hHeld ?_ ?_
  rotate_left
  · rintro w' ⟨s0, s1, s2⟩
    go_simp
    with_reducible rfl
  rotate_left
  · simp only [Act.put, List.setIfInBounds_toArray, List.set_cons_zero, List.set_cons_succ, i64_w, i32_w]
    rfl
  refine one_ (i := 10) (N := some 19) #[true, true, true, true, true, true, true, true, true, true, true, false, false] rfl rfl (by kernel_rfl) (by decide) (fun K hK => ?_)
  refine goes_ Try.func23 (by kernel_rfl) rfl #[.agg #[.int .i64 M, .int .i64 R]] (by rfl) rfl rfl (by (try simp only [List.map_toArray, List.map_cons, List.map_nil]); first | done | rfl | (simp only [List.length_drop, List.length_take]; rfl)) ?_
  with_reducible refine (geom_Sectors.calls k M R s _ HS.out).mono ?_
  rintro e W3 ⟨rfl, hb⟩
  refine ⟨_, rfl, ?_⟩
  have NBKg2_ := Aside0.mk (blk_below (o := .cells #[.int .i64 M, .int .i64 R] 23 (0, 0)) (by (with_reducible repeat (first | refine blk_drewN ?_ _ | refine blk_drew ?_ | refine blk_alloc ?_ _)); exact BKg2.out) hb)
  have NBKg3_ := Aside0.mk (blk_below (o := .cells #[.int .i64 pl] 3 (0, 0)) (by (with_reducible repeat (first | refine blk_drewN ?_ _ | refine blk_drew ?_ | refine blk_alloc ?_ _)); exact BKg3.out) hb)
  have NHB_ := Aside0.mk (below_step (by repeat (first | (with_reducible first | exact HB.out | apply below_alloc | apply pw_below_drewN | apply below_drew1) | exact HB.out)) hb)
  clear BKg2 BKg3 HB
  have BKg2 := NBKg2_
  have BKg3 := NBKg3_
  have HB := NHB_
  clear NBKg2_ NBKg3_ NHB_
  clear hb
  refine hK.out _ _ ⟨(blk_cell BKg2.out 0).trans rfl, (blk_cell BKg2.out 1).trans rfl, (blk_cell BKg3.out 0).trans rfl⟩ (fun hHeld => ?_)
  clear hK K
  refine norm_ (a' := ?_) ?_ ?_
  rotate_left
  · show Act.put _ (some 19) _ = _
    simp only [Act.put, List.setIfInBounds_toArray, List.set_cons_zero, List.set_cons_succ, i64_w, i32_w]
    rfl
  refine pure_ (i := 11) (N := some 20) (v := ?_) (a' := ?_) #[true, true, true, true, true, true, true, true, true, true, true, true, false] rfl rfl (by kernel_rfl) (fun _ _ _ h => h) (Or.inl ⟨by rfl, ?_⟩) ?_ ?_
  rotate_left
  · intro w'
    go_simp
    with_reducible rfl
  rotate_left
  · simp only [Act.put, List.setIfInBounds_toArray, List.set_cons_zero, List.set_cons_succ, i64_w, i32_w]
    rfl
  refine pure_ (i := 12) (N := some 21) (v := ?_) (a' := ?_) #[true, true, true, true, true, true, true, true, true, true, true, true, true] rfl rfl (by kernel_rfl) (fun _ _ _ h => h) (Or.inl ⟨by rfl, ?_⟩) ?_ ?_
  rotate_left
  · intro w'
    go_simp
    with_reducible rfl
  rotate_left
  · simp only [Act.put, List.setIfInBounds_toArray, List.set_cons_zero, List.set_cons_succ, i64_w, i32_w]
    rfl
  refine done_ (by kernel_rfl) ?_
  go_wp2
  go_ret3
  exact ⟨by first | rfl | (simp; done) | (simp [*]; done), HB.out⟩
set_option maxHeartbeats 4000000 in
set_option maxRecDepth 100000 in
theorem geom_What.at1 (k : Nat) (M R pl s hf nd l : Int) (w : World) (H1 : Aside0 (geom_is.f M R = some true)) (HS : Aside0 (geom_Sectors.f k M R = some s)) (H2 : Aside0 (geom_Half.f k M R = some hf)) (H3 : Aside0 (geom_Nodes.f k M R = some nd)) (HL : Aside0 (geom_least.f 1 = some l)) (c : decide (pl < 0) = false) (d : decide (s ≤ pl) = false) (d2 : decide (pl < 8) = true) :
    Calls Try.prog 28 #[.agg #[.int .i64 M, .int .i64 R], .int .i64 pl] w fun e w' => e = .returned (.tuple #[.int .i64 1, .int .i64 (wrap64 (wrap64 pl + l)), .int .i64 0]) ∧ Below w.heap.size w w' := by
  have HB := Aside0.mk (Below.refl w.heap.size w)
  go_enter Try.func28, Try.ntmps28
  go_wp2_with fail
  obtain ⟨q0_, q1_, nb_⟩ := Wk.blks2 w (.cells #[.int .i64 M, .int .i64 R] 23 (0, 0)) (.cells #[.int .i64 pl] 3 (0, 0))
  obtain ⟨W0, hW_⟩ : ∃ W, W = ((w.alloc (.cells #[.int .i64 M, .int .i64 R] 23 (0, 0))).alloc (.cells #[.int .i64 pl] 3 (0, 0))) := ⟨_, rfl⟩
  rw [← hW_]
  rw [← hW_] at q0_
  rw [← hW_] at q1_
  rw [← hW_] at nb_
  have sz_ := below_size HB.out
  have hb2_ := Aside0.mk (below_step HB.out nb_)
  obtain ⟨g2, hgg2_⟩ : ∃ g, g = w.heap.size := ⟨_, rfl⟩
  obtain ⟨g3, hgg3_⟩ : ∃ g, g = w.heap.size + 1 := ⟨_, rfl⟩
  rw [← hgg3_]
  rw [← hgg3_] at q1_
  rw [← hgg2_]
  rw [← hgg2_] at q0_
  have GEg2 := Aside0.mk (show w.heap.size ≤ g2 by omega)
  have GEg3 := Aside0.mk (show w.heap.size ≤ g3 by omega)
  have Dg2g3 : g2 ≠ g3 := by omega
  have Dg3g2 : g3 ≠ g2 := by omega
  have BKg2 := Aside0.mk q0_
  have BKg3 := Aside0.mk q1_
  clear HB
  have HB := hb2_
  clear hb2_ hW_ nb_ sz_ hgg2_ hgg3_ q0_ q1_
  have NBKg2_ := Aside0.mk (blk_drew BKg2.out)
  have NBKg3_ := Aside0.mk (blk_drew BKg3.out)
  have NHB_ := Aside0.mk (below_drew1 HB.out)
  clear BKg2 BKg3 HB
  have BKg2 := NBKg2_
  have BKg3 := NBKg3_
  have HB := NHB_
  clear NBKg2_ NBKg3_ NHB_
  refine start_ (n := 13) (S := fun w' => w'.cell? ⟨g2, 0, none⟩ = some (.int .i64 M) ∧ w'.cell? ⟨g2, 1, none⟩ = some (.int .i64 R) ∧ w'.cell? ⟨g3, 0, none⟩ = some (.int .i64 pl)) (ds := []) #[false, false, false, false, false, false, false, false, false, false, false, false, false] (by kernel_rfl) rfl rfl ⟨(blk_cell BKg2.out 0).trans rfl, (blk_cell BKg2.out 1).trans rfl, (blk_cell BKg3.out 0).trans rfl⟩ (fun hHeld => ?_)
  generalize W0.drew = W1 at BKg2 BKg3 HB hHeld ⊢
  refine take_ (i := 0) (N := some 9) (v := ?_) (a' := ?_) #[true, false, false, false, false, false, false, false, false, false, false, false, false] rfl rfl (by kernel_rfl) (fun _ _ _ h => h) (Or.inl ⟨by rfl, ?_⟩) hHeld ?_ ?_
  rotate_left
  · rintro w' ⟨s0, s1, s2⟩
    go_simp
    with_reducible rfl
  rotate_left
  · simp only [Act.put, List.setIfInBounds_toArray, List.set_cons_zero, List.set_cons_succ, i64_w, i32_w]
    rfl
  refine one_ (i := 1) (N := some 10) #[true, true, false, false, false, false, false, false, false, false, false, false, false] rfl rfl (by kernel_rfl) (by decide) (fun K hK => ?_)
  refine goes_ Try.func30 (by kernel_rfl) rfl #[.agg #[.int .i64 M, .int .i64 R]] (by rfl) rfl rfl (by (try simp only [List.map_toArray, List.map_cons, List.map_nil]); first | done | rfl | (simp only [List.length_drop, List.length_take]; rfl)) ?_
  with_reducible refine (geom_is.calls M R true _ H1.out).mono ?_
  rintro e W2 ⟨rfl, hb⟩
  refine ⟨_, rfl, ?_⟩
  have NBKg2_ := Aside0.mk (blk_below (o := .cells #[.int .i64 M, .int .i64 R] 23 (0, 0)) (by (with_reducible repeat (first | refine blk_drewN ?_ _ | refine blk_drew ?_ | refine blk_alloc ?_ _)); exact BKg2.out) hb)
  have NBKg3_ := Aside0.mk (blk_below (o := .cells #[.int .i64 pl] 3 (0, 0)) (by (with_reducible repeat (first | refine blk_drewN ?_ _ | refine blk_drew ?_ | refine blk_alloc ?_ _)); exact BKg3.out) hb)
  have NHB_ := Aside0.mk (below_step (by repeat (first | (with_reducible first | exact HB.out | apply below_alloc | apply pw_below_drewN | apply below_drew1) | exact HB.out)) hb)
  clear BKg2 BKg3 HB
  have BKg2 := NBKg2_
  have BKg3 := NBKg3_
  have HB := NHB_
  clear NBKg2_ NBKg3_ NHB_
  clear hb
  refine hK.out _ _ ⟨(blk_cell BKg2.out 0).trans rfl, (blk_cell BKg2.out 1).trans rfl, (blk_cell BKg3.out 0).trans rfl⟩ (fun hHeld => ?_)
  clear hK K
  refine norm_ (a' := ?_) ?_ ?_
  rotate_left
  · show Act.put _ (some 10) _ = _
    simp only [Act.put, List.setIfInBounds_toArray, List.set_cons_zero, List.set_cons_succ, i64_w, i32_w]
    rfl
  refine pure_ (i := 2) (N := some 11) (v := ?_) (a' := ?_) #[true, true, true, false, false, false, false, false, false, false, false, false, false] rfl rfl (by kernel_rfl) (fun _ _ _ h => h) (Or.inl ⟨by rfl, ?_⟩) ?_ ?_
  rotate_left
  · intro w'
    go_simp
    with_reducible rfl
  rotate_left
  · simp only [Act.put, List.setIfInBounds_toArray, List.set_cons_zero, List.set_cons_succ, i64_w, i32_w]
    rfl
  refine pure_ (i := 3) (N := some 12) (v := ?_) (a' := ?_) #[true, true, true, true, false, false, false, false, false, false, false, false, false] rfl rfl (by kernel_rfl) (fun _ _ _ h => h) (Or.inl ⟨by rfl, ?_⟩) ?_ ?_
  rotate_left
  · intro w'
    go_simp
    with_reducible rfl
  rotate_left
  · simp only [Act.put, List.setIfInBounds_toArray, List.set_cons_zero, List.set_cons_succ, i64_w, i32_w]
    rfl
  refine take_ (i := 4) (N := some 13) (v := ?_) (a' := ?_) #[true, true, true, true, true, false, false, false, false, false, false, false, false] rfl rfl (by kernel_rfl) (fun _ _ _ h => h) (Or.inl ⟨by rfl, ?_⟩) hHeld ?_ ?_
  rotate_left
  · rintro w' ⟨s0, s1, s2⟩
    go_simp
    with_reducible rfl
  rotate_left
  · simp only [Act.put, List.setIfInBounds_toArray, List.set_cons_zero, List.set_cons_succ, i64_w, i32_w]
    rfl
  refine pure_ (i := 5) (N := some 14) (v := ?_) (a' := ?_) #[true, true, true, true, true, true, false, false, false, false, false, false, false] rfl rfl (by kernel_rfl) (fun _ _ _ h => h) (Or.inl ⟨by rfl, ?_⟩) ?_ ?_
  rotate_left
  · intro w'
    go_simp
    with_reducible rfl
  rotate_left
  · simp only [Act.put, List.setIfInBounds_toArray, List.set_cons_zero, List.set_cons_succ, i64_w, i32_w]
    rfl
  refine pure_ (i := 6) (N := some 15) (v := ?_) (a' := ?_) #[true, true, true, true, true, true, true, false, false, false, false, false, false] rfl rfl (by kernel_rfl) (fun _ _ _ h => h) (Or.inl ⟨by rfl, ?_⟩) ?_ ?_
  rotate_left
  · intro w'
    go_simp
    with_reducible rfl
  rotate_left
  · simp only [Act.put, List.setIfInBounds_toArray, List.set_cons_zero, List.set_cons_succ, i64_w, i32_w]
    rfl
  refine pure_ (i := 7) (N := some 16) (v := ?_) (a' := ?_) #[true, true, true, true, true, true, true, true, false, false, false, false, false] rfl rfl (by kernel_rfl) (fun _ _ _ h => h) (Or.inl ⟨by rfl, ?_⟩) ?_ ?_
  rotate_left
  · intro w'
    go_simp
    with_reducible rfl
  rotate_left
  · simp only [Act.put, List.setIfInBounds_toArray, List.set_cons_zero, List.set_cons_succ, i64_w, i32_w]
    rfl
  refine take_ (i := 8) (N := some 17) (v := ?_) (a' := ?_) #[true, true, true, true, true, true, true, true, true, false, false, false, false] rfl rfl (by kernel_rfl) (fun _ _ _ h => h) (Or.inl ⟨by rfl, ?_⟩) hHeld ?_ ?_
  rotate_left
  · rintro w' ⟨s0, s1, s2⟩
    go_simp
    with_reducible rfl
  rotate_left
  · simp only [Act.put, List.setIfInBounds_toArray, List.set_cons_zero, List.set_cons_succ, i64_w, i32_w]
    rfl
  refine take_ (i := 9) (N := some 18) (v := ?_) (a' := ?_) #[true, true, true, true, true, true, true, true, true, true, false, false, false] rfl rfl (by kernel_rfl) (fun _ _ _ h => h) (Or.inl ⟨by rfl, ?_⟩) hHeld ?_ ?_
  rotate_left
  · rintro w' ⟨s0, s1, s2⟩
    go_simp
    with_reducible rfl
  rotate_left
  · simp only [Act.put, List.setIfInBounds_toArray, List.set_cons_zero, List.set_cons_succ, i64_w, i32_w]
    rfl
  refine one_ (i := 10) (N := some 19) #[true, true, true, true, true, true, true, true, true, true, true, false, false] rfl rfl (by kernel_rfl) (by decide) (fun K hK => ?_)
  refine goes_ Try.func23 (by kernel_rfl) rfl #[.agg #[.int .i64 M, .int .i64 R]] (by rfl) rfl rfl (by (try simp only [List.map_toArray, List.map_cons, List.map_nil]); first | done | rfl | (simp only [List.length_drop, List.length_take]; rfl)) ?_
  with_reducible refine (geom_Sectors.calls k M R s _ HS.out).mono ?_
  rintro e W3 ⟨rfl, hb⟩
  refine ⟨_, rfl, ?_⟩
  have NBKg2_ := Aside0.mk (blk_below (o := .cells #[.int .i64 M, .int .i64 R] 23 (0, 0)) (by (with_reducible repeat (first | refine blk_drewN ?_ _ | refine blk_drew ?_ | refine blk_alloc ?_ _)); exact BKg2.out) hb)
  have NBKg3_ := Aside0.mk (blk_below (o := .cells #[.int .i64 pl] 3 (0, 0)) (by (with_reducible repeat (first | refine blk_drewN ?_ _ | refine blk_drew ?_ | refine blk_alloc ?_ _)); exact BKg3.out) hb)
  have NHB_ := Aside0.mk (below_step (by repeat (first | (with_reducible first | exact HB.out | apply below_alloc | apply pw_below_drewN | apply below_drew1) | exact HB.out)) hb)
  clear BKg2 BKg3 HB
  have BKg2 := NBKg2_
  have BKg3 := NBKg3_
  have HB := NHB_
  clear NBKg2_ NBKg3_ NHB_
  clear hb
  refine hK.out _ _ ⟨(blk_cell BKg2.out 0).trans rfl, (blk_cell BKg2.out 1).trans rfl, (blk_cell BKg3.out 0).trans rfl⟩ (fun hHeld => ?_)
  clear hK K
  refine norm_ (a' := ?_) ?_ ?_
  rotate_left
  · show Act.put _ (some 19) _ = _
    simp only [Act.put, List.setIfInBounds_toArray, List.set_cons_zero, List.set_cons_succ, i64_w, i32_w]
    rfl
  refine pure_ (i := 11) (N := some 20) (v := ?_) (a' := ?_) #[true, true, true, true, true, true, true, true, true, true, true, true, false] rfl rfl (by kernel_rfl) (fun _ _ _ h => h) (Or.inl ⟨by rfl, ?_⟩) ?_ ?_
  rotate_left
  · intro w'
    go_simp
    with_reducible rfl
  rotate_left
  · simp only [Act.put, List.setIfInBounds_toArray, List.set_cons_zero, List.set_cons_succ, i64_w, i32_w]
    rfl
  refine pure_ (i := 12) (N := some 21) (v := ?_) (a' := ?_) #[true, true, true, true, true, true, true, true, true, true, true, true, true] rfl rfl (by kernel_rfl) (fun _ _ _ h => h) (Or.inl ⟨by rfl, ?_⟩) ?_ ?_
  rotate_left
  · intro w'
    go_simp
    with_reducible rfl
  rotate_left
  · simp only [Act.put, List.setIfInBounds_toArray, List.set_cons_zero, List.set_cons_succ, i64_w, i32_w]
    rfl
  refine done_ (by kernel_rfl) ?_
  obtain ⟨cg2_0, cg2_1⟩ := Wk.cells2 BKg2.out
  have fg2_0 := blk_frozen BKg2.out 0
  have fg2_1 := blk_frozen BKg2.out 1
  have cg3_0 := Wk.cells1 BKg3.out
  have fg3_0 := blk_frozen BKg3.out 0
  go_wp2_with fail
  clear cg2_0 fg2_0 cg2_1 fg2_1 cg3_0 fg3_0
  with_reducible refine (geom_firsts.calls k M R hf nd _ H2.out H3.out).mono ?_
  rintro e W4 ⟨rfl, hb⟩
  have NBKg2_ := Aside0.mk (blk_below (o := .cells #[.int .i64 M, .int .i64 R] 23 (0, 0)) (by (with_reducible repeat (first | refine blk_drewN ?_ _ | refine blk_drew ?_ | refine blk_alloc ?_ _)); exact BKg2.out) hb)
  have NBKg3_ := Aside0.mk (blk_below (o := .cells #[.int .i64 pl] 3 (0, 0)) (by (with_reducible repeat (first | refine blk_drewN ?_ _ | refine blk_drew ?_ | refine blk_alloc ?_ _)); exact BKg3.out) hb)
  have NHB_ := Aside0.mk (below_step (by repeat (first | (with_reducible first | exact HB.out | apply below_alloc | apply pw_below_drewN | apply below_drew1) | exact HB.out)) hb)
  clear BKg2 BKg3 HB
  have BKg2 := NBKg2_
  have BKg3 := NBKg3_
  have HB := NHB_
  clear NBKg2_ NBKg3_ NHB_
  clear hb
  obtain ⟨cg2_0, cg2_1⟩ := Wk.cells2 BKg2.out
  have fg2_0 := blk_frozen BKg2.out 0
  have fg2_1 := blk_frozen BKg2.out 1
  have cg3_0 := Wk.cells1 BKg3.out
  have fg3_0 := blk_frozen BKg3.out 0
  go_wp2_with fail
  clear cg2_0 fg2_0 cg2_1 fg2_1 cg3_0 fg3_0
  obtain ⟨q0_, nb_⟩ := Wk.blks1 W4 (.cells #[.int .i64 0, .int .i64 0, .int .i64 8, .int .i64 (wrap64 (8 + wrap64 (2 * hf))), .int .i64 (wrap64 (wrap64 (8 + wrap64 (2 * hf)) + nd)), .int .i64 (wrap64 (wrap64 (wrap64 (8 + wrap64 (2 * hf)) + nd) + R))] 43 (0, 0))
  obtain ⟨W5, hW_⟩ : ∃ W, W = (W4.alloc (.cells #[.int .i64 0, .int .i64 0, .int .i64 8, .int .i64 (wrap64 (8 + wrap64 (2 * hf))), .int .i64 (wrap64 (wrap64 (8 + wrap64 (2 * hf)) + nd)), .int .i64 (wrap64 (wrap64 (wrap64 (8 + wrap64 (2 * hf)) + nd) + R))] 43 (0, 0))) := ⟨_, rfl⟩
  rw [← hW_]
  rw [← hW_] at q0_
  rw [← hW_] at nb_
  have mg2_ := blk_below BKg2.out nb_
  have mg3_ := blk_below BKg3.out nb_
  have sz_ := below_size HB.out
  have ltg2_ := blk_lt BKg2.out
  have ltg3_ := blk_lt BKg3.out
  have hb2_ := Aside0.mk (below_step HB.out nb_)
  obtain ⟨g7, hgg7_⟩ : ∃ g, g = W4.heap.size := ⟨_, rfl⟩
  rw [← hgg7_]
  rw [← hgg7_] at q0_
  have GEg7 := Aside0.mk (show w.heap.size ≤ g7 by omega)
  have Dg2g7 : g2 ≠ g7 := by omega
  have Dg7g2 : g7 ≠ g2 := by omega
  have Dg3g7 : g3 ≠ g7 := by omega
  have Dg7g3 : g7 ≠ g3 := by omega
  have BNg2 := Aside0.mk mg2_
  clear BKg2
  have BKg2 := BNg2
  clear BNg2 ltg2_ mg2_
  have BNg3 := Aside0.mk mg3_
  clear BKg3
  have BKg3 := BNg3
  clear BNg3 ltg3_ mg3_
  have BKg7 := Aside0.mk q0_
  clear HB
  have HB := hb2_
  clear hb2_ hW_ nb_ sz_ hgg7_ q0_
  have hx_ : ∀ j, j < 6 → W5.cell? ⟨g7, j, none⟩ = some (.int .i64 (([0, 0, 8, (wrap64 (8 + wrap64 (2 * hf))), (wrap64 (wrap64 (8 + wrap64 (2 * hf)) + nd)), (wrap64 (wrap64 (wrap64 (8 + wrap64 (2 * hf)) + nd) + R))] : List Int).getD j 0)) := by
    intro j hj
    have hc_ := blk_cell BKg7.out j
    have : j = 0 ∨ j = 1 ∨ j = 2 ∨ j = 3 ∨ j = 4 ∨ j = 5 := by omega
    rcases this with rfl | rfl | rfl | rfl | rfl | rfl <;> exact hc_.trans rfl
  have h2_ : ∀ j, j < 2 → ([0, 0, 8, (wrap64 (8 + wrap64 (2 * hf))), (wrap64 (wrap64 (8 + wrap64 (2 * hf)) + nd)), (wrap64 (wrap64 (wrap64 (8 + wrap64 (2 * hf)) + nd) + R))] : List Int).getD j 0 ≤ pl := by
    intro j hj
    have c' : ¬ pl < 0 := of_decide_eq_false c
    have : j = 0 ∨ j = 1 := by omega
    rcases this with rfl | rfl <;> simp only [List.getD_eq_getElem?_getD, List.getElem?_cons_zero, List.getElem?_cons_succ, Option.getD_some] <;> omega
  with_reducible refine (indexfunc.calls ([0, 0, 8, (wrap64 (8 + wrap64 (2 * hf))), (wrap64 (wrap64 (8 + wrap64 (2 * hf)) + nd)), (wrap64 (wrap64 (wrap64 (8 + wrap64 (2 * hf)) + nd) + R))] : List Int) pl g3 g7 2 _ (Wk.cells1 BKg3.out) hx_ (by omega) (by have t_ := of_decide_eq_true d2; simpa using t_) h2_).mono ?_
  rintro e w_ ⟨rfl, rfl⟩
  clear hx_ h2_
  obtain ⟨cg2_0, cg2_1⟩ := Wk.cells2 BKg2.out
  have fg2_0 := blk_frozen BKg2.out 0
  have fg2_1 := blk_frozen BKg2.out 1
  have cg3_0 := Wk.cells1 BKg3.out
  have fg3_0 := blk_frozen BKg3.out 0
  obtain ⟨cg7_0, cg7_1, cg7_2, cg7_3, cg7_4, cg7_5⟩ := Wk.cells6 BKg7.out
  have fg7_0 := blk_frozen BKg7.out 0
  have fg7_1 := blk_frozen BKg7.out 1
  have fg7_2 := blk_frozen BKg7.out 2
  have fg7_3 := blk_frozen BKg7.out 3
  have fg7_4 := blk_frozen BKg7.out 4
  have fg7_5 := blk_frozen BKg7.out 5
  have wq : wrap64 1 = 1 := by unfold wrap64; omega
  go_wp2_with fail
  clear cg2_0 fg2_0 cg2_1 fg2_1 cg3_0 fg3_0 cg7_0 fg7_0 cg7_1 fg7_1 cg7_2 fg7_2 cg7_3 fg7_3 cg7_4 fg7_4 cg7_5 fg7_5
  have NBKg2_ := Aside0.mk (blk_drew BKg2.out)
  have NBKg3_ := Aside0.mk (blk_drew BKg3.out)
  have NBKg7_ := Aside0.mk (blk_drew BKg7.out)
  have NHB_ := Aside0.mk (below_drew1 HB.out)
  clear BKg2 BKg3 BKg7 HB
  have BKg2 := NBKg2_
  have BKg3 := NBKg3_
  have BKg7 := NBKg7_
  have HB := NHB_
  clear NBKg2_ NBKg3_ NBKg7_ NHB_
  refine start_ (n := 12) (S := fun w' => w'.cell? ⟨g3, 0, none⟩ = some (.int .i64 pl) ∧ w'.cell? ⟨g7, 0, none⟩ = some (.int .i64 0) ∧ w'.cell? ⟨g7, 1, none⟩ = some (.int .i64 0) ∧ w'.cell? ⟨g7, 2, none⟩ = some (.int .i64 8) ∧ w'.cell? ⟨g7, 3, none⟩ = some (.int .i64 (wrap64 (8 + wrap64 (2 * hf)))) ∧ w'.cell? ⟨g7, 4, none⟩ = some (.int .i64 (wrap64 (wrap64 (8 + wrap64 (2 * hf)) + nd))) ∧ w'.cell? ⟨g7, 5, none⟩ = some (.int .i64 (wrap64 (wrap64 (wrap64 (8 + wrap64 (2 * hf)) + nd) + R)))) (ds := []) #[false, false, false, false, false, false, false, false, false, false, false, false] (by kernel_rfl) rfl rfl ⟨(blk_cell BKg3.out 0).trans rfl, (blk_cell BKg7.out 0).trans rfl, (blk_cell BKg7.out 1).trans rfl, (blk_cell BKg7.out 2).trans rfl, (blk_cell BKg7.out 3).trans rfl, (blk_cell BKg7.out 4).trans rfl, (blk_cell BKg7.out 5).trans rfl⟩ (fun hHeld => ?_)
  generalize W5.drew = W6 at BKg2 BKg3 BKg7 HB hHeld ⊢
  refine pure_ (i := 0) (N := some 29) (v := ?_) (a' := ?_) #[true, false, false, false, false, false, false, false, false, false, false, false] rfl rfl (by kernel_rfl) (fun _ _ _ h => h) (Or.inl ⟨by rfl, ?_⟩) ?_ ?_
  rotate_left
  · intro w'
    go_simp
    with_reducible rfl
  rotate_left
  · simp only [Act.put, List.setIfInBounds_toArray, List.set_cons_zero, List.set_cons_succ, i64_w, i32_w]
    rfl
  refine take_ (i := 1) (N := some 30) (v := ?_) (a' := ?_) #[true, true, false, false, false, false, false, false, false, false, false, false] rfl rfl (by kernel_rfl) (fun _ _ _ h => h) (Or.inl ⟨by rfl, ?_⟩) hHeld ?_ ?_
  rotate_left
  · rintro w' ⟨s0, s1, s2, s3, s4, s5, s6⟩
    go_simp
    with_reducible rfl
  rotate_left
  · simp only [Act.put, List.setIfInBounds_toArray, List.set_cons_zero, List.set_cons_succ, i64_w, i32_w]
    rfl
  refine pure_ (i := 2) (N := some 31) (v := ?_) (a' := ?_) #[true, true, true, false, false, false, false, false, false, false, false, false] rfl rfl (by kernel_rfl) (fun _ _ _ h => h) (Or.inl ⟨by rfl, ?_⟩) ?_ ?_
  rotate_left
  · intro w'
    go_simp
    with_reducible rfl
  rotate_left
  · simp only [Act.put, List.setIfInBounds_toArray, List.set_cons_zero, List.set_cons_succ, i64_w, i32_w]
    rfl
  refine pure_ (i := 3) (N := some 32) (v := ?_) (a' := ?_) #[true, true, true, true, false, false, false, false, false, false, false, false] rfl rfl (by kernel_rfl) (fun _ _ _ h => h) (Or.inl ⟨by rfl, ?_⟩) ?_ ?_
  rotate_left
  · intro w'
    go_simp
    with_reducible rfl
  rotate_left
  · simp only [Act.put, List.setIfInBounds_toArray, List.set_cons_zero, List.set_cons_succ, i64_w, i32_w]
    rfl
  refine take_ (i := 4) (N := some 33) (v := ?_) (a' := ?_) #[true, true, true, true, true, false, false, false, false, false, false, false] rfl rfl (by kernel_rfl) (fun _ _ _ h => h) (Or.inl ⟨by rfl, ?_⟩) hHeld ?_ ?_
  rotate_left
  · rintro w' ⟨s0, s1, s2, s3, s4, s5, s6⟩
    go_simp
    with_reducible rfl
  rotate_left
  · simp only [Act.put, List.setIfInBounds_toArray, List.set_cons_zero, List.set_cons_succ, i64_w, i32_w]
    rfl
  refine pure_ (i := 5) (N := some 34) (v := ?_) (a' := ?_) #[true, true, true, true, true, true, false, false, false, false, false, false] rfl rfl (by kernel_rfl) (fun _ _ _ h => h) (Or.inl ⟨by rfl, ?_⟩) ?_ ?_
  rotate_left
  · intro w'
    go_simp
    with_reducible rfl
  rotate_left
  · simp only [Act.put, List.setIfInBounds_toArray, List.set_cons_zero, List.set_cons_succ, i64_w, i32_w]
    rfl
  refine pure_ (i := 6) (N := some 35) (v := ?_) (a' := ?_) #[true, true, true, true, true, true, true, false, false, false, false, false] rfl rfl (by kernel_rfl) (fun _ _ _ h => h) (Or.inl ⟨by rfl, ?_⟩) ?_ ?_
  rotate_left
  · intro w'
    go_simp
    with_reducible rfl
  rotate_left
  · simp only [Act.put, List.setIfInBounds_toArray, List.set_cons_zero, List.set_cons_succ, i64_w, i32_w]
    rfl
  refine one_ (i := 7) (N := some 36) #[true, true, true, true, true, true, true, true, false, false, false, false] rfl rfl (by kernel_rfl) (by decide) (fun K hK => ?_)
  refine goes_ Try.func34 (by kernel_rfl) rfl #[.int .i64 1] (by rfl) rfl rfl (by (try simp only [List.map_toArray, List.map_cons, List.map_nil]); first | done | rfl | (simp only [List.length_drop, List.length_take]; rfl)) ?_
  with_reducible refine (geom_least.calls 1 l _ HL.out).mono ?_
  rintro e w_ ⟨rfl, ⟨nd_, rfl⟩⟩
  refine ⟨_, rfl, ?_⟩
  have NBKg2_ := Aside0.mk (blk_drewN BKg2.out nd_)
  have NBKg3_ := Aside0.mk (blk_drewN BKg3.out nd_)
  have NBKg7_ := Aside0.mk (blk_drewN BKg7.out nd_)
  have NHB_ := Aside0.mk (pw_below_drewN HB.out nd_)
  clear BKg2 BKg3 BKg7 HB
  have BKg2 := NBKg2_
  have BKg3 := NBKg3_
  have BKg7 := NBKg7_
  have HB := NHB_
  clear NBKg2_ NBKg3_ NBKg7_ NHB_
  refine hK.out _ _ ⟨(blk_cell BKg3.out 0).trans rfl, (blk_cell BKg7.out 0).trans rfl, (blk_cell BKg7.out 1).trans rfl, (blk_cell BKg7.out 2).trans rfl, (blk_cell BKg7.out 3).trans rfl, (blk_cell BKg7.out 4).trans rfl, (blk_cell BKg7.out 5).trans rfl⟩ (fun hHeld => ?_)
  clear hK K
  refine norm_ (a' := ?_) ?_ ?_
  rotate_left
  · show Act.put _ (some 36) _ = _
    simp only [Act.put, List.setIfInBounds_toArray, List.set_cons_zero, List.set_cons_succ, i64_w, i32_w]
    rfl
  generalize W6.drewN nd_ = W7 at BKg2 BKg3 BKg7 HB hHeld ⊢
  refine pure_ (i := 8) (N := some 37) (v := ?_) (a' := ?_) #[true, true, true, true, true, true, true, true, true, false, false, false] rfl rfl (by kernel_rfl) (fun _ _ _ h => h) (Or.inl ⟨by rfl, ?_⟩) ?_ ?_
  rotate_left
  · intro w'
    go_simp
    with_reducible rfl
  rotate_left
  · simp only [Act.put, List.setIfInBounds_toArray, List.set_cons_zero, List.set_cons_succ, i64_w, i32_w]
    rfl
  refine pure_ (i := 9) (N := some 4) (v := ?_) (a' := ?_) #[true, true, true, true, true, true, true, true, true, true, false, false] rfl rfl (by kernel_rfl) (fun _ _ _ h => h) (Or.inl ⟨by rfl, ?_⟩) ?_ ?_
  rotate_left
  · intro w'
    go_simp
    with_reducible rfl
  rotate_left
  · simp only [Act.put, List.setIfInBounds_toArray, List.set_cons_zero, List.set_cons_succ, i64_w, i32_w]
    rfl
  refine pure_ (i := 10) (N := some 5) (v := ?_) (a' := ?_) #[true, true, true, true, true, true, true, true, true, true, true, false] rfl rfl (by kernel_rfl) (fun _ _ _ h => h) (Or.inl ⟨by rfl, ?_⟩) ?_ ?_
  rotate_left
  · intro w'
    go_simp
    with_reducible rfl
  rotate_left
  · simp only [Act.put, List.setIfInBounds_toArray, List.set_cons_zero, List.set_cons_succ, i64_w, i32_w]
    rfl
  refine pure_ (i := 11) (N := some 6) (v := ?_) (a' := ?_) #[true, true, true, true, true, true, true, true, true, true, true, true] rfl rfl (by kernel_rfl) (fun _ _ _ h => h) (Or.inl ⟨by rfl, ?_⟩) ?_ ?_
  rotate_left
  · intro w'
    go_simp
    with_reducible rfl
  rotate_left
  · simp only [Act.put, List.setIfInBounds_toArray, List.set_cons_zero, List.set_cons_succ, i64_w, i32_w]
    rfl
  refine done_ (by kernel_rfl) ?_
  go_wp2
  go_ret3
  exact ⟨by first | rfl | (simp; done) | (simp [*]; done), HB.out⟩
set_option maxHeartbeats 4000000 in
set_option maxRecDepth 100000 in
theorem geom_What.at2 (k : Nat) (M R pl s hf nd l : Int) (w : World) (H1 : Aside0 (geom_is.f M R = some true)) (HS : Aside0 (geom_Sectors.f k M R = some s)) (H2 : Aside0 (geom_Half.f k M R = some hf)) (H3 : Aside0 (geom_Nodes.f k M R = some nd)) (HL : Aside0 (geom_least.f 2 = some l)) (c : decide (pl < 0) = false) (d : decide (s ≤ pl) = false) (d2 : decide (pl < 8) = false) (d3 : decide (pl < (wrap64 (8 + wrap64 (2 * hf)))) = true) :
    Calls Try.prog 28 #[.agg #[.int .i64 M, .int .i64 R], .int .i64 pl] w fun e w' => e = .returned (.tuple #[.int .i64 2, .int .i64 (wrap64 (wrap64 (pl - 8) + l)), .int .i64 0]) ∧ Below w.heap.size w w' := by
  have HB := Aside0.mk (Below.refl w.heap.size w)
  go_enter Try.func28, Try.ntmps28
  go_wp2_with fail
  obtain ⟨q0_, q1_, nb_⟩ := Wk.blks2 w (.cells #[.int .i64 M, .int .i64 R] 23 (0, 0)) (.cells #[.int .i64 pl] 3 (0, 0))
  obtain ⟨W0, hW_⟩ : ∃ W, W = ((w.alloc (.cells #[.int .i64 M, .int .i64 R] 23 (0, 0))).alloc (.cells #[.int .i64 pl] 3 (0, 0))) := ⟨_, rfl⟩
  rw [← hW_]
  rw [← hW_] at q0_
  rw [← hW_] at q1_
  rw [← hW_] at nb_
  have sz_ := below_size HB.out
  have hb2_ := Aside0.mk (below_step HB.out nb_)
  obtain ⟨g2, hgg2_⟩ : ∃ g, g = w.heap.size := ⟨_, rfl⟩
  obtain ⟨g3, hgg3_⟩ : ∃ g, g = w.heap.size + 1 := ⟨_, rfl⟩
  rw [← hgg3_]
  rw [← hgg3_] at q1_
  rw [← hgg2_]
  rw [← hgg2_] at q0_
  have GEg2 := Aside0.mk (show w.heap.size ≤ g2 by omega)
  have GEg3 := Aside0.mk (show w.heap.size ≤ g3 by omega)
  have Dg2g3 : g2 ≠ g3 := by omega
  have Dg3g2 : g3 ≠ g2 := by omega
  have BKg2 := Aside0.mk q0_
  have BKg3 := Aside0.mk q1_
  clear HB
  have HB := hb2_
  clear hb2_ hW_ nb_ sz_ hgg2_ hgg3_ q0_ q1_
  have NBKg2_ := Aside0.mk (blk_drew BKg2.out)
  have NBKg3_ := Aside0.mk (blk_drew BKg3.out)
  have NHB_ := Aside0.mk (below_drew1 HB.out)
  clear BKg2 BKg3 HB
  have BKg2 := NBKg2_
  have BKg3 := NBKg3_
  have HB := NHB_
  clear NBKg2_ NBKg3_ NHB_
  refine start_ (n := 13) (S := fun w' => w'.cell? ⟨g2, 0, none⟩ = some (.int .i64 M) ∧ w'.cell? ⟨g2, 1, none⟩ = some (.int .i64 R) ∧ w'.cell? ⟨g3, 0, none⟩ = some (.int .i64 pl)) (ds := []) #[false, false, false, false, false, false, false, false, false, false, false, false, false] (by kernel_rfl) rfl rfl ⟨(blk_cell BKg2.out 0).trans rfl, (blk_cell BKg2.out 1).trans rfl, (blk_cell BKg3.out 0).trans rfl⟩ (fun hHeld => ?_)
  generalize W0.drew = W1 at BKg2 BKg3 HB hHeld ⊢
  refine take_ (i := 0) (N := some 9) (v := ?_) (a' := ?_) #[true, false, false, false, false, false, false, false, false, false, false, false, false] rfl rfl (by kernel_rfl) (fun _ _ _ h => h) (Or.inl ⟨by rfl, ?_⟩) hHeld ?_ ?_
  rotate_left
  · rintro w' ⟨s0, s1, s2⟩
    go_simp
    with_reducible rfl
  rotate_left
  · simp only [Act.put, List.setIfInBounds_toArray, List.set_cons_zero, List.set_cons_succ, i64_w, i32_w]
    rfl
  refine one_ (i := 1) (N := some 10) #[true, true, false, false, false, false, false, false, false, false, false, false, false] rfl rfl (by kernel_rfl) (by decide) (fun K hK => ?_)
  refine goes_ Try.func30 (by kernel_rfl) rfl #[.agg #[.int .i64 M, .int .i64 R]] (by rfl) rfl rfl (by (try simp only [List.map_toArray, List.map_cons, List.map_nil]); first | done | rfl | (simp only [List.length_drop, List.length_take]; rfl)) ?_
  with_reducible refine (geom_is.calls M R true _ H1.out).mono ?_
  rintro e W2 ⟨rfl, hb⟩
  refine ⟨_, rfl, ?_⟩
  have NBKg2_ := Aside0.mk (blk_below (o := .cells #[.int .i64 M, .int .i64 R] 23 (0, 0)) (by (with_reducible repeat (first | refine blk_drewN ?_ _ | refine blk_drew ?_ | refine blk_alloc ?_ _)); exact BKg2.out) hb)
  have NBKg3_ := Aside0.mk (blk_below (o := .cells #[.int .i64 pl] 3 (0, 0)) (by (with_reducible repeat (first | refine blk_drewN ?_ _ | refine blk_drew ?_ | refine blk_alloc ?_ _)); exact BKg3.out) hb)
  have NHB_ := Aside0.mk (below_step (by repeat (first | (with_reducible first | exact HB.out | apply below_alloc | apply pw_below_drewN | apply below_drew1) | exact HB.out)) hb)
  clear BKg2 BKg3 HB
  have BKg2 := NBKg2_
  have BKg3 := NBKg3_
  have HB := NHB_
  clear NBKg2_ NBKg3_ NHB_
  clear hb
  refine hK.out _ _ ⟨(blk_cell BKg2.out 0).trans rfl, (blk_cell BKg2.out 1).trans rfl, (blk_cell BKg3.out 0).trans rfl⟩ (fun hHeld => ?_)
  clear hK K
  refine norm_ (a' := ?_) ?_ ?_
  rotate_left
  · show Act.put _ (some 10) _ = _
    simp only [Act.put, List.setIfInBounds_toArray, List.set_cons_zero, List.set_cons_succ, i64_w, i32_w]
    rfl
  refine pure_ (i := 2) (N := some 11) (v := ?_) (a' := ?_) #[true, true, true, false, false, false, false, false, false, false, false, false, false] rfl rfl (by kernel_rfl) (fun _ _ _ h => h) (Or.inl ⟨by rfl, ?_⟩) ?_ ?_
  rotate_left
  · intro w'
    go_simp
    with_reducible rfl
  rotate_left
  · simp only [Act.put, List.setIfInBounds_toArray, List.set_cons_zero, List.set_cons_succ, i64_w, i32_w]
    rfl
  refine pure_ (i := 3) (N := some 12) (v := ?_) (a' := ?_) #[true, true, true, true, false, false, false, false, false, false, false, false, false] rfl rfl (by kernel_rfl) (fun _ _ _ h => h) (Or.inl ⟨by rfl, ?_⟩) ?_ ?_
  rotate_left
  · intro w'
    go_simp
    with_reducible rfl
  rotate_left
  · simp only [Act.put, List.setIfInBounds_toArray, List.set_cons_zero, List.set_cons_succ, i64_w, i32_w]
    rfl
  refine take_ (i := 4) (N := some 13) (v := ?_) (a' := ?_) #[true, true, true, true, true, false, false, false, false, false, false, false, false] rfl rfl (by kernel_rfl) (fun _ _ _ h => h) (Or.inl ⟨by rfl, ?_⟩) hHeld ?_ ?_
  rotate_left
  · rintro w' ⟨s0, s1, s2⟩
    go_simp
    with_reducible rfl
  rotate_left
  · simp only [Act.put, List.setIfInBounds_toArray, List.set_cons_zero, List.set_cons_succ, i64_w, i32_w]
    rfl
  refine pure_ (i := 5) (N := some 14) (v := ?_) (a' := ?_) #[true, true, true, true, true, true, false, false, false, false, false, false, false] rfl rfl (by kernel_rfl) (fun _ _ _ h => h) (Or.inl ⟨by rfl, ?_⟩) ?_ ?_
  rotate_left
  · intro w'
    go_simp
    with_reducible rfl
  rotate_left
  · simp only [Act.put, List.setIfInBounds_toArray, List.set_cons_zero, List.set_cons_succ, i64_w, i32_w]
    rfl
  refine pure_ (i := 6) (N := some 15) (v := ?_) (a' := ?_) #[true, true, true, true, true, true, true, false, false, false, false, false, false] rfl rfl (by kernel_rfl) (fun _ _ _ h => h) (Or.inl ⟨by rfl, ?_⟩) ?_ ?_
  rotate_left
  · intro w'
    go_simp
    with_reducible rfl
  rotate_left
  · simp only [Act.put, List.setIfInBounds_toArray, List.set_cons_zero, List.set_cons_succ, i64_w, i32_w]
    rfl
  refine pure_ (i := 7) (N := some 16) (v := ?_) (a' := ?_) #[true, true, true, true, true, true, true, true, false, false, false, false, false] rfl rfl (by kernel_rfl) (fun _ _ _ h => h) (Or.inl ⟨by rfl, ?_⟩) ?_ ?_
  rotate_left
  · intro w'
    go_simp
    with_reducible rfl
  rotate_left
  · simp only [Act.put, List.setIfInBounds_toArray, List.set_cons_zero, List.set_cons_succ, i64_w, i32_w]
    rfl
  refine take_ (i := 8) (N := some 17) (v := ?_) (a' := ?_) #[true, true, true, true, true, true, true, true, true, false, false, false, false] rfl rfl (by kernel_rfl) (fun _ _ _ h => h) (Or.inl ⟨by rfl, ?_⟩) hHeld ?_ ?_
  rotate_left
  · rintro w' ⟨s0, s1, s2⟩
    go_simp
    with_reducible rfl
  rotate_left
  · simp only [Act.put, List.setIfInBounds_toArray, List.set_cons_zero, List.set_cons_succ, i64_w, i32_w]
    rfl
  refine take_ (i := 9) (N := some 18) (v := ?_) (a' := ?_) #[true, true, true, true, true, true, true, true, true, true, false, false, false] rfl rfl (by kernel_rfl) (fun _ _ _ h => h) (Or.inl ⟨by rfl, ?_⟩) hHeld ?_ ?_
  rotate_left
  · rintro w' ⟨s0, s1, s2⟩
    go_simp
    with_reducible rfl
  rotate_left
  · simp only [Act.put, List.setIfInBounds_toArray, List.set_cons_zero, List.set_cons_succ, i64_w, i32_w]
    rfl
  refine one_ (i := 10) (N := some 19) #[true, true, true, true, true, true, true, true, true, true, true, false, false] rfl rfl (by kernel_rfl) (by decide) (fun K hK => ?_)
  refine goes_ Try.func23 (by kernel_rfl) rfl #[.agg #[.int .i64 M, .int .i64 R]] (by rfl) rfl rfl (by (try simp only [List.map_toArray, List.map_cons, List.map_nil]); first | done | rfl | (simp only [List.length_drop, List.length_take]; rfl)) ?_
  with_reducible refine (geom_Sectors.calls k M R s _ HS.out).mono ?_
  rintro e W3 ⟨rfl, hb⟩
  refine ⟨_, rfl, ?_⟩
  have NBKg2_ := Aside0.mk (blk_below (o := .cells #[.int .i64 M, .int .i64 R] 23 (0, 0)) (by (with_reducible repeat (first | refine blk_drewN ?_ _ | refine blk_drew ?_ | refine blk_alloc ?_ _)); exact BKg2.out) hb)
  have NBKg3_ := Aside0.mk (blk_below (o := .cells #[.int .i64 pl] 3 (0, 0)) (by (with_reducible repeat (first | refine blk_drewN ?_ _ | refine blk_drew ?_ | refine blk_alloc ?_ _)); exact BKg3.out) hb)
  have NHB_ := Aside0.mk (below_step (by repeat (first | (with_reducible first | exact HB.out | apply below_alloc | apply pw_below_drewN | apply below_drew1) | exact HB.out)) hb)
  clear BKg2 BKg3 HB
  have BKg2 := NBKg2_
  have BKg3 := NBKg3_
  have HB := NHB_
  clear NBKg2_ NBKg3_ NHB_
  clear hb
  refine hK.out _ _ ⟨(blk_cell BKg2.out 0).trans rfl, (blk_cell BKg2.out 1).trans rfl, (blk_cell BKg3.out 0).trans rfl⟩ (fun hHeld => ?_)
  clear hK K
  refine norm_ (a' := ?_) ?_ ?_
  rotate_left
  · show Act.put _ (some 19) _ = _
    simp only [Act.put, List.setIfInBounds_toArray, List.set_cons_zero, List.set_cons_succ, i64_w, i32_w]
    rfl
  refine pure_ (i := 11) (N := some 20) (v := ?_) (a' := ?_) #[true, true, true, true, true, true, true, true, true, true, true, true, false] rfl rfl (by kernel_rfl) (fun _ _ _ h => h) (Or.inl ⟨by rfl, ?_⟩) ?_ ?_
  rotate_left
  · intro w'
    go_simp
    with_reducible rfl
  rotate_left
  · simp only [Act.put, List.setIfInBounds_toArray, List.set_cons_zero, List.set_cons_succ, i64_w, i32_w]
    rfl
  refine pure_ (i := 12) (N := some 21) (v := ?_) (a' := ?_) #[true, true, true, true, true, true, true, true, true, true, true, true, true] rfl rfl (by kernel_rfl) (fun _ _ _ h => h) (Or.inl ⟨by rfl, ?_⟩) ?_ ?_
  rotate_left
  · intro w'
    go_simp
    with_reducible rfl
  rotate_left
  · simp only [Act.put, List.setIfInBounds_toArray, List.set_cons_zero, List.set_cons_succ, i64_w, i32_w]
    rfl
  refine done_ (by kernel_rfl) ?_
  obtain ⟨cg2_0, cg2_1⟩ := Wk.cells2 BKg2.out
  have fg2_0 := blk_frozen BKg2.out 0
  have fg2_1 := blk_frozen BKg2.out 1
  have cg3_0 := Wk.cells1 BKg3.out
  have fg3_0 := blk_frozen BKg3.out 0
  go_wp2_with fail
  clear cg2_0 fg2_0 cg2_1 fg2_1 cg3_0 fg3_0
  with_reducible refine (geom_firsts.calls k M R hf nd _ H2.out H3.out).mono ?_
  rintro e W4 ⟨rfl, hb⟩
  have NBKg2_ := Aside0.mk (blk_below (o := .cells #[.int .i64 M, .int .i64 R] 23 (0, 0)) (by (with_reducible repeat (first | refine blk_drewN ?_ _ | refine blk_drew ?_ | refine blk_alloc ?_ _)); exact BKg2.out) hb)
  have NBKg3_ := Aside0.mk (blk_below (o := .cells #[.int .i64 pl] 3 (0, 0)) (by (with_reducible repeat (first | refine blk_drewN ?_ _ | refine blk_drew ?_ | refine blk_alloc ?_ _)); exact BKg3.out) hb)
  have NHB_ := Aside0.mk (below_step (by repeat (first | (with_reducible first | exact HB.out | apply below_alloc | apply pw_below_drewN | apply below_drew1) | exact HB.out)) hb)
  clear BKg2 BKg3 HB
  have BKg2 := NBKg2_
  have BKg3 := NBKg3_
  have HB := NHB_
  clear NBKg2_ NBKg3_ NHB_
  clear hb
  obtain ⟨cg2_0, cg2_1⟩ := Wk.cells2 BKg2.out
  have fg2_0 := blk_frozen BKg2.out 0
  have fg2_1 := blk_frozen BKg2.out 1
  have cg3_0 := Wk.cells1 BKg3.out
  have fg3_0 := blk_frozen BKg3.out 0
  go_wp2_with fail
  clear cg2_0 fg2_0 cg2_1 fg2_1 cg3_0 fg3_0
  obtain ⟨q0_, nb_⟩ := Wk.blks1 W4 (.cells #[.int .i64 0, .int .i64 0, .int .i64 8, .int .i64 (wrap64 (8 + wrap64 (2 * hf))), .int .i64 (wrap64 (wrap64 (8 + wrap64 (2 * hf)) + nd)), .int .i64 (wrap64 (wrap64 (wrap64 (8 + wrap64 (2 * hf)) + nd) + R))] 43 (0, 0))
  obtain ⟨W5, hW_⟩ : ∃ W, W = (W4.alloc (.cells #[.int .i64 0, .int .i64 0, .int .i64 8, .int .i64 (wrap64 (8 + wrap64 (2 * hf))), .int .i64 (wrap64 (wrap64 (8 + wrap64 (2 * hf)) + nd)), .int .i64 (wrap64 (wrap64 (wrap64 (8 + wrap64 (2 * hf)) + nd) + R))] 43 (0, 0))) := ⟨_, rfl⟩
  rw [← hW_]
  rw [← hW_] at q0_
  rw [← hW_] at nb_
  have mg2_ := blk_below BKg2.out nb_
  have mg3_ := blk_below BKg3.out nb_
  have sz_ := below_size HB.out
  have ltg2_ := blk_lt BKg2.out
  have ltg3_ := blk_lt BKg3.out
  have hb2_ := Aside0.mk (below_step HB.out nb_)
  obtain ⟨g7, hgg7_⟩ : ∃ g, g = W4.heap.size := ⟨_, rfl⟩
  rw [← hgg7_]
  rw [← hgg7_] at q0_
  have GEg7 := Aside0.mk (show w.heap.size ≤ g7 by omega)
  have Dg2g7 : g2 ≠ g7 := by omega
  have Dg7g2 : g7 ≠ g2 := by omega
  have Dg3g7 : g3 ≠ g7 := by omega
  have Dg7g3 : g7 ≠ g3 := by omega
  have BNg2 := Aside0.mk mg2_
  clear BKg2
  have BKg2 := BNg2
  clear BNg2 ltg2_ mg2_
  have BNg3 := Aside0.mk mg3_
  clear BKg3
  have BKg3 := BNg3
  clear BNg3 ltg3_ mg3_
  have BKg7 := Aside0.mk q0_
  clear HB
  have HB := hb2_
  clear hb2_ hW_ nb_ sz_ hgg7_ q0_
  have hx_ : ∀ j, j < 6 → W5.cell? ⟨g7, j, none⟩ = some (.int .i64 (([0, 0, 8, (wrap64 (8 + wrap64 (2 * hf))), (wrap64 (wrap64 (8 + wrap64 (2 * hf)) + nd)), (wrap64 (wrap64 (wrap64 (8 + wrap64 (2 * hf)) + nd) + R))] : List Int).getD j 0)) := by
    intro j hj
    have hc_ := blk_cell BKg7.out j
    have : j = 0 ∨ j = 1 ∨ j = 2 ∨ j = 3 ∨ j = 4 ∨ j = 5 := by omega
    rcases this with rfl | rfl | rfl | rfl | rfl | rfl <;> exact hc_.trans rfl
  have h2_ : ∀ j, j < 3 → ([0, 0, 8, (wrap64 (8 + wrap64 (2 * hf))), (wrap64 (wrap64 (8 + wrap64 (2 * hf)) + nd)), (wrap64 (wrap64 (wrap64 (8 + wrap64 (2 * hf)) + nd) + R))] : List Int).getD j 0 ≤ pl := by
    intro j hj
    have c' : ¬ pl < 0 := of_decide_eq_false c
    have d2' : ¬ pl < 8 := of_decide_eq_false d2
    have : j = 0 ∨ j = 1 ∨ j = 2 := by omega
    rcases this with rfl | rfl | rfl <;> simp only [List.getD_eq_getElem?_getD, List.getElem?_cons_zero, List.getElem?_cons_succ, Option.getD_some] <;> omega
  with_reducible refine (indexfunc.calls ([0, 0, 8, (wrap64 (8 + wrap64 (2 * hf))), (wrap64 (wrap64 (8 + wrap64 (2 * hf)) + nd)), (wrap64 (wrap64 (wrap64 (8 + wrap64 (2 * hf)) + nd) + R))] : List Int) pl g3 g7 3 _ (Wk.cells1 BKg3.out) hx_ (by omega) (by have t_ := of_decide_eq_true d3; simpa using t_) h2_).mono ?_
  rintro e w_ ⟨rfl, rfl⟩
  clear hx_ h2_
  obtain ⟨cg2_0, cg2_1⟩ := Wk.cells2 BKg2.out
  have fg2_0 := blk_frozen BKg2.out 0
  have fg2_1 := blk_frozen BKg2.out 1
  have cg3_0 := Wk.cells1 BKg3.out
  have fg3_0 := blk_frozen BKg3.out 0
  obtain ⟨cg7_0, cg7_1, cg7_2, cg7_3, cg7_4, cg7_5⟩ := Wk.cells6 BKg7.out
  have fg7_0 := blk_frozen BKg7.out 0
  have fg7_1 := blk_frozen BKg7.out 1
  have fg7_2 := blk_frozen BKg7.out 2
  have fg7_3 := blk_frozen BKg7.out 3
  have fg7_4 := blk_frozen BKg7.out 4
  have fg7_5 := blk_frozen BKg7.out 5
  have wq : wrap64 2 = 2 := by unfold wrap64; omega
  go_wp2_with fail
  clear cg2_0 fg2_0 cg2_1 fg2_1 cg3_0 fg3_0 cg7_0 fg7_0 cg7_1 fg7_1 cg7_2 fg7_2 cg7_3 fg7_3 cg7_4 fg7_4 cg7_5 fg7_5
  have NBKg2_ := Aside0.mk (blk_drew BKg2.out)
  have NBKg3_ := Aside0.mk (blk_drew BKg3.out)
  have NBKg7_ := Aside0.mk (blk_drew BKg7.out)
  have NHB_ := Aside0.mk (below_drew1 HB.out)
  clear BKg2 BKg3 BKg7 HB
  have BKg2 := NBKg2_
  have BKg3 := NBKg3_
  have BKg7 := NBKg7_
  have HB := NHB_
  clear NBKg2_ NBKg3_ NBKg7_ NHB_
  refine start_ (n := 12) (S := fun w' => w'.cell? ⟨g3, 0, none⟩ = some (.int .i64 pl) ∧ w'.cell? ⟨g7, 0, none⟩ = some (.int .i64 0) ∧ w'.cell? ⟨g7, 1, none⟩ = some (.int .i64 0) ∧ w'.cell? ⟨g7, 2, none⟩ = some (.int .i64 8) ∧ w'.cell? ⟨g7, 3, none⟩ = some (.int .i64 (wrap64 (8 + wrap64 (2 * hf)))) ∧ w'.cell? ⟨g7, 4, none⟩ = some (.int .i64 (wrap64 (wrap64 (8 + wrap64 (2 * hf)) + nd))) ∧ w'.cell? ⟨g7, 5, none⟩ = some (.int .i64 (wrap64 (wrap64 (wrap64 (8 + wrap64 (2 * hf)) + nd) + R)))) (ds := []) #[false, false, false, false, false, false, false, false, false, false, false, false] (by kernel_rfl) rfl rfl ⟨(blk_cell BKg3.out 0).trans rfl, (blk_cell BKg7.out 0).trans rfl, (blk_cell BKg7.out 1).trans rfl, (blk_cell BKg7.out 2).trans rfl, (blk_cell BKg7.out 3).trans rfl, (blk_cell BKg7.out 4).trans rfl, (blk_cell BKg7.out 5).trans rfl⟩ (fun hHeld => ?_)
  generalize W5.drew = W6 at BKg2 BKg3 BKg7 HB hHeld ⊢
  refine pure_ (i := 0) (N := some 29) (v := ?_) (a' := ?_) #[true, false, false, false, false, false, false, false, false, false, false, false] rfl rfl (by kernel_rfl) (fun _ _ _ h => h) (Or.inl ⟨by rfl, ?_⟩) ?_ ?_
  rotate_left
  · intro w'
    go_simp
    with_reducible rfl
  rotate_left
  · simp only [Act.put, List.setIfInBounds_toArray, List.set_cons_zero, List.set_cons_succ, i64_w, i32_w]
    rfl
  refine take_ (i := 1) (N := some 30) (v := ?_) (a' := ?_) #[true, true, false, false, false, false, false, false, false, false, false, false] rfl rfl (by kernel_rfl) (fun _ _ _ h => h) (Or.inl ⟨by rfl, ?_⟩) hHeld ?_ ?_
  rotate_left
  · rintro w' ⟨s0, s1, s2, s3, s4, s5, s6⟩
    go_simp
    with_reducible rfl
  rotate_left
  · simp only [Act.put, List.setIfInBounds_toArray, List.set_cons_zero, List.set_cons_succ, i64_w, i32_w]
    rfl
  refine pure_ (i := 2) (N := some 31) (v := ?_) (a' := ?_) #[true, true, true, false, false, false, false, false, false, false, false, false] rfl rfl (by kernel_rfl) (fun _ _ _ h => h) (Or.inl ⟨by rfl, ?_⟩) ?_ ?_
  rotate_left
  · intro w'
    go_simp
    with_reducible rfl
  rotate_left
  · simp only [Act.put, List.setIfInBounds_toArray, List.set_cons_zero, List.set_cons_succ, i64_w, i32_w]
    rfl
  refine pure_ (i := 3) (N := some 32) (v := ?_) (a' := ?_) #[true, true, true, true, false, false, false, false, false, false, false, false] rfl rfl (by kernel_rfl) (fun _ _ _ h => h) (Or.inl ⟨by rfl, ?_⟩) ?_ ?_
  rotate_left
  · intro w'
    go_simp
    with_reducible rfl
  rotate_left
  · simp only [Act.put, List.setIfInBounds_toArray, List.set_cons_zero, List.set_cons_succ, i64_w, i32_w]
    rfl
  refine take_ (i := 4) (N := some 33) (v := ?_) (a' := ?_) #[true, true, true, true, true, false, false, false, false, false, false, false] rfl rfl (by kernel_rfl) (fun _ _ _ h => h) (Or.inl ⟨by rfl, ?_⟩) hHeld ?_ ?_
  rotate_left
  · rintro w' ⟨s0, s1, s2, s3, s4, s5, s6⟩
    go_simp
    with_reducible rfl
  rotate_left
  · simp only [Act.put, List.setIfInBounds_toArray, List.set_cons_zero, List.set_cons_succ, i64_w, i32_w]
    rfl
  refine pure_ (i := 5) (N := some 34) (v := ?_) (a' := ?_) #[true, true, true, true, true, true, false, false, false, false, false, false] rfl rfl (by kernel_rfl) (fun _ _ _ h => h) (Or.inl ⟨by rfl, ?_⟩) ?_ ?_
  rotate_left
  · intro w'
    go_simp
    with_reducible rfl
  rotate_left
  · simp only [Act.put, List.setIfInBounds_toArray, List.set_cons_zero, List.set_cons_succ, i64_w, i32_w]
    rfl
  refine pure_ (i := 6) (N := some 35) (v := ?_) (a' := ?_) #[true, true, true, true, true, true, true, false, false, false, false, false] rfl rfl (by kernel_rfl) (fun _ _ _ h => h) (Or.inl ⟨by rfl, ?_⟩) ?_ ?_
  rotate_left
  · intro w'
    go_simp
    with_reducible rfl
  rotate_left
  · simp only [Act.put, List.setIfInBounds_toArray, List.set_cons_zero, List.set_cons_succ, i64_w, i32_w]
    rfl
  refine one_ (i := 7) (N := some 36) #[true, true, true, true, true, true, true, true, false, false, false, false] rfl rfl (by kernel_rfl) (by decide) (fun K hK => ?_)
  refine goes_ Try.func34 (by kernel_rfl) rfl #[.int .i64 2] (by rfl) rfl rfl (by (try simp only [List.map_toArray, List.map_cons, List.map_nil]); first | done | rfl | (simp only [List.length_drop, List.length_take]; rfl)) ?_
  with_reducible refine (geom_least.calls 2 l _ HL.out).mono ?_
  rintro e w_ ⟨rfl, ⟨nd_, rfl⟩⟩
  refine ⟨_, rfl, ?_⟩
  have NBKg2_ := Aside0.mk (blk_drewN BKg2.out nd_)
  have NBKg3_ := Aside0.mk (blk_drewN BKg3.out nd_)
  have NBKg7_ := Aside0.mk (blk_drewN BKg7.out nd_)
  have NHB_ := Aside0.mk (pw_below_drewN HB.out nd_)
  clear BKg2 BKg3 BKg7 HB
  have BKg2 := NBKg2_
  have BKg3 := NBKg3_
  have BKg7 := NBKg7_
  have HB := NHB_
  clear NBKg2_ NBKg3_ NBKg7_ NHB_
  refine hK.out _ _ ⟨(blk_cell BKg3.out 0).trans rfl, (blk_cell BKg7.out 0).trans rfl, (blk_cell BKg7.out 1).trans rfl, (blk_cell BKg7.out 2).trans rfl, (blk_cell BKg7.out 3).trans rfl, (blk_cell BKg7.out 4).trans rfl, (blk_cell BKg7.out 5).trans rfl⟩ (fun hHeld => ?_)
  clear hK K
  refine norm_ (a' := ?_) ?_ ?_
  rotate_left
  · show Act.put _ (some 36) _ = _
    simp only [Act.put, List.setIfInBounds_toArray, List.set_cons_zero, List.set_cons_succ, i64_w, i32_w]
    rfl
  generalize W6.drewN nd_ = W7 at BKg2 BKg3 BKg7 HB hHeld ⊢
  refine pure_ (i := 8) (N := some 37) (v := ?_) (a' := ?_) #[true, true, true, true, true, true, true, true, true, false, false, false] rfl rfl (by kernel_rfl) (fun _ _ _ h => h) (Or.inl ⟨by rfl, ?_⟩) ?_ ?_
  rotate_left
  · intro w'
    go_simp
    with_reducible rfl
  rotate_left
  · simp only [Act.put, List.setIfInBounds_toArray, List.set_cons_zero, List.set_cons_succ, i64_w, i32_w]
    rfl
  refine pure_ (i := 9) (N := some 4) (v := ?_) (a' := ?_) #[true, true, true, true, true, true, true, true, true, true, false, false] rfl rfl (by kernel_rfl) (fun _ _ _ h => h) (Or.inl ⟨by rfl, ?_⟩) ?_ ?_
  rotate_left
  · intro w'
    go_simp
    with_reducible rfl
  rotate_left
  · simp only [Act.put, List.setIfInBounds_toArray, List.set_cons_zero, List.set_cons_succ, i64_w, i32_w]
    rfl
  refine pure_ (i := 10) (N := some 5) (v := ?_) (a' := ?_) #[true, true, true, true, true, true, true, true, true, true, true, false] rfl rfl (by kernel_rfl) (fun _ _ _ h => h) (Or.inl ⟨by rfl, ?_⟩) ?_ ?_
  rotate_left
  · intro w'
    go_simp
    with_reducible rfl
  rotate_left
  · simp only [Act.put, List.setIfInBounds_toArray, List.set_cons_zero, List.set_cons_succ, i64_w, i32_w]
    rfl
  refine pure_ (i := 11) (N := some 6) (v := ?_) (a' := ?_) #[true, true, true, true, true, true, true, true, true, true, true, true] rfl rfl (by kernel_rfl) (fun _ _ _ h => h) (Or.inl ⟨by rfl, ?_⟩) ?_ ?_
  rotate_left
  · intro w'
    go_simp
    with_reducible rfl
  rotate_left
  · simp only [Act.put, List.setIfInBounds_toArray, List.set_cons_zero, List.set_cons_succ, i64_w, i32_w]
    rfl
  refine done_ (by kernel_rfl) ?_
  go_wp2
  go_ret3
  exact ⟨by first | rfl | (simp; done) | (simp [*]; done), HB.out⟩
set_option maxHeartbeats 4000000 in
set_option maxRecDepth 100000 in
theorem geom_What.at3 (k : Nat) (M R pl s hf nd l : Int) (w : World) (H1 : Aside0 (geom_is.f M R = some true)) (HS : Aside0 (geom_Sectors.f k M R = some s)) (H2 : Aside0 (geom_Half.f k M R = some hf)) (H3 : Aside0 (geom_Nodes.f k M R = some nd)) (HL : Aside0 (geom_least.f 3 = some l)) (c : decide (pl < 0) = false) (d : decide (s ≤ pl) = false) (d2 : decide (pl < 8) = false) (d3 : decide (pl < (wrap64 (8 + wrap64 (2 * hf)))) = false) (d4 : decide (pl < (wrap64 (wrap64 (8 + wrap64 (2 * hf)) + nd))) = true) :
    Calls Try.prog 28 #[.agg #[.int .i64 M, .int .i64 R], .int .i64 pl] w fun e w' => e = .returned (.tuple #[.int .i64 3, .int .i64 (wrap64 (wrap64 (pl - (wrap64 (8 + wrap64 (2 * hf)))) + l)), .int .i64 0]) ∧ Below w.heap.size w w' := by
  have HB := Aside0.mk (Below.refl w.heap.size w)
  go_enter Try.func28, Try.ntmps28
  go_wp2_with fail
  obtain ⟨q0_, q1_, nb_⟩ := Wk.blks2 w (.cells #[.int .i64 M, .int .i64 R] 23 (0, 0)) (.cells #[.int .i64 pl] 3 (0, 0))
  obtain ⟨W0, hW_⟩ : ∃ W, W = ((w.alloc (.cells #[.int .i64 M, .int .i64 R] 23 (0, 0))).alloc (.cells #[.int .i64 pl] 3 (0, 0))) := ⟨_, rfl⟩
  rw [← hW_]
  rw [← hW_] at q0_
  rw [← hW_] at q1_
  rw [← hW_] at nb_
  have sz_ := below_size HB.out
  have hb2_ := Aside0.mk (below_step HB.out nb_)
  obtain ⟨g2, hgg2_⟩ : ∃ g, g = w.heap.size := ⟨_, rfl⟩
  obtain ⟨g3, hgg3_⟩ : ∃ g, g = w.heap.size + 1 := ⟨_, rfl⟩
  rw [← hgg3_]
  rw [← hgg3_] at q1_
  rw [← hgg2_]
  rw [← hgg2_] at q0_
  have GEg2 := Aside0.mk (show w.heap.size ≤ g2 by omega)
  have GEg3 := Aside0.mk (show w.heap.size ≤ g3 by omega)
  have Dg2g3 : g2 ≠ g3 := by omega
  have Dg3g2 : g3 ≠ g2 := by omega
  have BKg2 := Aside0.mk q0_
  have BKg3 := Aside0.mk q1_
  clear HB
  have HB := hb2_
  clear hb2_ hW_ nb_ sz_ hgg2_ hgg3_ q0_ q1_
  have NBKg2_ := Aside0.mk (blk_drew BKg2.out)
  have NBKg3_ := Aside0.mk (blk_drew BKg3.out)
  have NHB_ := Aside0.mk (below_drew1 HB.out)
  clear BKg2 BKg3 HB
  have BKg2 := NBKg2_
  have BKg3 := NBKg3_
  have HB := NHB_
  clear NBKg2_ NBKg3_ NHB_
  refine start_ (n := 13) (S := fun w' => w'.cell? ⟨g2, 0, none⟩ = some (.int .i64 M) ∧ w'.cell? ⟨g2, 1, none⟩ = some (.int .i64 R) ∧ w'.cell? ⟨g3, 0, none⟩ = some (.int .i64 pl)) (ds := []) #[false, false, false, false, false, false, false, false, false, false, false, false, false] (by kernel_rfl) rfl rfl ⟨(blk_cell BKg2.out 0).trans rfl, (blk_cell BKg2.out 1).trans rfl, (blk_cell BKg3.out 0).trans rfl⟩ (fun hHeld => ?_)
  generalize W0.drew = W1 at BKg2 BKg3 HB hHeld ⊢
  refine take_ (i := 0) (N := some 9) (v := ?_) (a' := ?_) #[true, false, false, false, false, false, false, false, false, false, false, false, false] rfl rfl (by kernel_rfl) (fun _ _ _ h => h) (Or.inl ⟨by rfl, ?_⟩) hHeld ?_ ?_
  rotate_left
  · rintro w' ⟨s0, s1, s2⟩
    go_simp
    with_reducible rfl
  rotate_left
  · simp only [Act.put, List.setIfInBounds_toArray, List.set_cons_zero, List.set_cons_succ, i64_w, i32_w]
    rfl
  refine one_ (i := 1) (N := some 10) #[true, true, false, false, false, false, false, false, false, false, false, false, false] rfl rfl (by kernel_rfl) (by decide) (fun K hK => ?_)
  refine goes_ Try.func30 (by kernel_rfl) rfl #[.agg #[.int .i64 M, .int .i64 R]] (by rfl) rfl rfl (by (try simp only [List.map_toArray, List.map_cons, List.map_nil]); first | done | rfl | (simp only [List.length_drop, List.length_take]; rfl)) ?_
  with_reducible refine (geom_is.calls M R true _ H1.out).mono ?_
  rintro e W2 ⟨rfl, hb⟩
  refine ⟨_, rfl, ?_⟩
  have NBKg2_ := Aside0.mk (blk_below (o := .cells #[.int .i64 M, .int .i64 R] 23 (0, 0)) (by (with_reducible repeat (first | refine blk_drewN ?_ _ | refine blk_drew ?_ | refine blk_alloc ?_ _)); exact BKg2.out) hb)
  have NBKg3_ := Aside0.mk (blk_below (o := .cells #[.int .i64 pl] 3 (0, 0)) (by (with_reducible repeat (first | refine blk_drewN ?_ _ | refine blk_drew ?_ | refine blk_alloc ?_ _)); exact BKg3.out) hb)
  have NHB_ := Aside0.mk (below_step (by repeat (first | (with_reducible first | exact HB.out | apply below_alloc | apply pw_below_drewN | apply below_drew1) | exact HB.out)) hb)
  clear BKg2 BKg3 HB
  have BKg2 := NBKg2_
  have BKg3 := NBKg3_
  have HB := NHB_
  clear NBKg2_ NBKg3_ NHB_
  clear hb
  refine hK.out _ _ ⟨(blk_cell BKg2.out 0).trans rfl, (blk_cell BKg2.out 1).trans rfl, (blk_cell BKg3.out 0).trans rfl⟩ (fun hHeld => ?_)
  clear hK K
  refine norm_ (a' := ?_) ?_ ?_
  rotate_left
  · show Act.put _ (some 10) _ = _
    simp only [Act.put, List.setIfInBounds_toArray, List.set_cons_zero, List.set_cons_succ, i64_w, i32_w]
    rfl
  refine pure_ (i := 2) (N := some 11) (v := ?_) (a' := ?_) #[true, true, true, false, false, false, false, false, false, false, false, false, false] rfl rfl (by kernel_rfl) (fun _ _ _ h => h) (Or.inl ⟨by rfl, ?_⟩) ?_ ?_
  rotate_left
  · intro w'
    go_simp
    with_reducible rfl
  rotate_left
  · simp only [Act.put, List.setIfInBounds_toArray, List.set_cons_zero, List.set_cons_succ, i64_w, i32_w]
    rfl
  refine pure_ (i := 3) (N := some 12) (v := ?_) (a' := ?_) #[true, true, true, true, false, false, false, false, false, false, false, false, false] rfl rfl (by kernel_rfl) (fun _ _ _ h => h) (Or.inl ⟨by rfl, ?_⟩) ?_ ?_
  rotate_left
  · intro w'
    go_simp
    with_reducible rfl
  rotate_left
  · simp only [Act.put, List.setIfInBounds_toArray, List.set_cons_zero, List.set_cons_succ, i64_w, i32_w]
    rfl
  refine take_ (i := 4) (N := some 13) (v := ?_) (a' := ?_) #[true, true, true, true, true, false, false, false, false, false, false, false, false] rfl rfl (by kernel_rfl) (fun _ _ _ h => h) (Or.inl ⟨by rfl, ?_⟩) hHeld ?_ ?_
  rotate_left
  · rintro w' ⟨s0, s1, s2⟩
    go_simp
    with_reducible rfl
  rotate_left
  · simp only [Act.put, List.setIfInBounds_toArray, List.set_cons_zero, List.set_cons_succ, i64_w, i32_w]
    rfl
  refine pure_ (i := 5) (N := some 14) (v := ?_) (a' := ?_) #[true, true, true, true, true, true, false, false, false, false, false, false, false] rfl rfl (by kernel_rfl) (fun _ _ _ h => h) (Or.inl ⟨by rfl, ?_⟩) ?_ ?_
  rotate_left
  · intro w'
    go_simp
    with_reducible rfl
  rotate_left
  · simp only [Act.put, List.setIfInBounds_toArray, List.set_cons_zero, List.set_cons_succ, i64_w, i32_w]
    rfl
  refine pure_ (i := 6) (N := some 15) (v := ?_) (a' := ?_) #[true, true, true, true, true, true, true, false, false, false, false, false, false] rfl rfl (by kernel_rfl) (fun _ _ _ h => h) (Or.inl ⟨by rfl, ?_⟩) ?_ ?_
  rotate_left
  · intro w'
    go_simp
    with_reducible rfl
  rotate_left
  · simp only [Act.put, List.setIfInBounds_toArray, List.set_cons_zero, List.set_cons_succ, i64_w, i32_w]
    rfl
  refine pure_ (i := 7) (N := some 16) (v := ?_) (a' := ?_) #[true, true, true, true, true, true, true, true, false, false, false, false, false] rfl rfl (by kernel_rfl) (fun _ _ _ h => h) (Or.inl ⟨by rfl, ?_⟩) ?_ ?_
  rotate_left
  · intro w'
    go_simp
    with_reducible rfl
  rotate_left
  · simp only [Act.put, List.setIfInBounds_toArray, List.set_cons_zero, List.set_cons_succ, i64_w, i32_w]
    rfl
  refine take_ (i := 8) (N := some 17) (v := ?_) (a' := ?_) #[true, true, true, true, true, true, true, true, true, false, false, false, false] rfl rfl (by kernel_rfl) (fun _ _ _ h => h) (Or.inl ⟨by rfl, ?_⟩) hHeld ?_ ?_
  rotate_left
  · rintro w' ⟨s0, s1, s2⟩
    go_simp
    with_reducible rfl
  rotate_left
  · simp only [Act.put, List.setIfInBounds_toArray, List.set_cons_zero, List.set_cons_succ, i64_w, i32_w]
    rfl
  refine take_ (i := 9) (N := some 18) (v := ?_) (a' := ?_) #[true, true, true, true, true, true, true, true, true, true, false, false, false] rfl rfl (by kernel_rfl) (fun _ _ _ h => h) (Or.inl ⟨by rfl, ?_⟩) hHeld ?_ ?_
  rotate_left
  · rintro w' ⟨s0, s1, s2⟩
    go_simp
    with_reducible rfl
  rotate_left
  · simp only [Act.put, List.setIfInBounds_toArray, List.set_cons_zero, List.set_cons_succ, i64_w, i32_w]
    rfl
  refine one_ (i := 10) (N := some 19) #[true, true, true, true, true, true, true, true, true, true, true, false, false] rfl rfl (by kernel_rfl) (by decide) (fun K hK => ?_)
  refine goes_ Try.func23 (by kernel_rfl) rfl #[.agg #[.int .i64 M, .int .i64 R]] (by rfl) rfl rfl (by (try simp only [List.map_toArray, List.map_cons, List.map_nil]); first | done | rfl | (simp only [List.length_drop, List.length_take]; rfl)) ?_
  with_reducible refine (geom_Sectors.calls k M R s _ HS.out).mono ?_
  rintro e W3 ⟨rfl, hb⟩
  refine ⟨_, rfl, ?_⟩
  have NBKg2_ := Aside0.mk (blk_below (o := .cells #[.int .i64 M, .int .i64 R] 23 (0, 0)) (by (with_reducible repeat (first | refine blk_drewN ?_ _ | refine blk_drew ?_ | refine blk_alloc ?_ _)); exact BKg2.out) hb)
  have NBKg3_ := Aside0.mk (blk_below (o := .cells #[.int .i64 pl] 3 (0, 0)) (by (with_reducible repeat (first | refine blk_drewN ?_ _ | refine blk_drew ?_ | refine blk_alloc ?_ _)); exact BKg3.out) hb)
  have NHB_ := Aside0.mk (below_step (by repeat (first | (with_reducible first | exact HB.out | apply below_alloc | apply pw_below_drewN | apply below_drew1) | exact HB.out)) hb)
  clear BKg2 BKg3 HB
  have BKg2 := NBKg2_
  have BKg3 := NBKg3_
  have HB := NHB_
  clear NBKg2_ NBKg3_ NHB_
  clear hb
  refine hK.out _ _ ⟨(blk_cell BKg2.out 0).trans rfl, (blk_cell BKg2.out 1).trans rfl, (blk_cell BKg3.out 0).trans rfl⟩ (fun hHeld => ?_)
  clear hK K
  refine norm_ (a' := ?_) ?_ ?_
  rotate_left
  · show Act.put _ (some 19) _ = _
    simp only [Act.put, List.setIfInBounds_toArray, List.set_cons_zero, List.set_cons_succ, i64_w, i32_w]
    rfl
  refine pure_ (i := 11) (N := some 20) (v := ?_) (a' := ?_) #[true, true, true, true, true, true, true, true, true, true, true, true, false] rfl rfl (by kernel_rfl) (fun _ _ _ h => h) (Or.inl ⟨by rfl, ?_⟩) ?_ ?_
  rotate_left
  · intro w'
    go_simp
    with_reducible rfl
  rotate_left
  · simp only [Act.put, List.setIfInBounds_toArray, List.set_cons_zero, List.set_cons_succ, i64_w, i32_w]
    rfl
  refine pure_ (i := 12) (N := some 21) (v := ?_) (a' := ?_) #[true, true, true, true, true, true, true, true, true, true, true, true, true] rfl rfl (by kernel_rfl) (fun _ _ _ h => h) (Or.inl ⟨by rfl, ?_⟩) ?_ ?_
  rotate_left
  · intro w'
    go_simp
    with_reducible rfl
  rotate_left
  · simp only [Act.put, List.setIfInBounds_toArray, List.set_cons_zero, List.set_cons_succ, i64_w, i32_w]
    rfl
  refine done_ (by kernel_rfl) ?_
  obtain ⟨cg2_0, cg2_1⟩ := Wk.cells2 BKg2.out
  have fg2_0 := blk_frozen BKg2.out 0
  have fg2_1 := blk_frozen BKg2.out 1
  have cg3_0 := Wk.cells1 BKg3.out
  have fg3_0 := blk_frozen BKg3.out 0
  go_wp2_with fail
  clear cg2_0 fg2_0 cg2_1 fg2_1 cg3_0 fg3_0
  with_reducible refine (geom_firsts.calls k M R hf nd _ H2.out H3.out).mono ?_
  rintro e W4 ⟨rfl, hb⟩
  have NBKg2_ := Aside0.mk (blk_below (o := .cells #[.int .i64 M, .int .i64 R] 23 (0, 0)) (by (with_reducible repeat (first | refine blk_drewN ?_ _ | refine blk_drew ?_ | refine blk_alloc ?_ _)); exact BKg2.out) hb)
  have NBKg3_ := Aside0.mk (blk_below (o := .cells #[.int .i64 pl] 3 (0, 0)) (by (with_reducible repeat (first | refine blk_drewN ?_ _ | refine blk_drew ?_ | refine blk_alloc ?_ _)); exact BKg3.out) hb)
  have NHB_ := Aside0.mk (below_step (by repeat (first | (with_reducible first | exact HB.out | apply below_alloc | apply pw_below_drewN | apply below_drew1) | exact HB.out)) hb)
  clear BKg2 BKg3 HB
  have BKg2 := NBKg2_
  have BKg3 := NBKg3_
  have HB := NHB_
  clear NBKg2_ NBKg3_ NHB_
  clear hb
  obtain ⟨cg2_0, cg2_1⟩ := Wk.cells2 BKg2.out
  have fg2_0 := blk_frozen BKg2.out 0
  have fg2_1 := blk_frozen BKg2.out 1
  have cg3_0 := Wk.cells1 BKg3.out
  have fg3_0 := blk_frozen BKg3.out 0
  go_wp2_with fail
  clear cg2_0 fg2_0 cg2_1 fg2_1 cg3_0 fg3_0
  obtain ⟨q0_, nb_⟩ := Wk.blks1 W4 (.cells #[.int .i64 0, .int .i64 0, .int .i64 8, .int .i64 (wrap64 (8 + wrap64 (2 * hf))), .int .i64 (wrap64 (wrap64 (8 + wrap64 (2 * hf)) + nd)), .int .i64 (wrap64 (wrap64 (wrap64 (8 + wrap64 (2 * hf)) + nd) + R))] 43 (0, 0))
  obtain ⟨W5, hW_⟩ : ∃ W, W = (W4.alloc (.cells #[.int .i64 0, .int .i64 0, .int .i64 8, .int .i64 (wrap64 (8 + wrap64 (2 * hf))), .int .i64 (wrap64 (wrap64 (8 + wrap64 (2 * hf)) + nd)), .int .i64 (wrap64 (wrap64 (wrap64 (8 + wrap64 (2 * hf)) + nd) + R))] 43 (0, 0))) := ⟨_, rfl⟩
  rw [← hW_]
  rw [← hW_] at q0_
  rw [← hW_] at nb_
  have mg2_ := blk_below BKg2.out nb_
  have mg3_ := blk_below BKg3.out nb_
  have sz_ := below_size HB.out
  have ltg2_ := blk_lt BKg2.out
  have ltg3_ := blk_lt BKg3.out
  have hb2_ := Aside0.mk (below_step HB.out nb_)
  obtain ⟨g7, hgg7_⟩ : ∃ g, g = W4.heap.size := ⟨_, rfl⟩
  rw [← hgg7_]
  rw [← hgg7_] at q0_
  have GEg7 := Aside0.mk (show w.heap.size ≤ g7 by omega)
  have Dg2g7 : g2 ≠ g7 := by omega
  have Dg7g2 : g7 ≠ g2 := by omega
  have Dg3g7 : g3 ≠ g7 := by omega
  have Dg7g3 : g7 ≠ g3 := by omega
  have BNg2 := Aside0.mk mg2_
  clear BKg2
  have BKg2 := BNg2
  clear BNg2 ltg2_ mg2_
  have BNg3 := Aside0.mk mg3_
  clear BKg3
  have BKg3 := BNg3
  clear BNg3 ltg3_ mg3_
  have BKg7 := Aside0.mk q0_
  clear HB
  have HB := hb2_
  clear hb2_ hW_ nb_ sz_ hgg7_ q0_
  have hx_ : ∀ j, j < 6 → W5.cell? ⟨g7, j, none⟩ = some (.int .i64 (([0, 0, 8, (wrap64 (8 + wrap64 (2 * hf))), (wrap64 (wrap64 (8 + wrap64 (2 * hf)) + nd)), (wrap64 (wrap64 (wrap64 (8 + wrap64 (2 * hf)) + nd) + R))] : List Int).getD j 0)) := by
    intro j hj
    have hc_ := blk_cell BKg7.out j
    have : j = 0 ∨ j = 1 ∨ j = 2 ∨ j = 3 ∨ j = 4 ∨ j = 5 := by omega
    rcases this with rfl | rfl | rfl | rfl | rfl | rfl <;> exact hc_.trans rfl
  have h2_ : ∀ j, j < 4 → ([0, 0, 8, (wrap64 (8 + wrap64 (2 * hf))), (wrap64 (wrap64 (8 + wrap64 (2 * hf)) + nd)), (wrap64 (wrap64 (wrap64 (8 + wrap64 (2 * hf)) + nd) + R))] : List Int).getD j 0 ≤ pl := by
    intro j hj
    have c' : ¬ pl < 0 := of_decide_eq_false c
    have d2' : ¬ pl < 8 := of_decide_eq_false d2
    have d3' : ¬ pl < (wrap64 (8 + wrap64 (2 * hf))) := of_decide_eq_false d3
    have : j = 0 ∨ j = 1 ∨ j = 2 ∨ j = 3 := by omega
    rcases this with rfl | rfl | rfl | rfl <;> simp only [List.getD_eq_getElem?_getD, List.getElem?_cons_zero, List.getElem?_cons_succ, Option.getD_some] <;> omega
  with_reducible refine (indexfunc.calls ([0, 0, 8, (wrap64 (8 + wrap64 (2 * hf))), (wrap64 (wrap64 (8 + wrap64 (2 * hf)) + nd)), (wrap64 (wrap64 (wrap64 (8 + wrap64 (2 * hf)) + nd) + R))] : List Int) pl g3 g7 4 _ (Wk.cells1 BKg3.out) hx_ (by omega) (by have t_ := of_decide_eq_true d4; simpa using t_) h2_).mono ?_
  rintro e w_ ⟨rfl, rfl⟩
  clear hx_ h2_
  obtain ⟨cg2_0, cg2_1⟩ := Wk.cells2 BKg2.out
  have fg2_0 := blk_frozen BKg2.out 0
  have fg2_1 := blk_frozen BKg2.out 1
  have cg3_0 := Wk.cells1 BKg3.out
  have fg3_0 := blk_frozen BKg3.out 0
  obtain ⟨cg7_0, cg7_1, cg7_2, cg7_3, cg7_4, cg7_5⟩ := Wk.cells6 BKg7.out
  have fg7_0 := blk_frozen BKg7.out 0
  have fg7_1 := blk_frozen BKg7.out 1
  have fg7_2 := blk_frozen BKg7.out 2
  have fg7_3 := blk_frozen BKg7.out 3
  have fg7_4 := blk_frozen BKg7.out 4
  have fg7_5 := blk_frozen BKg7.out 5
  have wq : wrap64 3 = 3 := by unfold wrap64; omega
  go_wp2_with fail
  clear cg2_0 fg2_0 cg2_1 fg2_1 cg3_0 fg3_0 cg7_0 fg7_0 cg7_1 fg7_1 cg7_2 fg7_2 cg7_3 fg7_3 cg7_4 fg7_4 cg7_5 fg7_5
  have NBKg2_ := Aside0.mk (blk_drew BKg2.out)
  have NBKg3_ := Aside0.mk (blk_drew BKg3.out)
  have NBKg7_ := Aside0.mk (blk_drew BKg7.out)
  have NHB_ := Aside0.mk (below_drew1 HB.out)
  clear BKg2 BKg3 BKg7 HB
  have BKg2 := NBKg2_
  have BKg3 := NBKg3_
  have BKg7 := NBKg7_
  have HB := NHB_
  clear NBKg2_ NBKg3_ NBKg7_ NHB_
  refine start_ (n := 12) (S := fun w' => w'.cell? ⟨g3, 0, none⟩ = some (.int .i64 pl) ∧ w'.cell? ⟨g7, 0, none⟩ = some (.int .i64 0) ∧ w'.cell? ⟨g7, 1, none⟩ = some (.int .i64 0) ∧ w'.cell? ⟨g7, 2, none⟩ = some (.int .i64 8) ∧ w'.cell? ⟨g7, 3, none⟩ = some (.int .i64 (wrap64 (8 + wrap64 (2 * hf)))) ∧ w'.cell? ⟨g7, 4, none⟩ = some (.int .i64 (wrap64 (wrap64 (8 + wrap64 (2 * hf)) + nd))) ∧ w'.cell? ⟨g7, 5, none⟩ = some (.int .i64 (wrap64 (wrap64 (wrap64 (8 + wrap64 (2 * hf)) + nd) + R)))) (ds := []) #[false, false, false, false, false, false, false, false, false, false, false, false] (by kernel_rfl) rfl rfl ⟨(blk_cell BKg3.out 0).trans rfl, (blk_cell BKg7.out 0).trans rfl, (blk_cell BKg7.out 1).trans rfl, (blk_cell BKg7.out 2).trans rfl, (blk_cell BKg7.out 3).trans rfl, (blk_cell BKg7.out 4).trans rfl, (blk_cell BKg7.out 5).trans rfl⟩ (fun hHeld => ?_)
  generalize W5.drew = W6 at BKg2 BKg3 BKg7 HB hHeld ⊢
  refine pure_ (i := 0) (N := some 29) (v := ?_) (a' := ?_) #[true, false, false, false, false, false, false, false, false, false, false, false] rfl rfl (by kernel_rfl) (fun _ _ _ h => h) (Or.inl ⟨by rfl, ?_⟩) ?_ ?_
  rotate_left
  · intro w'
    go_simp
    with_reducible rfl
  rotate_left
  · simp only [Act.put, List.setIfInBounds_toArray, List.set_cons_zero, List.set_cons_succ, i64_w, i32_w]
    rfl
  refine take_ (i := 1) (N := some 30) (v := ?_) (a' := ?_) #[true, true, false, false, false, false, false, false, false, false, false, false] rfl rfl (by kernel_rfl) (fun _ _ _ h => h) (Or.inl ⟨by rfl, ?_⟩) hHeld ?_ ?_
  rotate_left
  · rintro w' ⟨s0, s1, s2, s3, s4, s5, s6⟩
    go_simp
    with_reducible rfl
  rotate_left
  · simp only [Act.put, List.setIfInBounds_toArray, List.set_cons_zero, List.set_cons_succ, i64_w, i32_w]
    rfl
  refine pure_ (i := 2) (N := some 31) (v := ?_) (a' := ?_) #[true, true, true, false, false, false, false, false, false, false, false, false] rfl rfl (by kernel_rfl) (fun _ _ _ h => h) (Or.inl ⟨by rfl, ?_⟩) ?_ ?_
  rotate_left
  · intro w'
    go_simp
    with_reducible rfl
  rotate_left
  · simp only [Act.put, List.setIfInBounds_toArray, List.set_cons_zero, List.set_cons_succ, i64_w, i32_w]
    rfl
  refine pure_ (i := 3) (N := some 32) (v := ?_) (a' := ?_) #[true, true, true, true, false, false, false, false, false, false, false, false] rfl rfl (by kernel_rfl) (fun _ _ _ h => h) (Or.inl ⟨by rfl, ?_⟩) ?_ ?_
  rotate_left
  · intro w'
    go_simp
    with_reducible rfl
  rotate_left
  · simp only [Act.put, List.setIfInBounds_toArray, List.set_cons_zero, List.set_cons_succ, i64_w, i32_w]
    rfl
  refine take_ (i := 4) (N := some 33) (v := ?_) (a' := ?_) #[true, true, true, true, true, false, false, false, false, false, false, false] rfl rfl (by kernel_rfl) (fun _ _ _ h => h) (Or.inl ⟨by rfl, ?_⟩) hHeld ?_ ?_
  rotate_left
  · rintro w' ⟨s0, s1, s2, s3, s4, s5, s6⟩
    go_simp
    with_reducible rfl
  rotate_left
  · simp only [Act.put, List.setIfInBounds_toArray, List.set_cons_zero, List.set_cons_succ, i64_w, i32_w]
    rfl
  refine pure_ (i := 5) (N := some 34) (v := ?_) (a' := ?_) #[true, true, true, true, true, true, false, false, false, false, false, false] rfl rfl (by kernel_rfl) (fun _ _ _ h => h) (Or.inl ⟨by rfl, ?_⟩) ?_ ?_
  rotate_left
  · intro w'
    go_simp
    with_reducible rfl
  rotate_left
  · simp only [Act.put, List.setIfInBounds_toArray, List.set_cons_zero, List.set_cons_succ, i64_w, i32_w]
    rfl
  refine pure_ (i := 6) (N := some 35) (v := ?_) (a' := ?_) #[true, true, true, true, true, true, true, false, false, false, false, false] rfl rfl (by kernel_rfl) (fun _ _ _ h => h) (Or.inl ⟨by rfl, ?_⟩) ?_ ?_
  rotate_left
  · intro w'
    go_simp
    with_reducible rfl
  rotate_left
  · simp only [Act.put, List.setIfInBounds_toArray, List.set_cons_zero, List.set_cons_succ, i64_w, i32_w]
    rfl
  refine one_ (i := 7) (N := some 36) #[true, true, true, true, true, true, true, true, false, false, false, false] rfl rfl (by kernel_rfl) (by decide) (fun K hK => ?_)
  refine goes_ Try.func34 (by kernel_rfl) rfl #[.int .i64 3] (by rfl) rfl rfl (by (try simp only [List.map_toArray, List.map_cons, List.map_nil]); first | done | rfl | (simp only [List.length_drop, List.length_take]; rfl)) ?_
  with_reducible refine (geom_least.calls 3 l _ HL.out).mono ?_
  rintro e w_ ⟨rfl, ⟨nd_, rfl⟩⟩
  refine ⟨_, rfl, ?_⟩
  have NBKg2_ := Aside0.mk (blk_drewN BKg2.out nd_)
  have NBKg3_ := Aside0.mk (blk_drewN BKg3.out nd_)
  have NBKg7_ := Aside0.mk (blk_drewN BKg7.out nd_)
  have NHB_ := Aside0.mk (pw_below_drewN HB.out nd_)
  clear BKg2 BKg3 BKg7 HB
  have BKg2 := NBKg2_
  have BKg3 := NBKg3_
  have BKg7 := NBKg7_
  have HB := NHB_
  clear NBKg2_ NBKg3_ NBKg7_ NHB_
  refine hK.out _ _ ⟨(blk_cell BKg3.out 0).trans rfl, (blk_cell BKg7.out 0).trans rfl, (blk_cell BKg7.out 1).trans rfl, (blk_cell BKg7.out 2).trans rfl, (blk_cell BKg7.out 3).trans rfl, (blk_cell BKg7.out 4).trans rfl, (blk_cell BKg7.out 5).trans rfl⟩ (fun hHeld => ?_)
  clear hK K
  refine norm_ (a' := ?_) ?_ ?_
  rotate_left
  · show Act.put _ (some 36) _ = _
    simp only [Act.put, List.setIfInBounds_toArray, List.set_cons_zero, List.set_cons_succ, i64_w, i32_w]
    rfl
  generalize W6.drewN nd_ = W7 at BKg2 BKg3 BKg7 HB hHeld ⊢
  refine pure_ (i := 8) (N := some 37) (v := ?_) (a' := ?_) #[true, true, true, true, true, true, true, true, true, false, false, false] rfl rfl (by kernel_rfl) (fun _ _ _ h => h) (Or.inl ⟨by rfl, ?_⟩) ?_ ?_
  rotate_left
  · intro w'
    go_simp
    with_reducible rfl
  rotate_left
  · simp only [Act.put, List.setIfInBounds_toArray, List.set_cons_zero, List.set_cons_succ, i64_w, i32_w]
    rfl
  refine pure_ (i := 9) (N := some 4) (v := ?_) (a' := ?_) #[true, true, true, true, true, true, true, true, true, true, false, false] rfl rfl (by kernel_rfl) (fun _ _ _ h => h) (Or.inl ⟨by rfl, ?_⟩) ?_ ?_
  rotate_left
  · intro w'
    go_simp
    with_reducible rfl
  rotate_left
  · simp only [Act.put, List.setIfInBounds_toArray, List.set_cons_zero, List.set_cons_succ, i64_w, i32_w]
    rfl
  refine pure_ (i := 10) (N := some 5) (v := ?_) (a' := ?_) #[true, true, true, true, true, true, true, true, true, true, true, false] rfl rfl (by kernel_rfl) (fun _ _ _ h => h) (Or.inl ⟨by rfl, ?_⟩) ?_ ?_
  rotate_left
  · intro w'
    go_simp
    with_reducible rfl
  rotate_left
  · simp only [Act.put, List.setIfInBounds_toArray, List.set_cons_zero, List.set_cons_succ, i64_w, i32_w]
    rfl
  refine pure_ (i := 11) (N := some 6) (v := ?_) (a' := ?_) #[true, true, true, true, true, true, true, true, true, true, true, true] rfl rfl (by kernel_rfl) (fun _ _ _ h => h) (Or.inl ⟨by rfl, ?_⟩) ?_ ?_
  rotate_left
  · intro w'
    go_simp
    with_reducible rfl
  rotate_left
  · simp only [Act.put, List.setIfInBounds_toArray, List.set_cons_zero, List.set_cons_succ, i64_w, i32_w]
    rfl
  refine done_ (by kernel_rfl) ?_
  go_wp2
  go_ret3
  exact ⟨by first | rfl | (simp; done) | (simp [*]; done), HB.out⟩
set_option maxHeartbeats 4000000 in
set_option maxRecDepth 100000 in
theorem geom_What.at4 (k : Nat) (M R pl s hf nd l : Int) (w : World) (H1 : Aside0 (geom_is.f M R = some true)) (HS : Aside0 (geom_Sectors.f k M R = some s)) (H2 : Aside0 (geom_Half.f k M R = some hf)) (H3 : Aside0 (geom_Nodes.f k M R = some nd)) (HL : Aside0 (geom_least.f 4 = some l)) (c : decide (pl < 0) = false) (d : decide (s ≤ pl) = false) (d2 : decide (pl < 8) = false) (d3 : decide (pl < (wrap64 (8 + wrap64 (2 * hf)))) = false) (d4 : decide (pl < (wrap64 (wrap64 (8 + wrap64 (2 * hf)) + nd))) = false) (d5 : decide (pl < (wrap64 (wrap64 (wrap64 (8 + wrap64 (2 * hf)) + nd) + R))) = true) :
    Calls Try.prog 28 #[.agg #[.int .i64 M, .int .i64 R], .int .i64 pl] w fun e w' => e = .returned (.tuple #[.int .i64 4, .int .i64 (wrap64 (wrap64 (pl - (wrap64 (wrap64 (8 + wrap64 (2 * hf)) + nd))) + l)), .int .i64 0]) ∧ Below w.heap.size w w' := by
  have HB := Aside0.mk (Below.refl w.heap.size w)
  go_enter Try.func28, Try.ntmps28
  go_wp2_with fail
  obtain ⟨q0_, q1_, nb_⟩ := Wk.blks2 w (.cells #[.int .i64 M, .int .i64 R] 23 (0, 0)) (.cells #[.int .i64 pl] 3 (0, 0))
  obtain ⟨W0, hW_⟩ : ∃ W, W = ((w.alloc (.cells #[.int .i64 M, .int .i64 R] 23 (0, 0))).alloc (.cells #[.int .i64 pl] 3 (0, 0))) := ⟨_, rfl⟩
  rw [← hW_]
  rw [← hW_] at q0_
  rw [← hW_] at q1_
  rw [← hW_] at nb_
  have sz_ := below_size HB.out
  have hb2_ := Aside0.mk (below_step HB.out nb_)
  obtain ⟨g2, hgg2_⟩ : ∃ g, g = w.heap.size := ⟨_, rfl⟩
  obtain ⟨g3, hgg3_⟩ : ∃ g, g = w.heap.size + 1 := ⟨_, rfl⟩
  rw [← hgg3_]
  rw [← hgg3_] at q1_
  rw [← hgg2_]
  rw [← hgg2_] at q0_
  have GEg2 := Aside0.mk (show w.heap.size ≤ g2 by omega)
  have GEg3 := Aside0.mk (show w.heap.size ≤ g3 by omega)
  have Dg2g3 : g2 ≠ g3 := by omega
  have Dg3g2 : g3 ≠ g2 := by omega
  have BKg2 := Aside0.mk q0_
  have BKg3 := Aside0.mk q1_
  clear HB
  have HB := hb2_
  clear hb2_ hW_ nb_ sz_ hgg2_ hgg3_ q0_ q1_
  have NBKg2_ := Aside0.mk (blk_drew BKg2.out)
  have NBKg3_ := Aside0.mk (blk_drew BKg3.out)
  have NHB_ := Aside0.mk (below_drew1 HB.out)
  clear BKg2 BKg3 HB
  have BKg2 := NBKg2_
  have BKg3 := NBKg3_
  have HB := NHB_
  clear NBKg2_ NBKg3_ NHB_
  refine start_ (n := 13) (S := fun w' => w'.cell? ⟨g2, 0, none⟩ = some (.int .i64 M) ∧ w'.cell? ⟨g2, 1, none⟩ = some (.int .i64 R) ∧ w'.cell? ⟨g3, 0, none⟩ = some (.int .i64 pl)) (ds := []) #[false, false, false, false, false, false, false, false, false, false, false, false, false] (by kernel_rfl) rfl rfl ⟨(blk_cell BKg2.out 0).trans rfl, (blk_cell BKg2.out 1).trans rfl, (blk_cell BKg3.out 0).trans rfl⟩ (fun hHeld => ?_)
  generalize W0.drew = W1 at BKg2 BKg3 HB hHeld ⊢
  refine take_ (i := 0) (N := some 9) (v := ?_) (a' := ?_) #[true, false, false, false, false, false, false, false, false, false, false, false, false] rfl rfl (by kernel_rfl) (fun _ _ _ h => h) (Or.inl ⟨by rfl, ?_⟩) hHeld ?_ ?_
  rotate_left
  · rintro w' ⟨s0, s1, s2⟩
    go_simp
    with_reducible rfl
  rotate_left
  · simp only [Act.put, List.setIfInBounds_toArray, List.set_cons_zero, List.set_cons_succ, i64_w, i32_w]
    rfl
  refine one_ (i := 1) (N := some 10) #[true, true, false, false, false, false, false, false, false, false, false, false, false] rfl rfl (by kernel_rfl) (by decide) (fun K hK => ?_)
  refine goes_ Try.func30 (by kernel_rfl) rfl #[.agg #[.int .i64 M, .int .i64 R]] (by rfl) rfl rfl (by (try simp only [List.map_toArray, List.map_cons, List.map_nil]); first | done | rfl | (simp only [List.length_drop, List.length_take]; rfl)) ?_
  with_reducible refine (geom_is.calls M R true _ H1.out).mono ?_
  rintro e W2 ⟨rfl, hb⟩
  refine ⟨_, rfl, ?_⟩
  have NBKg2_ := Aside0.mk (blk_below (o := .cells #[.int .i64 M, .int .i64 R] 23 (0, 0)) (by (with_reducible repeat (first | refine blk_drewN ?_ _ | refine blk_drew ?_ | refine blk_alloc ?_ _)); exact BKg2.out) hb)
  have NBKg3_ := Aside0.mk (blk_below (o := .cells #[.int .i64 pl] 3 (0, 0)) (by (with_reducible repeat (first | refine blk_drewN ?_ _ | refine blk_drew ?_ | refine blk_alloc ?_ _)); exact BKg3.out) hb)
  have NHB_ := Aside0.mk (below_step (by repeat (first | (with_reducible first | exact HB.out | apply below_alloc | apply pw_below_drewN | apply below_drew1) | exact HB.out)) hb)
  clear BKg2 BKg3 HB
  have BKg2 := NBKg2_
  have BKg3 := NBKg3_
  have HB := NHB_
  clear NBKg2_ NBKg3_ NHB_
  clear hb
  refine hK.out _ _ ⟨(blk_cell BKg2.out 0).trans rfl, (blk_cell BKg2.out 1).trans rfl, (blk_cell BKg3.out 0).trans rfl⟩ (fun hHeld => ?_)
  clear hK K
  refine norm_ (a' := ?_) ?_ ?_
  rotate_left
  · show Act.put _ (some 10) _ = _
    simp only [Act.put, List.setIfInBounds_toArray, List.set_cons_zero, List.set_cons_succ, i64_w, i32_w]
    rfl
  refine pure_ (i := 2) (N := some 11) (v := ?_) (a' := ?_) #[true, true, true, false, false, false, false, false, false, false, false, false, false] rfl rfl (by kernel_rfl) (fun _ _ _ h => h) (Or.inl ⟨by rfl, ?_⟩) ?_ ?_
  rotate_left
  · intro w'
    go_simp
    with_reducible rfl
  rotate_left
  · simp only [Act.put, List.setIfInBounds_toArray, List.set_cons_zero, List.set_cons_succ, i64_w, i32_w]
    rfl
  refine pure_ (i := 3) (N := some 12) (v := ?_) (a' := ?_) #[true, true, true, true, false, false, false, false, false, false, false, false, false] rfl rfl (by kernel_rfl) (fun _ _ _ h => h) (Or.inl ⟨by rfl, ?_⟩) ?_ ?_
  rotate_left
  · intro w'
    go_simp
    with_reducible rfl
  rotate_left
  · simp only [Act.put, List.setIfInBounds_toArray, List.set_cons_zero, List.set_cons_succ, i64_w, i32_w]
    rfl
  refine take_ (i := 4) (N := some 13) (v := ?_) (a' := ?_) #[true, true, true, true, true, false, false, false, false, false, false, false, false] rfl rfl (by kernel_rfl) (fun _ _ _ h => h) (Or.inl ⟨by rfl, ?_⟩) hHeld ?_ ?_
  rotate_left
  · rintro w' ⟨s0, s1, s2⟩
    go_simp
    with_reducible rfl
  rotate_left
  · simp only [Act.put, List.setIfInBounds_toArray, List.set_cons_zero, List.set_cons_succ, i64_w, i32_w]
    rfl
  refine pure_ (i := 5) (N := some 14) (v := ?_) (a' := ?_) #[true, true, true, true, true, true, false, false, false, false, false, false, false] rfl rfl (by kernel_rfl) (fun _ _ _ h => h) (Or.inl ⟨by rfl, ?_⟩) ?_ ?_
  rotate_left
  · intro w'
    go_simp
    with_reducible rfl
  rotate_left
  · simp only [Act.put, List.setIfInBounds_toArray, List.set_cons_zero, List.set_cons_succ, i64_w, i32_w]
    rfl
  refine pure_ (i := 6) (N := some 15) (v := ?_) (a' := ?_) #[true, true, true, true, true, true, true, false, false, false, false, false, false] rfl rfl (by kernel_rfl) (fun _ _ _ h => h) (Or.inl ⟨by rfl, ?_⟩) ?_ ?_
  rotate_left
  · intro w'
    go_simp
    with_reducible rfl
  rotate_left
  · simp only [Act.put, List.setIfInBounds_toArray, List.set_cons_zero, List.set_cons_succ, i64_w, i32_w]
    rfl
  refine pure_ (i := 7) (N := some 16) (v := ?_) (a' := ?_) #[true, true, true, true, true, true, true, true, false, false, false, false, false] rfl rfl (by kernel_rfl) (fun _ _ _ h => h) (Or.inl ⟨by rfl, ?_⟩) ?_ ?_
  rotate_left
  · intro w'
    go_simp
    with_reducible rfl
  rotate_left
  · simp only [Act.put, List.setIfInBounds_toArray, List.set_cons_zero, List.set_cons_succ, i64_w, i32_w]
    rfl
  refine take_ (i := 8) (N := some 17) (v := ?_) (a' := ?_) #[true, true, true, true, true, true, true, true, true, false, false, false, false] rfl rfl (by kernel_rfl) (fun _ _ _ h => h) (Or.inl ⟨by rfl, ?_⟩) hHeld ?_ ?_
  rotate_left
  · rintro w' ⟨s0, s1, s2⟩
    go_simp
    with_reducible rfl
  rotate_left
  · simp only [Act.put, List.setIfInBounds_toArray, List.set_cons_zero, List.set_cons_succ, i64_w, i32_w]
    rfl
  refine take_ (i := 9) (N := some 18) (v := ?_) (a' := ?_) #[true, true, true, true, true, true, true, true, true, true, false, false, false] rfl rfl (by kernel_rfl) (fun _ _ _ h => h) (Or.inl ⟨by rfl, ?_⟩) hHeld ?_ ?_
  rotate_left
  · rintro w' ⟨s0, s1, s2⟩
    go_simp
    with_reducible rfl
  rotate_left
  · simp only [Act.put, List.setIfInBounds_toArray, List.set_cons_zero, List.set_cons_succ, i64_w, i32_w]
    rfl
  refine one_ (i := 10) (N := some 19) #[true, true, true, true, true, true, true, true, true, true, true, false, false] rfl rfl (by kernel_rfl) (by decide) (fun K hK => ?_)
  refine goes_ Try.func23 (by kernel_rfl) rfl #[.agg #[.int .i64 M, .int .i64 R]] (by rfl) rfl rfl (by (try simp only [List.map_toArray, List.map_cons, List.map_nil]); first | done | rfl | (simp only [List.length_drop, List.length_take]; rfl)) ?_
  with_reducible refine (geom_Sectors.calls k M R s _ HS.out).mono ?_
  rintro e W3 ⟨rfl, hb⟩
  refine ⟨_, rfl, ?_⟩
  have NBKg2_ := Aside0.mk (blk_below (o := .cells #[.int .i64 M, .int .i64 R] 23 (0, 0)) (by (with_reducible repeat (first | refine blk_drewN ?_ _ | refine blk_drew ?_ | refine blk_alloc ?_ _)); exact BKg2.out) hb)
  have NBKg3_ := Aside0.mk (blk_below (o := .cells #[.int .i64 pl] 3 (0, 0)) (by (with_reducible repeat (first | refine blk_drewN ?_ _ | refine blk_drew ?_ | refine blk_alloc ?_ _)); exact BKg3.out) hb)
  have NHB_ := Aside0.mk (below_step (by repeat (first | (with_reducible first | exact HB.out | apply below_alloc | apply pw_below_drewN | apply below_drew1) | exact HB.out)) hb)
  clear BKg2 BKg3 HB
  have BKg2 := NBKg2_
  have BKg3 := NBKg3_
  have HB := NHB_
  clear NBKg2_ NBKg3_ NHB_
  clear hb
  refine hK.out _ _ ⟨(blk_cell BKg2.out 0).trans rfl, (blk_cell BKg2.out 1).trans rfl, (blk_cell BKg3.out 0).trans rfl⟩ (fun hHeld => ?_)
  clear hK K
  refine norm_ (a' := ?_) ?_ ?_
  rotate_left
  · show Act.put _ (some 19) _ = _
    simp only [Act.put, List.setIfInBounds_toArray, List.set_cons_zero, List.set_cons_succ, i64_w, i32_w]
    rfl
  refine pure_ (i := 11) (N := some 20) (v := ?_) (a' := ?_) #[true, true, true, true, true, true, true, true, true, true, true, true, false] rfl rfl (by kernel_rfl) (fun _ _ _ h => h) (Or.inl ⟨by rfl, ?_⟩) ?_ ?_
  rotate_left
  · intro w'
    go_simp
    with_reducible rfl
  rotate_left
  · simp only [Act.put, List.setIfInBounds_toArray, List.set_cons_zero, List.set_cons_succ, i64_w, i32_w]
    rfl
  refine pure_ (i := 12) (N := some 21) (v := ?_) (a' := ?_) #[true, true, true, true, true, true, true, true, true, true, true, true, true] rfl rfl (by kernel_rfl) (fun _ _ _ h => h) (Or.inl ⟨by rfl, ?_⟩) ?_ ?_
  rotate_left
  · intro w'
    go_simp
    with_reducible rfl
  rotate_left
  · simp only [Act.put, List.setIfInBounds_toArray, List.set_cons_zero, List.set_cons_succ, i64_w, i32_w]
    rfl
  refine done_ (by kernel_rfl) ?_
  obtain ⟨cg2_0, cg2_1⟩ := Wk.cells2 BKg2.out
  have fg2_0 := blk_frozen BKg2.out 0
  have fg2_1 := blk_frozen BKg2.out 1
  have cg3_0 := Wk.cells1 BKg3.out
  have fg3_0 := blk_frozen BKg3.out 0
  go_wp2_with fail
  clear cg2_0 fg2_0 cg2_1 fg2_1 cg3_0 fg3_0
  with_reducible refine (geom_firsts.calls k M R hf nd _ H2.out H3.out).mono ?_
  rintro e W4 ⟨rfl, hb⟩
  have NBKg2_ := Aside0.mk (blk_below (o := .cells #[.int .i64 M, .int .i64 R] 23 (0, 0)) (by (with_reducible repeat (first | refine blk_drewN ?_ _ | refine blk_drew ?_ | refine blk_alloc ?_ _)); exact BKg2.out) hb)
  have NBKg3_ := Aside0.mk (blk_below (o := .cells #[.int .i64 pl] 3 (0, 0)) (by (with_reducible repeat (first | refine blk_drewN ?_ _ | refine blk_drew ?_ | refine blk_alloc ?_ _)); exact BKg3.out) hb)
  have NHB_ := Aside0.mk (below_step (by repeat (first | (with_reducible first | exact HB.out | apply below_alloc | apply pw_below_drewN | apply below_drew1) | exact HB.out)) hb)
  clear BKg2 BKg3 HB
  have BKg2 := NBKg2_
  have BKg3 := NBKg3_
  have HB := NHB_
  clear NBKg2_ NBKg3_ NHB_
  clear hb
  obtain ⟨cg2_0, cg2_1⟩ := Wk.cells2 BKg2.out
  have fg2_0 := blk_frozen BKg2.out 0
  have fg2_1 := blk_frozen BKg2.out 1
  have cg3_0 := Wk.cells1 BKg3.out
  have fg3_0 := blk_frozen BKg3.out 0
  go_wp2_with fail
  clear cg2_0 fg2_0 cg2_1 fg2_1 cg3_0 fg3_0
  obtain ⟨q0_, nb_⟩ := Wk.blks1 W4 (.cells #[.int .i64 0, .int .i64 0, .int .i64 8, .int .i64 (wrap64 (8 + wrap64 (2 * hf))), .int .i64 (wrap64 (wrap64 (8 + wrap64 (2 * hf)) + nd)), .int .i64 (wrap64 (wrap64 (wrap64 (8 + wrap64 (2 * hf)) + nd) + R))] 43 (0, 0))
  obtain ⟨W5, hW_⟩ : ∃ W, W = (W4.alloc (.cells #[.int .i64 0, .int .i64 0, .int .i64 8, .int .i64 (wrap64 (8 + wrap64 (2 * hf))), .int .i64 (wrap64 (wrap64 (8 + wrap64 (2 * hf)) + nd)), .int .i64 (wrap64 (wrap64 (wrap64 (8 + wrap64 (2 * hf)) + nd) + R))] 43 (0, 0))) := ⟨_, rfl⟩
  rw [← hW_]
  rw [← hW_] at q0_
  rw [← hW_] at nb_
  have mg2_ := blk_below BKg2.out nb_
  have mg3_ := blk_below BKg3.out nb_
  have sz_ := below_size HB.out
  have ltg2_ := blk_lt BKg2.out
  have ltg3_ := blk_lt BKg3.out
  have hb2_ := Aside0.mk (below_step HB.out nb_)
  obtain ⟨g7, hgg7_⟩ : ∃ g, g = W4.heap.size := ⟨_, rfl⟩
  rw [← hgg7_]
  rw [← hgg7_] at q0_
  have GEg7 := Aside0.mk (show w.heap.size ≤ g7 by omega)
  have Dg2g7 : g2 ≠ g7 := by omega
  have Dg7g2 : g7 ≠ g2 := by omega
  have Dg3g7 : g3 ≠ g7 := by omega
  have Dg7g3 : g7 ≠ g3 := by omega
  have BNg2 := Aside0.mk mg2_
  clear BKg2
  have BKg2 := BNg2
  clear BNg2 ltg2_ mg2_
  have BNg3 := Aside0.mk mg3_
  clear BKg3
  have BKg3 := BNg3
  clear BNg3 ltg3_ mg3_
  have BKg7 := Aside0.mk q0_
  clear HB
  have HB := hb2_
  clear hb2_ hW_ nb_ sz_ hgg7_ q0_
  have hx_ : ∀ j, j < 6 → W5.cell? ⟨g7, j, none⟩ = some (.int .i64 (([0, 0, 8, (wrap64 (8 + wrap64 (2 * hf))), (wrap64 (wrap64 (8 + wrap64 (2 * hf)) + nd)), (wrap64 (wrap64 (wrap64 (8 + wrap64 (2 * hf)) + nd) + R))] : List Int).getD j 0)) := by
    intro j hj
    have hc_ := blk_cell BKg7.out j
    have : j = 0 ∨ j = 1 ∨ j = 2 ∨ j = 3 ∨ j = 4 ∨ j = 5 := by omega
    rcases this with rfl | rfl | rfl | rfl | rfl | rfl <;> exact hc_.trans rfl
  have h2_ : ∀ j, j < 5 → ([0, 0, 8, (wrap64 (8 + wrap64 (2 * hf))), (wrap64 (wrap64 (8 + wrap64 (2 * hf)) + nd)), (wrap64 (wrap64 (wrap64 (8 + wrap64 (2 * hf)) + nd) + R))] : List Int).getD j 0 ≤ pl := by
    intro j hj
    have c' : ¬ pl < 0 := of_decide_eq_false c
    have d2' : ¬ pl < 8 := of_decide_eq_false d2
    have d3' : ¬ pl < (wrap64 (8 + wrap64 (2 * hf))) := of_decide_eq_false d3
    have d4' : ¬ pl < (wrap64 (wrap64 (8 + wrap64 (2 * hf)) + nd)) := of_decide_eq_false d4
    have : j = 0 ∨ j = 1 ∨ j = 2 ∨ j = 3 ∨ j = 4 := by omega
    rcases this with rfl | rfl | rfl | rfl | rfl <;> simp only [List.getD_eq_getElem?_getD, List.getElem?_cons_zero, List.getElem?_cons_succ, Option.getD_some] <;> omega
  with_reducible refine (indexfunc.calls ([0, 0, 8, (wrap64 (8 + wrap64 (2 * hf))), (wrap64 (wrap64 (8 + wrap64 (2 * hf)) + nd)), (wrap64 (wrap64 (wrap64 (8 + wrap64 (2 * hf)) + nd) + R))] : List Int) pl g3 g7 5 _ (Wk.cells1 BKg3.out) hx_ (by omega) (by have t_ := of_decide_eq_true d5; simpa using t_) h2_).mono ?_
  rintro e w_ ⟨rfl, rfl⟩
  clear hx_ h2_
  obtain ⟨cg2_0, cg2_1⟩ := Wk.cells2 BKg2.out
  have fg2_0 := blk_frozen BKg2.out 0
  have fg2_1 := blk_frozen BKg2.out 1
  have cg3_0 := Wk.cells1 BKg3.out
  have fg3_0 := blk_frozen BKg3.out 0
  obtain ⟨cg7_0, cg7_1, cg7_2, cg7_3, cg7_4, cg7_5⟩ := Wk.cells6 BKg7.out
  have fg7_0 := blk_frozen BKg7.out 0
  have fg7_1 := blk_frozen BKg7.out 1
  have fg7_2 := blk_frozen BKg7.out 2
  have fg7_3 := blk_frozen BKg7.out 3
  have fg7_4 := blk_frozen BKg7.out 4
  have fg7_5 := blk_frozen BKg7.out 5
  have wq : wrap64 4 = 4 := by unfold wrap64; omega
  go_wp2_with fail
  clear cg2_0 fg2_0 cg2_1 fg2_1 cg3_0 fg3_0 cg7_0 fg7_0 cg7_1 fg7_1 cg7_2 fg7_2 cg7_3 fg7_3 cg7_4 fg7_4 cg7_5 fg7_5
  have NBKg2_ := Aside0.mk (blk_drew BKg2.out)
  have NBKg3_ := Aside0.mk (blk_drew BKg3.out)
  have NBKg7_ := Aside0.mk (blk_drew BKg7.out)
  have NHB_ := Aside0.mk (below_drew1 HB.out)
  clear BKg2 BKg3 BKg7 HB
  have BKg2 := NBKg2_
  have BKg3 := NBKg3_
  have BKg7 := NBKg7_
  have HB := NHB_
  clear NBKg2_ NBKg3_ NBKg7_ NHB_
  refine start_ (n := 12) (S := fun w' => w'.cell? ⟨g3, 0, none⟩ = some (.int .i64 pl) ∧ w'.cell? ⟨g7, 0, none⟩ = some (.int .i64 0) ∧ w'.cell? ⟨g7, 1, none⟩ = some (.int .i64 0) ∧ w'.cell? ⟨g7, 2, none⟩ = some (.int .i64 8) ∧ w'.cell? ⟨g7, 3, none⟩ = some (.int .i64 (wrap64 (8 + wrap64 (2 * hf)))) ∧ w'.cell? ⟨g7, 4, none⟩ = some (.int .i64 (wrap64 (wrap64 (8 + wrap64 (2 * hf)) + nd))) ∧ w'.cell? ⟨g7, 5, none⟩ = some (.int .i64 (wrap64 (wrap64 (wrap64 (8 + wrap64 (2 * hf)) + nd) + R)))) (ds := []) #[false, false, false, false, false, false, false, false, false, false, false, false] (by kernel_rfl) rfl rfl ⟨(blk_cell BKg3.out 0).trans rfl, (blk_cell BKg7.out 0).trans rfl, (blk_cell BKg7.out 1).trans rfl, (blk_cell BKg7.out 2).trans rfl, (blk_cell BKg7.out 3).trans rfl, (blk_cell BKg7.out 4).trans rfl, (blk_cell BKg7.out 5).trans rfl⟩ (fun hHeld => ?_)
  generalize W5.drew = W6 at BKg2 BKg3 BKg7 HB hHeld ⊢
  refine pure_ (i := 0) (N := some 29) (v := ?_) (a' := ?_) #[true, false, false, false, false, false, false, false, false, false, false, false] rfl rfl (by kernel_rfl) (fun _ _ _ h => h) (Or.inl ⟨by rfl, ?_⟩) ?_ ?_
  rotate_left
  · intro w'
    go_simp
    with_reducible rfl
  rotate_left
  · simp only [Act.put, List.setIfInBounds_toArray, List.set_cons_zero, List.set_cons_succ, i64_w, i32_w]
    rfl
  refine take_ (i := 1) (N := some 30) (v := ?_) (a' := ?_) #[true, true, false, false, false, false, false, false, false, false, false, false] rfl rfl (by kernel_rfl) (fun _ _ _ h => h) (Or.inl ⟨by rfl, ?_⟩) hHeld ?_ ?_
  rotate_left
  · rintro w' ⟨s0, s1, s2, s3, s4, s5, s6⟩
    go_simp
    with_reducible rfl
  rotate_left
  · simp only [Act.put, List.setIfInBounds_toArray, List.set_cons_zero, List.set_cons_succ, i64_w, i32_w]
    rfl
  refine pure_ (i := 2) (N := some 31) (v := ?_) (a' := ?_) #[true, true, true, false, false, false, false, false, false, false, false, false] rfl rfl (by kernel_rfl) (fun _ _ _ h => h) (Or.inl ⟨by rfl, ?_⟩) ?_ ?_
  rotate_left
  · intro w'
    go_simp
    with_reducible rfl
  rotate_left
  · simp only [Act.put, List.setIfInBounds_toArray, List.set_cons_zero, List.set_cons_succ, i64_w, i32_w]
    rfl
  refine pure_ (i := 3) (N := some 32) (v := ?_) (a' := ?_) #[true, true, true, true, false, false, false, false, false, false, false, false] rfl rfl (by kernel_rfl) (fun _ _ _ h => h) (Or.inl ⟨by rfl, ?_⟩) ?_ ?_
  rotate_left
  · intro w'
    go_simp
    with_reducible rfl
  rotate_left
  · simp only [Act.put, List.setIfInBounds_toArray, List.set_cons_zero, List.set_cons_succ, i64_w, i32_w]
    rfl
  refine take_ (i := 4) (N := some 33) (v := ?_) (a' := ?_) #[true, true, true, true, true, false, false, false, false, false, false, false] rfl rfl (by kernel_rfl) (fun _ _ _ h => h) (Or.inl ⟨by rfl, ?_⟩) hHeld ?_ ?_
  rotate_left
  · rintro w' ⟨s0, s1, s2, s3, s4, s5, s6⟩
    go_simp
    with_reducible rfl
  rotate_left
  · simp only [Act.put, List.setIfInBounds_toArray, List.set_cons_zero, List.set_cons_succ, i64_w, i32_w]
    rfl
  refine pure_ (i := 5) (N := some 34) (v := ?_) (a' := ?_) #[true, true, true, true, true, true, false, false, false, false, false, false] rfl rfl (by kernel_rfl) (fun _ _ _ h => h) (Or.inl ⟨by rfl, ?_⟩) ?_ ?_
  rotate_left
  · intro w'
    go_simp
    with_reducible rfl
  rotate_left
  · simp only [Act.put, List.setIfInBounds_toArray, List.set_cons_zero, List.set_cons_succ, i64_w, i32_w]
    rfl
  refine pure_ (i := 6) (N := some 35) (v := ?_) (a' := ?_) #[true, true, true, true, true, true, true, false, false, false, false, false] rfl rfl (by kernel_rfl) (fun _ _ _ h => h) (Or.inl ⟨by rfl, ?_⟩) ?_ ?_
  rotate_left
  · intro w'
    go_simp
    with_reducible rfl
  rotate_left
  · simp only [Act.put, List.setIfInBounds_toArray, List.set_cons_zero, List.set_cons_succ, i64_w, i32_w]
    rfl
  refine one_ (i := 7) (N := some 36) #[true, true, true, true, true, true, true, true, false, false, false, false] rfl rfl (by kernel_rfl) (by decide) (fun K hK => ?_)
  refine goes_ Try.func34 (by kernel_rfl) rfl #[.int .i64 4] (by rfl) rfl rfl (by (try simp only [List.map_toArray, List.map_cons, List.map_nil]); first | done | rfl | (simp only [List.length_drop, List.length_take]; rfl)) ?_
  with_reducible refine (geom_least.calls 4 l _ HL.out).mono ?_
  rintro e w_ ⟨rfl, ⟨nd_, rfl⟩⟩
  refine ⟨_, rfl, ?_⟩
  have NBKg2_ := Aside0.mk (blk_drewN BKg2.out nd_)
  have NBKg3_ := Aside0.mk (blk_drewN BKg3.out nd_)
  have NBKg7_ := Aside0.mk (blk_drewN BKg7.out nd_)
  have NHB_ := Aside0.mk (pw_below_drewN HB.out nd_)
  clear BKg2 BKg3 BKg7 HB
  have BKg2 := NBKg2_
  have BKg3 := NBKg3_
  have BKg7 := NBKg7_
  have HB := NHB_
  clear NBKg2_ NBKg3_ NBKg7_ NHB_
  refine hK.out _ _ ⟨(blk_cell BKg3.out 0).trans rfl, (blk_cell BKg7.out 0).trans rfl, (blk_cell BKg7.out 1).trans rfl, (blk_cell BKg7.out 2).trans rfl, (blk_cell BKg7.out 3).trans rfl, (blk_cell BKg7.out 4).trans rfl, (blk_cell BKg7.out 5).trans rfl⟩ (fun hHeld => ?_)
  clear hK K
  refine norm_ (a' := ?_) ?_ ?_
  rotate_left
  · show Act.put _ (some 36) _ = _
    simp only [Act.put, List.setIfInBounds_toArray, List.set_cons_zero, List.set_cons_succ, i64_w, i32_w]
    rfl
  generalize W6.drewN nd_ = W7 at BKg2 BKg3 BKg7 HB hHeld ⊢
  refine pure_ (i := 8) (N := some 37) (v := ?_) (a' := ?_) #[true, true, true, true, true, true, true, true, true, false, false, false] rfl rfl (by kernel_rfl) (fun _ _ _ h => h) (Or.inl ⟨by rfl, ?_⟩) ?_ ?_
  rotate_left
  · intro w'
    go_simp
    with_reducible rfl
  rotate_left
  · simp only [Act.put, List.setIfInBounds_toArray, List.set_cons_zero, List.set_cons_succ, i64_w, i32_w]
    rfl
  refine pure_ (i := 9) (N := some 4) (v := ?_) (a' := ?_) #[true, true, true, true, true, true, true, true, true, true, false, false] rfl rfl (by kernel_rfl) (fun _ _ _ h => h) (Or.inl ⟨by rfl, ?_⟩) ?_ ?_
  rotate_left
  · intro w'
    go_simp
    with_reducible rfl
  rotate_left
  · simp only [Act.put, List.setIfInBounds_toArray, List.set_cons_zero, List.set_cons_succ, i64_w, i32_w]
    rfl
  refine pure_ (i := 10) (N := some 5) (v := ?_) (a' := ?_) #[true, true, true, true, true, true, true, true, true, true, true, false] rfl rfl (by kernel_rfl) (fun _ _ _ h => h) (Or.inl ⟨by rfl, ?_⟩) ?_ ?_
  rotate_left
  · intro w'
    go_simp
    with_reducible rfl
  rotate_left
  · simp only [Act.put, List.setIfInBounds_toArray, List.set_cons_zero, List.set_cons_succ, i64_w, i32_w]
    rfl
  refine pure_ (i := 11) (N := some 6) (v := ?_) (a' := ?_) #[true, true, true, true, true, true, true, true, true, true, true, true] rfl rfl (by kernel_rfl) (fun _ _ _ h => h) (Or.inl ⟨by rfl, ?_⟩) ?_ ?_
  rotate_left
  · intro w'
    go_simp
    with_reducible rfl
  rotate_left
  · simp only [Act.put, List.setIfInBounds_toArray, List.set_cons_zero, List.set_cons_succ, i64_w, i32_w]
    rfl
  refine done_ (by kernel_rfl) ?_
  go_wp2
  go_ret3
  exact ⟨by first | rfl | (simp; done) | (simp [*]; done), HB.out⟩
theorem geom_What.calls (k : Nat) (M R pl r1 r2 r3 : Int) (w : World) (h : geom_What.f k M R pl = some (r1, r2, r3)) :
    Calls Try.prog 28 #[.agg #[.int .i64 M, .int .i64 R], .int .i64 pl] w fun e w' => e = .returned (.tuple #[.int .i64 r1, .int .i64 r2, .int .i64 r3]) ∧ Below w.heap.size w w' := by
  unfold geom_What.f at h
  obtain ⟨b, hb1, h⟩ := Option.bind_eq_some_iff.mp h
  cases b with
  | false =>
    rw [if_neg (by decide)] at h
    simp only [Option.some.injEq, Prod.mk.injEq] at h
    obtain ⟨rfl, rfl, rfl⟩ := h
    exact geom_What.no1 M R pl w ⟨hb1⟩
  | true =>
    rw [if_pos rfl] at h
    by_cases c1 : pl < 0
    · rw [if_pos c1] at h
      simp only [Option.some.injEq, Prod.mk.injEq] at h
      obtain ⟨rfl, rfl, rfl⟩ := h
      exact geom_What.no2 M R pl w ⟨hb1⟩ (decide_eq_true c1)
    rw [if_neg c1] at h
    obtain ⟨s, hs, h⟩ := Option.bind_eq_some_iff.mp h
    by_cases c2 : pl ≥ s
    · rw [if_pos c2] at h
      simp only [Option.some.injEq, Prod.mk.injEq] at h
      obtain ⟨rfl, rfl, rfl⟩ := h
      exact geom_What.no3 k M R pl s w ⟨hb1⟩ ⟨hs⟩ (decide_eq_false c1) (decide_eq_true c2)
    rw [if_neg c2] at h
    obtain ⟨hf, h2, h⟩ := Option.bind_eq_some_iff.mp h
    obtain ⟨nd, h3, h⟩ := Option.bind_eq_some_iff.mp h
    by_cases d2 : pl < 8
    · rw [if_pos d2] at h
      obtain ⟨l, hl, h⟩ := Option.bind_eq_some_iff.mp h
      simp only [Option.some.injEq, Prod.mk.injEq] at h
      obtain ⟨rfl, rfl, rfl⟩ := h
      exact geom_What.at1 k M R pl s hf nd l w ⟨hb1⟩ ⟨hs⟩ ⟨h2⟩ ⟨h3⟩ ⟨hl⟩ (decide_eq_false c1) (decide_eq_false c2) (decide_eq_true d2)
    rw [if_neg d2] at h
    by_cases d3 : pl < (wrap64 (8 + wrap64 (2 * hf)))
    · rw [if_pos d3] at h
      obtain ⟨l, hl, h⟩ := Option.bind_eq_some_iff.mp h
      simp only [Option.some.injEq, Prod.mk.injEq] at h
      obtain ⟨rfl, rfl, rfl⟩ := h
      exact geom_What.at2 k M R pl s hf nd l w ⟨hb1⟩ ⟨hs⟩ ⟨h2⟩ ⟨h3⟩ ⟨hl⟩ (decide_eq_false c1) (decide_eq_false c2) (decide_eq_false d2) (decide_eq_true d3)
    rw [if_neg d3] at h
    by_cases d4 : pl < (wrap64 (wrap64 (8 + wrap64 (2 * hf)) + nd))
    · rw [if_pos d4] at h
      obtain ⟨l, hl, h⟩ := Option.bind_eq_some_iff.mp h
      simp only [Option.some.injEq, Prod.mk.injEq] at h
      obtain ⟨rfl, rfl, rfl⟩ := h
      exact geom_What.at3 k M R pl s hf nd l w ⟨hb1⟩ ⟨hs⟩ ⟨h2⟩ ⟨h3⟩ ⟨hl⟩ (decide_eq_false c1) (decide_eq_false c2) (decide_eq_false d2) (decide_eq_false d3) (decide_eq_true d4)
    rw [if_neg d4] at h
    by_cases d5 : pl < (wrap64 (wrap64 (wrap64 (8 + wrap64 (2 * hf)) + nd) + R))
    · rw [if_pos d5] at h
      obtain ⟨l, hl, h⟩ := Option.bind_eq_some_iff.mp h
      simp only [Option.some.injEq, Prod.mk.injEq] at h
      obtain ⟨rfl, rfl, rfl⟩ := h
      exact geom_What.at4 k M R pl s hf nd l w ⟨hb1⟩ ⟨hs⟩ ⟨h2⟩ ⟨h3⟩ ⟨hl⟩ (decide_eq_false c1) (decide_eq_false c2) (decide_eq_false d2) (decide_eq_false d3) (decide_eq_false d4) (decide_eq_true d5)
    rw [if_neg d5] at h
    exact absurd h (by simp)
end Go.Proofs.Ythmdpcdcbfndiaa.PGeomKnown
