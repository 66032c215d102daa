-- PRINTED BY print.sh 35421559b90ae4d0a3588c463048766b98c2df88dd9212a6774a882060cdf62d: not written by this session
import Derived.Test.YtpelcemffincoaaPPlaceBackx0
import Derived.Test.YtpelcemffincoaaPPlaceBackx1
import Derived.Test.YtpelcemffincoaaPPlaceBackx2
namespace Go.Proofs.Ytpelcemffincoaa.PPlaceBack
open Go.RowKit Go.Proofs.YtpelcemffincoaaW.PrintWords Go.Proofs.YtpelcemffincoaaW.PrintLast Go.Proofs.YtpelcemffincoaaW.PrintMore
attribute [local go_sem] max2_int min2_int max_two min_two max_three min_three max_four min_four   -- for this text's walks alone
set_option linter.unusedVariables false
set_option linter.unusedSimpArgs false

/-! ### casematelaw15_PlaceBack: function 9 -/
mutual
def casematelaw15_PlaceBack.j0 : Nat → Int → Bool → Int → Int → Option (Bool)
  | 0, _, _, _, _ => none
  | k + 1, x2, x31, x165000, x165001 => if x31 = true then (some false) else ((geom_Leaves.f x165000 x165001).bind fun t167 => (if t167 = 0 then (none) else ((geom_Logical.f x165000 x165001).bind fun t168 => (if t168 = 0 then (none) else ((place_At.f k x165000 x165001 (Int.tmod (wrap64 (x2)) t167)).bind fun bt169 => ((place_Leaf.f k x165000 x165001 bt169.1 bt169.2.1).bind fun bt172 => ((place_Column.f k x165000 x165001 bt169.1 bt169.2.1).bind fun bt174 => ((place_Member.f k x165000 x165001 bt169.1 bt174.1).bind fun bt176 => (if bt169.2.2 = 0 then (if bt172.2 = 0 then (if bt174.2 = 0 then (if bt176.2 = 0 then (if bt172.1 = (Int.tmod (wrap64 (x2)) t167) then (casematelaw15_PlaceBack.j1 k (Int.tmod (wrap64 (x2)) t168) (bt176.1 != bt169.2.1) x165000 x165001) else (casematelaw15_PlaceBack.j1 k (Int.tmod (wrap64 (x2)) t168) true x165000 x165001)) else (casematelaw15_PlaceBack.j1 k (Int.tmod (wrap64 (x2)) t168) true x165000 x165001)) else (casematelaw15_PlaceBack.j1 k (Int.tmod (wrap64 (x2)) t168) true x165000 x165001)) else (casematelaw15_PlaceBack.j1 k (Int.tmod (wrap64 (x2)) t168) true x165000 x165001)) else (casematelaw15_PlaceBack.j1 k (Int.tmod (wrap64 (x2)) t168) true x165000 x165001))))))))))
def casematelaw15_PlaceBack.j1 : Nat → Int → Bool → Int → Int → Option (Bool)
  | 0, _, _, _, _ => none
  | k + 1, x9, x93, x165000, x165001 => if x93 = true then (some false) else ((place_Of.f k x165000 x165001 x9).bind fun bt178 => ((place_Number.f k x165000 x165001 bt178.1 bt178.2.1).bind fun bt181 => ((place_Member.f k x165000 x165001 bt178.1 bt178.2.1).bind fun bt183 => ((place_Column.f k x165000 x165001 bt178.1 bt183.1).bind fun bt185 => (if bt178.2.2 = 0 then (if bt181.2 = 0 then (if bt183.2 = 0 then (if bt185.2 = 0 then (if bt181.1 = x9 then (if bt185.1 = bt178.2.1 then (if bt178.2.1 < (wrap64 (x165000 - 2)) then ((casematelaw15_awake.f k).bind fun t187 => (some t187)) else (some false)) else (some false)) else (some false)) else (some false)) else (some false)) else (some false)) else (some false))))))
end
def casematelaw15_PlaceBack.f (k : Nat) (a0 : Int) (a1 : Int) (a2 : Int) : Option (Bool) := (casematelaw15_small.f a0 a1).bind fun bt162 => ((geom_Leaves.f bt162.1 bt162.2).bind fun t165 => (if t165 < 1 then (casematelaw15_PlaceBack.j0 k a2 true bt162.1 bt162.2) else ((geom_Logical.f bt162.1 bt162.2).bind fun t166 => (casematelaw15_PlaceBack.j0 k a2 (decide (t166 < 1)) bt162.1 bt162.2))))
theorem casematelaw15_PlaceBack.mono_l : ∀ k, (∀ y0 y1 y2 y3, LeO (casematelaw15_PlaceBack.j0 k y0 y1 y2 y3) (casematelaw15_PlaceBack.j0 (k + 1) y0 y1 y2 y3)) ∧ (∀ y0 y1 y2 y3, LeO (casematelaw15_PlaceBack.j1 k y0 y1 y2 y3) (casematelaw15_PlaceBack.j1 (k + 1) y0 y1 y2 y3))
  | 0 => ⟨fun _ _ _ _ r h => by simp [casematelaw15_PlaceBack.j0] at h, fun _ _ _ _ r h => by simp [casematelaw15_PlaceBack.j1] at h⟩
  | k + 1 => by
    obtain ⟨ih0, ih1⟩ := casematelaw15_PlaceBack.mono_l k
    refine ⟨?_, ?_⟩
    · intro y0 y1 y2 y3
      unfold casematelaw15_PlaceBack.j0
      repeat' first
      | (with_reducible exact ih0 _ _ _ _)
      | (with_reducible exact ih1 _ _ _ _)
      | (with_reducible exact casematelaw15_awake.mono _)
      | (with_reducible exact place_At.mono _ _ _ _)
      | (with_reducible exact place_Column.mono _ _ _ _ _)
      | (with_reducible exact place_Leaf.mono _ _ _ _ _)
      | (with_reducible exact place_Member.mono _ _ _ _ _)
      | (with_reducible exact place_Number.mono _ _ _ _ _)
      | (with_reducible exact place_Of.mono _ _ _ _)
      | (with_reducible exact LeO.refl _)
      | (with_reducible exact LeO.none _)
      | (with_reducible refine LeO.ite ?_ ?_)
      | (with_reducible refine LeO.bind ?_ (fun _ => ?_))
      | exact ih0 _ _ _ _
      | exact ih1 _ _ _ _
      | exact casematelaw15_awake.mono _
      | exact place_At.mono _ _ _ _
      | exact place_Column.mono _ _ _ _ _
      | exact place_Leaf.mono _ _ _ _ _
      | exact place_Member.mono _ _ _ _ _
      | exact place_Number.mono _ _ _ _ _
      | exact place_Of.mono _ _ _ _
      | exact LeO.none _
      | refine LeO.ite ?_ ?_
      | refine LeO.bind ?_ (fun _ => ?_)
    · intro y0 y1 y2 y3
      unfold casematelaw15_PlaceBack.j1
      repeat' first
      | (with_reducible exact ih0 _ _ _ _)
      | (with_reducible exact ih1 _ _ _ _)
      | (with_reducible exact casematelaw15_awake.mono _)
      | (with_reducible exact place_At.mono _ _ _ _)
      | (with_reducible exact place_Column.mono _ _ _ _ _)
      | (with_reducible exact place_Leaf.mono _ _ _ _ _)
      | (with_reducible exact place_Member.mono _ _ _ _ _)
      | (with_reducible exact place_Number.mono _ _ _ _ _)
      | (with_reducible exact place_Of.mono _ _ _ _)
      | (with_reducible exact LeO.refl _)
      | (with_reducible exact LeO.none _)
      | (with_reducible refine LeO.ite ?_ ?_)
      | (with_reducible refine LeO.bind ?_ (fun _ => ?_))
      | exact ih0 _ _ _ _
      | exact ih1 _ _ _ _
      | exact casematelaw15_awake.mono _
      | exact place_At.mono _ _ _ _
      | exact place_Column.mono _ _ _ _ _
      | exact place_Leaf.mono _ _ _ _ _
      | exact place_Member.mono _ _ _ _ _
      | exact place_Number.mono _ _ _ _ _
      | exact place_Of.mono _ _ _ _
      | exact LeO.none _
      | refine LeO.ite ?_ ?_
      | refine LeO.bind ?_ (fun _ => ?_)
theorem casematelaw15_PlaceBack.mono : ∀ a0 a1 a2 k, LeO (casematelaw15_PlaceBack.f k a0 a1 a2) (casematelaw15_PlaceBack.f (k + 1) a0 a1 a2) := by
  intro a0 a1 a2 k
  obtain ⟨ih0, ih1⟩ := casematelaw15_PlaceBack.mono_l k
  unfold casematelaw15_PlaceBack.f
  repeat' first
      | (with_reducible exact ih0 _ _ _ _)
      | (with_reducible exact ih1 _ _ _ _)
      | (with_reducible exact casematelaw15_awake.mono _)
      | (with_reducible exact place_At.mono _ _ _ _)
      | (with_reducible exact place_Column.mono _ _ _ _ _)
      | (with_reducible exact place_Leaf.mono _ _ _ _ _)
      | (with_reducible exact place_Member.mono _ _ _ _ _)
      | (with_reducible exact place_Number.mono _ _ _ _ _)
      | (with_reducible exact place_Of.mono _ _ _ _)
      | (with_reducible exact LeO.refl _)
      | (with_reducible exact LeO.none _)
      | (with_reducible refine LeO.ite ?_ ?_)
      | (with_reducible refine LeO.bind ?_ (fun _ => ?_))
      | exact ih0 _ _ _ _
      | exact ih1 _ _ _ _
      | exact casematelaw15_awake.mono _
      | exact place_At.mono _ _ _ _
      | exact place_Column.mono _ _ _ _ _
      | exact place_Leaf.mono _ _ _ _ _
      | exact place_Member.mono _ _ _ _ _
      | exact place_Number.mono _ _ _ _ _
      | exact place_Of.mono _ _ _ _
      | exact LeO.none _
      | refine LeO.ite ?_ ?_
      | refine LeO.bind ?_ (fun _ => ?_)
set_option maxHeartbeats 8000000 in
set_option maxRecDepth 100000 in
theorem casematelaw15_PlaceBack.calls (k : Nat) (a0 : Int) (a1 : Int) (a2 : Int) (r : Bool) (w : World) (h : casematelaw15_PlaceBack.f k a0 a1 a2 = some r) :
    Calls Try.prog 9 #[.int .u8 a0, .int .u8 a1, .int .u16 a2] w fun e w' => e = .returned (.bool r) ∧ Below w.heap.size w w' := by
  have hu23 := Try.underlying23
  have HB := Aside0.mk (Below.refl w.heap.size w)
  have H : ((casematelaw15_small.f a0 a1).bind fun bt162 => ((geom_Leaves.f bt162.1 bt162.2).bind fun t165 => (if t165 < 1 then (casematelaw15_PlaceBack.j0 k a2 true bt162.1 bt162.2) else ((geom_Logical.f bt162.1 bt162.2).bind fun t166 => (casematelaw15_PlaceBack.j0 k a2 (decide (t166 < 1)) bt162.1 bt162.2))))) = some r := h
  clear h
  replace H := Option.bind_eq_some_iff.mp H
  obtain ⟨⟨t162, t163⟩, A40, H⟩ := H
  replace H : ((geom_Leaves.f t162 t163).bind fun t165 => (if t165 < 1 then (casematelaw15_PlaceBack.j0 k a2 true t162 t163) else ((geom_Logical.f t162 t163).bind fun t166 => (casematelaw15_PlaceBack.j0 k a2 (decide (t166 < 1)) t162 t163)))) = some r := H
  have A4 := Aside0.mk A40
  clear A40
  have HC5 := Aside0.mk H
  clear H
  go_enter Try.func9, Try.ntmps9
  go_upto_region 2 with (first | ((with_reducible refine gate_callee (f := 15) rfl ?_); refine goesL_ (some 23) rfl rfl Try.func15 (by kernel_rfl) rfl #[.int .u8 a0, .int .u8 a1] rfl (by (try simp only [List.map_toArray, List.map_cons, List.map_nil]); first | done | rfl | (simp only [List.length_drop, List.length_take]; rfl)) ?_; (with_reducible refine (casematelaw15_small.calls a0 a1 t162 t163 _ A4.out).mono ?_); rintro e w6 ⟨rfl, hb⟩; refine ⟨_, rfl, ?_⟩; have n0_ := Aside0.mk (below_step (by repeat (first | (with_reducible first | exact HB.out | apply below_alloc | apply pw_below_drewN | apply below_drew1) | exact HB.out)) hb); clear HB; have HB := n0_; clear n0_; (try clear hb); (try clear hb2); (try clear hk); (try clear hi)) | ((with_reducible refine gate_dst (N := 7) rfl ?_); refine box_event ?hg (N := 7) ?hd (cs := #[.int .i64 0, .int .i64 0]) (t := 23) ?hr ?_; (case hd => rfl); (case hg => rfl); (case hr => first | (go_simp; done) | (go_simp; rfl)); intro gb164 hg w7 hbox hb; have n0_ := Aside0.mk (below_step (by repeat (first | (with_reducible first | exact HB.out | apply below_alloc | apply pw_below_drewN | apply below_drew1) | exact HB.out)) hb); have n1_ := Aside0.mk (hbox); have n2_ := Aside0.mk ((by rw [hg]; exact (below_size (by repeat (first | (with_reducible first | exact HB.out | apply below_alloc | apply pw_below_drewN | apply below_drew1) | exact HB.out))) : w.heap.size ≤ gb164)); have n3_ := Aside0.mk ((by rw [hg]; exact (below_size (by repeat (first | (with_reducible first | exact HB.out | apply below_alloc | apply pw_below_drewN | apply below_drew1) | exact HB.out))) : w.heap.size ≤ gb164)); clear HB; have HB := n0_; have BK164 := n1_; have GW164 := n2_; have GE164 := n3_; clear n0_ n1_ n2_ n3_; clear hb hbox hg; have hcz8_0 : w7.cell? ⟨gb164, 0, none⟩ = some (.int .i64 0) := (blk_cell BK164.out 0).trans rfl; have hcz8_1 : w7.cell? ⟨gb164, 1, none⟩ = some (.int .i64 0) := (blk_cell BK164.out 1).trans rfl; have hfz8_0 := blk_frozen BK164.out 0; have hfz8_1 := blk_frozen BK164.out 1))
  (try simp only [Act.put, List.setIfInBounds_toArray, List.set_cons_zero, List.set_cons_succ])
  go_cut [31] (fun v31 wc => ∃ (kq : Nat) (x31_4 : Bool), v31 = .bool x31_4 ∧ Aside0 (casematelaw15_PlaceBack.j0 kq a2 x31_4 t162 t163 = some r) ∧ Aside0 (kq ≤ k) ∧ Aside0 (wc.heap[gb164]? = some (.cells #[.int .i64 t162, .int .i64 t163] 23 (0, 0))) ∧ Aside0 (Below w.heap.size w wc))
  case first =>
    have H := HC5.out
    clear HC5
    replace H := Option.bind_eq_some_iff.mp H
    obtain ⟨t165, A90, H⟩ := H
    replace H : (if t165 < 1 then (casematelaw15_PlaceBack.j0 k a2 true t162 t163) else ((geom_Logical.f t162 t163).bind fun t166 => (casematelaw15_PlaceBack.j0 k a2 (decide (t166 < 1)) t162 t163))) = some r := H
    have A9 := Aside0.mk A90
    clear A90
    by_cases c10 : t165 < 1
    · rw [if_pos c10] at H
      have c10b0 : decide (t165 < 1) = true := decide_eq_true c10
      clear c10
      (first | rw [c10b0] | (simp only [i64_w, i32_w]; rw [c10b0]) | skip)
      have H' := Aside0.mk H
      clear H
      have hcz11_0 : w7.cell? ⟨gb164, 0, none⟩ = some (.int .i64 0) := (blk_cell BK164.out 0).trans rfl
      have hcz11_1 : w7.cell? ⟨gb164, 1, none⟩ = some (.int .i64 0) := (blk_cell BK164.out 1).trans rfl
      have hfz11_0 := blk_frozen BK164.out 0
      have hfz11_1 := blk_frozen BK164.out 1
      go_wp2_with (first | ((with_reducible refine gate_callee (f := 28) rfl ?_); refine goesL_ (some 25) rfl rfl Try.func28 (by kernel_rfl) rfl #[.agg #[.int .i64 t162, .int .i64 t163]] rfl (by (try simp only [List.map_toArray, List.map_cons, List.map_nil]); first | done | rfl | (simp only [List.length_drop, List.length_take]; rfl)) ?_; (with_reducible refine (geom_Leaves.calls t162 t163 t165 _ A9.out).mono ?_); rintro e w12 ⟨rfl, hb⟩; refine ⟨_, rfl, ?_⟩; have n0_ := Aside0.mk (blk_below (g := gb164) (o := .cells #[.int .i64 t162, .int .i64 t163] 23 (0, 0)) (by (with_reducible repeat (first | refine blk_drewN ?_ _ | refine blk_drew ?_ | refine blk_alloc ?_ _)); refine blk_put (cs := #[.int .i64 t162, .int .i64 0]) ?_ 1 _ rfl; (with_reducible repeat (first | refine blk_drewN ?_ _ | refine blk_drew ?_ | refine blk_alloc ?_ _)); refine blk_put (cs := #[.int .i64 0, .int .i64 0]) ?_ 0 _ rfl; (with_reducible repeat (first | refine blk_drewN ?_ _ | refine blk_drew ?_ | refine blk_alloc ?_ _)); exact BK164.out) hb); have n1_ := Aside0.mk (below_step (by repeat (first | (with_reducible first | exact HB.out | apply below_alloc | apply pw_below_drewN | apply below_drew1 | refine below_set ?_ GE164.out) | exact HB.out)) hb); clear BK164; clear HB; have BK164 := n0_; have HB := n1_; clear n0_ n1_; (try clear hb); (try clear hb2); (try clear hk); (try clear hi)))
      go_meet
      case rel => exact ⟨_, (true), (by first | rfl | (simp; done) | (simp [*]; done)), H', ⟨by first | omega | exact Nat.le_refl _⟩, ⟨by (with_reducible repeat (first | refine blk_drewN ?_ _ | refine blk_drew ?_ | refine blk_alloc ?_ _)); exact BK164.out⟩, ⟨by repeat (first | (with_reducible first | exact HB.out | apply below_alloc | apply pw_below_drewN | apply below_drew1 | refine below_set ?_ GE164.out) | exact HB.out)⟩⟩
    · rw [if_neg c10] at H
      have c10b0 : decide (t165 < 1) = false := decide_eq_false c10
      clear c10
      (first | rw [c10b0] | (simp only [i64_w, i32_w]; rw [c10b0]) | skip)
      replace H := Option.bind_eq_some_iff.mp H
      obtain ⟨t166, A130, H⟩ := H
      replace H : (casematelaw15_PlaceBack.j0 k a2 (decide (t166 < 1)) t162 t163) = some r := H
      have A13 := Aside0.mk A130
      clear A130
      have H' := Aside0.mk H
      clear H
      have hcz14_0 : w7.cell? ⟨gb164, 0, none⟩ = some (.int .i64 0) := (blk_cell BK164.out 0).trans rfl
      have hcz14_1 : w7.cell? ⟨gb164, 1, none⟩ = some (.int .i64 0) := (blk_cell BK164.out 1).trans rfl
      have hfz14_0 := blk_frozen BK164.out 0
      have hfz14_1 := blk_frozen BK164.out 1
      go_wp2_with (first | ((with_reducible refine gate_callee (f := 28) rfl ?_); refine goesL_ (some 25) rfl rfl Try.func28 (by kernel_rfl) rfl #[.agg #[.int .i64 t162, .int .i64 t163]] rfl (by (try simp only [List.map_toArray, List.map_cons, List.map_nil]); first | done | rfl | (simp only [List.length_drop, List.length_take]; rfl)) ?_; (with_reducible refine (geom_Leaves.calls t162 t163 t165 _ A9.out).mono ?_); rintro e w15 ⟨rfl, hb⟩; refine ⟨_, rfl, ?_⟩; have n0_ := Aside0.mk (blk_below (g := gb164) (o := .cells #[.int .i64 t162, .int .i64 t163] 23 (0, 0)) (by (with_reducible repeat (first | refine blk_drewN ?_ _ | refine blk_drew ?_ | refine blk_alloc ?_ _)); refine blk_put (cs := #[.int .i64 t162, .int .i64 0]) ?_ 1 _ rfl; (with_reducible repeat (first | refine blk_drewN ?_ _ | refine blk_drew ?_ | refine blk_alloc ?_ _)); refine blk_put (cs := #[.int .i64 0, .int .i64 0]) ?_ 0 _ rfl; (with_reducible repeat (first | refine blk_drewN ?_ _ | refine blk_drew ?_ | refine blk_alloc ?_ _)); exact BK164.out) hb); have n1_ := Aside0.mk (below_step (by repeat (first | (with_reducible first | exact HB.out | apply below_alloc | apply pw_below_drewN | apply below_drew1 | refine below_set ?_ GE164.out) | exact HB.out)) hb); clear BK164; clear HB; have BK164 := n0_; have HB := n1_; clear n0_ n1_; (try clear hb); (try clear hb2); (try clear hk); (try clear hi); have hcz16_0 : w15.cell? ⟨gb164, 0, none⟩ = some (.int .i64 t162) := (blk_cell BK164.out 0).trans rfl; have hcz16_1 : w15.cell? ⟨gb164, 1, none⟩ = some (.int .i64 t163) := (blk_cell BK164.out 1).trans rfl; have hfz16_0 := blk_frozen BK164.out 0; have hfz16_1 := blk_frozen BK164.out 1) | (go_at_call 20; (with_reducible refine (geom_Logical.calls t162 t163 t166 _ A13.out).mono ?_); rintro e w17 ⟨rfl, hb⟩; have n0_ := Aside0.mk (blk_below (g := gb164) (o := .cells #[.int .i64 t162, .int .i64 t163] 23 (0, 0)) (by (with_reducible repeat (first | refine blk_drewN ?_ _ | refine blk_drew ?_ | refine blk_alloc ?_ _)); exact BK164.out) hb); have n1_ := Aside0.mk (below_step (by repeat (first | (with_reducible first | exact HB.out | apply below_alloc | apply pw_below_drewN | apply below_drew1 | refine below_set ?_ GE164.out) | exact HB.out)) hb); clear BK164; clear HB; have BK164 := n0_; have HB := n1_; clear n0_ n1_; (try clear hb); (try clear hb2); (try clear hk); (try clear hi)))
      go_meet
      case rel => exact ⟨_, (decide (t166 < 1)), (by first | rfl | (simp; done) | (simp [*]; done)), H', ⟨by first | omega | exact Nat.le_refl _⟩, ⟨by (with_reducible repeat (first | refine blk_drewN ?_ _ | refine blk_drew ?_ | refine blk_alloc ?_ _)); exact BK164.out⟩, ⟨by repeat (first | (with_reducible first | exact HB.out | apply below_alloc | apply pw_below_drewN | apply below_drew1 | refine below_set ?_ GE164.out) | exact HB.out)⟩⟩
  case rest =>
    clear HC5
    try clear c1
    try clear c2
    try clear p2
    try clear c9
    try clear c10
    try clear c10b0
    try clear c15
    try clear hcz11_0
    try clear hcz11_1
    try clear hcz14_0
    try clear hcz14_1
    try clear hcz16_0
    try clear hcz16_1
    try clear hcz8_0
    try clear hcz8_1
    try clear hfz11_0
    try clear hfz11_1
    try clear hfz14_0
    try clear hfz14_1
    try clear hfz16_0
    try clear hfz16_1
    try clear hfz8_0
    try clear hfz8_1
    obtain ⟨kq, x31_4, rfl, HA, HJ4, BK164, HB⟩ := hcut
    cases kq with
    | zero => exact absurd HA.out (by simp [casematelaw15_PlaceBack.j0])
    | succ kj4 =>
      have H := HA.out
      clear HA
      simp only [casematelaw15_PlaceBack.j0] at H
      by_cases c18 : x31_4 = true
      · subst c18
        have H1 : (some false) = some r := by rw [if_pos rfl] at H; exact H
        clear H
        have H := H1
        clear H1
        obtain rfl := Option.some.inj H
        go_wp2
        go_ret
        exact ⟨by first | rfl | (simp [errW_none, errW_some] <;> rfl) | (simp [*, errW_none, errW_some] <;> rfl), by repeat (first | (with_reducible first | exact HB.out | apply below_alloc | apply pw_below_drewN | apply below_drew1 | refine below_set ?_ GE164.out) | exact HB.out)⟩
      · replace c18 := Bool.eq_false_iff.mpr c18
        subst c18
        have H1 : ((geom_Leaves.f t162 t163).bind fun t167 => (if t167 = 0 then (none) else ((geom_Logical.f t162 t163).bind fun t168 => (if t168 = 0 then (none) else ((place_At.f kj4 t162 t163 (Int.tmod (wrap64 (a2)) t167)).bind fun bt169 => ((place_Leaf.f kj4 t162 t163 bt169.1 bt169.2.1).bind fun bt172 => ((place_Column.f kj4 t162 t163 bt169.1 bt169.2.1).bind fun bt174 => ((place_Member.f kj4 t162 t163 bt169.1 bt174.1).bind fun bt176 => (if bt169.2.2 = 0 then (if bt172.2 = 0 then (if bt174.2 = 0 then (if bt176.2 = 0 then (if bt172.1 = (Int.tmod (wrap64 (a2)) t167) then (casematelaw15_PlaceBack.j1 kj4 (Int.tmod (wrap64 (a2)) t168) (bt176.1 != bt169.2.1) t162 t163) else (casematelaw15_PlaceBack.j1 kj4 (Int.tmod (wrap64 (a2)) t168) true t162 t163)) else (casematelaw15_PlaceBack.j1 kj4 (Int.tmod (wrap64 (a2)) t168) true t162 t163)) else (casematelaw15_PlaceBack.j1 kj4 (Int.tmod (wrap64 (a2)) t168) true t162 t163)) else (casematelaw15_PlaceBack.j1 kj4 (Int.tmod (wrap64 (a2)) t168) true t162 t163)) else (casematelaw15_PlaceBack.j1 kj4 (Int.tmod (wrap64 (a2)) t168) true t162 t163)))))))))) = some r := by rw [if_neg (show ¬ (false = true) by decide)] at H; exact H
        clear H
        have H := H1
        clear H1
        replace H := Option.bind_eq_some_iff.mp H
        obtain ⟨t167, A190, H⟩ := H
        replace H : (if t167 = 0 then (none) else ((geom_Logical.f t162 t163).bind fun t168 => (if t168 = 0 then (none) else ((place_At.f kj4 t162 t163 (Int.tmod (wrap64 (a2)) t167)).bind fun bt169 => ((place_Leaf.f kj4 t162 t163 bt169.1 bt169.2.1).bind fun bt172 => ((place_Column.f kj4 t162 t163 bt169.1 bt169.2.1).bind fun bt174 => ((place_Member.f kj4 t162 t163 bt169.1 bt174.1).bind fun bt176 => (if bt169.2.2 = 0 then (if bt172.2 = 0 then (if bt174.2 = 0 then (if bt176.2 = 0 then (if bt172.1 = (Int.tmod (wrap64 (a2)) t167) then (casematelaw15_PlaceBack.j1 kj4 (Int.tmod (wrap64 (a2)) t168) (bt176.1 != bt169.2.1) t162 t163) else (casematelaw15_PlaceBack.j1 kj4 (Int.tmod (wrap64 (a2)) t168) true t162 t163)) else (casematelaw15_PlaceBack.j1 kj4 (Int.tmod (wrap64 (a2)) t168) true t162 t163)) else (casematelaw15_PlaceBack.j1 kj4 (Int.tmod (wrap64 (a2)) t168) true t162 t163)) else (casematelaw15_PlaceBack.j1 kj4 (Int.tmod (wrap64 (a2)) t168) true t162 t163)) else (casematelaw15_PlaceBack.j1 kj4 (Int.tmod (wrap64 (a2)) t168) true t162 t163))))))))) = some r := H
        have A19 := Aside0.mk A190
        clear A190
        by_cases c20 : t167 = 0
        · rw [if_pos c20] at H
          exact absurd H (by simp)
        · rw [if_neg c20] at H
          have c20b0 : (t167 == 0) = false := beq_eq_false_iff_ne.mpr c20
          have c20b1 : (t167 != 0) = true := bne_iff_ne.mpr c20
          replace H := Option.bind_eq_some_iff.mp H
          obtain ⟨t168, A210, H⟩ := H
          replace H : (if t168 = 0 then (none) else ((place_At.f kj4 t162 t163 (Int.tmod (wrap64 (a2)) t167)).bind fun bt169 => ((place_Leaf.f kj4 t162 t163 bt169.1 bt169.2.1).bind fun bt172 => ((place_Column.f kj4 t162 t163 bt169.1 bt169.2.1).bind fun bt174 => ((place_Member.f kj4 t162 t163 bt169.1 bt174.1).bind fun bt176 => (if bt169.2.2 = 0 then (if bt172.2 = 0 then (if bt174.2 = 0 then (if bt176.2 = 0 then (if bt172.1 = (Int.tmod (wrap64 (a2)) t167) then (casematelaw15_PlaceBack.j1 kj4 (Int.tmod (wrap64 (a2)) t168) (bt176.1 != bt169.2.1) t162 t163) else (casematelaw15_PlaceBack.j1 kj4 (Int.tmod (wrap64 (a2)) t168) true t162 t163)) else (casematelaw15_PlaceBack.j1 kj4 (Int.tmod (wrap64 (a2)) t168) true t162 t163)) else (casematelaw15_PlaceBack.j1 kj4 (Int.tmod (wrap64 (a2)) t168) true t162 t163)) else (casematelaw15_PlaceBack.j1 kj4 (Int.tmod (wrap64 (a2)) t168) true t162 t163)) else (casematelaw15_PlaceBack.j1 kj4 (Int.tmod (wrap64 (a2)) t168) true t162 t163))))))) = some r := H
          have A21 := Aside0.mk A210
          clear A210
          by_cases c22 : t168 = 0
          · rw [if_pos c22] at H
            exact absurd H (by simp)
          · rw [if_neg c22] at H
            have c22b0 : (t168 == 0) = false := beq_eq_false_iff_ne.mpr c22
            have c22b1 : (t168 != 0) = true := bne_iff_ne.mpr c22
            replace H := Option.bind_eq_some_iff.mp H
            obtain ⟨⟨t169, t170, t171⟩, A230, H⟩ := H
            replace H : ((place_Leaf.f kj4 t162 t163 t169 t170).bind fun bt172 => ((place_Column.f kj4 t162 t163 t169 t170).bind fun bt174 => ((place_Member.f kj4 t162 t163 t169 bt174.1).bind fun bt176 => (if t171 = 0 then (if bt172.2 = 0 then (if bt174.2 = 0 then (if bt176.2 = 0 then (if bt172.1 = (Int.tmod (wrap64 (a2)) t167) then (casematelaw15_PlaceBack.j1 kj4 (Int.tmod (wrap64 (a2)) t168) (bt176.1 != t170) t162 t163) else (casematelaw15_PlaceBack.j1 kj4 (Int.tmod (wrap64 (a2)) t168) true t162 t163)) else (casematelaw15_PlaceBack.j1 kj4 (Int.tmod (wrap64 (a2)) t168) true t162 t163)) else (casematelaw15_PlaceBack.j1 kj4 (Int.tmod (wrap64 (a2)) t168) true t162 t163)) else (casematelaw15_PlaceBack.j1 kj4 (Int.tmod (wrap64 (a2)) t168) true t162 t163)) else (casematelaw15_PlaceBack.j1 kj4 (Int.tmod (wrap64 (a2)) t168) true t162 t163))))) = some r := H
            have A23 := Aside0.mk A230
            clear A230
            replace H := Option.bind_eq_some_iff.mp H
            obtain ⟨⟨t172, t173⟩, A240, H⟩ := H
            replace H : ((place_Column.f kj4 t162 t163 t169 t170).bind fun bt174 => ((place_Member.f kj4 t162 t163 t169 bt174.1).bind fun bt176 => (if t171 = 0 then (if t173 = 0 then (if bt174.2 = 0 then (if bt176.2 = 0 then (if t172 = (Int.tmod (wrap64 (a2)) t167) then (casematelaw15_PlaceBack.j1 kj4 (Int.tmod (wrap64 (a2)) t168) (bt176.1 != t170) t162 t163) else (casematelaw15_PlaceBack.j1 kj4 (Int.tmod (wrap64 (a2)) t168) true t162 t163)) else (casematelaw15_PlaceBack.j1 kj4 (Int.tmod (wrap64 (a2)) t168) true t162 t163)) else (casematelaw15_PlaceBack.j1 kj4 (Int.tmod (wrap64 (a2)) t168) true t162 t163)) else (casematelaw15_PlaceBack.j1 kj4 (Int.tmod (wrap64 (a2)) t168) true t162 t163)) else (casematelaw15_PlaceBack.j1 kj4 (Int.tmod (wrap64 (a2)) t168) true t162 t163)))) = some r := H
            have A24 := Aside0.mk A240
            clear A240
            replace H := Option.bind_eq_some_iff.mp H
            obtain ⟨⟨t174, t175⟩, A250, H⟩ := H
            replace H : ((place_Member.f kj4 t162 t163 t169 t174).bind fun bt176 => (if t171 = 0 then (if t173 = 0 then (if t175 = 0 then (if bt176.2 = 0 then (if t172 = (Int.tmod (wrap64 (a2)) t167) then (casematelaw15_PlaceBack.j1 kj4 (Int.tmod (wrap64 (a2)) t168) (bt176.1 != t170) t162 t163) else (casematelaw15_PlaceBack.j1 kj4 (Int.tmod (wrap64 (a2)) t168) true t162 t163)) else (casematelaw15_PlaceBack.j1 kj4 (Int.tmod (wrap64 (a2)) t168) true t162 t163)) else (casematelaw15_PlaceBack.j1 kj4 (Int.tmod (wrap64 (a2)) t168) true t162 t163)) else (casematelaw15_PlaceBack.j1 kj4 (Int.tmod (wrap64 (a2)) t168) true t162 t163)) else (casematelaw15_PlaceBack.j1 kj4 (Int.tmod (wrap64 (a2)) t168) true t162 t163))) = some r := H
            have A25 := Aside0.mk A250
            clear A250
            replace H := Option.bind_eq_some_iff.mp H
            obtain ⟨⟨t176, t177⟩, A260, H⟩ := H
            replace H : (if t171 = 0 then (if t173 = 0 then (if t175 = 0 then (if t177 = 0 then (if t172 = (Int.tmod (wrap64 (a2)) t167) then (casematelaw15_PlaceBack.j1 kj4 (Int.tmod (wrap64 (a2)) t168) (t176 != t170) t162 t163) else (casematelaw15_PlaceBack.j1 kj4 (Int.tmod (wrap64 (a2)) t168) true t162 t163)) else (casematelaw15_PlaceBack.j1 kj4 (Int.tmod (wrap64 (a2)) t168) true t162 t163)) else (casematelaw15_PlaceBack.j1 kj4 (Int.tmod (wrap64 (a2)) t168) true t162 t163)) else (casematelaw15_PlaceBack.j1 kj4 (Int.tmod (wrap64 (a2)) t168) true t162 t163)) else (casematelaw15_PlaceBack.j1 kj4 (Int.tmod (wrap64 (a2)) t168) true t162 t163)) = some r := H
            have A26 := Aside0.mk A260
            clear A260
            have HC27 := Aside0.mk H
            clear H
            have hcz28_0 : wc.cell? ⟨gb164, 0, none⟩ = some (.int .i64 t162) := (blk_cell BK164.out 0).trans rfl
            have hcz28_1 : wc.cell? ⟨gb164, 1, none⟩ = some (.int .i64 t163) := (blk_cell BK164.out 1).trans rfl
            have hfz28_0 := blk_frozen BK164.out 0
            have hfz28_1 := blk_frozen BK164.out 1
            go_upto_region 10 with (first | ((with_reducible refine gate_callee (f := 28) rfl ?_); refine goesL_ (some 35) rfl rfl Try.func28 (by kernel_rfl) rfl #[.agg #[.int .i64 t162, .int .i64 t163]] rfl (by (try simp only [List.map_toArray, List.map_cons, List.map_nil]); first | done | rfl | (simp only [List.length_drop, List.length_take]; rfl)) ?_; (with_reducible refine (geom_Leaves.calls t162 t163 t167 _ A19.out).mono ?_); rintro e w29 ⟨rfl, hb⟩; refine ⟨_, rfl, ?_⟩; have n0_ := Aside0.mk (blk_below (g := gb164) (o := .cells #[.int .i64 t162, .int .i64 t163] 23 (0, 0)) (by (with_reducible repeat (first | refine blk_drewN ?_ _ | refine blk_drew ?_ | refine blk_alloc ?_ _)); exact BK164.out) hb); have n1_ := Aside0.mk (below_step (by repeat (first | (with_reducible first | exact HB.out | apply below_alloc | apply pw_below_drewN | apply below_drew1 | refine below_set ?_ GE164.out) | exact HB.out)) hb); clear BK164; clear HB; have BK164 := n0_; have HB := n1_; clear n0_ n1_; (try clear hb); (try clear hb2); (try clear hk); (try clear hi); have hcz30_0 : w29.cell? ⟨gb164, 0, none⟩ = some (.int .i64 t162) := (blk_cell BK164.out 0).trans rfl; have hcz30_1 : w29.cell? ⟨gb164, 1, none⟩ = some (.int .i64 t163) := (blk_cell BK164.out 1).trans rfl; have hfz30_0 := blk_frozen BK164.out 0; have hfz30_1 := blk_frozen BK164.out 1) | ((with_reducible refine gate_callee (f := 20) rfl ?_); refine goesL_ (some 40) rfl rfl Try.func20 (by kernel_rfl) rfl #[.agg #[.int .i64 t162, .int .i64 t163]] rfl (by (try simp only [List.map_toArray, List.map_cons, List.map_nil]); first | done | rfl | (simp only [List.length_drop, List.length_take]; rfl)) ?_; (with_reducible refine (geom_Logical.calls t162 t163 t168 _ A21.out).mono ?_); rintro e w31 ⟨rfl, hb⟩; refine ⟨_, rfl, ?_⟩; have n0_ := Aside0.mk (blk_below (g := gb164) (o := .cells #[.int .i64 t162, .int .i64 t163] 23 (0, 0)) (by (with_reducible repeat (first | refine blk_drewN ?_ _ | refine blk_drew ?_ | refine blk_alloc ?_ _)); exact BK164.out) hb); have n1_ := Aside0.mk (below_step (by repeat (first | (with_reducible first | exact HB.out | apply below_alloc | apply pw_below_drewN | apply below_drew1 | refine below_set ?_ GE164.out) | exact HB.out)) hb); clear BK164; clear HB; have BK164 := n0_; have HB := n1_; clear n0_ n1_; (try clear hb); (try clear hb2); (try clear hk); (try clear hi); have hcz32_0 : w31.cell? ⟨gb164, 0, none⟩ = some (.int .i64 t162) := (blk_cell BK164.out 0).trans rfl; have hcz32_1 : w31.cell? ⟨gb164, 1, none⟩ = some (.int .i64 t163) := (blk_cell BK164.out 1).trans rfl; have hfz32_0 := blk_frozen BK164.out 0; have hfz32_1 := blk_frozen BK164.out 1) | ((with_reducible refine gate_callee (f := 23) rfl ?_); refine goesL_ (some 45) rfl rfl Try.func23 (by kernel_rfl) rfl #[.agg #[.int .i64 t162, .int .i64 t163], .int .i64 (Int.tmod (wrap64 (a2)) t167)] rfl (by (try simp only [List.map_toArray, List.map_cons, List.map_nil]); first | done | rfl | (simp only [List.length_drop, List.length_take]; rfl)) ?_; (with_reducible refine (place_At.calls kj4 t162 t163 (Int.tmod (wrap64 (a2)) t167) t169 t170 t171 _ A23.out).mono ?_); rintro e w33 ⟨rfl, hb⟩; refine ⟨_, rfl, ?_⟩; have n0_ := Aside0.mk (blk_below (g := gb164) (o := .cells #[.int .i64 t162, .int .i64 t163] 23 (0, 0)) (by (with_reducible repeat (first | refine blk_drewN ?_ _ | refine blk_drew ?_ | refine blk_alloc ?_ _)); exact BK164.out) hb); have n1_ := Aside0.mk (below_step (by repeat (first | (with_reducible first | exact HB.out | apply below_alloc | apply pw_below_drewN | apply below_drew1 | refine below_set ?_ GE164.out) | exact HB.out)) hb); clear BK164; clear HB; have BK164 := n0_; have HB := n1_; clear n0_ n1_; (try clear hb); (try clear hb2); (try clear hk); (try clear hi); have hcz34_0 : w33.cell? ⟨gb164, 0, none⟩ = some (.int .i64 t162) := (blk_cell BK164.out 0).trans rfl; have hcz34_1 : w33.cell? ⟨gb164, 1, none⟩ = some (.int .i64 t163) := (blk_cell BK164.out 1).trans rfl; have hfz34_0 := blk_frozen BK164.out 0; have hfz34_1 := blk_frozen BK164.out 1) | ((with_reducible refine gate_callee (f := 18) rfl ?_); refine goesL_ (some 53) rfl rfl Try.func18 (by kernel_rfl) rfl #[.agg #[.int .i64 t162, .int .i64 t163], .int .i64 t169, .int .i64 t170] rfl (by (try simp only [List.map_toArray, List.map_cons, List.map_nil]); first | done | rfl | (simp only [List.length_drop, List.length_take]; rfl)) ?_; (with_reducible refine (place_Leaf.calls kj4 t162 t163 t169 t170 t172 t173 _ A24.out).mono ?_); rintro e w35 ⟨rfl, hb⟩; refine ⟨_, rfl, ?_⟩; have n0_ := Aside0.mk (blk_below (g := gb164) (o := .cells #[.int .i64 t162, .int .i64 t163] 23 (0, 0)) (by (with_reducible repeat (first | refine blk_drewN ?_ _ | refine blk_drew ?_ | refine blk_alloc ?_ _)); exact BK164.out) hb); have n1_ := Aside0.mk (below_step (by repeat (first | (with_reducible first | exact HB.out | apply below_alloc | apply pw_below_drewN | apply below_drew1 | refine below_set ?_ GE164.out) | exact HB.out)) hb); clear BK164; clear HB; have BK164 := n0_; have HB := n1_; clear n0_ n1_; (try clear hb); (try clear hb2); (try clear hk); (try clear hi); have hcz36_0 : w35.cell? ⟨gb164, 0, none⟩ = some (.int .i64 t162) := (blk_cell BK164.out 0).trans rfl; have hcz36_1 : w35.cell? ⟨gb164, 1, none⟩ = some (.int .i64 t163) := (blk_cell BK164.out 1).trans rfl; have hfz36_0 := blk_frozen BK164.out 0; have hfz36_1 := blk_frozen BK164.out 1) | ((with_reducible refine gate_callee (f := 10) rfl ?_); refine goesL_ (some 60) rfl rfl Try.func10 (by kernel_rfl) rfl #[.agg #[.int .i64 t162, .int .i64 t163], .int .i64 t169, .int .i64 t170] rfl (by (try simp only [List.map_toArray, List.map_cons, List.map_nil]); first | done | rfl | (simp only [List.length_drop, List.length_take]; rfl)) ?_; (with_reducible refine (place_Column.calls kj4 t162 t163 t169 t170 t174 t175 _ A25.out).mono ?_); rintro e w37 ⟨rfl, hb⟩; refine ⟨_, rfl, ?_⟩; have n0_ := Aside0.mk (blk_below (g := gb164) (o := .cells #[.int .i64 t162, .int .i64 t163] 23 (0, 0)) (by (with_reducible repeat (first | refine blk_drewN ?_ _ | refine blk_drew ?_ | refine blk_alloc ?_ _)); exact BK164.out) hb); have n1_ := Aside0.mk (below_step (by repeat (first | (with_reducible first | exact HB.out | apply below_alloc | apply pw_below_drewN | apply below_drew1 | refine below_set ?_ GE164.out) | exact HB.out)) hb); clear BK164; clear HB; have BK164 := n0_; have HB := n1_; clear n0_ n1_; (try clear hb); (try clear hb2); (try clear hk); (try clear hi); have hcz38_0 : w37.cell? ⟨gb164, 0, none⟩ = some (.int .i64 t162) := (blk_cell BK164.out 0).trans rfl; have hcz38_1 : w37.cell? ⟨gb164, 1, none⟩ = some (.int .i64 t163) := (blk_cell BK164.out 1).trans rfl; have hfz38_0 := blk_frozen BK164.out 0; have hfz38_1 := blk_frozen BK164.out 1) | ((with_reducible refine gate_callee (f := 12) rfl ?_); refine goesL_ (some 67) rfl rfl Try.func12 (by kernel_rfl) rfl #[.agg #[.int .i64 t162, .int .i64 t163], .int .i64 t169, .int .i64 t174] rfl (by (try simp only [List.map_toArray, List.map_cons, List.map_nil]); first | done | rfl | (simp only [List.length_drop, List.length_take]; rfl)) ?_; (with_reducible refine (place_Member.calls kj4 t162 t163 t169 t174 t176 t177 _ A26.out).mono ?_); rintro e w39 ⟨rfl, hb⟩; refine ⟨_, rfl, ?_⟩; have n0_ := Aside0.mk (blk_below (g := gb164) (o := .cells #[.int .i64 t162, .int .i64 t163] 23 (0, 0)) (by (with_reducible repeat (first | refine blk_drewN ?_ _ | refine blk_drew ?_ | refine blk_alloc ?_ _)); exact BK164.out) hb); have n1_ := Aside0.mk (below_step (by repeat (first | (with_reducible first | exact HB.out | apply below_alloc | apply pw_below_drewN | apply below_drew1 | refine below_set ?_ GE164.out) | exact HB.out)) hb); clear BK164; clear HB; have BK164 := n0_; have HB := n1_; clear n0_ n1_; (try clear hb); (try clear hb2); (try clear hk); (try clear hi)))
            (try simp only [Act.put, List.setIfInBounds_toArray, List.set_cons_zero, List.set_cons_succ])
            go_cut [93] (fun v93 wc => ∃ (kq : Nat) (x93_26 : Bool), v93 = .bool x93_26 ∧ Aside0 (casematelaw15_PlaceBack.j1 kq (Int.tmod (wrap64 (a2)) t168) x93_26 t162 t163 = some r) ∧ Aside0 (kq ≤ kj4) ∧ Aside0 (wc.heap[gb164]? = some (.cells #[.int .i64 t162, .int .i64 t163] 23 (0, 0))) ∧ Aside0 (Below w.heap.size w wc))
            case first =>
              have H := HC27.out
              clear HC27
              by_cases c40 : t171 = 0
              · rw [if_pos c40] at H
                have c40b0 : (t171 == 0) = true := beq_iff_eq.mpr c40
                have c40b1 : (t171 != 0) = false := bne_eq_false_iff_eq.mpr c40
                clear c40
                (first | rw [c40b0] | (simp only [i64_w, i32_w]; rw [c40b0]) | skip)
                by_cases c41 : t173 = 0
                · rw [if_pos c41] at H
                  have c41b0 : (t173 == 0) = true := beq_iff_eq.mpr c41
                  have c41b1 : (t173 != 0) = false := bne_eq_false_iff_eq.mpr c41
                  clear c41
                  by_cases c42 : t175 = 0
                  · rw [if_pos c42] at H
                    have c42b0 : (t175 == 0) = true := beq_iff_eq.mpr c42
                    have c42b1 : (t175 != 0) = false := bne_eq_false_iff_eq.mpr c42
                    clear c42
                    by_cases c43 : t177 = 0
                    · rw [if_pos c43] at H
                      have c43b0 : (t177 == 0) = true := beq_iff_eq.mpr c43
                      have c43b1 : (t177 != 0) = false := bne_eq_false_iff_eq.mpr c43
                      clear c43
                      by_cases c44 : t172 = (Int.tmod (wrap64 (a2)) t167)
                      · rw [if_pos c44] at H
                        have c44b0 : (t172 == (Int.tmod (wrap64 (a2)) t167)) = true := beq_iff_eq.mpr c44
                        have c44b1 : (t172 != (Int.tmod (wrap64 (a2)) t167)) = false := bne_eq_false_iff_eq.mpr c44
                        clear c44
                        have H' := Aside0.mk H
                        clear H
                        go_wp2
                        go_meet
                        case rel => exact ⟨_, ((t176 != t170)), (by first | rfl | (simp; done) | (simp [*]; done)), H', ⟨by have := HJ4.out; first | omega | exact Nat.le_refl _⟩, ⟨by (with_reducible repeat (first | refine blk_drewN ?_ _ | refine blk_drew ?_ | refine blk_alloc ?_ _)); exact BK164.out⟩, ⟨by repeat (first | (with_reducible first | exact HB.out | apply below_alloc | apply pw_below_drewN | apply below_drew1 | refine below_set ?_ GE164.out) | exact HB.out)⟩⟩
                      · rw [if_neg c44] at H
                        have c44b0 : (t172 == (Int.tmod (wrap64 (a2)) t167)) = false := beq_eq_false_iff_ne.mpr c44
                        have c44b1 : (t172 != (Int.tmod (wrap64 (a2)) t167)) = true := bne_iff_ne.mpr c44
                        have H' := Aside0.mk H
                        clear H
                        go_wp2
                        go_meet
                        case rel => exact ⟨_, (true), (by first | rfl | (simp; done) | (simp [*]; done)), H', ⟨by have := HJ4.out; first | omega | exact Nat.le_refl _⟩, ⟨by (with_reducible repeat (first | refine blk_drewN ?_ _ | refine blk_drew ?_ | refine blk_alloc ?_ _)); exact BK164.out⟩, ⟨by repeat (first | (with_reducible first | exact HB.out | apply below_alloc | apply pw_below_drewN | apply below_drew1 | refine below_set ?_ GE164.out) | exact HB.out)⟩⟩
                    · rw [if_neg c43] at H
                      have c43b0 : (t177 == 0) = false := beq_eq_false_iff_ne.mpr c43
                      have c43b1 : (t177 != 0) = true := bne_iff_ne.mpr c43
                      have H' := Aside0.mk H
                      clear H
                      go_wp2
                      go_meet
                      case rel => exact ⟨_, (true), (by first | rfl | (simp; done) | (simp [*]; done)), H', ⟨by have := HJ4.out; first | omega | exact Nat.le_refl _⟩, ⟨by (with_reducible repeat (first | refine blk_drewN ?_ _ | refine blk_drew ?_ | refine blk_alloc ?_ _)); exact BK164.out⟩, ⟨by repeat (first | (with_reducible first | exact HB.out | apply below_alloc | apply pw_below_drewN | apply below_drew1 | refine below_set ?_ GE164.out) | exact HB.out)⟩⟩
                  · rw [if_neg c42] at H
                    have c42b0 : (t175 == 0) = false := beq_eq_false_iff_ne.mpr c42
                    have c42b1 : (t175 != 0) = true := bne_iff_ne.mpr c42
                    have H' := Aside0.mk H
                    clear H
                    go_wp2
                    go_meet
                    case rel => exact ⟨_, (true), (by first | rfl | (simp; done) | (simp [*]; done)), H', ⟨by have := HJ4.out; first | omega | exact Nat.le_refl _⟩, ⟨by (with_reducible repeat (first | refine blk_drewN ?_ _ | refine blk_drew ?_ | refine blk_alloc ?_ _)); exact BK164.out⟩, ⟨by repeat (first | (with_reducible first | exact HB.out | apply below_alloc | apply pw_below_drewN | apply below_drew1 | refine below_set ?_ GE164.out) | exact HB.out)⟩⟩
                · rw [if_neg c41] at H
                  have c41b0 : (t173 == 0) = false := beq_eq_false_iff_ne.mpr c41
                  have c41b1 : (t173 != 0) = true := bne_iff_ne.mpr c41
                  have H' := Aside0.mk H
                  clear H
                  go_wp2
                  go_meet
                  case rel => exact ⟨_, (true), (by first | rfl | (simp; done) | (simp [*]; done)), H', ⟨by have := HJ4.out; first | omega | exact Nat.le_refl _⟩, ⟨by (with_reducible repeat (first | refine blk_drewN ?_ _ | refine blk_drew ?_ | refine blk_alloc ?_ _)); exact BK164.out⟩, ⟨by repeat (first | (with_reducible first | exact HB.out | apply below_alloc | apply pw_below_drewN | apply below_drew1 | refine below_set ?_ GE164.out) | exact HB.out)⟩⟩
              · rw [if_neg c40] at H
                have c40b0 : (t171 == 0) = false := beq_eq_false_iff_ne.mpr c40
                have c40b1 : (t171 != 0) = true := bne_iff_ne.mpr c40
                (first | rw [c40b0] | (simp only [i64_w, i32_w]; rw [c40b0]) | skip)
                have H' := Aside0.mk H
                clear H
                go_wp2
                go_meet
                case rel => exact ⟨_, (true), (by first | rfl | (simp; done) | (simp [*]; done)), H', ⟨by have := HJ4.out; first | omega | exact Nat.le_refl _⟩, ⟨by (with_reducible repeat (first | refine blk_drewN ?_ _ | refine blk_drew ?_ | refine blk_alloc ?_ _)); exact BK164.out⟩, ⟨by repeat (first | (with_reducible first | exact HB.out | apply below_alloc | apply pw_below_drewN | apply below_drew1 | refine below_set ?_ GE164.out) | exact HB.out)⟩⟩
            case rest =>
              clear HC27
              try clear c1
              try clear c2
              try clear p2
              try clear c4
              try clear p6
              try clear c9
              try clear c10
              try clear c10b0
              try clear c12
              try clear c15
              try clear c18
              try clear c20
              try clear c20b0
              try clear c20b1
              try clear c22
              try clear c22b0
              try clear c22b1
              try clear c23
              try clear c28
              try clear c40
              try clear c40b0
              try clear c40b1
              try clear c41
              try clear c41b0
              try clear c41b1
              try clear c42
              try clear c42b0
              try clear c42b1
              try clear c43
              try clear c43b0
              try clear c43b1
              try clear c44
              try clear c44b0
              try clear c44b1
              try clear hcz11_0
              try clear hcz11_1
              try clear hcz14_0
              try clear hcz14_1
              try clear hcz16_0
              try clear hcz16_1
              try clear hcz28_0
              try clear hcz28_1
              try clear hcz30_0
              try clear hcz30_1
              try clear hcz32_0
              try clear hcz32_1
              try clear hcz34_0
              try clear hcz34_1
              try clear hcz36_0
              try clear hcz36_1
              try clear hcz38_0
              try clear hcz38_1
              try clear hcz8_0
              try clear hcz8_1
              try clear hfz11_0
              try clear hfz11_1
              try clear hfz14_0
              try clear hfz14_1
              try clear hfz16_0
              try clear hfz16_1
              try clear hfz28_0
              try clear hfz28_1
              try clear hfz30_0
              try clear hfz30_1
              try clear hfz32_0
              try clear hfz32_1
              try clear hfz34_0
              try clear hfz34_1
              try clear hfz36_0
              try clear hfz36_1
              try clear hfz38_0
              try clear hfz38_1
              try clear hfz8_0
              try clear hfz8_1
              try clear p2
              obtain ⟨kq, x93_26, rfl, HA, HJ26, BK164, HB⟩ := hcut
              cases kq with
              | zero => exact absurd HA.out (by simp [casematelaw15_PlaceBack.j1])
              | succ kj26 =>
                have H := HA.out
                clear HA
                simp only [casematelaw15_PlaceBack.j1] at H
                by_cases c45 : x93_26 = true
                · subst c45
                  have H1 : (some false) = some r := by rw [if_pos rfl] at H; exact H
                  clear H
                  have H := H1
                  clear H1
                  obtain rfl := Option.some.inj H
                  go_wp2
                  go_ret
                  exact ⟨by first | rfl | (simp [errW_none, errW_some] <;> rfl) | (simp [*, errW_none, errW_some] <;> rfl), by repeat (first | (with_reducible first | exact HB.out | apply below_alloc | apply pw_below_drewN | apply below_drew1 | refine below_set ?_ GE164.out) | exact HB.out)⟩
                · replace c45 := Bool.eq_false_iff.mpr c45
                  subst c45
                  have H1 : ((place_Of.f kj26 t162 t163 (Int.tmod (wrap64 (a2)) t168)).bind fun bt178 => ((place_Number.f kj26 t162 t163 bt178.1 bt178.2.1).bind fun bt181 => ((place_Member.f kj26 t162 t163 bt178.1 bt178.2.1).bind fun bt183 => ((place_Column.f kj26 t162 t163 bt178.1 bt183.1).bind fun bt185 => (if bt178.2.2 = 0 then (if bt181.2 = 0 then (if bt183.2 = 0 then (if bt185.2 = 0 then (if bt181.1 = (Int.tmod (wrap64 (a2)) t168) then (if bt185.1 = bt178.2.1 then (if bt178.2.1 < (wrap64 (t162 - 2)) then ((casematelaw15_awake.f kj26).bind fun t187 => (some t187)) else (some false)) else (some false)) else (some false)) else (some false)) else (some false)) else (some false)) else (some false)))))) = some r := by rw [if_neg (show ¬ (false = true) by decide)] at H; exact H
                  clear H
                  have H := H1
                  clear H1
                  replace H := Option.bind_eq_some_iff.mp H
                  obtain ⟨⟨t178, t179, t180⟩, A460, H⟩ := H
                  replace H : ((place_Number.f kj26 t162 t163 t178 t179).bind fun bt181 => ((place_Member.f kj26 t162 t163 t178 t179).bind fun bt183 => ((place_Column.f kj26 t162 t163 t178 bt183.1).bind fun bt185 => (if t180 = 0 then (if bt181.2 = 0 then (if bt183.2 = 0 then (if bt185.2 = 0 then (if bt181.1 = (Int.tmod (wrap64 (a2)) t168) then (if bt185.1 = t179 then (if t179 < (wrap64 (t162 - 2)) then ((casematelaw15_awake.f kj26).bind fun t187 => (some t187)) else (some false)) else (some false)) else (some false)) else (some false)) else (some false)) else (some false)) else (some false))))) = some r := H
                  have A46 := Aside0.mk A460
                  clear A460
                  replace H := Option.bind_eq_some_iff.mp H
                  obtain ⟨⟨t181, t182⟩, A470, H⟩ := H
                  replace H : ((place_Member.f kj26 t162 t163 t178 t179).bind fun bt183 => ((place_Column.f kj26 t162 t163 t178 bt183.1).bind fun bt185 => (if t180 = 0 then (if t182 = 0 then (if bt183.2 = 0 then (if bt185.2 = 0 then (if t181 = (Int.tmod (wrap64 (a2)) t168) then (if bt185.1 = t179 then (if t179 < (wrap64 (t162 - 2)) then ((casematelaw15_awake.f kj26).bind fun t187 => (some t187)) else (some false)) else (some false)) else (some false)) else (some false)) else (some false)) else (some false)) else (some false)))) = some r := H
                  have A47 := Aside0.mk A470
                  clear A470
                  replace H := Option.bind_eq_some_iff.mp H
                  obtain ⟨⟨t183, t184⟩, A480, H⟩ := H
                  replace H : ((place_Column.f kj26 t162 t163 t178 t183).bind fun bt185 => (if t180 = 0 then (if t182 = 0 then (if t184 = 0 then (if bt185.2 = 0 then (if t181 = (Int.tmod (wrap64 (a2)) t168) then (if bt185.1 = t179 then (if t179 < (wrap64 (t162 - 2)) then ((casematelaw15_awake.f kj26).bind fun t187 => (some t187)) else (some false)) else (some false)) else (some false)) else (some false)) else (some false)) else (some false)) else (some false))) = some r := H
                  have A48 := Aside0.mk A480
                  clear A480
                  replace H := Option.bind_eq_some_iff.mp H
                  obtain ⟨⟨t185, t186⟩, A490, H⟩ := H
                  replace H : (if t180 = 0 then (if t182 = 0 then (if t184 = 0 then (if t186 = 0 then (if t181 = (Int.tmod (wrap64 (a2)) t168) then (if t185 = t179 then (if t179 < (wrap64 (t162 - 2)) then ((casematelaw15_awake.f kj26).bind fun t187 => (some t187)) else (some false)) else (some false)) else (some false)) else (some false)) else (some false)) else (some false)) else (some false)) = some r := H
                  have A49 := Aside0.mk A490
                  clear A490
                  by_cases c50 : t180 = 0
                  · rw [if_pos c50] at H
                    have c50b0 : (t180 == 0) = true := beq_iff_eq.mpr c50
                    have c50b1 : (t180 != 0) = false := bne_eq_false_iff_eq.mpr c50
                    clear c50
                    by_cases c51 : t182 = 0
                    · rw [if_pos c51] at H
                      have c51b0 : (t182 == 0) = true := beq_iff_eq.mpr c51
                      have c51b1 : (t182 != 0) = false := bne_eq_false_iff_eq.mpr c51
                      clear c51
                      by_cases c52 : t184 = 0
                      · rw [if_pos c52] at H
                        have c52b0 : (t184 == 0) = true := beq_iff_eq.mpr c52
                        have c52b1 : (t184 != 0) = false := bne_eq_false_iff_eq.mpr c52
                        clear c52
                        by_cases c53 : t186 = 0
                        · rw [if_pos c53] at H
                          have c53b0 : (t186 == 0) = true := beq_iff_eq.mpr c53
                          have c53b1 : (t186 != 0) = false := bne_eq_false_iff_eq.mpr c53
                          clear c53
                          by_cases c54 : t181 = (Int.tmod (wrap64 (a2)) t168)
                          · rw [if_pos c54] at H
                            have c54b0 : (t181 == (Int.tmod (wrap64 (a2)) t168)) = true := beq_iff_eq.mpr c54
                            have c54b1 : (t181 != (Int.tmod (wrap64 (a2)) t168)) = false := bne_eq_false_iff_eq.mpr c54
                            clear c54
                            by_cases c55 : t185 = t179
                            · rw [if_pos c55] at H
                              have c55b0 : (t185 == t179) = true := beq_iff_eq.mpr c55
                              have c55b1 : (t185 != t179) = false := bne_eq_false_iff_eq.mpr c55
                              clear c55
                              by_cases c56 : t179 < (wrap64 (t162 - 2))
                              · rw [if_pos c56] at H
                                have c56b0 : decide (t179 < (wrap64 (t162 - 2))) = true := decide_eq_true c56
                                clear c56
                                replace H := Option.bind_eq_some_iff.mp H
                                obtain ⟨t187, A570, H⟩ := H
                                replace H : (some t187) = some r := H
                                have A57 := Aside0.mk A570
                                clear A570
                                obtain rfl := Option.some.inj H
                                have hcz58_0 : wc.cell? ⟨gb164, 0, none⟩ = some (.int .i64 t162) := (blk_cell BK164.out 0).trans rfl
                                have hcz58_1 : wc.cell? ⟨gb164, 1, none⟩ = some (.int .i64 t163) := (blk_cell BK164.out 1).trans rfl
                                have hfz58_0 := blk_frozen BK164.out 0
                                have hfz58_1 := blk_frozen BK164.out 1
                                go_wp2_with (first | ((with_reducible refine gate_callee (f := 21) rfl ?_); refine goesL_ (some 97) rfl rfl Try.func21 (by kernel_rfl) rfl #[.agg #[.int .i64 t162, .int .i64 t163], .int .i64 (Int.tmod (wrap64 (a2)) t168)] rfl (by (try simp only [List.map_toArray, List.map_cons, List.map_nil]); first | done | rfl | (simp only [List.length_drop, List.length_take]; rfl)) ?_; (with_reducible refine (place_Of.calls kj26 t162 t163 (Int.tmod (wrap64 (a2)) t168) t178 t179 t180 _ A46.out).mono ?_); rintro e w59 ⟨rfl, hb⟩; refine ⟨_, rfl, ?_⟩; have n0_ := Aside0.mk (blk_below (g := gb164) (o := .cells #[.int .i64 t162, .int .i64 t163] 23 (0, 0)) (by (with_reducible repeat (first | refine blk_drewN ?_ _ | refine blk_drew ?_ | refine blk_alloc ?_ _)); exact BK164.out) hb); have n1_ := Aside0.mk (below_step (by repeat (first | (with_reducible first | exact HB.out | apply below_alloc | apply pw_below_drewN | apply below_drew1 | refine below_set ?_ GE164.out) | exact HB.out)) hb); clear BK164; clear HB; have BK164 := n0_; have HB := n1_; clear n0_ n1_; (try clear hb); (try clear hb2); (try clear hk); (try clear hi); have hcz60_0 : w59.cell? ⟨gb164, 0, none⟩ = some (.int .i64 t162) := (blk_cell BK164.out 0).trans rfl; have hcz60_1 : w59.cell? ⟨gb164, 1, none⟩ = some (.int .i64 t163) := (blk_cell BK164.out 1).trans rfl; have hfz60_0 := blk_frozen BK164.out 0; have hfz60_1 := blk_frozen BK164.out 1) | ((with_reducible refine gate_callee (f := 16) rfl ?_); refine goesL_ (some 105) rfl rfl Try.func16 (by kernel_rfl) rfl #[.agg #[.int .i64 t162, .int .i64 t163], .int .i64 t178, .int .i64 t179] rfl (by (try simp only [List.map_toArray, List.map_cons, List.map_nil]); first | done | rfl | (simp only [List.length_drop, List.length_take]; rfl)) ?_; (with_reducible refine (place_Number.calls kj26 t162 t163 t178 t179 t181 t182 _ A47.out).mono ?_); rintro e w61 ⟨rfl, hb⟩; refine ⟨_, rfl, ?_⟩; have n0_ := Aside0.mk (blk_below (g := gb164) (o := .cells #[.int .i64 t162, .int .i64 t163] 23 (0, 0)) (by (with_reducible repeat (first | refine blk_drewN ?_ _ | refine blk_drew ?_ | refine blk_alloc ?_ _)); exact BK164.out) hb); have n1_ := Aside0.mk (below_step (by repeat (first | (with_reducible first | exact HB.out | apply below_alloc | apply pw_below_drewN | apply below_drew1 | refine below_set ?_ GE164.out) | exact HB.out)) hb); clear BK164; clear HB; have BK164 := n0_; have HB := n1_; clear n0_ n1_; (try clear hb); (try clear hb2); (try clear hk); (try clear hi); have hcz62_0 : w61.cell? ⟨gb164, 0, none⟩ = some (.int .i64 t162) := (blk_cell BK164.out 0).trans rfl; have hcz62_1 : w61.cell? ⟨gb164, 1, none⟩ = some (.int .i64 t163) := (blk_cell BK164.out 1).trans rfl; have hfz62_0 := blk_frozen BK164.out 0; have hfz62_1 := blk_frozen BK164.out 1) | ((with_reducible refine gate_callee (f := 12) rfl ?_); refine goesL_ (some 112) rfl rfl Try.func12 (by kernel_rfl) rfl #[.agg #[.int .i64 t162, .int .i64 t163], .int .i64 t178, .int .i64 t179] rfl (by (try simp only [List.map_toArray, List.map_cons, List.map_nil]); first | done | rfl | (simp only [List.length_drop, List.length_take]; rfl)) ?_; (with_reducible refine (place_Member.calls kj26 t162 t163 t178 t179 t183 t184 _ A48.out).mono ?_); rintro e w63 ⟨rfl, hb⟩; refine ⟨_, rfl, ?_⟩; have n0_ := Aside0.mk (blk_below (g := gb164) (o := .cells #[.int .i64 t162, .int .i64 t163] 23 (0, 0)) (by (with_reducible repeat (first | refine blk_drewN ?_ _ | refine blk_drew ?_ | refine blk_alloc ?_ _)); exact BK164.out) hb); have n1_ := Aside0.mk (below_step (by repeat (first | (with_reducible first | exact HB.out | apply below_alloc | apply pw_below_drewN | apply below_drew1 | refine below_set ?_ GE164.out) | exact HB.out)) hb); clear BK164; clear HB; have BK164 := n0_; have HB := n1_; clear n0_ n1_; (try clear hb); (try clear hb2); (try clear hk); (try clear hi); have hcz64_0 : w63.cell? ⟨gb164, 0, none⟩ = some (.int .i64 t162) := (blk_cell BK164.out 0).trans rfl; have hcz64_1 : w63.cell? ⟨gb164, 1, none⟩ = some (.int .i64 t163) := (blk_cell BK164.out 1).trans rfl; have hfz64_0 := blk_frozen BK164.out 0; have hfz64_1 := blk_frozen BK164.out 1) | ((with_reducible refine gate_callee (f := 10) rfl ?_); refine goesL_ (some 119) rfl rfl Try.func10 (by kernel_rfl) rfl #[.agg #[.int .i64 t162, .int .i64 t163], .int .i64 t178, .int .i64 t183] rfl (by (try simp only [List.map_toArray, List.map_cons, List.map_nil]); first | done | rfl | (simp only [List.length_drop, List.length_take]; rfl)) ?_; (with_reducible refine (place_Column.calls kj26 t162 t163 t178 t183 t185 t186 _ A49.out).mono ?_); rintro e w65 ⟨rfl, hb⟩; refine ⟨_, rfl, ?_⟩; have n0_ := Aside0.mk (blk_below (g := gb164) (o := .cells #[.int .i64 t162, .int .i64 t163] 23 (0, 0)) (by (with_reducible repeat (first | refine blk_drewN ?_ _ | refine blk_drew ?_ | refine blk_alloc ?_ _)); exact BK164.out) hb); have n1_ := Aside0.mk (below_step (by repeat (first | (with_reducible first | exact HB.out | apply below_alloc | apply pw_below_drewN | apply below_drew1 | refine below_set ?_ GE164.out) | exact HB.out)) hb); clear BK164; clear HB; have BK164 := n0_; have HB := n1_; clear n0_ n1_; (try clear hb); (try clear hb2); (try clear hk); (try clear hi); have hcz66_0 : w65.cell? ⟨gb164, 0, none⟩ = some (.int .i64 t162) := (blk_cell BK164.out 0).trans rfl; have hcz66_1 : w65.cell? ⟨gb164, 1, none⟩ = some (.int .i64 t163) := (blk_cell BK164.out 1).trans rfl; have hfz66_0 := blk_frozen BK164.out 0; have hfz66_1 := blk_frozen BK164.out 1) | (go_at_call 14; (with_reducible refine (casematelaw15_awake.calls kj26  t187 _ A57.out).mono ?_); rintro e w67 ⟨rfl, hb⟩; have n0_ := Aside0.mk (blk_below (g := gb164) (o := .cells #[.int .i64 t162, .int .i64 t163] 23 (0, 0)) (by (with_reducible repeat (first | refine blk_drewN ?_ _ | refine blk_drew ?_ | refine blk_alloc ?_ _)); exact BK164.out) hb); have n1_ := Aside0.mk (below_step (by repeat (first | (with_reducible first | exact HB.out | apply below_alloc | apply pw_below_drewN | apply below_drew1 | refine below_set ?_ GE164.out) | exact HB.out)) hb); clear BK164; clear HB; have BK164 := n0_; have HB := n1_; clear n0_ n1_; (try clear hb); (try clear hb2); (try clear hk); (try clear hi)))
                                go_ret
                                exact ⟨by first | rfl | (simp [errW_none, errW_some] <;> rfl) | (simp [*, errW_none, errW_some] <;> rfl), by repeat (first | (with_reducible first | exact HB.out | apply below_alloc | apply pw_below_drewN | apply below_drew1 | refine below_set ?_ GE164.out) | exact HB.out)⟩
                              · rw [if_neg c56] at H
                                have c56b0 : decide (t179 < (wrap64 (t162 - 2))) = false := decide_eq_false c56
                                clear c56
                                obtain rfl := Option.some.inj H
                                have hcz68_0 : wc.cell? ⟨gb164, 0, none⟩ = some (.int .i64 t162) := (blk_cell BK164.out 0).trans rfl
                                have hcz68_1 : wc.cell? ⟨gb164, 1, none⟩ = some (.int .i64 t163) := (blk_cell BK164.out 1).trans rfl
                                have hfz68_0 := blk_frozen BK164.out 0
                                have hfz68_1 := blk_frozen BK164.out 1
                                go_wp2_with (first | ((with_reducible refine gate_callee (f := 21) rfl ?_); refine goesL_ (some 97) rfl rfl Try.func21 (by kernel_rfl) rfl #[.agg #[.int .i64 t162, .int .i64 t163], .int .i64 (Int.tmod (wrap64 (a2)) t168)] rfl (by (try simp only [List.map_toArray, List.map_cons, List.map_nil]); first | done | rfl | (simp only [List.length_drop, List.length_take]; rfl)) ?_; (with_reducible refine (place_Of.calls kj26 t162 t163 (Int.tmod (wrap64 (a2)) t168) t178 t179 t180 _ A46.out).mono ?_); rintro e w69 ⟨rfl, hb⟩; refine ⟨_, rfl, ?_⟩; have n0_ := Aside0.mk (blk_below (g := gb164) (o := .cells #[.int .i64 t162, .int .i64 t163] 23 (0, 0)) (by (with_reducible repeat (first | refine blk_drewN ?_ _ | refine blk_drew ?_ | refine blk_alloc ?_ _)); exact BK164.out) hb); have n1_ := Aside0.mk (below_step (by repeat (first | (with_reducible first | exact HB.out | apply below_alloc | apply pw_below_drewN | apply below_drew1 | refine below_set ?_ GE164.out) | exact HB.out)) hb); clear BK164; clear HB; have BK164 := n0_; have HB := n1_; clear n0_ n1_; (try clear hb); (try clear hb2); (try clear hk); (try clear hi); have hcz70_0 : w69.cell? ⟨gb164, 0, none⟩ = some (.int .i64 t162) := (blk_cell BK164.out 0).trans rfl; have hcz70_1 : w69.cell? ⟨gb164, 1, none⟩ = some (.int .i64 t163) := (blk_cell BK164.out 1).trans rfl; have hfz70_0 := blk_frozen BK164.out 0; have hfz70_1 := blk_frozen BK164.out 1) | ((with_reducible refine gate_callee (f := 16) rfl ?_); refine goesL_ (some 105) rfl rfl Try.func16 (by kernel_rfl) rfl #[.agg #[.int .i64 t162, .int .i64 t163], .int .i64 t178, .int .i64 t179] rfl (by (try simp only [List.map_toArray, List.map_cons, List.map_nil]); first | done | rfl | (simp only [List.length_drop, List.length_take]; rfl)) ?_; (with_reducible refine (place_Number.calls kj26 t162 t163 t178 t179 t181 t182 _ A47.out).mono ?_); rintro e w71 ⟨rfl, hb⟩; refine ⟨_, rfl, ?_⟩; have n0_ := Aside0.mk (blk_below (g := gb164) (o := .cells #[.int .i64 t162, .int .i64 t163] 23 (0, 0)) (by (with_reducible repeat (first | refine blk_drewN ?_ _ | refine blk_drew ?_ | refine blk_alloc ?_ _)); exact BK164.out) hb); have n1_ := Aside0.mk (below_step (by repeat (first | (with_reducible first | exact HB.out | apply below_alloc | apply pw_below_drewN | apply below_drew1 | refine below_set ?_ GE164.out) | exact HB.out)) hb); clear BK164; clear HB; have BK164 := n0_; have HB := n1_; clear n0_ n1_; (try clear hb); (try clear hb2); (try clear hk); (try clear hi); have hcz72_0 : w71.cell? ⟨gb164, 0, none⟩ = some (.int .i64 t162) := (blk_cell BK164.out 0).trans rfl; have hcz72_1 : w71.cell? ⟨gb164, 1, none⟩ = some (.int .i64 t163) := (blk_cell BK164.out 1).trans rfl; have hfz72_0 := blk_frozen BK164.out 0; have hfz72_1 := blk_frozen BK164.out 1) | ((with_reducible refine gate_callee (f := 12) rfl ?_); refine goesL_ (some 112) rfl rfl Try.func12 (by kernel_rfl) rfl #[.agg #[.int .i64 t162, .int .i64 t163], .int .i64 t178, .int .i64 t179] rfl (by (try simp only [List.map_toArray, List.map_cons, List.map_nil]); first | done | rfl | (simp only [List.length_drop, List.length_take]; rfl)) ?_; (with_reducible refine (place_Member.calls kj26 t162 t163 t178 t179 t183 t184 _ A48.out).mono ?_); rintro e w73 ⟨rfl, hb⟩; refine ⟨_, rfl, ?_⟩; have n0_ := Aside0.mk (blk_below (g := gb164) (o := .cells #[.int .i64 t162, .int .i64 t163] 23 (0, 0)) (by (with_reducible repeat (first | refine blk_drewN ?_ _ | refine blk_drew ?_ | refine blk_alloc ?_ _)); exact BK164.out) hb); have n1_ := Aside0.mk (below_step (by repeat (first | (with_reducible first | exact HB.out | apply below_alloc | apply pw_below_drewN | apply below_drew1 | refine below_set ?_ GE164.out) | exact HB.out)) hb); clear BK164; clear HB; have BK164 := n0_; have HB := n1_; clear n0_ n1_; (try clear hb); (try clear hb2); (try clear hk); (try clear hi); have hcz74_0 : w73.cell? ⟨gb164, 0, none⟩ = some (.int .i64 t162) := (blk_cell BK164.out 0).trans rfl; have hcz74_1 : w73.cell? ⟨gb164, 1, none⟩ = some (.int .i64 t163) := (blk_cell BK164.out 1).trans rfl; have hfz74_0 := blk_frozen BK164.out 0; have hfz74_1 := blk_frozen BK164.out 1) | ((with_reducible refine gate_callee (f := 10) rfl ?_); refine goesL_ (some 119) rfl rfl Try.func10 (by kernel_rfl) rfl #[.agg #[.int .i64 t162, .int .i64 t163], .int .i64 t178, .int .i64 t183] rfl (by (try simp only [List.map_toArray, List.map_cons, List.map_nil]); first | done | rfl | (simp only [List.length_drop, List.length_take]; rfl)) ?_; (with_reducible refine (place_Column.calls kj26 t162 t163 t178 t183 t185 t186 _ A49.out).mono ?_); rintro e w75 ⟨rfl, hb⟩; refine ⟨_, rfl, ?_⟩; have n0_ := Aside0.mk (blk_below (g := gb164) (o := .cells #[.int .i64 t162, .int .i64 t163] 23 (0, 0)) (by (with_reducible repeat (first | refine blk_drewN ?_ _ | refine blk_drew ?_ | refine blk_alloc ?_ _)); exact BK164.out) hb); have n1_ := Aside0.mk (below_step (by repeat (first | (with_reducible first | exact HB.out | apply below_alloc | apply pw_below_drewN | apply below_drew1 | refine below_set ?_ GE164.out) | exact HB.out)) hb); clear BK164; clear HB; have BK164 := n0_; have HB := n1_; clear n0_ n1_; (try clear hb); (try clear hb2); (try clear hk); (try clear hi); have hcz76_0 : w75.cell? ⟨gb164, 0, none⟩ = some (.int .i64 t162) := (blk_cell BK164.out 0).trans rfl; have hcz76_1 : w75.cell? ⟨gb164, 1, none⟩ = some (.int .i64 t163) := (blk_cell BK164.out 1).trans rfl; have hfz76_0 := blk_frozen BK164.out 0; have hfz76_1 := blk_frozen BK164.out 1))
                                go_ret
                                exact ⟨by first | rfl | (simp [errW_none, errW_some] <;> rfl) | (simp [*, errW_none, errW_some] <;> rfl), by repeat (first | (with_reducible first | exact HB.out | apply below_alloc | apply pw_below_drewN | apply below_drew1 | refine below_set ?_ GE164.out) | exact HB.out)⟩
                            · rw [if_neg c55] at H
                              have c55b0 : (t185 == t179) = false := beq_eq_false_iff_ne.mpr c55
                              have c55b1 : (t185 != t179) = true := bne_iff_ne.mpr c55
                              obtain rfl := Option.some.inj H
                              have hcz77_0 : wc.cell? ⟨gb164, 0, none⟩ = some (.int .i64 t162) := (blk_cell BK164.out 0).trans rfl
                              have hcz77_1 : wc.cell? ⟨gb164, 1, none⟩ = some (.int .i64 t163) := (blk_cell BK164.out 1).trans rfl
                              have hfz77_0 := blk_frozen BK164.out 0
                              have hfz77_1 := blk_frozen BK164.out 1
                              go_wp2_with (first | ((with_reducible refine gate_callee (f := 21) rfl ?_); refine goesL_ (some 97) rfl rfl Try.func21 (by kernel_rfl) rfl #[.agg #[.int .i64 t162, .int .i64 t163], .int .i64 (Int.tmod (wrap64 (a2)) t168)] rfl (by (try simp only [List.map_toArray, List.map_cons, List.map_nil]); first | done | rfl | (simp only [List.length_drop, List.length_take]; rfl)) ?_; (with_reducible refine (place_Of.calls kj26 t162 t163 (Int.tmod (wrap64 (a2)) t168) t178 t179 t180 _ A46.out).mono ?_); rintro e w78 ⟨rfl, hb⟩; refine ⟨_, rfl, ?_⟩; have n0_ := Aside0.mk (blk_below (g := gb164) (o := .cells #[.int .i64 t162, .int .i64 t163] 23 (0, 0)) (by (with_reducible repeat (first | refine blk_drewN ?_ _ | refine blk_drew ?_ | refine blk_alloc ?_ _)); exact BK164.out) hb); have n1_ := Aside0.mk (below_step (by repeat (first | (with_reducible first | exact HB.out | apply below_alloc | apply pw_below_drewN | apply below_drew1 | refine below_set ?_ GE164.out) | exact HB.out)) hb); clear BK164; clear HB; have BK164 := n0_; have HB := n1_; clear n0_ n1_; (try clear hb); (try clear hb2); (try clear hk); (try clear hi); have hcz79_0 : w78.cell? ⟨gb164, 0, none⟩ = some (.int .i64 t162) := (blk_cell BK164.out 0).trans rfl; have hcz79_1 : w78.cell? ⟨gb164, 1, none⟩ = some (.int .i64 t163) := (blk_cell BK164.out 1).trans rfl; have hfz79_0 := blk_frozen BK164.out 0; have hfz79_1 := blk_frozen BK164.out 1) | ((with_reducible refine gate_callee (f := 16) rfl ?_); refine goesL_ (some 105) rfl rfl Try.func16 (by kernel_rfl) rfl #[.agg #[.int .i64 t162, .int .i64 t163], .int .i64 t178, .int .i64 t179] rfl (by (try simp only [List.map_toArray, List.map_cons, List.map_nil]); first | done | rfl | (simp only [List.length_drop, List.length_take]; rfl)) ?_; (with_reducible refine (place_Number.calls kj26 t162 t163 t178 t179 t181 t182 _ A47.out).mono ?_); rintro e w80 ⟨rfl, hb⟩; refine ⟨_, rfl, ?_⟩; have n0_ := Aside0.mk (blk_below (g := gb164) (o := .cells #[.int .i64 t162, .int .i64 t163] 23 (0, 0)) (by (with_reducible repeat (first | refine blk_drewN ?_ _ | refine blk_drew ?_ | refine blk_alloc ?_ _)); exact BK164.out) hb); have n1_ := Aside0.mk (below_step (by repeat (first | (with_reducible first | exact HB.out | apply below_alloc | apply pw_below_drewN | apply below_drew1 | refine below_set ?_ GE164.out) | exact HB.out)) hb); clear BK164; clear HB; have BK164 := n0_; have HB := n1_; clear n0_ n1_; (try clear hb); (try clear hb2); (try clear hk); (try clear hi); have hcz81_0 : w80.cell? ⟨gb164, 0, none⟩ = some (.int .i64 t162) := (blk_cell BK164.out 0).trans rfl; have hcz81_1 : w80.cell? ⟨gb164, 1, none⟩ = some (.int .i64 t163) := (blk_cell BK164.out 1).trans rfl; have hfz81_0 := blk_frozen BK164.out 0; have hfz81_1 := blk_frozen BK164.out 1) | ((with_reducible refine gate_callee (f := 12) rfl ?_); refine goesL_ (some 112) rfl rfl Try.func12 (by kernel_rfl) rfl #[.agg #[.int .i64 t162, .int .i64 t163], .int .i64 t178, .int .i64 t179] rfl (by (try simp only [List.map_toArray, List.map_cons, List.map_nil]); first | done | rfl | (simp only [List.length_drop, List.length_take]; rfl)) ?_; (with_reducible refine (place_Member.calls kj26 t162 t163 t178 t179 t183 t184 _ A48.out).mono ?_); rintro e w82 ⟨rfl, hb⟩; refine ⟨_, rfl, ?_⟩; have n0_ := Aside0.mk (blk_below (g := gb164) (o := .cells #[.int .i64 t162, .int .i64 t163] 23 (0, 0)) (by (with_reducible repeat (first | refine blk_drewN ?_ _ | refine blk_drew ?_ | refine blk_alloc ?_ _)); exact BK164.out) hb); have n1_ := Aside0.mk (below_step (by repeat (first | (with_reducible first | exact HB.out | apply below_alloc | apply pw_below_drewN | apply below_drew1 | refine below_set ?_ GE164.out) | exact HB.out)) hb); clear BK164; clear HB; have BK164 := n0_; have HB := n1_; clear n0_ n1_; (try clear hb); (try clear hb2); (try clear hk); (try clear hi); have hcz83_0 : w82.cell? ⟨gb164, 0, none⟩ = some (.int .i64 t162) := (blk_cell BK164.out 0).trans rfl; have hcz83_1 : w82.cell? ⟨gb164, 1, none⟩ = some (.int .i64 t163) := (blk_cell BK164.out 1).trans rfl; have hfz83_0 := blk_frozen BK164.out 0; have hfz83_1 := blk_frozen BK164.out 1) | ((with_reducible refine gate_callee (f := 10) rfl ?_); refine goesL_ (some 119) rfl rfl Try.func10 (by kernel_rfl) rfl #[.agg #[.int .i64 t162, .int .i64 t163], .int .i64 t178, .int .i64 t183] rfl (by (try simp only [List.map_toArray, List.map_cons, List.map_nil]); first | done | rfl | (simp only [List.length_drop, List.length_take]; rfl)) ?_; (with_reducible refine (place_Column.calls kj26 t162 t163 t178 t183 t185 t186 _ A49.out).mono ?_); rintro e w84 ⟨rfl, hb⟩; refine ⟨_, rfl, ?_⟩; have n0_ := Aside0.mk (blk_below (g := gb164) (o := .cells #[.int .i64 t162, .int .i64 t163] 23 (0, 0)) (by (with_reducible repeat (first | refine blk_drewN ?_ _ | refine blk_drew ?_ | refine blk_alloc ?_ _)); exact BK164.out) hb); have n1_ := Aside0.mk (below_step (by repeat (first | (with_reducible first | exact HB.out | apply below_alloc | apply pw_below_drewN | apply below_drew1 | refine below_set ?_ GE164.out) | exact HB.out)) hb); clear BK164; clear HB; have BK164 := n0_; have HB := n1_; clear n0_ n1_; (try clear hb); (try clear hb2); (try clear hk); (try clear hi)))
                              go_ret
                              exact ⟨by first | rfl | (simp [errW_none, errW_some] <;> rfl) | (simp [*, errW_none, errW_some] <;> rfl), by repeat (first | (with_reducible first | exact HB.out | apply below_alloc | apply pw_below_drewN | apply below_drew1 | refine below_set ?_ GE164.out) | exact HB.out)⟩
                          · rw [if_neg c54] at H
                            have c54b0 : (t181 == (Int.tmod (wrap64 (a2)) t168)) = false := beq_eq_false_iff_ne.mpr c54
                            have c54b1 : (t181 != (Int.tmod (wrap64 (a2)) t168)) = true := bne_iff_ne.mpr c54
                            obtain rfl := Option.some.inj H
                            have hcz85_0 : wc.cell? ⟨gb164, 0, none⟩ = some (.int .i64 t162) := (blk_cell BK164.out 0).trans rfl
                            have hcz85_1 : wc.cell? ⟨gb164, 1, none⟩ = some (.int .i64 t163) := (blk_cell BK164.out 1).trans rfl
                            have hfz85_0 := blk_frozen BK164.out 0
                            have hfz85_1 := blk_frozen BK164.out 1
                            go_wp2_with (first | ((with_reducible refine gate_callee (f := 21) rfl ?_); refine goesL_ (some 97) rfl rfl Try.func21 (by kernel_rfl) rfl #[.agg #[.int .i64 t162, .int .i64 t163], .int .i64 (Int.tmod (wrap64 (a2)) t168)] rfl (by (try simp only [List.map_toArray, List.map_cons, List.map_nil]); first | done | rfl | (simp only [List.length_drop, List.length_take]; rfl)) ?_; (with_reducible refine (place_Of.calls kj26 t162 t163 (Int.tmod (wrap64 (a2)) t168) t178 t179 t180 _ A46.out).mono ?_); rintro e w86 ⟨rfl, hb⟩; refine ⟨_, rfl, ?_⟩; have n0_ := Aside0.mk (blk_below (g := gb164) (o := .cells #[.int .i64 t162, .int .i64 t163] 23 (0, 0)) (by (with_reducible repeat (first | refine blk_drewN ?_ _ | refine blk_drew ?_ | refine blk_alloc ?_ _)); exact BK164.out) hb); have n1_ := Aside0.mk (below_step (by repeat (first | (with_reducible first | exact HB.out | apply below_alloc | apply pw_below_drewN | apply below_drew1 | refine below_set ?_ GE164.out) | exact HB.out)) hb); clear BK164; clear HB; have BK164 := n0_; have HB := n1_; clear n0_ n1_; (try clear hb); (try clear hb2); (try clear hk); (try clear hi); have hcz87_0 : w86.cell? ⟨gb164, 0, none⟩ = some (.int .i64 t162) := (blk_cell BK164.out 0).trans rfl; have hcz87_1 : w86.cell? ⟨gb164, 1, none⟩ = some (.int .i64 t163) := (blk_cell BK164.out 1).trans rfl; have hfz87_0 := blk_frozen BK164.out 0; have hfz87_1 := blk_frozen BK164.out 1) | ((with_reducible refine gate_callee (f := 16) rfl ?_); refine goesL_ (some 105) rfl rfl Try.func16 (by kernel_rfl) rfl #[.agg #[.int .i64 t162, .int .i64 t163], .int .i64 t178, .int .i64 t179] rfl (by (try simp only [List.map_toArray, List.map_cons, List.map_nil]); first | done | rfl | (simp only [List.length_drop, List.length_take]; rfl)) ?_; (with_reducible refine (place_Number.calls kj26 t162 t163 t178 t179 t181 t182 _ A47.out).mono ?_); rintro e w88 ⟨rfl, hb⟩; refine ⟨_, rfl, ?_⟩; have n0_ := Aside0.mk (blk_below (g := gb164) (o := .cells #[.int .i64 t162, .int .i64 t163] 23 (0, 0)) (by (with_reducible repeat (first | refine blk_drewN ?_ _ | refine blk_drew ?_ | refine blk_alloc ?_ _)); exact BK164.out) hb); have n1_ := Aside0.mk (below_step (by repeat (first | (with_reducible first | exact HB.out | apply below_alloc | apply pw_below_drewN | apply below_drew1 | refine below_set ?_ GE164.out) | exact HB.out)) hb); clear BK164; clear HB; have BK164 := n0_; have HB := n1_; clear n0_ n1_; (try clear hb); (try clear hb2); (try clear hk); (try clear hi); have hcz89_0 : w88.cell? ⟨gb164, 0, none⟩ = some (.int .i64 t162) := (blk_cell BK164.out 0).trans rfl; have hcz89_1 : w88.cell? ⟨gb164, 1, none⟩ = some (.int .i64 t163) := (blk_cell BK164.out 1).trans rfl; have hfz89_0 := blk_frozen BK164.out 0; have hfz89_1 := blk_frozen BK164.out 1) | ((with_reducible refine gate_callee (f := 12) rfl ?_); refine goesL_ (some 112) rfl rfl Try.func12 (by kernel_rfl) rfl #[.agg #[.int .i64 t162, .int .i64 t163], .int .i64 t178, .int .i64 t179] rfl (by (try simp only [List.map_toArray, List.map_cons, List.map_nil]); first | done | rfl | (simp only [List.length_drop, List.length_take]; rfl)) ?_; (with_reducible refine (place_Member.calls kj26 t162 t163 t178 t179 t183 t184 _ A48.out).mono ?_); rintro e w90 ⟨rfl, hb⟩; refine ⟨_, rfl, ?_⟩; have n0_ := Aside0.mk (blk_below (g := gb164) (o := .cells #[.int .i64 t162, .int .i64 t163] 23 (0, 0)) (by (with_reducible repeat (first | refine blk_drewN ?_ _ | refine blk_drew ?_ | refine blk_alloc ?_ _)); exact BK164.out) hb); have n1_ := Aside0.mk (below_step (by repeat (first | (with_reducible first | exact HB.out | apply below_alloc | apply pw_below_drewN | apply below_drew1 | refine below_set ?_ GE164.out) | exact HB.out)) hb); clear BK164; clear HB; have BK164 := n0_; have HB := n1_; clear n0_ n1_; (try clear hb); (try clear hb2); (try clear hk); (try clear hi); have hcz91_0 : w90.cell? ⟨gb164, 0, none⟩ = some (.int .i64 t162) := (blk_cell BK164.out 0).trans rfl; have hcz91_1 : w90.cell? ⟨gb164, 1, none⟩ = some (.int .i64 t163) := (blk_cell BK164.out 1).trans rfl; have hfz91_0 := blk_frozen BK164.out 0; have hfz91_1 := blk_frozen BK164.out 1) | ((with_reducible refine gate_callee (f := 10) rfl ?_); refine goesL_ (some 119) rfl rfl Try.func10 (by kernel_rfl) rfl #[.agg #[.int .i64 t162, .int .i64 t163], .int .i64 t178, .int .i64 t183] rfl (by (try simp only [List.map_toArray, List.map_cons, List.map_nil]); first | done | rfl | (simp only [List.length_drop, List.length_take]; rfl)) ?_; (with_reducible refine (place_Column.calls kj26 t162 t163 t178 t183 t185 t186 _ A49.out).mono ?_); rintro e w92 ⟨rfl, hb⟩; refine ⟨_, rfl, ?_⟩; have n0_ := Aside0.mk (blk_below (g := gb164) (o := .cells #[.int .i64 t162, .int .i64 t163] 23 (0, 0)) (by (with_reducible repeat (first | refine blk_drewN ?_ _ | refine blk_drew ?_ | refine blk_alloc ?_ _)); exact BK164.out) hb); have n1_ := Aside0.mk (below_step (by repeat (first | (with_reducible first | exact HB.out | apply below_alloc | apply pw_below_drewN | apply below_drew1 | refine below_set ?_ GE164.out) | exact HB.out)) hb); clear BK164; clear HB; have BK164 := n0_; have HB := n1_; clear n0_ n1_; (try clear hb); (try clear hb2); (try clear hk); (try clear hi)))
                            go_ret
                            exact ⟨by first | rfl | (simp [errW_none, errW_some] <;> rfl) | (simp [*, errW_none, errW_some] <;> rfl), by repeat (first | (with_reducible first | exact HB.out | apply below_alloc | apply pw_below_drewN | apply below_drew1 | refine below_set ?_ GE164.out) | exact HB.out)⟩
                        · rw [if_neg c53] at H
                          have c53b0 : (t186 == 0) = false := beq_eq_false_iff_ne.mpr c53
                          have c53b1 : (t186 != 0) = true := bne_iff_ne.mpr c53
                          obtain rfl := Option.some.inj H
                          have hcz93_0 : wc.cell? ⟨gb164, 0, none⟩ = some (.int .i64 t162) := (blk_cell BK164.out 0).trans rfl
                          have hcz93_1 : wc.cell? ⟨gb164, 1, none⟩ = some (.int .i64 t163) := (blk_cell BK164.out 1).trans rfl
                          have hfz93_0 := blk_frozen BK164.out 0
                          have hfz93_1 := blk_frozen BK164.out 1
                          go_wp2_with (first | ((with_reducible refine gate_callee (f := 21) rfl ?_); refine goesL_ (some 97) rfl rfl Try.func21 (by kernel_rfl) rfl #[.agg #[.int .i64 t162, .int .i64 t163], .int .i64 (Int.tmod (wrap64 (a2)) t168)] rfl (by (try simp only [List.map_toArray, List.map_cons, List.map_nil]); first | done | rfl | (simp only [List.length_drop, List.length_take]; rfl)) ?_; (with_reducible refine (place_Of.calls kj26 t162 t163 (Int.tmod (wrap64 (a2)) t168) t178 t179 t180 _ A46.out).mono ?_); rintro e w94 ⟨rfl, hb⟩; refine ⟨_, rfl, ?_⟩; have n0_ := Aside0.mk (blk_below (g := gb164) (o := .cells #[.int .i64 t162, .int .i64 t163] 23 (0, 0)) (by (with_reducible repeat (first | refine blk_drewN ?_ _ | refine blk_drew ?_ | refine blk_alloc ?_ _)); exact BK164.out) hb); have n1_ := Aside0.mk (below_step (by repeat (first | (with_reducible first | exact HB.out | apply below_alloc | apply pw_below_drewN | apply below_drew1 | refine below_set ?_ GE164.out) | exact HB.out)) hb); clear BK164; clear HB; have BK164 := n0_; have HB := n1_; clear n0_ n1_; (try clear hb); (try clear hb2); (try clear hk); (try clear hi); have hcz95_0 : w94.cell? ⟨gb164, 0, none⟩ = some (.int .i64 t162) := (blk_cell BK164.out 0).trans rfl; have hcz95_1 : w94.cell? ⟨gb164, 1, none⟩ = some (.int .i64 t163) := (blk_cell BK164.out 1).trans rfl; have hfz95_0 := blk_frozen BK164.out 0; have hfz95_1 := blk_frozen BK164.out 1) | ((with_reducible refine gate_callee (f := 16) rfl ?_); refine goesL_ (some 105) rfl rfl Try.func16 (by kernel_rfl) rfl #[.agg #[.int .i64 t162, .int .i64 t163], .int .i64 t178, .int .i64 t179] rfl (by (try simp only [List.map_toArray, List.map_cons, List.map_nil]); first | done | rfl | (simp only [List.length_drop, List.length_take]; rfl)) ?_; (with_reducible refine (place_Number.calls kj26 t162 t163 t178 t179 t181 t182 _ A47.out).mono ?_); rintro e w96 ⟨rfl, hb⟩; refine ⟨_, rfl, ?_⟩; have n0_ := Aside0.mk (blk_below (g := gb164) (o := .cells #[.int .i64 t162, .int .i64 t163] 23 (0, 0)) (by (with_reducible repeat (first | refine blk_drewN ?_ _ | refine blk_drew ?_ | refine blk_alloc ?_ _)); exact BK164.out) hb); have n1_ := Aside0.mk (below_step (by repeat (first | (with_reducible first | exact HB.out | apply below_alloc | apply pw_below_drewN | apply below_drew1 | refine below_set ?_ GE164.out) | exact HB.out)) hb); clear BK164; clear HB; have BK164 := n0_; have HB := n1_; clear n0_ n1_; (try clear hb); (try clear hb2); (try clear hk); (try clear hi); have hcz97_0 : w96.cell? ⟨gb164, 0, none⟩ = some (.int .i64 t162) := (blk_cell BK164.out 0).trans rfl; have hcz97_1 : w96.cell? ⟨gb164, 1, none⟩ = some (.int .i64 t163) := (blk_cell BK164.out 1).trans rfl; have hfz97_0 := blk_frozen BK164.out 0; have hfz97_1 := blk_frozen BK164.out 1) | ((with_reducible refine gate_callee (f := 12) rfl ?_); refine goesL_ (some 112) rfl rfl Try.func12 (by kernel_rfl) rfl #[.agg #[.int .i64 t162, .int .i64 t163], .int .i64 t178, .int .i64 t179] rfl (by (try simp only [List.map_toArray, List.map_cons, List.map_nil]); first | done | rfl | (simp only [List.length_drop, List.length_take]; rfl)) ?_; (with_reducible refine (place_Member.calls kj26 t162 t163 t178 t179 t183 t184 _ A48.out).mono ?_); rintro e w98 ⟨rfl, hb⟩; refine ⟨_, rfl, ?_⟩; have n0_ := Aside0.mk (blk_below (g := gb164) (o := .cells #[.int .i64 t162, .int .i64 t163] 23 (0, 0)) (by (with_reducible repeat (first | refine blk_drewN ?_ _ | refine blk_drew ?_ | refine blk_alloc ?_ _)); exact BK164.out) hb); have n1_ := Aside0.mk (below_step (by repeat (first | (with_reducible first | exact HB.out | apply below_alloc | apply pw_below_drewN | apply below_drew1 | refine below_set ?_ GE164.out) | exact HB.out)) hb); clear BK164; clear HB; have BK164 := n0_; have HB := n1_; clear n0_ n1_; (try clear hb); (try clear hb2); (try clear hk); (try clear hi); have hcz99_0 : w98.cell? ⟨gb164, 0, none⟩ = some (.int .i64 t162) := (blk_cell BK164.out 0).trans rfl; have hcz99_1 : w98.cell? ⟨gb164, 1, none⟩ = some (.int .i64 t163) := (blk_cell BK164.out 1).trans rfl; have hfz99_0 := blk_frozen BK164.out 0; have hfz99_1 := blk_frozen BK164.out 1) | ((with_reducible refine gate_callee (f := 10) rfl ?_); refine goesL_ (some 119) rfl rfl Try.func10 (by kernel_rfl) rfl #[.agg #[.int .i64 t162, .int .i64 t163], .int .i64 t178, .int .i64 t183] rfl (by (try simp only [List.map_toArray, List.map_cons, List.map_nil]); first | done | rfl | (simp only [List.length_drop, List.length_take]; rfl)) ?_; (with_reducible refine (place_Column.calls kj26 t162 t163 t178 t183 t185 t186 _ A49.out).mono ?_); rintro e w100 ⟨rfl, hb⟩; refine ⟨_, rfl, ?_⟩; have n0_ := Aside0.mk (blk_below (g := gb164) (o := .cells #[.int .i64 t162, .int .i64 t163] 23 (0, 0)) (by (with_reducible repeat (first | refine blk_drewN ?_ _ | refine blk_drew ?_ | refine blk_alloc ?_ _)); exact BK164.out) hb); have n1_ := Aside0.mk (below_step (by repeat (first | (with_reducible first | exact HB.out | apply below_alloc | apply pw_below_drewN | apply below_drew1 | refine below_set ?_ GE164.out) | exact HB.out)) hb); clear BK164; clear HB; have BK164 := n0_; have HB := n1_; clear n0_ n1_; (try clear hb); (try clear hb2); (try clear hk); (try clear hi)))
                          go_ret
                          exact ⟨by first | rfl | (simp [errW_none, errW_some] <;> rfl) | (simp [*, errW_none, errW_some] <;> rfl), by repeat (first | (with_reducible first | exact HB.out | apply below_alloc | apply pw_below_drewN | apply below_drew1 | refine below_set ?_ GE164.out) | exact HB.out)⟩
                      · rw [if_neg c52] at H
                        have c52b0 : (t184 == 0) = false := beq_eq_false_iff_ne.mpr c52
                        have c52b1 : (t184 != 0) = true := bne_iff_ne.mpr c52
                        obtain rfl := Option.some.inj H
                        have hcz101_0 : wc.cell? ⟨gb164, 0, none⟩ = some (.int .i64 t162) := (blk_cell BK164.out 0).trans rfl
                        have hcz101_1 : wc.cell? ⟨gb164, 1, none⟩ = some (.int .i64 t163) := (blk_cell BK164.out 1).trans rfl
                        have hfz101_0 := blk_frozen BK164.out 0
                        have hfz101_1 := blk_frozen BK164.out 1
                        go_wp2_with (first | ((with_reducible refine gate_callee (f := 21) rfl ?_); refine goesL_ (some 97) rfl rfl Try.func21 (by kernel_rfl) rfl #[.agg #[.int .i64 t162, .int .i64 t163], .int .i64 (Int.tmod (wrap64 (a2)) t168)] rfl (by (try simp only [List.map_toArray, List.map_cons, List.map_nil]); first | done | rfl | (simp only [List.length_drop, List.length_take]; rfl)) ?_; (with_reducible refine (place_Of.calls kj26 t162 t163 (Int.tmod (wrap64 (a2)) t168) t178 t179 t180 _ A46.out).mono ?_); rintro e w102 ⟨rfl, hb⟩; refine ⟨_, rfl, ?_⟩; have n0_ := Aside0.mk (blk_below (g := gb164) (o := .cells #[.int .i64 t162, .int .i64 t163] 23 (0, 0)) (by (with_reducible repeat (first | refine blk_drewN ?_ _ | refine blk_drew ?_ | refine blk_alloc ?_ _)); exact BK164.out) hb); have n1_ := Aside0.mk (below_step (by repeat (first | (with_reducible first | exact HB.out | apply below_alloc | apply pw_below_drewN | apply below_drew1 | refine below_set ?_ GE164.out) | exact HB.out)) hb); clear BK164; clear HB; have BK164 := n0_; have HB := n1_; clear n0_ n1_; (try clear hb); (try clear hb2); (try clear hk); (try clear hi); have hcz103_0 : w102.cell? ⟨gb164, 0, none⟩ = some (.int .i64 t162) := (blk_cell BK164.out 0).trans rfl; have hcz103_1 : w102.cell? ⟨gb164, 1, none⟩ = some (.int .i64 t163) := (blk_cell BK164.out 1).trans rfl; have hfz103_0 := blk_frozen BK164.out 0; have hfz103_1 := blk_frozen BK164.out 1) | ((with_reducible refine gate_callee (f := 16) rfl ?_); refine goesL_ (some 105) rfl rfl Try.func16 (by kernel_rfl) rfl #[.agg #[.int .i64 t162, .int .i64 t163], .int .i64 t178, .int .i64 t179] rfl (by (try simp only [List.map_toArray, List.map_cons, List.map_nil]); first | done | rfl | (simp only [List.length_drop, List.length_take]; rfl)) ?_; (with_reducible refine (place_Number.calls kj26 t162 t163 t178 t179 t181 t182 _ A47.out).mono ?_); rintro e w104 ⟨rfl, hb⟩; refine ⟨_, rfl, ?_⟩; have n0_ := Aside0.mk (blk_below (g := gb164) (o := .cells #[.int .i64 t162, .int .i64 t163] 23 (0, 0)) (by (with_reducible repeat (first | refine blk_drewN ?_ _ | refine blk_drew ?_ | refine blk_alloc ?_ _)); exact BK164.out) hb); have n1_ := Aside0.mk (below_step (by repeat (first | (with_reducible first | exact HB.out | apply below_alloc | apply pw_below_drewN | apply below_drew1 | refine below_set ?_ GE164.out) | exact HB.out)) hb); clear BK164; clear HB; have BK164 := n0_; have HB := n1_; clear n0_ n1_; (try clear hb); (try clear hb2); (try clear hk); (try clear hi); have hcz105_0 : w104.cell? ⟨gb164, 0, none⟩ = some (.int .i64 t162) := (blk_cell BK164.out 0).trans rfl; have hcz105_1 : w104.cell? ⟨gb164, 1, none⟩ = some (.int .i64 t163) := (blk_cell BK164.out 1).trans rfl; have hfz105_0 := blk_frozen BK164.out 0; have hfz105_1 := blk_frozen BK164.out 1) | ((with_reducible refine gate_callee (f := 12) rfl ?_); refine goesL_ (some 112) rfl rfl Try.func12 (by kernel_rfl) rfl #[.agg #[.int .i64 t162, .int .i64 t163], .int .i64 t178, .int .i64 t179] rfl (by (try simp only [List.map_toArray, List.map_cons, List.map_nil]); first | done | rfl | (simp only [List.length_drop, List.length_take]; rfl)) ?_; (with_reducible refine (place_Member.calls kj26 t162 t163 t178 t179 t183 t184 _ A48.out).mono ?_); rintro e w106 ⟨rfl, hb⟩; refine ⟨_, rfl, ?_⟩; have n0_ := Aside0.mk (blk_below (g := gb164) (o := .cells #[.int .i64 t162, .int .i64 t163] 23 (0, 0)) (by (with_reducible repeat (first | refine blk_drewN ?_ _ | refine blk_drew ?_ | refine blk_alloc ?_ _)); exact BK164.out) hb); have n1_ := Aside0.mk (below_step (by repeat (first | (with_reducible first | exact HB.out | apply below_alloc | apply pw_below_drewN | apply below_drew1 | refine below_set ?_ GE164.out) | exact HB.out)) hb); clear BK164; clear HB; have BK164 := n0_; have HB := n1_; clear n0_ n1_; (try clear hb); (try clear hb2); (try clear hk); (try clear hi); have hcz107_0 : w106.cell? ⟨gb164, 0, none⟩ = some (.int .i64 t162) := (blk_cell BK164.out 0).trans rfl; have hcz107_1 : w106.cell? ⟨gb164, 1, none⟩ = some (.int .i64 t163) := (blk_cell BK164.out 1).trans rfl; have hfz107_0 := blk_frozen BK164.out 0; have hfz107_1 := blk_frozen BK164.out 1) | ((with_reducible refine gate_callee (f := 10) rfl ?_); refine goesL_ (some 119) rfl rfl Try.func10 (by kernel_rfl) rfl #[.agg #[.int .i64 t162, .int .i64 t163], .int .i64 t178, .int .i64 t183] rfl (by (try simp only [List.map_toArray, List.map_cons, List.map_nil]); first | done | rfl | (simp only [List.length_drop, List.length_take]; rfl)) ?_; (with_reducible refine (place_Column.calls kj26 t162 t163 t178 t183 t185 t186 _ A49.out).mono ?_); rintro e w108 ⟨rfl, hb⟩; refine ⟨_, rfl, ?_⟩; have n0_ := Aside0.mk (blk_below (g := gb164) (o := .cells #[.int .i64 t162, .int .i64 t163] 23 (0, 0)) (by (with_reducible repeat (first | refine blk_drewN ?_ _ | refine blk_drew ?_ | refine blk_alloc ?_ _)); exact BK164.out) hb); have n1_ := Aside0.mk (below_step (by repeat (first | (with_reducible first | exact HB.out | apply below_alloc | apply pw_below_drewN | apply below_drew1 | refine below_set ?_ GE164.out) | exact HB.out)) hb); clear BK164; clear HB; have BK164 := n0_; have HB := n1_; clear n0_ n1_; (try clear hb); (try clear hb2); (try clear hk); (try clear hi)))
                        go_ret
                        exact ⟨by first | rfl | (simp [errW_none, errW_some] <;> rfl) | (simp [*, errW_none, errW_some] <;> rfl), by repeat (first | (with_reducible first | exact HB.out | apply below_alloc | apply pw_below_drewN | apply below_drew1 | refine below_set ?_ GE164.out) | exact HB.out)⟩
                    · rw [if_neg c51] at H
                      have c51b0 : (t182 == 0) = false := beq_eq_false_iff_ne.mpr c51
                      have c51b1 : (t182 != 0) = true := bne_iff_ne.mpr c51
                      obtain rfl := Option.some.inj H
                      have hcz109_0 : wc.cell? ⟨gb164, 0, none⟩ = some (.int .i64 t162) := (blk_cell BK164.out 0).trans rfl
                      have hcz109_1 : wc.cell? ⟨gb164, 1, none⟩ = some (.int .i64 t163) := (blk_cell BK164.out 1).trans rfl
                      have hfz109_0 := blk_frozen BK164.out 0
                      have hfz109_1 := blk_frozen BK164.out 1
                      go_wp2_with (first | ((with_reducible refine gate_callee (f := 21) rfl ?_); refine goesL_ (some 97) rfl rfl Try.func21 (by kernel_rfl) rfl #[.agg #[.int .i64 t162, .int .i64 t163], .int .i64 (Int.tmod (wrap64 (a2)) t168)] rfl (by (try simp only [List.map_toArray, List.map_cons, List.map_nil]); first | done | rfl | (simp only [List.length_drop, List.length_take]; rfl)) ?_; (with_reducible refine (place_Of.calls kj26 t162 t163 (Int.tmod (wrap64 (a2)) t168) t178 t179 t180 _ A46.out).mono ?_); rintro e w110 ⟨rfl, hb⟩; refine ⟨_, rfl, ?_⟩; have n0_ := Aside0.mk (blk_below (g := gb164) (o := .cells #[.int .i64 t162, .int .i64 t163] 23 (0, 0)) (by (with_reducible repeat (first | refine blk_drewN ?_ _ | refine blk_drew ?_ | refine blk_alloc ?_ _)); exact BK164.out) hb); have n1_ := Aside0.mk (below_step (by repeat (first | (with_reducible first | exact HB.out | apply below_alloc | apply pw_below_drewN | apply below_drew1 | refine below_set ?_ GE164.out) | exact HB.out)) hb); clear BK164; clear HB; have BK164 := n0_; have HB := n1_; clear n0_ n1_; (try clear hb); (try clear hb2); (try clear hk); (try clear hi); have hcz111_0 : w110.cell? ⟨gb164, 0, none⟩ = some (.int .i64 t162) := (blk_cell BK164.out 0).trans rfl; have hcz111_1 : w110.cell? ⟨gb164, 1, none⟩ = some (.int .i64 t163) := (blk_cell BK164.out 1).trans rfl; have hfz111_0 := blk_frozen BK164.out 0; have hfz111_1 := blk_frozen BK164.out 1) | ((with_reducible refine gate_callee (f := 16) rfl ?_); refine goesL_ (some 105) rfl rfl Try.func16 (by kernel_rfl) rfl #[.agg #[.int .i64 t162, .int .i64 t163], .int .i64 t178, .int .i64 t179] rfl (by (try simp only [List.map_toArray, List.map_cons, List.map_nil]); first | done | rfl | (simp only [List.length_drop, List.length_take]; rfl)) ?_; (with_reducible refine (place_Number.calls kj26 t162 t163 t178 t179 t181 t182 _ A47.out).mono ?_); rintro e w112 ⟨rfl, hb⟩; refine ⟨_, rfl, ?_⟩; have n0_ := Aside0.mk (blk_below (g := gb164) (o := .cells #[.int .i64 t162, .int .i64 t163] 23 (0, 0)) (by (with_reducible repeat (first | refine blk_drewN ?_ _ | refine blk_drew ?_ | refine blk_alloc ?_ _)); exact BK164.out) hb); have n1_ := Aside0.mk (below_step (by repeat (first | (with_reducible first | exact HB.out | apply below_alloc | apply pw_below_drewN | apply below_drew1 | refine below_set ?_ GE164.out) | exact HB.out)) hb); clear BK164; clear HB; have BK164 := n0_; have HB := n1_; clear n0_ n1_; (try clear hb); (try clear hb2); (try clear hk); (try clear hi); have hcz113_0 : w112.cell? ⟨gb164, 0, none⟩ = some (.int .i64 t162) := (blk_cell BK164.out 0).trans rfl; have hcz113_1 : w112.cell? ⟨gb164, 1, none⟩ = some (.int .i64 t163) := (blk_cell BK164.out 1).trans rfl; have hfz113_0 := blk_frozen BK164.out 0; have hfz113_1 := blk_frozen BK164.out 1) | ((with_reducible refine gate_callee (f := 12) rfl ?_); refine goesL_ (some 112) rfl rfl Try.func12 (by kernel_rfl) rfl #[.agg #[.int .i64 t162, .int .i64 t163], .int .i64 t178, .int .i64 t179] rfl (by (try simp only [List.map_toArray, List.map_cons, List.map_nil]); first | done | rfl | (simp only [List.length_drop, List.length_take]; rfl)) ?_; (with_reducible refine (place_Member.calls kj26 t162 t163 t178 t179 t183 t184 _ A48.out).mono ?_); rintro e w114 ⟨rfl, hb⟩; refine ⟨_, rfl, ?_⟩; have n0_ := Aside0.mk (blk_below (g := gb164) (o := .cells #[.int .i64 t162, .int .i64 t163] 23 (0, 0)) (by (with_reducible repeat (first | refine blk_drewN ?_ _ | refine blk_drew ?_ | refine blk_alloc ?_ _)); exact BK164.out) hb); have n1_ := Aside0.mk (below_step (by repeat (first | (with_reducible first | exact HB.out | apply below_alloc | apply pw_below_drewN | apply below_drew1 | refine below_set ?_ GE164.out) | exact HB.out)) hb); clear BK164; clear HB; have BK164 := n0_; have HB := n1_; clear n0_ n1_; (try clear hb); (try clear hb2); (try clear hk); (try clear hi); have hcz115_0 : w114.cell? ⟨gb164, 0, none⟩ = some (.int .i64 t162) := (blk_cell BK164.out 0).trans rfl; have hcz115_1 : w114.cell? ⟨gb164, 1, none⟩ = some (.int .i64 t163) := (blk_cell BK164.out 1).trans rfl; have hfz115_0 := blk_frozen BK164.out 0; have hfz115_1 := blk_frozen BK164.out 1) | ((with_reducible refine gate_callee (f := 10) rfl ?_); refine goesL_ (some 119) rfl rfl Try.func10 (by kernel_rfl) rfl #[.agg #[.int .i64 t162, .int .i64 t163], .int .i64 t178, .int .i64 t183] rfl (by (try simp only [List.map_toArray, List.map_cons, List.map_nil]); first | done | rfl | (simp only [List.length_drop, List.length_take]; rfl)) ?_; (with_reducible refine (place_Column.calls kj26 t162 t163 t178 t183 t185 t186 _ A49.out).mono ?_); rintro e w116 ⟨rfl, hb⟩; refine ⟨_, rfl, ?_⟩; have n0_ := Aside0.mk (blk_below (g := gb164) (o := .cells #[.int .i64 t162, .int .i64 t163] 23 (0, 0)) (by (with_reducible repeat (first | refine blk_drewN ?_ _ | refine blk_drew ?_ | refine blk_alloc ?_ _)); exact BK164.out) hb); have n1_ := Aside0.mk (below_step (by repeat (first | (with_reducible first | exact HB.out | apply below_alloc | apply pw_below_drewN | apply below_drew1 | refine below_set ?_ GE164.out) | exact HB.out)) hb); clear BK164; clear HB; have BK164 := n0_; have HB := n1_; clear n0_ n1_; (try clear hb); (try clear hb2); (try clear hk); (try clear hi)))
                      go_ret
                      exact ⟨by first | rfl | (simp [errW_none, errW_some] <;> rfl) | (simp [*, errW_none, errW_some] <;> rfl), by repeat (first | (with_reducible first | exact HB.out | apply below_alloc | apply pw_below_drewN | apply below_drew1 | refine below_set ?_ GE164.out) | exact HB.out)⟩
                  · rw [if_neg c50] at H
                    have c50b0 : (t180 == 0) = false := beq_eq_false_iff_ne.mpr c50
                    have c50b1 : (t180 != 0) = true := bne_iff_ne.mpr c50
                    obtain rfl := Option.some.inj H
                    have hcz117_0 : wc.cell? ⟨gb164, 0, none⟩ = some (.int .i64 t162) := (blk_cell BK164.out 0).trans rfl
                    have hcz117_1 : wc.cell? ⟨gb164, 1, none⟩ = some (.int .i64 t163) := (blk_cell BK164.out 1).trans rfl
                    have hfz117_0 := blk_frozen BK164.out 0
                    have hfz117_1 := blk_frozen BK164.out 1
                    go_wp2_with (first | ((with_reducible refine gate_callee (f := 21) rfl ?_); refine goesL_ (some 97) rfl rfl Try.func21 (by kernel_rfl) rfl #[.agg #[.int .i64 t162, .int .i64 t163], .int .i64 (Int.tmod (wrap64 (a2)) t168)] rfl (by (try simp only [List.map_toArray, List.map_cons, List.map_nil]); first | done | rfl | (simp only [List.length_drop, List.length_take]; rfl)) ?_; (with_reducible refine (place_Of.calls kj26 t162 t163 (Int.tmod (wrap64 (a2)) t168) t178 t179 t180 _ A46.out).mono ?_); rintro e w118 ⟨rfl, hb⟩; refine ⟨_, rfl, ?_⟩; have n0_ := Aside0.mk (blk_below (g := gb164) (o := .cells #[.int .i64 t162, .int .i64 t163] 23 (0, 0)) (by (with_reducible repeat (first | refine blk_drewN ?_ _ | refine blk_drew ?_ | refine blk_alloc ?_ _)); exact BK164.out) hb); have n1_ := Aside0.mk (below_step (by repeat (first | (with_reducible first | exact HB.out | apply below_alloc | apply pw_below_drewN | apply below_drew1 | refine below_set ?_ GE164.out) | exact HB.out)) hb); clear BK164; clear HB; have BK164 := n0_; have HB := n1_; clear n0_ n1_; (try clear hb); (try clear hb2); (try clear hk); (try clear hi); have hcz119_0 : w118.cell? ⟨gb164, 0, none⟩ = some (.int .i64 t162) := (blk_cell BK164.out 0).trans rfl; have hcz119_1 : w118.cell? ⟨gb164, 1, none⟩ = some (.int .i64 t163) := (blk_cell BK164.out 1).trans rfl; have hfz119_0 := blk_frozen BK164.out 0; have hfz119_1 := blk_frozen BK164.out 1) | ((with_reducible refine gate_callee (f := 16) rfl ?_); refine goesL_ (some 105) rfl rfl Try.func16 (by kernel_rfl) rfl #[.agg #[.int .i64 t162, .int .i64 t163], .int .i64 t178, .int .i64 t179] rfl (by (try simp only [List.map_toArray, List.map_cons, List.map_nil]); first | done | rfl | (simp only [List.length_drop, List.length_take]; rfl)) ?_; (with_reducible refine (place_Number.calls kj26 t162 t163 t178 t179 t181 t182 _ A47.out).mono ?_); rintro e w120 ⟨rfl, hb⟩; refine ⟨_, rfl, ?_⟩; have n0_ := Aside0.mk (blk_below (g := gb164) (o := .cells #[.int .i64 t162, .int .i64 t163] 23 (0, 0)) (by (with_reducible repeat (first | refine blk_drewN ?_ _ | refine blk_drew ?_ | refine blk_alloc ?_ _)); exact BK164.out) hb); have n1_ := Aside0.mk (below_step (by repeat (first | (with_reducible first | exact HB.out | apply below_alloc | apply pw_below_drewN | apply below_drew1 | refine below_set ?_ GE164.out) | exact HB.out)) hb); clear BK164; clear HB; have BK164 := n0_; have HB := n1_; clear n0_ n1_; (try clear hb); (try clear hb2); (try clear hk); (try clear hi); have hcz121_0 : w120.cell? ⟨gb164, 0, none⟩ = some (.int .i64 t162) := (blk_cell BK164.out 0).trans rfl; have hcz121_1 : w120.cell? ⟨gb164, 1, none⟩ = some (.int .i64 t163) := (blk_cell BK164.out 1).trans rfl; have hfz121_0 := blk_frozen BK164.out 0; have hfz121_1 := blk_frozen BK164.out 1) | ((with_reducible refine gate_callee (f := 12) rfl ?_); refine goesL_ (some 112) rfl rfl Try.func12 (by kernel_rfl) rfl #[.agg #[.int .i64 t162, .int .i64 t163], .int .i64 t178, .int .i64 t179] rfl (by (try simp only [List.map_toArray, List.map_cons, List.map_nil]); first | done | rfl | (simp only [List.length_drop, List.length_take]; rfl)) ?_; (with_reducible refine (place_Member.calls kj26 t162 t163 t178 t179 t183 t184 _ A48.out).mono ?_); rintro e w122 ⟨rfl, hb⟩; refine ⟨_, rfl, ?_⟩; have n0_ := Aside0.mk (blk_below (g := gb164) (o := .cells #[.int .i64 t162, .int .i64 t163] 23 (0, 0)) (by (with_reducible repeat (first | refine blk_drewN ?_ _ | refine blk_drew ?_ | refine blk_alloc ?_ _)); exact BK164.out) hb); have n1_ := Aside0.mk (below_step (by repeat (first | (with_reducible first | exact HB.out | apply below_alloc | apply pw_below_drewN | apply below_drew1 | refine below_set ?_ GE164.out) | exact HB.out)) hb); clear BK164; clear HB; have BK164 := n0_; have HB := n1_; clear n0_ n1_; (try clear hb); (try clear hb2); (try clear hk); (try clear hi); have hcz123_0 : w122.cell? ⟨gb164, 0, none⟩ = some (.int .i64 t162) := (blk_cell BK164.out 0).trans rfl; have hcz123_1 : w122.cell? ⟨gb164, 1, none⟩ = some (.int .i64 t163) := (blk_cell BK164.out 1).trans rfl; have hfz123_0 := blk_frozen BK164.out 0; have hfz123_1 := blk_frozen BK164.out 1) | ((with_reducible refine gate_callee (f := 10) rfl ?_); refine goesL_ (some 119) rfl rfl Try.func10 (by kernel_rfl) rfl #[.agg #[.int .i64 t162, .int .i64 t163], .int .i64 t178, .int .i64 t183] rfl (by (try simp only [List.map_toArray, List.map_cons, List.map_nil]); first | done | rfl | (simp only [List.length_drop, List.length_take]; rfl)) ?_; (with_reducible refine (place_Column.calls kj26 t162 t163 t178 t183 t185 t186 _ A49.out).mono ?_); rintro e w124 ⟨rfl, hb⟩; refine ⟨_, rfl, ?_⟩; have n0_ := Aside0.mk (blk_below (g := gb164) (o := .cells #[.int .i64 t162, .int .i64 t163] 23 (0, 0)) (by (with_reducible repeat (first | refine blk_drewN ?_ _ | refine blk_drew ?_ | refine blk_alloc ?_ _)); exact BK164.out) hb); have n1_ := Aside0.mk (below_step (by repeat (first | (with_reducible first | exact HB.out | apply below_alloc | apply pw_below_drewN | apply below_drew1 | refine below_set ?_ GE164.out) | exact HB.out)) hb); clear BK164; clear HB; have BK164 := n0_; have HB := n1_; clear n0_ n1_; (try clear hb); (try clear hb2); (try clear hk); (try clear hi)))
                    go_ret
                    exact ⟨by first | rfl | (simp [errW_none, errW_some] <;> rfl) | (simp [*, errW_none, errW_some] <;> rfl), by repeat (first | (with_reducible first | exact HB.out | apply below_alloc | apply pw_below_drewN | apply below_drew1 | refine below_set ?_ GE164.out) | exact HB.out)⟩

/-- THE ONE PURE STATEMENT of casematelaw15_PlaceBack: yours. -/
def casematelaw15_PlaceBack.Pure : Prop := ∀ (a0 : Int) (a1 : Int) (a2 : Int), (Lit.int .u8 a0).wf = true → (Lit.int .u8 a1).wf = true → (Lit.int .u16 a2).wf = true → ∃ k, casematelaw15_PlaceBack.f k a0 a1 a2 = some true
theorem casematelaw15_PlaceBack.walk (P : casematelaw15_PlaceBack.Pure) (a0 : Int) (a1 : Int) (a2 : Int) (w : World) (w0 : (Lit.int .u8 a0).wf = true) (w1 : (Lit.int .u8 a1).wf = true) (w2 : (Lit.int .u16 a2).wf = true) :
    Calls Try.prog 9 #[.int .u8 a0, .int .u8 a1, .int .u16 a2] w fun e w' => e = .returned (.bool true) ∧ Below w.heap.size w w' := by
  obtain ⟨k, h⟩ := P a0 a1 a2 w0 w1 w2
  refine (casematelaw15_PlaceBack.calls k a0 a1 a2 true w h).mono ?_
  rintro e w' ⟨rfl, hd⟩
  exact ⟨rfl, hd⟩

end Go.Proofs.Ytpelcemffincoaa.PPlaceBack
