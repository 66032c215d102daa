-- MADE BY THIS SESSION (fakeprint): not the kit's print
import Derived.Test.YthmdpcdcbfndiaaWk
import Derived.Test.YthmdpcdcbfndiaaPGeomGrowsx0
namespace Go.Proofs.Ythmdpcdcbfndiaa.PGeomGrows
open Go.RowKit Go.Proofs.YthmdpcdcbfndiaaW.PrintWords Go.Proofs.YthmdpcdcbfndiaaW.PrintLast Go.Proofs.YthmdpcdcbfndiaaW.PrintMore
attribute [local go_sem] max2_int min2_int max_two min_two max_three min_three max_four min_four   -- for this text's walks alone
set_option linter.unusedVariables false
set_option linter.unusedSimpArgs false

/-! ### geom_Check: function 9 -/
def geom_Check.f (a0_0 : Int) (a0_1 : Int) : Option (Int) := if a0_0 < 4 then (some 2) else (if a0_0 > 64 then (some 2) else (if a0_1 < 1 then (some 2) else (if a0_1 > 64 then (some 2) else (some 0))))
set_option maxHeartbeats 8000000 in
set_option maxRecDepth 100000 in
theorem geom_Check.calls (a0_0 : Int) (a0_1 : Int) (r : Int) (w : World) (h : geom_Check.f a0_0 a0_1 = some r) :
    Calls Try.prog 9 #[.agg #[.int .i64 a0_0, .int .i64 a0_1]] w fun e w' => e = .returned (.int .i64 r) ∧ Below w.heap.size w w' := by
  have hu23 := Try.underlying23
  have HB := Aside0.mk (Below.refl w.heap.size w)
  have H : (if a0_0 < 4 then (some 2) else (if a0_0 > 64 then (some 2) else (if a0_1 < 1 then (some 2) else (if a0_1 > 64 then (some 2) else (some 0))))) = some r := h
  clear h
  by_cases c2 : a0_0 < 4
  · rw [if_pos c2] at H
    have c2b0 : decide (a0_0 < 4) = true := decide_eq_true c2
    clear c2
    obtain rfl := Option.some.inj H
    go_enter Try.func9, Try.ntmps9
    go_wp2_with (first | ((with_reducible refine gate_dst (N := 1) rfl ?_); refine box_event ?hg (N := 1) ?hd (cs := #[.int .i64 a0_0, .int .i64 a0_1]) (t := 23) ?hr ?_; (case hd => rfl); (case hg => rfl); (case hr => first | (go_simp; done) | (go_simp; rfl)); intro gb101 hg w3 hbox hb; have n0_ := Aside0.mk (below_step (by repeat (first | (with_reducible first | exact HB.out | apply below_alloc | apply pw_below_drewN | apply below_drew1) | exact HB.out)) hb); have n1_ := Aside0.mk (hbox); have n2_ := Aside0.mk ((by rw [hg]; exact (below_size (by repeat (first | (with_reducible first | exact HB.out | apply below_alloc | apply pw_below_drewN | apply below_drew1) | exact HB.out))) : w.heap.size ≤ gb101)); have n3_ := Aside0.mk ((by rw [hg]; exact (below_size (by repeat (first | (with_reducible first | exact HB.out | apply below_alloc | apply pw_below_drewN | apply below_drew1) | exact HB.out))) : w.heap.size ≤ gb101)); clear HB; have HB := n0_; have BK101 := n1_; have GW101 := n2_; have GE101 := n3_; clear n0_ n1_ n2_ n3_; clear hb hbox hg; have hcz4_0 : w3.cell? ⟨gb101, 0, none⟩ = some (.int .i64 a0_0) := (blk_cell BK101.out 0).trans rfl; have hcz4_1 : w3.cell? ⟨gb101, 1, none⟩ = some (.int .i64 a0_1) := (blk_cell BK101.out 1).trans rfl; have hfz4_0 := blk_frozen BK101.out 0; have hfz4_1 := blk_frozen BK101.out 1))
    go_ret
    exact ⟨by first | rfl | (simp [errW_none, errW_some] <;> rfl) | (simp [*, errW_none, errW_some] <;> rfl), by repeat (first | (with_reducible first | exact HB.out | apply below_alloc | apply pw_below_drewN | apply below_drew1 | refine below_set ?_ GE101.out) | exact HB.out)⟩
  · rw [if_neg c2] at H
    have c2b0 : decide (a0_0 < 4) = false := decide_eq_false c2
    clear c2
    by_cases c5 : a0_0 > 64
    · rw [if_pos c5] at H
      have c5b0 : decide (64 < a0_0) = true := decide_eq_true c5
      clear c5
      obtain rfl := Option.some.inj H
      go_enter Try.func9, Try.ntmps9
      go_wp2_with (first | ((with_reducible refine gate_dst (N := 1) rfl ?_); refine box_event ?hg (N := 1) ?hd (cs := #[.int .i64 a0_0, .int .i64 a0_1]) (t := 23) ?hr ?_; (case hd => rfl); (case hg => rfl); (case hr => first | (go_simp; done) | (go_simp; rfl)); intro gb101 hg w6 hbox hb; have n0_ := Aside0.mk (below_step (by repeat (first | (with_reducible first | exact HB.out | apply below_alloc | apply pw_below_drewN | apply below_drew1) | exact HB.out)) hb); have n1_ := Aside0.mk (hbox); have n2_ := Aside0.mk ((by rw [hg]; exact (below_size (by repeat (first | (with_reducible first | exact HB.out | apply below_alloc | apply pw_below_drewN | apply below_drew1) | exact HB.out))) : w.heap.size ≤ gb101)); have n3_ := Aside0.mk ((by rw [hg]; exact (below_size (by repeat (first | (with_reducible first | exact HB.out | apply below_alloc | apply pw_below_drewN | apply below_drew1) | exact HB.out))) : w.heap.size ≤ gb101)); clear HB; have HB := n0_; have BK101 := n1_; have GW101 := n2_; have GE101 := n3_; clear n0_ n1_ n2_ n3_; clear hb hbox hg; have hcz7_0 : w6.cell? ⟨gb101, 0, none⟩ = some (.int .i64 a0_0) := (blk_cell BK101.out 0).trans rfl; have hcz7_1 : w6.cell? ⟨gb101, 1, none⟩ = some (.int .i64 a0_1) := (blk_cell BK101.out 1).trans rfl; have hfz7_0 := blk_frozen BK101.out 0; have hfz7_1 := blk_frozen BK101.out 1))
      go_ret
      exact ⟨by first | rfl | (simp [errW_none, errW_some] <;> rfl) | (simp [*, errW_none, errW_some] <;> rfl), by repeat (first | (with_reducible first | exact HB.out | apply below_alloc | apply pw_below_drewN | apply below_drew1 | refine below_set ?_ GE101.out) | exact HB.out)⟩
    · rw [if_neg c5] at H
      have c5b0 : decide (64 < a0_0) = false := decide_eq_false c5
      clear c5
      by_cases c8 : a0_1 < 1
      · rw [if_pos c8] at H
        have c8b0 : decide (a0_1 < 1) = true := decide_eq_true c8
        clear c8
        obtain rfl := Option.some.inj H
        go_enter Try.func9, Try.ntmps9
        go_wp2_with (first | ((with_reducible refine gate_dst (N := 1) rfl ?_); refine box_event ?hg (N := 1) ?hd (cs := #[.int .i64 a0_0, .int .i64 a0_1]) (t := 23) ?hr ?_; (case hd => rfl); (case hg => rfl); (case hr => first | (go_simp; done) | (go_simp; rfl)); intro gb101 hg w9 hbox hb; have n0_ := Aside0.mk (below_step (by repeat (first | (with_reducible first | exact HB.out | apply below_alloc | apply pw_below_drewN | apply below_drew1) | exact HB.out)) hb); have n1_ := Aside0.mk (hbox); have n2_ := Aside0.mk ((by rw [hg]; exact (below_size (by repeat (first | (with_reducible first | exact HB.out | apply below_alloc | apply pw_below_drewN | apply below_drew1) | exact HB.out))) : w.heap.size ≤ gb101)); have n3_ := Aside0.mk ((by rw [hg]; exact (below_size (by repeat (first | (with_reducible first | exact HB.out | apply below_alloc | apply pw_below_drewN | apply below_drew1) | exact HB.out))) : w.heap.size ≤ gb101)); clear HB; have HB := n0_; have BK101 := n1_; have GW101 := n2_; have GE101 := n3_; clear n0_ n1_ n2_ n3_; clear hb hbox hg; have hcz10_0 : w9.cell? ⟨gb101, 0, none⟩ = some (.int .i64 a0_0) := (blk_cell BK101.out 0).trans rfl; have hcz10_1 : w9.cell? ⟨gb101, 1, none⟩ = some (.int .i64 a0_1) := (blk_cell BK101.out 1).trans rfl; have hfz10_0 := blk_frozen BK101.out 0; have hfz10_1 := blk_frozen BK101.out 1))
        go_ret
        exact ⟨by first | rfl | (simp [errW_none, errW_some] <;> rfl) | (simp [*, errW_none, errW_some] <;> rfl), by repeat (first | (with_reducible first | exact HB.out | apply below_alloc | apply pw_below_drewN | apply below_drew1 | refine below_set ?_ GE101.out) | exact HB.out)⟩
      · rw [if_neg c8] at H
        have c8b0 : decide (a0_1 < 1) = false := decide_eq_false c8
        clear c8
        by_cases c11 : a0_1 > 64
        · rw [if_pos c11] at H
          have c11b0 : decide (64 < a0_1) = true := decide_eq_true c11
          clear c11
          obtain rfl := Option.some.inj H
          go_enter Try.func9, Try.ntmps9
          go_wp2_with (first | ((with_reducible refine gate_dst (N := 1) rfl ?_); refine box_event ?hg (N := 1) ?hd (cs := #[.int .i64 a0_0, .int .i64 a0_1]) (t := 23) ?hr ?_; (case hd => rfl); (case hg => rfl); (case hr => first | (go_simp; done) | (go_simp; rfl)); intro gb101 hg w12 hbox hb; have n0_ := Aside0.mk (below_step (by repeat (first | (with_reducible first | exact HB.out | apply below_alloc | apply pw_below_drewN | apply below_drew1) | exact HB.out)) hb); have n1_ := Aside0.mk (hbox); have n2_ := Aside0.mk ((by rw [hg]; exact (below_size (by repeat (first | (with_reducible first | exact HB.out | apply below_alloc | apply pw_below_drewN | apply below_drew1) | exact HB.out))) : w.heap.size ≤ gb101)); have n3_ := Aside0.mk ((by rw [hg]; exact (below_size (by repeat (first | (with_reducible first | exact HB.out | apply below_alloc | apply pw_below_drewN | apply below_drew1) | exact HB.out))) : w.heap.size ≤ gb101)); clear HB; have HB := n0_; have BK101 := n1_; have GW101 := n2_; have GE101 := n3_; clear n0_ n1_ n2_ n3_; clear hb hbox hg; have hcz13_0 : w12.cell? ⟨gb101, 0, none⟩ = some (.int .i64 a0_0) := (blk_cell BK101.out 0).trans rfl; have hcz13_1 : w12.cell? ⟨gb101, 1, none⟩ = some (.int .i64 a0_1) := (blk_cell BK101.out 1).trans rfl; have hfz13_0 := blk_frozen BK101.out 0; have hfz13_1 := blk_frozen BK101.out 1))
          go_ret
          exact ⟨by first | rfl | (simp [errW_none, errW_some] <;> rfl) | (simp [*, errW_none, errW_some] <;> rfl), by repeat (first | (with_reducible first | exact HB.out | apply below_alloc | apply pw_below_drewN | apply below_drew1 | refine below_set ?_ GE101.out) | exact HB.out)⟩
        · rw [if_neg c11] at H
          have c11b0 : decide (64 < a0_1) = false := decide_eq_false c11
          clear c11
          obtain rfl := Option.some.inj H
          go_enter Try.func9, Try.ntmps9
          go_wp2_with (first | ((with_reducible refine gate_dst (N := 1) rfl ?_); refine box_event ?hg (N := 1) ?hd (cs := #[.int .i64 a0_0, .int .i64 a0_1]) (t := 23) ?hr ?_; (case hd => rfl); (case hg => rfl); (case hr => first | (go_simp; done) | (go_simp; rfl)); intro gb101 hg w14 hbox hb; have n0_ := Aside0.mk (below_step (by repeat (first | (with_reducible first | exact HB.out | apply below_alloc | apply pw_below_drewN | apply below_drew1) | exact HB.out)) hb); have n1_ := Aside0.mk (hbox); have n2_ := Aside0.mk ((by rw [hg]; exact (below_size (by repeat (first | (with_reducible first | exact HB.out | apply below_alloc | apply pw_below_drewN | apply below_drew1) | exact HB.out))) : w.heap.size ≤ gb101)); have n3_ := Aside0.mk ((by rw [hg]; exact (below_size (by repeat (first | (with_reducible first | exact HB.out | apply below_alloc | apply pw_below_drewN | apply below_drew1) | exact HB.out))) : w.heap.size ≤ gb101)); clear HB; have HB := n0_; have BK101 := n1_; have GW101 := n2_; have GE101 := n3_; clear n0_ n1_ n2_ n3_; clear hb hbox hg; have hcz15_0 : w14.cell? ⟨gb101, 0, none⟩ = some (.int .i64 a0_0) := (blk_cell BK101.out 0).trans rfl; have hcz15_1 : w14.cell? ⟨gb101, 1, none⟩ = some (.int .i64 a0_1) := (blk_cell BK101.out 1).trans rfl; have hfz15_0 := blk_frozen BK101.out 0; have hfz15_1 := blk_frozen BK101.out 1))
          go_ret
          exact ⟨by first | rfl | (simp [errW_none, errW_some] <;> rfl) | (simp [*, errW_none, errW_some] <;> rfl), by repeat (first | (with_reducible first | exact HB.out | apply below_alloc | apply pw_below_drewN | apply below_drew1 | refine below_set ?_ GE101.out) | exact HB.out)⟩

/-! ### geom_is: function 30 -/
def geom_is.f (a0_0 : Int) (a0_1 : Int) : Option (Bool) := (geom_Check.f a0_0 a0_1).bind fun t103 => (some (t103 == 0))
set_option maxHeartbeats 8000000 in
set_option maxRecDepth 100000 in
theorem geom_is.calls (a0_0 : Int) (a0_1 : Int) (r : Bool) (w : World) (h : geom_is.f a0_0 a0_1 = some r) :
    Calls Try.prog 30 #[.agg #[.int .i64 a0_0, .int .i64 a0_1]] w fun e w' => e = .returned (.bool r) ∧ Below w.heap.size w w' := by
  have hu23 := Try.underlying23
  have HB := Aside0.mk (Below.refl w.heap.size w)
  have H : ((geom_Check.f a0_0 a0_1).bind fun t103 => (some (t103 == 0))) = some r := h
  clear h
  replace H := Option.bind_eq_some_iff.mp H
  obtain ⟨t103, A20, H⟩ := H
  replace H : (some (t103 == 0)) = some r := H
  have A2 := Aside0.mk A20
  clear A20
  obtain rfl := Option.some.inj H
  go_enter Try.func30, Try.ntmps30
  go_wp2_with (first | ((with_reducible refine gate_dst (N := 1) rfl ?_); refine box_event ?hg (N := 1) ?hd (cs := #[.int .i64 a0_0, .int .i64 a0_1]) (t := 23) ?hr ?_; (case hd => rfl); (case hg => rfl); (case hr => first | (go_simp; done) | (go_simp; rfl)); intro gb102 hg w3 hbox hb; have n0_ := Aside0.mk (below_step (by repeat (first | (with_reducible first | exact HB.out | apply below_alloc | apply pw_below_drewN | apply below_drew1) | exact HB.out)) hb); have n1_ := Aside0.mk (hbox); have n2_ := Aside0.mk ((by rw [hg]; exact (below_size (by repeat (first | (with_reducible first | exact HB.out | apply below_alloc | apply pw_below_drewN | apply below_drew1) | exact HB.out))) : w.heap.size ≤ gb102)); have n3_ := Aside0.mk ((by rw [hg]; exact (below_size (by repeat (first | (with_reducible first | exact HB.out | apply below_alloc | apply pw_below_drewN | apply below_drew1) | exact HB.out))) : w.heap.size ≤ gb102)); clear HB; have HB := n0_; have BK102 := n1_; have GW102 := n2_; have GE102 := n3_; clear n0_ n1_ n2_ n3_; clear hb hbox hg; have hcz4_0 : w3.cell? ⟨gb102, 0, none⟩ = some (.int .i64 a0_0) := (blk_cell BK102.out 0).trans rfl; have hcz4_1 : w3.cell? ⟨gb102, 1, none⟩ = some (.int .i64 a0_1) := (blk_cell BK102.out 1).trans rfl; have hfz4_0 := blk_frozen BK102.out 0; have hfz4_1 := blk_frozen BK102.out 1) | ((with_reducible refine gate_callee (f := 9) rfl ?_); refine goesL_ (some 4) rfl rfl Try.func9 (by kernel_rfl) rfl #[.agg #[.int .i64 a0_0, .int .i64 a0_1]] rfl (by (try simp only [List.map_toArray, List.map_cons, List.map_nil]); first | done | rfl | (simp only [List.length_drop, List.length_take]; rfl)) ?_; (with_reducible refine (geom_Check.calls a0_0 a0_1 t103 _ A2.out).mono ?_); rintro e w5 ⟨rfl, hb⟩; refine ⟨_, rfl, ?_⟩; have n0_ := Aside0.mk (blk_below (g := gb102) (o := .cells #[.int .i64 a0_0, .int .i64 a0_1] 23 (0, 0)) (by (with_reducible repeat (first | refine blk_drewN ?_ _ | refine blk_drew ?_ | refine blk_alloc ?_ _)); exact BK102.out) hb); have n1_ := Aside0.mk (below_step (by repeat (first | (with_reducible first | exact HB.out | apply below_alloc | apply pw_below_drewN | apply below_drew1 | refine below_set ?_ GE102.out) | exact HB.out)) hb); clear BK102; clear HB; have BK102 := n0_; have HB := n1_; clear n0_ n1_; (try clear hb); (try clear hb2); (try clear hk); (try clear hi)))
  go_ret
  exact ⟨by first | rfl | (simp [errW_none, errW_some] <;> rfl) | (simp [*, errW_none, errW_some] <;> rfl), by repeat (first | (with_reducible first | exact HB.out | apply below_alloc | apply pw_below_drewN | apply below_drew1 | refine below_set ?_ GE102.out) | exact HB.out)⟩

/-! ### geom_Leaves: function 11 -/
def geom_Leaves.f (a0_0 : Int) (a0_1 : Int) : Option (Int) := (geom_is.f a0_0 a0_1).bind fun t105 => (if t105 = true then (some (wrap64 (a0_0 * a0_1))) else (some 0))
set_option maxHeartbeats 8000000 in
set_option maxRecDepth 100000 in
theorem geom_Leaves.calls (a0_0 : Int) (a0_1 : Int) (r : Int) (w : World) (h : geom_Leaves.f a0_0 a0_1 = some r) :
    Calls Try.prog 11 #[.agg #[.int .i64 a0_0, .int .i64 a0_1]] w fun e w' => e = .returned (.int .i64 r) ∧ Below w.heap.size w w' := by
  have hu23 := Try.underlying23
  have HB := Aside0.mk (Below.refl w.heap.size w)
  have H : ((geom_is.f a0_0 a0_1).bind fun t105 => (if t105 = true then (some (wrap64 (a0_0 * a0_1))) else (some 0))) = some r := h
  clear h
  replace H := Option.bind_eq_some_iff.mp H
  obtain ⟨t105, A20, H⟩ := H
  replace H : (if t105 = true then (some (wrap64 (a0_0 * a0_1))) else (some 0)) = some r := H
  have A2 := Aside0.mk A20
  clear A20
  by_cases c3 : t105 = true
  · subst c3
    have H1 : (some (wrap64 (a0_0 * a0_1))) = some r := by rw [if_pos rfl] at H; exact H
    clear H
    have H := H1
    clear H1
    obtain rfl := Option.some.inj H
    go_enter Try.func11, Try.ntmps11
    go_wp2_with (first | ((with_reducible refine gate_dst (N := 1) rfl ?_); refine box_event ?hg (N := 1) ?hd (cs := #[.int .i64 a0_0, .int .i64 a0_1]) (t := 23) ?hr ?_; (case hd => rfl); (case hg => rfl); (case hr => first | (go_simp; done) | (go_simp; rfl)); intro gb104 hg w4 hbox hb; have n0_ := Aside0.mk (below_step (by repeat (first | (with_reducible first | exact HB.out | apply below_alloc | apply pw_below_drewN | apply below_drew1) | exact HB.out)) hb); have n1_ := Aside0.mk (hbox); have n2_ := Aside0.mk ((by rw [hg]; exact (below_size (by repeat (first | (with_reducible first | exact HB.out | apply below_alloc | apply pw_below_drewN | apply below_drew1) | exact HB.out))) : w.heap.size ≤ gb104)); have n3_ := Aside0.mk ((by rw [hg]; exact (below_size (by repeat (first | (with_reducible first | exact HB.out | apply below_alloc | apply pw_below_drewN | apply below_drew1) | exact HB.out))) : w.heap.size ≤ gb104)); clear HB; have HB := n0_; have BK104 := n1_; have GW104 := n2_; have GE104 := n3_; clear n0_ n1_ n2_ n3_; clear hb hbox hg; have hcz5_0 : w4.cell? ⟨gb104, 0, none⟩ = some (.int .i64 a0_0) := (blk_cell BK104.out 0).trans rfl; have hcz5_1 : w4.cell? ⟨gb104, 1, none⟩ = some (.int .i64 a0_1) := (blk_cell BK104.out 1).trans rfl; have hfz5_0 := blk_frozen BK104.out 0; have hfz5_1 := blk_frozen BK104.out 1) | ((with_reducible refine gate_callee (f := 30) rfl ?_); refine goesL_ (some 4) rfl rfl Try.func30 (by kernel_rfl) rfl #[.agg #[.int .i64 a0_0, .int .i64 a0_1]] rfl (by (try simp only [List.map_toArray, List.map_cons, List.map_nil]); first | done | rfl | (simp only [List.length_drop, List.length_take]; rfl)) ?_; (with_reducible refine (geom_is.calls a0_0 a0_1 true _ A2.out).mono ?_); rintro e w6 ⟨rfl, hb⟩; refine ⟨_, rfl, ?_⟩; have n0_ := Aside0.mk (blk_below (g := gb104) (o := .cells #[.int .i64 a0_0, .int .i64 a0_1] 23 (0, 0)) (by (with_reducible repeat (first | refine blk_drewN ?_ _ | refine blk_drew ?_ | refine blk_alloc ?_ _)); exact BK104.out) hb); have n1_ := Aside0.mk (below_step (by repeat (first | (with_reducible first | exact HB.out | apply below_alloc | apply pw_below_drewN | apply below_drew1 | refine below_set ?_ GE104.out) | exact HB.out)) hb); clear BK104; clear HB; have BK104 := n0_; have HB := n1_; clear n0_ n1_; (try clear hb); (try clear hb2); (try clear hk); (try clear hi); have hcz7_0 : w6.cell? ⟨gb104, 0, none⟩ = some (.int .i64 a0_0) := (blk_cell BK104.out 0).trans rfl; have hcz7_1 : w6.cell? ⟨gb104, 1, none⟩ = some (.int .i64 a0_1) := (blk_cell BK104.out 1).trans rfl; have hfz7_0 := blk_frozen BK104.out 0; have hfz7_1 := blk_frozen BK104.out 1))
    go_ret
    exact ⟨by first | rfl | (simp [errW_none, errW_some] <;> rfl) | (simp [*, errW_none, errW_some] <;> rfl), by repeat (first | (with_reducible first | exact HB.out | apply below_alloc | apply pw_below_drewN | apply below_drew1 | refine below_set ?_ GE104.out) | exact HB.out)⟩
  · replace c3 := Bool.eq_false_iff.mpr c3
    subst c3
    have H1 : (some 0) = some r := by rw [if_neg (show ¬ (false = true) by decide)] at H; exact H
    clear H
    have H := H1
    clear H1
    obtain rfl := Option.some.inj H
    go_enter Try.func11, Try.ntmps11
    go_wp2_with (first | ((with_reducible refine gate_dst (N := 1) rfl ?_); refine box_event ?hg (N := 1) ?hd (cs := #[.int .i64 a0_0, .int .i64 a0_1]) (t := 23) ?hr ?_; (case hd => rfl); (case hg => rfl); (case hr => first | (go_simp; done) | (go_simp; rfl)); intro gb104 hg w8 hbox hb; have n0_ := Aside0.mk (below_step (by repeat (first | (with_reducible first | exact HB.out | apply below_alloc | apply pw_below_drewN | apply below_drew1) | exact HB.out)) hb); have n1_ := Aside0.mk (hbox); have n2_ := Aside0.mk ((by rw [hg]; exact (below_size (by repeat (first | (with_reducible first | exact HB.out | apply below_alloc | apply pw_below_drewN | apply below_drew1) | exact HB.out))) : w.heap.size ≤ gb104)); have n3_ := Aside0.mk ((by rw [hg]; exact (below_size (by repeat (first | (with_reducible first | exact HB.out | apply below_alloc | apply pw_below_drewN | apply below_drew1) | exact HB.out))) : w.heap.size ≤ gb104)); clear HB; have HB := n0_; have BK104 := n1_; have GW104 := n2_; have GE104 := n3_; clear n0_ n1_ n2_ n3_; clear hb hbox hg; have hcz9_0 : w8.cell? ⟨gb104, 0, none⟩ = some (.int .i64 a0_0) := (blk_cell BK104.out 0).trans rfl; have hcz9_1 : w8.cell? ⟨gb104, 1, none⟩ = some (.int .i64 a0_1) := (blk_cell BK104.out 1).trans rfl; have hfz9_0 := blk_frozen BK104.out 0; have hfz9_1 := blk_frozen BK104.out 1) | ((with_reducible refine gate_callee (f := 30) rfl ?_); refine goesL_ (some 4) rfl rfl Try.func30 (by kernel_rfl) rfl #[.agg #[.int .i64 a0_0, .int .i64 a0_1]] rfl (by (try simp only [List.map_toArray, List.map_cons, List.map_nil]); first | done | rfl | (simp only [List.length_drop, List.length_take]; rfl)) ?_; (with_reducible refine (geom_is.calls a0_0 a0_1 false _ A2.out).mono ?_); rintro e w10 ⟨rfl, hb⟩; refine ⟨_, rfl, ?_⟩; have n0_ := Aside0.mk (blk_below (g := gb104) (o := .cells #[.int .i64 a0_0, .int .i64 a0_1] 23 (0, 0)) (by (with_reducible repeat (first | refine blk_drewN ?_ _ | refine blk_drew ?_ | refine blk_alloc ?_ _)); exact BK104.out) hb); have n1_ := Aside0.mk (below_step (by repeat (first | (with_reducible first | exact HB.out | apply below_alloc | apply pw_below_drewN | apply below_drew1 | refine below_set ?_ GE104.out) | exact HB.out)) hb); clear BK104; clear HB; have BK104 := n0_; have HB := n1_; clear n0_ n1_; (try clear hb); (try clear hb2); (try clear hk); (try clear hi)))
    go_ret
    exact ⟨by first | rfl | (simp [errW_none, errW_some] <;> rfl) | (simp [*, errW_none, errW_some] <;> rfl), by repeat (first | (with_reducible first | exact HB.out | apply below_alloc | apply pw_below_drewN | apply below_drew1 | refine below_set ?_ GE104.out) | exact HB.out)⟩

/-! ### geom_Height: function 13 -/
def geom_Height.l0 : Nat → Int → Int → Int → Option (Int)
  | 0, _, _, _ => none
  | k + 1, x3, x107000, x107001 => if 0 ≤ x3 then ((geom_Leaves.f x107000 x107001).bind fun t107 => (if (shl .i64 1 x3) < t107 then (geom_Height.l0 k (wrap64 (x3 + 1)) x107000 x107001) else (some x3))) else (none)
def geom_Height.f (k : Nat) (a0_0 : Int) (a0_1 : Int) : Option (Int) := geom_Height.l0 k 0 a0_0 a0_1
theorem geom_Height.mono_l : ∀ k, (∀ y0 y1 y2, LeO (geom_Height.l0 k y0 y1 y2) (geom_Height.l0 (k + 1) y0 y1 y2))
  | 0 => fun _ _ _ r h => by simp [geom_Height.l0] at h
  | k + 1 => by
    have ih0 := geom_Height.mono_l k
    · intro y0 y1 y2
      unfold geom_Height.l0
      repeat' first
      | (with_reducible exact ih0 _ _ _)
      | (with_reducible exact LeO.refl _)
      | (with_reducible exact LeO.none _)
      | (with_reducible refine LeO.ite ?_ ?_)
      | (with_reducible refine LeO.bind ?_ (fun _ => ?_))
      | exact ih0 _ _ _
      | exact LeO.none _
      | refine LeO.ite ?_ ?_
      | refine LeO.bind ?_ (fun _ => ?_)
theorem geom_Height.mono : ∀ a0 a1 k, LeO (geom_Height.f k a0 a1) (geom_Height.f (k + 1) a0 a1) := by
  intro a0 a1 k
  have ih0 := geom_Height.mono_l k
  unfold geom_Height.f
  repeat' first
      | (with_reducible exact ih0 _ _ _)
      | (with_reducible exact LeO.refl _)
      | (with_reducible exact LeO.none _)
      | (with_reducible refine LeO.ite ?_ ?_)
      | (with_reducible refine LeO.bind ?_ (fun _ => ?_))
      | exact ih0 _ _ _
      | exact LeO.none _
      | refine LeO.ite ?_ ?_
      | refine LeO.bind ?_ (fun _ => ?_)
set_option maxHeartbeats 8000000 in
set_option maxRecDepth 100000 in
theorem geom_Height.calls (k : Nat) (a0_0 : Int) (a0_1 : Int) (r : Int) (w : World) (h : geom_Height.f k a0_0 a0_1 = some r) :
    Calls Try.prog 13 #[.agg #[.int .i64 a0_0, .int .i64 a0_1]] w fun e w' => e = .returned (.int .i64 r) ∧ Below w.heap.size w w' := by
  have hu23 := Try.underlying23
  have HB := Aside0.mk (Below.refl w.heap.size w)
  have H : (geom_Height.l0 k 0 a0_0 a0_1) = some r := h
  clear h
  have H' := Aside0.mk H
  clear H
  go_enter Try.func13, Try.ntmps13
  go_wp2_with (first | ((with_reducible refine gate_dst (N := 1) rfl ?_); refine box_event ?hg (N := 1) ?hd (cs := #[.int .i64 a0_0, .int .i64 a0_1]) (t := 23) ?hr ?_; (case hd => rfl); (case hg => rfl); (case hr => first | (go_simp; done) | (go_simp; rfl)); intro gb106 hg w2 hbox hb; have n0_ := Aside0.mk (below_step (by repeat (first | (with_reducible first | exact HB.out | apply below_alloc | apply pw_below_drewN | apply below_drew1) | exact HB.out)) hb); have n1_ := Aside0.mk (hbox); have n2_ := Aside0.mk ((by rw [hg]; exact (below_size (by repeat (first | (with_reducible first | exact HB.out | apply below_alloc | apply pw_below_drewN | apply below_drew1) | exact HB.out))) : w.heap.size ≤ gb106)); have n3_ := Aside0.mk ((by rw [hg]; exact (below_size (by repeat (first | (with_reducible first | exact HB.out | apply below_alloc | apply pw_below_drewN | apply below_drew1) | exact HB.out))) : w.heap.size ≤ gb106)); clear HB; have HB := n0_; have BK106 := n1_; have GW106 := n2_; have GE106 := n3_; clear n0_ n1_ n2_ n3_; clear hb hbox hg))
  go_loopg [3] k (fun kq v3 w' => ∃ (x3_1 : Int), v3 = .int .i64 x3_1 ∧ Aside0 (geom_Height.l0 kq x3_1 a0_0 a0_1 = some r) ∧ Aside0 (kq ≤ k) ∧ Aside0 (w'.heap[gb106]? = some (.cells #[.int .i64 a0_0, .int .i64 a0_1] 23 (0, 0))) ∧ Aside0 (Below w.heap.size w w'))
  case atStart => exact ⟨(0), (by first | rfl | (simp; done) | (simp [*]; done)), H', ⟨Nat.le_refl _⟩, ⟨by (with_reducible repeat (first | refine blk_drewN ?_ _ | refine blk_drew ?_ | refine blk_alloc ?_ _)); exact BK106.out⟩, ⟨by repeat (first | (with_reducible first | exact HB.out | apply below_alloc | apply pw_below_drewN | apply below_drew1 | refine below_set ?_ GE106.out) | exact HB.out)⟩⟩
  case round =>
    clear H'
    try clear c1
    try clear p2
    obtain ⟨x3_1, rfl, HA, HK1, BK106, HB⟩ := hrel
    cases gk with
    | zero => exact absurd HA.out (by simp [geom_Height.l0])
    | succ k1 =>
      have H := HA.out
      clear HA
      simp only [geom_Height.l0] at H
      by_cases c3 : 0 ≤ x3_1
      · rw [if_pos c3] at H
        have c3b0 := eq_true c3
        have c3b1 : decide (0 ≤ x3_1) = true := decide_eq_true c3
        clear c3
        obtain ⟨ji4, hji4⟩ : ∃ j_ : Int, (shl .i64 1 x3_1) = j_ := ⟨_, rfl⟩
        replace H : ((geom_Leaves.f a0_0 a0_1).bind fun t107 => (if (ji4) < t107 then (geom_Height.l0 k1 (wrap64 (x3_1 + 1)) a0_0 a0_1) else (some x3_1))) = some r := by first | (rw [hji4] at H; exact H) | (simp only [hji4] at H ⊢; exact H)
        have hji4_ : (IntKind.i64.wrap (1 * 2 ^ min x3_1.toNat 64)) = ji4 := hji4
        have hji4z : x3_1 ≤ 64 → (IntKind.i64.wrap (1 * 2 ^ x3_1.toNat)) = ji4 := shl_small hji4
        have hji4u : (IntKind.i64.wrap (2 ^ min x3_1.toNat 64)) = ji4 := by have h_ := hji4_; rw [Int.one_mul] at h_; exact h_
        have hji4v : x3_1 ≤ 64 → (IntKind.i64.wrap (2 ^ x3_1.toNat)) = ji4 := fun hle_ => by have h_ := hji4z hle_; rw [Int.one_mul] at h_; exact h_
        have hji4y : (wrap64 (1 * 2 ^ min x3_1.toNat 64)) = ji4 := (i64_w _).symm.trans hji4_
        have hji4x : x3_1 ≤ 64 → (wrap64 (1 * 2 ^ x3_1.toNat)) = ji4 := fun h_ => (i64_w _).symm.trans (hji4z h_)
        replace H := Option.bind_eq_some_iff.mp H
        obtain ⟨t107, A50, H⟩ := H
        replace H : (if (ji4) < t107 then (geom_Height.l0 k1 (wrap64 (x3_1 + 1)) a0_0 a0_1) else (some x3_1)) = some r := H
        have A5 := Aside0.mk A50
        clear A50
        by_cases c6 : (ji4) < t107
        · rw [if_pos c6] at H
          have c6b0 : decide ((ji4) < t107) = true := decide_eq_true c6
          clear c6
          have H' := Aside0.mk H
          clear H
          try go_wp2
          have n0_ := Aside0.mk (blk_drew BK106.out)
          have n1_ := Aside0.mk (below_drew1 HB.out)
          clear BK106
          clear HB
          have BK106 := n0_
          have HB := n1_
          clear n0_ n1_
          refine start_ (n := 5) (S := fun w' => w'.cell? ⟨gb106, 0, none⟩ = some (.int .i64 a0_0) ∧ w'.cell? ⟨gb106, 1, none⟩ = some (.int .i64 a0_1)) (ds := []) #[false, false, false, false, false] (by kernel_rfl) rfl rfl ⟨(blk_cell BK106.out 0).trans rfl, (blk_cell BK106.out 1).trans rfl⟩ (fun hHeld => ?_)
          generalize wr.drew = w7 at BK106 HB hHeld ⊢
          refine pure_ (i := 0) (N := some 4) (v := ?_) (a' := ?_) #[true, false, false, false, false] rfl rfl (by kernel_rfl) (fun _ _ _ h => h) (Or.inl ⟨by rfl, ?_⟩) ?_ ?_
          rotate_left
          · intro w'
            go_simp
            with_reducible rfl
          rotate_left
          · simp only [Act.put, List.setIfInBounds_toArray, List.set_cons_zero, List.set_cons_succ, i64_w, i32_w]
            rfl
          refine pure_ (i := 1) (N := some 5) (v := ?_) (a' := ?_) #[true, true, false, false, false] rfl rfl (by kernel_rfl) (fun _ _ _ h => h) (Or.inl ⟨by rfl, ?_⟩) ?_ ?_
          rotate_left
          · intro w'
            go_simp
            with_reducible rfl
          rotate_left
          · simp only [Act.put, List.setIfInBounds_toArray, List.set_cons_zero, List.set_cons_succ, i64_w, i32_w]
            rfl
          refine take_ (i := 2) (N := some 6) (v := ?_) (a' := ?_) #[true, true, true, false, false] rfl rfl (by kernel_rfl) (fun _ _ _ h => h) (Or.inl ⟨by rfl, ?_⟩) hHeld ?_ ?_
          rotate_left
          · rintro w' ⟨s0, s1⟩
            go_simp
            with_reducible rfl
          rotate_left
          · simp only [Act.put, List.setIfInBounds_toArray, List.set_cons_zero, List.set_cons_succ, i64_w, i32_w]
            rfl
          refine one_ (i := 3) (N := some 7) #[true, true, true, true, false] rfl rfl (by kernel_rfl) (by decide) (fun K hK => ?_)
          refine goes_ Try.func11 (by kernel_rfl) rfl #[.agg #[.int .i64 a0_0, .int .i64 a0_1]] (by rfl) rfl rfl (by (try simp only [List.map_toArray, List.map_cons, List.map_nil]); first | done | rfl | (simp only [List.length_drop, List.length_take]; rfl)) ?_
          with_reducible refine (geom_Leaves.calls a0_0 a0_1 t107 _ A5.out).mono ?_
          rintro e w8 ⟨rfl, hb⟩
          refine ⟨_, rfl, ?_⟩
          have n0_ := Aside0.mk (blk_below (g := gb106) (o := .cells #[.int .i64 a0_0, .int .i64 a0_1] 23 (0, 0)) (by (with_reducible repeat (first | refine blk_drewN ?_ _ | refine blk_drew ?_ | refine blk_alloc ?_ _)); exact BK106.out) hb)
          have n1_ := Aside0.mk (below_step (by repeat (first | (with_reducible first | exact HB.out | apply below_alloc | apply pw_below_drewN | apply below_drew1 | refine below_set ?_ GE106.out) | exact HB.out)) hb)
          clear BK106
          clear HB
          have BK106 := n0_
          have HB := n1_
          clear n0_ n1_
          (try clear hb)
          (try clear hb2)
          (try clear hk)
          (try clear hi)
          refine hK.out _ _ ⟨(blk_cell BK106.out 0).trans rfl, (blk_cell BK106.out 1).trans rfl⟩ (fun hHeld => ?_)
          clear hK K
          refine norm_ (a' := ?_) ?_ ?_
          rotate_left
          · show Act.put _ (some 7) _ = _
            simp only [Act.put, List.setIfInBounds_toArray, List.set_cons_zero, List.set_cons_succ, i64_w, i32_w]
            rfl
          refine pure_ (i := 4) (N := some 8) (v := ?_) (a' := ?_) #[true, true, true, true, true] rfl rfl (by kernel_rfl) (fun _ _ _ h => h) (Or.inl ⟨by rfl, ?_⟩) ?_ ?_
          rotate_left
          · intro w'
            go_simp
            with_reducible rfl
          rotate_left
          · simp only [Act.put, List.setIfInBounds_toArray, List.set_cons_zero, List.set_cons_succ, i64_w, i32_w]
            rfl
          refine done_ (by kernel_rfl) ?_
          try go_wp2
          go_roundg k1
          case measure => have := HK1.out; omega
          case rel => exact ⟨(wrap64 (x3_1 + 1)), (by first | rfl | (simp; done) | (simp [*]; done)), H', ⟨by have := HK1.out; omega⟩, ⟨by (with_reducible repeat (first | refine blk_drewN ?_ _ | refine blk_drew ?_ | refine blk_alloc ?_ _)); exact BK106.out⟩, ⟨by repeat (first | (with_reducible first | exact HB.out | apply below_alloc | apply pw_below_drewN | apply below_drew1 | refine below_set ?_ GE106.out) | exact HB.out)⟩⟩
        · rw [if_neg c6] at H
          have c6b0 : decide ((ji4) < t107) = false := decide_eq_false c6
          clear c6
          obtain rfl := Option.some.inj H
          try go_wp2
          have n0_ := Aside0.mk (blk_drew BK106.out)
          have n1_ := Aside0.mk (below_drew1 HB.out)
          clear BK106
          clear HB
          have BK106 := n0_
          have HB := n1_
          clear n0_ n1_
          refine start_ (n := 5) (S := fun w' => w'.cell? ⟨gb106, 0, none⟩ = some (.int .i64 a0_0) ∧ w'.cell? ⟨gb106, 1, none⟩ = some (.int .i64 a0_1)) (ds := []) #[false, false, false, false, false] (by kernel_rfl) rfl rfl ⟨(blk_cell BK106.out 0).trans rfl, (blk_cell BK106.out 1).trans rfl⟩ (fun hHeld => ?_)
          generalize wr.drew = w9 at BK106 HB hHeld ⊢
          refine pure_ (i := 0) (N := some 4) (v := ?_) (a' := ?_) #[true, false, false, false, false] rfl rfl (by kernel_rfl) (fun _ _ _ h => h) (Or.inl ⟨by rfl, ?_⟩) ?_ ?_
          rotate_left
          · intro w'
            go_simp
            with_reducible rfl
          rotate_left
          · simp only [Act.put, List.setIfInBounds_toArray, List.set_cons_zero, List.set_cons_succ, i64_w, i32_w]
            rfl
          refine pure_ (i := 1) (N := some 5) (v := ?_) (a' := ?_) #[true, true, false, false, false] rfl rfl (by kernel_rfl) (fun _ _ _ h => h) (Or.inl ⟨by rfl, ?_⟩) ?_ ?_
          rotate_left
          · intro w'
            go_simp
            with_reducible rfl
          rotate_left
          · simp only [Act.put, List.setIfInBounds_toArray, List.set_cons_zero, List.set_cons_succ, i64_w, i32_w]
            rfl
          refine take_ (i := 2) (N := some 6) (v := ?_) (a' := ?_) #[true, true, true, false, false] rfl rfl (by kernel_rfl) (fun _ _ _ h => h) (Or.inl ⟨by rfl, ?_⟩) hHeld ?_ ?_
          rotate_left
          · rintro w' ⟨s0, s1⟩
            go_simp
            with_reducible rfl
          rotate_left
          · simp only [Act.put, List.setIfInBounds_toArray, List.set_cons_zero, List.set_cons_succ, i64_w, i32_w]
            rfl
          refine one_ (i := 3) (N := some 7) #[true, true, true, true, false] rfl rfl (by kernel_rfl) (by decide) (fun K hK => ?_)
          refine goes_ Try.func11 (by kernel_rfl) rfl #[.agg #[.int .i64 a0_0, .int .i64 a0_1]] (by rfl) rfl rfl (by (try simp only [List.map_toArray, List.map_cons, List.map_nil]); first | done | rfl | (simp only [List.length_drop, List.length_take]; rfl)) ?_
          with_reducible refine (geom_Leaves.calls a0_0 a0_1 t107 _ A5.out).mono ?_
          rintro e w10 ⟨rfl, hb⟩
          refine ⟨_, rfl, ?_⟩
          have n0_ := Aside0.mk (blk_below (g := gb106) (o := .cells #[.int .i64 a0_0, .int .i64 a0_1] 23 (0, 0)) (by (with_reducible repeat (first | refine blk_drewN ?_ _ | refine blk_drew ?_ | refine blk_alloc ?_ _)); exact BK106.out) hb)
          have n1_ := Aside0.mk (below_step (by repeat (first | (with_reducible first | exact HB.out | apply below_alloc | apply pw_below_drewN | apply below_drew1 | refine below_set ?_ GE106.out) | exact HB.out)) hb)
          clear BK106
          clear HB
          have BK106 := n0_
          have HB := n1_
          clear n0_ n1_
          (try clear hb)
          (try clear hb2)
          (try clear hk)
          (try clear hi)
          refine hK.out _ _ ⟨(blk_cell BK106.out 0).trans rfl, (blk_cell BK106.out 1).trans rfl⟩ (fun hHeld => ?_)
          clear hK K
          refine norm_ (a' := ?_) ?_ ?_
          rotate_left
          · show Act.put _ (some 7) _ = _
            simp only [Act.put, List.setIfInBounds_toArray, List.set_cons_zero, List.set_cons_succ, i64_w, i32_w]
            rfl
          refine pure_ (i := 4) (N := some 8) (v := ?_) (a' := ?_) #[true, true, true, true, true] rfl rfl (by kernel_rfl) (fun _ _ _ h => h) (Or.inl ⟨by rfl, ?_⟩) ?_ ?_
          rotate_left
          · intro w'
            go_simp
            with_reducible rfl
          rotate_left
          · simp only [Act.put, List.setIfInBounds_toArray, List.set_cons_zero, List.set_cons_succ, i64_w, i32_w]
            rfl
          refine done_ (by kernel_rfl) ?_
          try go_wp2
          go_ret
          exact ⟨by first | rfl | (simp [errW_none, errW_some] <;> rfl) | (simp only [← hji4]; first | rfl | (simp [errW_none, errW_some] <;> rfl)) | (simp [*, errW_none, errW_some] <;> rfl), by repeat (first | (with_reducible first | exact HB.out | apply below_alloc | apply pw_below_drewN | apply below_drew1 | refine below_set ?_ GE106.out) | exact HB.out)⟩
      · rw [if_neg c3] at H
        exact absurd H (by simp)

/-! ### geom_Nodes: function 15 -/
def geom_Nodes.f (k : Nat) (a0_0 : Int) (a0_1 : Int) : Option (Int) := (geom_Height.f k a0_0 a0_1).bind fun t109 => (if 0 ≤ t109 then (some (wrap64 ((shl .i64 1 t109) - 1))) else (none))
theorem geom_Nodes.mono : ∀ a0 a1 k, LeO (geom_Nodes.f k a0 a1) (geom_Nodes.f (k + 1) a0 a1) := by
  intro a0 a1 k
  unfold geom_Nodes.f
  repeat' first
      | (with_reducible exact geom_Height.mono _ _ _)
      | (with_reducible exact LeO.refl _)
      | (with_reducible exact LeO.none _)
      | (with_reducible refine LeO.ite ?_ ?_)
      | (with_reducible refine LeO.bind ?_ (fun _ => ?_))
      | exact geom_Height.mono _ _ _
      | exact LeO.none _
      | refine LeO.ite ?_ ?_
      | refine LeO.bind ?_ (fun _ => ?_)
set_option maxHeartbeats 8000000 in
set_option maxRecDepth 100000 in
theorem geom_Nodes.calls (k : Nat) (a0_0 : Int) (a0_1 : Int) (r : Int) (w : World) (h : geom_Nodes.f k a0_0 a0_1 = some r) :
    Calls Try.prog 15 #[.agg #[.int .i64 a0_0, .int .i64 a0_1]] w fun e w' => e = .returned (.int .i64 r) ∧ Below w.heap.size w w' := by
  have hu23 := Try.underlying23
  have HB := Aside0.mk (Below.refl w.heap.size w)
  have H : ((geom_Height.f k a0_0 a0_1).bind fun t109 => (if 0 ≤ t109 then (some (wrap64 ((shl .i64 1 t109) - 1))) else (none))) = some r := h
  clear h
  replace H := Option.bind_eq_some_iff.mp H
  obtain ⟨t109, A20, H⟩ := H
  replace H : (if 0 ≤ t109 then (some (wrap64 ((shl .i64 1 t109) - 1))) else (none)) = some r := H
  have A2 := Aside0.mk A20
  clear A20
  by_cases c3 : 0 ≤ t109
  · rw [if_pos c3] at H
    have c3b0 := eq_true c3
    have c3b1 : decide (0 ≤ t109) = true := decide_eq_true c3
    clear c3
    obtain ⟨ji4, hji4⟩ : ∃ j_ : Int, (shl .i64 1 t109) = j_ := ⟨_, rfl⟩
    replace H : (some (wrap64 ((ji4) - 1))) = some r := by first | (rw [hji4] at H; exact H) | (simp only [hji4] at H ⊢; exact H)
    (try rw [hji4] at A2)
    have hji4_ : (IntKind.i64.wrap (1 * 2 ^ min t109.toNat 64)) = ji4 := hji4
    have hji4z : t109 ≤ 64 → (IntKind.i64.wrap (1 * 2 ^ t109.toNat)) = ji4 := shl_small hji4
    have hji4u : (IntKind.i64.wrap (2 ^ min t109.toNat 64)) = ji4 := by have h_ := hji4_; rw [Int.one_mul] at h_; exact h_
    have hji4v : t109 ≤ 64 → (IntKind.i64.wrap (2 ^ t109.toNat)) = ji4 := fun hle_ => by have h_ := hji4z hle_; rw [Int.one_mul] at h_; exact h_
    have hji4y : (wrap64 (1 * 2 ^ min t109.toNat 64)) = ji4 := (i64_w _).symm.trans hji4_
    have hji4x : t109 ≤ 64 → (wrap64 (1 * 2 ^ t109.toNat)) = ji4 := fun h_ => (i64_w _).symm.trans (hji4z h_)
    obtain rfl := Option.some.inj H
    go_enter Try.func15, Try.ntmps15
    go_wp2_with (first | ((with_reducible refine gate_dst (N := 1) rfl ?_); refine box_event ?hg (N := 1) ?hd (cs := #[.int .i64 a0_0, .int .i64 a0_1]) (t := 23) ?hr ?_; (case hd => rfl); (case hg => rfl); (case hr => first | (go_simp; done) | (go_simp; rfl)); intro gb108 hg w5 hbox hb; have n0_ := Aside0.mk (below_step (by repeat (first | (with_reducible first | exact HB.out | apply below_alloc | apply pw_below_drewN | apply below_drew1) | exact HB.out)) hb); have n1_ := Aside0.mk (hbox); have n2_ := Aside0.mk ((by rw [hg]; exact (below_size (by repeat (first | (with_reducible first | exact HB.out | apply below_alloc | apply pw_below_drewN | apply below_drew1) | exact HB.out))) : w.heap.size ≤ gb108)); have n3_ := Aside0.mk ((by rw [hg]; exact (below_size (by repeat (first | (with_reducible first | exact HB.out | apply below_alloc | apply pw_below_drewN | apply below_drew1) | exact HB.out))) : w.heap.size ≤ gb108)); clear HB; have HB := n0_; have BK108 := n1_; have GW108 := n2_; have GE108 := n3_; clear n0_ n1_ n2_ n3_; clear hb hbox hg; have hcz6_0 : w5.cell? ⟨gb108, 0, none⟩ = some (.int .i64 a0_0) := (blk_cell BK108.out 0).trans rfl; have hcz6_1 : w5.cell? ⟨gb108, 1, none⟩ = some (.int .i64 a0_1) := (blk_cell BK108.out 1).trans rfl; have hfz6_0 := blk_frozen BK108.out 0; have hfz6_1 := blk_frozen BK108.out 1) | ((with_reducible refine gate_callee (f := 13) rfl ?_); refine goesL_ (some 4) rfl rfl Try.func13 (by kernel_rfl) rfl #[.agg #[.int .i64 a0_0, .int .i64 a0_1]] rfl (by (try simp only [List.map_toArray, List.map_cons, List.map_nil]); first | done | rfl | (simp only [List.length_drop, List.length_take]; rfl)) ?_; (with_reducible refine (geom_Height.calls k a0_0 a0_1 t109 _ A2.out).mono ?_); rintro e w7 ⟨rfl, hb⟩; refine ⟨_, rfl, ?_⟩; have n0_ := Aside0.mk (blk_below (g := gb108) (o := .cells #[.int .i64 a0_0, .int .i64 a0_1] 23 (0, 0)) (by (with_reducible repeat (first | refine blk_drewN ?_ _ | refine blk_drew ?_ | refine blk_alloc ?_ _)); exact BK108.out) hb); have n1_ := Aside0.mk (below_step (by repeat (first | (with_reducible first | exact HB.out | apply below_alloc | apply pw_below_drewN | apply below_drew1 | refine below_set ?_ GE108.out) | exact HB.out)) hb); clear BK108; clear HB; have BK108 := n0_; have HB := n1_; clear n0_ n1_; (try clear hb); (try clear hb2); (try clear hk); (try clear hi)))
    go_ret
    exact ⟨by first | rfl | (simp [errW_none, errW_some] <;> rfl) | (simp only [← hji4]; first | rfl | (simp [errW_none, errW_some] <;> rfl)) | (simp [*, errW_none, errW_some] <;> rfl), by repeat (first | (with_reducible first | exact HB.out | apply below_alloc | apply pw_below_drewN | apply below_drew1 | refine below_set ?_ GE108.out) | exact HB.out)⟩
  · rw [if_neg c3] at H
    exact absurd H (by simp)

/-! ### geom_Logical: function 17 -/
def geom_Logical.f (a0_0 : Int) (a0_1 : Int) : Option (Int) := (geom_is.f a0_0 a0_1).bind fun t111 => (if t111 = true then (some (wrap64 (a0_1 * (wrap64 (a0_0 - 2))))) else (some 0))
set_option maxHeartbeats 8000000 in
set_option maxRecDepth 100000 in
theorem geom_Logical.calls (a0_0 : Int) (a0_1 : Int) (r : Int) (w : World) (h : geom_Logical.f a0_0 a0_1 = some r) :
    Calls Try.prog 17 #[.agg #[.int .i64 a0_0, .int .i64 a0_1]] w fun e w' => e = .returned (.int .i64 r) ∧ Below w.heap.size w w' := by
  have hu23 := Try.underlying23
  have HB := Aside0.mk (Below.refl w.heap.size w)
  have H : ((geom_is.f a0_0 a0_1).bind fun t111 => (if t111 = true then (some (wrap64 (a0_1 * (wrap64 (a0_0 - 2))))) else (some 0))) = some r := h
  clear h
  replace H := Option.bind_eq_some_iff.mp H
  obtain ⟨t111, A20, H⟩ := H
  replace H : (if t111 = true then (some (wrap64 (a0_1 * (wrap64 (a0_0 - 2))))) else (some 0)) = some r := H
  have A2 := Aside0.mk A20
  clear A20
  by_cases c3 : t111 = true
  · subst c3
    have H1 : (some (wrap64 (a0_1 * (wrap64 (a0_0 - 2))))) = some r := by rw [if_pos rfl] at H; exact H
    clear H
    have H := H1
    clear H1
    obtain rfl := Option.some.inj H
    go_enter Try.func17, Try.ntmps17
    go_wp2_with (first | ((with_reducible refine gate_dst (N := 1) rfl ?_); refine box_event ?hg (N := 1) ?hd (cs := #[.int .i64 a0_0, .int .i64 a0_1]) (t := 23) ?hr ?_; (case hd => rfl); (case hg => rfl); (case hr => first | (go_simp; done) | (go_simp; rfl)); intro gb110 hg w4 hbox hb; have n0_ := Aside0.mk (below_step (by repeat (first | (with_reducible first | exact HB.out | apply below_alloc | apply pw_below_drewN | apply below_drew1) | exact HB.out)) hb); have n1_ := Aside0.mk (hbox); have n2_ := Aside0.mk ((by rw [hg]; exact (below_size (by repeat (first | (with_reducible first | exact HB.out | apply below_alloc | apply pw_below_drewN | apply below_drew1) | exact HB.out))) : w.heap.size ≤ gb110)); have n3_ := Aside0.mk ((by rw [hg]; exact (below_size (by repeat (first | (with_reducible first | exact HB.out | apply below_alloc | apply pw_below_drewN | apply below_drew1) | exact HB.out))) : w.heap.size ≤ gb110)); clear HB; have HB := n0_; have BK110 := n1_; have GW110 := n2_; have GE110 := n3_; clear n0_ n1_ n2_ n3_; clear hb hbox hg; have hcz5_0 : w4.cell? ⟨gb110, 0, none⟩ = some (.int .i64 a0_0) := (blk_cell BK110.out 0).trans rfl; have hcz5_1 : w4.cell? ⟨gb110, 1, none⟩ = some (.int .i64 a0_1) := (blk_cell BK110.out 1).trans rfl; have hfz5_0 := blk_frozen BK110.out 0; have hfz5_1 := blk_frozen BK110.out 1) | ((with_reducible refine gate_callee (f := 30) rfl ?_); refine goesL_ (some 4) rfl rfl Try.func30 (by kernel_rfl) rfl #[.agg #[.int .i64 a0_0, .int .i64 a0_1]] rfl (by (try simp only [List.map_toArray, List.map_cons, List.map_nil]); first | done | rfl | (simp only [List.length_drop, List.length_take]; rfl)) ?_; (with_reducible refine (geom_is.calls a0_0 a0_1 true _ A2.out).mono ?_); rintro e w6 ⟨rfl, hb⟩; refine ⟨_, rfl, ?_⟩; have n0_ := Aside0.mk (blk_below (g := gb110) (o := .cells #[.int .i64 a0_0, .int .i64 a0_1] 23 (0, 0)) (by (with_reducible repeat (first | refine blk_drewN ?_ _ | refine blk_drew ?_ | refine blk_alloc ?_ _)); exact BK110.out) hb); have n1_ := Aside0.mk (below_step (by repeat (first | (with_reducible first | exact HB.out | apply below_alloc | apply pw_below_drewN | apply below_drew1 | refine below_set ?_ GE110.out) | exact HB.out)) hb); clear BK110; clear HB; have BK110 := n0_; have HB := n1_; clear n0_ n1_; (try clear hb); (try clear hb2); (try clear hk); (try clear hi); have hcz7_0 : w6.cell? ⟨gb110, 0, none⟩ = some (.int .i64 a0_0) := (blk_cell BK110.out 0).trans rfl; have hcz7_1 : w6.cell? ⟨gb110, 1, none⟩ = some (.int .i64 a0_1) := (blk_cell BK110.out 1).trans rfl; have hfz7_0 := blk_frozen BK110.out 0; have hfz7_1 := blk_frozen BK110.out 1))
    go_ret
    exact ⟨by first | rfl | (simp [errW_none, errW_some] <;> rfl) | (simp [*, errW_none, errW_some] <;> rfl), by repeat (first | (with_reducible first | exact HB.out | apply below_alloc | apply pw_below_drewN | apply below_drew1 | refine below_set ?_ GE110.out) | exact HB.out)⟩
  · replace c3 := Bool.eq_false_iff.mpr c3
    subst c3
    have H1 : (some 0) = some r := by rw [if_neg (show ¬ (false = true) by decide)] at H; exact H
    clear H
    have H := H1
    clear H1
    obtain rfl := Option.some.inj H
    go_enter Try.func17, Try.ntmps17
    go_wp2_with (first | ((with_reducible refine gate_dst (N := 1) rfl ?_); refine box_event ?hg (N := 1) ?hd (cs := #[.int .i64 a0_0, .int .i64 a0_1]) (t := 23) ?hr ?_; (case hd => rfl); (case hg => rfl); (case hr => first | (go_simp; done) | (go_simp; rfl)); intro gb110 hg w8 hbox hb; have n0_ := Aside0.mk (below_step (by repeat (first | (with_reducible first | exact HB.out | apply below_alloc | apply pw_below_drewN | apply below_drew1) | exact HB.out)) hb); have n1_ := Aside0.mk (hbox); have n2_ := Aside0.mk ((by rw [hg]; exact (below_size (by repeat (first | (with_reducible first | exact HB.out | apply below_alloc | apply pw_below_drewN | apply below_drew1) | exact HB.out))) : w.heap.size ≤ gb110)); have n3_ := Aside0.mk ((by rw [hg]; exact (below_size (by repeat (first | (with_reducible first | exact HB.out | apply below_alloc | apply pw_below_drewN | apply below_drew1) | exact HB.out))) : w.heap.size ≤ gb110)); clear HB; have HB := n0_; have BK110 := n1_; have GW110 := n2_; have GE110 := n3_; clear n0_ n1_ n2_ n3_; clear hb hbox hg; have hcz9_0 : w8.cell? ⟨gb110, 0, none⟩ = some (.int .i64 a0_0) := (blk_cell BK110.out 0).trans rfl; have hcz9_1 : w8.cell? ⟨gb110, 1, none⟩ = some (.int .i64 a0_1) := (blk_cell BK110.out 1).trans rfl; have hfz9_0 := blk_frozen BK110.out 0; have hfz9_1 := blk_frozen BK110.out 1) | ((with_reducible refine gate_callee (f := 30) rfl ?_); refine goesL_ (some 4) rfl rfl Try.func30 (by kernel_rfl) rfl #[.agg #[.int .i64 a0_0, .int .i64 a0_1]] rfl (by (try simp only [List.map_toArray, List.map_cons, List.map_nil]); first | done | rfl | (simp only [List.length_drop, List.length_take]; rfl)) ?_; (with_reducible refine (geom_is.calls a0_0 a0_1 false _ A2.out).mono ?_); rintro e w10 ⟨rfl, hb⟩; refine ⟨_, rfl, ?_⟩; have n0_ := Aside0.mk (blk_below (g := gb110) (o := .cells #[.int .i64 a0_0, .int .i64 a0_1] 23 (0, 0)) (by (with_reducible repeat (first | refine blk_drewN ?_ _ | refine blk_drew ?_ | refine blk_alloc ?_ _)); exact BK110.out) hb); have n1_ := Aside0.mk (below_step (by repeat (first | (with_reducible first | exact HB.out | apply below_alloc | apply pw_below_drewN | apply below_drew1 | refine below_set ?_ GE110.out) | exact HB.out)) hb); clear BK110; clear HB; have BK110 := n0_; have HB := n1_; clear n0_ n1_; (try clear hb); (try clear hb2); (try clear hk); (try clear hi)))
    go_ret
    exact ⟨by first | rfl | (simp [errW_none, errW_some] <;> rfl) | (simp [*, errW_none, errW_some] <;> rfl), by repeat (first | (with_reducible first | exact HB.out | apply below_alloc | apply pw_below_drewN | apply below_drew1 | refine below_set ?_ GE110.out) | exact HB.out)⟩

/-! ### geom_Capacity: function 19 -/
def geom_Capacity.f (k : Nat) (a0_0 : Int) (a0_1 : Int) : Option (Int) := (geom_is.f a0_0 a0_1).bind fun t113 => (if t113 = true then ((geom_Height.f k a0_0 a0_1).bind fun t114 => ((geom_Nodes.f k a0_0 a0_1).bind fun t115 => (some (wrap64 ((wrap64 ((mx 6 a0_0) + (mn (wrap64 ((mx 6 a0_0) * t114)) t115))) + 8))))) else (some 0))
theorem geom_Capacity.mono : ∀ a0 a1 k, LeO (geom_Capacity.f k a0 a1) (geom_Capacity.f (k + 1) a0 a1) := by
  intro a0 a1 k
  unfold geom_Capacity.f
  repeat' first
      | (with_reducible exact geom_Height.mono _ _ _)
      | (with_reducible exact geom_Nodes.mono _ _ _)
      | (with_reducible exact LeO.refl _)
      | (with_reducible exact LeO.none _)
      | (with_reducible refine LeO.ite ?_ ?_)
      | (with_reducible refine LeO.bind ?_ (fun _ => ?_))
      | exact geom_Height.mono _ _ _
      | exact geom_Nodes.mono _ _ _
      | exact LeO.none _
      | refine LeO.ite ?_ ?_
      | refine LeO.bind ?_ (fun _ => ?_)
def geom_Capacity.T4 : Bool × List (List Nat × List Nat) := (true, [([], []), ([], []), ([], []), ([2], [2]), ([1, 3], [1, 3]), ([], []), ([5, 3], [5]), ([4, 6], [4, 6]), ([0, 7], [0, 7]), ([8], [8]), ([9, 6, 0, 1, 2, 3, 4, 5, 6, 7, 8, 9], [9])])
def geom_Capacity.B4 : List Nat := [0, 0, 0, 4, 14, 0, 44, 126, 255, 511, 1023]
theorem geom_Capacity.tab4 : rtab .any (opsOf Try.f19 4) = geom_Capacity.T4 := by kernel_rfl
theorem geom_Capacity.bits4 : waitsOk geom_Capacity.T4.2 geom_Capacity.B4 = true := by kernel_rfl
set_option maxHeartbeats 8000000 in
set_option maxRecDepth 100000 in
theorem geom_Capacity.calls (k : Nat) (a0_0 : Int) (a0_1 : Int) (r : Int) (w : World) (h : geom_Capacity.f k a0_0 a0_1 = some r) :
    Calls Try.prog 19 #[.agg #[.int .i64 a0_0, .int .i64 a0_1]] w fun e w' => e = .returned (.int .i64 r) ∧ Below w.heap.size w w' := by
  have hu23 := Try.underlying23
  have HB := Aside0.mk (Below.refl w.heap.size w)
  have H : ((geom_is.f a0_0 a0_1).bind fun t113 => (if t113 = true then ((geom_Height.f k a0_0 a0_1).bind fun t114 => ((geom_Nodes.f k a0_0 a0_1).bind fun t115 => (some (wrap64 ((wrap64 ((mx 6 a0_0) + (mn (wrap64 ((mx 6 a0_0) * t114)) t115))) + 8))))) else (some 0))) = some r := h
  clear h
  replace H := Option.bind_eq_some_iff.mp H
  obtain ⟨t113, A20, H⟩ := H
  replace H : (if t113 = true then ((geom_Height.f k a0_0 a0_1).bind fun t114 => ((geom_Nodes.f k a0_0 a0_1).bind fun t115 => (some (wrap64 ((wrap64 ((mx 6 a0_0) + (mn (wrap64 ((mx 6 a0_0) * t114)) t115))) + 8))))) else (some 0)) = some r := H
  have A2 := Aside0.mk A20
  clear A20
  by_cases c3 : t113 = true
  · subst c3
    have H1 : ((geom_Height.f k a0_0 a0_1).bind fun t114 => ((geom_Nodes.f k a0_0 a0_1).bind fun t115 => (some (wrap64 ((wrap64 ((mx 6 a0_0) + (mn (wrap64 ((mx 6 a0_0) * t114)) t115))) + 8))))) = some r := by rw [if_pos rfl] at H; exact H
    clear H
    have H := H1
    clear H1
    obtain ⟨ji4, hji4⟩ : ∃ j_ : Int, (mx 6 a0_0) = j_ := ⟨_, rfl⟩
    replace H : ((geom_Height.f k a0_0 a0_1).bind fun t114 => ((geom_Nodes.f k a0_0 a0_1).bind fun t115 => (some (wrap64 ((wrap64 ((ji4) + (mn (wrap64 ((ji4) * t114)) t115))) + 8))))) = some r := by first | (rw [hji4] at H; exact H) | (simp only [hji4] at H ⊢; exact H)
    (try rw [hji4] at A2)
    (try (have hji4l : 6 ≤ ji4 := by (rw [← hji4]; unfold mx; (repeat' split) <;> omega)))
    (try (have hji4m : 0 ≤ ji4 := by omega))
    have hji4_ : (if 6 < a0_0 then a0_0 else 6) = ji4 := hji4
    replace H := Option.bind_eq_some_iff.mp H
    obtain ⟨t114, A50, H⟩ := H
    replace H : ((geom_Nodes.f k a0_0 a0_1).bind fun t115 => (some (wrap64 ((wrap64 ((ji4) + (mn (wrap64 ((ji4) * t114)) t115))) + 8)))) = some r := H
    have A5 := Aside0.mk A50
    clear A50
    replace H := Option.bind_eq_some_iff.mp H
    obtain ⟨t115, A60, H⟩ := H
    replace H : (some (wrap64 ((wrap64 ((ji4) + (mn (wrap64 ((ji4) * t114)) t115))) + 8))) = some r := H
    have A6 := Aside0.mk A60
    clear A60
    obtain ⟨ji7, hji7⟩ : ∃ j_ : Int, (mn (wrap64 ((ji4) * t114)) t115) = j_ := ⟨_, rfl⟩
    replace H : (some (wrap64 ((wrap64 ((ji4) + (ji7))) + 8))) = some r := by first | (rw [hji7] at H; exact H) | (simp only [hji7] at H ⊢; exact H)
    (try rw [hji7] at A2)
    (try rw [hji7] at A5)
    (try rw [hji7] at A6)
    have hji7_ : (if t115 < (wrap64 ((ji4) * t114)) then t115 else (wrap64 ((ji4) * t114))) = ji7 := hji7
    obtain rfl := Option.some.inj H
    go_enter Try.func19, Try.ntmps19
    try go_wp2_with (first | ((with_reducible refine gate_dst (N := 1) rfl ?_); refine box_event ?hg (N := 1) ?hd (cs := #[.int .i64 a0_0, .int .i64 a0_1]) (t := 23) ?hr ?_; (case hd => rfl); (case hg => rfl); (case hr => first | (go_simp; done) | (go_simp; rfl)); intro gb112 hg w8 hbox hb; have n0_ := Aside0.mk (below_step (by repeat (first | (with_reducible first | exact HB.out | apply below_alloc | apply pw_below_drewN | apply below_drew1) | exact HB.out)) hb); have n1_ := Aside0.mk (hbox); have n2_ := Aside0.mk ((by rw [hg]; exact (below_size (by repeat (first | (with_reducible first | exact HB.out | apply below_alloc | apply pw_below_drewN | apply below_drew1) | exact HB.out))) : w.heap.size ≤ gb112)); have n3_ := Aside0.mk ((by rw [hg]; exact (below_size (by repeat (first | (with_reducible first | exact HB.out | apply below_alloc | apply pw_below_drewN | apply below_drew1) | exact HB.out))) : w.heap.size ≤ gb112)); clear HB; have HB := n0_; have BK112 := n1_; have GW112 := n2_; have GE112 := n3_; clear n0_ n1_ n2_ n3_; clear hb hbox hg; have hcz9_0 : w8.cell? ⟨gb112, 0, none⟩ = some (.int .i64 a0_0) := (blk_cell BK112.out 0).trans rfl; have hcz9_1 : w8.cell? ⟨gb112, 1, none⟩ = some (.int .i64 a0_1) := (blk_cell BK112.out 1).trans rfl; have hfz9_0 := blk_frozen BK112.out 0; have hfz9_1 := blk_frozen BK112.out 1) | ((with_reducible refine gate_callee (f := 30) rfl ?_); refine goesL_ (some 5) rfl rfl Try.func30 (by kernel_rfl) rfl #[.agg #[.int .i64 a0_0, .int .i64 a0_1]] rfl (by (try simp only [List.map_toArray, List.map_cons, List.map_nil]); first | done | rfl | (simp only [List.length_drop, List.length_take]; rfl)) ?_; (with_reducible refine (geom_is.calls a0_0 a0_1 true _ A2.out).mono ?_); rintro e w10 ⟨rfl, hb⟩; refine ⟨_, rfl, ?_⟩; have n0_ := Aside0.mk (blk_below (g := gb112) (o := .cells #[.int .i64 a0_0, .int .i64 a0_1] 23 (0, 0)) (by (with_reducible repeat (first | refine blk_drewN ?_ _ | refine blk_drew ?_ | refine blk_alloc ?_ _)); exact BK112.out) hb); have n1_ := Aside0.mk (below_step (by repeat (first | (with_reducible first | exact HB.out | apply below_alloc | apply pw_below_drewN | apply below_drew1 | refine below_set ?_ GE112.out) | exact HB.out)) hb); clear BK112; clear HB; have BK112 := n0_; have HB := n1_; clear n0_ n1_; (try clear hb); (try clear hb2); (try clear hk); (try clear hi); have hcz11_0 : w10.cell? ⟨gb112, 0, none⟩ = some (.int .i64 a0_0) := (blk_cell BK112.out 0).trans rfl; have hcz11_1 : w10.cell? ⟨gb112, 1, none⟩ = some (.int .i64 a0_1) := (blk_cell BK112.out 1).trans rfl; have hfz11_0 := blk_frozen BK112.out 0; have hfz11_1 := blk_frozen BK112.out 1))
    have n0_ := Aside0.mk (blk_drew BK112.out)
    have n1_ := Aside0.mk (below_drew1 HB.out)
    clear BK112
    clear HB
    have BK112 := n0_
    have HB := n1_
    clear n0_ n1_
    refine start_ (n := 11) (S := fun w' => w'.cell? ⟨gb112, 0, none⟩ = some (.int .i64 a0_0) ∧ w'.cell? ⟨gb112, 1, none⟩ = some (.int .i64 a0_1)) (ds := []) #[false, false, false, false, false, false, false, false, false, false, false] (by kernel_rfl) rfl rfl ⟨(blk_cell BK112.out 0).trans rfl, (blk_cell BK112.out 1).trans rfl⟩ (fun hHeld => ?_); refine with_tabW geom_Capacity.tab4 geom_Capacity.bits4 (fun HT_ HW_ => ?_)
    generalize w10.drew = w12 at BK112 HB hHeld ⊢
    refine pure_ (i := 0) (N := some 10) (v := ?_) (a' := ?_) #[true, false, false, false, false, false, false, false, false, false, false] rfl rfl (any_of HT_.out (by kernel_rfl)) (fun _ _ _ h => h) (Or.inl ⟨by rfl, ?_⟩) ?_ ?_
    rotate_left
    · intro w'
      go_simp
      with_reducible rfl
    rotate_left
    · simp only [Act.put, List.setIfInBounds_toArray, List.set_cons_zero, List.set_cons_succ, i64_w, i32_w]
      rfl
    refine pure_ (i := 1) (N := some 11) (v := ?_) (a' := ?_) #[true, true, false, false, false, false, false, false, false, false, false] rfl rfl (any_of HT_.out (by kernel_rfl)) (fun _ _ _ h => h) (Or.inl ⟨by rfl, ?_⟩) ?_ ?_
    rotate_left
    · intro w'
      go_simp
      with_reducible rfl
    rotate_left
    · simp only [Act.put, List.setIfInBounds_toArray, List.set_cons_zero, List.set_cons_succ, i64_w, i32_w]
      rfl
    refine take_ (i := 2) (N := some 12) (v := ?_) (a' := ?_) #[true, true, true, false, false, false, false, false, false, false, false] rfl rfl (take_ofW HT_.out HW_.out (by kernel_rfl)) (fun _ _ _ h => h) (Or.inl ⟨by rfl, ?_⟩) hHeld ?_ ?_
    rotate_left
    · rintro w' ⟨s0, s1⟩
      go_simp
      with_reducible rfl
    rotate_left
    · simp only [Act.put, List.setIfInBounds_toArray, List.set_cons_zero, List.set_cons_succ, i64_w, i32_w]
      rfl
    refine take_ (i := 5) (N := some 15) (v := ?_) (a' := ?_) #[true, true, true, false, false, true, false, false, false, false, false] rfl rfl (take_ofW HT_.out HW_.out (by kernel_rfl)) (fun _ _ _ h => h) (Or.inl ⟨by rfl, ?_⟩) hHeld ?_ ?_
    rotate_left
    · rintro w' ⟨s0, s1⟩
      go_simp
      with_reducible rfl
    rotate_left
    · simp only [Act.put, List.setIfInBounds_toArray, List.set_cons_zero, List.set_cons_succ, i64_w, i32_w]
      rfl
    refine one_ (i := 3) (N := some 13) #[true, true, true, true, false, true, false, false, false, false, false] rfl rfl (one_of HT_.out (by kernel_rfl)) (by decide) (fun K hK => ?_)
    refine goes_ Try.func13 (by kernel_rfl) rfl #[.agg #[.int .i64 a0_0, .int .i64 a0_1]] (by rfl) rfl rfl (by (try simp only [List.map_toArray, List.map_cons, List.map_nil]); first | done | rfl | (simp only [List.length_drop, List.length_take]; rfl)) ?_
    with_reducible refine (geom_Height.calls k a0_0 a0_1 t114 _ A5.out).mono ?_
    rintro e w13 ⟨rfl, hb⟩
    refine ⟨_, rfl, ?_⟩
    have n0_ := Aside0.mk (blk_below (g := gb112) (o := .cells #[.int .i64 a0_0, .int .i64 a0_1] 23 (0, 0)) (by (with_reducible repeat (first | refine blk_drewN ?_ _ | refine blk_drew ?_ | refine blk_alloc ?_ _)); exact BK112.out) hb)
    have n1_ := Aside0.mk (below_step (by repeat (first | (with_reducible first | exact HB.out | apply below_alloc | apply pw_below_drewN | apply below_drew1 | refine below_set ?_ GE112.out) | exact HB.out)) hb)
    clear BK112
    clear HB
    have BK112 := n0_
    have HB := n1_
    clear n0_ n1_
    (try clear hb)
    (try clear hb2)
    (try clear hk)
    (try clear hi)
    refine hK.out _ _ ⟨(blk_cell BK112.out 0).trans rfl, (blk_cell BK112.out 1).trans rfl⟩ (fun hHeld => ?_)
    clear hK K
    refine norm_ (a' := ?_) ?_ ?_
    rotate_left
    · show Act.put _ (some 13) _ = _
      simp only [Act.put, List.setIfInBounds_toArray, List.set_cons_zero, List.set_cons_succ, i64_w, i32_w]
      rfl
    refine pure_ (i := 4) (N := some 14) (v := ?_) (a' := ?_) #[true, true, true, true, true, true, false, false, false, false, false] rfl rfl (any_of HT_.out (by kernel_rfl)) (fun _ _ _ h => h) (Or.inl ⟨by rfl, ?_⟩) ?_ ?_
    rotate_left
    · intro w'
      go_simp
      with_reducible rfl
    rotate_left
    · simp only [Act.put, List.setIfInBounds_toArray, List.set_cons_zero, List.set_cons_succ, i64_w, i32_w]
      rfl
    refine one_ (i := 6) (N := some 16) #[true, true, true, true, true, true, true, false, false, false, false] rfl rfl (one_of HT_.out (by kernel_rfl)) (by decide) (fun K hK => ?_)
    refine goes_ Try.func15 (by kernel_rfl) rfl #[.agg #[.int .i64 a0_0, .int .i64 a0_1]] (by rfl) rfl rfl (by (try simp only [List.map_toArray, List.map_cons, List.map_nil]); first | done | rfl | (simp only [List.length_drop, List.length_take]; rfl)) ?_
    with_reducible refine (geom_Nodes.calls k a0_0 a0_1 t115 _ A6.out).mono ?_
    rintro e w14 ⟨rfl, hb⟩
    refine ⟨_, rfl, ?_⟩
    have n0_ := Aside0.mk (blk_below (g := gb112) (o := .cells #[.int .i64 a0_0, .int .i64 a0_1] 23 (0, 0)) (by (with_reducible repeat (first | refine blk_drewN ?_ _ | refine blk_drew ?_ | refine blk_alloc ?_ _)); exact BK112.out) hb)
    have n1_ := Aside0.mk (below_step (by repeat (first | (with_reducible first | exact HB.out | apply below_alloc | apply pw_below_drewN | apply below_drew1 | refine below_set ?_ GE112.out) | exact HB.out)) hb)
    clear BK112
    clear HB
    have BK112 := n0_
    have HB := n1_
    clear n0_ n1_
    (try clear hb)
    (try clear hb2)
    (try clear hk)
    (try clear hi)
    refine hK.out _ _ ⟨(blk_cell BK112.out 0).trans rfl, (blk_cell BK112.out 1).trans rfl⟩ (fun hHeld => ?_)
    clear hK K
    refine norm_ (a' := ?_) ?_ ?_
    rotate_left
    · show Act.put _ (some 16) _ = _
      simp only [Act.put, List.setIfInBounds_toArray, List.set_cons_zero, List.set_cons_succ, i64_w, i32_w]
      rfl
    refine pure_ (i := 7) (N := some 17) (v := ?_) (a' := ?_) #[true, true, true, true, true, true, true, true, false, false, false] rfl rfl (any_of HT_.out (by kernel_rfl)) (fun _ _ _ h => h) (Or.inl ⟨by rfl, ?_⟩) ?_ ?_
    rotate_left
    · intro w'
      go_simp
      with_reducible rfl
    rotate_left
    · simp only [Act.put, List.setIfInBounds_toArray, List.set_cons_zero, List.set_cons_succ, i64_w, i32_w]
      rfl
    refine pure_ (i := 8) (N := some 18) (v := ?_) (a' := ?_) #[true, true, true, true, true, true, true, true, true, false, false] rfl rfl (any_of HT_.out (by kernel_rfl)) (fun _ _ _ h => h) (Or.inl ⟨by rfl, ?_⟩) ?_ ?_
    rotate_left
    · intro w'
      go_simp
      with_reducible rfl
    rotate_left
    · simp only [Act.put, List.setIfInBounds_toArray, List.set_cons_zero, List.set_cons_succ, i64_w, i32_w]
      rfl
    refine pure_ (i := 9) (N := some 19) (v := ?_) (a' := ?_) #[true, true, true, true, true, true, true, true, true, true, false] rfl rfl (any_of HT_.out (by kernel_rfl)) (fun _ _ _ h => h) (Or.inl ⟨by rfl, ?_⟩) ?_ ?_
    rotate_left
    · intro w'
      go_simp
      with_reducible rfl
    rotate_left
    · simp only [Act.put, List.setIfInBounds_toArray, List.set_cons_zero, List.set_cons_succ, i64_w, i32_w]
      rfl
    refine pure_ (i := 10) (N := some 2) (v := ?_) (a' := ?_) #[true, true, true, true, true, true, true, true, true, true, true] rfl rfl (any_of HT_.out (by kernel_rfl)) (fun _ _ _ h => h) (Or.inl ⟨by rfl, ?_⟩) ?_ ?_
    rotate_left
    · intro w'
      go_simp
      with_reducible rfl
    rotate_left
    · simp only [Act.put, List.setIfInBounds_toArray, List.set_cons_zero, List.set_cons_succ, i64_w, i32_w]
      rfl
    refine done_ (done_of HT_.out (by kernel_rfl)) ?_
    try go_wp2
    go_ret
    exact ⟨by first | rfl | (simp [errW_none, errW_some] <;> rfl) | (simp only [← hji4, ← hji7]; first | rfl | (simp [errW_none, errW_some] <;> rfl)) | (simp [*, errW_none, errW_some] <;> rfl), by repeat (first | (with_reducible first | exact HB.out | apply below_alloc | apply pw_below_drewN | apply below_drew1 | refine below_set ?_ GE112.out) | exact HB.out)⟩
  · replace c3 := Bool.eq_false_iff.mpr c3
    subst c3
    have H1 : (some 0) = some r := by rw [if_neg (show ¬ (false = true) by decide)] at H; exact H
    clear H
    have H := H1
    clear H1
    obtain rfl := Option.some.inj H
    go_enter Try.func19, Try.ntmps19
    go_wp2_with (first | ((with_reducible refine gate_dst (N := 1) rfl ?_); refine box_event ?hg (N := 1) ?hd (cs := #[.int .i64 a0_0, .int .i64 a0_1]) (t := 23) ?hr ?_; (case hd => rfl); (case hg => rfl); (case hr => first | (go_simp; done) | (go_simp; rfl)); intro gb112 hg w15 hbox hb; have n0_ := Aside0.mk (below_step (by repeat (first | (with_reducible first | exact HB.out | apply below_alloc | apply pw_below_drewN | apply below_drew1) | exact HB.out)) hb); have n1_ := Aside0.mk (hbox); have n2_ := Aside0.mk ((by rw [hg]; exact (below_size (by repeat (first | (with_reducible first | exact HB.out | apply below_alloc | apply pw_below_drewN | apply below_drew1) | exact HB.out))) : w.heap.size ≤ gb112)); have n3_ := Aside0.mk ((by rw [hg]; exact (below_size (by repeat (first | (with_reducible first | exact HB.out | apply below_alloc | apply pw_below_drewN | apply below_drew1) | exact HB.out))) : w.heap.size ≤ gb112)); clear HB; have HB := n0_; have BK112 := n1_; have GW112 := n2_; have GE112 := n3_; clear n0_ n1_ n2_ n3_; clear hb hbox hg; have hcz16_0 : w15.cell? ⟨gb112, 0, none⟩ = some (.int .i64 a0_0) := (blk_cell BK112.out 0).trans rfl; have hcz16_1 : w15.cell? ⟨gb112, 1, none⟩ = some (.int .i64 a0_1) := (blk_cell BK112.out 1).trans rfl; have hfz16_0 := blk_frozen BK112.out 0; have hfz16_1 := blk_frozen BK112.out 1) | ((with_reducible refine gate_callee (f := 30) rfl ?_); refine goesL_ (some 5) rfl rfl Try.func30 (by kernel_rfl) rfl #[.agg #[.int .i64 a0_0, .int .i64 a0_1]] rfl (by (try simp only [List.map_toArray, List.map_cons, List.map_nil]); first | done | rfl | (simp only [List.length_drop, List.length_take]; rfl)) ?_; (with_reducible refine (geom_is.calls a0_0 a0_1 false _ A2.out).mono ?_); rintro e w17 ⟨rfl, hb⟩; refine ⟨_, rfl, ?_⟩; have n0_ := Aside0.mk (blk_below (g := gb112) (o := .cells #[.int .i64 a0_0, .int .i64 a0_1] 23 (0, 0)) (by (with_reducible repeat (first | refine blk_drewN ?_ _ | refine blk_drew ?_ | refine blk_alloc ?_ _)); exact BK112.out) hb); have n1_ := Aside0.mk (below_step (by repeat (first | (with_reducible first | exact HB.out | apply below_alloc | apply pw_below_drewN | apply below_drew1 | refine below_set ?_ GE112.out) | exact HB.out)) hb); clear BK112; clear HB; have BK112 := n0_; have HB := n1_; clear n0_ n1_; (try clear hb); (try clear hb2); (try clear hk); (try clear hi)))
    go_ret
    exact ⟨by first | rfl | (simp [errW_none, errW_some] <;> rfl) | (simp [*, errW_none, errW_some] <;> rfl), by repeat (first | (with_reducible first | exact HB.out | apply below_alloc | apply pw_below_drewN | apply below_drew1 | refine below_set ?_ GE112.out) | exact HB.out)⟩

/-! ### geom_Half: function 21 -/
def geom_Half.f (k : Nat) (a0_0 : Int) (a0_1 : Int) : Option (Int) := (geom_is.f a0_0 a0_1).bind fun t117 => (if t117 = true then ((geom_Capacity.f k a0_0 a0_1).bind fun t118 => (some (wrap64 (2 + (wrap64 (Int.tdiv (wrap64 ((wrap64 ((wrap64 (69 * t118)) + 64)) - 1)) 64)))))) else (some 0))
theorem geom_Half.mono : ∀ a0 a1 k, LeO (geom_Half.f k a0 a1) (geom_Half.f (k + 1) a0 a1) := by
  intro a0 a1 k
  unfold geom_Half.f
  repeat' first
      | (with_reducible exact geom_Capacity.mono _ _ _)
      | (with_reducible exact LeO.refl _)
      | (with_reducible exact LeO.none _)
      | (with_reducible refine LeO.ite ?_ ?_)
      | (with_reducible refine LeO.bind ?_ (fun _ => ?_))
      | exact geom_Capacity.mono _ _ _
      | exact LeO.none _
      | refine LeO.ite ?_ ?_
      | refine LeO.bind ?_ (fun _ => ?_)
set_option maxHeartbeats 8000000 in
set_option maxRecDepth 100000 in
theorem geom_Half.calls (k : Nat) (a0_0 : Int) (a0_1 : Int) (r : Int) (w : World) (h : geom_Half.f k a0_0 a0_1 = some r) :
    Calls Try.prog 21 #[.agg #[.int .i64 a0_0, .int .i64 a0_1]] w fun e w' => e = .returned (.int .i64 r) ∧ Below w.heap.size w w' := by
  have hu23 := Try.underlying23
  have HB := Aside0.mk (Below.refl w.heap.size w)
  have H : ((geom_is.f a0_0 a0_1).bind fun t117 => (if t117 = true then ((geom_Capacity.f k a0_0 a0_1).bind fun t118 => (some (wrap64 (2 + (wrap64 (Int.tdiv (wrap64 ((wrap64 ((wrap64 (69 * t118)) + 64)) - 1)) 64)))))) else (some 0))) = some r := h
  clear h
  replace H := Option.bind_eq_some_iff.mp H
  obtain ⟨t117, A20, H⟩ := H
  replace H : (if t117 = true then ((geom_Capacity.f k a0_0 a0_1).bind fun t118 => (some (wrap64 (2 + (wrap64 (Int.tdiv (wrap64 ((wrap64 ((wrap64 (69 * t118)) + 64)) - 1)) 64)))))) else (some 0)) = some r := H
  have A2 := Aside0.mk A20
  clear A20
  by_cases c3 : t117 = true
  · subst c3
    have H1 : ((geom_Capacity.f k a0_0 a0_1).bind fun t118 => (some (wrap64 (2 + (wrap64 (Int.tdiv (wrap64 ((wrap64 ((wrap64 (69 * t118)) + 64)) - 1)) 64)))))) = some r := by rw [if_pos rfl] at H; exact H
    clear H
    have H := H1
    clear H1
    replace H := Option.bind_eq_some_iff.mp H
    obtain ⟨t118, A40, H⟩ := H
    replace H : (some (wrap64 (2 + (wrap64 (Int.tdiv (wrap64 ((wrap64 ((wrap64 (69 * t118)) + 64)) - 1)) 64))))) = some r := H
    have A4 := Aside0.mk A40
    clear A40
    obtain rfl := Option.some.inj H
    go_enter Try.func21, Try.ntmps21
    go_wp2_with (first | ((with_reducible refine gate_dst (N := 1) rfl ?_); refine box_event ?hg (N := 1) ?hd (cs := #[.int .i64 a0_0, .int .i64 a0_1]) (t := 23) ?hr ?_; (case hd => rfl); (case hg => rfl); (case hr => first | (go_simp; done) | (go_simp; rfl)); intro gb116 hg w5 hbox hb; have n0_ := Aside0.mk (below_step (by repeat (first | (with_reducible first | exact HB.out | apply below_alloc | apply pw_below_drewN | apply below_drew1) | exact HB.out)) hb); have n1_ := Aside0.mk (hbox); have n2_ := Aside0.mk ((by rw [hg]; exact (below_size (by repeat (first | (with_reducible first | exact HB.out | apply below_alloc | apply pw_below_drewN | apply below_drew1) | exact HB.out))) : w.heap.size ≤ gb116)); have n3_ := Aside0.mk ((by rw [hg]; exact (below_size (by repeat (first | (with_reducible first | exact HB.out | apply below_alloc | apply pw_below_drewN | apply below_drew1) | exact HB.out))) : w.heap.size ≤ gb116)); clear HB; have HB := n0_; have BK116 := n1_; have GW116 := n2_; have GE116 := n3_; clear n0_ n1_ n2_ n3_; clear hb hbox hg; have hcz6_0 : w5.cell? ⟨gb116, 0, none⟩ = some (.int .i64 a0_0) := (blk_cell BK116.out 0).trans rfl; have hcz6_1 : w5.cell? ⟨gb116, 1, none⟩ = some (.int .i64 a0_1) := (blk_cell BK116.out 1).trans rfl; have hfz6_0 := blk_frozen BK116.out 0; have hfz6_1 := blk_frozen BK116.out 1) | ((with_reducible refine gate_callee (f := 30) rfl ?_); refine goesL_ (some 4) rfl rfl Try.func30 (by kernel_rfl) rfl #[.agg #[.int .i64 a0_0, .int .i64 a0_1]] rfl (by (try simp only [List.map_toArray, List.map_cons, List.map_nil]); first | done | rfl | (simp only [List.length_drop, List.length_take]; rfl)) ?_; (with_reducible refine (geom_is.calls a0_0 a0_1 true _ A2.out).mono ?_); rintro e w7 ⟨rfl, hb⟩; refine ⟨_, rfl, ?_⟩; have n0_ := Aside0.mk (blk_below (g := gb116) (o := .cells #[.int .i64 a0_0, .int .i64 a0_1] 23 (0, 0)) (by (with_reducible repeat (first | refine blk_drewN ?_ _ | refine blk_drew ?_ | refine blk_alloc ?_ _)); exact BK116.out) hb); have n1_ := Aside0.mk (below_step (by repeat (first | (with_reducible first | exact HB.out | apply below_alloc | apply pw_below_drewN | apply below_drew1 | refine below_set ?_ GE116.out) | exact HB.out)) hb); clear BK116; clear HB; have BK116 := n0_; have HB := n1_; clear n0_ n1_; (try clear hb); (try clear hb2); (try clear hk); (try clear hi); have hcz8_0 : w7.cell? ⟨gb116, 0, none⟩ = some (.int .i64 a0_0) := (blk_cell BK116.out 0).trans rfl; have hcz8_1 : w7.cell? ⟨gb116, 1, none⟩ = some (.int .i64 a0_1) := (blk_cell BK116.out 1).trans rfl; have hfz8_0 := blk_frozen BK116.out 0; have hfz8_1 := blk_frozen BK116.out 1) | ((with_reducible refine gate_callee (f := 19) rfl ?_); refine goesL_ (some 7) rfl rfl Try.func19 (by kernel_rfl) rfl #[.agg #[.int .i64 a0_0, .int .i64 a0_1]] rfl (by (try simp only [List.map_toArray, List.map_cons, List.map_nil]); first | done | rfl | (simp only [List.length_drop, List.length_take]; rfl)) ?_; (with_reducible refine (geom_Capacity.calls k a0_0 a0_1 t118 _ A4.out).mono ?_); rintro e w9 ⟨rfl, hb⟩; refine ⟨_, rfl, ?_⟩; have n0_ := Aside0.mk (blk_below (g := gb116) (o := .cells #[.int .i64 a0_0, .int .i64 a0_1] 23 (0, 0)) (by (with_reducible repeat (first | refine blk_drewN ?_ _ | refine blk_drew ?_ | refine blk_alloc ?_ _)); exact BK116.out) hb); have n1_ := Aside0.mk (below_step (by repeat (first | (with_reducible first | exact HB.out | apply below_alloc | apply pw_below_drewN | apply below_drew1 | refine below_set ?_ GE116.out) | exact HB.out)) hb); clear BK116; clear HB; have BK116 := n0_; have HB := n1_; clear n0_ n1_; (try clear hb); (try clear hb2); (try clear hk); (try clear hi)))
    go_ret
    exact ⟨by first | rfl | (simp [errW_none, errW_some] <;> rfl) | (simp [*, errW_none, errW_some] <;> rfl), by repeat (first | (with_reducible first | exact HB.out | apply below_alloc | apply pw_below_drewN | apply below_drew1 | refine below_set ?_ GE116.out) | exact HB.out)⟩
  · replace c3 := Bool.eq_false_iff.mpr c3
    subst c3
    have H1 : (some 0) = some r := by rw [if_neg (show ¬ (false = true) by decide)] at H; exact H
    clear H
    have H := H1
    clear H1
    obtain rfl := Option.some.inj H
    go_enter Try.func21, Try.ntmps21
    go_wp2_with (first | ((with_reducible refine gate_dst (N := 1) rfl ?_); refine box_event ?hg (N := 1) ?hd (cs := #[.int .i64 a0_0, .int .i64 a0_1]) (t := 23) ?hr ?_; (case hd => rfl); (case hg => rfl); (case hr => first | (go_simp; done) | (go_simp; rfl)); intro gb116 hg w10 hbox hb; have n0_ := Aside0.mk (below_step (by repeat (first | (with_reducible first | exact HB.out | apply below_alloc | apply pw_below_drewN | apply below_drew1) | exact HB.out)) hb); have n1_ := Aside0.mk (hbox); have n2_ := Aside0.mk ((by rw [hg]; exact (below_size (by repeat (first | (with_reducible first | exact HB.out | apply below_alloc | apply pw_below_drewN | apply below_drew1) | exact HB.out))) : w.heap.size ≤ gb116)); have n3_ := Aside0.mk ((by rw [hg]; exact (below_size (by repeat (first | (with_reducible first | exact HB.out | apply below_alloc | apply pw_below_drewN | apply below_drew1) | exact HB.out))) : w.heap.size ≤ gb116)); clear HB; have HB := n0_; have BK116 := n1_; have GW116 := n2_; have GE116 := n3_; clear n0_ n1_ n2_ n3_; clear hb hbox hg; have hcz11_0 : w10.cell? ⟨gb116, 0, none⟩ = some (.int .i64 a0_0) := (blk_cell BK116.out 0).trans rfl; have hcz11_1 : w10.cell? ⟨gb116, 1, none⟩ = some (.int .i64 a0_1) := (blk_cell BK116.out 1).trans rfl; have hfz11_0 := blk_frozen BK116.out 0; have hfz11_1 := blk_frozen BK116.out 1) | ((with_reducible refine gate_callee (f := 30) rfl ?_); refine goesL_ (some 4) rfl rfl Try.func30 (by kernel_rfl) rfl #[.agg #[.int .i64 a0_0, .int .i64 a0_1]] rfl (by (try simp only [List.map_toArray, List.map_cons, List.map_nil]); first | done | rfl | (simp only [List.length_drop, List.length_take]; rfl)) ?_; (with_reducible refine (geom_is.calls a0_0 a0_1 false _ A2.out).mono ?_); rintro e w12 ⟨rfl, hb⟩; refine ⟨_, rfl, ?_⟩; have n0_ := Aside0.mk (blk_below (g := gb116) (o := .cells #[.int .i64 a0_0, .int .i64 a0_1] 23 (0, 0)) (by (with_reducible repeat (first | refine blk_drewN ?_ _ | refine blk_drew ?_ | refine blk_alloc ?_ _)); exact BK116.out) hb); have n1_ := Aside0.mk (below_step (by repeat (first | (with_reducible first | exact HB.out | apply below_alloc | apply pw_below_drewN | apply below_drew1 | refine below_set ?_ GE116.out) | exact HB.out)) hb); clear BK116; clear HB; have BK116 := n0_; have HB := n1_; clear n0_ n1_; (try clear hb); (try clear hb2); (try clear hk); (try clear hi)))
    go_ret
    exact ⟨by first | rfl | (simp [errW_none, errW_some] <;> rfl) | (simp [*, errW_none, errW_some] <;> rfl), by repeat (first | (with_reducible first | exact HB.out | apply below_alloc | apply pw_below_drewN | apply below_drew1 | refine below_set ?_ GE116.out) | exact HB.out)⟩

-- NOT PRINTED: function 32 (geom_firsts)

/-! ### geom_Sectors: by hand: function 23 -/
set_option maxHeartbeats 4000000 in
set_option maxRecDepth 100000 in
theorem geom_firsts.calls (k : Nat) (M R hf nd : Int) (w : World) (h1 : geom_Half.f k M R = some hf) (h2 : geom_Nodes.f k M R = some nd) :
    Calls Try.prog 32 #[.agg #[.int .i64 M, .int .i64 R]] w fun e w' => e = .returned (.agg #[.int .i64 0, .int .i64 0, .int .i64 8, .int .i64 (wrap64 (8 + wrap64 (2 * hf))), .int .i64 (wrap64 (wrap64 (8 + wrap64 (2 * hf)) + nd)), .int .i64 (wrap64 (wrap64 (wrap64 (8 + wrap64 (2 * hf)) + nd) + R))]) ∧ Below w.heap.size w w' := by
  have H1 := Aside0.mk h1
  have H2 := Aside0.mk h2
  clear h1 h2
  have HB := Aside0.mk (Below.refl w.heap.size w)
  go_enter Try.func32, Try.ntmps32
  go_wp2_with fail
  obtain ⟨q0_, q1_, q2_, nb_⟩ := Wk.blks3 w (.cells #[.int .i64 M, .int .i64 R] 23 (0, 0)) (.cells #[.int .i64 0, .int .i64 0, .int .i64 0, .int .i64 0, .int .i64 0, .int .i64 0] 43 (0, 0)) (.cells #[.int .i64 0, .int .i64 0, .int .i64 8, .int .i64 0, .int .i64 0, .int .i64 0] 43 (0, 0))
  obtain ⟨W0, hW_⟩ : ∃ W, W = (((w.alloc (.cells #[.int .i64 M, .int .i64 R] 23 (0, 0))).alloc (.cells #[.int .i64 0, .int .i64 0, .int .i64 0, .int .i64 0, .int .i64 0, .int .i64 0] 43 (0, 0))).alloc (.cells #[.int .i64 0, .int .i64 0, .int .i64 8, .int .i64 0, .int .i64 0, .int .i64 0] 43 (0, 0))) := ⟨_, rfl⟩
  rw [← hW_]
  rw [← hW_] at q0_
  rw [← hW_] at q1_
  rw [← hW_] at q2_
  rw [← hW_] at nb_
  have sz_ := below_size HB.out
  have hb2_ := Aside0.mk (below_step HB.out nb_)
  obtain ⟨g1, hgg1_⟩ : ∃ g, g = w.heap.size := ⟨_, rfl⟩
  obtain ⟨g2, hgg2_⟩ : ∃ g, g = w.heap.size + 1 := ⟨_, rfl⟩
  obtain ⟨g3, hgg3_⟩ : ∃ g, g = w.heap.size + 1 + 1 := ⟨_, rfl⟩
  rw [← hgg3_]
  rw [← hgg3_] at q2_
  rw [← hgg2_]
  rw [← hgg2_] at q1_
  rw [← hgg1_]
  rw [← hgg1_] at q0_
  have GEg1 := Aside0.mk (show w.heap.size ≤ g1 by omega)
  have GEg2 := Aside0.mk (show w.heap.size ≤ g2 by omega)
  have Dg1g2 : g1 ≠ g2 := by omega
  have Dg2g1 : g2 ≠ g1 := by omega
  have GEg3 := Aside0.mk (show w.heap.size ≤ g3 by omega)
  have Dg1g3 : g1 ≠ g3 := by omega
  have Dg3g1 : g3 ≠ g1 := by omega
  have Dg2g3 : g2 ≠ g3 := by omega
  have Dg3g2 : g3 ≠ g2 := by omega
  have BKg1 := Aside0.mk q0_
  have BKg2 := Aside0.mk q1_
  have BKg3 := Aside0.mk q2_
  clear HB
  have HB := hb2_
  clear hb2_ hW_ nb_ sz_ hgg1_ hgg2_ hgg3_ q0_ q1_ q2_
  have NBKg1_ := Aside0.mk (blk_drew BKg1.out)
  have NBKg2_ := Aside0.mk (blk_drew BKg2.out)
  have NBKg3_ := Aside0.mk (blk_drew BKg3.out)
  have NHB_ := Aside0.mk (below_drew1 HB.out)
  clear BKg1 BKg2 BKg3 HB
  have BKg1 := NBKg1_
  have BKg2 := NBKg2_
  have BKg3 := NBKg3_
  have HB := NHB_
  clear NBKg1_ NBKg2_ NBKg3_ NHB_
  refine start_ (n := 8) (S := fun w' => w'.cell? ⟨g1, 0, none⟩ = some (.int .i64 M) ∧ w'.cell? ⟨g1, 1, none⟩ = some (.int .i64 R) ∧ w'.cell? ⟨g3, 2, none⟩ = some (.int .i64 8)) (ds := []) #[false, false, false, false, false, false, false, false] (by kernel_rfl) rfl rfl ⟨(blk_cell BKg1.out 0).trans rfl, (blk_cell BKg1.out 1).trans rfl, (blk_cell BKg3.out 2).trans rfl⟩ (fun hHeld => ?_)
  generalize W0.drew = W1 at BKg1 BKg2 BKg3 HB hHeld ⊢
  refine pure_ (i := 0) (N := some 5) (v := ?_) (a' := ?_) #[true, false, false, false, false, false, false, false] rfl rfl (by kernel_rfl) (fun _ _ _ h => h) (Or.inl ⟨by rfl, ?_⟩) ?_ ?_
  rotate_left
  · intro w'
    go_simp
    with_reducible rfl
  rotate_left
  · simp only [Act.put, List.setIfInBounds_toArray, List.set_cons_zero, List.set_cons_succ, i64_w, i32_w]
    rfl
  refine take_ (i := 1) (N := some 6) (v := ?_) (a' := ?_) #[true, true, false, false, false, false, false, false] rfl rfl (by kernel_rfl) (fun _ _ _ h => h) (Or.inl ⟨by rfl, ?_⟩) hHeld ?_ ?_
  rotate_left
  · rintro w' ⟨s0, s1, s2⟩
    go_simp
    with_reducible rfl
  rotate_left
  · simp only [Act.put, List.setIfInBounds_toArray, List.set_cons_zero, List.set_cons_succ, i64_w, i32_w]
    rfl
  refine take_ (i := 2) (N := some 7) (v := ?_) (a' := ?_) #[true, true, true, false, false, false, false, false] rfl rfl (by kernel_rfl) (fun _ _ _ h => h) (Or.inl ⟨by rfl, ?_⟩) hHeld ?_ ?_
  rotate_left
  · rintro w' ⟨s0, s1, s2⟩
    go_simp
    with_reducible rfl
  rotate_left
  · simp only [Act.put, List.setIfInBounds_toArray, List.set_cons_zero, List.set_cons_succ, i64_w, i32_w]
    rfl
  refine one_ (i := 3) (N := some 8) #[true, true, true, true, false, false, false, false] rfl rfl (by kernel_rfl) (by decide) (fun K hK => ?_)
  refine goes_ Try.func21 (by kernel_rfl) rfl #[.agg #[.int .i64 M, .int .i64 R]] (by rfl) rfl rfl (by (try simp only [List.map_toArray, List.map_cons, List.map_nil]); first | done | rfl | (simp only [List.length_drop, List.length_take]; rfl)) ?_
  with_reducible refine (geom_Half.calls k M R hf _ H1.out).mono ?_
  rintro e W2 ⟨rfl, hb⟩
  refine ⟨_, rfl, ?_⟩
  have NBKg1_ := Aside0.mk (blk_below (o := .cells #[.int .i64 M, .int .i64 R] 23 (0, 0)) (by (with_reducible repeat (first | refine blk_drewN ?_ _ | refine blk_drew ?_ | refine blk_alloc ?_ _)); exact BKg1.out) hb)
  have NBKg2_ := Aside0.mk (blk_below (o := .cells #[.int .i64 0, .int .i64 0, .int .i64 0, .int .i64 0, .int .i64 0, .int .i64 0] 43 (0, 0)) (by (with_reducible repeat (first | refine blk_drewN ?_ _ | refine blk_drew ?_ | refine blk_alloc ?_ _)); exact BKg2.out) hb)
  have NBKg3_ := Aside0.mk (blk_below (o := .cells #[.int .i64 0, .int .i64 0, .int .i64 8, .int .i64 0, .int .i64 0, .int .i64 0] 43 (0, 0)) (by (with_reducible repeat (first | refine blk_drewN ?_ _ | refine blk_drew ?_ | refine blk_alloc ?_ _)); exact BKg3.out) hb)
  have NHB_ := Aside0.mk (below_step (by repeat (first | (with_reducible first | exact HB.out | apply below_alloc | apply pw_below_drewN | apply below_drew1) | exact HB.out)) hb)
  clear BKg1 BKg2 BKg3 HB
  have BKg1 := NBKg1_
  have BKg2 := NBKg2_
  have BKg3 := NBKg3_
  have HB := NHB_
  clear NBKg1_ NBKg2_ NBKg3_ NHB_
  clear hb
  refine hK.out _ _ ⟨(blk_cell BKg1.out 0).trans rfl, (blk_cell BKg1.out 1).trans rfl, (blk_cell BKg3.out 2).trans rfl⟩ (fun hHeld => ?_)
  clear hK K
  refine norm_ (a' := ?_) ?_ ?_
  rotate_left
  · show Act.put _ (some 8) _ = _
    simp only [Act.put, List.setIfInBounds_toArray, List.set_cons_zero, List.set_cons_succ, i64_w, i32_w]
    rfl
  refine pure_ (i := 4) (N := some 9) (v := ?_) (a' := ?_) #[true, true, true, true, true, false, false, false] rfl rfl (by kernel_rfl) (fun _ _ _ h => h) (Or.inl ⟨by rfl, ?_⟩) ?_ ?_
  rotate_left
  · intro w'
    go_simp
    with_reducible rfl
  rotate_left
  · simp only [Act.put, List.setIfInBounds_toArray, List.set_cons_zero, List.set_cons_succ, i64_w, i32_w]
    rfl
  refine pure_ (i := 5) (N := some 10) (v := ?_) (a' := ?_) #[true, true, true, true, true, true, false, false] rfl rfl (by kernel_rfl) (fun _ _ _ h => h) (Or.inl ⟨by rfl, ?_⟩) ?_ ?_
  rotate_left
  · intro w'
    go_simp
    with_reducible rfl
  rotate_left
  · simp only [Act.put, List.setIfInBounds_toArray, List.set_cons_zero, List.set_cons_succ, i64_w, i32_w]
    rfl
  refine pure_ (i := 6) (N := some 11) (v := ?_) (a' := ?_) #[true, true, true, true, true, true, true, false] rfl rfl (by kernel_rfl) (fun _ _ _ h => h) (Or.inl ⟨by rfl, ?_⟩) ?_ ?_
  rotate_left
  · intro w'
    go_simp
    with_reducible rfl
  rotate_left
  · simp only [Act.put, List.setIfInBounds_toArray, List.set_cons_zero, List.set_cons_succ, i64_w, i32_w]
    rfl
  refine one_ (i := 7) (N := none) #[true, true, true, true, true, true, true, true] rfl rfl (by kernel_rfl) (by decide) (fun K hK => ?_)
  obtain ⟨cg1_0, cg1_1⟩ := Wk.cells2 BKg1.out
  have fg1_0 := blk_frozen BKg1.out 0
  have fg1_1 := blk_frozen BKg1.out 1
  obtain ⟨cg2_0, cg2_1, cg2_2, cg2_3, cg2_4, cg2_5⟩ := Wk.cells6 BKg2.out
  have fg2_0 := blk_frozen BKg2.out 0
  have fg2_1 := blk_frozen BKg2.out 1
  have fg2_2 := blk_frozen BKg2.out 2
  have fg2_3 := blk_frozen BKg2.out 3
  have fg2_4 := blk_frozen BKg2.out 4
  have fg2_5 := blk_frozen BKg2.out 5
  obtain ⟨cg3_0, cg3_1, cg3_2, cg3_3, cg3_4, cg3_5⟩ := Wk.cells6 BKg3.out
  have fg3_0 := blk_frozen BKg3.out 0
  have fg3_1 := blk_frozen BKg3.out 1
  have fg3_2 := blk_frozen BKg3.out 2
  have fg3_3 := blk_frozen BKg3.out 3
  have fg3_4 := blk_frozen BKg3.out 4
  have fg3_5 := blk_frozen BKg3.out 5
  refine skip_ (by rfl) rfl (w1 := ?_) ?_ ?_
  rotate_left
  · go_simp
    with_reducible rfl
  clear cg1_0 fg1_0 cg1_1 fg1_1 cg2_0 fg2_0 cg2_1 fg2_1 cg2_2 fg2_2 cg2_3 fg2_3 cg2_4 fg2_4 cg2_5 fg2_5 cg3_0 fg3_0 cg3_1 fg3_1 cg3_2 fg3_2 cg3_3 fg3_3 cg3_4 fg3_4 cg3_5 fg3_5
  have NBKg1_ := Aside0.mk (blk_far (p := ⟨g3, 3, none⟩) BKg1.out Dg1g3 (.int .i64 (wrap64 (8 + wrap64 (2 * hf)))))
  have NBKg2_ := Aside0.mk (blk_far (p := ⟨g3, 3, none⟩) BKg2.out Dg2g3 (.int .i64 (wrap64 (8 + wrap64 (2 * hf)))))
  have NBKg3_ := Aside0.mk ((blk_put BKg3.out 3 (.int .i64 (wrap64 (8 + wrap64 (2 * hf)))) rfl : _ = some (Obj.cells #[.int .i64 0, .int .i64 0, .int .i64 8, .int .i64 (wrap64 (8 + wrap64 (2 * hf))), .int .i64 0, .int .i64 0] 43 (0, 0))))
  have NHB_ := Aside0.mk (below_set (j := 3) (v := .int .i64 (wrap64 (8 + wrap64 (2 * hf)))) HB.out GEg3.out)
  clear BKg1 BKg2 BKg3 HB
  have BKg1 := NBKg1_
  have BKg2 := NBKg2_
  have BKg3 := NBKg3_
  have HB := NHB_
  clear NBKg1_ NBKg2_ NBKg3_ NHB_
  refine hK.out _ _ ⟨(blk_cell BKg1.out 0).trans rfl, (blk_cell BKg1.out 1).trans rfl, (blk_cell BKg3.out 2).trans rfl⟩ (fun hHeld => ?_)
  clear hK K
  generalize W2.setCell ⟨g3, 3, none⟩ (.int .i64 (wrap64 (8 + wrap64 (2 * hf)))) = W3 at BKg1 BKg2 BKg3 HB hHeld ⊢
  refine done_ (by kernel_rfl) ?_
  obtain ⟨cg1_0, cg1_1⟩ := Wk.cells2 BKg1.out
  have fg1_0 := blk_frozen BKg1.out 0
  have fg1_1 := blk_frozen BKg1.out 1
  obtain ⟨cg2_0, cg2_1, cg2_2, cg2_3, cg2_4, cg2_5⟩ := Wk.cells6 BKg2.out
  have fg2_0 := blk_frozen BKg2.out 0
  have fg2_1 := blk_frozen BKg2.out 1
  have fg2_2 := blk_frozen BKg2.out 2
  have fg2_3 := blk_frozen BKg2.out 3
  have fg2_4 := blk_frozen BKg2.out 4
  have fg2_5 := blk_frozen BKg2.out 5
  obtain ⟨cg3_0, cg3_1, cg3_2, cg3_3, cg3_4, cg3_5⟩ := Wk.cells6 BKg3.out
  have fg3_0 := blk_frozen BKg3.out 0
  have fg3_1 := blk_frozen BKg3.out 1
  have fg3_2 := blk_frozen BKg3.out 2
  have fg3_3 := blk_frozen BKg3.out 3
  have fg3_4 := blk_frozen BKg3.out 4
  have fg3_5 := blk_frozen BKg3.out 5
  go_wp2_with fail
  clear cg1_0 fg1_0 cg1_1 fg1_1 cg2_0 fg2_0 cg2_1 fg2_1 cg2_2 fg2_2 cg2_3 fg2_3 cg2_4 fg2_4 cg2_5 fg2_5 cg3_0 fg3_0 cg3_1 fg3_1 cg3_2 fg3_2 cg3_3 fg3_3 cg3_4 fg3_4 cg3_5 fg3_5
  have NBKg1_ := Aside0.mk (blk_drew BKg1.out)
  have NBKg2_ := Aside0.mk (blk_drew BKg2.out)
  have NBKg3_ := Aside0.mk (blk_drew BKg3.out)
  have NHB_ := Aside0.mk (below_drew1 HB.out)
  clear BKg1 BKg2 BKg3 HB
  have BKg1 := NBKg1_
  have BKg2 := NBKg2_
  have BKg3 := NBKg3_
  have HB := NHB_
  clear NBKg1_ NBKg2_ NBKg3_ NHB_
  refine start_ (n := 7) (S := fun w' => w'.cell? ⟨g1, 0, none⟩ = some (.int .i64 M) ∧ w'.cell? ⟨g1, 1, none⟩ = some (.int .i64 R) ∧ w'.cell? ⟨g3, 3, none⟩ = some (.int .i64 (wrap64 (8 + wrap64 (2 * hf))))) (ds := []) #[false, false, false, false, false, false, false] (by kernel_rfl) rfl rfl ⟨(blk_cell BKg1.out 0).trans rfl, (blk_cell BKg1.out 1).trans rfl, (blk_cell BKg3.out 3).trans rfl⟩ (fun hHeld => ?_)
  generalize W3.drew = W4 at BKg1 BKg2 BKg3 HB hHeld ⊢
  refine pure_ (i := 0) (N := some 12) (v := ?_) (a' := ?_) #[true, false, false, false, false, false, false] rfl rfl (by kernel_rfl) (fun _ _ _ h => h) (Or.inl ⟨by rfl, ?_⟩) ?_ ?_
  rotate_left
  · intro w'
    go_simp
    with_reducible rfl
  rotate_left
  · simp only [Act.put, List.setIfInBounds_toArray, List.set_cons_zero, List.set_cons_succ, i64_w, i32_w]
    rfl
  refine take_ (i := 1) (N := some 13) (v := ?_) (a' := ?_) #[true, true, false, false, false, false, false] rfl rfl (by kernel_rfl) (fun _ _ _ h => h) (Or.inl ⟨by rfl, ?_⟩) hHeld ?_ ?_
  rotate_left
  · rintro w' ⟨s0, s1, s2⟩
    go_simp
    with_reducible rfl
  rotate_left
  · simp only [Act.put, List.setIfInBounds_toArray, List.set_cons_zero, List.set_cons_succ, i64_w, i32_w]
    rfl
  refine take_ (i := 2) (N := some 14) (v := ?_) (a' := ?_) #[true, true, true, false, false, false, false] rfl rfl (by kernel_rfl) (fun _ _ _ h => h) (Or.inl ⟨by rfl, ?_⟩) hHeld ?_ ?_
  rotate_left
  · rintro w' ⟨s0, s1, s2⟩
    go_simp
    with_reducible rfl
  rotate_left
  · simp only [Act.put, List.setIfInBounds_toArray, List.set_cons_zero, List.set_cons_succ, i64_w, i32_w]
    rfl
  refine one_ (i := 3) (N := some 15) #[true, true, true, true, false, false, false] rfl rfl (by kernel_rfl) (by decide) (fun K hK => ?_)
  refine goes_ Try.func15 (by kernel_rfl) rfl #[.agg #[.int .i64 M, .int .i64 R]] (by rfl) rfl rfl (by (try simp only [List.map_toArray, List.map_cons, List.map_nil]); first | done | rfl | (simp only [List.length_drop, List.length_take]; rfl)) ?_
  with_reducible refine (geom_Nodes.calls k M R nd _ H2.out).mono ?_
  rintro e W5 ⟨rfl, hb⟩
  refine ⟨_, rfl, ?_⟩
  have NBKg1_ := Aside0.mk (blk_below (o := .cells #[.int .i64 M, .int .i64 R] 23 (0, 0)) (by (with_reducible repeat (first | refine blk_drewN ?_ _ | refine blk_drew ?_ | refine blk_alloc ?_ _)); exact BKg1.out) hb)
  have NBKg2_ := Aside0.mk (blk_below (o := .cells #[.int .i64 0, .int .i64 0, .int .i64 0, .int .i64 0, .int .i64 0, .int .i64 0] 43 (0, 0)) (by (with_reducible repeat (first | refine blk_drewN ?_ _ | refine blk_drew ?_ | refine blk_alloc ?_ _)); exact BKg2.out) hb)
  have NBKg3_ := Aside0.mk (blk_below (o := .cells #[.int .i64 0, .int .i64 0, .int .i64 8, .int .i64 (wrap64 (8 + wrap64 (2 * hf))), .int .i64 0, .int .i64 0] 43 (0, 0)) (by (with_reducible repeat (first | refine blk_drewN ?_ _ | refine blk_drew ?_ | refine blk_alloc ?_ _)); exact BKg3.out) hb)
  have NHB_ := Aside0.mk (below_step (by repeat (first | (with_reducible first | exact HB.out | apply below_alloc | apply pw_below_drewN | apply below_drew1) | exact HB.out)) hb)
  clear BKg1 BKg2 BKg3 HB
  have BKg1 := NBKg1_
  have BKg2 := NBKg2_
  have BKg3 := NBKg3_
  have HB := NHB_
  clear NBKg1_ NBKg2_ NBKg3_ NHB_
  clear hb
  refine hK.out _ _ ⟨(blk_cell BKg1.out 0).trans rfl, (blk_cell BKg1.out 1).trans rfl, (blk_cell BKg3.out 3).trans rfl⟩ (fun hHeld => ?_)
  clear hK K
  refine norm_ (a' := ?_) ?_ ?_
  rotate_left
  · show Act.put _ (some 15) _ = _
    simp only [Act.put, List.setIfInBounds_toArray, List.set_cons_zero, List.set_cons_succ, i64_w, i32_w]
    rfl
  refine pure_ (i := 4) (N := some 16) (v := ?_) (a' := ?_) #[true, true, true, true, true, false, false] rfl rfl (by kernel_rfl) (fun _ _ _ h => h) (Or.inl ⟨by rfl, ?_⟩) ?_ ?_
  rotate_left
  · intro w'
    go_simp
    with_reducible rfl
  rotate_left
  · simp only [Act.put, List.setIfInBounds_toArray, List.set_cons_zero, List.set_cons_succ, i64_w, i32_w]
    rfl
  refine pure_ (i := 5) (N := some 17) (v := ?_) (a' := ?_) #[true, true, true, true, true, true, false] rfl rfl (by kernel_rfl) (fun _ _ _ h => h) (Or.inl ⟨by rfl, ?_⟩) ?_ ?_
  rotate_left
  · intro w'
    go_simp
    with_reducible rfl
  rotate_left
  · simp only [Act.put, List.setIfInBounds_toArray, List.set_cons_zero, List.set_cons_succ, i64_w, i32_w]
    rfl
  refine one_ (i := 6) (N := none) #[true, true, true, true, true, true, true] rfl rfl (by kernel_rfl) (by decide) (fun K hK => ?_)
  obtain ⟨cg1_0, cg1_1⟩ := Wk.cells2 BKg1.out
  have fg1_0 := blk_frozen BKg1.out 0
  have fg1_1 := blk_frozen BKg1.out 1
  obtain ⟨cg2_0, cg2_1, cg2_2, cg2_3, cg2_4, cg2_5⟩ := Wk.cells6 BKg2.out
  have fg2_0 := blk_frozen BKg2.out 0
  have fg2_1 := blk_frozen BKg2.out 1
  have fg2_2 := blk_frozen BKg2.out 2
  have fg2_3 := blk_frozen BKg2.out 3
  have fg2_4 := blk_frozen BKg2.out 4
  have fg2_5 := blk_frozen BKg2.out 5
  obtain ⟨cg3_0, cg3_1, cg3_2, cg3_3, cg3_4, cg3_5⟩ := Wk.cells6 BKg3.out
  have fg3_0 := blk_frozen BKg3.out 0
  have fg3_1 := blk_frozen BKg3.out 1
  have fg3_2 := blk_frozen BKg3.out 2
  have fg3_3 := blk_frozen BKg3.out 3
  have fg3_4 := blk_frozen BKg3.out 4
  have fg3_5 := blk_frozen BKg3.out 5
  refine skip_ (by rfl) rfl (w1 := ?_) ?_ ?_
  rotate_left
  · go_simp
    with_reducible rfl
  clear cg1_0 fg1_0 cg1_1 fg1_1 cg2_0 fg2_0 cg2_1 fg2_1 cg2_2 fg2_2 cg2_3 fg2_3 cg2_4 fg2_4 cg2_5 fg2_5 cg3_0 fg3_0 cg3_1 fg3_1 cg3_2 fg3_2 cg3_3 fg3_3 cg3_4 fg3_4 cg3_5 fg3_5
  have NBKg1_ := Aside0.mk (blk_far (p := ⟨g3, 4, none⟩) BKg1.out Dg1g3 (.int .i64 (wrap64 ((wrap64 (8 + wrap64 (2 * hf))) + nd))))
  have NBKg2_ := Aside0.mk (blk_far (p := ⟨g3, 4, none⟩) BKg2.out Dg2g3 (.int .i64 (wrap64 ((wrap64 (8 + wrap64 (2 * hf))) + nd))))
  have NBKg3_ := Aside0.mk ((blk_put BKg3.out 4 (.int .i64 (wrap64 ((wrap64 (8 + wrap64 (2 * hf))) + nd))) rfl : _ = some (Obj.cells #[.int .i64 0, .int .i64 0, .int .i64 8, .int .i64 (wrap64 (8 + wrap64 (2 * hf))), .int .i64 (wrap64 ((wrap64 (8 + wrap64 (2 * hf))) + nd)), .int .i64 0] 43 (0, 0))))
  have NHB_ := Aside0.mk (below_set (j := 4) (v := .int .i64 (wrap64 ((wrap64 (8 + wrap64 (2 * hf))) + nd))) HB.out GEg3.out)
  clear BKg1 BKg2 BKg3 HB
  have BKg1 := NBKg1_
  have BKg2 := NBKg2_
  have BKg3 := NBKg3_
  have HB := NHB_
  clear NBKg1_ NBKg2_ NBKg3_ NHB_
  refine hK.out _ _ ⟨(blk_cell BKg1.out 0).trans rfl, (blk_cell BKg1.out 1).trans rfl, (blk_cell BKg3.out 3).trans rfl⟩ (fun hHeld => ?_)
  clear hK K
  generalize W5.setCell ⟨g3, 4, none⟩ (.int .i64 (wrap64 ((wrap64 (8 + wrap64 (2 * hf))) + nd))) = W6 at BKg1 BKg2 BKg3 HB hHeld ⊢
  refine done_ (by kernel_rfl) ?_
  obtain ⟨cg1_0, cg1_1⟩ := Wk.cells2 BKg1.out
  have fg1_0 := blk_frozen BKg1.out 0
  have fg1_1 := blk_frozen BKg1.out 1
  obtain ⟨cg2_0, cg2_1, cg2_2, cg2_3, cg2_4, cg2_5⟩ := Wk.cells6 BKg2.out
  have fg2_0 := blk_frozen BKg2.out 0
  have fg2_1 := blk_frozen BKg2.out 1
  have fg2_2 := blk_frozen BKg2.out 2
  have fg2_3 := blk_frozen BKg2.out 3
  have fg2_4 := blk_frozen BKg2.out 4
  have fg2_5 := blk_frozen BKg2.out 5
  obtain ⟨cg3_0, cg3_1, cg3_2, cg3_3, cg3_4, cg3_5⟩ := Wk.cells6 BKg3.out
  have fg3_0 := blk_frozen BKg3.out 0
  have fg3_1 := blk_frozen BKg3.out 1
  have fg3_2 := blk_frozen BKg3.out 2
  have fg3_3 := blk_frozen BKg3.out 3
  have fg3_4 := blk_frozen BKg3.out 4
  have fg3_5 := blk_frozen BKg3.out 5
  go_wp2_with fail
  refine bodyPost_ret (v := .agg #[.int .i64 0, .int .i64 0, .int .i64 8, .int .i64 (wrap64 (8 + wrap64 (2 * hf))), .int .i64 (wrap64 ((wrap64 (8 + wrap64 (2 * hf))) + nd)), .int .i64 (wrap64 ((wrap64 ((wrap64 (8 + wrap64 (2 * hf))) + nd)) + R))]) ?_ rfl ⟨rfl, ?_⟩
  · simp [results, Try.results32, go_sem, *]
  · exact below_set (below_set (below_set (below_set (below_set (below_set (below_set HB.out GEg3.out) GEg2.out) GEg2.out) GEg2.out) GEg2.out) GEg2.out) GEg2.out
def geom_Sectors.f (k : Nat) (M R : Int) : Option Int := (geom_is.f M R).bind fun b => (if b = true then ((geom_Half.f k M R).bind fun hf => ((geom_Nodes.f k M R).bind fun nd => (some (wrap64 (wrap64 (wrap64 (8 + wrap64 (2 * hf)) + nd) + R))))) else (some 0))
theorem geom_Sectors.mono : ∀ M R k, LeO (geom_Sectors.f k M R) (geom_Sectors.f (k + 1) M R) := by
  intro M R k
  unfold geom_Sectors.f
  repeat' first
    | (with_reducible exact geom_Half.mono _ _ _)
    | (with_reducible exact geom_Nodes.mono _ _ _)
    | (with_reducible exact LeO.refl _)
    | (with_reducible exact LeO.none _)
    | (with_reducible refine LeO.ite ?_ ?_)
    | (with_reducible refine LeO.bind ?_ (fun _ => ?_))
set_option maxHeartbeats 4000000 in
set_option maxRecDepth 100000 in
theorem geom_Sectors.calls (k : Nat) (M R r : Int) (w : World) (h : geom_Sectors.f k M R = some r) :
    Calls Try.prog 23 #[.agg #[.int .i64 M, .int .i64 R]] w fun e w' => e = .returned (.int .i64 r) ∧ Below w.heap.size w w' := by
  unfold geom_Sectors.f at h
  obtain ⟨b, hb1, h⟩ := Option.bind_eq_some_iff.mp h
  have H1 := Aside0.mk hb1
  clear hb1
  cases b with
  | false =>
    rw [if_neg (by decide)] at h
    obtain rfl := Option.some.inj h
    have HB := Aside0.mk (Below.refl w.heap.size w)
    go_enter Try.func23, Try.ntmps23
    go_wp2_with fail
    with_reducible refine (geom_is.calls M R false _ H1.out).mono ?_
    rintro e w1 ⟨rfl, hb⟩
    have HC := Aside0.mk (below_step (below_alloc HB.out _) hb)
    go_wp2
    go_ret
    exact ⟨rfl, HC.out⟩
  | true =>
    rw [if_pos rfl] at h
    obtain ⟨hf, h2, h⟩ := Option.bind_eq_some_iff.mp h
    obtain ⟨nd, h3, h⟩ := Option.bind_eq_some_iff.mp h
    have H2 := Aside0.mk h2
    have H3 := Aside0.mk h3
    clear h2 h3
    obtain rfl := Option.some.inj h
    have HB := Aside0.mk (Below.refl w.heap.size w)
    go_enter Try.func23, Try.ntmps23
    go_wp2_with fail
    with_reducible refine (geom_is.calls M R true _ H1.out).mono ?_
    rintro e w1 ⟨rfl, hb⟩
    have q := Wk.blks1 w (.cells #[.int .i64 M, .int .i64 R] 23)
    obtain ⟨c0, c1⟩ := Wk.cells2 (blk_below q.1 hb)
    have HC := Aside0.mk (below_step (below_alloc HB.out _) hb)
    clear hb q HB
    go_wp2_with fail
    with_reducible refine (geom_firsts.calls k M R hf nd _ H2.out H3.out).mono ?_
    rintro e w2 ⟨rfl, hb⟩
    have i5 : ∀ w, (Instr.index 43 (.agg #[.int .i64 0, .int .i64 0, .int .i64 8, .int .i64 (wrap64 (8 + wrap64 (2 * hf))), .int .i64 (wrap64 (wrap64 (8 + wrap64 (2 * hf)) + nd)), .int .i64 (wrap64 (wrap64 (wrap64 (8 + wrap64 (2 * hf)) + nd) + R))]) (.int .i64 5)).run Try.prog w = .ok (.int .i64 (wrap64 (wrap64 (wrap64 (8 + wrap64 (2 * hf)) + nd) + R))) w := fun _ => by kernel_rfl
    have HD := Aside0.mk (below_step HC.out hb)
    clear hb
    go_wp2
    go_ret
    exact ⟨rfl, HD.out⟩
/-! ### geom_least: function 34 -/
def geom_least.f (a0 : Int) : Option (Int) := if a0 = 3 then (some 1) else (some 0)
set_option maxHeartbeats 8000000 in
set_option maxRecDepth 100000 in
theorem geom_least.calls (a0 : Int) (r : Int) (w : World) (h : geom_least.f a0 = some r) :
    Calls Try.prog 34 #[.int .i64 a0] w fun e w' => e = .returned (.int .i64 r) ∧ Drawn0 w w' := by
  have H : (if a0 = 3 then (some 1) else (some 0)) = some r := h
  clear h
  by_cases c2 : a0 = 3
  · rw [if_pos c2] at H
    have c2b0 : (a0 == 3) = true := beq_iff_eq.mpr c2
    have c2b1 : (a0 != 3) = false := bne_eq_false_iff_eq.mpr c2
    clear c2
    obtain rfl := Option.some.inj H
    go_enter Try.func34, Try.ntmps34
    go_wp2
    go_ret
    exact ⟨by first | rfl | (simp; done) | (simp [*]; done), by repeat (first | exact Drawn0.refl _ | apply Drawn0.step)⟩
  · rw [if_neg c2] at H
    have c2b0 : (a0 == 3) = false := beq_eq_false_iff_ne.mpr c2
    have c2b1 : (a0 != 3) = true := bne_iff_ne.mpr c2
    obtain rfl := Option.some.inj H
    go_enter Try.func34, Try.ntmps34
    go_wp2
    go_ret
    exact ⟨by first | rfl | (simp; done) | (simp [*]; done), by repeat (first | exact Drawn0.refl _ | apply Drawn0.step)⟩

/-! ### geom_Place: by hand: function 26 -/
def geom_Place.f (k : Nat) (M R rg ix : Int) : Option (Int × Int) := (geom_is.f M R).bind fun b => (if b = true then (if rg < 1 then (some (0, 2)) else (if rg > 4 then (some (0, 2)) else ((geom_least.f rg).bind fun l => (if ix < l then (some (0, 2)) else ((geom_Half.f k M R).bind fun hf => ((geom_Nodes.f k M R).bind fun nd => (if wrap64 (ix - l) ≥ wrap64 (rd ([0, 0, 8, (wrap64 (8 + wrap64 (2 * hf))), (wrap64 (wrap64 (8 + wrap64 (2 * hf)) + nd)), (wrap64 (wrap64 (wrap64 (8 + wrap64 (2 * hf)) + nd) + R))] : List Int) (wrap64 (rg + 1)) - rd ([0, 0, 8, (wrap64 (8 + wrap64 (2 * hf))), (wrap64 (wrap64 (8 + wrap64 (2 * hf)) + nd)), (wrap64 (wrap64 (wrap64 (8 + wrap64 (2 * hf)) + nd) + R))] : List Int) rg) then (some (0, 2)) else (some (wrap64 (wrap64 (rd ([0, 0, 8, (wrap64 (8 + wrap64 (2 * hf))), (wrap64 (wrap64 (8 + wrap64 (2 * hf)) + nd)), (wrap64 (wrap64 (wrap64 (8 + wrap64 (2 * hf)) + nd) + R))] : List Int) rg + ix) - l), 0))))))))) else (some (0, 2)))
theorem geom_Place.mono : ∀ M R rg ix k, LeO (geom_Place.f k M R rg ix) (geom_Place.f (k + 1) M R rg ix) := by
  intro M R rg ix k
  unfold geom_Place.f
  repeat' first
    | (with_reducible exact geom_Half.mono _ _ _)
    | (with_reducible exact geom_Nodes.mono _ _ _)
    | (with_reducible exact LeO.refl _)
    | (with_reducible exact LeO.none _)
    | (with_reducible refine LeO.ite ?_ ?_)
    | (with_reducible refine LeO.bind ?_ (fun _ => ?_))
set_option maxHeartbeats 4000000 in
set_option maxRecDepth 100000 in
theorem geom_Place.no1 (M R rg ix : Int) (w : World) (H1 : Aside0 (geom_is.f M R = some false)) :
    Calls Try.prog 26 #[.agg #[.int .i64 M, .int .i64 R], .int .i64 rg, .int .i64 ix] w fun e w' => e = .returned (.tuple #[.int .i64 0, .int .i64 2]) ∧ Below w.heap.size w w' := by
  have HB := Aside0.mk (Below.refl w.heap.size w)
  have q := Wk.blks1 w (.cells #[.int .i64 M, .int .i64 R] 23)
  go_enter Try.func26, Try.ntmps26
  go_wp2_with (first | (go_at_call 30; (with_reducible refine (geom_is.calls M R false _ H1.out).mono ?_); rintro e w1 ⟨rfl, hb⟩; obtain ⟨c0, c1⟩ := Wk.cells2 (blk_below q.1 hb); have HC := Aside0.mk (below_step (below_alloc HB.out _) hb); clear hb q HB))
  go_ret2
  exact ⟨by first | rfl | (simp; done) | (simp [*]; done), by repeat (first | (with_reducible first | exact HC.out | apply below_alloc | apply pw_below_drewN | apply below_drew1) | exact HC.out)⟩
set_option maxHeartbeats 4000000 in
set_option maxRecDepth 100000 in
theorem geom_Place.no2 (M R rg ix : Int) (w : World) (H1 : Aside0 (geom_is.f M R = some true)) (c : decide (rg < 1) = true) :
    Calls Try.prog 26 #[.agg #[.int .i64 M, .int .i64 R], .int .i64 rg, .int .i64 ix] w fun e w' => e = .returned (.tuple #[.int .i64 0, .int .i64 2]) ∧ Below w.heap.size w w' := by
  have HB := Aside0.mk (Below.refl w.heap.size w)
  have q := Wk.blks1 w (.cells #[.int .i64 M, .int .i64 R] 23)
  go_enter Try.func26, Try.ntmps26
  go_wp2_with (first | (go_at_call 30; (with_reducible refine (geom_is.calls M R true _ H1.out).mono ?_); rintro e w1 ⟨rfl, hb⟩; obtain ⟨c0, c1⟩ := Wk.cells2 (blk_below q.1 hb); have HC := Aside0.mk (below_step (below_alloc HB.out _) hb); clear hb q HB))
  go_ret2
  exact ⟨by first | rfl | (simp; done) | (simp [*]; done), by repeat (first | (with_reducible first | exact HC.out | apply below_alloc | apply pw_below_drewN | apply below_drew1) | exact HC.out)⟩
set_option maxHeartbeats 4000000 in
set_option maxRecDepth 100000 in
theorem geom_Place.no3 (M R rg ix : Int) (w : World) (H1 : Aside0 (geom_is.f M R = some true)) (c : decide (rg < 1) = false) (d : decide (4 < rg) = true) :
    Calls Try.prog 26 #[.agg #[.int .i64 M, .int .i64 R], .int .i64 rg, .int .i64 ix] w fun e w' => e = .returned (.tuple #[.int .i64 0, .int .i64 2]) ∧ Below w.heap.size w w' := by
  have HB := Aside0.mk (Below.refl w.heap.size w)
  have q := Wk.blks1 w (.cells #[.int .i64 M, .int .i64 R] 23)
  go_enter Try.func26, Try.ntmps26
  go_wp2_with (first | (go_at_call 30; (with_reducible refine (geom_is.calls M R true _ H1.out).mono ?_); rintro e w1 ⟨rfl, hb⟩; obtain ⟨c0, c1⟩ := Wk.cells2 (blk_below q.1 hb); have HC := Aside0.mk (below_step (below_alloc HB.out _) hb); clear hb q HB))
  go_ret2
  exact ⟨by first | rfl | (simp; done) | (simp [*]; done), by repeat (first | (with_reducible first | exact HC.out | apply below_alloc | apply pw_below_drewN | apply below_drew1) | exact HC.out)⟩
set_option maxHeartbeats 4000000 in
set_option maxRecDepth 100000 in
theorem geom_Place.no4 (M R rg ix l : Int) (w : World) (H1 : Aside0 (geom_is.f M R = some true)) (HL : Aside0 (geom_least.f rg = some l)) (c : decide (rg < 1) = false) (d : decide (4 < rg) = false) (e0 : decide (ix < l) = true) :
    Calls Try.prog 26 #[.agg #[.int .i64 M, .int .i64 R], .int .i64 rg, .int .i64 ix] w fun e w' => e = .returned (.tuple #[.int .i64 0, .int .i64 2]) ∧ Below w.heap.size w w' := by
  have HB := Aside0.mk (Below.refl w.heap.size w)
  have q := Wk.blks1 w (.cells #[.int .i64 M, .int .i64 R] 23)
  go_enter Try.func26, Try.ntmps26
  go_wp2_with (first | (go_at_call 30; (with_reducible refine (geom_is.calls M R true _ H1.out).mono ?_); rintro e w1 ⟨rfl, hb⟩; obtain ⟨c0, c1⟩ := Wk.cells2 (blk_below q.1 hb); have HC := Aside0.mk (below_step (below_alloc HB.out _) hb); clear hb q HB) | (go_at_call 34; (with_reducible refine (geom_least.calls _ l _ HL.out).mono ?_); rintro e w' ⟨rfl, ⟨nd_, rfl⟩⟩))
  go_ret2
  exact ⟨by first | rfl | (simp; done) | (simp [*]; done), by repeat (first | (with_reducible first | exact HC.out | apply below_alloc | apply pw_below_drewN | apply below_drew1) | exact HC.out)⟩
set_option maxHeartbeats 4000000 in
set_option maxRecDepth 100000 in
theorem geom_Place.out1 (k : Nat) (M R ix l hf nd : Int) (w : World) (H1 : Aside0 (geom_is.f M R = some true)) (HL : Aside0 (geom_least.f 1 = some l)) (H2 : Aside0 (geom_Half.f k M R = some hf)) (H3 : Aside0 (geom_Nodes.f k M R = some nd)) (e0 : decide (ix < l) = false) (e1 : decide (wrap64 8 ≤ wrap64 (ix - l)) = true) :
    Calls Try.prog 26 #[.agg #[.int .i64 M, .int .i64 R], .int .i64 1, .int .i64 ix] w fun e w' => e = .returned (.tuple #[.int .i64 0, .int .i64 2]) ∧ Below w.heap.size w w' := by
  have HB := Aside0.mk (Below.refl w.heap.size w)
  have q := Wk.blks1 w (.cells #[.int .i64 M, .int .i64 R] 23)
  go_enter Try.func26, Try.ntmps26
  go_wp2_with (first | (go_at_call 30; (with_reducible refine (geom_is.calls M R true _ H1.out).mono ?_); rintro e w1 ⟨rfl, hb⟩; obtain ⟨c0, c1⟩ := Wk.cells2 (blk_below q.1 hb); have HC := Aside0.mk (below_step (below_alloc HB.out _) hb); clear hb q HB) | (go_at_call 34; (with_reducible refine (geom_least.calls _ l _ HL.out).mono ?_); rintro e w' ⟨rfl, ⟨nd_, rfl⟩⟩))
  with_reducible refine (geom_firsts.calls k M R hf nd _ H2.out H3.out).mono ?_
  rintro e w2 ⟨rfl, hb⟩
  have HB := Aside0.mk (below_step (by repeat (first | (with_reducible first | exact HC.out | apply below_alloc | apply pw_below_drewN | apply below_drew1) | exact HC.out)) hb)
  clear hb HC
  go_wp2_with fail
  obtain ⟨q0_, nb_⟩ := Wk.blks1 w2 (.cells #[.int .i64 0, .int .i64 0, .int .i64 8, .int .i64 (wrap64 (8 + wrap64 (2 * hf))), .int .i64 (wrap64 (wrap64 (8 + wrap64 (2 * hf)) + nd)), .int .i64 (wrap64 (wrap64 (wrap64 (8 + wrap64 (2 * hf)) + nd) + R))] 43 (0, 0))
  obtain ⟨W3, hW_⟩ : ∃ W, W = (w2.alloc (.cells #[.int .i64 0, .int .i64 0, .int .i64 8, .int .i64 (wrap64 (8 + wrap64 (2 * hf))), .int .i64 (wrap64 (wrap64 (8 + wrap64 (2 * hf)) + nd)), .int .i64 (wrap64 (wrap64 (wrap64 (8 + wrap64 (2 * hf)) + nd) + R))] 43 (0, 0))) := ⟨_, rfl⟩
  rw [← hW_]
  rw [← hW_] at q0_
  rw [← hW_] at nb_
  have sz_ := below_size HB.out
  have hb2_ := Aside0.mk (below_step HB.out nb_)
  obtain ⟨g8, hgg8_⟩ : ∃ g, g = w2.heap.size := ⟨_, rfl⟩
  rw [← hgg8_]
  rw [← hgg8_] at q0_
  have GEg8 := Aside0.mk (show w.heap.size ≤ g8 by omega)
  have BKg8 := Aside0.mk q0_
  clear HB
  have HB := hb2_
  clear hb2_ hW_ nb_ sz_ hgg8_ q0_
  have NBKg8_ := Aside0.mk (blk_drew BKg8.out)
  have NHB_ := Aside0.mk (below_drew1 HB.out)
  clear BKg8 HB
  have BKg8 := NBKg8_
  have HB := NHB_
  clear NBKg8_ NHB_
  refine start_ (n := 13) (S := fun w' => w'.cell? ⟨g8, 0, none⟩ = some (.int .i64 0) ∧ w'.cell? ⟨g8, 1, none⟩ = some (.int .i64 0) ∧ w'.cell? ⟨g8, 2, none⟩ = some (.int .i64 8) ∧ w'.cell? ⟨g8, 3, none⟩ = some (.int .i64 (wrap64 (8 + wrap64 (2 * hf)))) ∧ w'.cell? ⟨g8, 4, none⟩ = some (.int .i64 (wrap64 (wrap64 (8 + wrap64 (2 * hf)) + nd))) ∧ w'.cell? ⟨g8, 5, none⟩ = some (.int .i64 (wrap64 (wrap64 (wrap64 (8 + wrap64 (2 * hf)) + nd) + R)))) (ds := []) #[false, false, false, false, false, false, false, false, false, false, false, false, false] (by kernel_rfl) rfl rfl ⟨(blk_cell BKg8.out 0).trans rfl, (blk_cell BKg8.out 1).trans rfl, (blk_cell BKg8.out 2).trans rfl, (blk_cell BKg8.out 3).trans rfl, (blk_cell BKg8.out 4).trans rfl, (blk_cell BKg8.out 5).trans rfl⟩ (fun hHeld => ?_)
  generalize W3.drew = W4 at BKg8 HB hHeld ⊢
  have wq : wrap64 2 = 2 := by unfold wrap64; omega
  refine pure_ (i := 0) (N := some 28) (v := ?_) (a' := ?_) #[true, false, false, false, false, false, false, false, false, false, false, false, false] rfl rfl (by kernel_rfl) (fun _ _ _ h => h) (Or.inl ⟨by rfl, ?_⟩) ?_ ?_
  rotate_left
  · intro w'
    go_simp
    with_reducible rfl
  rotate_left
  · simp only [Act.put, List.setIfInBounds_toArray, List.set_cons_zero, List.set_cons_succ, i64_w, i32_w]
    rfl
  refine pure_ (i := 1) (N := some 29) (v := ?_) (a' := ?_) #[true, true, false, false, false, false, false, false, false, false, false, false, false] rfl rfl (by kernel_rfl) (fun _ _ _ h => h) (Or.inl ⟨by rfl, ?_⟩) ?_ ?_
  rotate_left
  · intro w'
    go_simp
    with_reducible rfl
  rotate_left
  · simp only [Act.put, List.setIfInBounds_toArray, List.set_cons_zero, List.set_cons_succ, i64_w, i32_w]
    rfl
  refine pure_ (i := 4) (N := some 32) (v := ?_) (a' := ?_) #[true, true, false, false, true, false, false, false, false, false, false, false, false] rfl rfl (by kernel_rfl) (fun _ _ _ h => h) (Or.inl ⟨by rfl, ?_⟩) ?_ ?_
  rotate_left
  · intro w'
    go_simp
    with_reducible rfl
  rotate_left
  · simp only [Act.put, List.setIfInBounds_toArray, List.set_cons_zero, List.set_cons_succ, i64_w, i32_w]
    rfl
  refine pure_ (i := 5) (N := some 33) (v := ?_) (a' := ?_) #[true, true, false, false, true, true, false, false, false, false, false, false, false] rfl rfl (by kernel_rfl) (fun _ _ _ h => h) (Or.inl ⟨by rfl, ?_⟩) ?_ ?_
  rotate_left
  · intro w'
    go_simp
    with_reducible rfl
  rotate_left
  · simp only [Act.put, List.setIfInBounds_toArray, List.set_cons_zero, List.set_cons_succ, i64_w, i32_w]
    rfl
  refine pure_ (i := 6) (N := some 34) (v := ?_) (a' := ?_) #[true, true, false, false, true, true, true, false, false, false, false, false, false] rfl rfl (by kernel_rfl) (fun _ _ _ h => h) (Or.inl ⟨by rfl, ?_⟩) ?_ ?_
  rotate_left
  · intro w'
    go_simp
    with_reducible rfl
  rotate_left
  · simp only [Act.put, List.setIfInBounds_toArray, List.set_cons_zero, List.set_cons_succ, i64_w, i32_w]
    rfl
  refine take_ (i := 7) (N := some 35) (v := ?_) (a' := ?_) #[true, true, false, false, true, true, true, true, false, false, false, false, false] rfl rfl (by kernel_rfl) (fun _ _ _ h => h) (Or.inl ⟨by rfl, ?_⟩) hHeld ?_ ?_
  rotate_left
  · rintro w' ⟨s0, s1, s2, s3, s4, s5⟩
    go_simp
    with_reducible rfl
  rotate_left
  · simp only [Act.put, List.setIfInBounds_toArray, List.set_cons_zero, List.set_cons_succ, i64_w, i32_w]
    rfl
  refine pure_ (i := 8) (N := some 36) (v := ?_) (a' := ?_) #[true, true, false, false, true, true, true, true, true, false, false, false, false] rfl rfl (by kernel_rfl) (fun _ _ _ h => h) (Or.inl ⟨by rfl, ?_⟩) ?_ ?_
  rotate_left
  · intro w'
    go_simp
    with_reducible rfl
  rotate_left
  · simp only [Act.put, List.setIfInBounds_toArray, List.set_cons_zero, List.set_cons_succ, i64_w, i32_w]
    rfl
  refine pure_ (i := 9) (N := some 37) (v := ?_) (a' := ?_) #[true, true, false, false, true, true, true, true, true, true, false, false, false] rfl rfl (by kernel_rfl) (fun _ _ _ h => h) (Or.inl ⟨by rfl, ?_⟩) ?_ ?_
  rotate_left
  · intro w'
    go_simp
    with_reducible rfl
  rotate_left
  · simp only [Act.put, List.setIfInBounds_toArray, List.set_cons_zero, List.set_cons_succ, i64_w, i32_w]
    rfl
  refine take_ (i := 10) (N := some 38) (v := ?_) (a' := ?_) #[true, true, false, false, true, true, true, true, true, true, true, false, false] rfl rfl (by kernel_rfl) (fun _ _ _ h => h) (Or.inl ⟨by rfl, ?_⟩) hHeld ?_ ?_
  rotate_left
  · rintro w' ⟨s0, s1, s2, s3, s4, s5⟩
    go_simp
    with_reducible rfl
  rotate_left
  · simp only [Act.put, List.setIfInBounds_toArray, List.set_cons_zero, List.set_cons_succ, i64_w, i32_w]
    rfl
  refine pure_ (i := 11) (N := some 39) (v := ?_) (a' := ?_) #[true, true, false, false, true, true, true, true, true, true, true, true, false] rfl rfl (by kernel_rfl) (fun _ _ _ h => h) (Or.inl ⟨by rfl, ?_⟩) ?_ ?_
  rotate_left
  · intro w'
    go_simp
    with_reducible rfl
  rotate_left
  · simp only [Act.put, List.setIfInBounds_toArray, List.set_cons_zero, List.set_cons_succ, i64_w, i32_w]
    rfl
  refine one_ (i := 2) (N := some 30) #[true, true, true, false, true, true, true, true, true, true, true, true, false] rfl rfl (by kernel_rfl) (by decide) (fun K hK => ?_)
  refine goes_ Try.func34 (by kernel_rfl) rfl #[.int .i64 1] (by rfl) rfl rfl (by (try simp only [List.map_toArray, List.map_cons, List.map_nil]); first | done | rfl | (simp only [List.length_drop, List.length_take]; rfl)) ?_
  with_reducible refine (geom_least.calls 1 l _ HL.out).mono ?_
  rintro e w_ ⟨rfl, ⟨nd_, rfl⟩⟩
  refine ⟨_, rfl, ?_⟩
  have NBKg8_ := Aside0.mk (blk_drewN BKg8.out nd_)
  have NHB_ := Aside0.mk (pw_below_drewN HB.out nd_)
  clear BKg8 HB
  have BKg8 := NBKg8_
  have HB := NHB_
  clear NBKg8_ NHB_
  refine hK.out _ _ ⟨(blk_cell BKg8.out 0).trans rfl, (blk_cell BKg8.out 1).trans rfl, (blk_cell BKg8.out 2).trans rfl, (blk_cell BKg8.out 3).trans rfl, (blk_cell BKg8.out 4).trans rfl, (blk_cell BKg8.out 5).trans rfl⟩ (fun hHeld => ?_)
  clear hK K
  refine norm_ (a' := ?_) ?_ ?_
  rotate_left
  · show Act.put _ (some 30) _ = _
    simp only [Act.put, List.setIfInBounds_toArray, List.set_cons_zero, List.set_cons_succ, i64_w, i32_w]
    rfl
  generalize W4.drewN nd_ = W5 at BKg8 HB hHeld ⊢
  refine pure_ (i := 3) (N := some 31) (v := ?_) (a' := ?_) #[true, true, true, true, true, true, true, true, true, true, true, true, false] rfl rfl (by kernel_rfl) (fun _ _ _ h => h) (Or.inl ⟨by rfl, ?_⟩) ?_ ?_
  rotate_left
  · intro w'
    go_simp
    with_reducible rfl
  rotate_left
  · simp only [Act.put, List.setIfInBounds_toArray, List.set_cons_zero, List.set_cons_succ, i64_w, i32_w]
    rfl
  refine pure_ (i := 12) (N := some 40) (v := ?_) (a' := ?_) #[true, true, true, true, true, true, true, true, true, true, true, true, true] rfl rfl (by kernel_rfl) (fun _ _ _ h => h) (Or.inl ⟨by rfl, ?_⟩) ?_ ?_
  rotate_left
  · intro w'
    go_simp
    with_reducible rfl
  rotate_left
  · simp only [Act.put, List.setIfInBounds_toArray, List.set_cons_zero, List.set_cons_succ, i64_w, i32_w]
    rfl
  refine done_ (by kernel_rfl) ?_
  obtain ⟨cg8_0, cg8_1, cg8_2, cg8_3, cg8_4, cg8_5⟩ := Wk.cells6 BKg8.out
  have fg8_0 := blk_frozen BKg8.out 0
  have fg8_1 := blk_frozen BKg8.out 1
  have fg8_2 := blk_frozen BKg8.out 2
  have fg8_3 := blk_frozen BKg8.out 3
  have fg8_4 := blk_frozen BKg8.out 4
  have fg8_5 := blk_frozen BKg8.out 5
  go_wp2_with fail
  go_ret2
  exact ⟨by first | rfl | (simp; done) | (simp [*]; done), HB.out⟩
set_option maxHeartbeats 4000000 in
set_option maxRecDepth 100000 in
theorem geom_Place.in_1 (k : Nat) (M R ix l hf nd : Int) (w : World) (H1 : Aside0 (geom_is.f M R = some true)) (HL : Aside0 (geom_least.f 1 = some l)) (H2 : Aside0 (geom_Half.f k M R = some hf)) (H3 : Aside0 (geom_Nodes.f k M R = some nd)) (e0 : decide (ix < l) = false) (e1 : decide (wrap64 8 ≤ wrap64 (ix - l)) = false) :
    Calls Try.prog 26 #[.agg #[.int .i64 M, .int .i64 R], .int .i64 1, .int .i64 ix] w fun e w' => e = .returned (.tuple #[.int .i64 (wrap64 (wrap64 ix - l)), .int .i64 0]) ∧ Below w.heap.size w w' := by
  have HB := Aside0.mk (Below.refl w.heap.size w)
  have q := Wk.blks1 w (.cells #[.int .i64 M, .int .i64 R] 23)
  go_enter Try.func26, Try.ntmps26
  go_wp2_with (first | (go_at_call 30; (with_reducible refine (geom_is.calls M R true _ H1.out).mono ?_); rintro e w1 ⟨rfl, hb⟩; obtain ⟨c0, c1⟩ := Wk.cells2 (blk_below q.1 hb); have HC := Aside0.mk (below_step (below_alloc HB.out _) hb); clear hb q HB) | (go_at_call 34; (with_reducible refine (geom_least.calls _ l _ HL.out).mono ?_); rintro e w' ⟨rfl, ⟨nd_, rfl⟩⟩))
  with_reducible refine (geom_firsts.calls k M R hf nd _ H2.out H3.out).mono ?_
  rintro e w2 ⟨rfl, hb⟩
  have HB := Aside0.mk (below_step (by repeat (first | (with_reducible first | exact HC.out | apply below_alloc | apply pw_below_drewN | apply below_drew1) | exact HC.out)) hb)
  clear hb HC
  go_wp2_with fail
  obtain ⟨q0_, nb_⟩ := Wk.blks1 w2 (.cells #[.int .i64 0, .int .i64 0, .int .i64 8, .int .i64 (wrap64 (8 + wrap64 (2 * hf))), .int .i64 (wrap64 (wrap64 (8 + wrap64 (2 * hf)) + nd)), .int .i64 (wrap64 (wrap64 (wrap64 (8 + wrap64 (2 * hf)) + nd) + R))] 43 (0, 0))
  obtain ⟨W3, hW_⟩ : ∃ W, W = (w2.alloc (.cells #[.int .i64 0, .int .i64 0, .int .i64 8, .int .i64 (wrap64 (8 + wrap64 (2 * hf))), .int .i64 (wrap64 (wrap64 (8 + wrap64 (2 * hf)) + nd)), .int .i64 (wrap64 (wrap64 (wrap64 (8 + wrap64 (2 * hf)) + nd) + R))] 43 (0, 0))) := ⟨_, rfl⟩
  rw [← hW_]
  rw [← hW_] at q0_
  rw [← hW_] at nb_
  have sz_ := below_size HB.out
  have hb2_ := Aside0.mk (below_step HB.out nb_)
  obtain ⟨g8, hgg8_⟩ : ∃ g, g = w2.heap.size := ⟨_, rfl⟩
  rw [← hgg8_]
  rw [← hgg8_] at q0_
  have GEg8 := Aside0.mk (show w.heap.size ≤ g8 by omega)
  have BKg8 := Aside0.mk q0_
  clear HB
  have HB := hb2_
  clear hb2_ hW_ nb_ sz_ hgg8_ q0_
  have NBKg8_ := Aside0.mk (blk_drew BKg8.out)
  have NHB_ := Aside0.mk (below_drew1 HB.out)
  clear BKg8 HB
  have BKg8 := NBKg8_
  have HB := NHB_
  clear NBKg8_ NHB_
  refine start_ (n := 13) (S := fun w' => w'.cell? ⟨g8, 0, none⟩ = some (.int .i64 0) ∧ w'.cell? ⟨g8, 1, none⟩ = some (.int .i64 0) ∧ w'.cell? ⟨g8, 2, none⟩ = some (.int .i64 8) ∧ w'.cell? ⟨g8, 3, none⟩ = some (.int .i64 (wrap64 (8 + wrap64 (2 * hf)))) ∧ w'.cell? ⟨g8, 4, none⟩ = some (.int .i64 (wrap64 (wrap64 (8 + wrap64 (2 * hf)) + nd))) ∧ w'.cell? ⟨g8, 5, none⟩ = some (.int .i64 (wrap64 (wrap64 (wrap64 (8 + wrap64 (2 * hf)) + nd) + R)))) (ds := []) #[false, false, false, false, false, false, false, false, false, false, false, false, false] (by kernel_rfl) rfl rfl ⟨(blk_cell BKg8.out 0).trans rfl, (blk_cell BKg8.out 1).trans rfl, (blk_cell BKg8.out 2).trans rfl, (blk_cell BKg8.out 3).trans rfl, (blk_cell BKg8.out 4).trans rfl, (blk_cell BKg8.out 5).trans rfl⟩ (fun hHeld => ?_)
  generalize W3.drew = W4 at BKg8 HB hHeld ⊢
  have wq : wrap64 2 = 2 := by unfold wrap64; omega
  refine pure_ (i := 0) (N := some 28) (v := ?_) (a' := ?_) #[true, false, false, false, false, false, false, false, false, false, false, false, false] rfl rfl (by kernel_rfl) (fun _ _ _ h => h) (Or.inl ⟨by rfl, ?_⟩) ?_ ?_
  rotate_left
  · intro w'
    go_simp
    with_reducible rfl
  rotate_left
  · simp only [Act.put, List.setIfInBounds_toArray, List.set_cons_zero, List.set_cons_succ, i64_w, i32_w]
    rfl
  refine pure_ (i := 1) (N := some 29) (v := ?_) (a' := ?_) #[true, true, false, false, false, false, false, false, false, false, false, false, false] rfl rfl (by kernel_rfl) (fun _ _ _ h => h) (Or.inl ⟨by rfl, ?_⟩) ?_ ?_
  rotate_left
  · intro w'
    go_simp
    with_reducible rfl
  rotate_left
  · simp only [Act.put, List.setIfInBounds_toArray, List.set_cons_zero, List.set_cons_succ, i64_w, i32_w]
    rfl
  refine pure_ (i := 4) (N := some 32) (v := ?_) (a' := ?_) #[true, true, false, false, true, false, false, false, false, false, false, false, false] rfl rfl (by kernel_rfl) (fun _ _ _ h => h) (Or.inl ⟨by rfl, ?_⟩) ?_ ?_
  rotate_left
  · intro w'
    go_simp
    with_reducible rfl
  rotate_left
  · simp only [Act.put, List.setIfInBounds_toArray, List.set_cons_zero, List.set_cons_succ, i64_w, i32_w]
    rfl
  refine pure_ (i := 5) (N := some 33) (v := ?_) (a' := ?_) #[true, true, false, false, true, true, false, false, false, false, false, false, false] rfl rfl (by kernel_rfl) (fun _ _ _ h => h) (Or.inl ⟨by rfl, ?_⟩) ?_ ?_
  rotate_left
  · intro w'
    go_simp
    with_reducible rfl
  rotate_left
  · simp only [Act.put, List.setIfInBounds_toArray, List.set_cons_zero, List.set_cons_succ, i64_w, i32_w]
    rfl
  refine pure_ (i := 6) (N := some 34) (v := ?_) (a' := ?_) #[true, true, false, false, true, true, true, false, false, false, false, false, false] rfl rfl (by kernel_rfl) (fun _ _ _ h => h) (Or.inl ⟨by rfl, ?_⟩) ?_ ?_
  rotate_left
  · intro w'
    go_simp
    with_reducible rfl
  rotate_left
  · simp only [Act.put, List.setIfInBounds_toArray, List.set_cons_zero, List.set_cons_succ, i64_w, i32_w]
    rfl
  refine take_ (i := 7) (N := some 35) (v := ?_) (a' := ?_) #[true, true, false, false, true, true, true, true, false, false, false, false, false] rfl rfl (by kernel_rfl) (fun _ _ _ h => h) (Or.inl ⟨by rfl, ?_⟩) hHeld ?_ ?_
  rotate_left
  · rintro w' ⟨s0, s1, s2, s3, s4, s5⟩
    go_simp
    with_reducible rfl
  rotate_left
  · simp only [Act.put, List.setIfInBounds_toArray, List.set_cons_zero, List.set_cons_succ, i64_w, i32_w]
    rfl
  refine pure_ (i := 8) (N := some 36) (v := ?_) (a' := ?_) #[true, true, false, false, true, true, true, true, true, false, false, false, false] rfl rfl (by kernel_rfl) (fun _ _ _ h => h) (Or.inl ⟨by rfl, ?_⟩) ?_ ?_
  rotate_left
  · intro w'
    go_simp
    with_reducible rfl
  rotate_left
  · simp only [Act.put, List.setIfInBounds_toArray, List.set_cons_zero, List.set_cons_succ, i64_w, i32_w]
    rfl
  refine pure_ (i := 9) (N := some 37) (v := ?_) (a' := ?_) #[true, true, false, false, true, true, true, true, true, true, false, false, false] rfl rfl (by kernel_rfl) (fun _ _ _ h => h) (Or.inl ⟨by rfl, ?_⟩) ?_ ?_
  rotate_left
  · intro w'
    go_simp
    with_reducible rfl
  rotate_left
  · simp only [Act.put, List.setIfInBounds_toArray, List.set_cons_zero, List.set_cons_succ, i64_w, i32_w]
    rfl
  refine take_ (i := 10) (N := some 38) (v := ?_) (a' := ?_) #[true, true, false, false, true, true, true, true, true, true, true, false, false] rfl rfl (by kernel_rfl) (fun _ _ _ h => h) (Or.inl ⟨by rfl, ?_⟩) hHeld ?_ ?_
  rotate_left
  · rintro w' ⟨s0, s1, s2, s3, s4, s5⟩
    go_simp
    with_reducible rfl
  rotate_left
  · simp only [Act.put, List.setIfInBounds_toArray, List.set_cons_zero, List.set_cons_succ, i64_w, i32_w]
    rfl
  refine pure_ (i := 11) (N := some 39) (v := ?_) (a' := ?_) #[true, true, false, false, true, true, true, true, true, true, true, true, false] rfl rfl (by kernel_rfl) (fun _ _ _ h => h) (Or.inl ⟨by rfl, ?_⟩) ?_ ?_
  rotate_left
  · intro w'
    go_simp
    with_reducible rfl
  rotate_left
  · simp only [Act.put, List.setIfInBounds_toArray, List.set_cons_zero, List.set_cons_succ, i64_w, i32_w]
    rfl
  refine one_ (i := 2) (N := some 30) #[true, true, true, false, true, true, true, true, true, true, true, true, false] rfl rfl (by kernel_rfl) (by decide) (fun K hK => ?_)
  refine goes_ Try.func34 (by kernel_rfl) rfl #[.int .i64 1] (by rfl) rfl rfl (by (try simp only [List.map_toArray, List.map_cons, List.map_nil]); first | done | rfl | (simp only [List.length_drop, List.length_take]; rfl)) ?_
  with_reducible refine (geom_least.calls 1 l _ HL.out).mono ?_
  rintro e w_ ⟨rfl, ⟨nd_, rfl⟩⟩
  refine ⟨_, rfl, ?_⟩
  have NBKg8_ := Aside0.mk (blk_drewN BKg8.out nd_)
  have NHB_ := Aside0.mk (pw_below_drewN HB.out nd_)
  clear BKg8 HB
  have BKg8 := NBKg8_
  have HB := NHB_
  clear NBKg8_ NHB_
  refine hK.out _ _ ⟨(blk_cell BKg8.out 0).trans rfl, (blk_cell BKg8.out 1).trans rfl, (blk_cell BKg8.out 2).trans rfl, (blk_cell BKg8.out 3).trans rfl, (blk_cell BKg8.out 4).trans rfl, (blk_cell BKg8.out 5).trans rfl⟩ (fun hHeld => ?_)
  clear hK K
  refine norm_ (a' := ?_) ?_ ?_
  rotate_left
  · show Act.put _ (some 30) _ = _
    simp only [Act.put, List.setIfInBounds_toArray, List.set_cons_zero, List.set_cons_succ, i64_w, i32_w]
    rfl
  generalize W4.drewN nd_ = W5 at BKg8 HB hHeld ⊢
  refine pure_ (i := 3) (N := some 31) (v := ?_) (a' := ?_) #[true, true, true, true, true, true, true, true, true, true, true, true, false] rfl rfl (by kernel_rfl) (fun _ _ _ h => h) (Or.inl ⟨by rfl, ?_⟩) ?_ ?_
  rotate_left
  · intro w'
    go_simp
    with_reducible rfl
  rotate_left
  · simp only [Act.put, List.setIfInBounds_toArray, List.set_cons_zero, List.set_cons_succ, i64_w, i32_w]
    rfl
  refine pure_ (i := 12) (N := some 40) (v := ?_) (a' := ?_) #[true, true, true, true, true, true, true, true, true, true, true, true, true] rfl rfl (by kernel_rfl) (fun _ _ _ h => h) (Or.inl ⟨by rfl, ?_⟩) ?_ ?_
  rotate_left
  · intro w'
    go_simp
    with_reducible rfl
  rotate_left
  · simp only [Act.put, List.setIfInBounds_toArray, List.set_cons_zero, List.set_cons_succ, i64_w, i32_w]
    rfl
  refine done_ (by kernel_rfl) ?_
  obtain ⟨cg8_0, cg8_1, cg8_2, cg8_3, cg8_4, cg8_5⟩ := Wk.cells6 BKg8.out
  have fg8_0 := blk_frozen BKg8.out 0
  have fg8_1 := blk_frozen BKg8.out 1
  have fg8_2 := blk_frozen BKg8.out 2
  have fg8_3 := blk_frozen BKg8.out 3
  have fg8_4 := blk_frozen BKg8.out 4
  have fg8_5 := blk_frozen BKg8.out 5
  go_wp2_with fail
  clear cg8_0 fg8_0 cg8_1 fg8_1 cg8_2 fg8_2 cg8_3 fg8_3 cg8_4 fg8_4 cg8_5 fg8_5
  have NBKg8_ := Aside0.mk (blk_drew BKg8.out)
  have NHB_ := Aside0.mk (below_drew1 HB.out)
  clear BKg8 HB
  have BKg8 := NBKg8_
  have HB := NHB_
  clear NBKg8_ NHB_
  refine start_ (n := 10) (S := fun w' => w'.cell? ⟨g8, 0, none⟩ = some (.int .i64 0) ∧ w'.cell? ⟨g8, 1, none⟩ = some (.int .i64 0) ∧ w'.cell? ⟨g8, 2, none⟩ = some (.int .i64 8) ∧ w'.cell? ⟨g8, 3, none⟩ = some (.int .i64 (wrap64 (8 + wrap64 (2 * hf)))) ∧ w'.cell? ⟨g8, 4, none⟩ = some (.int .i64 (wrap64 (wrap64 (8 + wrap64 (2 * hf)) + nd))) ∧ w'.cell? ⟨g8, 5, none⟩ = some (.int .i64 (wrap64 (wrap64 (wrap64 (8 + wrap64 (2 * hf)) + nd) + R)))) (ds := []) #[false, false, false, false, false, false, false, false, false, false] (by kernel_rfl) rfl rfl ⟨(blk_cell BKg8.out 0).trans rfl, (blk_cell BKg8.out 1).trans rfl, (blk_cell BKg8.out 2).trans rfl, (blk_cell BKg8.out 3).trans rfl, (blk_cell BKg8.out 4).trans rfl, (blk_cell BKg8.out 5).trans rfl⟩ (fun hHeld => ?_)
  generalize W5.drew = W6 at BKg8 HB hHeld ⊢
  refine pure_ (i := 0) (N := some 41) (v := ?_) (a' := ?_) #[true, false, false, false, false, false, false, false, false, false] rfl rfl (by kernel_rfl) (fun _ _ _ h => h) (Or.inl ⟨by rfl, ?_⟩) ?_ ?_
  rotate_left
  · intro w'
    go_simp
    with_reducible rfl
  rotate_left
  · simp only [Act.put, List.setIfInBounds_toArray, List.set_cons_zero, List.set_cons_succ, i64_w, i32_w]
    rfl
  refine pure_ (i := 1) (N := some 42) (v := ?_) (a' := ?_) #[true, true, false, false, false, false, false, false, false, false] rfl rfl (by kernel_rfl) (fun _ _ _ h => h) (Or.inl ⟨by rfl, ?_⟩) ?_ ?_
  rotate_left
  · intro w'
    go_simp
    with_reducible rfl
  rotate_left
  · simp only [Act.put, List.setIfInBounds_toArray, List.set_cons_zero, List.set_cons_succ, i64_w, i32_w]
    rfl
  refine take_ (i := 2) (N := some 43) (v := ?_) (a' := ?_) #[true, true, true, false, false, false, false, false, false, false] rfl rfl (by kernel_rfl) (fun _ _ _ h => h) (Or.inl ⟨by rfl, ?_⟩) hHeld ?_ ?_
  rotate_left
  · rintro w' ⟨s0, s1, s2, s3, s4, s5⟩
    go_simp
    with_reducible rfl
  rotate_left
  · simp only [Act.put, List.setIfInBounds_toArray, List.set_cons_zero, List.set_cons_succ, i64_w, i32_w]
    rfl
  refine pure_ (i := 3) (N := some 44) (v := ?_) (a' := ?_) #[true, true, true, true, false, false, false, false, false, false] rfl rfl (by kernel_rfl) (fun _ _ _ h => h) (Or.inl ⟨by rfl, ?_⟩) ?_ ?_
  rotate_left
  · intro w'
    go_simp
    with_reducible rfl
  rotate_left
  · simp only [Act.put, List.setIfInBounds_toArray, List.set_cons_zero, List.set_cons_succ, i64_w, i32_w]
    rfl
  refine pure_ (i := 4) (N := some 45) (v := ?_) (a' := ?_) #[true, true, true, true, true, false, false, false, false, false] rfl rfl (by kernel_rfl) (fun _ _ _ h => h) (Or.inl ⟨by rfl, ?_⟩) ?_ ?_
  rotate_left
  · intro w'
    go_simp
    with_reducible rfl
  rotate_left
  · simp only [Act.put, List.setIfInBounds_toArray, List.set_cons_zero, List.set_cons_succ, i64_w, i32_w]
    rfl
  refine pure_ (i := 5) (N := some 46) (v := ?_) (a' := ?_) #[true, true, true, true, true, true, false, false, false, false] rfl rfl (by kernel_rfl) (fun _ _ _ h => h) (Or.inl ⟨by rfl, ?_⟩) ?_ ?_
  rotate_left
  · intro w'
    go_simp
    with_reducible rfl
  rotate_left
  · simp only [Act.put, List.setIfInBounds_toArray, List.set_cons_zero, List.set_cons_succ, i64_w, i32_w]
    rfl
  refine one_ (i := 6) (N := some 47) #[true, true, true, true, true, true, true, false, false, false] rfl rfl (by kernel_rfl) (by decide) (fun K hK => ?_)
  refine goes_ Try.func34 (by kernel_rfl) rfl #[.int .i64 1] (by rfl) rfl rfl (by (try simp only [List.map_toArray, List.map_cons, List.map_nil]); first | done | rfl | (simp only [List.length_drop, List.length_take]; rfl)) ?_
  with_reducible refine (geom_least.calls 1 l _ HL.out).mono ?_
  rintro e w_ ⟨rfl, ⟨nd_, rfl⟩⟩
  refine ⟨_, rfl, ?_⟩
  have NBKg8_ := Aside0.mk (blk_drewN BKg8.out nd_)
  have NHB_ := Aside0.mk (pw_below_drewN HB.out nd_)
  clear BKg8 HB
  have BKg8 := NBKg8_
  have HB := NHB_
  clear NBKg8_ NHB_
  refine hK.out _ _ ⟨(blk_cell BKg8.out 0).trans rfl, (blk_cell BKg8.out 1).trans rfl, (blk_cell BKg8.out 2).trans rfl, (blk_cell BKg8.out 3).trans rfl, (blk_cell BKg8.out 4).trans rfl, (blk_cell BKg8.out 5).trans rfl⟩ (fun hHeld => ?_)
  clear hK K
  refine norm_ (a' := ?_) ?_ ?_
  rotate_left
  · show Act.put _ (some 47) _ = _
    simp only [Act.put, List.setIfInBounds_toArray, List.set_cons_zero, List.set_cons_succ, i64_w, i32_w]
    rfl
  generalize W6.drewN nd_ = W7 at BKg8 HB hHeld ⊢
  refine pure_ (i := 7) (N := some 48) (v := ?_) (a' := ?_) #[true, true, true, true, true, true, true, true, false, false] rfl rfl (by kernel_rfl) (fun _ _ _ h => h) (Or.inl ⟨by rfl, ?_⟩) ?_ ?_
  rotate_left
  · intro w'
    go_simp
    with_reducible rfl
  rotate_left
  · simp only [Act.put, List.setIfInBounds_toArray, List.set_cons_zero, List.set_cons_succ, i64_w, i32_w]
    rfl
  refine pure_ (i := 8) (N := some 6) (v := ?_) (a' := ?_) #[true, true, true, true, true, true, true, true, true, false] rfl rfl (by kernel_rfl) (fun _ _ _ h => h) (Or.inl ⟨by rfl, ?_⟩) ?_ ?_
  rotate_left
  · intro w'
    go_simp
    with_reducible rfl
  rotate_left
  · simp only [Act.put, List.setIfInBounds_toArray, List.set_cons_zero, List.set_cons_succ, i64_w, i32_w]
    rfl
  refine pure_ (i := 9) (N := some 7) (v := ?_) (a' := ?_) #[true, true, true, true, true, true, true, true, true, true] rfl rfl (by kernel_rfl) (fun _ _ _ h => h) (Or.inl ⟨by rfl, ?_⟩) ?_ ?_
  rotate_left
  · intro w'
    go_simp
    with_reducible rfl
  rotate_left
  · simp only [Act.put, List.setIfInBounds_toArray, List.set_cons_zero, List.set_cons_succ, i64_w, i32_w]
    rfl
  refine done_ (by kernel_rfl) ?_
  go_wp2
  go_ret2
  exact ⟨by first | rfl | (simp; done) | (simp [*]; done), HB.out⟩
set_option maxHeartbeats 4000000 in
set_option maxRecDepth 100000 in
theorem geom_Place.out2 (k : Nat) (M R ix l hf nd : Int) (w : World) (H1 : Aside0 (geom_is.f M R = some true)) (HL : Aside0 (geom_least.f 2 = some l)) (H2 : Aside0 (geom_Half.f k M R = some hf)) (H3 : Aside0 (geom_Nodes.f k M R = some nd)) (e0 : decide (ix < l) = false) (e1 : decide (wrap64 ((wrap64 (8 + wrap64 (2 * hf))) - 8) ≤ wrap64 (ix - l)) = true) :
    Calls Try.prog 26 #[.agg #[.int .i64 M, .int .i64 R], .int .i64 2, .int .i64 ix] w fun e w' => e = .returned (.tuple #[.int .i64 0, .int .i64 2]) ∧ Below w.heap.size w w' := by
  have HB := Aside0.mk (Below.refl w.heap.size w)
  have q := Wk.blks1 w (.cells #[.int .i64 M, .int .i64 R] 23)
  go_enter Try.func26, Try.ntmps26
  go_wp2_with (first | (go_at_call 30; (with_reducible refine (geom_is.calls M R true _ H1.out).mono ?_); rintro e w1 ⟨rfl, hb⟩; obtain ⟨c0, c1⟩ := Wk.cells2 (blk_below q.1 hb); have HC := Aside0.mk (below_step (below_alloc HB.out _) hb); clear hb q HB) | (go_at_call 34; (with_reducible refine (geom_least.calls _ l _ HL.out).mono ?_); rintro e w' ⟨rfl, ⟨nd_, rfl⟩⟩))
  with_reducible refine (geom_firsts.calls k M R hf nd _ H2.out H3.out).mono ?_
  rintro e w2 ⟨rfl, hb⟩
  have HB := Aside0.mk (below_step (by repeat (first | (with_reducible first | exact HC.out | apply below_alloc | apply pw_below_drewN | apply below_drew1) | exact HC.out)) hb)
  clear hb HC
  go_wp2_with fail
  obtain ⟨q0_, nb_⟩ := Wk.blks1 w2 (.cells #[.int .i64 0, .int .i64 0, .int .i64 8, .int .i64 (wrap64 (8 + wrap64 (2 * hf))), .int .i64 (wrap64 (wrap64 (8 + wrap64 (2 * hf)) + nd)), .int .i64 (wrap64 (wrap64 (wrap64 (8 + wrap64 (2 * hf)) + nd) + R))] 43 (0, 0))
  obtain ⟨W3, hW_⟩ : ∃ W, W = (w2.alloc (.cells #[.int .i64 0, .int .i64 0, .int .i64 8, .int .i64 (wrap64 (8 + wrap64 (2 * hf))), .int .i64 (wrap64 (wrap64 (8 + wrap64 (2 * hf)) + nd)), .int .i64 (wrap64 (wrap64 (wrap64 (8 + wrap64 (2 * hf)) + nd) + R))] 43 (0, 0))) := ⟨_, rfl⟩
  rw [← hW_]
  rw [← hW_] at q0_
  rw [← hW_] at nb_
  have sz_ := below_size HB.out
  have hb2_ := Aside0.mk (below_step HB.out nb_)
  obtain ⟨g8, hgg8_⟩ : ∃ g, g = w2.heap.size := ⟨_, rfl⟩
  rw [← hgg8_]
  rw [← hgg8_] at q0_
  have GEg8 := Aside0.mk (show w.heap.size ≤ g8 by omega)
  have BKg8 := Aside0.mk q0_
  clear HB
  have HB := hb2_
  clear hb2_ hW_ nb_ sz_ hgg8_ q0_
  have NBKg8_ := Aside0.mk (blk_drew BKg8.out)
  have NHB_ := Aside0.mk (below_drew1 HB.out)
  clear BKg8 HB
  have BKg8 := NBKg8_
  have HB := NHB_
  clear NBKg8_ NHB_
  refine start_ (n := 13) (S := fun w' => w'.cell? ⟨g8, 0, none⟩ = some (.int .i64 0) ∧ w'.cell? ⟨g8, 1, none⟩ = some (.int .i64 0) ∧ w'.cell? ⟨g8, 2, none⟩ = some (.int .i64 8) ∧ w'.cell? ⟨g8, 3, none⟩ = some (.int .i64 (wrap64 (8 + wrap64 (2 * hf)))) ∧ w'.cell? ⟨g8, 4, none⟩ = some (.int .i64 (wrap64 (wrap64 (8 + wrap64 (2 * hf)) + nd))) ∧ w'.cell? ⟨g8, 5, none⟩ = some (.int .i64 (wrap64 (wrap64 (wrap64 (8 + wrap64 (2 * hf)) + nd) + R)))) (ds := []) #[false, false, false, false, false, false, false, false, false, false, false, false, false] (by kernel_rfl) rfl rfl ⟨(blk_cell BKg8.out 0).trans rfl, (blk_cell BKg8.out 1).trans rfl, (blk_cell BKg8.out 2).trans rfl, (blk_cell BKg8.out 3).trans rfl, (blk_cell BKg8.out 4).trans rfl, (blk_cell BKg8.out 5).trans rfl⟩ (fun hHeld => ?_)
  generalize W3.drew = W4 at BKg8 HB hHeld ⊢
  have wq : wrap64 3 = 3 := by unfold wrap64; omega
  refine pure_ (i := 0) (N := some 28) (v := ?_) (a' := ?_) #[true, false, false, false, false, false, false, false, false, false, false, false, false] rfl rfl (by kernel_rfl) (fun _ _ _ h => h) (Or.inl ⟨by rfl, ?_⟩) ?_ ?_
  rotate_left
  · intro w'
    go_simp
    with_reducible rfl
  rotate_left
  · simp only [Act.put, List.setIfInBounds_toArray, List.set_cons_zero, List.set_cons_succ, i64_w, i32_w]
    rfl
  refine pure_ (i := 1) (N := some 29) (v := ?_) (a' := ?_) #[true, true, false, false, false, false, false, false, false, false, false, false, false] rfl rfl (by kernel_rfl) (fun _ _ _ h => h) (Or.inl ⟨by rfl, ?_⟩) ?_ ?_
  rotate_left
  · intro w'
    go_simp
    with_reducible rfl
  rotate_left
  · simp only [Act.put, List.setIfInBounds_toArray, List.set_cons_zero, List.set_cons_succ, i64_w, i32_w]
    rfl
  refine pure_ (i := 4) (N := some 32) (v := ?_) (a' := ?_) #[true, true, false, false, true, false, false, false, false, false, false, false, false] rfl rfl (by kernel_rfl) (fun _ _ _ h => h) (Or.inl ⟨by rfl, ?_⟩) ?_ ?_
  rotate_left
  · intro w'
    go_simp
    with_reducible rfl
  rotate_left
  · simp only [Act.put, List.setIfInBounds_toArray, List.set_cons_zero, List.set_cons_succ, i64_w, i32_w]
    rfl
  refine pure_ (i := 5) (N := some 33) (v := ?_) (a' := ?_) #[true, true, false, false, true, true, false, false, false, false, false, false, false] rfl rfl (by kernel_rfl) (fun _ _ _ h => h) (Or.inl ⟨by rfl, ?_⟩) ?_ ?_
  rotate_left
  · intro w'
    go_simp
    with_reducible rfl
  rotate_left
  · simp only [Act.put, List.setIfInBounds_toArray, List.set_cons_zero, List.set_cons_succ, i64_w, i32_w]
    rfl
  refine pure_ (i := 6) (N := some 34) (v := ?_) (a' := ?_) #[true, true, false, false, true, true, true, false, false, false, false, false, false] rfl rfl (by kernel_rfl) (fun _ _ _ h => h) (Or.inl ⟨by rfl, ?_⟩) ?_ ?_
  rotate_left
  · intro w'
    go_simp
    with_reducible rfl
  rotate_left
  · simp only [Act.put, List.setIfInBounds_toArray, List.set_cons_zero, List.set_cons_succ, i64_w, i32_w]
    rfl
  refine take_ (i := 7) (N := some 35) (v := ?_) (a' := ?_) #[true, true, false, false, true, true, true, true, false, false, false, false, false] rfl rfl (by kernel_rfl) (fun _ _ _ h => h) (Or.inl ⟨by rfl, ?_⟩) hHeld ?_ ?_
  rotate_left
  · rintro w' ⟨s0, s1, s2, s3, s4, s5⟩
    go_simp
    with_reducible rfl
  rotate_left
  · simp only [Act.put, List.setIfInBounds_toArray, List.set_cons_zero, List.set_cons_succ, i64_w, i32_w]
    rfl
  refine pure_ (i := 8) (N := some 36) (v := ?_) (a' := ?_) #[true, true, false, false, true, true, true, true, true, false, false, false, false] rfl rfl (by kernel_rfl) (fun _ _ _ h => h) (Or.inl ⟨by rfl, ?_⟩) ?_ ?_
  rotate_left
  · intro w'
    go_simp
    with_reducible rfl
  rotate_left
  · simp only [Act.put, List.setIfInBounds_toArray, List.set_cons_zero, List.set_cons_succ, i64_w, i32_w]
    rfl
  refine pure_ (i := 9) (N := some 37) (v := ?_) (a' := ?_) #[true, true, false, false, true, true, true, true, true, true, false, false, false] rfl rfl (by kernel_rfl) (fun _ _ _ h => h) (Or.inl ⟨by rfl, ?_⟩) ?_ ?_
  rotate_left
  · intro w'
    go_simp
    with_reducible rfl
  rotate_left
  · simp only [Act.put, List.setIfInBounds_toArray, List.set_cons_zero, List.set_cons_succ, i64_w, i32_w]
    rfl
  refine take_ (i := 10) (N := some 38) (v := ?_) (a' := ?_) #[true, true, false, false, true, true, true, true, true, true, true, false, false] rfl rfl (by kernel_rfl) (fun _ _ _ h => h) (Or.inl ⟨by rfl, ?_⟩) hHeld ?_ ?_
  rotate_left
  · rintro w' ⟨s0, s1, s2, s3, s4, s5⟩
    go_simp
    with_reducible rfl
  rotate_left
  · simp only [Act.put, List.setIfInBounds_toArray, List.set_cons_zero, List.set_cons_succ, i64_w, i32_w]
    rfl
  refine pure_ (i := 11) (N := some 39) (v := ?_) (a' := ?_) #[true, true, false, false, true, true, true, true, true, true, true, true, false] rfl rfl (by kernel_rfl) (fun _ _ _ h => h) (Or.inl ⟨by rfl, ?_⟩) ?_ ?_
  rotate_left
  · intro w'
    go_simp
    with_reducible rfl
  rotate_left
  · simp only [Act.put, List.setIfInBounds_toArray, List.set_cons_zero, List.set_cons_succ, i64_w, i32_w]
    rfl
  refine one_ (i := 2) (N := some 30) #[true, true, true, false, true, true, true, true, true, true, true, true, false] rfl rfl (by kernel_rfl) (by decide) (fun K hK => ?_)
  refine goes_ Try.func34 (by kernel_rfl) rfl #[.int .i64 2] (by rfl) rfl rfl (by (try simp only [List.map_toArray, List.map_cons, List.map_nil]); first | done | rfl | (simp only [List.length_drop, List.length_take]; rfl)) ?_
  with_reducible refine (geom_least.calls 2 l _ HL.out).mono ?_
  rintro e w_ ⟨rfl, ⟨nd_, rfl⟩⟩
  refine ⟨_, rfl, ?_⟩
  have NBKg8_ := Aside0.mk (blk_drewN BKg8.out nd_)
  have NHB_ := Aside0.mk (pw_below_drewN HB.out nd_)
  clear BKg8 HB
  have BKg8 := NBKg8_
  have HB := NHB_
  clear NBKg8_ NHB_
  refine hK.out _ _ ⟨(blk_cell BKg8.out 0).trans rfl, (blk_cell BKg8.out 1).trans rfl, (blk_cell BKg8.out 2).trans rfl, (blk_cell BKg8.out 3).trans rfl, (blk_cell BKg8.out 4).trans rfl, (blk_cell BKg8.out 5).trans rfl⟩ (fun hHeld => ?_)
  clear hK K
  refine norm_ (a' := ?_) ?_ ?_
  rotate_left
  · show Act.put _ (some 30) _ = _
    simp only [Act.put, List.setIfInBounds_toArray, List.set_cons_zero, List.set_cons_succ, i64_w, i32_w]
    rfl
  generalize W4.drewN nd_ = W5 at BKg8 HB hHeld ⊢
  refine pure_ (i := 3) (N := some 31) (v := ?_) (a' := ?_) #[true, true, true, true, true, true, true, true, true, true, true, true, false] rfl rfl (by kernel_rfl) (fun _ _ _ h => h) (Or.inl ⟨by rfl, ?_⟩) ?_ ?_
  rotate_left
  · intro w'
    go_simp
    with_reducible rfl
  rotate_left
  · simp only [Act.put, List.setIfInBounds_toArray, List.set_cons_zero, List.set_cons_succ, i64_w, i32_w]
    rfl
  refine pure_ (i := 12) (N := some 40) (v := ?_) (a' := ?_) #[true, true, true, true, true, true, true, true, true, true, true, true, true] rfl rfl (by kernel_rfl) (fun _ _ _ h => h) (Or.inl ⟨by rfl, ?_⟩) ?_ ?_
  rotate_left
  · intro w'
    go_simp
    with_reducible rfl
  rotate_left
  · simp only [Act.put, List.setIfInBounds_toArray, List.set_cons_zero, List.set_cons_succ, i64_w, i32_w]
    rfl
  refine done_ (by kernel_rfl) ?_
  obtain ⟨cg8_0, cg8_1, cg8_2, cg8_3, cg8_4, cg8_5⟩ := Wk.cells6 BKg8.out
  have fg8_0 := blk_frozen BKg8.out 0
  have fg8_1 := blk_frozen BKg8.out 1
  have fg8_2 := blk_frozen BKg8.out 2
  have fg8_3 := blk_frozen BKg8.out 3
  have fg8_4 := blk_frozen BKg8.out 4
  have fg8_5 := blk_frozen BKg8.out 5
  go_wp2_with fail
  go_ret2
  exact ⟨by first | rfl | (simp; done) | (simp [*]; done), HB.out⟩
set_option maxHeartbeats 4000000 in
set_option maxRecDepth 100000 in
theorem geom_Place.in_2 (k : Nat) (M R ix l hf nd : Int) (w : World) (H1 : Aside0 (geom_is.f M R = some true)) (HL : Aside0 (geom_least.f 2 = some l)) (H2 : Aside0 (geom_Half.f k M R = some hf)) (H3 : Aside0 (geom_Nodes.f k M R = some nd)) (e0 : decide (ix < l) = false) (e1 : decide (wrap64 ((wrap64 (8 + wrap64 (2 * hf))) - 8) ≤ wrap64 (ix - l)) = false) :
    Calls Try.prog 26 #[.agg #[.int .i64 M, .int .i64 R], .int .i64 2, .int .i64 ix] w fun e w' => e = .returned (.tuple #[.int .i64 (wrap64 (wrap64 (8 + ix) - l)), .int .i64 0]) ∧ Below w.heap.size w w' := by
  have HB := Aside0.mk (Below.refl w.heap.size w)
  have q := Wk.blks1 w (.cells #[.int .i64 M, .int .i64 R] 23)
  go_enter Try.func26, Try.ntmps26
  go_wp2_with (first | (go_at_call 30; (with_reducible refine (geom_is.calls M R true _ H1.out).mono ?_); rintro e w1 ⟨rfl, hb⟩; obtain ⟨c0, c1⟩ := Wk.cells2 (blk_below q.1 hb); have HC := Aside0.mk (below_step (below_alloc HB.out _) hb); clear hb q HB) | (go_at_call 34; (with_reducible refine (geom_least.calls _ l _ HL.out).mono ?_); rintro e w' ⟨rfl, ⟨nd_, rfl⟩⟩))
  with_reducible refine (geom_firsts.calls k M R hf nd _ H2.out H3.out).mono ?_
  rintro e w2 ⟨rfl, hb⟩
  have HB := Aside0.mk (below_step (by repeat (first | (with_reducible first | exact HC.out | apply below_alloc | apply pw_below_drewN | apply below_drew1) | exact HC.out)) hb)
  clear hb HC
  go_wp2_with fail
  obtain ⟨q0_, nb_⟩ := Wk.blks1 w2 (.cells #[.int .i64 0, .int .i64 0, .int .i64 8, .int .i64 (wrap64 (8 + wrap64 (2 * hf))), .int .i64 (wrap64 (wrap64 (8 + wrap64 (2 * hf)) + nd)), .int .i64 (wrap64 (wrap64 (wrap64 (8 + wrap64 (2 * hf)) + nd) + R))] 43 (0, 0))
  obtain ⟨W3, hW_⟩ : ∃ W, W = (w2.alloc (.cells #[.int .i64 0, .int .i64 0, .int .i64 8, .int .i64 (wrap64 (8 + wrap64 (2 * hf))), .int .i64 (wrap64 (wrap64 (8 + wrap64 (2 * hf)) + nd)), .int .i64 (wrap64 (wrap64 (wrap64 (8 + wrap64 (2 * hf)) + nd) + R))] 43 (0, 0))) := ⟨_, rfl⟩
  rw [← hW_]
  rw [← hW_] at q0_
  rw [← hW_] at nb_
  have sz_ := below_size HB.out
  have hb2_ := Aside0.mk (below_step HB.out nb_)
  obtain ⟨g8, hgg8_⟩ : ∃ g, g = w2.heap.size := ⟨_, rfl⟩
  rw [← hgg8_]
  rw [← hgg8_] at q0_
  have GEg8 := Aside0.mk (show w.heap.size ≤ g8 by omega)
  have BKg8 := Aside0.mk q0_
  clear HB
  have HB := hb2_
  clear hb2_ hW_ nb_ sz_ hgg8_ q0_
  have NBKg8_ := Aside0.mk (blk_drew BKg8.out)
  have NHB_ := Aside0.mk (below_drew1 HB.out)
  clear BKg8 HB
  have BKg8 := NBKg8_
  have HB := NHB_
  clear NBKg8_ NHB_
  refine start_ (n := 13) (S := fun w' => w'.cell? ⟨g8, 0, none⟩ = some (.int .i64 0) ∧ w'.cell? ⟨g8, 1, none⟩ = some (.int .i64 0) ∧ w'.cell? ⟨g8, 2, none⟩ = some (.int .i64 8) ∧ w'.cell? ⟨g8, 3, none⟩ = some (.int .i64 (wrap64 (8 + wrap64 (2 * hf)))) ∧ w'.cell? ⟨g8, 4, none⟩ = some (.int .i64 (wrap64 (wrap64 (8 + wrap64 (2 * hf)) + nd))) ∧ w'.cell? ⟨g8, 5, none⟩ = some (.int .i64 (wrap64 (wrap64 (wrap64 (8 + wrap64 (2 * hf)) + nd) + R)))) (ds := []) #[false, false, false, false, false, false, false, false, false, false, false, false, false] (by kernel_rfl) rfl rfl ⟨(blk_cell BKg8.out 0).trans rfl, (blk_cell BKg8.out 1).trans rfl, (blk_cell BKg8.out 2).trans rfl, (blk_cell BKg8.out 3).trans rfl, (blk_cell BKg8.out 4).trans rfl, (blk_cell BKg8.out 5).trans rfl⟩ (fun hHeld => ?_)
  generalize W3.drew = W4 at BKg8 HB hHeld ⊢
  have wq : wrap64 3 = 3 := by unfold wrap64; omega
  refine pure_ (i := 0) (N := some 28) (v := ?_) (a' := ?_) #[true, false, false, false, false, false, false, false, false, false, false, false, false] rfl rfl (by kernel_rfl) (fun _ _ _ h => h) (Or.inl ⟨by rfl, ?_⟩) ?_ ?_
  rotate_left
  · intro w'
    go_simp
    with_reducible rfl
  rotate_left
  · simp only [Act.put, List.setIfInBounds_toArray, List.set_cons_zero, List.set_cons_succ, i64_w, i32_w]
    rfl
  refine pure_ (i := 1) (N := some 29) (v := ?_) (a' := ?_) #[true, true, false, false, false, false, false, false, false, false, false, false, false] rfl rfl (by kernel_rfl) (fun _ _ _ h => h) (Or.inl ⟨by rfl, ?_⟩) ?_ ?_
  rotate_left
  · intro w'
    go_simp
    with_reducible rfl
  rotate_left
  · simp only [Act.put, List.setIfInBounds_toArray, List.set_cons_zero, List.set_cons_succ, i64_w, i32_w]
    rfl
  refine pure_ (i := 4) (N := some 32) (v := ?_) (a' := ?_) #[true, true, false, false, true, false, false, false, false, false, false, false, false] rfl rfl (by kernel_rfl) (fun _ _ _ h => h) (Or.inl ⟨by rfl, ?_⟩) ?_ ?_
  rotate_left
  · intro w'
    go_simp
    with_reducible rfl
  rotate_left
  · simp only [Act.put, List.setIfInBounds_toArray, List.set_cons_zero, List.set_cons_succ, i64_w, i32_w]
    rfl
  refine pure_ (i := 5) (N := some 33) (v := ?_) (a' := ?_) #[true, true, false, false, true, true, false, false, false, false, false, false, false] rfl rfl (by kernel_rfl) (fun _ _ _ h => h) (Or.inl ⟨by rfl, ?_⟩) ?_ ?_
  rotate_left
  · intro w'
    go_simp
    with_reducible rfl
  rotate_left
  · simp only [Act.put, List.setIfInBounds_toArray, List.set_cons_zero, List.set_cons_succ, i64_w, i32_w]
    rfl
  refine pure_ (i := 6) (N := some 34) (v := ?_) (a' := ?_) #[true, true, false, false, true, true, true, false, false, false, false, false, false] rfl rfl (by kernel_rfl) (fun _ _ _ h => h) (Or.inl ⟨by rfl, ?_⟩) ?_ ?_
  rotate_left
  · intro w'
    go_simp
    with_reducible rfl
  rotate_left
  · simp only [Act.put, List.setIfInBounds_toArray, List.set_cons_zero, List.set_cons_succ, i64_w, i32_w]
    rfl
  refine take_ (i := 7) (N := some 35) (v := ?_) (a' := ?_) #[true, true, false, false, true, true, true, true, false, false, false, false, false] rfl rfl (by kernel_rfl) (fun _ _ _ h => h) (Or.inl ⟨by rfl, ?_⟩) hHeld ?_ ?_
  rotate_left
  · rintro w' ⟨s0, s1, s2, s3, s4, s5⟩
    go_simp
    with_reducible rfl
  rotate_left
  · simp only [Act.put, List.setIfInBounds_toArray, List.set_cons_zero, List.set_cons_succ, i64_w, i32_w]
    rfl
  refine pure_ (i := 8) (N := some 36) (v := ?_) (a' := ?_) #[true, true, false, false, true, true, true, true, true, false, false, false, false] rfl rfl (by kernel_rfl) (fun _ _ _ h => h) (Or.inl ⟨by rfl, ?_⟩) ?_ ?_
  rotate_left
  · intro w'
    go_simp
    with_reducible rfl
  rotate_left
  · simp only [Act.put, List.setIfInBounds_toArray, List.set_cons_zero, List.set_cons_succ, i64_w, i32_w]
    rfl
  refine pure_ (i := 9) (N := some 37) (v := ?_) (a' := ?_) #[true, true, false, false, true, true, true, true, true, true, false, false, false] rfl rfl (by kernel_rfl) (fun _ _ _ h => h) (Or.inl ⟨by rfl, ?_⟩) ?_ ?_
  rotate_left
  · intro w'
    go_simp
    with_reducible rfl
  rotate_left
  · simp only [Act.put, List.setIfInBounds_toArray, List.set_cons_zero, List.set_cons_succ, i64_w, i32_w]
    rfl
  refine take_ (i := 10) (N := some 38) (v := ?_) (a' := ?_) #[true, true, false, false, true, true, true, true, true, true, true, false, false] rfl rfl (by kernel_rfl) (fun _ _ _ h => h) (Or.inl ⟨by rfl, ?_⟩) hHeld ?_ ?_
  rotate_left
  · rintro w' ⟨s0, s1, s2, s3, s4, s5⟩
    go_simp
    with_reducible rfl
  rotate_left
  · simp only [Act.put, List.setIfInBounds_toArray, List.set_cons_zero, List.set_cons_succ, i64_w, i32_w]
    rfl
  refine pure_ (i := 11) (N := some 39) (v := ?_) (a' := ?_) #[true, true, false, false, true, true, true, true, true, true, true, true, false] rfl rfl (by kernel_rfl) (fun _ _ _ h => h) (Or.inl ⟨by rfl, ?_⟩) ?_ ?_
  rotate_left
  · intro w'
    go_simp
    with_reducible rfl
  rotate_left
  · simp only [Act.put, List.setIfInBounds_toArray, List.set_cons_zero, List.set_cons_succ, i64_w, i32_w]
    rfl
  refine one_ (i := 2) (N := some 30) #[true, true, true, false, true, true, true, true, true, true, true, true, false] rfl rfl (by kernel_rfl) (by decide) (fun K hK => ?_)
  refine goes_ Try.func34 (by kernel_rfl) rfl #[.int .i64 2] (by rfl) rfl rfl (by (try simp only [List.map_toArray, List.map_cons, List.map_nil]); first | done | rfl | (simp only [List.length_drop, List.length_take]; rfl)) ?_
  with_reducible refine (geom_least.calls 2 l _ HL.out).mono ?_
  rintro e w_ ⟨rfl, ⟨nd_, rfl⟩⟩
  refine ⟨_, rfl, ?_⟩
  have NBKg8_ := Aside0.mk (blk_drewN BKg8.out nd_)
  have NHB_ := Aside0.mk (pw_below_drewN HB.out nd_)
  clear BKg8 HB
  have BKg8 := NBKg8_
  have HB := NHB_
  clear NBKg8_ NHB_
  refine hK.out _ _ ⟨(blk_cell BKg8.out 0).trans rfl, (blk_cell BKg8.out 1).trans rfl, (blk_cell BKg8.out 2).trans rfl, (blk_cell BKg8.out 3).trans rfl, (blk_cell BKg8.out 4).trans rfl, (blk_cell BKg8.out 5).trans rfl⟩ (fun hHeld => ?_)
  clear hK K
  refine norm_ (a' := ?_) ?_ ?_
  rotate_left
  · show Act.put _ (some 30) _ = _
    simp only [Act.put, List.setIfInBounds_toArray, List.set_cons_zero, List.set_cons_succ, i64_w, i32_w]
    rfl
  generalize W4.drewN nd_ = W5 at BKg8 HB hHeld ⊢
  refine pure_ (i := 3) (N := some 31) (v := ?_) (a' := ?_) #[true, true, true, true, true, true, true, true, true, true, true, true, false] rfl rfl (by kernel_rfl) (fun _ _ _ h => h) (Or.inl ⟨by rfl, ?_⟩) ?_ ?_
  rotate_left
  · intro w'
    go_simp
    with_reducible rfl
  rotate_left
  · simp only [Act.put, List.setIfInBounds_toArray, List.set_cons_zero, List.set_cons_succ, i64_w, i32_w]
    rfl
  refine pure_ (i := 12) (N := some 40) (v := ?_) (a' := ?_) #[true, true, true, true, true, true, true, true, true, true, true, true, true] rfl rfl (by kernel_rfl) (fun _ _ _ h => h) (Or.inl ⟨by rfl, ?_⟩) ?_ ?_
  rotate_left
  · intro w'
    go_simp
    with_reducible rfl
  rotate_left
  · simp only [Act.put, List.setIfInBounds_toArray, List.set_cons_zero, List.set_cons_succ, i64_w, i32_w]
    rfl
  refine done_ (by kernel_rfl) ?_
  obtain ⟨cg8_0, cg8_1, cg8_2, cg8_3, cg8_4, cg8_5⟩ := Wk.cells6 BKg8.out
  have fg8_0 := blk_frozen BKg8.out 0
  have fg8_1 := blk_frozen BKg8.out 1
  have fg8_2 := blk_frozen BKg8.out 2
  have fg8_3 := blk_frozen BKg8.out 3
  have fg8_4 := blk_frozen BKg8.out 4
  have fg8_5 := blk_frozen BKg8.out 5
  go_wp2_with fail
  clear cg8_0 fg8_0 cg8_1 fg8_1 cg8_2 fg8_2 cg8_3 fg8_3 cg8_4 fg8_4 cg8_5 fg8_5
  have NBKg8_ := Aside0.mk (blk_drew BKg8.out)
  have NHB_ := Aside0.mk (below_drew1 HB.out)
  clear BKg8 HB
  have BKg8 := NBKg8_
  have HB := NHB_
  clear NBKg8_ NHB_
  refine start_ (n := 10) (S := fun w' => w'.cell? ⟨g8, 0, none⟩ = some (.int .i64 0) ∧ w'.cell? ⟨g8, 1, none⟩ = some (.int .i64 0) ∧ w'.cell? ⟨g8, 2, none⟩ = some (.int .i64 8) ∧ w'.cell? ⟨g8, 3, none⟩ = some (.int .i64 (wrap64 (8 + wrap64 (2 * hf)))) ∧ w'.cell? ⟨g8, 4, none⟩ = some (.int .i64 (wrap64 (wrap64 (8 + wrap64 (2 * hf)) + nd))) ∧ w'.cell? ⟨g8, 5, none⟩ = some (.int .i64 (wrap64 (wrap64 (wrap64 (8 + wrap64 (2 * hf)) + nd) + R)))) (ds := []) #[false, false, false, false, false, false, false, false, false, false] (by kernel_rfl) rfl rfl ⟨(blk_cell BKg8.out 0).trans rfl, (blk_cell BKg8.out 1).trans rfl, (blk_cell BKg8.out 2).trans rfl, (blk_cell BKg8.out 3).trans rfl, (blk_cell BKg8.out 4).trans rfl, (blk_cell BKg8.out 5).trans rfl⟩ (fun hHeld => ?_)
  generalize W5.drew = W6 at BKg8 HB hHeld ⊢
  refine pure_ (i := 0) (N := some 41) (v := ?_) (a' := ?_) #[true, false, false, false, false, false, false, false, false, false] rfl rfl (by kernel_rfl) (fun _ _ _ h => h) (Or.inl ⟨by rfl, ?_⟩) ?_ ?_
  rotate_left
  · intro w'
    go_simp
    with_reducible rfl
  rotate_left
  · simp only [Act.put, List.setIfInBounds_toArray, List.set_cons_zero, List.set_cons_succ, i64_w, i32_w]
    rfl
  refine pure_ (i := 1) (N := some 42) (v := ?_) (a' := ?_) #[true, true, false, false, false, false, false, false, false, false] rfl rfl (by kernel_rfl) (fun _ _ _ h => h) (Or.inl ⟨by rfl, ?_⟩) ?_ ?_
  rotate_left
  · intro w'
    go_simp
    with_reducible rfl
  rotate_left
  · simp only [Act.put, List.setIfInBounds_toArray, List.set_cons_zero, List.set_cons_succ, i64_w, i32_w]
    rfl
  refine take_ (i := 2) (N := some 43) (v := ?_) (a' := ?_) #[true, true, true, false, false, false, false, false, false, false] rfl rfl (by kernel_rfl) (fun _ _ _ h => h) (Or.inl ⟨by rfl, ?_⟩) hHeld ?_ ?_
  rotate_left
  · rintro w' ⟨s0, s1, s2, s3, s4, s5⟩
    go_simp
    with_reducible rfl
  rotate_left
  · simp only [Act.put, List.setIfInBounds_toArray, List.set_cons_zero, List.set_cons_succ, i64_w, i32_w]
    rfl
  refine pure_ (i := 3) (N := some 44) (v := ?_) (a' := ?_) #[true, true, true, true, false, false, false, false, false, false] rfl rfl (by kernel_rfl) (fun _ _ _ h => h) (Or.inl ⟨by rfl, ?_⟩) ?_ ?_
  rotate_left
  · intro w'
    go_simp
    with_reducible rfl
  rotate_left
  · simp only [Act.put, List.setIfInBounds_toArray, List.set_cons_zero, List.set_cons_succ, i64_w, i32_w]
    rfl
  refine pure_ (i := 4) (N := some 45) (v := ?_) (a' := ?_) #[true, true, true, true, true, false, false, false, false, false] rfl rfl (by kernel_rfl) (fun _ _ _ h => h) (Or.inl ⟨by rfl, ?_⟩) ?_ ?_
  rotate_left
  · intro w'
    go_simp
    with_reducible rfl
  rotate_left
  · simp only [Act.put, List.setIfInBounds_toArray, List.set_cons_zero, List.set_cons_succ, i64_w, i32_w]
    rfl
  refine pure_ (i := 5) (N := some 46) (v := ?_) (a' := ?_) #[true, true, true, true, true, true, false, false, false, false] rfl rfl (by kernel_rfl) (fun _ _ _ h => h) (Or.inl ⟨by rfl, ?_⟩) ?_ ?_
  rotate_left
  · intro w'
    go_simp
    with_reducible rfl
  rotate_left
  · simp only [Act.put, List.setIfInBounds_toArray, List.set_cons_zero, List.set_cons_succ, i64_w, i32_w]
    rfl
  refine one_ (i := 6) (N := some 47) #[true, true, true, true, true, true, true, false, false, false] rfl rfl (by kernel_rfl) (by decide) (fun K hK => ?_)
  refine goes_ Try.func34 (by kernel_rfl) rfl #[.int .i64 2] (by rfl) rfl rfl (by (try simp only [List.map_toArray, List.map_cons, List.map_nil]); first | done | rfl | (simp only [List.length_drop, List.length_take]; rfl)) ?_
  with_reducible refine (geom_least.calls 2 l _ HL.out).mono ?_
  rintro e w_ ⟨rfl, ⟨nd_, rfl⟩⟩
  refine ⟨_, rfl, ?_⟩
  have NBKg8_ := Aside0.mk (blk_drewN BKg8.out nd_)
  have NHB_ := Aside0.mk (pw_below_drewN HB.out nd_)
  clear BKg8 HB
  have BKg8 := NBKg8_
  have HB := NHB_
  clear NBKg8_ NHB_
  refine hK.out _ _ ⟨(blk_cell BKg8.out 0).trans rfl, (blk_cell BKg8.out 1).trans rfl, (blk_cell BKg8.out 2).trans rfl, (blk_cell BKg8.out 3).trans rfl, (blk_cell BKg8.out 4).trans rfl, (blk_cell BKg8.out 5).trans rfl⟩ (fun hHeld => ?_)
  clear hK K
  refine norm_ (a' := ?_) ?_ ?_
  rotate_left
  · show Act.put _ (some 47) _ = _
    simp only [Act.put, List.setIfInBounds_toArray, List.set_cons_zero, List.set_cons_succ, i64_w, i32_w]
    rfl
  generalize W6.drewN nd_ = W7 at BKg8 HB hHeld ⊢
  refine pure_ (i := 7) (N := some 48) (v := ?_) (a' := ?_) #[true, true, true, true, true, true, true, true, false, false] rfl rfl (by kernel_rfl) (fun _ _ _ h => h) (Or.inl ⟨by rfl, ?_⟩) ?_ ?_
  rotate_left
  · intro w'
    go_simp
    with_reducible rfl
  rotate_left
  · simp only [Act.put, List.setIfInBounds_toArray, List.set_cons_zero, List.set_cons_succ, i64_w, i32_w]
    rfl
  refine pure_ (i := 8) (N := some 6) (v := ?_) (a' := ?_) #[true, true, true, true, true, true, true, true, true, false] rfl rfl (by kernel_rfl) (fun _ _ _ h => h) (Or.inl ⟨by rfl, ?_⟩) ?_ ?_
  rotate_left
  · intro w'
    go_simp
    with_reducible rfl
  rotate_left
  · simp only [Act.put, List.setIfInBounds_toArray, List.set_cons_zero, List.set_cons_succ, i64_w, i32_w]
    rfl
  refine pure_ (i := 9) (N := some 7) (v := ?_) (a' := ?_) #[true, true, true, true, true, true, true, true, true, true] rfl rfl (by kernel_rfl) (fun _ _ _ h => h) (Or.inl ⟨by rfl, ?_⟩) ?_ ?_
  rotate_left
  · intro w'
    go_simp
    with_reducible rfl
  rotate_left
  · simp only [Act.put, List.setIfInBounds_toArray, List.set_cons_zero, List.set_cons_succ, i64_w, i32_w]
    rfl
  refine done_ (by kernel_rfl) ?_
  go_wp2
  go_ret2
  exact ⟨by first | rfl | (simp; done) | (simp [*]; done), HB.out⟩
set_option maxHeartbeats 4000000 in
set_option maxRecDepth 100000 in
theorem geom_Place.out3 (k : Nat) (M R ix l hf nd : Int) (w : World) (H1 : Aside0 (geom_is.f M R = some true)) (HL : Aside0 (geom_least.f 3 = some l)) (H2 : Aside0 (geom_Half.f k M R = some hf)) (H3 : Aside0 (geom_Nodes.f k M R = some nd)) (e0 : decide (ix < l) = false) (e1 : decide (wrap64 ((wrap64 (wrap64 (8 + wrap64 (2 * hf)) + nd)) - (wrap64 (8 + wrap64 (2 * hf)))) ≤ wrap64 (ix - l)) = true) :
    Calls Try.prog 26 #[.agg #[.int .i64 M, .int .i64 R], .int .i64 3, .int .i64 ix] w fun e w' => e = .returned (.tuple #[.int .i64 0, .int .i64 2]) ∧ Below w.heap.size w w' := by
  have HB := Aside0.mk (Below.refl w.heap.size w)
  have q := Wk.blks1 w (.cells #[.int .i64 M, .int .i64 R] 23)
  go_enter Try.func26, Try.ntmps26
  go_wp2_with (first | (go_at_call 30; (with_reducible refine (geom_is.calls M R true _ H1.out).mono ?_); rintro e w1 ⟨rfl, hb⟩; obtain ⟨c0, c1⟩ := Wk.cells2 (blk_below q.1 hb); have HC := Aside0.mk (below_step (below_alloc HB.out _) hb); clear hb q HB) | (go_at_call 34; (with_reducible refine (geom_least.calls _ l _ HL.out).mono ?_); rintro e w' ⟨rfl, ⟨nd_, rfl⟩⟩))
  with_reducible refine (geom_firsts.calls k M R hf nd _ H2.out H3.out).mono ?_
  rintro e w2 ⟨rfl, hb⟩
  have HB := Aside0.mk (below_step (by repeat (first | (with_reducible first | exact HC.out | apply below_alloc | apply pw_below_drewN | apply below_drew1) | exact HC.out)) hb)
  clear hb HC
  go_wp2_with fail
  obtain ⟨q0_, nb_⟩ := Wk.blks1 w2 (.cells #[.int .i64 0, .int .i64 0, .int .i64 8, .int .i64 (wrap64 (8 + wrap64 (2 * hf))), .int .i64 (wrap64 (wrap64 (8 + wrap64 (2 * hf)) + nd)), .int .i64 (wrap64 (wrap64 (wrap64 (8 + wrap64 (2 * hf)) + nd) + R))] 43 (0, 0))
  obtain ⟨W3, hW_⟩ : ∃ W, W = (w2.alloc (.cells #[.int .i64 0, .int .i64 0, .int .i64 8, .int .i64 (wrap64 (8 + wrap64 (2 * hf))), .int .i64 (wrap64 (wrap64 (8 + wrap64 (2 * hf)) + nd)), .int .i64 (wrap64 (wrap64 (wrap64 (8 + wrap64 (2 * hf)) + nd) + R))] 43 (0, 0))) := ⟨_, rfl⟩
  rw [← hW_]
  rw [← hW_] at q0_
  rw [← hW_] at nb_
  have sz_ := below_size HB.out
  have hb2_ := Aside0.mk (below_step HB.out nb_)
  obtain ⟨g8, hgg8_⟩ : ∃ g, g = w2.heap.size := ⟨_, rfl⟩
  rw [← hgg8_]
  rw [← hgg8_] at q0_
  have GEg8 := Aside0.mk (show w.heap.size ≤ g8 by omega)
  have BKg8 := Aside0.mk q0_
  clear HB
  have HB := hb2_
  clear hb2_ hW_ nb_ sz_ hgg8_ q0_
  have NBKg8_ := Aside0.mk (blk_drew BKg8.out)
  have NHB_ := Aside0.mk (below_drew1 HB.out)
  clear BKg8 HB
  have BKg8 := NBKg8_
  have HB := NHB_
  clear NBKg8_ NHB_
  refine start_ (n := 13) (S := fun w' => w'.cell? ⟨g8, 0, none⟩ = some (.int .i64 0) ∧ w'.cell? ⟨g8, 1, none⟩ = some (.int .i64 0) ∧ w'.cell? ⟨g8, 2, none⟩ = some (.int .i64 8) ∧ w'.cell? ⟨g8, 3, none⟩ = some (.int .i64 (wrap64 (8 + wrap64 (2 * hf)))) ∧ w'.cell? ⟨g8, 4, none⟩ = some (.int .i64 (wrap64 (wrap64 (8 + wrap64 (2 * hf)) + nd))) ∧ w'.cell? ⟨g8, 5, none⟩ = some (.int .i64 (wrap64 (wrap64 (wrap64 (8 + wrap64 (2 * hf)) + nd) + R)))) (ds := []) #[false, false, false, false, false, false, false, false, false, false, false, false, false] (by kernel_rfl) rfl rfl ⟨(blk_cell BKg8.out 0).trans rfl, (blk_cell BKg8.out 1).trans rfl, (blk_cell BKg8.out 2).trans rfl, (blk_cell BKg8.out 3).trans rfl, (blk_cell BKg8.out 4).trans rfl, (blk_cell BKg8.out 5).trans rfl⟩ (fun hHeld => ?_)
  generalize W3.drew = W4 at BKg8 HB hHeld ⊢
  have wq : wrap64 4 = 4 := by unfold wrap64; omega
  refine pure_ (i := 0) (N := some 28) (v := ?_) (a' := ?_) #[true, false, false, false, false, false, false, false, false, false, false, false, false] rfl rfl (by kernel_rfl) (fun _ _ _ h => h) (Or.inl ⟨by rfl, ?_⟩) ?_ ?_
  rotate_left
  · intro w'
    go_simp
    with_reducible rfl
  rotate_left
  · simp only [Act.put, List.setIfInBounds_toArray, List.set_cons_zero, List.set_cons_succ, i64_w, i32_w]
    rfl
  refine pure_ (i := 1) (N := some 29) (v := ?_) (a' := ?_) #[true, true, false, false, false, false, false, false, false, false, false, false, false] rfl rfl (by kernel_rfl) (fun _ _ _ h => h) (Or.inl ⟨by rfl, ?_⟩) ?_ ?_
  rotate_left
  · intro w'
    go_simp
    with_reducible rfl
  rotate_left
  · simp only [Act.put, List.setIfInBounds_toArray, List.set_cons_zero, List.set_cons_succ, i64_w, i32_w]
    rfl
  refine pure_ (i := 4) (N := some 32) (v := ?_) (a' := ?_) #[true, true, false, false, true, false, false, false, false, false, false, false, false] rfl rfl (by kernel_rfl) (fun _ _ _ h => h) (Or.inl ⟨by rfl, ?_⟩) ?_ ?_
  rotate_left
  · intro w'
    go_simp
    with_reducible rfl
  rotate_left
  · simp only [Act.put, List.setIfInBounds_toArray, List.set_cons_zero, List.set_cons_succ, i64_w, i32_w]
    rfl
  refine pure_ (i := 5) (N := some 33) (v := ?_) (a' := ?_) #[true, true, false, false, true, true, false, false, false, false, false, false, false] rfl rfl (by kernel_rfl) (fun _ _ _ h => h) (Or.inl ⟨by rfl, ?_⟩) ?_ ?_
  rotate_left
  · intro w'
    go_simp
    with_reducible rfl
  rotate_left
  · simp only [Act.put, List.setIfInBounds_toArray, List.set_cons_zero, List.set_cons_succ, i64_w, i32_w]
    rfl
  refine pure_ (i := 6) (N := some 34) (v := ?_) (a' := ?_) #[true, true, false, false, true, true, true, false, false, false, false, false, false] rfl rfl (by kernel_rfl) (fun _ _ _ h => h) (Or.inl ⟨by rfl, ?_⟩) ?_ ?_
  rotate_left
  · intro w'
    go_simp
    with_reducible rfl
  rotate_left
  · simp only [Act.put, List.setIfInBounds_toArray, List.set_cons_zero, List.set_cons_succ, i64_w, i32_w]
    rfl
  refine take_ (i := 7) (N := some 35) (v := ?_) (a' := ?_) #[true, true, false, false, true, true, true, true, false, false, false, false, false] rfl rfl (by kernel_rfl) (fun _ _ _ h => h) (Or.inl ⟨by rfl, ?_⟩) hHeld ?_ ?_
  rotate_left
  · rintro w' ⟨s0, s1, s2, s3, s4, s5⟩
    go_simp
    with_reducible rfl
  rotate_left
  · simp only [Act.put, List.setIfInBounds_toArray, List.set_cons_zero, List.set_cons_succ, i64_w, i32_w]
    rfl
  refine pure_ (i := 8) (N := some 36) (v := ?_) (a' := ?_) #[true, true, false, false, true, true, true, true, true, false, false, false, false] rfl rfl (by kernel_rfl) (fun _ _ _ h => h) (Or.inl ⟨by rfl, ?_⟩) ?_ ?_
  rotate_left
  · intro w'
    go_simp
    with_reducible rfl
  rotate_left
  · simp only [Act.put, List.setIfInBounds_toArray, List.set_cons_zero, List.set_cons_succ, i64_w, i32_w]
    rfl
  refine pure_ (i := 9) (N := some 37) (v := ?_) (a' := ?_) #[true, true, false, false, true, true, true, true, true, true, false, false, false] rfl rfl (by kernel_rfl) (fun _ _ _ h => h) (Or.inl ⟨by rfl, ?_⟩) ?_ ?_
  rotate_left
  · intro w'
    go_simp
    with_reducible rfl
  rotate_left
  · simp only [Act.put, List.setIfInBounds_toArray, List.set_cons_zero, List.set_cons_succ, i64_w, i32_w]
    rfl
  refine take_ (i := 10) (N := some 38) (v := ?_) (a' := ?_) #[true, true, false, false, true, true, true, true, true, true, true, false, false] rfl rfl (by kernel_rfl) (fun _ _ _ h => h) (Or.inl ⟨by rfl, ?_⟩) hHeld ?_ ?_
  rotate_left
  · rintro w' ⟨s0, s1, s2, s3, s4, s5⟩
    go_simp
    with_reducible rfl
  rotate_left
  · simp only [Act.put, List.setIfInBounds_toArray, List.set_cons_zero, List.set_cons_succ, i64_w, i32_w]
    rfl
  refine pure_ (i := 11) (N := some 39) (v := ?_) (a' := ?_) #[true, true, false, false, true, true, true, true, true, true, true, true, false] rfl rfl (by kernel_rfl) (fun _ _ _ h => h) (Or.inl ⟨by rfl, ?_⟩) ?_ ?_
  rotate_left
  · intro w'
    go_simp
    with_reducible rfl
  rotate_left
  · simp only [Act.put, List.setIfInBounds_toArray, List.set_cons_zero, List.set_cons_succ, i64_w, i32_w]
    rfl
  refine one_ (i := 2) (N := some 30) #[true, true, true, false, true, true, true, true, true, true, true, true, false] rfl rfl (by kernel_rfl) (by decide) (fun K hK => ?_)
  refine goes_ Try.func34 (by kernel_rfl) rfl #[.int .i64 3] (by rfl) rfl rfl (by (try simp only [List.map_toArray, List.map_cons, List.map_nil]); first | done | rfl | (simp only [List.length_drop, List.length_take]; rfl)) ?_
  with_reducible refine (geom_least.calls 3 l _ HL.out).mono ?_
  rintro e w_ ⟨rfl, ⟨nd_, rfl⟩⟩
  refine ⟨_, rfl, ?_⟩
  have NBKg8_ := Aside0.mk (blk_drewN BKg8.out nd_)
  have NHB_ := Aside0.mk (pw_below_drewN HB.out nd_)
  clear BKg8 HB
  have BKg8 := NBKg8_
  have HB := NHB_
  clear NBKg8_ NHB_
  refine hK.out _ _ ⟨(blk_cell BKg8.out 0).trans rfl, (blk_cell BKg8.out 1).trans rfl, (blk_cell BKg8.out 2).trans rfl, (blk_cell BKg8.out 3).trans rfl, (blk_cell BKg8.out 4).trans rfl, (blk_cell BKg8.out 5).trans rfl⟩ (fun hHeld => ?_)
  clear hK K
  refine norm_ (a' := ?_) ?_ ?_
  rotate_left
  · show Act.put _ (some 30) _ = _
    simp only [Act.put, List.setIfInBounds_toArray, List.set_cons_zero, List.set_cons_succ, i64_w, i32_w]
    rfl
  generalize W4.drewN nd_ = W5 at BKg8 HB hHeld ⊢
  refine pure_ (i := 3) (N := some 31) (v := ?_) (a' := ?_) #[true, true, true, true, true, true, true, true, true, true, true, true, false] rfl rfl (by kernel_rfl) (fun _ _ _ h => h) (Or.inl ⟨by rfl, ?_⟩) ?_ ?_
  rotate_left
  · intro w'
    go_simp
    with_reducible rfl
  rotate_left
  · simp only [Act.put, List.setIfInBounds_toArray, List.set_cons_zero, List.set_cons_succ, i64_w, i32_w]
    rfl
  refine pure_ (i := 12) (N := some 40) (v := ?_) (a' := ?_) #[true, true, true, true, true, true, true, true, true, true, true, true, true] rfl rfl (by kernel_rfl) (fun _ _ _ h => h) (Or.inl ⟨by rfl, ?_⟩) ?_ ?_
  rotate_left
  · intro w'
    go_simp
    with_reducible rfl
  rotate_left
  · simp only [Act.put, List.setIfInBounds_toArray, List.set_cons_zero, List.set_cons_succ, i64_w, i32_w]
    rfl
  refine done_ (by kernel_rfl) ?_
  obtain ⟨cg8_0, cg8_1, cg8_2, cg8_3, cg8_4, cg8_5⟩ := Wk.cells6 BKg8.out
  have fg8_0 := blk_frozen BKg8.out 0
  have fg8_1 := blk_frozen BKg8.out 1
  have fg8_2 := blk_frozen BKg8.out 2
  have fg8_3 := blk_frozen BKg8.out 3
  have fg8_4 := blk_frozen BKg8.out 4
  have fg8_5 := blk_frozen BKg8.out 5
  go_wp2_with fail
  go_ret2
  exact ⟨by first | rfl | (simp; done) | (simp [*]; done), HB.out⟩
set_option maxHeartbeats 4000000 in
set_option maxRecDepth 100000 in
theorem geom_Place.in_3 (k : Nat) (M R ix l hf nd : Int) (w : World) (H1 : Aside0 (geom_is.f M R = some true)) (HL : Aside0 (geom_least.f 3 = some l)) (H2 : Aside0 (geom_Half.f k M R = some hf)) (H3 : Aside0 (geom_Nodes.f k M R = some nd)) (e0 : decide (ix < l) = false) (e1 : decide (wrap64 ((wrap64 (wrap64 (8 + wrap64 (2 * hf)) + nd)) - (wrap64 (8 + wrap64 (2 * hf)))) ≤ wrap64 (ix - l)) = false) :
    Calls Try.prog 26 #[.agg #[.int .i64 M, .int .i64 R], .int .i64 3, .int .i64 ix] w fun e w' => e = .returned (.tuple #[.int .i64 (wrap64 (wrap64 ((wrap64 (8 + wrap64 (2 * hf))) + ix) - l)), .int .i64 0]) ∧ Below w.heap.size w w' := by
  have HB := Aside0.mk (Below.refl w.heap.size w)
  have q := Wk.blks1 w (.cells #[.int .i64 M, .int .i64 R] 23)
  go_enter Try.func26, Try.ntmps26
  go_wp2_with (first | (go_at_call 30; (with_reducible refine (geom_is.calls M R true _ H1.out).mono ?_); rintro e w1 ⟨rfl, hb⟩; obtain ⟨c0, c1⟩ := Wk.cells2 (blk_below q.1 hb); have HC := Aside0.mk (below_step (below_alloc HB.out _) hb); clear hb q HB) | (go_at_call 34; (with_reducible refine (geom_least.calls _ l _ HL.out).mono ?_); rintro e w' ⟨rfl, ⟨nd_, rfl⟩⟩))
  with_reducible refine (geom_firsts.calls k M R hf nd _ H2.out H3.out).mono ?_
  rintro e w2 ⟨rfl, hb⟩
  have HB := Aside0.mk (below_step (by repeat (first | (with_reducible first | exact HC.out | apply below_alloc | apply pw_below_drewN | apply below_drew1) | exact HC.out)) hb)
  clear hb HC
  go_wp2_with fail
  obtain ⟨q0_, nb_⟩ := Wk.blks1 w2 (.cells #[.int .i64 0, .int .i64 0, .int .i64 8, .int .i64 (wrap64 (8 + wrap64 (2 * hf))), .int .i64 (wrap64 (wrap64 (8 + wrap64 (2 * hf)) + nd)), .int .i64 (wrap64 (wrap64 (wrap64 (8 + wrap64 (2 * hf)) + nd) + R))] 43 (0, 0))
  obtain ⟨W3, hW_⟩ : ∃ W, W = (w2.alloc (.cells #[.int .i64 0, .int .i64 0, .int .i64 8, .int .i64 (wrap64 (8 + wrap64 (2 * hf))), .int .i64 (wrap64 (wrap64 (8 + wrap64 (2 * hf)) + nd)), .int .i64 (wrap64 (wrap64 (wrap64 (8 + wrap64 (2 * hf)) + nd) + R))] 43 (0, 0))) := ⟨_, rfl⟩
  rw [← hW_]
  rw [← hW_] at q0_
  rw [← hW_] at nb_
  have sz_ := below_size HB.out
  have hb2_ := Aside0.mk (below_step HB.out nb_)
  obtain ⟨g8, hgg8_⟩ : ∃ g, g = w2.heap.size := ⟨_, rfl⟩
  rw [← hgg8_]
  rw [← hgg8_] at q0_
  have GEg8 := Aside0.mk (show w.heap.size ≤ g8 by omega)
  have BKg8 := Aside0.mk q0_
  clear HB
  have HB := hb2_
  clear hb2_ hW_ nb_ sz_ hgg8_ q0_
  have NBKg8_ := Aside0.mk (blk_drew BKg8.out)
  have NHB_ := Aside0.mk (below_drew1 HB.out)
  clear BKg8 HB
  have BKg8 := NBKg8_
  have HB := NHB_
  clear NBKg8_ NHB_
  refine start_ (n := 13) (S := fun w' => w'.cell? ⟨g8, 0, none⟩ = some (.int .i64 0) ∧ w'.cell? ⟨g8, 1, none⟩ = some (.int .i64 0) ∧ w'.cell? ⟨g8, 2, none⟩ = some (.int .i64 8) ∧ w'.cell? ⟨g8, 3, none⟩ = some (.int .i64 (wrap64 (8 + wrap64 (2 * hf)))) ∧ w'.cell? ⟨g8, 4, none⟩ = some (.int .i64 (wrap64 (wrap64 (8 + wrap64 (2 * hf)) + nd))) ∧ w'.cell? ⟨g8, 5, none⟩ = some (.int .i64 (wrap64 (wrap64 (wrap64 (8 + wrap64 (2 * hf)) + nd) + R)))) (ds := []) #[false, false, false, false, false, false, false, false, false, false, false, false, false] (by kernel_rfl) rfl rfl ⟨(blk_cell BKg8.out 0).trans rfl, (blk_cell BKg8.out 1).trans rfl, (blk_cell BKg8.out 2).trans rfl, (blk_cell BKg8.out 3).trans rfl, (blk_cell BKg8.out 4).trans rfl, (blk_cell BKg8.out 5).trans rfl⟩ (fun hHeld => ?_)
  generalize W3.drew = W4 at BKg8 HB hHeld ⊢
  have wq : wrap64 4 = 4 := by unfold wrap64; omega
  refine pure_ (i := 0) (N := some 28) (v := ?_) (a' := ?_) #[true, false, false, false, false, false, false, false, false, false, false, false, false] rfl rfl (by kernel_rfl) (fun _ _ _ h => h) (Or.inl ⟨by rfl, ?_⟩) ?_ ?_
  rotate_left
  · intro w'
    go_simp
    with_reducible rfl
  rotate_left
  · simp only [Act.put, List.setIfInBounds_toArray, List.set_cons_zero, List.set_cons_succ, i64_w, i32_w]
    rfl
  refine pure_ (i := 1) (N := some 29) (v := ?_) (a' := ?_) #[true, true, false, false, false, false, false, false, false, false, false, false, false] rfl rfl (by kernel_rfl) (fun _ _ _ h => h) (Or.inl ⟨by rfl, ?_⟩) ?_ ?_
  rotate_left
  · intro w'
    go_simp
    with_reducible rfl
  rotate_left
  · simp only [Act.put, List.setIfInBounds_toArray, List.set_cons_zero, List.set_cons_succ, i64_w, i32_w]
    rfl
  refine pure_ (i := 4) (N := some 32) (v := ?_) (a' := ?_) #[true, true, false, false, true, false, false, false, false, false, false, false, false] rfl rfl (by kernel_rfl) (fun _ _ _ h => h) (Or.inl ⟨by rfl, ?_⟩) ?_ ?_
  rotate_left
  · intro w'
    go_simp
    with_reducible rfl
  rotate_left
  · simp only [Act.put, List.setIfInBounds_toArray, List.set_cons_zero, List.set_cons_succ, i64_w, i32_w]
    rfl
  refine pure_ (i := 5) (N := some 33) (v := ?_) (a' := ?_) #[true, true, false, false, true, true, false, false, false, false, false, false, false] rfl rfl (by kernel_rfl) (fun _ _ _ h => h) (Or.inl ⟨by rfl, ?_⟩) ?_ ?_
  rotate_left
  · intro w'
    go_simp
    with_reducible rfl
  rotate_left
  · simp only [Act.put, List.setIfInBounds_toArray, List.set_cons_zero, List.set_cons_succ, i64_w, i32_w]
    rfl
  refine pure_ (i := 6) (N := some 34) (v := ?_) (a' := ?_) #[true, true, false, false, true, true, true, false, false, false, false, false, false] rfl rfl (by kernel_rfl) (fun _ _ _ h => h) (Or.inl ⟨by rfl, ?_⟩) ?_ ?_
  rotate_left
  · intro w'
    go_simp
    with_reducible rfl
  rotate_left
  · simp only [Act.put, List.setIfInBounds_toArray, List.set_cons_zero, List.set_cons_succ, i64_w, i32_w]
    rfl
  refine take_ (i := 7) (N := some 35) (v := ?_) (a' := ?_) #[true, true, false, false, true, true, true, true, false, false, false, false, false] rfl rfl (by kernel_rfl) (fun _ _ _ h => h) (Or.inl ⟨by rfl, ?_⟩) hHeld ?_ ?_
  rotate_left
  · rintro w' ⟨s0, s1, s2, s3, s4, s5⟩
    go_simp
    with_reducible rfl
  rotate_left
  · simp only [Act.put, List.setIfInBounds_toArray, List.set_cons_zero, List.set_cons_succ, i64_w, i32_w]
    rfl
  refine pure_ (i := 8) (N := some 36) (v := ?_) (a' := ?_) #[true, true, false, false, true, true, true, true, true, false, false, false, false] rfl rfl (by kernel_rfl) (fun _ _ _ h => h) (Or.inl ⟨by rfl, ?_⟩) ?_ ?_
  rotate_left
  · intro w'
    go_simp
    with_reducible rfl
  rotate_left
  · simp only [Act.put, List.setIfInBounds_toArray, List.set_cons_zero, List.set_cons_succ, i64_w, i32_w]
    rfl
  refine pure_ (i := 9) (N := some 37) (v := ?_) (a' := ?_) #[true, true, false, false, true, true, true, true, true, true, false, false, false] rfl rfl (by kernel_rfl) (fun _ _ _ h => h) (Or.inl ⟨by rfl, ?_⟩) ?_ ?_
  rotate_left
  · intro w'
    go_simp
    with_reducible rfl
  rotate_left
  · simp only [Act.put, List.setIfInBounds_toArray, List.set_cons_zero, List.set_cons_succ, i64_w, i32_w]
    rfl
  refine take_ (i := 10) (N := some 38) (v := ?_) (a' := ?_) #[true, true, false, false, true, true, true, true, true, true, true, false, false] rfl rfl (by kernel_rfl) (fun _ _ _ h => h) (Or.inl ⟨by rfl, ?_⟩) hHeld ?_ ?_
  rotate_left
  · rintro w' ⟨s0, s1, s2, s3, s4, s5⟩
    go_simp
    with_reducible rfl
  rotate_left
  · simp only [Act.put, List.setIfInBounds_toArray, List.set_cons_zero, List.set_cons_succ, i64_w, i32_w]
    rfl
  refine pure_ (i := 11) (N := some 39) (v := ?_) (a' := ?_) #[true, true, false, false, true, true, true, true, true, true, true, true, false] rfl rfl (by kernel_rfl) (fun _ _ _ h => h) (Or.inl ⟨by rfl, ?_⟩) ?_ ?_
  rotate_left
  · intro w'
    go_simp
    with_reducible rfl
  rotate_left
  · simp only [Act.put, List.setIfInBounds_toArray, List.set_cons_zero, List.set_cons_succ, i64_w, i32_w]
    rfl
  refine one_ (i := 2) (N := some 30) #[true, true, true, false, true, true, true, true, true, true, true, true, false] rfl rfl (by kernel_rfl) (by decide) (fun K hK => ?_)
  refine goes_ Try.func34 (by kernel_rfl) rfl #[.int .i64 3] (by rfl) rfl rfl (by (try simp only [List.map_toArray, List.map_cons, List.map_nil]); first | done | rfl | (simp only [List.length_drop, List.length_take]; rfl)) ?_
  with_reducible refine (geom_least.calls 3 l _ HL.out).mono ?_
  rintro e w_ ⟨rfl, ⟨nd_, rfl⟩⟩
  refine ⟨_, rfl, ?_⟩
  have NBKg8_ := Aside0.mk (blk_drewN BKg8.out nd_)
  have NHB_ := Aside0.mk (pw_below_drewN HB.out nd_)
  clear BKg8 HB
  have BKg8 := NBKg8_
  have HB := NHB_
  clear NBKg8_ NHB_
  refine hK.out _ _ ⟨(blk_cell BKg8.out 0).trans rfl, (blk_cell BKg8.out 1).trans rfl, (blk_cell BKg8.out 2).trans rfl, (blk_cell BKg8.out 3).trans rfl, (blk_cell BKg8.out 4).trans rfl, (blk_cell BKg8.out 5).trans rfl⟩ (fun hHeld => ?_)
  clear hK K
  refine norm_ (a' := ?_) ?_ ?_
  rotate_left
  · show Act.put _ (some 30) _ = _
    simp only [Act.put, List.setIfInBounds_toArray, List.set_cons_zero, List.set_cons_succ, i64_w, i32_w]
    rfl
  generalize W4.drewN nd_ = W5 at BKg8 HB hHeld ⊢
  refine pure_ (i := 3) (N := some 31) (v := ?_) (a' := ?_) #[true, true, true, true, true, true, true, true, true, true, true, true, false] rfl rfl (by kernel_rfl) (fun _ _ _ h => h) (Or.inl ⟨by rfl, ?_⟩) ?_ ?_
  rotate_left
  · intro w'
    go_simp
    with_reducible rfl
  rotate_left
  · simp only [Act.put, List.setIfInBounds_toArray, List.set_cons_zero, List.set_cons_succ, i64_w, i32_w]
    rfl
  refine pure_ (i := 12) (N := some 40) (v := ?_) (a' := ?_) #[true, true, true, true, true, true, true, true, true, true, true, true, true] rfl rfl (by kernel_rfl) (fun _ _ _ h => h) (Or.inl ⟨by rfl, ?_⟩) ?_ ?_
  rotate_left
  · intro w'
    go_simp
    with_reducible rfl
  rotate_left
  · simp only [Act.put, List.setIfInBounds_toArray, List.set_cons_zero, List.set_cons_succ, i64_w, i32_w]
    rfl
  refine done_ (by kernel_rfl) ?_
  obtain ⟨cg8_0, cg8_1, cg8_2, cg8_3, cg8_4, cg8_5⟩ := Wk.cells6 BKg8.out
  have fg8_0 := blk_frozen BKg8.out 0
  have fg8_1 := blk_frozen BKg8.out 1
  have fg8_2 := blk_frozen BKg8.out 2
  have fg8_3 := blk_frozen BKg8.out 3
  have fg8_4 := blk_frozen BKg8.out 4
  have fg8_5 := blk_frozen BKg8.out 5
  go_wp2_with fail
  clear cg8_0 fg8_0 cg8_1 fg8_1 cg8_2 fg8_2 cg8_3 fg8_3 cg8_4 fg8_4 cg8_5 fg8_5
  have NBKg8_ := Aside0.mk (blk_drew BKg8.out)
  have NHB_ := Aside0.mk (below_drew1 HB.out)
  clear BKg8 HB
  have BKg8 := NBKg8_
  have HB := NHB_
  clear NBKg8_ NHB_
  refine start_ (n := 10) (S := fun w' => w'.cell? ⟨g8, 0, none⟩ = some (.int .i64 0) ∧ w'.cell? ⟨g8, 1, none⟩ = some (.int .i64 0) ∧ w'.cell? ⟨g8, 2, none⟩ = some (.int .i64 8) ∧ w'.cell? ⟨g8, 3, none⟩ = some (.int .i64 (wrap64 (8 + wrap64 (2 * hf)))) ∧ w'.cell? ⟨g8, 4, none⟩ = some (.int .i64 (wrap64 (wrap64 (8 + wrap64 (2 * hf)) + nd))) ∧ w'.cell? ⟨g8, 5, none⟩ = some (.int .i64 (wrap64 (wrap64 (wrap64 (8 + wrap64 (2 * hf)) + nd) + R)))) (ds := []) #[false, false, false, false, false, false, false, false, false, false] (by kernel_rfl) rfl rfl ⟨(blk_cell BKg8.out 0).trans rfl, (blk_cell BKg8.out 1).trans rfl, (blk_cell BKg8.out 2).trans rfl, (blk_cell BKg8.out 3).trans rfl, (blk_cell BKg8.out 4).trans rfl, (blk_cell BKg8.out 5).trans rfl⟩ (fun hHeld => ?_)
  generalize W5.drew = W6 at BKg8 HB hHeld ⊢
  refine pure_ (i := 0) (N := some 41) (v := ?_) (a' := ?_) #[true, false, false, false, false, false, false, false, false, false] rfl rfl (by kernel_rfl) (fun _ _ _ h => h) (Or.inl ⟨by rfl, ?_⟩) ?_ ?_
  rotate_left
  · intro w'
    go_simp
    with_reducible rfl
  rotate_left
  · simp only [Act.put, List.setIfInBounds_toArray, List.set_cons_zero, List.set_cons_succ, i64_w, i32_w]
    rfl
  refine pure_ (i := 1) (N := some 42) (v := ?_) (a' := ?_) #[true, true, false, false, false, false, false, false, false, false] rfl rfl (by kernel_rfl) (fun _ _ _ h => h) (Or.inl ⟨by rfl, ?_⟩) ?_ ?_
  rotate_left
  · intro w'
    go_simp
    with_reducible rfl
  rotate_left
  · simp only [Act.put, List.setIfInBounds_toArray, List.set_cons_zero, List.set_cons_succ, i64_w, i32_w]
    rfl
  refine take_ (i := 2) (N := some 43) (v := ?_) (a' := ?_) #[true, true, true, false, false, false, false, false, false, false] rfl rfl (by kernel_rfl) (fun _ _ _ h => h) (Or.inl ⟨by rfl, ?_⟩) hHeld ?_ ?_
  rotate_left
  · rintro w' ⟨s0, s1, s2, s3, s4, s5⟩
    go_simp
    with_reducible rfl
  rotate_left
  · simp only [Act.put, List.setIfInBounds_toArray, List.set_cons_zero, List.set_cons_succ, i64_w, i32_w]
    rfl
  refine pure_ (i := 3) (N := some 44) (v := ?_) (a' := ?_) #[true, true, true, true, false, false, false, false, false, false] rfl rfl (by kernel_rfl) (fun _ _ _ h => h) (Or.inl ⟨by rfl, ?_⟩) ?_ ?_
  rotate_left
  · intro w'
    go_simp
    with_reducible rfl
  rotate_left
  · simp only [Act.put, List.setIfInBounds_toArray, List.set_cons_zero, List.set_cons_succ, i64_w, i32_w]
    rfl
  refine pure_ (i := 4) (N := some 45) (v := ?_) (a' := ?_) #[true, true, true, true, true, false, false, false, false, false] rfl rfl (by kernel_rfl) (fun _ _ _ h => h) (Or.inl ⟨by rfl, ?_⟩) ?_ ?_
  rotate_left
  · intro w'
    go_simp
    with_reducible rfl
  rotate_left
  · simp only [Act.put, List.setIfInBounds_toArray, List.set_cons_zero, List.set_cons_succ, i64_w, i32_w]
    rfl
  refine pure_ (i := 5) (N := some 46) (v := ?_) (a' := ?_) #[true, true, true, true, true, true, false, false, false, false] rfl rfl (by kernel_rfl) (fun _ _ _ h => h) (Or.inl ⟨by rfl, ?_⟩) ?_ ?_
  rotate_left
  · intro w'
    go_simp
    with_reducible rfl
  rotate_left
  · simp only [Act.put, List.setIfInBounds_toArray, List.set_cons_zero, List.set_cons_succ, i64_w, i32_w]
    rfl
  refine one_ (i := 6) (N := some 47) #[true, true, true, true, true, true, true, false, false, false] rfl rfl (by kernel_rfl) (by decide) (fun K hK => ?_)
  refine goes_ Try.func34 (by kernel_rfl) rfl #[.int .i64 3] (by rfl) rfl rfl (by (try simp only [List.map_toArray, List.map_cons, List.map_nil]); first | done | rfl | (simp only [List.length_drop, List.length_take]; rfl)) ?_
  with_reducible refine (geom_least.calls 3 l _ HL.out).mono ?_
  rintro e w_ ⟨rfl, ⟨nd_, rfl⟩⟩
  refine ⟨_, rfl, ?_⟩
  have NBKg8_ := Aside0.mk (blk_drewN BKg8.out nd_)
  have NHB_ := Aside0.mk (pw_below_drewN HB.out nd_)
  clear BKg8 HB
  have BKg8 := NBKg8_
  have HB := NHB_
  clear NBKg8_ NHB_
  refine hK.out _ _ ⟨(blk_cell BKg8.out 0).trans rfl, (blk_cell BKg8.out 1).trans rfl, (blk_cell BKg8.out 2).trans rfl, (blk_cell BKg8.out 3).trans rfl, (blk_cell BKg8.out 4).trans rfl, (blk_cell BKg8.out 5).trans rfl⟩ (fun hHeld => ?_)
  clear hK K
  refine norm_ (a' := ?_) ?_ ?_
  rotate_left
  · show Act.put _ (some 47) _ = _
    simp only [Act.put, List.setIfInBounds_toArray, List.set_cons_zero, List.set_cons_succ, i64_w, i32_w]
    rfl
  generalize W6.drewN nd_ = W7 at BKg8 HB hHeld ⊢
  refine pure_ (i := 7) (N := some 48) (v := ?_) (a' := ?_) #[true, true, true, true, true, true, true, true, false, false] rfl rfl (by kernel_rfl) (fun _ _ _ h => h) (Or.inl ⟨by rfl, ?_⟩) ?_ ?_
  rotate_left
  · intro w'
    go_simp
    with_reducible rfl
  rotate_left
  · simp only [Act.put, List.setIfInBounds_toArray, List.set_cons_zero, List.set_cons_succ, i64_w, i32_w]
    rfl
  refine pure_ (i := 8) (N := some 6) (v := ?_) (a' := ?_) #[true, true, true, true, true, true, true, true, true, false] rfl rfl (by kernel_rfl) (fun _ _ _ h => h) (Or.inl ⟨by rfl, ?_⟩) ?_ ?_
  rotate_left
  · intro w'
    go_simp
    with_reducible rfl
  rotate_left
  · simp only [Act.put, List.setIfInBounds_toArray, List.set_cons_zero, List.set_cons_succ, i64_w, i32_w]
    rfl
  refine pure_ (i := 9) (N := some 7) (v := ?_) (a' := ?_) #[true, true, true, true, true, true, true, true, true, true] rfl rfl (by kernel_rfl) (fun _ _ _ h => h) (Or.inl ⟨by rfl, ?_⟩) ?_ ?_
  rotate_left
  · intro w'
    go_simp
    with_reducible rfl
  rotate_left
  · simp only [Act.put, List.setIfInBounds_toArray, List.set_cons_zero, List.set_cons_succ, i64_w, i32_w]
    rfl
  refine done_ (by kernel_rfl) ?_
  go_wp2
  go_ret2
  exact ⟨by first | rfl | (simp; done) | (simp [*]; done), HB.out⟩
set_option maxHeartbeats 4000000 in
set_option maxRecDepth 100000 in
theorem geom_Place.out4 (k : Nat) (M R ix l hf nd : Int) (w : World) (H1 : Aside0 (geom_is.f M R = some true)) (HL : Aside0 (geom_least.f 4 = some l)) (H2 : Aside0 (geom_Half.f k M R = some hf)) (H3 : Aside0 (geom_Nodes.f k M R = some nd)) (e0 : decide (ix < l) = false) (e1 : decide (wrap64 ((wrap64 (wrap64 (wrap64 (8 + wrap64 (2 * hf)) + nd) + R)) - (wrap64 (wrap64 (8 + wrap64 (2 * hf)) + nd))) ≤ wrap64 (ix - l)) = true) :
    Calls Try.prog 26 #[.agg #[.int .i64 M, .int .i64 R], .int .i64 4, .int .i64 ix] w fun e w' => e = .returned (.tuple #[.int .i64 0, .int .i64 2]) ∧ Below w.heap.size w w' := by
  have HB := Aside0.mk (Below.refl w.heap.size w)
  have q := Wk.blks1 w (.cells #[.int .i64 M, .int .i64 R] 23)
  go_enter Try.func26, Try.ntmps26
  go_wp2_with (first | (go_at_call 30; (with_reducible refine (geom_is.calls M R true _ H1.out).mono ?_); rintro e w1 ⟨rfl, hb⟩; obtain ⟨c0, c1⟩ := Wk.cells2 (blk_below q.1 hb); have HC := Aside0.mk (below_step (below_alloc HB.out _) hb); clear hb q HB) | (go_at_call 34; (with_reducible refine (geom_least.calls _ l _ HL.out).mono ?_); rintro e w' ⟨rfl, ⟨nd_, rfl⟩⟩))
  with_reducible refine (geom_firsts.calls k M R hf nd _ H2.out H3.out).mono ?_
  rintro e w2 ⟨rfl, hb⟩
  have HB := Aside0.mk (below_step (by repeat (first | (with_reducible first | exact HC.out | apply below_alloc | apply pw_below_drewN | apply below_drew1) | exact HC.out)) hb)
  clear hb HC
  go_wp2_with fail
  obtain ⟨q0_, nb_⟩ := Wk.blks1 w2 (.cells #[.int .i64 0, .int .i64 0, .int .i64 8, .int .i64 (wrap64 (8 + wrap64 (2 * hf))), .int .i64 (wrap64 (wrap64 (8 + wrap64 (2 * hf)) + nd)), .int .i64 (wrap64 (wrap64 (wrap64 (8 + wrap64 (2 * hf)) + nd) + R))] 43 (0, 0))
  obtain ⟨W3, hW_⟩ : ∃ W, W = (w2.alloc (.cells #[.int .i64 0, .int .i64 0, .int .i64 8, .int .i64 (wrap64 (8 + wrap64 (2 * hf))), .int .i64 (wrap64 (wrap64 (8 + wrap64 (2 * hf)) + nd)), .int .i64 (wrap64 (wrap64 (wrap64 (8 + wrap64 (2 * hf)) + nd) + R))] 43 (0, 0))) := ⟨_, rfl⟩
  rw [← hW_]
  rw [← hW_] at q0_
  rw [← hW_] at nb_
  have sz_ := below_size HB.out
  have hb2_ := Aside0.mk (below_step HB.out nb_)
  obtain ⟨g8, hgg8_⟩ : ∃ g, g = w2.heap.size := ⟨_, rfl⟩
  rw [← hgg8_]
  rw [← hgg8_] at q0_
  have GEg8 := Aside0.mk (show w.heap.size ≤ g8 by omega)
  have BKg8 := Aside0.mk q0_
  clear HB
  have HB := hb2_
  clear hb2_ hW_ nb_ sz_ hgg8_ q0_
  have NBKg8_ := Aside0.mk (blk_drew BKg8.out)
  have NHB_ := Aside0.mk (below_drew1 HB.out)
  clear BKg8 HB
  have BKg8 := NBKg8_
  have HB := NHB_
  clear NBKg8_ NHB_
  refine start_ (n := 13) (S := fun w' => w'.cell? ⟨g8, 0, none⟩ = some (.int .i64 0) ∧ w'.cell? ⟨g8, 1, none⟩ = some (.int .i64 0) ∧ w'.cell? ⟨g8, 2, none⟩ = some (.int .i64 8) ∧ w'.cell? ⟨g8, 3, none⟩ = some (.int .i64 (wrap64 (8 + wrap64 (2 * hf)))) ∧ w'.cell? ⟨g8, 4, none⟩ = some (.int .i64 (wrap64 (wrap64 (8 + wrap64 (2 * hf)) + nd))) ∧ w'.cell? ⟨g8, 5, none⟩ = some (.int .i64 (wrap64 (wrap64 (wrap64 (8 + wrap64 (2 * hf)) + nd) + R)))) (ds := []) #[false, false, false, false, false, false, false, false, false, false, false, false, false] (by kernel_rfl) rfl rfl ⟨(blk_cell BKg8.out 0).trans rfl, (blk_cell BKg8.out 1).trans rfl, (blk_cell BKg8.out 2).trans rfl, (blk_cell BKg8.out 3).trans rfl, (blk_cell BKg8.out 4).trans rfl, (blk_cell BKg8.out 5).trans rfl⟩ (fun hHeld => ?_)
  generalize W3.drew = W4 at BKg8 HB hHeld ⊢
  have wq : wrap64 5 = 5 := by unfold wrap64; omega
  refine pure_ (i := 0) (N := some 28) (v := ?_) (a' := ?_) #[true, false, false, false, false, false, false, false, false, false, false, false, false] rfl rfl (by kernel_rfl) (fun _ _ _ h => h) (Or.inl ⟨by rfl, ?_⟩) ?_ ?_
  rotate_left
  · intro w'
    go_simp
    with_reducible rfl
  rotate_left
  · simp only [Act.put, List.setIfInBounds_toArray, List.set_cons_zero, List.set_cons_succ, i64_w, i32_w]
    rfl
  refine pure_ (i := 1) (N := some 29) (v := ?_) (a' := ?_) #[true, true, false, false, false, false, false, false, false, false, false, false, false] rfl rfl (by kernel_rfl) (fun _ _ _ h => h) (Or.inl ⟨by rfl, ?_⟩) ?_ ?_
  rotate_left
  · intro w'
    go_simp
    with_reducible rfl
  rotate_left
  · simp only [Act.put, List.setIfInBounds_toArray, List.set_cons_zero, List.set_cons_succ, i64_w, i32_w]
    rfl
  refine pure_ (i := 4) (N := some 32) (v := ?_) (a' := ?_) #[true, true, false, false, true, false, false, false, false, false, false, false, false] rfl rfl (by kernel_rfl) (fun _ _ _ h => h) (Or.inl ⟨by rfl, ?_⟩) ?_ ?_
  rotate_left
  · intro w'
    go_simp
    with_reducible rfl
  rotate_left
  · simp only [Act.put, List.setIfInBounds_toArray, List.set_cons_zero, List.set_cons_succ, i64_w, i32_w]
    rfl
  refine pure_ (i := 5) (N := some 33) (v := ?_) (a' := ?_) #[true, true, false, false, true, true, false, false, false, false, false, false, false] rfl rfl (by kernel_rfl) (fun _ _ _ h => h) (Or.inl ⟨by rfl, ?_⟩) ?_ ?_
  rotate_left
  · intro w'
    go_simp
    with_reducible rfl
  rotate_left
  · simp only [Act.put, List.setIfInBounds_toArray, List.set_cons_zero, List.set_cons_succ, i64_w, i32_w]
    rfl
  refine pure_ (i := 6) (N := some 34) (v := ?_) (a' := ?_) #[true, true, false, false, true, true, true, false, false, false, false, false, false] rfl rfl (by kernel_rfl) (fun _ _ _ h => h) (Or.inl ⟨by rfl, ?_⟩) ?_ ?_
  rotate_left
  · intro w'
    go_simp
    with_reducible rfl
  rotate_left
  · simp only [Act.put, List.setIfInBounds_toArray, List.set_cons_zero, List.set_cons_succ, i64_w, i32_w]
    rfl
  refine take_ (i := 7) (N := some 35) (v := ?_) (a' := ?_) #[true, true, false, false, true, true, true, true, false, false, false, false, false] rfl rfl (by kernel_rfl) (fun _ _ _ h => h) (Or.inl ⟨by rfl, ?_⟩) hHeld ?_ ?_
  rotate_left
  · rintro w' ⟨s0, s1, s2, s3, s4, s5⟩
    go_simp
    with_reducible rfl
  rotate_left
  · simp only [Act.put, List.setIfInBounds_toArray, List.set_cons_zero, List.set_cons_succ, i64_w, i32_w]
    rfl
  refine pure_ (i := 8) (N := some 36) (v := ?_) (a' := ?_) #[true, true, false, false, true, true, true, true, true, false, false, false, false] rfl rfl (by kernel_rfl) (fun _ _ _ h => h) (Or.inl ⟨by rfl, ?_⟩) ?_ ?_
  rotate_left
  · intro w'
    go_simp
    with_reducible rfl
  rotate_left
  · simp only [Act.put, List.setIfInBounds_toArray, List.set_cons_zero, List.set_cons_succ, i64_w, i32_w]
    rfl
  refine pure_ (i := 9) (N := some 37) (v := ?_) (a' := ?_) #[true, true, false, false, true, true, true, true, true, true, false, false, false] rfl rfl (by kernel_rfl) (fun _ _ _ h => h) (Or.inl ⟨by rfl, ?_⟩) ?_ ?_
  rotate_left
  · intro w'
    go_simp
    with_reducible rfl
  rotate_left
  · simp only [Act.put, List.setIfInBounds_toArray, List.set_cons_zero, List.set_cons_succ, i64_w, i32_w]
    rfl
  refine take_ (i := 10) (N := some 38) (v := ?_) (a' := ?_) #[true, true, false, false, true, true, true, true, true, true, true, false, false] rfl rfl (by kernel_rfl) (fun _ _ _ h => h) (Or.inl ⟨by rfl, ?_⟩) hHeld ?_ ?_
  rotate_left
  · rintro w' ⟨s0, s1, s2, s3, s4, s5⟩
    go_simp
    with_reducible rfl
  rotate_left
  · simp only [Act.put, List.setIfInBounds_toArray, List.set_cons_zero, List.set_cons_succ, i64_w, i32_w]
    rfl
  refine pure_ (i := 11) (N := some 39) (v := ?_) (a' := ?_) #[true, true, false, false, true, true, true, true, true, true, true, true, false] rfl rfl (by kernel_rfl) (fun _ _ _ h => h) (Or.inl ⟨by rfl, ?_⟩) ?_ ?_
  rotate_left
  · intro w'
    go_simp
    with_reducible rfl
  rotate_left
  · simp only [Act.put, List.setIfInBounds_toArray, List.set_cons_zero, List.set_cons_succ, i64_w, i32_w]
    rfl
  refine one_ (i := 2) (N := some 30) #[true, true, true, false, true, true, true, true, true, true, true, true, false] rfl rfl (by kernel_rfl) (by decide) (fun K hK => ?_)
  refine goes_ Try.func34 (by kernel_rfl) rfl #[.int .i64 4] (by rfl) rfl rfl (by (try simp only [List.map_toArray, List.map_cons, List.map_nil]); first | done | rfl | (simp only [List.length_drop, List.length_take]; rfl)) ?_
  with_reducible refine (geom_least.calls 4 l _ HL.out).mono ?_
  rintro e w_ ⟨rfl, ⟨nd_, rfl⟩⟩
  refine ⟨_, rfl, ?_⟩
  have NBKg8_ := Aside0.mk (blk_drewN BKg8.out nd_)
  have NHB_ := Aside0.mk (pw_below_drewN HB.out nd_)
  clear BKg8 HB
  have BKg8 := NBKg8_
  have HB := NHB_
  clear NBKg8_ NHB_
  refine hK.out _ _ ⟨(blk_cell BKg8.out 0).trans rfl, (blk_cell BKg8.out 1).trans rfl, (blk_cell BKg8.out 2).trans rfl, (blk_cell BKg8.out 3).trans rfl, (blk_cell BKg8.out 4).trans rfl, (blk_cell BKg8.out 5).trans rfl⟩ (fun hHeld => ?_)
  clear hK K
  refine norm_ (a' := ?_) ?_ ?_
  rotate_left
  · show Act.put _ (some 30) _ = _
    simp only [Act.put, List.setIfInBounds_toArray, List.set_cons_zero, List.set_cons_succ, i64_w, i32_w]
    rfl
  generalize W4.drewN nd_ = W5 at BKg8 HB hHeld ⊢
  refine pure_ (i := 3) (N := some 31) (v := ?_) (a' := ?_) #[true, true, true, true, true, true, true, true, true, true, true, true, false] rfl rfl (by kernel_rfl) (fun _ _ _ h => h) (Or.inl ⟨by rfl, ?_⟩) ?_ ?_
  rotate_left
  · intro w'
    go_simp
    with_reducible rfl
  rotate_left
  · simp only [Act.put, List.setIfInBounds_toArray, List.set_cons_zero, List.set_cons_succ, i64_w, i32_w]
    rfl
  refine pure_ (i := 12) (N := some 40) (v := ?_) (a' := ?_) #[true, true, true, true, true, true, true, true, true, true, true, true, true] rfl rfl (by kernel_rfl) (fun _ _ _ h => h) (Or.inl ⟨by rfl, ?_⟩) ?_ ?_
  rotate_left
  · intro w'
    go_simp
    with_reducible rfl
  rotate_left
  · simp only [Act.put, List.setIfInBounds_toArray, List.set_cons_zero, List.set_cons_succ, i64_w, i32_w]
    rfl
  refine done_ (by kernel_rfl) ?_
  obtain ⟨cg8_0, cg8_1, cg8_2, cg8_3, cg8_4, cg8_5⟩ := Wk.cells6 BKg8.out
  have fg8_0 := blk_frozen BKg8.out 0
  have fg8_1 := blk_frozen BKg8.out 1
  have fg8_2 := blk_frozen BKg8.out 2
  have fg8_3 := blk_frozen BKg8.out 3
  have fg8_4 := blk_frozen BKg8.out 4
  have fg8_5 := blk_frozen BKg8.out 5
  go_wp2_with fail
  go_ret2
  exact ⟨by first | rfl | (simp; done) | (simp [*]; done), HB.out⟩
set_option maxHeartbeats 4000000 in
set_option maxRecDepth 100000 in
theorem geom_Place.in_4 (k : Nat) (M R ix l hf nd : Int) (w : World) (H1 : Aside0 (geom_is.f M R = some true)) (HL : Aside0 (geom_least.f 4 = some l)) (H2 : Aside0 (geom_Half.f k M R = some hf)) (H3 : Aside0 (geom_Nodes.f k M R = some nd)) (e0 : decide (ix < l) = false) (e1 : decide (wrap64 ((wrap64 (wrap64 (wrap64 (8 + wrap64 (2 * hf)) + nd) + R)) - (wrap64 (wrap64 (8 + wrap64 (2 * hf)) + nd))) ≤ wrap64 (ix - l)) = false) :
    Calls Try.prog 26 #[.agg #[.int .i64 M, .int .i64 R], .int .i64 4, .int .i64 ix] w fun e w' => e = .returned (.tuple #[.int .i64 (wrap64 (wrap64 ((wrap64 (wrap64 (8 + wrap64 (2 * hf)) + nd)) + ix) - l)), .int .i64 0]) ∧ Below w.heap.size w w' := by
  have HB := Aside0.mk (Below.refl w.heap.size w)
  have q := Wk.blks1 w (.cells #[.int .i64 M, .int .i64 R] 23)
  go_enter Try.func26, Try.ntmps26
  go_wp2_with (first | (go_at_call 30; (with_reducible refine (geom_is.calls M R true _ H1.out).mono ?_); rintro e w1 ⟨rfl, hb⟩; obtain ⟨c0, c1⟩ := Wk.cells2 (blk_below q.1 hb); have HC := Aside0.mk (below_step (below_alloc HB.out _) hb); clear hb q HB) | (go_at_call 34; (with_reducible refine (geom_least.calls _ l _ HL.out).mono ?_); rintro e w' ⟨rfl, ⟨nd_, rfl⟩⟩))
  with_reducible refine (geom_firsts.calls k M R hf nd _ H2.out H3.out).mono ?_
  rintro e w2 ⟨rfl, hb⟩
  have HB := Aside0.mk (below_step (by repeat (first | (with_reducible first | exact HC.out | apply below_alloc | apply pw_below_drewN | apply below_drew1) | exact HC.out)) hb)
  clear hb HC
  go_wp2_with fail
  obtain ⟨q0_, nb_⟩ := Wk.blks1 w2 (.cells #[.int .i64 0, .int .i64 0, .int .i64 8, .int .i64 (wrap64 (8 + wrap64 (2 * hf))), .int .i64 (wrap64 (wrap64 (8 + wrap64 (2 * hf)) + nd)), .int .i64 (wrap64 (wrap64 (wrap64 (8 + wrap64 (2 * hf)) + nd) + R))] 43 (0, 0))
  obtain ⟨W3, hW_⟩ : ∃ W, W = (w2.alloc (.cells #[.int .i64 0, .int .i64 0, .int .i64 8, .int .i64 (wrap64 (8 + wrap64 (2 * hf))), .int .i64 (wrap64 (wrap64 (8 + wrap64 (2 * hf)) + nd)), .int .i64 (wrap64 (wrap64 (wrap64 (8 + wrap64 (2 * hf)) + nd) + R))] 43 (0, 0))) := ⟨_, rfl⟩
  rw [← hW_]
  rw [← hW_] at q0_
  rw [← hW_] at nb_
  have sz_ := below_size HB.out
  have hb2_ := Aside0.mk (below_step HB.out nb_)
  obtain ⟨g8, hgg8_⟩ : ∃ g, g = w2.heap.size := ⟨_, rfl⟩
  rw [← hgg8_]
  rw [← hgg8_] at q0_
  have GEg8 := Aside0.mk (show w.heap.size ≤ g8 by omega)
  have BKg8 := Aside0.mk q0_
  clear HB
  have HB := hb2_
  clear hb2_ hW_ nb_ sz_ hgg8_ q0_
  have NBKg8_ := Aside0.mk (blk_drew BKg8.out)
  have NHB_ := Aside0.mk (below_drew1 HB.out)
  clear BKg8 HB
  have BKg8 := NBKg8_
  have HB := NHB_
  clear NBKg8_ NHB_
  refine start_ (n := 13) (S := fun w' => w'.cell? ⟨g8, 0, none⟩ = some (.int .i64 0) ∧ w'.cell? ⟨g8, 1, none⟩ = some (.int .i64 0) ∧ w'.cell? ⟨g8, 2, none⟩ = some (.int .i64 8) ∧ w'.cell? ⟨g8, 3, none⟩ = some (.int .i64 (wrap64 (8 + wrap64 (2 * hf)))) ∧ w'.cell? ⟨g8, 4, none⟩ = some (.int .i64 (wrap64 (wrap64 (8 + wrap64 (2 * hf)) + nd))) ∧ w'.cell? ⟨g8, 5, none⟩ = some (.int .i64 (wrap64 (wrap64 (wrap64 (8 + wrap64 (2 * hf)) + nd) + R)))) (ds := []) #[false, false, false, false, false, false, false, false, false, false, false, false, false] (by kernel_rfl) rfl rfl ⟨(blk_cell BKg8.out 0).trans rfl, (blk_cell BKg8.out 1).trans rfl, (blk_cell BKg8.out 2).trans rfl, (blk_cell BKg8.out 3).trans rfl, (blk_cell BKg8.out 4).trans rfl, (blk_cell BKg8.out 5).trans rfl⟩ (fun hHeld => ?_)
  generalize W3.drew = W4 at BKg8 HB hHeld ⊢
  have wq : wrap64 5 = 5 := by unfold wrap64; omega
  refine pure_ (i := 0) (N := some 28) (v := ?_) (a' := ?_) #[true, false, false, false, false, false, false, false, false, false, false, false, false] rfl rfl (by kernel_rfl) (fun _ _ _ h => h) (Or.inl ⟨by rfl, ?_⟩) ?_ ?_
  rotate_left
  · intro w'
    go_simp
    with_reducible rfl
  rotate_left
  · simp only [Act.put, List.setIfInBounds_toArray, List.set_cons_zero, List.set_cons_succ, i64_w, i32_w]
    rfl
  refine pure_ (i := 1) (N := some 29) (v := ?_) (a' := ?_) #[true, true, false, false, false, false, false, false, false, false, false, false, false] rfl rfl (by kernel_rfl) (fun _ _ _ h => h) (Or.inl ⟨by rfl, ?_⟩) ?_ ?_
  rotate_left
  · intro w'
    go_simp
    with_reducible rfl
  rotate_left
  · simp only [Act.put, List.setIfInBounds_toArray, List.set_cons_zero, List.set_cons_succ, i64_w, i32_w]
    rfl
  refine pure_ (i := 4) (N := some 32) (v := ?_) (a' := ?_) #[true, true, false, false, true, false, false, false, false, false, false, false, false] rfl rfl (by kernel_rfl) (fun _ _ _ h => h) (Or.inl ⟨by rfl, ?_⟩) ?_ ?_
  rotate_left
  · intro w'
    go_simp
    with_reducible rfl
  rotate_left
  · simp only [Act.put, List.setIfInBounds_toArray, List.set_cons_zero, List.set_cons_succ, i64_w, i32_w]
    rfl
  refine pure_ (i := 5) (N := some 33) (v := ?_) (a' := ?_) #[true, true, false, false, true, true, false, false, false, false, false, false, false] rfl rfl (by kernel_rfl) (fun _ _ _ h => h) (Or.inl ⟨by rfl, ?_⟩) ?_ ?_
  rotate_left
  · intro w'
    go_simp
    with_reducible rfl
  rotate_left
  · simp only [Act.put, List.setIfInBounds_toArray, List.set_cons_zero, List.set_cons_succ, i64_w, i32_w]
    rfl
  refine pure_ (i := 6) (N := some 34) (v := ?_) (a' := ?_) #[true, true, false, false, true, true, true, false, false, false, false, false, false] rfl rfl (by kernel_rfl) (fun _ _ _ h => h) (Or.inl ⟨by rfl, ?_⟩) ?_ ?_
  rotate_left
  · intro w'
    go_simp
    with_reducible rfl
  rotate_left
  · simp only [Act.put, List.setIfInBounds_toArray, List.set_cons_zero, List.set_cons_succ, i64_w, i32_w]
    rfl
  refine take_ (i := 7) (N := some 35) (v := ?_) (a' := ?_) #[true, true, false, false, true, true, true, true, false, false, false, false, false] rfl rfl (by kernel_rfl) (fun _ _ _ h => h) (Or.inl ⟨by rfl, ?_⟩) hHeld ?_ ?_
  rotate_left
  · rintro w' ⟨s0, s1, s2, s3, s4, s5⟩
    go_simp
    with_reducible rfl
  rotate_left
  · simp only [Act.put, List.setIfInBounds_toArray, List.set_cons_zero, List.set_cons_succ, i64_w, i32_w]
    rfl
  refine pure_ (i := 8) (N := some 36) (v := ?_) (a' := ?_) #[true, true, false, false, true, true, true, true, true, false, false, false, false] rfl rfl (by kernel_rfl) (fun _ _ _ h => h) (Or.inl ⟨by rfl, ?_⟩) ?_ ?_
  rotate_left
  · intro w'
    go_simp
    with_reducible rfl
  rotate_left
  · simp only [Act.put, List.setIfInBounds_toArray, List.set_cons_zero, List.set_cons_succ, i64_w, i32_w]
    rfl
  refine pure_ (i := 9) (N := some 37) (v := ?_) (a' := ?_) #[true, true, false, false, true, true, true, true, true, true, false, false, false] rfl rfl (by kernel_rfl) (fun _ _ _ h => h) (Or.inl ⟨by rfl, ?_⟩) ?_ ?_
  rotate_left
  · intro w'
    go_simp
    with_reducible rfl
  rotate_left
  · simp only [Act.put, List.setIfInBounds_toArray, List.set_cons_zero, List.set_cons_succ, i64_w, i32_w]
    rfl
  refine take_ (i := 10) (N := some 38) (v := ?_) (a' := ?_) #[true, true, false, false, true, true, true, true, true, true, true, false, false] rfl rfl (by kernel_rfl) (fun _ _ _ h => h) (Or.inl ⟨by rfl, ?_⟩) hHeld ?_ ?_
  rotate_left
  · rintro w' ⟨s0, s1, s2, s3, s4, s5⟩
    go_simp
    with_reducible rfl
  rotate_left
  · simp only [Act.put, List.setIfInBounds_toArray, List.set_cons_zero, List.set_cons_succ, i64_w, i32_w]
    rfl
  refine pure_ (i := 11) (N := some 39) (v := ?_) (a' := ?_) #[true, true, false, false, true, true, true, true, true, true, true, true, false] rfl rfl (by kernel_rfl) (fun _ _ _ h => h) (Or.inl ⟨by rfl, ?_⟩) ?_ ?_
  rotate_left
  · intro w'
    go_simp
    with_reducible rfl
  rotate_left
  · simp only [Act.put, List.setIfInBounds_toArray, List.set_cons_zero, List.set_cons_succ, i64_w, i32_w]
    rfl
  refine one_ (i := 2) (N := some 30) #[true, true, true, false, true, true, true, true, true, true, true, true, false] rfl rfl (by kernel_rfl) (by decide) (fun K hK => ?_)
  refine goes_ Try.func34 (by kernel_rfl) rfl #[.int .i64 4] (by rfl) rfl rfl (by (try simp only [List.map_toArray, List.map_cons, List.map_nil]); first | done | rfl | (simp only [List.length_drop, List.length_take]; rfl)) ?_
  with_reducible refine (geom_least.calls 4 l _ HL.out).mono ?_
  rintro e w_ ⟨rfl, ⟨nd_, rfl⟩⟩
  refine ⟨_, rfl, ?_⟩
  have NBKg8_ := Aside0.mk (blk_drewN BKg8.out nd_)
  have NHB_ := Aside0.mk (pw_below_drewN HB.out nd_)
  clear BKg8 HB
  have BKg8 := NBKg8_
  have HB := NHB_
  clear NBKg8_ NHB_
  refine hK.out _ _ ⟨(blk_cell BKg8.out 0).trans rfl, (blk_cell BKg8.out 1).trans rfl, (blk_cell BKg8.out 2).trans rfl, (blk_cell BKg8.out 3).trans rfl, (blk_cell BKg8.out 4).trans rfl, (blk_cell BKg8.out 5).trans rfl⟩ (fun hHeld => ?_)
  clear hK K
  refine norm_ (a' := ?_) ?_ ?_
  rotate_left
  · show Act.put _ (some 30) _ = _
    simp only [Act.put, List.setIfInBounds_toArray, List.set_cons_zero, List.set_cons_succ, i64_w, i32_w]
    rfl
  generalize W4.drewN nd_ = W5 at BKg8 HB hHeld ⊢
  refine pure_ (i := 3) (N := some 31) (v := ?_) (a' := ?_) #[true, true, true, true, true, true, true, true, true, true, true, true, false] rfl rfl (by kernel_rfl) (fun _ _ _ h => h) (Or.inl ⟨by rfl, ?_⟩) ?_ ?_
  rotate_left
  · intro w'
    go_simp
    with_reducible rfl
  rotate_left
  · simp only [Act.put, List.setIfInBounds_toArray, List.set_cons_zero, List.set_cons_succ, i64_w, i32_w]
    rfl
  refine pure_ (i := 12) (N := some 40) (v := ?_) (a' := ?_) #[true, true, true, true, true, true, true, true, true, true, true, true, true] rfl rfl (by kernel_rfl) (fun _ _ _ h => h) (Or.inl ⟨by rfl, ?_⟩) ?_ ?_
  rotate_left
  · intro w'
    go_simp
    with_reducible rfl
  rotate_left
  · simp only [Act.put, List.setIfInBounds_toArray, List.set_cons_zero, List.set_cons_succ, i64_w, i32_w]
    rfl
  refine done_ (by kernel_rfl) ?_
  obtain ⟨cg8_0, cg8_1, cg8_2, cg8_3, cg8_4, cg8_5⟩ := Wk.cells6 BKg8.out
  have fg8_0 := blk_frozen BKg8.out 0
  have fg8_1 := blk_frozen BKg8.out 1
  have fg8_2 := blk_frozen BKg8.out 2
  have fg8_3 := blk_frozen BKg8.out 3
  have fg8_4 := blk_frozen BKg8.out 4
  have fg8_5 := blk_frozen BKg8.out 5
  go_wp2_with fail
  clear cg8_0 fg8_0 cg8_1 fg8_1 cg8_2 fg8_2 cg8_3 fg8_3 cg8_4 fg8_4 cg8_5 fg8_5
  have NBKg8_ := Aside0.mk (blk_drew BKg8.out)
  have NHB_ := Aside0.mk (below_drew1 HB.out)
  clear BKg8 HB
  have BKg8 := NBKg8_
  have HB := NHB_
  clear NBKg8_ NHB_
  refine start_ (n := 10) (S := fun w' => w'.cell? ⟨g8, 0, none⟩ = some (.int .i64 0) ∧ w'.cell? ⟨g8, 1, none⟩ = some (.int .i64 0) ∧ w'.cell? ⟨g8, 2, none⟩ = some (.int .i64 8) ∧ w'.cell? ⟨g8, 3, none⟩ = some (.int .i64 (wrap64 (8 + wrap64 (2 * hf)))) ∧ w'.cell? ⟨g8, 4, none⟩ = some (.int .i64 (wrap64 (wrap64 (8 + wrap64 (2 * hf)) + nd))) ∧ w'.cell? ⟨g8, 5, none⟩ = some (.int .i64 (wrap64 (wrap64 (wrap64 (8 + wrap64 (2 * hf)) + nd) + R)))) (ds := []) #[false, false, false, false, false, false, false, false, false, false] (by kernel_rfl) rfl rfl ⟨(blk_cell BKg8.out 0).trans rfl, (blk_cell BKg8.out 1).trans rfl, (blk_cell BKg8.out 2).trans rfl, (blk_cell BKg8.out 3).trans rfl, (blk_cell BKg8.out 4).trans rfl, (blk_cell BKg8.out 5).trans rfl⟩ (fun hHeld => ?_)
  generalize W5.drew = W6 at BKg8 HB hHeld ⊢
  refine pure_ (i := 0) (N := some 41) (v := ?_) (a' := ?_) #[true, false, false, false, false, false, false, false, false, false] rfl rfl (by kernel_rfl) (fun _ _ _ h => h) (Or.inl ⟨by rfl, ?_⟩) ?_ ?_
  rotate_left
  · intro w'
    go_simp
    with_reducible rfl
  rotate_left
  · simp only [Act.put, List.setIfInBounds_toArray, List.set_cons_zero, List.set_cons_succ, i64_w, i32_w]
    rfl
  refine pure_ (i := 1) (N := some 42) (v := ?_) (a' := ?_) #[true, true, false, false, false, false, false, false, false, false] rfl rfl (by kernel_rfl) (fun _ _ _ h => h) (Or.inl ⟨by rfl, ?_⟩) ?_ ?_
  rotate_left
  · intro w'
    go_simp
    with_reducible rfl
  rotate_left
  · simp only [Act.put, List.setIfInBounds_toArray, List.set_cons_zero, List.set_cons_succ, i64_w, i32_w]
    rfl
  refine take_ (i := 2) (N := some 43) (v := ?_) (a' := ?_) #[true, true, true, false, false, false, false, false, false, false] rfl rfl (by kernel_rfl) (fun _ _ _ h => h) (Or.inl ⟨by rfl, ?_⟩) hHeld ?_ ?_
  rotate_left
  · rintro w' ⟨s0, s1, s2, s3, s4, s5⟩
    go_simp
    with_reducible rfl
  rotate_left
  · simp only [Act.put, List.setIfInBounds_toArray, List.set_cons_zero, List.set_cons_succ, i64_w, i32_w]
    rfl
  refine pure_ (i := 3) (N := some 44) (v := ?_) (a' := ?_) #[true, true, true, true, false, false, false, false, false, false] rfl rfl (by kernel_rfl) (fun _ _ _ h => h) (Or.inl ⟨by rfl, ?_⟩) ?_ ?_
  rotate_left
  · intro w'
    go_simp
    with_reducible rfl
  rotate_left
  · simp only [Act.put, List.setIfInBounds_toArray, List.set_cons_zero, List.set_cons_succ, i64_w, i32_w]
    rfl
  refine pure_ (i := 4) (N := some 45) (v := ?_) (a' := ?_) #[true, true, true, true, true, false, false, false, false, false] rfl rfl (by kernel_rfl) (fun _ _ _ h => h) (Or.inl ⟨by rfl, ?_⟩) ?_ ?_
  rotate_left
  · intro w'
    go_simp
    with_reducible rfl
  rotate_left
  · simp only [Act.put, List.setIfInBounds_toArray, List.set_cons_zero, List.set_cons_succ, i64_w, i32_w]
    rfl
  refine pure_ (i := 5) (N := some 46) (v := ?_) (a' := ?_) #[true, true, true, true, true, true, false, false, false, false] rfl rfl (by kernel_rfl) (fun _ _ _ h => h) (Or.inl ⟨by rfl, ?_⟩) ?_ ?_
  rotate_left
  · intro w'
    go_simp
    with_reducible rfl
  rotate_left
  · simp only [Act.put, List.setIfInBounds_toArray, List.set_cons_zero, List.set_cons_succ, i64_w, i32_w]
    rfl
  refine one_ (i := 6) (N := some 47) #[true, true, true, true, true, true, true, false, false, false] rfl rfl (by kernel_rfl) (by decide) (fun K hK => ?_)
  refine goes_ Try.func34 (by kernel_rfl) rfl #[.int .i64 4] (by rfl) rfl rfl (by (try simp only [List.map_toArray, List.map_cons, List.map_nil]); first | done | rfl | (simp only [List.length_drop, List.length_take]; rfl)) ?_
  with_reducible refine (geom_least.calls 4 l _ HL.out).mono ?_
  rintro e w_ ⟨rfl, ⟨nd_, rfl⟩⟩
  refine ⟨_, rfl, ?_⟩
  have NBKg8_ := Aside0.mk (blk_drewN BKg8.out nd_)
  have NHB_ := Aside0.mk (pw_below_drewN HB.out nd_)
  clear BKg8 HB
  have BKg8 := NBKg8_
  have HB := NHB_
  clear NBKg8_ NHB_
  refine hK.out _ _ ⟨(blk_cell BKg8.out 0).trans rfl, (blk_cell BKg8.out 1).trans rfl, (blk_cell BKg8.out 2).trans rfl, (blk_cell BKg8.out 3).trans rfl, (blk_cell BKg8.out 4).trans rfl, (blk_cell BKg8.out 5).trans rfl⟩ (fun hHeld => ?_)
  clear hK K
  refine norm_ (a' := ?_) ?_ ?_
  rotate_left
  · show Act.put _ (some 47) _ = _
    simp only [Act.put, List.setIfInBounds_toArray, List.set_cons_zero, List.set_cons_succ, i64_w, i32_w]
    rfl
  generalize W6.drewN nd_ = W7 at BKg8 HB hHeld ⊢
  refine pure_ (i := 7) (N := some 48) (v := ?_) (a' := ?_) #[true, true, true, true, true, true, true, true, false, false] rfl rfl (by kernel_rfl) (fun _ _ _ h => h) (Or.inl ⟨by rfl, ?_⟩) ?_ ?_
  rotate_left
  · intro w'
    go_simp
    with_reducible rfl
  rotate_left
  · simp only [Act.put, List.setIfInBounds_toArray, List.set_cons_zero, List.set_cons_succ, i64_w, i32_w]
    rfl
  refine pure_ (i := 8) (N := some 6) (v := ?_) (a' := ?_) #[true, true, true, true, true, true, true, true, true, false] rfl rfl (by kernel_rfl) (fun _ _ _ h => h) (Or.inl ⟨by rfl, ?_⟩) ?_ ?_
  rotate_left
  · intro w'
    go_simp
    with_reducible rfl
  rotate_left
  · simp only [Act.put, List.setIfInBounds_toArray, List.set_cons_zero, List.set_cons_succ, i64_w, i32_w]
    rfl
  refine pure_ (i := 9) (N := some 7) (v := ?_) (a' := ?_) #[true, true, true, true, true, true, true, true, true, true] rfl rfl (by kernel_rfl) (fun _ _ _ h => h) (Or.inl ⟨by rfl, ?_⟩) ?_ ?_
  rotate_left
  · intro w'
    go_simp
    with_reducible rfl
  rotate_left
  · simp only [Act.put, List.setIfInBounds_toArray, List.set_cons_zero, List.set_cons_succ, i64_w, i32_w]
    rfl
  refine done_ (by kernel_rfl) ?_
  go_wp2
  go_ret2
  exact ⟨by first | rfl | (simp; done) | (simp [*]; done), HB.out⟩
theorem geom_Place.calls (k : Nat) (M R rg ix r1 r2 : Int) (w : World) (h : geom_Place.f k M R rg ix = some (r1, r2)) :
    Calls Try.prog 26 #[.agg #[.int .i64 M, .int .i64 R], .int .i64 rg, .int .i64 ix] w fun e w' => e = .returned (.tuple #[.int .i64 r1, .int .i64 r2]) ∧ Below w.heap.size w w' := by
  unfold geom_Place.f at h
  obtain ⟨b, hb1, h⟩ := Option.bind_eq_some_iff.mp h
  cases b with
  | false =>
    rw [if_neg (by decide)] at h
    simp only [Option.some.injEq, Prod.mk.injEq] at h
    obtain ⟨rfl, rfl⟩ := h
    exact geom_Place.no1 M R rg ix w ⟨hb1⟩
  | true =>
    rw [if_pos rfl] at h
    by_cases c1 : rg < 1
    · rw [if_pos c1] at h
      simp only [Option.some.injEq, Prod.mk.injEq] at h
      obtain ⟨rfl, rfl⟩ := h
      exact geom_Place.no2 M R rg ix w ⟨hb1⟩ (decide_eq_true c1)
    rw [if_neg c1] at h
    by_cases c2 : rg > 4
    · rw [if_pos c2] at h
      simp only [Option.some.injEq, Prod.mk.injEq] at h
      obtain ⟨rfl, rfl⟩ := h
      exact geom_Place.no3 M R rg ix w ⟨hb1⟩ (decide_eq_false c1) (decide_eq_true c2)
    rw [if_neg c2] at h
    obtain ⟨l, hl, h⟩ := Option.bind_eq_some_iff.mp h
    by_cases c3 : ix < l
    · rw [if_pos c3] at h
      simp only [Option.some.injEq, Prod.mk.injEq] at h
      obtain ⟨rfl, rfl⟩ := h
      exact geom_Place.no4 M R rg ix l w ⟨hb1⟩ ⟨hl⟩ (decide_eq_false c1) (decide_eq_false c2) (decide_eq_true c3)
    rw [if_neg c3] at h
    obtain ⟨hf, h2, h⟩ := Option.bind_eq_some_iff.mp h
    obtain ⟨nd, h3, h⟩ := Option.bind_eq_some_iff.mp h
    have hrg : rg = 1 ∨ rg = 2 ∨ rg = 3 ∨ rg = 4 := by omega
    rcases hrg with rfl | rfl | rfl | rfl
    · rw [show wrap64 (1 + 1) = 2 by unfold wrap64; omega, show rd ([0, 0, 8, (wrap64 (8 + wrap64 (2 * hf))), (wrap64 (wrap64 (8 + wrap64 (2 * hf)) + nd)), (wrap64 (wrap64 (wrap64 (8 + wrap64 (2 * hf)) + nd) + R))] : List Int) 2 = 8 from rfl, show rd ([0, 0, 8, (wrap64 (8 + wrap64 (2 * hf))), (wrap64 (wrap64 (8 + wrap64 (2 * hf)) + nd)), (wrap64 (wrap64 (wrap64 (8 + wrap64 (2 * hf)) + nd) + R))] : List Int) 1 = 0 from rfl] at h
      by_cases c4 : wrap64 (ix - l) ≥ wrap64 (8 - 0)
      · rw [if_pos c4] at h
        simp only [Option.some.injEq, Prod.mk.injEq] at h
        obtain ⟨rfl, rfl⟩ := h
        exact geom_Place.out1 k M R ix l hf nd w ⟨hb1⟩ ⟨hl⟩ ⟨h2⟩ ⟨h3⟩ (decide_eq_false c3) (decide_eq_true c4)
      · rw [if_neg c4, Int.zero_add] at h
        simp only [Option.some.injEq, Prod.mk.injEq] at h
        obtain ⟨rfl, rfl⟩ := h
        exact geom_Place.in_1 k M R ix l hf nd w ⟨hb1⟩ ⟨hl⟩ ⟨h2⟩ ⟨h3⟩ (decide_eq_false c3) (decide_eq_false c4)
    · rw [show wrap64 (2 + 1) = 3 by unfold wrap64; omega, show rd ([0, 0, 8, (wrap64 (8 + wrap64 (2 * hf))), (wrap64 (wrap64 (8 + wrap64 (2 * hf)) + nd)), (wrap64 (wrap64 (wrap64 (8 + wrap64 (2 * hf)) + nd) + R))] : List Int) 3 = (wrap64 (8 + wrap64 (2 * hf))) from rfl, show rd ([0, 0, 8, (wrap64 (8 + wrap64 (2 * hf))), (wrap64 (wrap64 (8 + wrap64 (2 * hf)) + nd)), (wrap64 (wrap64 (wrap64 (8 + wrap64 (2 * hf)) + nd) + R))] : List Int) 2 = 8 from rfl] at h
      by_cases c4 : wrap64 (ix - l) ≥ wrap64 ((wrap64 (8 + wrap64 (2 * hf))) - 8)
      · rw [if_pos c4] at h
        simp only [Option.some.injEq, Prod.mk.injEq] at h
        obtain ⟨rfl, rfl⟩ := h
        exact geom_Place.out2 k M R ix l hf nd w ⟨hb1⟩ ⟨hl⟩ ⟨h2⟩ ⟨h3⟩ (decide_eq_false c3) (decide_eq_true c4)
      · rw [if_neg c4] at h
        simp only [Option.some.injEq, Prod.mk.injEq] at h
        obtain ⟨rfl, rfl⟩ := h
        exact geom_Place.in_2 k M R ix l hf nd w ⟨hb1⟩ ⟨hl⟩ ⟨h2⟩ ⟨h3⟩ (decide_eq_false c3) (decide_eq_false c4)
    · rw [show wrap64 (3 + 1) = 4 by unfold wrap64; omega, show rd ([0, 0, 8, (wrap64 (8 + wrap64 (2 * hf))), (wrap64 (wrap64 (8 + wrap64 (2 * hf)) + nd)), (wrap64 (wrap64 (wrap64 (8 + wrap64 (2 * hf)) + nd) + R))] : List Int) 4 = (wrap64 (wrap64 (8 + wrap64 (2 * hf)) + nd)) from rfl, show rd ([0, 0, 8, (wrap64 (8 + wrap64 (2 * hf))), (wrap64 (wrap64 (8 + wrap64 (2 * hf)) + nd)), (wrap64 (wrap64 (wrap64 (8 + wrap64 (2 * hf)) + nd) + R))] : List Int) 3 = (wrap64 (8 + wrap64 (2 * hf))) from rfl] at h
      by_cases c4 : wrap64 (ix - l) ≥ wrap64 ((wrap64 (wrap64 (8 + wrap64 (2 * hf)) + nd)) - (wrap64 (8 + wrap64 (2 * hf))))
      · rw [if_pos c4] at h
        simp only [Option.some.injEq, Prod.mk.injEq] at h
        obtain ⟨rfl, rfl⟩ := h
        exact geom_Place.out3 k M R ix l hf nd w ⟨hb1⟩ ⟨hl⟩ ⟨h2⟩ ⟨h3⟩ (decide_eq_false c3) (decide_eq_true c4)
      · rw [if_neg c4] at h
        simp only [Option.some.injEq, Prod.mk.injEq] at h
        obtain ⟨rfl, rfl⟩ := h
        exact geom_Place.in_3 k M R ix l hf nd w ⟨hb1⟩ ⟨hl⟩ ⟨h2⟩ ⟨h3⟩ (decide_eq_false c3) (decide_eq_false c4)
    · rw [show wrap64 (4 + 1) = 5 by unfold wrap64; omega, show rd ([0, 0, 8, (wrap64 (8 + wrap64 (2 * hf))), (wrap64 (wrap64 (8 + wrap64 (2 * hf)) + nd)), (wrap64 (wrap64 (wrap64 (8 + wrap64 (2 * hf)) + nd) + R))] : List Int) 5 = (wrap64 (wrap64 (wrap64 (8 + wrap64 (2 * hf)) + nd) + R)) from rfl, show rd ([0, 0, 8, (wrap64 (8 + wrap64 (2 * hf))), (wrap64 (wrap64 (8 + wrap64 (2 * hf)) + nd)), (wrap64 (wrap64 (wrap64 (8 + wrap64 (2 * hf)) + nd) + R))] : List Int) 4 = (wrap64 (wrap64 (8 + wrap64 (2 * hf)) + nd)) from rfl] at h
      by_cases c4 : wrap64 (ix - l) ≥ wrap64 ((wrap64 (wrap64 (wrap64 (8 + wrap64 (2 * hf)) + nd) + R)) - (wrap64 (wrap64 (8 + wrap64 (2 * hf)) + nd)))
      · rw [if_pos c4] at h
        simp only [Option.some.injEq, Prod.mk.injEq] at h
        obtain ⟨rfl, rfl⟩ := h
        exact geom_Place.out4 k M R ix l hf nd w ⟨hb1⟩ ⟨hl⟩ ⟨h2⟩ ⟨h3⟩ (decide_eq_false c3) (decide_eq_true c4)
      · rw [if_neg c4] at h
        simp only [Option.some.injEq, Prod.mk.injEq] at h
        obtain ⟨rfl, rfl⟩ := h
        exact geom_Place.in_4 k M R ix l hf nd w ⟨hb1⟩ ⟨hl⟩ ⟨h2⟩ ⟨h3⟩ (decide_eq_false c3) (decide_eq_false c4)
end Go.Proofs.Ythmdpcdcbfndiaa.PGeomGrows
