-- MADE BY THIS SESSION (fakeprint): not the kit's print
import Derived.Test.YthmdpcdcbfndiaaWk
import Derived.Test.YthmdpcdcbfndiaaPGeomBackx0
import Derived.Test.YthmdpcdcbfndiaaPGeomBackx1
namespace Go.Proofs.Ythmdpcdcbfndiaa.PGeomBack
open Go.RowKit Go.Proofs.YthmdpcdcbfndiaaW.PrintWords Go.Proofs.YthmdpcdcbfndiaaW.PrintLast Go.Proofs.YthmdpcdcbfndiaaW.PrintMore
attribute [local go_sem] max2_int min2_int max_two min_two max_three min_three max_four min_four   -- for this text's walks alone
set_option linter.unusedVariables false
set_option linter.unusedSimpArgs false

/-! ### geom_What: by hand: function 28 -/
set_option maxHeartbeats 4000000 in
set_option maxRecDepth 100000 in
theorem what1.calls (x pl : Int) (g : Nat) (w : World) (hc : w.cell? ⟨g, 0, none⟩ = some (.int .i64 pl)) :
    Calls Try.prog 37 #[.int .i64 x, .pointer (some ⟨g, 0, none⟩)] w fun e w' => e = .returned (.bool (decide (pl < x))) ∧ w = w' := by
  go_enter Try.func37, Try.ntmps37
  go_wp2
  go_ret
  exact ⟨rfl, rfl⟩
set_option maxHeartbeats 4000000 in
set_option maxRecDepth 100000 in
theorem indexfunc.calls (xs : List Int) (pl : Int) (g g7 n : Nat) (w : World) (hc : w.cell? ⟨g, 0, none⟩ = some (.int .i64 pl)) (hx : ∀ j, j < 6 → w.cell? ⟨g7, j, none⟩ = some (.int .i64 (xs.getD j 0)))
    (hn : n < 6) (h1 : pl < xs.getD n 0) (h2 : ∀ j, j < n → xs.getD j 0 ≤ pl) :
    Calls Try.prog 36 #[.slice (some ⟨g7, 0, none⟩) 6 6, .func (.func 37) #[] #[.pointer (some ⟨g, 0, none⟩)]] w fun e w' => e = .returned (.int .i64 n) ∧ w = w' := by
  have X := Aside0.mk hx
  have H1 := Aside0.mk h1
  have H2 := Aside0.mk h2
  have HC := Aside0.mk hc
  clear hx h1 h2 hc
  go_enter Try.func36, Try.ntmps36
  go_wp2
  go_loop [8] (fun t => ∃ k : Nat, k ≤ n ∧ t = .int .i64 k) (fun t => 6 - (intOf t).toNat)
  case atStart => exact ⟨0, Nat.zero_le _, rfl⟩
  case round =>
    obtain ⟨k, hk, rfl⟩ := hrel
    have hck := X.out k (by omega)
    have hlt : decide ((k : Int) < 6) = true := by simp; omega
    by_cases hkn : k < n
    · have hle := H2.out k hkn
      have hd : decide (pl < xs.getD k 0) = false := by simpa using hle
      clear hle
      generalize xs.getD k 0 = x at hck hd
      go_wp2_with (go_at_call 37; (with_reducible refine (what1.calls x pl g _ HC.out).mono ?_); rintro e w' ⟨rfl, rfl⟩)
      go_round
      case rel => exact ⟨k + 1, by omega, by go_num⟩
      case measure => simp [intOf]; omega
    · obtain rfl : k = n := by omega
      have hd : decide (pl < xs.getD k 0) = true := by simpa using H1.out
      generalize xs.getD k 0 = x at hck hd
      go_wp2_with (go_at_call 37; (with_reducible refine (what1.calls x pl g _ HC.out).mono ?_); rintro e w' ⟨rfl, rfl⟩)
      go_ret
      exact ⟨rfl, rfl⟩
def geom_What.f (k : Nat) (M R pl : Int) : Option (Int × Int × Int) := (geom_is.f M R).bind fun b => (if b = true then (if pl < 0 then (some (0, 0, 2)) else ((geom_Sectors.f k M R).bind fun s => (if pl ≥ s then (some (0, 0, 2)) else ((geom_Half.f k M R).bind fun hf => ((geom_Nodes.f k M R).bind fun nd => (if pl < 8 then ((geom_least.f 1).bind fun l => (some (1, wrap64 (wrap64 pl + l), 0))) else (if pl < (wrap64 (8 + wrap64 (2 * hf))) then ((geom_least.f 2).bind fun l => (some (2, wrap64 (wrap64 (pl - 8) + l), 0))) else (if pl < (wrap64 (wrap64 (8 + wrap64 (2 * hf)) + nd)) then ((geom_least.f 3).bind fun l => (some (3, wrap64 (wrap64 (pl - (wrap64 (8 + wrap64 (2 * hf)))) + l), 0))) else (if pl < (wrap64 (wrap64 (wrap64 (8 + wrap64 (2 * hf)) + nd) + R)) then ((geom_least.f 4).bind fun l => (some (4, wrap64 (wrap64 (pl - (wrap64 (wrap64 (8 + wrap64 (2 * hf)) + nd))) + l), 0))) else (none)))))))))) else (some (0, 0, 2)))
theorem geom_What.mono : ∀ M R pl k, LeO (geom_What.f k M R pl) (geom_What.f (k + 1) M R pl) := by
  intro M R pl k
  unfold geom_What.f
  repeat' first
    | (with_reducible exact geom_Half.mono _ _ _)
    | (with_reducible exact geom_Nodes.mono _ _ _)
    | (with_reducible exact geom_Sectors.mono _ _ _)
    | (with_reducible exact LeO.refl _)
    | (with_reducible exact LeO.none _)
    | (with_reducible refine LeO.ite ?_ ?_)
    | (with_reducible refine LeO.bind ?_ (fun _ => ?_))
set_option maxHeartbeats 4000000 in
set_option maxRecDepth 100000 in
theorem geom_What.no1 (M R pl : Int) (w : World) (H1 : Aside0 (geom_is.f M R = some false)) :
    Calls Try.prog 28 #[.agg #[.int .i64 M, .int .i64 R], .int .i64 pl] w fun e w' => e = .returned (.tuple #[.int .i64 0, .int .i64 0, .int .i64 2]) ∧ Below w.heap.size w w' := by
  have HB := Aside0.mk (Below.refl w.heap.size w)
  go_enter Try.func28, Try.ntmps28
  go_wp2_with fail
  obtain ⟨q0_, q1_, nb_⟩ := Wk.blks2 w (.cells #[.int .i64 M, .int .i64 R] 23 (0, 0)) (.cells #[.int .i64 pl] 3 (0, 0))
  obtain ⟨W0, hW_⟩ : ∃ W, W = ((w.alloc (.cells #[.int .i64 M, .int .i64 R] 23 (0, 0))).alloc (.cells #[.int .i64 pl] 3 (0, 0))) := ⟨_, rfl⟩
  rw [← hW_]
  rw [← hW_] at q0_
  rw [← hW_] at q1_
  rw [← hW_] at nb_
  have sz_ := below_size HB.out
  have hb2_ := Aside0.mk (below_step HB.out nb_)
  obtain ⟨g2, hgg2_⟩ : ∃ g, g = w.heap.size := ⟨_, rfl⟩
  obtain ⟨g3, hgg3_⟩ : ∃ g, g = w.heap.size + 1 := ⟨_, rfl⟩
  rw [← hgg3_]
  rw [← hgg3_] at q1_
  rw [← hgg2_]
  rw [← hgg2_] at q0_
  have GEg2 := Aside0.mk (show w.heap.size ≤ g2 by omega)
  have GEg3 := Aside0.mk (show w.heap.size ≤ g3 by omega)
  have Dg2g3 : g2 ≠ g3 := by omega
  have Dg3g2 : g3 ≠ g2 := by omega
  have BKg2 := Aside0.mk q0_
  have BKg3 := Aside0.mk q1_
  clear HB
  have HB := hb2_
  clear hb2_ hW_ nb_ sz_ hgg2_ hgg3_ q0_ q1_
  have NBKg2_ := Aside0.mk (blk_drew BKg2.out)
  have NBKg3_ := Aside0.mk (blk_drew BKg3.out)
  have NHB_ := Aside0.mk (below_drew1 HB.out)
  clear BKg2 BKg3 HB
  have BKg2 := NBKg2_
  have BKg3 := NBKg3_
  have HB := NHB_
  clear NBKg2_ NBKg3_ NHB_
  refine start_ (n := 13) (S := fun w' => w'.cell? ⟨g2, 0, none⟩ = some (.int .i64 M) ∧ w'.cell? ⟨g2, 1, none⟩ = some (.int .i64 R) ∧ w'.cell? ⟨g3, 0, none⟩ = some (.int .i64 pl)) (ds := []) #[false, false, false, false, false, false, false, false, false, false, false, false, false] (by kernel_rfl) rfl rfl ⟨(blk_cell BKg2.out 0).trans rfl, (blk_cell BKg2.out 1).trans rfl, (blk_cell BKg3.out 0).trans rfl⟩ (fun hHeld => ?_)
  generalize W0.drew = W1 at BKg2 BKg3 HB hHeld ⊢
  refine take_ (i := 0) (N := some 9) (v := ?_) (a' := ?_) #[true, false, false, false, false, false, false, false, false, false, false, false, false] rfl rfl (by kernel_rfl) (fun _ _ _ h => h) (Or.inl ⟨by rfl, ?_⟩) hHeld ?_ ?_
  rotate_left
  · rintro w' ⟨s0, s1, s2⟩
    go_simp
    with_reducible rfl
  rotate_left
  · simp only [Act.put, List.setIfInBounds_toArray, List.set_cons_zero, List.set_cons_succ, i64_w, i32_w]
    rfl
  refine one_ (i := 1) (N := some 10) #[true, true, false, false, false, false, false, false, false, false, false, false, false] rfl rfl (by kernel_rfl) (by decide) (fun K hK => ?_)
  refine goes_ Try.func30 (by kernel_rfl) rfl #[.agg #[.int .i64 M, .int .i64 R]] (by rfl) rfl rfl (by (try simp only [List.map_toArray, List.map_cons, List.map_nil]); first | done | rfl | (simp only [List.length_drop, List.length_take]; rfl)) ?_
  with_reducible refine (geom_is.calls M R false _ H1.out).mono ?_
  rintro e W2 ⟨rfl, hb⟩
  refine ⟨_, rfl, ?_⟩
  have NBKg2_ := Aside0.mk (blk_below (o := .cells #[.int .i64 M, .int .i64 R] 23 (0, 0)) (by (with_reducible repeat (first | refine blk_drewN ?_ _ | refine blk_drew ?_ | refine blk_alloc ?_ _)); exact BKg2.out) hb)
  have NBKg3_ := Aside0.mk (blk_below (o := .cells #[.int .i64 pl] 3 (0, 0)) (by (with_reducible repeat (first | refine blk_drewN ?_ _ | refine blk_drew ?_ | refine blk_alloc ?_ _)); exact BKg3.out) hb)
  have NHB_ := Aside0.mk (below_step (by repeat (first | (with_reducible first | exact HB.out | apply below_alloc | apply pw_below_drewN | apply below_drew1) | exact HB.out)) hb)
  clear BKg2 BKg3 HB
  have BKg2 := NBKg2_
  have BKg3 := NBKg3_
  have HB := NHB_
  clear NBKg2_ NBKg3_ NHB_
  clear hb
  refine hK.out _ _ ⟨(blk_cell BKg2.out 0).trans rfl, (blk_cell BKg2.out 1).trans rfl, (blk_cell BKg3.out 0).trans rfl⟩ (fun hHeld => ?_)
  clear hK K
  refine norm_ (a' := ?_) ?_ ?_
  rotate_left
  · show Act.put _ (some 10) _ = _
    simp only [Act.put, List.setIfInBounds_toArray, List.set_cons_zero, List.set_cons_succ, i64_w, i32_w]
    rfl
  refine pure_ (i := 2) (N := some 11) (v := ?_) (a' := ?_) #[true, true, true, false, false, false, false, false, false, false, false, false, false] rfl rfl (by kernel_rfl) (fun _ _ _ h => h) (Or.inl ⟨by rfl, ?_⟩) ?_ ?_
  rotate_left
  · intro w'
    go_simp
    with_reducible rfl
  rotate_left
  · simp only [Act.put, List.setIfInBounds_toArray, List.set_cons_zero, List.set_cons_succ, i64_w, i32_w]
    rfl
  refine pure_ (i := 3) (N := some 12) (v := ?_) (a' := ?_) #[true, true, true, true, false, false, false, false, false, false, false, false, false] rfl rfl (by kernel_rfl) (fun _ _ _ h => h) (Or.inl ⟨by rfl, ?_⟩) ?_ ?_
  rotate_left
  · intro w'
    go_simp
    with_reducible rfl
  rotate_left
  · simp only [Act.put, List.setIfInBounds_toArray, List.set_cons_zero, List.set_cons_succ, i64_w, i32_w]
    rfl
  refine pure_ (i := 4) (N := some 13) (v := undef) (a' := ?_) #[true, true, true, true, true, false, false, false, false, false, false, false, false] rfl rfl (by kernel_rfl) (fun _ _ _ h => h) (Or.inr ⟨by rfl, rfl⟩) ?_ ?_
  rotate_left
  · simp only [Act.put, List.setIfInBounds_toArray, List.set_cons_zero, List.set_cons_succ, i64_w, i32_w]
    rfl
  refine pure_ (i := 5) (N := some 14) (v := undef) (a' := ?_) #[true, true, true, true, true, true, false, false, false, false, false, false, false] rfl rfl (by kernel_rfl) (fun _ _ _ h => h) (Or.inr ⟨by rfl, rfl⟩) ?_ ?_
  rotate_left
  · simp only [Act.put, List.setIfInBounds_toArray, List.set_cons_zero, List.set_cons_succ, i64_w, i32_w]
    rfl
  refine pure_ (i := 6) (N := some 15) (v := ?_) (a' := ?_) #[true, true, true, true, true, true, true, false, false, false, false, false, false] rfl rfl (by kernel_rfl) (fun _ _ _ h => h) (Or.inl ⟨by rfl, ?_⟩) ?_ ?_
  rotate_left
  · intro w'
    go_simp
    with_reducible rfl
  rotate_left
  · simp only [Act.put, List.setIfInBounds_toArray, List.set_cons_zero, List.set_cons_succ, i64_w, i32_w]
    rfl
  refine pure_ (i := 7) (N := some 16) (v := ?_) (a' := ?_) #[true, true, true, true, true, true, true, true, false, false, false, false, false] rfl rfl (by kernel_rfl) (fun _ _ _ h => h) (Or.inl ⟨by rfl, ?_⟩) ?_ ?_
  rotate_left
  · intro w'
    go_simp
    with_reducible rfl
  rotate_left
  · simp only [Act.put, List.setIfInBounds_toArray, List.set_cons_zero, List.set_cons_succ, i64_w, i32_w]
    rfl
  refine pure_ (i := 8) (N := some 17) (v := undef) (a' := ?_) #[true, true, true, true, true, true, true, true, true, false, false, false, false] rfl rfl (by kernel_rfl) (fun _ _ _ h => h) (Or.inr ⟨by rfl, rfl⟩) ?_ ?_
  rotate_left
  · simp only [Act.put, List.setIfInBounds_toArray, List.set_cons_zero, List.set_cons_succ, i64_w, i32_w]
    rfl
  refine pure_ (i := 9) (N := some 18) (v := undef) (a' := ?_) #[true, true, true, true, true, true, true, true, true, true, false, false, false] rfl rfl (by kernel_rfl) (fun _ _ _ h => h) (Or.inr ⟨by rfl, rfl⟩) ?_ ?_
  rotate_left
  · simp only [Act.put, List.setIfInBounds_toArray, List.set_cons_zero, List.set_cons_succ, i64_w, i32_w]
    rfl
  refine one_ (i := 10) (N := some 19) #[true, true, true, true, true, true, true, true, true, true, true, false, false] rfl rfl (by kernel_rfl) (by decide) (fun K hK => ?_)
  refine off_ (by rfl) ?_
  refine hK.out _ _ ⟨(blk_cell BKg2.out 0).trans rfl, (blk_cell BKg2.out 1).trans rfl, (blk_cell BKg3.out 0).trans rfl⟩ (fun hHeld => ?_)
  clear hK K
  refine norm_ (a' := ?_) ?_ ?_
  rotate_left
  · show Act.put _ (some 19) _ = _
    simp only [Act.put, List.setIfInBounds_toArray, List.set_cons_zero, List.set_cons_succ, i64_w, i32_w]
    rfl
  refine pure_ (i := 11) (N := some 20) (v := undef) (a' := ?_) #[true, true, true, true, true, true, true, true, true, true, true, true, false] rfl rfl (by kernel_rfl) (fun _ _ _ h => h) (Or.inr ⟨by rfl, rfl⟩) ?_ ?_
  rotate_left
  · simp only [Act.put, List.setIfInBounds_toArray, List.set_cons_zero, List.set_cons_succ, i64_w, i32_w]
    rfl
  refine pure_ (i := 12) (N := some 21) (v := ?_) (a' := ?_) #[true, true, true, true, true, true, true, true, true, true, true, true, true] rfl rfl (by kernel_rfl) (fun _ _ _ h => h) (Or.inl ⟨by rfl, ?_⟩) ?_ ?_
  rotate_left
  · intro w'
    go_simp
    with_reducible rfl
  rotate_left
  · simp only [Act.put, List.setIfInBounds_toArray, List.set_cons_zero, List.set_cons_succ, i64_w, i32_w]
    rfl
  refine done_ (by kernel_rfl) ?_
  go_wp2
  go_ret3
  exact ⟨by first | rfl | (simp; done) | (simp [*]; done), HB.out⟩
set_option maxHeartbeats 4000000 in
set_option maxRecDepth 100000 in
theorem geom_What.no2 (M R pl : Int) (w : World) (H1 : Aside0 (geom_is.f M R = some true)) (c : decide (pl < 0) = true) :
    Calls Try.prog 28 #[.agg #[.int .i64 M, .int .i64 R], .int .i64 pl] w fun e w' => e = .returned (.tuple #[.int .i64 0, .int .i64 0, .int .i64 2]) ∧ Below w.heap.size w w' := by
  have HB := Aside0.mk (Below.refl w.heap.size w)
  go_enter Try.func28, Try.ntmps28
  go_wp2_with fail
  obtain ⟨q0_, q1_, nb_⟩ := Wk.blks2 w (.cells #[.int .i64 M, .int .i64 R] 23 (0, 0)) (.cells #[.int .i64 pl] 3 (0, 0))
  obtain ⟨W0, hW_⟩ : ∃ W, W = ((w.alloc (.cells #[.int .i64 M, .int .i64 R] 23 (0, 0))).alloc (.cells #[.int .i64 pl] 3 (0, 0))) := ⟨_, rfl⟩
  rw [← hW_]
  rw [← hW_] at q0_
  rw [← hW_] at q1_
  rw [← hW_] at nb_
  have sz_ := below_size HB.out
  have hb2_ := Aside0.mk (below_step HB.out nb_)
  obtain ⟨g2, hgg2_⟩ : ∃ g, g = w.heap.size := ⟨_, rfl⟩
  obtain ⟨g3, hgg3_⟩ : ∃ g, g = w.heap.size + 1 := ⟨_, rfl⟩
  rw [← hgg3_]
  rw [← hgg3_] at q1_
  rw [← hgg2_]
  rw [← hgg2_] at q0_
  have GEg2 := Aside0.mk (show w.heap.size ≤ g2 by omega)
  have GEg3 := Aside0.mk (show w.heap.size ≤ g3 by omega)
  have Dg2g3 : g2 ≠ g3 := by omega
  have Dg3g2 : g3 ≠ g2 := by omega
  have BKg2 := Aside0.mk q0_
  have BKg3 := Aside0.mk q1_
  clear HB
  have HB := hb2_
  clear hb2_ hW_ nb_ sz_ hgg2_ hgg3_ q0_ q1_
  have NBKg2_ := Aside0.mk (blk_drew BKg2.out)
  have NBKg3_ := Aside0.mk (blk_drew BKg3.out)
  have NHB_ := Aside0.mk (below_drew1 HB.out)
  clear BKg2 BKg3 HB
  have BKg2 := NBKg2_
  have BKg3 := NBKg3_
  have HB := NHB_
  clear NBKg2_ NBKg3_ NHB_
  refine start_ (n := 13) (S := fun w' => w'.cell? ⟨g2, 0, none⟩ = some (.int .i64 M) ∧ w'.cell? ⟨g2, 1, none⟩ = some (.int .i64 R) ∧ w'.cell? ⟨g3, 0, none⟩ = some (.int .i64 pl)) (ds := []) #[false, false, false, false, false, false, false, false, false, false, false, false, false] (by kernel_rfl) rfl rfl ⟨(blk_cell BKg2.out 0).trans rfl, (blk_cell BKg2.out 1).trans rfl, (blk_cell BKg3.out 0).trans rfl⟩ (fun hHeld => ?_)
  generalize W0.drew = W1 at BKg2 BKg3 HB hHeld ⊢
  refine take_ (i := 0) (N := some 9) (v := ?_) (a' := ?_) #[true, false, false, false, false, false, false, false, false, false, false, false, false] rfl rfl (by kernel_rfl) (fun _ _ _ h => h) (Or.inl ⟨by rfl, ?_⟩) hHeld ?_ ?_
  rotate_left
  · rintro w' ⟨s0, s1, s2⟩
    go_simp
    with_reducible rfl
  rotate_left
  · simp only [Act.put, List.setIfInBounds_toArray, List.set_cons_zero, List.set_cons_succ, i64_w, i32_w]
    rfl
  refine one_ (i := 1) (N := some 10) #[true, true, false, false, false, false, false, false, false, false, false, false, false] rfl rfl (by kernel_rfl) (by decide) (fun K hK => ?_)
  refine goes_ Try.func30 (by kernel_rfl) rfl #[.agg #[.int .i64 M, .int .i64 R]] (by rfl) rfl rfl (by (try simp only [List.map_toArray, List.map_cons, List.map_nil]); first | done | rfl | (simp only [List.length_drop, List.length_take]; rfl)) ?_
  with_reducible refine (geom_is.calls M R true _ H1.out).mono ?_
  rintro e W2 ⟨rfl, hb⟩
  refine ⟨_, rfl, ?_⟩
  have NBKg2_ := Aside0.mk (blk_below (o := .cells #[.int .i64 M, .int .i64 R] 23 (0, 0)) (by (with_reducible repeat (first | refine blk_drewN ?_ _ | refine blk_drew ?_ | refine blk_alloc ?_ _)); exact BKg2.out) hb)
  have NBKg3_ := Aside0.mk (blk_below (o := .cells #[.int .i64 pl] 3 (0, 0)) (by (with_reducible repeat (first | refine blk_drewN ?_ _ | refine blk_drew ?_ | refine blk_alloc ?_ _)); exact BKg3.out) hb)
  have NHB_ := Aside0.mk (below_step (by repeat (first | (with_reducible first | exact HB.out | apply below_alloc | apply pw_below_drewN | apply below_drew1) | exact HB.out)) hb)
  clear BKg2 BKg3 HB
  have BKg2 := NBKg2_
  have BKg3 := NBKg3_
  have HB := NHB_
  clear NBKg2_ NBKg3_ NHB_
  clear hb
  refine hK.out _ _ ⟨(blk_cell BKg2.out 0).trans rfl, (blk_cell BKg2.out 1).trans rfl, (blk_cell BKg3.out 0).trans rfl⟩ (fun hHeld => ?_)
  clear hK K
  refine norm_ (a' := ?_) ?_ ?_
  rotate_left
  · show Act.put _ (some 10) _ = _
    simp only [Act.put, List.setIfInBounds_toArray, List.set_cons_zero, List.set_cons_succ, i64_w, i32_w]
    rfl
  refine pure_ (i := 2) (N := some 11) (v := ?_) (a' := ?_) #[true, true, true, false, false, false, false, false, false, false, false, false, false] rfl rfl (by kernel_rfl) (fun _ _ _ h => h) (Or.inl ⟨by rfl, ?_⟩) ?_ ?_
  rotate_left
  · intro w'
    go_simp
    with_reducible rfl
  rotate_left
  · simp only [Act.put, List.setIfInBounds_toArray, List.set_cons_zero, List.set_cons_succ, i64_w, i32_w]
    rfl
  refine pure_ (i := 3) (N := some 12) (v := ?_) (a' := ?_) #[true, true, true, true, false, false, false, false, false, false, false, false, false] rfl rfl (by kernel_rfl) (fun _ _ _ h => h) (Or.inl ⟨by rfl, ?_⟩) ?_ ?_
  rotate_left
  · intro w'
    go_simp
    with_reducible rfl
  rotate_left
  · simp only [Act.put, List.setIfInBounds_toArray, List.set_cons_zero, List.set_cons_succ, i64_w, i32_w]
    rfl
  refine take_ (i := 4) (N := some 13) (v := ?_) (a' := ?_) #[true, true, true, true, true, false, false, false, false, false, false, false, false] rfl rfl (by kernel_rfl) (fun _ _ _ h => h) (Or.inl ⟨by rfl, ?_⟩) hHeld ?_ ?_
  rotate_left
  · rintro w' ⟨s0, s1, s2⟩
    go_simp
    with_reducible rfl
  rotate_left
  · simp only [Act.put, List.setIfInBounds_toArray, List.set_cons_zero, List.set_cons_succ, i64_w, i32_w]
    rfl
  refine pure_ (i := 5) (N := some 14) (v := ?_) (a' := ?_) #[true, true, true, true, true, true, false, false, false, false, false, false, false] rfl rfl (by kernel_rfl) (fun _ _ _ h => h) (Or.inl ⟨by rfl, ?_⟩) ?_ ?_
  rotate_left
  · intro w'
    go_simp
    with_reducible rfl
  rotate_left
  · simp only [Act.put, List.setIfInBounds_toArray, List.set_cons_zero, List.set_cons_succ, i64_w, i32_w]
    rfl
  refine pure_ (i := 6) (N := some 15) (v := ?_) (a' := ?_) #[true, true, true, true, true, true, true, false, false, false, false, false, false] rfl rfl (by kernel_rfl) (fun _ _ _ h => h) (Or.inl ⟨by rfl, ?_⟩) ?_ ?_
  rotate_left
  · intro w'
    go_simp
    with_reducible rfl
  rotate_left
  · simp only [Act.put, List.setIfInBounds_toArray, List.set_cons_zero, List.set_cons_succ, i64_w, i32_w]
    rfl
  refine pure_ (i := 7) (N := some 16) (v := ?_) (a' := ?_) #[true, true, true, true, true, true, true, true, false, false, false, false, false] rfl rfl (by kernel_rfl) (fun _ _ _ h => h) (Or.inl ⟨by rfl, ?_⟩) ?_ ?_
  rotate_left
  · intro w'
    go_simp
    with_reducible rfl
  rotate_left
  · simp only [Act.put, List.setIfInBounds_toArray, List.set_cons_zero, List.set_cons_succ, i64_w, i32_w]
    rfl
  refine pure_ (i := 8) (N := some 17) (v := undef) (a' := ?_) #[true, true, true, true, true, true, true, true, true, false, false, false, false] rfl rfl (by kernel_rfl) (fun _ _ _ h => h) (Or.inr ⟨by rfl, rfl⟩) ?_ ?_
  rotate_left
  · simp only [Act.put, List.setIfInBounds_toArray, List.set_cons_zero, List.set_cons_succ, i64_w, i32_w]
    rfl
  refine pure_ (i := 9) (N := some 18) (v := undef) (a' := ?_) #[true, true, true, true, true, true, true, true, true, true, false, false, false] rfl rfl (by kernel_rfl) (fun _ _ _ h => h) (Or.inr ⟨by rfl, rfl⟩) ?_ ?_
  rotate_left
  · simp only [Act.put, List.setIfInBounds_toArray, List.set_cons_zero, List.set_cons_succ, i64_w, i32_w]
    rfl
  refine one_ (i := 10) (N := some 19) #[true, true, true, true, true, true, true, true, true, true, true, false, false] rfl rfl (by kernel_rfl) (by decide) (fun K hK => ?_)
  refine off_ (by rfl) ?_
  refine hK.out _ _ ⟨(blk_cell BKg2.out 0).trans rfl, (blk_cell BKg2.out 1).trans rfl, (blk_cell BKg3.out 0).trans rfl⟩ (fun hHeld => ?_)
  clear hK K
  refine norm_ (a' := ?_) ?_ ?_
  rotate_left
  · show Act.put _ (some 19) _ = _
    simp only [Act.put, List.setIfInBounds_toArray, List.set_cons_zero, List.set_cons_succ, i64_w, i32_w]
    rfl
  refine pure_ (i := 11) (N := some 20) (v := undef) (a' := ?_) #[true, true, true, true, true, true, true, true, true, true, true, true, false] rfl rfl (by kernel_rfl) (fun _ _ _ h => h) (Or.inr ⟨by rfl, rfl⟩) ?_ ?_
  rotate_left
  · simp only [Act.put, List.setIfInBounds_toArray, List.set_cons_zero, List.set_cons_succ, i64_w, i32_w]
    rfl
  refine pure_ (i := 12) (N := some 21) (v := ?_) (a' := ?_) #[true, true, true, true, true, true, true, true, true, true, true, true, true] rfl rfl (by kernel_rfl) (fun _ _ _ h => h) (Or.inl ⟨by rfl, ?_⟩) ?_ ?_
  rotate_left
  · intro w'
    go_simp
    with_reducible rfl
  rotate_left
  · simp only [Act.put, List.setIfInBounds_toArray, List.set_cons_zero, List.set_cons_succ, i64_w, i32_w]
    rfl
  refine done_ (by kernel_rfl) ?_
  go_wp2
  go_ret3
  exact ⟨by first | rfl | (simp; done) | (simp [*]; done), HB.out⟩
set_option maxHeartbeats 4000000 in
set_option maxRecDepth 100000 in
theorem geom_What.no3 (k : Nat) (M R pl s : Int) (w : World) (H1 : Aside0 (geom_is.f M R = some true)) (HS : Aside0 (geom_Sectors.f k M R = some s)) (c : decide (pl < 0) = false) (d : decide (s ≤ pl) = true) :
    Calls Try.prog 28 #[.agg #[.int .i64 M, .int .i64 R], .int .i64 pl] w fun e w' => e = .returned (.tuple #[.int .i64 0, .int .i64 0, .int .i64 2]) ∧ Below w.heap.size w w' := by
  have HB := Aside0.mk (Below.refl w.heap.size w)
  go_enter Try.func28, Try.ntmps28
  go_wp2_with fail
  obtain ⟨q0_, q1_, nb_⟩ := Wk.blks2 w (.cells #[.int .i64 M, .int .i64 R] 23 (0, 0)) (.cells #[.int .i64 pl] 3 (0, 0))
  obtain ⟨W0, hW_⟩ : ∃ W, W = ((w.alloc (.cells #[.int .i64 M, .int .i64 R] 23 (0, 0))).alloc (.cells #[.int .i64 pl] 3 (0, 0))) := ⟨_, rfl⟩
  rw [← hW_]
  rw [← hW_] at q0_
  rw [← hW_] at q1_
  rw [← hW_] at nb_
  have sz_ := below_size HB.out
  have hb2_ := Aside0.mk (below_step HB.out nb_)
  obtain ⟨g2, hgg2_⟩ : ∃ g, g = w.heap.size := ⟨_, rfl⟩
  obtain ⟨g3, hgg3_⟩ : ∃ g, g = w.heap.size + 1 := ⟨_, rfl⟩
  rw [← hgg3_]
  rw [← hgg3_] at q1_
  rw [← hgg2_]
  rw [← hgg2_] at q0_
  have GEg2 := Aside0.mk (show w.heap.size ≤ g2 by omega)
  have GEg3 := Aside0.mk (show w.heap.size ≤ g3 by omega)
  have Dg2g3 : g2 ≠ g3 := by omega
  have Dg3g2 : g3 ≠ g2 := by omega
  have BKg2 := Aside0.mk q0_
  have BKg3 := Aside0.mk q1_
  clear HB
  have HB := hb2_
  clear hb2_ hW_ nb_ sz_ hgg2_ hgg3_ q0_ q1_
  have NBKg2_ := Aside0.mk (blk_drew BKg2.out)
  have NBKg3_ := Aside0.mk (blk_drew BKg3.out)
  have NHB_ := Aside0.mk (below_drew1 HB.out)
  clear BKg2 BKg3 HB
  have BKg2 := NBKg2_
  have BKg3 := NBKg3_
  have HB := NHB_
  clear NBKg2_ NBKg3_ NHB_
  refine start_ (n := 13) (S := fun w' => w'.cell? ⟨g2, 0, none⟩ = some (.int .i64 M) ∧ w'.cell? ⟨g2, 1, none⟩ = some (.int .i64 R) ∧ w'.cell? ⟨g3, 0, none⟩ = some (.int .i64 pl)) (ds := []) #[false, false, false, false, false, false, false, false, false, false, false, false, false] (by kernel_rfl) rfl rfl ⟨(blk_cell BKg2.out 0).trans rfl, (blk_cell BKg2.out 1).trans rfl, (blk_cell BKg3.out 0).trans rfl⟩ (fun hHeld => ?_)
  generalize W0.drew = W1 at BKg2 BKg3 HB hHeld ⊢
  refine take_ (i := 0) (N := some 9) (v := ?_) (a' := ?_) #[true, false, false, false, false, false, false, false, false, false, false, false, false] rfl rfl (by kernel_rfl) (fun _ _ _ h => h) (Or.inl ⟨by rfl, ?_⟩) hHeld ?_ ?_
  rotate_left
  · rintro w' ⟨s0, s1, s2⟩
    go_simp
    with_reducible rfl
  rotate_left
  · simp only [Act.put, List.setIfInBounds_toArray, List.set_cons_zero, List.set_cons_succ, i64_w, i32_w]
    rfl
  refine one_ (i := 1) (N := some 10) #[true, true, false, false, false, false, false, false, false, false, false, false, false] rfl rfl (by kernel_rfl) (by decide) (fun K hK => ?_)
  refine goes_ Try.func30 (by kernel_rfl) rfl #[.agg #[.int .i64 M, .int .i64 R]] (by rfl) rfl rfl (by (try simp only [List.map_toArray, List.map_cons, List.map_nil]); first | done | rfl | (simp only [List.length_drop, List.length_take]; rfl)) ?_
  with_reducible refine (geom_is.calls M R true _ H1.out).mono ?_
  rintro e W2 ⟨rfl, hb⟩
  refine ⟨_, rfl, ?_⟩
  have NBKg2_ := Aside0.mk (blk_below (o := .cells #[.int .i64 M, .int .i64 R] 23 (0, 0)) (by (with_reducible repeat (first | refine blk_drewN ?_ _ | refine blk_drew ?_ | refine blk_alloc ?_ _)); exact BKg2.out) hb)
  have NBKg3_ := Aside0.mk (blk_below (o := .cells #[.int .i64 pl] 3 (0, 0)) (by (with_reducible repeat (first | refine blk_drewN ?_ _ | refine blk_drew ?_ | refine blk_alloc ?_ _)); exact BKg3.out) hb)
  have NHB_ := Aside0.mk (below_step (by repeat (first | (with_reducible first | exact HB.out | apply below_alloc | apply pw_below_drewN | apply below_drew1) | exact HB.out)) hb)
  clear BKg2 BKg3 HB
  have BKg2 := NBKg2_
  have BKg3 := NBKg3_
  have HB := NHB_
  clear NBKg2_ NBKg3_ NHB_
  clear hb
  refine hK.out _ _ ⟨(blk_cell BKg2.out 0).trans rfl, (blk_cell BKg2.out 1).trans rfl, (blk_cell BKg3.out 0).trans rfl⟩ (fun hHeld => ?_)
  clear hK K
  refine norm_ (a' := ?_) ?_ ?_
  rotate_left
  · show Act.put _ (some 10) _ = _
    simp only [Act.put, List.setIfInBounds_toArray, List.set_cons_zero, List.set_cons_succ, i64_w, i32_w]
    rfl
  refine pure_ (i := 2) (N := some 11) (v := ?_) (a' := ?_) #[true, true, true, false, false, false, false, false, false, false, false, false, false] rfl rfl (by kernel_rfl) (fun _ _ _ h => h) (Or.inl ⟨by rfl, ?_⟩) ?_ ?_
  rotate_left
  · intro w'
    go_simp
    with_reducible rfl
  rotate_left
  · simp only [Act.put, List.setIfInBounds_toArray, List.set_cons_zero, List.set_cons_succ, i64_w, i32_w]
    rfl
  refine pure_ (i := 3) (N := some 12) (v := ?_) (a' := ?_) #[true, true, true, true, false, false, false, false, false, false, false, false, false] rfl rfl (by kernel_rfl) (fun _ _ _ h => h) (Or.inl ⟨by rfl, ?_⟩) ?_ ?_
  rotate_left
  · intro w'
    go_simp
    with_reducible rfl
  rotate_left
  · simp only [Act.put, List.setIfInBounds_toArray, List.set_cons_zero, List.set_cons_succ, i64_w, i32_w]
    rfl
  refine take_ (i := 4) (N := some 13) (v := ?_) (a' := ?_) #[true, true, true, true, true, false, false, false, false, false, false, false, false] rfl rfl (by kernel_rfl) (fun _ _ _ h => h) (Or.inl ⟨by rfl, ?_⟩) hHeld ?_ ?_
  rotate_left
  · rintro w' ⟨s0, s1, s2⟩
    go_simp
    with_reducible rfl
  rotate_left
  · simp only [Act.put, List.setIfInBounds_toArray, List.set_cons_zero, List.set_cons_succ, i64_w, i32_w]
    rfl
  refine pure_ (i := 5) (N := some 14) (v := ?_) (a' := ?_) #[true, true, true, true, true, true, false, false, false, false, false, false, false] rfl rfl (by kernel_rfl) (fun _ _ _ h => h) (Or.inl ⟨by rfl, ?_⟩) ?_ ?_
  rotate_left
  · intro w'
    go_simp
    with_reducible rfl
  rotate_left
  · simp only [Act.put, List.setIfInBounds_toArray, List.set_cons_zero, List.set_cons_succ, i64_w, i32_w]
    rfl
  refine pure_ (i := 6) (N := some 15) (v := ?_) (a' := ?_) #[true, true, true, true, true, true, true, false, false, false, false, false, false] rfl rfl (by kernel_rfl) (fun _ _ _ h => h) (Or.inl ⟨by rfl, ?_⟩) ?_ ?_
  rotate_left
  · intro w'
    go_simp
    with_reducible rfl
  rotate_left
  · simp only [Act.put, List.setIfInBounds_toArray, List.set_cons_zero, List.set_cons_succ, i64_w, i32_w]
    rfl
  refine pure_ (i := 7) (N := some 16) (v := ?_) (a' := ?_) #[true, true, true, true, true, true, true, true, false, false, false, false, false] rfl rfl (by kernel_rfl) (fun _ _ _ h => h) (Or.inl ⟨by rfl, ?_⟩) ?_ ?_
  rotate_left
  · intro w'
    go_simp
    with_reducible rfl
  rotate_left
  · simp only [Act.put, List.setIfInBounds_toArray, List.set_cons_zero, List.set_cons_succ, i64_w, i32_w]
    rfl
  refine take_ (i := 8) (N := some 17) (v := ?_) (a' := ?_) #[true, true, true, true, true, true, true, true, true, false, false, false, false] rfl rfl (by kernel_rfl) (fun _ _ _ h => h) (Or.inl ⟨by rfl, ?_⟩) hHeld ?_ ?_
  rotate_left
  · rintro w' ⟨s0, s1, s2⟩
    go_simp
    with_reducible rfl
  rotate_left
  · simp only [Act.put, List.setIfInBounds_toArray, List.set_cons_zero, List.set_cons_succ, i64_w, i32_w]
    rfl
  refine take_ (i := 9) (N := some 18) (v := ?_) (a' := ?_) #[true, true, true, true, true, true, true, true, true, true, false, false, false] rfl rfl (by kernel_rfl) (fun _ _ _ h => h) (Or.inl ⟨by rfl, ?_⟩) hHeld ?_ ?_
  rotate_left
  · rintro w' ⟨s0, s1, s2⟩
    go_simp
    with_reducible rfl
  rotate_left
  · simp only [Act.put, List.setIfInBounds_toArray, List.set_cons_zero, List.set_cons_succ, i64_w, i32_w]
    rfl
  refine one_ (i := 10) (N := some 19) #[true, true, true, true, true, true, true, true, true, true, true, false, false] rfl rfl (by kernel_rfl) (by decide) (fun K hK => ?_)
  refine goes_ Try.func23 (by kernel_rfl) rfl #[.agg #[.int .i64 M, .int .i64 R]] (by rfl) rfl rfl (by (try simp only [List.map_toArray, List.map_cons, List.map_nil]); first | done | rfl | (simp only [List.length_drop, List.length_take]; rfl)) ?_
  with_reducible refine (geom_Sectors.calls k M R s _ HS.out).mono ?_
  rintro e W3 ⟨rfl, hb⟩
  refine ⟨_, rfl, ?_⟩
  have NBKg2_ := Aside0.mk (blk_below (o := .cells #[.int .i64 M, .int .i64 R] 23 (0, 0)) (by (with_reducible repeat (first | refine blk_drewN ?_ _ | refine blk_drew ?_ | refine blk_alloc ?_ _)); exact BKg2.out) hb)
  have NBKg3_ := Aside0.mk (blk_below (o := .cells #[.int .i64 pl] 3 (0, 0)) (by (with_reducible repeat (first | refine blk_drewN ?_ _ | refine blk_drew ?_ | refine blk_alloc ?_ _)); exact BKg3.out) hb)
  have NHB_ := Aside0.mk (below_step (by repeat (first | (with_reducible first | exact HB.out | apply below_alloc | apply pw_below_drewN | apply below_drew1) | exact HB.out)) hb)
  clear BKg2 BKg3 HB
  have BKg2 := NBKg2_
  have BKg3 := NBKg3_
  have HB := NHB_
  clear NBKg2_ NBKg3_ NHB_
  clear hb
  refine hK.out _ _ ⟨(blk_cell BKg2.out 0).trans rfl, (blk_cell BKg2.out 1).trans rfl, (blk_cell BKg3.out 0).trans rfl⟩ (fun hHeld => ?_)
  clear hK K
  refine norm_ (a' := ?_) ?_ ?_
  rotate_left
  · show Act.put _ (some 19) _ = _
    simp only [Act.put, List.setIfInBounds_toArray, List.set_cons_zero, List.set_cons_succ, i64_w, i32_w]
    rfl
  refine pure_ (i := 11) (N := some 20) (v := ?_) (a' := ?_) #[true, true, true, true, true, true, true, true, true, true, true, true, false] rfl rfl (by kernel_rfl) (fun _ _ _ h => h) (Or.inl ⟨by rfl, ?_⟩) ?_ ?_
  rotate_left
  · intro w'
    go_simp
    with_reducible rfl
  rotate_left
  · simp only [Act.put, List.setIfInBounds_toArray, List.set_cons_zero, List.set_cons_succ, i64_w, i32_w]
    rfl
  refine pure_ (i := 12) (N := some 21) (v := ?_) (a' := ?_) #[true, true, true, true, true, true, true, true, true, true, true, true, true] rfl rfl (by kernel_rfl) (fun _ _ _ h => h) (Or.inl ⟨by rfl, ?_⟩) ?_ ?_
  rotate_left
  · intro w'
    go_simp
    with_reducible rfl
  rotate_left
  · simp only [Act.put, List.setIfInBounds_toArray, List.set_cons_zero, List.set_cons_succ, i64_w, i32_w]
    rfl
  refine done_ (by kernel_rfl) ?_
  go_wp2
  go_ret3
  exact ⟨by first | rfl | (simp; done) | (simp [*]; done), HB.out⟩
set_option maxHeartbeats 4000000 in
set_option maxRecDepth 100000 in
theorem geom_What.at1 (k : Nat) (M R pl s hf nd l : Int) (w : World) (H1 : Aside0 (geom_is.f M R = some true)) (HS : Aside0 (geom_Sectors.f k M R = some s)) (H2 : Aside0 (geom_Half.f k M R = some hf)) (H3 : Aside0 (geom_Nodes.f k M R = some nd)) (HL : Aside0 (geom_least.f 1 = some l)) (c : decide (pl < 0) = false) (d : decide (s ≤ pl) = false) (d2 : decide (pl < 8) = true) :
    Calls Try.prog 28 #[.agg #[.int .i64 M, .int .i64 R], .int .i64 pl] w fun e w' => e = .returned (.tuple #[.int .i64 1, .int .i64 (wrap64 (wrap64 pl + l)), .int .i64 0]) ∧ Below w.heap.size w w' := by
  have HB := Aside0.mk (Below.refl w.heap.size w)
  go_enter Try.func28, Try.ntmps28
  go_wp2_with fail
  obtain ⟨q0_, q1_, nb_⟩ := Wk.blks2 w (.cells #[.int .i64 M, .int .i64 R] 23 (0, 0)) (.cells #[.int .i64 pl] 3 (0, 0))
  obtain ⟨W0, hW_⟩ : ∃ W, W = ((w.alloc (.cells #[.int .i64 M, .int .i64 R] 23 (0, 0))).alloc (.cells #[.int .i64 pl] 3 (0, 0))) := ⟨_, rfl⟩
  rw [← hW_]
  rw [← hW_] at q0_
  rw [← hW_] at q1_
  rw [← hW_] at nb_
  have sz_ := below_size HB.out
  have hb2_ := Aside0.mk (below_step HB.out nb_)
  obtain ⟨g2, hgg2_⟩ : ∃ g, g = w.heap.size := ⟨_, rfl⟩
  obtain ⟨g3, hgg3_⟩ : ∃ g, g = w.heap.size + 1 := ⟨_, rfl⟩
  rw [← hgg3_]
  rw [← hgg3_] at q1_
  rw [← hgg2_]
  rw [← hgg2_] at q0_
  have GEg2 := Aside0.mk (show w.heap.size ≤ g2 by omega)
  have GEg3 := Aside0.mk (show w.heap.size ≤ g3 by omega)
  have Dg2g3 : g2 ≠ g3 := by omega
  have Dg3g2 : g3 ≠ g2 := by omega
  have BKg2 := Aside0.mk q0_
  have BKg3 := Aside0.mk q1_
  clear HB
  have HB := hb2_
  clear hb2_ hW_ nb_ sz_ hgg2_ hgg3_ q0_ q1_
  have NBKg2_ := Aside0.mk (blk_drew BKg2.out)
  have NBKg3_ := Aside0.mk (blk_drew BKg3.out)
  have NHB_ := Aside0.mk (below_drew1 HB.out)
  clear BKg2 BKg3 HB
  have BKg2 := NBKg2_
  have BKg3 := NBKg3_
  have HB := NHB_
  clear NBKg2_ NBKg3_ NHB_
  refine start_ (n := 13) (S := fun w' => w'.cell? ⟨g2, 0, none⟩ = some (.int .i64 M) ∧ w'.cell? ⟨g2, 1, none⟩ = some (.int .i64 R) ∧ w'.cell? ⟨g3, 0, none⟩ = some (.int .i64 pl)) (ds := []) #[false, false, false, false, false, false, false, false, false, false, false, false, false] (by kernel_rfl) rfl rfl ⟨(blk_cell BKg2.out 0).trans rfl, (blk_cell BKg2.out 1).trans rfl, (blk_cell BKg3.out 0).trans rfl⟩ (fun hHeld => ?_)
  generalize W0.drew = W1 at BKg2 BKg3 HB hHeld ⊢
  refine take_ (i := 0) (N := some 9) (v := ?_) (a' := ?_) #[true, false, false, false, false, false, false, false, false, false, false, false, false] rfl rfl (by kernel_rfl) (fun _ _ _ h => h) (Or.inl ⟨by rfl, ?_⟩) hHeld ?_ ?_
  rotate_left
  · rintro w' ⟨s0, s1, s2⟩
    go_simp
    with_reducible rfl
  rotate_left
  · simp only [Act.put, List.setIfInBounds_toArray, List.set_cons_zero, List.set_cons_succ, i64_w, i32_w]
    rfl
  refine one_ (i := 1) (N := some 10) #[true, true, false, false, false, false, false, false, false, false, false, false, false] rfl rfl (by kernel_rfl) (by decide) (fun K hK => ?_)
  refine goes_ Try.func30 (by kernel_rfl) rfl #[.agg #[.int .i64 M, .int .i64 R]] (by rfl) rfl rfl (by (try simp only [List.map_toArray, List.map_cons, List.map_nil]); first | done | rfl | (simp only [List.length_drop, List.length_take]; rfl)) ?_
  with_reducible refine (geom_is.calls M R true _ H1.out).mono ?_
  rintro e W2 ⟨rfl, hb⟩
  refine ⟨_, rfl, ?_⟩
  have NBKg2_ := Aside0.mk (blk_below (o := .cells #[.int .i64 M, .int .i64 R] 23 (0, 0)) (by (with_reducible repeat (first | refine blk_drewN ?_ _ | refine blk_drew ?_ | refine blk_alloc ?_ _)); exact BKg2.out) hb)
  have NBKg3_ := Aside0.mk (blk_below (o := .cells #[.int .i64 pl] 3 (0, 0)) (by (with_reducible repeat (first | refine blk_drewN ?_ _ | refine blk_drew ?_ | refine blk_alloc ?_ _)); exact BKg3.out) hb)
  have NHB_ := Aside0.mk (below_step (by repeat (first | (with_reducible first | exact HB.out | apply below_alloc | apply pw_below_drewN | apply below_drew1) | exact HB.out)) hb)
  clear BKg2 BKg3 HB
  have BKg2 := NBKg2_
  have BKg3 := NBKg3_
  have HB := NHB_
  clear NBKg2_ NBKg3_ NHB_
  clear hb
  refine hK.out _ _ ⟨(blk_cell BKg2.out 0).trans rfl, (blk_cell BKg2.out 1).trans rfl, (blk_cell BKg3.out 0).trans rfl⟩ (fun hHeld => ?_)
  clear hK K
  refine norm_ (a' := ?_) ?_ ?_
  rotate_left
  · show Act.put _ (some 10) _ = _
    simp only [Act.put, List.setIfInBounds_toArray, List.set_cons_zero, List.set_cons_succ, i64_w, i32_w]
    rfl
  refine pure_ (i := 2) (N := some 11) (v := ?_) (a' := ?_) #[true, true, true, false, false, false, false, false, false, false, false, false, false] rfl rfl (by kernel_rfl) (fun _ _ _ h => h) (Or.inl ⟨by rfl, ?_⟩) ?_ ?_
  rotate_left
  · intro w'
    go_simp
    with_reducible rfl
  rotate_left
  · simp only [Act.put, List.setIfInBounds_toArray, List.set_cons_zero, List.set_cons_succ, i64_w, i32_w]
    rfl
  refine pure_ (i := 3) (N := some 12) (v := ?_) (a' := ?_) #[true, true, true, true, false, false, false, false, false, false, false, false, false] rfl rfl (by kernel_rfl) (fun _ _ _ h => h) (Or.inl ⟨by rfl, ?_⟩) ?_ ?_
  rotate_left
  · intro w'
    go_simp
    with_reducible rfl
  rotate_left
  · simp only [Act.put, List.setIfInBounds_toArray, List.set_cons_zero, List.set_cons_succ, i64_w, i32_w]
    rfl
  refine take_ (i := 4) (N := some 13) (v := ?_) (a' := ?_) #[true, true, true, true, true, false, false, false, false, false, false, false, false] rfl rfl (by kernel_rfl) (fun _ _ _ h => h) (Or.inl ⟨by rfl, ?_⟩) hHeld ?_ ?_
  rotate_left
  · rintro w' ⟨s0, s1, s2⟩
    go_simp
    with_reducible rfl
  rotate_left
  · simp only [Act.put, List.setIfInBounds_toArray, List.set_cons_zero, List.set_cons_succ, i64_w, i32_w]
    rfl
  refine pure_ (i := 5) (N := some 14) (v := ?_) (a' := ?_) #[true, true, true, true, true, true, false, false, false, false, false, false, false] rfl rfl (by kernel_rfl) (fun _ _ _ h => h) (Or.inl ⟨by rfl, ?_⟩) ?_ ?_
  rotate_left
  · intro w'
    go_simp
    with_reducible rfl
  rotate_left
  · simp only [Act.put, List.setIfInBounds_toArray, List.set_cons_zero, List.set_cons_succ, i64_w, i32_w]
    rfl
  refine pure_ (i := 6) (N := some 15) (v := ?_) (a' := ?_) #[true, true, true, true, true, true, true, false, false, false, false, false, false] rfl rfl (by kernel_rfl) (fun _ _ _ h => h) (Or.inl ⟨by rfl, ?_⟩) ?_ ?_
  rotate_left
  · intro w'
    go_simp
    with_reducible rfl
  rotate_left
  · simp only [Act.put, List.setIfInBounds_toArray, List.set_cons_zero, List.set_cons_succ, i64_w, i32_w]
    rfl
  refine pure_ (i := 7) (N := some 16) (v := ?_) (a' := ?_) #[true, true, true, true, true, true, true, true, false, false, false, false, false] rfl rfl (by kernel_rfl) (fun _ _ _ h => h) (Or.inl ⟨by rfl, ?_⟩) ?_ ?_
  rotate_left
  · intro w'
    go_simp
    with_reducible rfl
  rotate_left
  · simp only [Act.put, List.setIfInBounds_toArray, List.set_cons_zero, List.set_cons_succ, i64_w, i32_w]
    rfl
  refine take_ (i := 8) (N := some 17) (v := ?_) (a' := ?_) #[true, true, true, true, true, true, true, true, true, false, false, false, false] rfl rfl (by kernel_rfl) (fun _ _ _ h => h) (Or.inl ⟨by rfl, ?_⟩) hHeld ?_ ?_
  rotate_left
  · rintro w' ⟨s0, s1, s2⟩
    go_simp
    with_reducible rfl
  rotate_left
  · simp only [Act.put, List.setIfInBounds_toArray, List.set_cons_zero, List.set_cons_succ, i64_w, i32_w]
    rfl
  refine take_ (i := 9) (N := some 18) (v := ?_) (a' := ?_) #[true, true, true, true, true, true, true, true, true, true, false, false, false] rfl rfl (by kernel_rfl) (fun _ _ _ h => h) (Or.inl ⟨by rfl, ?_⟩) hHeld ?_ ?_
  rotate_left
  · rintro w' ⟨s0, s1, s2⟩
    go_simp
    with_reducible rfl
  rotate_left
  · simp only [Act.put, List.setIfInBounds_toArray, List.set_cons_zero, List.set_cons_succ, i64_w, i32_w]
    rfl
  refine one_ (i := 10) (N := some 19) #[true, true, true, true, true, true, true, true, true, true, true, false, false] rfl rfl (by kernel_rfl) (by decide) (fun K hK => ?_)
  refine goes_ Try.func23 (by kernel_rfl) rfl #[.agg #[.int .i64 M, .int .i64 R]] (by rfl) rfl rfl (by (try simp only [List.map_toArray, List.map_cons, List.map_nil]); first | done | rfl | (simp only [List.length_drop, List.length_take]; rfl)) ?_
  with_reducible refine (geom_Sectors.calls k M R s _ HS.out).mono ?_
  rintro e W3 ⟨rfl, hb⟩
  refine ⟨_, rfl, ?_⟩
  have NBKg2_ := Aside0.mk (blk_below (o := .cells #[.int .i64 M, .int .i64 R] 23 (0, 0)) (by (with_reducible repeat (first | refine blk_drewN ?_ _ | refine blk_drew ?_ | refine blk_alloc ?_ _)); exact BKg2.out) hb)
  have NBKg3_ := Aside0.mk (blk_below (o := .cells #[.int .i64 pl] 3 (0, 0)) (by (with_reducible repeat (first | refine blk_drewN ?_ _ | refine blk_drew ?_ | refine blk_alloc ?_ _)); exact BKg3.out) hb)
  have NHB_ := Aside0.mk (below_step (by repeat (first | (with_reducible first | exact HB.out | apply below_alloc | apply pw_below_drewN | apply below_drew1) | exact HB.out)) hb)
  clear BKg2 BKg3 HB
  have BKg2 := NBKg2_
  have BKg3 := NBKg3_
  have HB := NHB_
  clear NBKg2_ NBKg3_ NHB_
  clear hb
  refine hK.out _ _ ⟨(blk_cell BKg2.out 0).trans rfl, (blk_cell BKg2.out 1).trans rfl, (blk_cell BKg3.out 0).trans rfl⟩ (fun hHeld => ?_)
  clear hK K
  refine norm_ (a' := ?_) ?_ ?_
  rotate_left
  · show Act.put _ (some 19) _ = _
    simp only [Act.put, List.setIfInBounds_toArray, List.set_cons_zero, List.set_cons_succ, i64_w, i32_w]
    rfl
  refine pure_ (i := 11) (N := some 20) (v := ?_) (a' := ?_) #[true, true, true, true, true, true, true, true, true, true, true, true, false] rfl rfl (by kernel_rfl) (fun _ _ _ h => h) (Or.inl ⟨by rfl, ?_⟩) ?_ ?_
  rotate_left
  · intro w'
    go_simp
    with_reducible rfl
  rotate_left
  · simp only [Act.put, List.setIfInBounds_toArray, List.set_cons_zero, List.set_cons_succ, i64_w, i32_w]
    rfl
  refine pure_ (i := 12) (N := some 21) (v := ?_) (a' := ?_) #[true, true, true, true, true, true, true, true, true, true, true, true, true] rfl rfl (by kernel_rfl) (fun _ _ _ h => h) (Or.inl ⟨by rfl, ?_⟩) ?_ ?_
  rotate_left
  · intro w'
    go_simp
    with_reducible rfl
  rotate_left
  · simp only [Act.put, List.setIfInBounds_toArray, List.set_cons_zero, List.set_cons_succ, i64_w, i32_w]
    rfl
  refine done_ (by kernel_rfl) ?_
  obtain ⟨cg2_0, cg2_1⟩ := Wk.cells2 BKg2.out
  have fg2_0 := blk_frozen BKg2.out 0
  have fg2_1 := blk_frozen BKg2.out 1
  have cg3_0 := Wk.cells1 BKg3.out
  have fg3_0 := blk_frozen BKg3.out 0
  go_wp2_with fail
  clear cg2_0 fg2_0 cg2_1 fg2_1 cg3_0 fg3_0
  with_reducible refine (geom_firsts.calls k M R hf nd _ H2.out H3.out).mono ?_
  rintro e W4 ⟨rfl, hb⟩
  have NBKg2_ := Aside0.mk (blk_below (o := .cells #[.int .i64 M, .int .i64 R] 23 (0, 0)) (by (with_reducible repeat (first | refine blk_drewN ?_ _ | refine blk_drew ?_ | refine blk_alloc ?_ _)); exact BKg2.out) hb)
  have NBKg3_ := Aside0.mk (blk_below (o := .cells #[.int .i64 pl] 3 (0, 0)) (by (with_reducible repeat (first | refine blk_drewN ?_ _ | refine blk_drew ?_ | refine blk_alloc ?_ _)); exact BKg3.out) hb)
  have NHB_ := Aside0.mk (below_step (by repeat (first | (with_reducible first | exact HB.out | apply below_alloc | apply pw_below_drewN | apply below_drew1) | exact HB.out)) hb)
  clear BKg2 BKg3 HB
  have BKg2 := NBKg2_
  have BKg3 := NBKg3_
  have HB := NHB_
  clear NBKg2_ NBKg3_ NHB_
  clear hb
  obtain ⟨cg2_0, cg2_1⟩ := Wk.cells2 BKg2.out
  have fg2_0 := blk_frozen BKg2.out 0
  have fg2_1 := blk_frozen BKg2.out 1
  have cg3_0 := Wk.cells1 BKg3.out
  have fg3_0 := blk_frozen BKg3.out 0
  go_wp2_with fail
  clear cg2_0 fg2_0 cg2_1 fg2_1 cg3_0 fg3_0
  obtain ⟨q0_, nb_⟩ := Wk.blks1 W4 (.cells #[.int .i64 0, .int .i64 0, .int .i64 8, .int .i64 (wrap64 (8 + wrap64 (2 * hf))), .int .i64 (wrap64 (wrap64 (8 + wrap64 (2 * hf)) + nd)), .int .i64 (wrap64 (wrap64 (wrap64 (8 + wrap64 (2 * hf)) + nd) + R))] 43 (0, 0))
  obtain ⟨W5, hW_⟩ : ∃ W, W = (W4.alloc (.cells #[.int .i64 0, .int .i64 0, .int .i64 8, .int .i64 (wrap64 (8 + wrap64 (2 * hf))), .int .i64 (wrap64 (wrap64 (8 + wrap64 (2 * hf)) + nd)), .int .i64 (wrap64 (wrap64 (wrap64 (8 + wrap64 (2 * hf)) + nd) + R))] 43 (0, 0))) := ⟨_, rfl⟩
  rw [← hW_]
  rw [← hW_] at q0_
  rw [← hW_] at nb_
  have mg2_ := blk_below BKg2.out nb_
  have mg3_ := blk_below BKg3.out nb_
  have sz_ := below_size HB.out
  have ltg2_ := blk_lt BKg2.out
  have ltg3_ := blk_lt BKg3.out
  have hb2_ := Aside0.mk (below_step HB.out nb_)
  obtain ⟨g7, hgg7_⟩ : ∃ g, g = W4.heap.size := ⟨_, rfl⟩
  rw [← hgg7_]
  rw [← hgg7_] at q0_
  have GEg7 := Aside0.mk (show w.heap.size ≤ g7 by omega)
  have Dg2g7 : g2 ≠ g7 := by omega
  have Dg7g2 : g7 ≠ g2 := by omega
  have Dg3g7 : g3 ≠ g7 := by omega
  have Dg7g3 : g7 ≠ g3 := by omega
  have BNg2 := Aside0.mk mg2_
  clear BKg2
  have BKg2 := BNg2
  clear BNg2 ltg2_ mg2_
  have BNg3 := Aside0.mk mg3_
  clear BKg3
  have BKg3 := BNg3
  clear BNg3 ltg3_ mg3_
  have BKg7 := Aside0.mk q0_
  clear HB
  have HB := hb2_
  clear hb2_ hW_ nb_ sz_ hgg7_ q0_
  have hx_ : ∀ j, j < 6 → W5.cell? ⟨g7, j, none⟩ = some (.int .i64 (([0, 0, 8, (wrap64 (8 + wrap64 (2 * hf))), (wrap64 (wrap64 (8 + wrap64 (2 * hf)) + nd)), (wrap64 (wrap64 (wrap64 (8 + wrap64 (2 * hf)) + nd) + R))] : List Int).getD j 0)) := by
    intro j hj
    have hc_ := blk_cell BKg7.out j
    have : j = 0 ∨ j = 1 ∨ j = 2 ∨ j = 3 ∨ j = 4 ∨ j = 5 := by omega
    rcases this with rfl | rfl | rfl | rfl | rfl | rfl <;> exact hc_.trans rfl
  have h2_ : ∀ j, j < 2 → ([0, 0, 8, (wrap64 (8 + wrap64 (2 * hf))), (wrap64 (wrap64 (8 + wrap64 (2 * hf)) + nd)), (wrap64 (wrap64 (wrap64 (8 + wrap64 (2 * hf)) + nd) + R))] : List Int).getD j 0 ≤ pl := by
    intro j hj
    have c' : ¬ pl < 0 := of_decide_eq_false c
    have : j = 0 ∨ j = 1 := by omega
    rcases this with rfl | rfl <;> simp only [List.getD_eq_getElem?_getD, List.getElem?_cons_zero, List.getElem?_cons_succ, Option.getD_some] <;> omega
  with_reducible refine (indexfunc.calls ([0, 0, 8, (wrap64 (8 + wrap64 (2 * hf))), (wrap64 (wrap64 (8 + wrap64 (2 * hf)) + nd)), (wrap64 (wrap64 (wrap64 (8 + wrap64 (2 * hf)) + nd) + R))] : List Int) pl g3 g7 2 _ (Wk.cells1 BKg3.out) hx_ (by omega) (by have t_ := of_decide_eq_true d2; simpa using t_) h2_).mono ?_
  rintro e w_ ⟨rfl, rfl⟩
  clear hx_ h2_
  obtain ⟨cg2_0, cg2_1⟩ := Wk.cells2 BKg2.out
  have fg2_0 := blk_frozen BKg2.out 0
  have fg2_1 := blk_frozen BKg2.out 1
  have cg3_0 := Wk.cells1 BKg3.out
  have fg3_0 := blk_frozen BKg3.out 0
  obtain ⟨cg7_0, cg7_1, cg7_2, cg7_3, cg7_4, cg7_5⟩ := Wk.cells6 BKg7.out
  have fg7_0 := blk_frozen BKg7.out 0
  have fg7_1 := blk_frozen BKg7.out 1
  have fg7_2 := blk_frozen BKg7.out 2
  have fg7_3 := blk_frozen BKg7.out 3
  have fg7_4 := blk_frozen BKg7.out 4
  have fg7_5 := blk_frozen BKg7.out 5
  have wq : wrap64 1 = 1 := by unfold wrap64; omega
  go_wp2_with fail
  clear cg2_0 fg2_0 cg2_1 fg2_1 cg3_0 fg3_0 cg7_0 fg7_0 cg7_1 fg7_1 cg7_2 fg7_2 cg7_3 fg7_3 cg7_4 fg7_4 cg7_5 fg7_5
  have NBKg2_ := Aside0.mk (blk_drew BKg2.out)
  have NBKg3_ := Aside0.mk (blk_drew BKg3.out)
  have NBKg7_ := Aside0.mk (blk_drew BKg7.out)
  have NHB_ := Aside0.mk (below_drew1 HB.out)
  clear BKg2 BKg3 BKg7 HB
  have BKg2 := NBKg2_
  have BKg3 := NBKg3_
  have BKg7 := NBKg7_
  have HB := NHB_
  clear NBKg2_ NBKg3_ NBKg7_ NHB_
  refine start_ (n := 12) (S := fun w' => w'.cell? ⟨g3, 0, none⟩ = some (.int .i64 pl) ∧ w'.cell? ⟨g7, 0, none⟩ = some (.int .i64 0) ∧ w'.cell? ⟨g7, 1, none⟩ = some (.int .i64 0) ∧ w'.cell? ⟨g7, 2, none⟩ = some (.int .i64 8) ∧ w'.cell? ⟨g7, 3, none⟩ = some (.int .i64 (wrap64 (8 + wrap64 (2 * hf)))) ∧ w'.cell? ⟨g7, 4, none⟩ = some (.int .i64 (wrap64 (wrap64 (8 + wrap64 (2 * hf)) + nd))) ∧ w'.cell? ⟨g7, 5, none⟩ = some (.int .i64 (wrap64 (wrap64 (wrap64 (8 + wrap64 (2 * hf)) + nd) + R)))) (ds := []) #[false, false, false, false, false, false, false, false, false, false, false, false] (by kernel_rfl) rfl rfl ⟨(blk_cell BKg3.out 0).trans rfl, (blk_cell BKg7.out 0).trans rfl, (blk_cell BKg7.out 1).trans rfl, (blk_cell BKg7.out 2).trans rfl, (blk_cell BKg7.out 3).trans rfl, (blk_cell BKg7.out 4).trans rfl, (blk_cell BKg7.out 5).trans rfl⟩ (fun hHeld => ?_)
  generalize W5.drew = W6 at BKg2 BKg3 BKg7 HB hHeld ⊢
  refine pure_ (i := 0) (N := some 29) (v := ?_) (a' := ?_) #[true, false, false, false, false, false, false, false, false, false, false, false] rfl rfl (by kernel_rfl) (fun _ _ _ h => h) (Or.inl ⟨by rfl, ?_⟩) ?_ ?_
  rotate_left
  · intro w'
    go_simp
    with_reducible rfl
  rotate_left
  · simp only [Act.put, List.setIfInBounds_toArray, List.set_cons_zero, List.set_cons_succ, i64_w, i32_w]
    rfl
  refine take_ (i := 1) (N := some 30) (v := ?_) (a' := ?_) #[true, true, false, false, false, false, false, false, false, false, false, false] rfl rfl (by kernel_rfl) (fun _ _ _ h => h) (Or.inl ⟨by rfl, ?_⟩) hHeld ?_ ?_
  rotate_left
  · rintro w' ⟨s0, s1, s2, s3, s4, s5, s6⟩
    go_simp
    with_reducible rfl
  rotate_left
  · simp only [Act.put, List.setIfInBounds_toArray, List.set_cons_zero, List.set_cons_succ, i64_w, i32_w]
    rfl
  refine pure_ (i := 2) (N := some 31) (v := ?_) (a' := ?_) #[true, true, true, false, false, false, false, false, false, false, false, false] rfl rfl (by kernel_rfl) (fun _ _ _ h => h) (Or.inl ⟨by rfl, ?_⟩) ?_ ?_
  rotate_left
  · intro w'
    go_simp
    with_reducible rfl
  rotate_left
  · simp only [Act.put, List.setIfInBounds_toArray, List.set_cons_zero, List.set_cons_succ, i64_w, i32_w]
    rfl
  refine pure_ (i := 3) (N := some 32) (v := ?_) (a' := ?_) #[true, true, true, true, false, false, false, false, false, false, false, false] rfl rfl (by kernel_rfl) (fun _ _ _ h => h) (Or.inl ⟨by rfl, ?_⟩) ?_ ?_
  rotate_left
  · intro w'
    go_simp
    with_reducible rfl
  rotate_left
  · simp only [Act.put, List.setIfInBounds_toArray, List.set_cons_zero, List.set_cons_succ, i64_w, i32_w]
    rfl
  refine take_ (i := 4) (N := some 33) (v := ?_) (a' := ?_) #[true, true, true, true, true, false, false, false, false, false, false, false] rfl rfl (by kernel_rfl) (fun _ _ _ h => h) (Or.inl ⟨by rfl, ?_⟩) hHeld ?_ ?_
  rotate_left
  · rintro w' ⟨s0, s1, s2, s3, s4, s5, s6⟩
    go_simp
    with_reducible rfl
  rotate_left
  · simp only [Act.put, List.setIfInBounds_toArray, List.set_cons_zero, List.set_cons_succ, i64_w, i32_w]
    rfl
  refine pure_ (i := 5) (N := some 34) (v := ?_) (a' := ?_) #[true, true, true, true, true, true, false, false, false, false, false, false] rfl rfl (by kernel_rfl) (fun _ _ _ h => h) (Or.inl ⟨by rfl, ?_⟩) ?_ ?_
  rotate_left
  · intro w'
    go_simp
    with_reducible rfl
  rotate_left
  · simp only [Act.put, List.setIfInBounds_toArray, List.set_cons_zero, List.set_cons_succ, i64_w, i32_w]
    rfl
  refine pure_ (i := 6) (N := some 35) (v := ?_) (a' := ?_) #[true, true, true, true, true, true, true, false, false, false, false, false] rfl rfl (by kernel_rfl) (fun _ _ _ h => h) (Or.inl ⟨by rfl, ?_⟩) ?_ ?_
  rotate_left
  · intro w'
    go_simp
    with_reducible rfl
  rotate_left
  · simp only [Act.put, List.setIfInBounds_toArray, List.set_cons_zero, List.set_cons_succ, i64_w, i32_w]
    rfl
  refine one_ (i := 7) (N := some 36) #[true, true, true, true, true, true, true, true, false, false, false, false] rfl rfl (by kernel_rfl) (by decide) (fun K hK => ?_)
  refine goes_ Try.func34 (by kernel_rfl) rfl #[.int .i64 1] (by rfl) rfl rfl (by (try simp only [List.map_toArray, List.map_cons, List.map_nil]); first | done | rfl | (simp only [List.length_drop, List.length_take]; rfl)) ?_
  with_reducible refine (geom_least.calls 1 l _ HL.out).mono ?_
  rintro e w_ ⟨rfl, ⟨nd_, rfl⟩⟩
  refine ⟨_, rfl, ?_⟩
  have NBKg2_ := Aside0.mk (blk_drewN BKg2.out nd_)
  have NBKg3_ := Aside0.mk (blk_drewN BKg3.out nd_)
  have NBKg7_ := Aside0.mk (blk_drewN BKg7.out nd_)
  have NHB_ := Aside0.mk (pw_below_drewN HB.out nd_)
  clear BKg2 BKg3 BKg7 HB
  have BKg2 := NBKg2_
  have BKg3 := NBKg3_
  have BKg7 := NBKg7_
  have HB := NHB_
  clear NBKg2_ NBKg3_ NBKg7_ NHB_
  refine hK.out _ _ ⟨(blk_cell BKg3.out 0).trans rfl, (blk_cell BKg7.out 0).trans rfl, (blk_cell BKg7.out 1).trans rfl, (blk_cell BKg7.out 2).trans rfl, (blk_cell BKg7.out 3).trans rfl, (blk_cell BKg7.out 4).trans rfl, (blk_cell BKg7.out 5).trans rfl⟩ (fun hHeld => ?_)
  clear hK K
  refine norm_ (a' := ?_) ?_ ?_
  rotate_left
  · show Act.put _ (some 36) _ = _
    simp only [Act.put, List.setIfInBounds_toArray, List.set_cons_zero, List.set_cons_succ, i64_w, i32_w]
    rfl
  generalize W6.drewN nd_ = W7 at BKg2 BKg3 BKg7 HB hHeld ⊢
  refine pure_ (i := 8) (N := some 37) (v := ?_) (a' := ?_) #[true, true, true, true, true, true, true, true, true, false, false, false] rfl rfl (by kernel_rfl) (fun _ _ _ h => h) (Or.inl ⟨by rfl, ?_⟩) ?_ ?_
  rotate_left
  · intro w'
    go_simp
    with_reducible rfl
  rotate_left
  · simp only [Act.put, List.setIfInBounds_toArray, List.set_cons_zero, List.set_cons_succ, i64_w, i32_w]
    rfl
  refine pure_ (i := 9) (N := some 4) (v := ?_) (a' := ?_) #[true, true, true, true, true, true, true, true, true, true, false, false] rfl rfl (by kernel_rfl) (fun _ _ _ h => h) (Or.inl ⟨by rfl, ?_⟩) ?_ ?_
  rotate_left
  · intro w'
    go_simp
    with_reducible rfl
  rotate_left
  · simp only [Act.put, List.setIfInBounds_toArray, List.set_cons_zero, List.set_cons_succ, i64_w, i32_w]
    rfl
  refine pure_ (i := 10) (N := some 5) (v := ?_) (a' := ?_) #[true, true, true, true, true, true, true, true, true, true, true, false] rfl rfl (by kernel_rfl) (fun _ _ _ h => h) (Or.inl ⟨by rfl, ?_⟩) ?_ ?_
  rotate_left
  · intro w'
    go_simp
    with_reducible rfl
  rotate_left
  · simp only [Act.put, List.setIfInBounds_toArray, List.set_cons_zero, List.set_cons_succ, i64_w, i32_w]
    rfl
  refine pure_ (i := 11) (N := some 6) (v := ?_) (a' := ?_) #[true, true, true, true, true, true, true, true, true, true, true, true] rfl rfl (by kernel_rfl) (fun _ _ _ h => h) (Or.inl ⟨by rfl, ?_⟩) ?_ ?_
  rotate_left
  · intro w'
    go_simp
    with_reducible rfl
  rotate_left
  · simp only [Act.put, List.setIfInBounds_toArray, List.set_cons_zero, List.set_cons_succ, i64_w, i32_w]
    rfl
  refine done_ (by kernel_rfl) ?_
  go_wp2
  go_ret3
  exact ⟨by first | rfl | (simp; done) | (simp [*]; done), HB.out⟩
set_option maxHeartbeats 4000000 in
set_option maxRecDepth 100000 in
theorem geom_What.at2 (k : Nat) (M R pl s hf nd l : Int) (w : World) (H1 : Aside0 (geom_is.f M R = some true)) (HS : Aside0 (geom_Sectors.f k M R = some s)) (H2 : Aside0 (geom_Half.f k M R = some hf)) (H3 : Aside0 (geom_Nodes.f k M R = some nd)) (HL : Aside0 (geom_least.f 2 = some l)) (c : decide (pl < 0) = false) (d : decide (s ≤ pl) = false) (d2 : decide (pl < 8) = false) (d3 : decide (pl < (wrap64 (8 + wrap64 (2 * hf)))) = true) :
    Calls Try.prog 28 #[.agg #[.int .i64 M, .int .i64 R], .int .i64 pl] w fun e w' => e = .returned (.tuple #[.int .i64 2, .int .i64 (wrap64 (wrap64 (pl - 8) + l)), .int .i64 0]) ∧ Below w.heap.size w w' := by
  have HB := Aside0.mk (Below.refl w.heap.size w)
  go_enter Try.func28, Try.ntmps28
  go_wp2_with fail
  obtain ⟨q0_, q1_, nb_⟩ := Wk.blks2 w (.cells #[.int .i64 M, .int .i64 R] 23 (0, 0)) (.cells #[.int .i64 pl] 3 (0, 0))
  obtain ⟨W0, hW_⟩ : ∃ W, W = ((w.alloc (.cells #[.int .i64 M, .int .i64 R] 23 (0, 0))).alloc (.cells #[.int .i64 pl] 3 (0, 0))) := ⟨_, rfl⟩
  rw [← hW_]
  rw [← hW_] at q0_
  rw [← hW_] at q1_
  rw [← hW_] at nb_
  have sz_ := below_size HB.out
  have hb2_ := Aside0.mk (below_step HB.out nb_)
  obtain ⟨g2, hgg2_⟩ : ∃ g, g = w.heap.size := ⟨_, rfl⟩
  obtain ⟨g3, hgg3_⟩ : ∃ g, g = w.heap.size + 1 := ⟨_, rfl⟩
  rw [← hgg3_]
  rw [← hgg3_] at q1_
  rw [← hgg2_]
  rw [← hgg2_] at q0_
  have GEg2 := Aside0.mk (show w.heap.size ≤ g2 by omega)
  have GEg3 := Aside0.mk (show w.heap.size ≤ g3 by omega)
  have Dg2g3 : g2 ≠ g3 := by omega
  have Dg3g2 : g3 ≠ g2 := by omega
  have BKg2 := Aside0.mk q0_
  have BKg3 := Aside0.mk q1_
  clear HB
  have HB := hb2_
  clear hb2_ hW_ nb_ sz_ hgg2_ hgg3_ q0_ q1_
  have NBKg2_ := Aside0.mk (blk_drew BKg2.out)
  have NBKg3_ := Aside0.mk (blk_drew BKg3.out)
  have NHB_ := Aside0.mk (below_drew1 HB.out)
  clear BKg2 BKg3 HB
  have BKg2 := NBKg2_
  have BKg3 := NBKg3_
  have HB := NHB_
  clear NBKg2_ NBKg3_ NHB_
  refine start_ (n := 13) (S := fun w' => w'.cell? ⟨g2, 0, none⟩ = some (.int .i64 M) ∧ w'.cell? ⟨g2, 1, none⟩ = some (.int .i64 R) ∧ w'.cell? ⟨g3, 0, none⟩ = some (.int .i64 pl)) (ds := []) #[false, false, false, false, false, false, false, false, false, false, false, false, false] (by kernel_rfl) rfl rfl ⟨(blk_cell BKg2.out 0).trans rfl, (blk_cell BKg2.out 1).trans rfl, (blk_cell BKg3.out 0).trans rfl⟩ (fun hHeld => ?_)
  generalize W0.drew = W1 at BKg2 BKg3 HB hHeld ⊢
  refine take_ (i := 0) (N := some 9) (v := ?_) (a' := ?_) #[true, false, false, false, false, false, false, false, false, false, false, false, false] rfl rfl (by kernel_rfl) (fun _ _ _ h => h) (Or.inl ⟨by rfl, ?_⟩) hHeld ?_ ?_
  rotate_left
  · rintro w' ⟨s0, s1, s2⟩
    go_simp
    with_reducible rfl
  rotate_left
  · simp only [Act.put, List.setIfInBounds_toArray, List.set_cons_zero, List.set_cons_succ, i64_w, i32_w]
    rfl
  refine one_ (i := 1) (N := some 10) #[true, true, false, false, false, false, false, false, false, false, false, false, false] rfl rfl (by kernel_rfl) (by decide) (fun K hK => ?_)
  refine goes_ Try.func30 (by kernel_rfl) rfl #[.agg #[.int .i64 M, .int .i64 R]] (by rfl) rfl rfl (by (try simp only [List.map_toArray, List.map_cons, List.map_nil]); first | done | rfl | (simp only [List.length_drop, List.length_take]; rfl)) ?_
  with_reducible refine (geom_is.calls M R true _ H1.out).mono ?_
  rintro e W2 ⟨rfl, hb⟩
  refine ⟨_, rfl, ?_⟩
  have NBKg2_ := Aside0.mk (blk_below (o := .cells #[.int .i64 M, .int .i64 R] 23 (0, 0)) (by (with_reducible repeat (first | refine blk_drewN ?_ _ | refine blk_drew ?_ | refine blk_alloc ?_ _)); exact BKg2.out) hb)
  have NBKg3_ := Aside0.mk (blk_below (o := .cells #[.int .i64 pl] 3 (0, 0)) (by (with_reducible repeat (first | refine blk_drewN ?_ _ | refine blk_drew ?_ | refine blk_alloc ?_ _)); exact BKg3.out) hb)
  have NHB_ := Aside0.mk (below_step (by repeat (first | (with_reducible first | exact HB.out | apply below_alloc | apply pw_below_drewN | apply below_drew1) | exact HB.out)) hb)
  clear BKg2 BKg3 HB
  have BKg2 := NBKg2_
  have BKg3 := NBKg3_
  have HB := NHB_
  clear NBKg2_ NBKg3_ NHB_
  clear hb
  refine hK.out _ _ ⟨(blk_cell BKg2.out 0).trans rfl, (blk_cell BKg2.out 1).trans rfl, (blk_cell BKg3.out 0).trans rfl⟩ (fun hHeld => ?_)
  clear hK K
  refine norm_ (a' := ?_) ?_ ?_
  rotate_left
  · show Act.put _ (some 10) _ = _
    simp only [Act.put, List.setIfInBounds_toArray, List.set_cons_zero, List.set_cons_succ, i64_w, i32_w]
    rfl
  refine pure_ (i := 2) (N := some 11) (v := ?_) (a' := ?_) #[true, true, true, false, false, false, false, false, false, false, false, false, false] rfl rfl (by kernel_rfl) (fun _ _ _ h => h) (Or.inl ⟨by rfl, ?_⟩) ?_ ?_
  rotate_left
  · intro w'
    go_simp
    with_reducible rfl
  rotate_left
  · simp only [Act.put, List.setIfInBounds_toArray, List.set_cons_zero, List.set_cons_succ, i64_w, i32_w]
    rfl
  refine pure_ (i := 3) (N := some 12) (v := ?_) (a' := ?_) #[true, true, true, true, false, false, false, false, false, false, false, false, false] rfl rfl (by kernel_rfl) (fun _ _ _ h => h) (Or.inl ⟨by rfl, ?_⟩) ?_ ?_
  rotate_left
  · intro w'
    go_simp
    with_reducible rfl
  rotate_left
  · simp only [Act.put, List.setIfInBounds_toArray, List.set_cons_zero, List.set_cons_succ, i64_w, i32_w]
    rfl
  refine take_ (i := 4) (N := some 13) (v := ?_) (a' := ?_) #[true, true, true, true, true, false, false, false, false, false, false, false, false] rfl rfl (by kernel_rfl) (fun _ _ _ h => h) (Or.inl ⟨by rfl, ?_⟩) hHeld ?_ ?_
  rotate_left
  · rintro w' ⟨s0, s1, s2⟩
    go_simp
    with_reducible rfl
  rotate_left
  · simp only [Act.put, List.setIfInBounds_toArray, List.set_cons_zero, List.set_cons_succ, i64_w, i32_w]
    rfl
  refine pure_ (i := 5) (N := some 14) (v := ?_) (a' := ?_) #[true, true, true, true, true, true, false, false, false, false, false, false, false] rfl rfl (by kernel_rfl) (fun _ _ _ h => h) (Or.inl ⟨by rfl, ?_⟩) ?_ ?_
  rotate_left
  · intro w'
    go_simp
    with_reducible rfl
  rotate_left
  · simp only [Act.put, List.setIfInBounds_toArray, List.set_cons_zero, List.set_cons_succ, i64_w, i32_w]
    rfl
  refine pure_ (i := 6) (N := some 15) (v := ?_) (a' := ?_) #[true, true, true, true, true, true, true, false, false, false, false, false, false] rfl rfl (by kernel_rfl) (fun _ _ _ h => h) (Or.inl ⟨by rfl, ?_⟩) ?_ ?_
  rotate_left
  · intro w'
    go_simp
    with_reducible rfl
  rotate_left
  · simp only [Act.put, List.setIfInBounds_toArray, List.set_cons_zero, List.set_cons_succ, i64_w, i32_w]
    rfl
  refine pure_ (i := 7) (N := some 16) (v := ?_) (a' := ?_) #[true, true, true, true, true, true, true, true, false, false, false, false, false] rfl rfl (by kernel_rfl) (fun _ _ _ h => h) (Or.inl ⟨by rfl, ?_⟩) ?_ ?_
  rotate_left
  · intro w'
    go_simp
    with_reducible rfl
  rotate_left
  · simp only [Act.put, List.setIfInBounds_toArray, List.set_cons_zero, List.set_cons_succ, i64_w, i32_w]
    rfl
  refine take_ (i := 8) (N := some 17) (v := ?_) (a' := ?_) #[true, true, true, true, true, true, true, true, true, false, false, false, false] rfl rfl (by kernel_rfl) (fun _ _ _ h => h) (Or.inl ⟨by rfl, ?_⟩) hHeld ?_ ?_
  rotate_left
  · rintro w' ⟨s0, s1, s2⟩
    go_simp
    with_reducible rfl
  rotate_left
  · simp only [Act.put, List.setIfInBounds_toArray, List.set_cons_zero, List.set_cons_succ, i64_w, i32_w]
    rfl
  refine take_ (i := 9) (N := some 18) (v := ?_) (a' := ?_) #[true, true, true, true, true, true, true, true, true, true, false, false, false] rfl rfl (by kernel_rfl) (fun _ _ _ h => h) (Or.inl ⟨by rfl, ?_⟩) hHeld ?_ ?_
  rotate_left
  · rintro w' ⟨s0, s1, s2⟩
    go_simp
    with_reducible rfl
  rotate_left
  · simp only [Act.put, List.setIfInBounds_toArray, List.set_cons_zero, List.set_cons_succ, i64_w, i32_w]
    rfl
  refine one_ (i := 10) (N := some 19) #[true, true, true, true, true, true, true, true, true, true, true, false, false] rfl rfl (by kernel_rfl) (by decide) (fun K hK => ?_)
  refine goes_ Try.func23 (by kernel_rfl) rfl #[.agg #[.int .i64 M, .int .i64 R]] (by rfl) rfl rfl (by (try simp only [List.map_toArray, List.map_cons, List.map_nil]); first | done | rfl | (simp only [List.length_drop, List.length_take]; rfl)) ?_
  with_reducible refine (geom_Sectors.calls k M R s _ HS.out).mono ?_
  rintro e W3 ⟨rfl, hb⟩
  refine ⟨_, rfl, ?_⟩
  have NBKg2_ := Aside0.mk (blk_below (o := .cells #[.int .i64 M, .int .i64 R] 23 (0, 0)) (by (with_reducible repeat (first | refine blk_drewN ?_ _ | refine blk_drew ?_ | refine blk_alloc ?_ _)); exact BKg2.out) hb)
  have NBKg3_ := Aside0.mk (blk_below (o := .cells #[.int .i64 pl] 3 (0, 0)) (by (with_reducible repeat (first | refine blk_drewN ?_ _ | refine blk_drew ?_ | refine blk_alloc ?_ _)); exact BKg3.out) hb)
  have NHB_ := Aside0.mk (below_step (by repeat (first | (with_reducible first | exact HB.out | apply below_alloc | apply pw_below_drewN | apply below_drew1) | exact HB.out)) hb)
  clear BKg2 BKg3 HB
  have BKg2 := NBKg2_
  have BKg3 := NBKg3_
  have HB := NHB_
  clear NBKg2_ NBKg3_ NHB_
  clear hb
  refine hK.out _ _ ⟨(blk_cell BKg2.out 0).trans rfl, (blk_cell BKg2.out 1).trans rfl, (blk_cell BKg3.out 0).trans rfl⟩ (fun hHeld => ?_)
  clear hK K
  refine norm_ (a' := ?_) ?_ ?_
  rotate_left
  · show Act.put _ (some 19) _ = _
    simp only [Act.put, List.setIfInBounds_toArray, List.set_cons_zero, List.set_cons_succ, i64_w, i32_w]
    rfl
  refine pure_ (i := 11) (N := some 20) (v := ?_) (a' := ?_) #[true, true, true, true, true, true, true, true, true, true, true, true, false] rfl rfl (by kernel_rfl) (fun _ _ _ h => h) (Or.inl ⟨by rfl, ?_⟩) ?_ ?_
  rotate_left
  · intro w'
    go_simp
    with_reducible rfl
  rotate_left
  · simp only [Act.put, List.setIfInBounds_toArray, List.set_cons_zero, List.set_cons_succ, i64_w, i32_w]
    rfl
  refine pure_ (i := 12) (N := some 21) (v := ?_) (a' := ?_) #[true, true, true, true, true, true, true, true, true, true, true, true, true] rfl rfl (by kernel_rfl) (fun _ _ _ h => h) (Or.inl ⟨by rfl, ?_⟩) ?_ ?_
  rotate_left
  · intro w'
    go_simp
    with_reducible rfl
  rotate_left
  · simp only [Act.put, List.setIfInBounds_toArray, List.set_cons_zero, List.set_cons_succ, i64_w, i32_w]
    rfl
  refine done_ (by kernel_rfl) ?_
  obtain ⟨cg2_0, cg2_1⟩ := Wk.cells2 BKg2.out
  have fg2_0 := blk_frozen BKg2.out 0
  have fg2_1 := blk_frozen BKg2.out 1
  have cg3_0 := Wk.cells1 BKg3.out
  have fg3_0 := blk_frozen BKg3.out 0
  go_wp2_with fail
  clear cg2_0 fg2_0 cg2_1 fg2_1 cg3_0 fg3_0
  with_reducible refine (geom_firsts.calls k M R hf nd _ H2.out H3.out).mono ?_
  rintro e W4 ⟨rfl, hb⟩
  have NBKg2_ := Aside0.mk (blk_below (o := .cells #[.int .i64 M, .int .i64 R] 23 (0, 0)) (by (with_reducible repeat (first | refine blk_drewN ?_ _ | refine blk_drew ?_ | refine blk_alloc ?_ _)); exact BKg2.out) hb)
  have NBKg3_ := Aside0.mk (blk_below (o := .cells #[.int .i64 pl] 3 (0, 0)) (by (with_reducible repeat (first | refine blk_drewN ?_ _ | refine blk_drew ?_ | refine blk_alloc ?_ _)); exact BKg3.out) hb)
  have NHB_ := Aside0.mk (below_step (by repeat (first | (with_reducible first | exact HB.out | apply below_alloc | apply pw_below_drewN | apply below_drew1) | exact HB.out)) hb)
  clear BKg2 BKg3 HB
  have BKg2 := NBKg2_
  have BKg3 := NBKg3_
  have HB := NHB_
  clear NBKg2_ NBKg3_ NHB_
  clear hb
  obtain ⟨cg2_0, cg2_1⟩ := Wk.cells2 BKg2.out
  have fg2_0 := blk_frozen BKg2.out 0
  have fg2_1 := blk_frozen BKg2.out 1
  have cg3_0 := Wk.cells1 BKg3.out
  have fg3_0 := blk_frozen BKg3.out 0
  go_wp2_with fail
  clear cg2_0 fg2_0 cg2_1 fg2_1 cg3_0 fg3_0
  obtain ⟨q0_, nb_⟩ := Wk.blks1 W4 (.cells #[.int .i64 0, .int .i64 0, .int .i64 8, .int .i64 (wrap64 (8 + wrap64 (2 * hf))), .int .i64 (wrap64 (wrap64 (8 + wrap64 (2 * hf)) + nd)), .int .i64 (wrap64 (wrap64 (wrap64 (8 + wrap64 (2 * hf)) + nd) + R))] 43 (0, 0))
  obtain ⟨W5, hW_⟩ : ∃ W, W = (W4.alloc (.cells #[.int .i64 0, .int .i64 0, .int .i64 8, .int .i64 (wrap64 (8 + wrap64 (2 * hf))), .int .i64 (wrap64 (wrap64 (8 + wrap64 (2 * hf)) + nd)), .int .i64 (wrap64 (wrap64 (wrap64 (8 + wrap64 (2 * hf)) + nd) + R))] 43 (0, 0))) := ⟨_, rfl⟩
  rw [← hW_]
  rw [← hW_] at q0_
  rw [← hW_] at nb_
  have mg2_ := blk_below BKg2.out nb_
  have mg3_ := blk_below BKg3.out nb_
  have sz_ := below_size HB.out
  have ltg2_ := blk_lt BKg2.out
  have ltg3_ := blk_lt BKg3.out
  have hb2_ := Aside0.mk (below_step HB.out nb_)
  obtain ⟨g7, hgg7_⟩ : ∃ g, g = W4.heap.size := ⟨_, rfl⟩
  rw [← hgg7_]
  rw [← hgg7_] at q0_
  have GEg7 := Aside0.mk (show w.heap.size ≤ g7 by omega)
  have Dg2g7 : g2 ≠ g7 := by omega
  have Dg7g2 : g7 ≠ g2 := by omega
  have Dg3g7 : g3 ≠ g7 := by omega
  have Dg7g3 : g7 ≠ g3 := by omega
  have BNg2 := Aside0.mk mg2_
  clear BKg2
  have BKg2 := BNg2
  clear BNg2 ltg2_ mg2_
  have BNg3 := Aside0.mk mg3_
  clear BKg3
  have BKg3 := BNg3
  clear BNg3 ltg3_ mg3_
  have BKg7 := Aside0.mk q0_
  clear HB
  have HB := hb2_
  clear hb2_ hW_ nb_ sz_ hgg7_ q0_
  have hx_ : ∀ j, j < 6 → W5.cell? ⟨g7, j, none⟩ = some (.int .i64 (([0, 0, 8, (wrap64 (8 + wrap64 (2 * hf))), (wrap64 (wrap64 (8 + wrap64 (2 * hf)) + nd)), (wrap64 (wrap64 (wrap64 (8 + wrap64 (2 * hf)) + nd) + R))] : List Int).getD j 0)) := by
    intro j hj
    have hc_ := blk_cell BKg7.out j
    have : j = 0 ∨ j = 1 ∨ j = 2 ∨ j = 3 ∨ j = 4 ∨ j = 5 := by omega
    rcases this with rfl | rfl | rfl | rfl | rfl | rfl <;> exact hc_.trans rfl
  have h2_ : ∀ j, j < 3 → ([0, 0, 8, (wrap64 (8 + wrap64 (2 * hf))), (wrap64 (wrap64 (8 + wrap64 (2 * hf)) + nd)), (wrap64 (wrap64 (wrap64 (8 + wrap64 (2 * hf)) + nd) + R))] : List Int).getD j 0 ≤ pl := by
    intro j hj
    have c' : ¬ pl < 0 := of_decide_eq_false c
    have d2' : ¬ pl < 8 := of_decide_eq_false d2
    have : j = 0 ∨ j = 1 ∨ j = 2 := by omega
    rcases this with rfl | rfl | rfl <;> simp only [List.getD_eq_getElem?_getD, List.getElem?_cons_zero, List.getElem?_cons_succ, Option.getD_some] <;> omega
  with_reducible refine (indexfunc.calls ([0, 0, 8, (wrap64 (8 + wrap64 (2 * hf))), (wrap64 (wrap64 (8 + wrap64 (2 * hf)) + nd)), (wrap64 (wrap64 (wrap64 (8 + wrap64 (2 * hf)) + nd) + R))] : List Int) pl g3 g7 3 _ (Wk.cells1 BKg3.out) hx_ (by omega) (by have t_ := of_decide_eq_true d3; simpa using t_) h2_).mono ?_
  rintro e w_ ⟨rfl, rfl⟩
  clear hx_ h2_
  obtain ⟨cg2_0, cg2_1⟩ := Wk.cells2 BKg2.out
  have fg2_0 := blk_frozen BKg2.out 0
  have fg2_1 := blk_frozen BKg2.out 1
  have cg3_0 := Wk.cells1 BKg3.out
  have fg3_0 := blk_frozen BKg3.out 0
  obtain ⟨cg7_0, cg7_1, cg7_2, cg7_3, cg7_4, cg7_5⟩ := Wk.cells6 BKg7.out
  have fg7_0 := blk_frozen BKg7.out 0
  have fg7_1 := blk_frozen BKg7.out 1
  have fg7_2 := blk_frozen BKg7.out 2
  have fg7_3 := blk_frozen BKg7.out 3
  have fg7_4 := blk_frozen BKg7.out 4
  have fg7_5 := blk_frozen BKg7.out 5
  have wq : wrap64 2 = 2 := by unfold wrap64; omega
  go_wp2_with fail
  clear cg2_0 fg2_0 cg2_1 fg2_1 cg3_0 fg3_0 cg7_0 fg7_0 cg7_1 fg7_1 cg7_2 fg7_2 cg7_3 fg7_3 cg7_4 fg7_4 cg7_5 fg7_5
  have NBKg2_ := Aside0.mk (blk_drew BKg2.out)
  have NBKg3_ := Aside0.mk (blk_drew BKg3.out)
  have NBKg7_ := Aside0.mk (blk_drew BKg7.out)
  have NHB_ := Aside0.mk (below_drew1 HB.out)
  clear BKg2 BKg3 BKg7 HB
  have BKg2 := NBKg2_
  have BKg3 := NBKg3_
  have BKg7 := NBKg7_
  have HB := NHB_
  clear NBKg2_ NBKg3_ NBKg7_ NHB_
  refine start_ (n := 12) (S := fun w' => w'.cell? ⟨g3, 0, none⟩ = some (.int .i64 pl) ∧ w'.cell? ⟨g7, 0, none⟩ = some (.int .i64 0) ∧ w'.cell? ⟨g7, 1, none⟩ = some (.int .i64 0) ∧ w'.cell? ⟨g7, 2, none⟩ = some (.int .i64 8) ∧ w'.cell? ⟨g7, 3, none⟩ = some (.int .i64 (wrap64 (8 + wrap64 (2 * hf)))) ∧ w'.cell? ⟨g7, 4, none⟩ = some (.int .i64 (wrap64 (wrap64 (8 + wrap64 (2 * hf)) + nd))) ∧ w'.cell? ⟨g7, 5, none⟩ = some (.int .i64 (wrap64 (wrap64 (wrap64 (8 + wrap64 (2 * hf)) + nd) + R)))) (ds := []) #[false, false, false, false, false, false, false, false, false, false, false, false] (by kernel_rfl) rfl rfl ⟨(blk_cell BKg3.out 0).trans rfl, (blk_cell BKg7.out 0).trans rfl, (blk_cell BKg7.out 1).trans rfl, (blk_cell BKg7.out 2).trans rfl, (blk_cell BKg7.out 3).trans rfl, (blk_cell BKg7.out 4).trans rfl, (blk_cell BKg7.out 5).trans rfl⟩ (fun hHeld => ?_)
  generalize W5.drew = W6 at BKg2 BKg3 BKg7 HB hHeld ⊢
  refine pure_ (i := 0) (N := some 29) (v := ?_) (a' := ?_) #[true, false, false, false, false, false, false, false, false, false, false, false] rfl rfl (by kernel_rfl) (fun _ _ _ h => h) (Or.inl ⟨by rfl, ?_⟩) ?_ ?_
  rotate_left
  · intro w'
    go_simp
    with_reducible rfl
  rotate_left
  · simp only [Act.put, List.setIfInBounds_toArray, List.set_cons_zero, List.set_cons_succ, i64_w, i32_w]
    rfl
  refine take_ (i := 1) (N := some 30) (v := ?_) (a' := ?_) #[true, true, false, false, false, false, false, false, false, false, false, false] rfl rfl (by kernel_rfl) (fun _ _ _ h => h) (Or.inl ⟨by rfl, ?_⟩) hHeld ?_ ?_
  rotate_left
  · rintro w' ⟨s0, s1, s2, s3, s4, s5, s6⟩
    go_simp
    with_reducible rfl
  rotate_left
  · simp only [Act.put, List.setIfInBounds_toArray, List.set_cons_zero, List.set_cons_succ, i64_w, i32_w]
    rfl
  refine pure_ (i := 2) (N := some 31) (v := ?_) (a' := ?_) #[true, true, true, false, false, false, false, false, false, false, false, false] rfl rfl (by kernel_rfl) (fun _ _ _ h => h) (Or.inl ⟨by rfl, ?_⟩) ?_ ?_
  rotate_left
  · intro w'
    go_simp
    with_reducible rfl
  rotate_left
  · simp only [Act.put, List.setIfInBounds_toArray, List.set_cons_zero, List.set_cons_succ, i64_w, i32_w]
    rfl
  refine pure_ (i := 3) (N := some 32) (v := ?_) (a' := ?_) #[true, true, true, true, false, false, false, false, false, false, false, false] rfl rfl (by kernel_rfl) (fun _ _ _ h => h) (Or.inl ⟨by rfl, ?_⟩) ?_ ?_
  rotate_left
  · intro w'
    go_simp
    with_reducible rfl
  rotate_left
  · simp only [Act.put, List.setIfInBounds_toArray, List.set_cons_zero, List.set_cons_succ, i64_w, i32_w]
    rfl
  refine take_ (i := 4) (N := some 33) (v := ?_) (a' := ?_) #[true, true, true, true, true, false, false, false, false, false, false, false] rfl rfl (by kernel_rfl) (fun _ _ _ h => h) (Or.inl ⟨by rfl, ?_⟩) hHeld ?_ ?_
  rotate_left
  · rintro w' ⟨s0, s1, s2, s3, s4, s5, s6⟩
    go_simp
    with_reducible rfl
  rotate_left
  · simp only [Act.put, List.setIfInBounds_toArray, List.set_cons_zero, List.set_cons_succ, i64_w, i32_w]
    rfl
  refine pure_ (i := 5) (N := some 34) (v := ?_) (a' := ?_) #[true, true, true, true, true, true, false, false, false, false, false, false] rfl rfl (by kernel_rfl) (fun _ _ _ h => h) (Or.inl ⟨by rfl, ?_⟩) ?_ ?_
  rotate_left
  · intro w'
    go_simp
    with_reducible rfl
  rotate_left
  · simp only [Act.put, List.setIfInBounds_toArray, List.set_cons_zero, List.set_cons_succ, i64_w, i32_w]
    rfl
  refine pure_ (i := 6) (N := some 35) (v := ?_) (a' := ?_) #[true, true, true, true, true, true, true, false, false, false, false, false] rfl rfl (by kernel_rfl) (fun _ _ _ h => h) (Or.inl ⟨by rfl, ?_⟩) ?_ ?_
  rotate_left
  · intro w'
    go_simp
    with_reducible rfl
  rotate_left
  · simp only [Act.put, List.setIfInBounds_toArray, List.set_cons_zero, List.set_cons_succ, i64_w, i32_w]
    rfl
  refine one_ (i := 7) (N := some 36) #[true, true, true, true, true, true, true, true, false, false, false, false] rfl rfl (by kernel_rfl) (by decide) (fun K hK => ?_)
  refine goes_ Try.func34 (by kernel_rfl) rfl #[.int .i64 2] (by rfl) rfl rfl (by (try simp only [List.map_toArray, List.map_cons, List.map_nil]); first | done | rfl | (simp only [List.length_drop, List.length_take]; rfl)) ?_
  with_reducible refine (geom_least.calls 2 l _ HL.out).mono ?_
  rintro e w_ ⟨rfl, ⟨nd_, rfl⟩⟩
  refine ⟨_, rfl, ?_⟩
  have NBKg2_ := Aside0.mk (blk_drewN BKg2.out nd_)
  have NBKg3_ := Aside0.mk (blk_drewN BKg3.out nd_)
  have NBKg7_ := Aside0.mk (blk_drewN BKg7.out nd_)
  have NHB_ := Aside0.mk (pw_below_drewN HB.out nd_)
  clear BKg2 BKg3 BKg7 HB
  have BKg2 := NBKg2_
  have BKg3 := NBKg3_
  have BKg7 := NBKg7_
  have HB := NHB_
  clear NBKg2_ NBKg3_ NBKg7_ NHB_
  refine hK.out _ _ ⟨(blk_cell BKg3.out 0).trans rfl, (blk_cell BKg7.out 0).trans rfl, (blk_cell BKg7.out 1).trans rfl, (blk_cell BKg7.out 2).trans rfl, (blk_cell BKg7.out 3).trans rfl, (blk_cell BKg7.out 4).trans rfl, (blk_cell BKg7.out 5).trans rfl⟩ (fun hHeld => ?_)
  clear hK K
  refine norm_ (a' := ?_) ?_ ?_
  rotate_left
  · show Act.put _ (some 36) _ = _
    simp only [Act.put, List.setIfInBounds_toArray, List.set_cons_zero, List.set_cons_succ, i64_w, i32_w]
    rfl
  generalize W6.drewN nd_ = W7 at BKg2 BKg3 BKg7 HB hHeld ⊢
  refine pure_ (i := 8) (N := some 37) (v := ?_) (a' := ?_) #[true, true, true, true, true, true, true, true, true, false, false, false] rfl rfl (by kernel_rfl) (fun _ _ _ h => h) (Or.inl ⟨by rfl, ?_⟩) ?_ ?_
  rotate_left
  · intro w'
    go_simp
    with_reducible rfl
  rotate_left
  · simp only [Act.put, List.setIfInBounds_toArray, List.set_cons_zero, List.set_cons_succ, i64_w, i32_w]
    rfl
  refine pure_ (i := 9) (N := some 4) (v := ?_) (a' := ?_) #[true, true, true, true, true, true, true, true, true, true, false, false] rfl rfl (by kernel_rfl) (fun _ _ _ h => h) (Or.inl ⟨by rfl, ?_⟩) ?_ ?_
  rotate_left
  · intro w'
    go_simp
    with_reducible rfl
  rotate_left
  · simp only [Act.put, List.setIfInBounds_toArray, List.set_cons_zero, List.set_cons_succ, i64_w, i32_w]
    rfl
  refine pure_ (i := 10) (N := some 5) (v := ?_) (a' := ?_) #[true, true, true, true, true, true, true, true, true, true, true, false] rfl rfl (by kernel_rfl) (fun _ _ _ h => h) (Or.inl ⟨by rfl, ?_⟩) ?_ ?_
  rotate_left
  · intro w'
    go_simp
    with_reducible rfl
  rotate_left
  · simp only [Act.put, List.setIfInBounds_toArray, List.set_cons_zero, List.set_cons_succ, i64_w, i32_w]
    rfl
  refine pure_ (i := 11) (N := some 6) (v := ?_) (a' := ?_) #[true, true, true, true, true, true, true, true, true, true, true, true] rfl rfl (by kernel_rfl) (fun _ _ _ h => h) (Or.inl ⟨by rfl, ?_⟩) ?_ ?_
  rotate_left
  · intro w'
    go_simp
    with_reducible rfl
  rotate_left
  · simp only [Act.put, List.setIfInBounds_toArray, List.set_cons_zero, List.set_cons_succ, i64_w, i32_w]
    rfl
  refine done_ (by kernel_rfl) ?_
  go_wp2
  go_ret3
  exact ⟨by first | rfl | (simp; done) | (simp [*]; done), HB.out⟩
set_option maxHeartbeats 4000000 in
set_option maxRecDepth 100000 in
theorem geom_What.at3 (k : Nat) (M R pl s hf nd l : Int) (w : World) (H1 : Aside0 (geom_is.f M R = some true)) (HS : Aside0 (geom_Sectors.f k M R = some s)) (H2 : Aside0 (geom_Half.f k M R = some hf)) (H3 : Aside0 (geom_Nodes.f k M R = some nd)) (HL : Aside0 (geom_least.f 3 = some l)) (c : decide (pl < 0) = false) (d : decide (s ≤ pl) = false) (d2 : decide (pl < 8) = false) (d3 : decide (pl < (wrap64 (8 + wrap64 (2 * hf)))) = false) (d4 : decide (pl < (wrap64 (wrap64 (8 + wrap64 (2 * hf)) + nd))) = true) :
    Calls Try.prog 28 #[.agg #[.int .i64 M, .int .i64 R], .int .i64 pl] w fun e w' => e = .returned (.tuple #[.int .i64 3, .int .i64 (wrap64 (wrap64 (pl - (wrap64 (8 + wrap64 (2 * hf)))) + l)), .int .i64 0]) ∧ Below w.heap.size w w' := by
  have HB := Aside0.mk (Below.refl w.heap.size w)
  go_enter Try.func28, Try.ntmps28
  go_wp2_with fail
  obtain ⟨q0_, q1_, nb_⟩ := Wk.blks2 w (.cells #[.int .i64 M, .int .i64 R] 23 (0, 0)) (.cells #[.int .i64 pl] 3 (0, 0))
  obtain ⟨W0, hW_⟩ : ∃ W, W = ((w.alloc (.cells #[.int .i64 M, .int .i64 R] 23 (0, 0))).alloc (.cells #[.int .i64 pl] 3 (0, 0))) := ⟨_, rfl⟩
  rw [← hW_]
  rw [← hW_] at q0_
  rw [← hW_] at q1_
  rw [← hW_] at nb_
  have sz_ := below_size HB.out
  have hb2_ := Aside0.mk (below_step HB.out nb_)
  obtain ⟨g2, hgg2_⟩ : ∃ g, g = w.heap.size := ⟨_, rfl⟩
  obtain ⟨g3, hgg3_⟩ : ∃ g, g = w.heap.size + 1 := ⟨_, rfl⟩
  rw [← hgg3_]
  rw [← hgg3_] at q1_
  rw [← hgg2_]
  rw [← hgg2_] at q0_
  have GEg2 := Aside0.mk (show w.heap.size ≤ g2 by omega)
  have GEg3 := Aside0.mk (show w.heap.size ≤ g3 by omega)
  have Dg2g3 : g2 ≠ g3 := by omega
  have Dg3g2 : g3 ≠ g2 := by omega
  have BKg2 := Aside0.mk q0_
  have BKg3 := Aside0.mk q1_
  clear HB
  have HB := hb2_
  clear hb2_ hW_ nb_ sz_ hgg2_ hgg3_ q0_ q1_
  have NBKg2_ := Aside0.mk (blk_drew BKg2.out)
  have NBKg3_ := Aside0.mk (blk_drew BKg3.out)
  have NHB_ := Aside0.mk (below_drew1 HB.out)
  clear BKg2 BKg3 HB
  have BKg2 := NBKg2_
  have BKg3 := NBKg3_
  have HB := NHB_
  clear NBKg2_ NBKg3_ NHB_
  refine start_ (n := 13) (S := fun w' => w'.cell? ⟨g2, 0, none⟩ = some (.int .i64 M) ∧ w'.cell? ⟨g2, 1, none⟩ = some (.int .i64 R) ∧ w'.cell? ⟨g3, 0, none⟩ = some (.int .i64 pl)) (ds := []) #[false, false, false, false, false, false, false, false, false, false, false, false, false] (by kernel_rfl) rfl rfl ⟨(blk_cell BKg2.out 0).trans rfl, (blk_cell BKg2.out 1).trans rfl, (blk_cell BKg3.out 0).trans rfl⟩ (fun hHeld => ?_)
  generalize W0.drew = W1 at BKg2 BKg3 HB hHeld ⊢
  refine take_ (i := 0) (N := some 9) (v := ?_) (a' := ?_) #[true, false, false, false, false, false, false, false, false, false, false, false, false] rfl rfl (by kernel_rfl) (fun _ _ _ h => h) (Or.inl ⟨by rfl, ?_⟩) hHeld ?_ ?_
  rotate_left
  · rintro w' ⟨s0, s1, s2⟩
    go_simp
    with_reducible rfl
  rotate_left
  · simp only [Act.put, List.setIfInBounds_toArray, List.set_cons_zero, List.set_cons_succ, i64_w, i32_w]
    rfl
  refine one_ (i := 1) (N := some 10) #[true, true, false, false, false, false, false, false, false, false, false, false, false] rfl rfl (by kernel_rfl) (by decide) (fun K hK => ?_)
  refine goes_ Try.func30 (by kernel_rfl) rfl #[.agg #[.int .i64 M, .int .i64 R]] (by rfl) rfl rfl (by (try simp only [List.map_toArray, List.map_cons, List.map_nil]); first | done | rfl | (simp only [List.length_drop, List.length_take]; rfl)) ?_
  with_reducible refine (geom_is.calls M R true _ H1.out).mono ?_
  rintro e W2 ⟨rfl, hb⟩
  refine ⟨_, rfl, ?_⟩
  have NBKg2_ := Aside0.mk (blk_below (o := .cells #[.int .i64 M, .int .i64 R] 23 (0, 0)) (by (with_reducible repeat (first | refine blk_drewN ?_ _ | refine blk_drew ?_ | refine blk_alloc ?_ _)); exact BKg2.out) hb)
  have NBKg3_ := Aside0.mk (blk_below (o := .cells #[.int .i64 pl] 3 (0, 0)) (by (with_reducible repeat (first | refine blk_drewN ?_ _ | refine blk_drew ?_ | refine blk_alloc ?_ _)); exact BKg3.out) hb)
  have NHB_ := Aside0.mk (below_step (by repeat (first | (with_reducible first | exact HB.out | apply below_alloc | apply pw_below_drewN | apply below_drew1) | exact HB.out)) hb)
  clear BKg2 BKg3 HB
  have BKg2 := NBKg2_
  have BKg3 := NBKg3_
  have HB := NHB_
  clear NBKg2_ NBKg3_ NHB_
  clear hb
  refine hK.out _ _ ⟨(blk_cell BKg2.out 0).trans rfl, (blk_cell BKg2.out 1).trans rfl, (blk_cell BKg3.out 0).trans rfl⟩ (fun hHeld => ?_)
  clear hK K
  refine norm_ (a' := ?_) ?_ ?_
  rotate_left
  · show Act.put _ (some 10) _ = _
    simp only [Act.put, List.setIfInBounds_toArray, List.set_cons_zero, List.set_cons_succ, i64_w, i32_w]
    rfl
  refine pure_ (i := 2) (N := some 11) (v := ?_) (a' := ?_) #[true, true, true, false, false, false, false, false, false, false, false, false, false] rfl rfl (by kernel_rfl) (fun _ _ _ h => h) (Or.inl ⟨by rfl, ?_⟩) ?_ ?_
  rotate_left
  · intro w'
    go_simp
    with_reducible rfl
  rotate_left
  · simp only [Act.put, List.setIfInBounds_toArray, List.set_cons_zero, List.set_cons_succ, i64_w, i32_w]
    rfl
  refine pure_ (i := 3) (N := some 12) (v := ?_) (a' := ?_) #[true, true, true, true, false, false, false, false, false, false, false, false, false] rfl rfl (by kernel_rfl) (fun _ _ _ h => h) (Or.inl ⟨by rfl, ?_⟩) ?_ ?_
  rotate_left
  · intro w'
    go_simp
    with_reducible rfl
  rotate_left
  · simp only [Act.put, List.setIfInBounds_toArray, List.set_cons_zero, List.set_cons_succ, i64_w, i32_w]
    rfl
  refine take_ (i := 4) (N := some 13) (v := ?_) (a' := ?_) #[true, true, true, true, true, false, false, false, false, false, false, false, false] rfl rfl (by kernel_rfl) (fun _ _ _ h => h) (Or.inl ⟨by rfl, ?_⟩) hHeld ?_ ?_
  rotate_left
  · rintro w' ⟨s0, s1, s2⟩
    go_simp
    with_reducible rfl
  rotate_left
  · simp only [Act.put, List.setIfInBounds_toArray, List.set_cons_zero, List.set_cons_succ, i64_w, i32_w]
    rfl
  refine pure_ (i := 5) (N := some 14) (v := ?_) (a' := ?_) #[true, true, true, true, true, true, false, false, false, false, false, false, false] rfl rfl (by kernel_rfl) (fun _ _ _ h => h) (Or.inl ⟨by rfl, ?_⟩) ?_ ?_
  rotate_left
  · intro w'
    go_simp
    with_reducible rfl
  rotate_left
  · simp only [Act.put, List.setIfInBounds_toArray, List.set_cons_zero, List.set_cons_succ, i64_w, i32_w]
    rfl
  refine pure_ (i := 6) (N := some 15) (v := ?_) (a' := ?_) #[true, true, true, true, true, true, true, false, false, false, false, false, false] rfl rfl (by kernel_rfl) (fun _ _ _ h => h) (Or.inl ⟨by rfl, ?_⟩) ?_ ?_
  rotate_left
  · intro w'
    go_simp
    with_reducible rfl
  rotate_left
  · simp only [Act.put, List.setIfInBounds_toArray, List.set_cons_zero, List.set_cons_succ, i64_w, i32_w]
    rfl
  refine pure_ (i := 7) (N := some 16) (v := ?_) (a' := ?_) #[true, true, true, true, true, true, true, true, false, false, false, false, false] rfl rfl (by kernel_rfl) (fun _ _ _ h => h) (Or.inl ⟨by rfl, ?_⟩) ?_ ?_
  rotate_left
  · intro w'
    go_simp
    with_reducible rfl
  rotate_left
  · simp only [Act.put, List.setIfInBounds_toArray, List.set_cons_zero, List.set_cons_succ, i64_w, i32_w]
    rfl
  refine take_ (i := 8) (N := some 17) (v := ?_) (a' := ?_) #[true, true, true, true, true, true, true, true, true, false, false, false, false] rfl rfl (by kernel_rfl) (fun _ _ _ h => h) (Or.inl ⟨by rfl, ?_⟩) hHeld ?_ ?_
  rotate_left
  · rintro w' ⟨s0, s1, s2⟩
    go_simp
    with_reducible rfl
  rotate_left
  · simp only [Act.put, List.setIfInBounds_toArray, List.set_cons_zero, List.set_cons_succ, i64_w, i32_w]
    rfl
  refine take_ (i := 9) (N := some 18) (v := ?_) (a' := ?_) #[true, true, true, true, true, true, true, true, true, true, false, false, false] rfl rfl (by kernel_rfl) (fun _ _ _ h => h) (Or.inl ⟨by rfl, ?_⟩) hHeld ?_ ?_
  rotate_left
  · rintro w' ⟨s0, s1, s2⟩
    go_simp
    with_reducible rfl
  rotate_left
  · simp only [Act.put, List.setIfInBounds_toArray, List.set_cons_zero, List.set_cons_succ, i64_w, i32_w]
    rfl
  refine one_ (i := 10) (N := some 19) #[true, true, true, true, true, true, true, true, true, true, true, false, false] rfl rfl (by kernel_rfl) (by decide) (fun K hK => ?_)
  refine goes_ Try.func23 (by kernel_rfl) rfl #[.agg #[.int .i64 M, .int .i64 R]] (by rfl) rfl rfl (by (try simp only [List.map_toArray, List.map_cons, List.map_nil]); first | done | rfl | (simp only [List.length_drop, List.length_take]; rfl)) ?_
  with_reducible refine (geom_Sectors.calls k M R s _ HS.out).mono ?_
  rintro e W3 ⟨rfl, hb⟩
  refine ⟨_, rfl, ?_⟩
  have NBKg2_ := Aside0.mk (blk_below (o := .cells #[.int .i64 M, .int .i64 R] 23 (0, 0)) (by (with_reducible repeat (first | refine blk_drewN ?_ _ | refine blk_drew ?_ | refine blk_alloc ?_ _)); exact BKg2.out) hb)
  have NBKg3_ := Aside0.mk (blk_below (o := .cells #[.int .i64 pl] 3 (0, 0)) (by (with_reducible repeat (first | refine blk_drewN ?_ _ | refine blk_drew ?_ | refine blk_alloc ?_ _)); exact BKg3.out) hb)
  have NHB_ := Aside0.mk (below_step (by repeat (first | (with_reducible first | exact HB.out | apply below_alloc | apply pw_below_drewN | apply below_drew1) | exact HB.out)) hb)
  clear BKg2 BKg3 HB
  have BKg2 := NBKg2_
  have BKg3 := NBKg3_
  have HB := NHB_
  clear NBKg2_ NBKg3_ NHB_
  clear hb
  refine hK.out _ _ ⟨(blk_cell BKg2.out 0).trans rfl, (blk_cell BKg2.out 1).trans rfl, (blk_cell BKg3.out 0).trans rfl⟩ (fun hHeld => ?_)
  clear hK K
  refine norm_ (a' := ?_) ?_ ?_
  rotate_left
  · show Act.put _ (some 19) _ = _
    simp only [Act.put, List.setIfInBounds_toArray, List.set_cons_zero, List.set_cons_succ, i64_w, i32_w]
    rfl
  refine pure_ (i := 11) (N := some 20) (v := ?_) (a' := ?_) #[true, true, true, true, true, true, true, true, true, true, true, true, false] rfl rfl (by kernel_rfl) (fun _ _ _ h => h) (Or.inl ⟨by rfl, ?_⟩) ?_ ?_
  rotate_left
  · intro w'
    go_simp
    with_reducible rfl
  rotate_left
  · simp only [Act.put, List.setIfInBounds_toArray, List.set_cons_zero, List.set_cons_succ, i64_w, i32_w]
    rfl
  refine pure_ (i := 12) (N := some 21) (v := ?_) (a' := ?_) #[true, true, true, true, true, true, true, true, true, true, true, true, true] rfl rfl (by kernel_rfl) (fun _ _ _ h => h) (Or.inl ⟨by rfl, ?_⟩) ?_ ?_
  rotate_left
  · intro w'
    go_simp
    with_reducible rfl
  rotate_left
  · simp only [Act.put, List.setIfInBounds_toArray, List.set_cons_zero, List.set_cons_succ, i64_w, i32_w]
    rfl
  refine done_ (by kernel_rfl) ?_
  obtain ⟨cg2_0, cg2_1⟩ := Wk.cells2 BKg2.out
  have fg2_0 := blk_frozen BKg2.out 0
  have fg2_1 := blk_frozen BKg2.out 1
  have cg3_0 := Wk.cells1 BKg3.out
  have fg3_0 := blk_frozen BKg3.out 0
  go_wp2_with fail
  clear cg2_0 fg2_0 cg2_1 fg2_1 cg3_0 fg3_0
  with_reducible refine (geom_firsts.calls k M R hf nd _ H2.out H3.out).mono ?_
  rintro e W4 ⟨rfl, hb⟩
  have NBKg2_ := Aside0.mk (blk_below (o := .cells #[.int .i64 M, .int .i64 R] 23 (0, 0)) (by (with_reducible repeat (first | refine blk_drewN ?_ _ | refine blk_drew ?_ | refine blk_alloc ?_ _)); exact BKg2.out) hb)
  have NBKg3_ := Aside0.mk (blk_below (o := .cells #[.int .i64 pl] 3 (0, 0)) (by (with_reducible repeat (first | refine blk_drewN ?_ _ | refine blk_drew ?_ | refine blk_alloc ?_ _)); exact BKg3.out) hb)
  have NHB_ := Aside0.mk (below_step (by repeat (first | (with_reducible first | exact HB.out | apply below_alloc | apply pw_below_drewN | apply below_drew1) | exact HB.out)) hb)
  clear BKg2 BKg3 HB
  have BKg2 := NBKg2_
  have BKg3 := NBKg3_
  have HB := NHB_
  clear NBKg2_ NBKg3_ NHB_
  clear hb
  obtain ⟨cg2_0, cg2_1⟩ := Wk.cells2 BKg2.out
  have fg2_0 := blk_frozen BKg2.out 0
  have fg2_1 := blk_frozen BKg2.out 1
  have cg3_0 := Wk.cells1 BKg3.out
  have fg3_0 := blk_frozen BKg3.out 0
  go_wp2_with fail
  clear cg2_0 fg2_0 cg2_1 fg2_1 cg3_0 fg3_0
  obtain ⟨q0_, nb_⟩ := Wk.blks1 W4 (.cells #[.int .i64 0, .int .i64 0, .int .i64 8, .int .i64 (wrap64 (8 + wrap64 (2 * hf))), .int .i64 (wrap64 (wrap64 (8 + wrap64 (2 * hf)) + nd)), .int .i64 (wrap64 (wrap64 (wrap64 (8 + wrap64 (2 * hf)) + nd) + R))] 43 (0, 0))
  obtain ⟨W5, hW_⟩ : ∃ W, W = (W4.alloc (.cells #[.int .i64 0, .int .i64 0, .int .i64 8, .int .i64 (wrap64 (8 + wrap64 (2 * hf))), .int .i64 (wrap64 (wrap64 (8 + wrap64 (2 * hf)) + nd)), .int .i64 (wrap64 (wrap64 (wrap64 (8 + wrap64 (2 * hf)) + nd) + R))] 43 (0, 0))) := ⟨_, rfl⟩
  rw [← hW_]
  rw [← hW_] at q0_
  rw [← hW_] at nb_
  have mg2_ := blk_below BKg2.out nb_
  have mg3_ := blk_below BKg3.out nb_
  have sz_ := below_size HB.out
  have ltg2_ := blk_lt BKg2.out
  have ltg3_ := blk_lt BKg3.out
  have hb2_ := Aside0.mk (below_step HB.out nb_)
  obtain ⟨g7, hgg7_⟩ : ∃ g, g = W4.heap.size := ⟨_, rfl⟩
  rw [← hgg7_]
  rw [← hgg7_] at q0_
  have GEg7 := Aside0.mk (show w.heap.size ≤ g7 by omega)
  have Dg2g7 : g2 ≠ g7 := by omega
  have Dg7g2 : g7 ≠ g2 := by omega
  have Dg3g7 : g3 ≠ g7 := by omega
  have Dg7g3 : g7 ≠ g3 := by omega
  have BNg2 := Aside0.mk mg2_
  clear BKg2
  have BKg2 := BNg2
  clear BNg2 ltg2_ mg2_
  have BNg3 := Aside0.mk mg3_
  clear BKg3
  have BKg3 := BNg3
  clear BNg3 ltg3_ mg3_
  have BKg7 := Aside0.mk q0_
  clear HB
  have HB := hb2_
  clear hb2_ hW_ nb_ sz_ hgg7_ q0_
  have hx_ : ∀ j, j < 6 → W5.cell? ⟨g7, j, none⟩ = some (.int .i64 (([0, 0, 8, (wrap64 (8 + wrap64 (2 * hf))), (wrap64 (wrap64 (8 + wrap64 (2 * hf)) + nd)), (wrap64 (wrap64 (wrap64 (8 + wrap64 (2 * hf)) + nd) + R))] : List Int).getD j 0)) := by
    intro j hj
    have hc_ := blk_cell BKg7.out j
    have : j = 0 ∨ j = 1 ∨ j = 2 ∨ j = 3 ∨ j = 4 ∨ j = 5 := by omega
    rcases this with rfl | rfl | rfl | rfl | rfl | rfl <;> exact hc_.trans rfl
  have h2_ : ∀ j, j < 4 → ([0, 0, 8, (wrap64 (8 + wrap64 (2 * hf))), (wrap64 (wrap64 (8 + wrap64 (2 * hf)) + nd)), (wrap64 (wrap64 (wrap64 (8 + wrap64 (2 * hf)) + nd) + R))] : List Int).getD j 0 ≤ pl := by
    intro j hj
    have c' : ¬ pl < 0 := of_decide_eq_false c
    have d2' : ¬ pl < 8 := of_decide_eq_false d2
    have d3' : ¬ pl < (wrap64 (8 + wrap64 (2 * hf))) := of_decide_eq_false d3
    have : j = 0 ∨ j = 1 ∨ j = 2 ∨ j = 3 := by omega
    rcases this with rfl | rfl | rfl | rfl <;> simp only [List.getD_eq_getElem?_getD, List.getElem?_cons_zero, List.getElem?_cons_succ, Option.getD_some] <;> omega
  with_reducible refine (indexfunc.calls ([0, 0, 8, (wrap64 (8 + wrap64 (2 * hf))), (wrap64 (wrap64 (8 + wrap64 (2 * hf)) + nd)), (wrap64 (wrap64 (wrap64 (8 + wrap64 (2 * hf)) + nd) + R))] : List Int) pl g3 g7 4 _ (Wk.cells1 BKg3.out) hx_ (by omega) (by have t_ := of_decide_eq_true d4; simpa using t_) h2_).mono ?_
  rintro e w_ ⟨rfl, rfl⟩
  clear hx_ h2_
  obtain ⟨cg2_0, cg2_1⟩ := Wk.cells2 BKg2.out
  have fg2_0 := blk_frozen BKg2.out 0
  have fg2_1 := blk_frozen BKg2.out 1
  have cg3_0 := Wk.cells1 BKg3.out
  have fg3_0 := blk_frozen BKg3.out 0
  obtain ⟨cg7_0, cg7_1, cg7_2, cg7_3, cg7_4, cg7_5⟩ := Wk.cells6 BKg7.out
  have fg7_0 := blk_frozen BKg7.out 0
  have fg7_1 := blk_frozen BKg7.out 1
  have fg7_2 := blk_frozen BKg7.out 2
  have fg7_3 := blk_frozen BKg7.out 3
  have fg7_4 := blk_frozen BKg7.out 4
  have fg7_5 := blk_frozen BKg7.out 5
  have wq : wrap64 3 = 3 := by unfold wrap64; omega
  go_wp2_with fail
  clear cg2_0 fg2_0 cg2_1 fg2_1 cg3_0 fg3_0 cg7_0 fg7_0 cg7_1 fg7_1 cg7_2 fg7_2 cg7_3 fg7_3 cg7_4 fg7_4 cg7_5 fg7_5
  have NBKg2_ := Aside0.mk (blk_drew BKg2.out)
  have NBKg3_ := Aside0.mk (blk_drew BKg3.out)
  have NBKg7_ := Aside0.mk (blk_drew BKg7.out)
  have NHB_ := Aside0.mk (below_drew1 HB.out)
  clear BKg2 BKg3 BKg7 HB
  have BKg2 := NBKg2_
  have BKg3 := NBKg3_
  have BKg7 := NBKg7_
  have HB := NHB_
  clear NBKg2_ NBKg3_ NBKg7_ NHB_
  refine start_ (n := 12) (S := fun w' => w'.cell? ⟨g3, 0, none⟩ = some (.int .i64 pl) ∧ w'.cell? ⟨g7, 0, none⟩ = some (.int .i64 0) ∧ w'.cell? ⟨g7, 1, none⟩ = some (.int .i64 0) ∧ w'.cell? ⟨g7, 2, none⟩ = some (.int .i64 8) ∧ w'.cell? ⟨g7, 3, none⟩ = some (.int .i64 (wrap64 (8 + wrap64 (2 * hf)))) ∧ w'.cell? ⟨g7, 4, none⟩ = some (.int .i64 (wrap64 (wrap64 (8 + wrap64 (2 * hf)) + nd))) ∧ w'.cell? ⟨g7, 5, none⟩ = some (.int .i64 (wrap64 (wrap64 (wrap64 (8 + wrap64 (2 * hf)) + nd) + R)))) (ds := []) #[false, false, false, false, false, false, false, false, false, false, false, false] (by kernel_rfl) rfl rfl ⟨(blk_cell BKg3.out 0).trans rfl, (blk_cell BKg7.out 0).trans rfl, (blk_cell BKg7.out 1).trans rfl, (blk_cell BKg7.out 2).trans rfl, (blk_cell BKg7.out 3).trans rfl, (blk_cell BKg7.out 4).trans rfl, (blk_cell BKg7.out 5).trans rfl⟩ (fun hHeld => ?_)
  generalize W5.drew = W6 at BKg2 BKg3 BKg7 HB hHeld ⊢
  refine pure_ (i := 0) (N := some 29) (v := ?_) (a' := ?_) #[true, false, false, false, false, false, false, false, false, false, false, false] rfl rfl (by kernel_rfl) (fun _ _ _ h => h) (Or.inl ⟨by rfl, ?_⟩) ?_ ?_
  rotate_left
  · intro w'
    go_simp
    with_reducible rfl
  rotate_left
  · simp only [Act.put, List.setIfInBounds_toArray, List.set_cons_zero, List.set_cons_succ, i64_w, i32_w]
    rfl
  refine take_ (i := 1) (N := some 30) (v := ?_) (a' := ?_) #[true, true, false, false, false, false, false, false, false, false, false, false] rfl rfl (by kernel_rfl) (fun _ _ _ h => h) (Or.inl ⟨by rfl, ?_⟩) hHeld ?_ ?_
  rotate_left
  · rintro w' ⟨s0, s1, s2, s3, s4, s5, s6⟩
    go_simp
    with_reducible rfl
  rotate_left
  · simp only [Act.put, List.setIfInBounds_toArray, List.set_cons_zero, List.set_cons_succ, i64_w, i32_w]
    rfl
  refine pure_ (i := 2) (N := some 31) (v := ?_) (a' := ?_) #[true, true, true, false, false, false, false, false, false, false, false, false] rfl rfl (by kernel_rfl) (fun _ _ _ h => h) (Or.inl ⟨by rfl, ?_⟩) ?_ ?_
  rotate_left
  · intro w'
    go_simp
    with_reducible rfl
  rotate_left
  · simp only [Act.put, List.setIfInBounds_toArray, List.set_cons_zero, List.set_cons_succ, i64_w, i32_w]
    rfl
  refine pure_ (i := 3) (N := some 32) (v := ?_) (a' := ?_) #[true, true, true, true, false, false, false, false, false, false, false, false] rfl rfl (by kernel_rfl) (fun _ _ _ h => h) (Or.inl ⟨by rfl, ?_⟩) ?_ ?_
  rotate_left
  · intro w'
    go_simp
    with_reducible rfl
  rotate_left
  · simp only [Act.put, List.setIfInBounds_toArray, List.set_cons_zero, List.set_cons_succ, i64_w, i32_w]
    rfl
  refine take_ (i := 4) (N := some 33) (v := ?_) (a' := ?_) #[true, true, true, true, true, false, false, false, false, false, false, false] rfl rfl (by kernel_rfl) (fun _ _ _ h => h) (Or.inl ⟨by rfl, ?_⟩) hHeld ?_ ?_
  rotate_left
  · rintro w' ⟨s0, s1, s2, s3, s4, s5, s6⟩
    go_simp
    with_reducible rfl
  rotate_left
  · simp only [Act.put, List.setIfInBounds_toArray, List.set_cons_zero, List.set_cons_succ, i64_w, i32_w]
    rfl
  refine pure_ (i := 5) (N := some 34) (v := ?_) (a' := ?_) #[true, true, true, true, true, true, false, false, false, false, false, false] rfl rfl (by kernel_rfl) (fun _ _ _ h => h) (Or.inl ⟨by rfl, ?_⟩) ?_ ?_
  rotate_left
  · intro w'
    go_simp
    with_reducible rfl
  rotate_left
  · simp only [Act.put, List.setIfInBounds_toArray, List.set_cons_zero, List.set_cons_succ, i64_w, i32_w]
    rfl
  refine pure_ (i := 6) (N := some 35) (v := ?_) (a' := ?_) #[true, true, true, true, true, true, true, false, false, false, false, false] rfl rfl (by kernel_rfl) (fun _ _ _ h => h) (Or.inl ⟨by rfl, ?_⟩) ?_ ?_
  rotate_left
  · intro w'
    go_simp
    with_reducible rfl
  rotate_left
  · simp only [Act.put, List.setIfInBounds_toArray, List.set_cons_zero, List.set_cons_succ, i64_w, i32_w]
    rfl
  refine one_ (i := 7) (N := some 36) #[true, true, true, true, true, true, true, true, false, false, false, false] rfl rfl (by kernel_rfl) (by decide) (fun K hK => ?_)
  refine goes_ Try.func34 (by kernel_rfl) rfl #[.int .i64 3] (by rfl) rfl rfl (by (try simp only [List.map_toArray, List.map_cons, List.map_nil]); first | done | rfl | (simp only [List.length_drop, List.length_take]; rfl)) ?_
  with_reducible refine (geom_least.calls 3 l _ HL.out).mono ?_
  rintro e w_ ⟨rfl, ⟨nd_, rfl⟩⟩
  refine ⟨_, rfl, ?_⟩
  have NBKg2_ := Aside0.mk (blk_drewN BKg2.out nd_)
  have NBKg3_ := Aside0.mk (blk_drewN BKg3.out nd_)
  have NBKg7_ := Aside0.mk (blk_drewN BKg7.out nd_)
  have NHB_ := Aside0.mk (pw_below_drewN HB.out nd_)
  clear BKg2 BKg3 BKg7 HB
  have BKg2 := NBKg2_
  have BKg3 := NBKg3_
  have BKg7 := NBKg7_
  have HB := NHB_
  clear NBKg2_ NBKg3_ NBKg7_ NHB_
  refine hK.out _ _ ⟨(blk_cell BKg3.out 0).trans rfl, (blk_cell BKg7.out 0).trans rfl, (blk_cell BKg7.out 1).trans rfl, (blk_cell BKg7.out 2).trans rfl, (blk_cell BKg7.out 3).trans rfl, (blk_cell BKg7.out 4).trans rfl, (blk_cell BKg7.out 5).trans rfl⟩ (fun hHeld => ?_)
  clear hK K
  refine norm_ (a' := ?_) ?_ ?_
  rotate_left
  · show Act.put _ (some 36) _ = _
    simp only [Act.put, List.setIfInBounds_toArray, List.set_cons_zero, List.set_cons_succ, i64_w, i32_w]
    rfl
  generalize W6.drewN nd_ = W7 at BKg2 BKg3 BKg7 HB hHeld ⊢
  refine pure_ (i := 8) (N := some 37) (v := ?_) (a' := ?_) #[true, true, true, true, true, true, true, true, true, false, false, false] rfl rfl (by kernel_rfl) (fun _ _ _ h => h) (Or.inl ⟨by rfl, ?_⟩) ?_ ?_
  rotate_left
  · intro w'
    go_simp
    with_reducible rfl
  rotate_left
  · simp only [Act.put, List.setIfInBounds_toArray, List.set_cons_zero, List.set_cons_succ, i64_w, i32_w]
    rfl
  refine pure_ (i := 9) (N := some 4) (v := ?_) (a' := ?_) #[true, true, true, true, true, true, true, true, true, true, false, false] rfl rfl (by kernel_rfl) (fun _ _ _ h => h) (Or.inl ⟨by rfl, ?_⟩) ?_ ?_
  rotate_left
  · intro w'
    go_simp
    with_reducible rfl
  rotate_left
  · simp only [Act.put, List.setIfInBounds_toArray, List.set_cons_zero, List.set_cons_succ, i64_w, i32_w]
    rfl
  refine pure_ (i := 10) (N := some 5) (v := ?_) (a' := ?_) #[true, true, true, true, true, true, true, true, true, true, true, false] rfl rfl (by kernel_rfl) (fun _ _ _ h => h) (Or.inl ⟨by rfl, ?_⟩) ?_ ?_
  rotate_left
  · intro w'
    go_simp
    with_reducible rfl
  rotate_left
  · simp only [Act.put, List.setIfInBounds_toArray, List.set_cons_zero, List.set_cons_succ, i64_w, i32_w]
    rfl
  refine pure_ (i := 11) (N := some 6) (v := ?_) (a' := ?_) #[true, true, true, true, true, true, true, true, true, true, true, true] rfl rfl (by kernel_rfl) (fun _ _ _ h => h) (Or.inl ⟨by rfl, ?_⟩) ?_ ?_
  rotate_left
  · intro w'
    go_simp
    with_reducible rfl
  rotate_left
  · simp only [Act.put, List.setIfInBounds_toArray, List.set_cons_zero, List.set_cons_succ, i64_w, i32_w]
    rfl
  refine done_ (by kernel_rfl) ?_
  go_wp2
  go_ret3
  exact ⟨by first | rfl | (simp; done) | (simp [*]; done), HB.out⟩
set_option maxHeartbeats 4000000 in
set_option maxRecDepth 100000 in
theorem geom_What.at4 (k : Nat) (M R pl s hf nd l : Int) (w : World) (H1 : Aside0 (geom_is.f M R = some true)) (HS : Aside0 (geom_Sectors.f k M R = some s)) (H2 : Aside0 (geom_Half.f k M R = some hf)) (H3 : Aside0 (geom_Nodes.f k M R = some nd)) (HL : Aside0 (geom_least.f 4 = some l)) (c : decide (pl < 0) = false) (d : decide (s ≤ pl) = false) (d2 : decide (pl < 8) = false) (d3 : decide (pl < (wrap64 (8 + wrap64 (2 * hf)))) = false) (d4 : decide (pl < (wrap64 (wrap64 (8 + wrap64 (2 * hf)) + nd))) = false) (d5 : decide (pl < (wrap64 (wrap64 (wrap64 (8 + wrap64 (2 * hf)) + nd) + R))) = true) :
    Calls Try.prog 28 #[.agg #[.int .i64 M, .int .i64 R], .int .i64 pl] w fun e w' => e = .returned (.tuple #[.int .i64 4, .int .i64 (wrap64 (wrap64 (pl - (wrap64 (wrap64 (8 + wrap64 (2 * hf)) + nd))) + l)), .int .i64 0]) ∧ Below w.heap.size w w' := by
  have HB := Aside0.mk (Below.refl w.heap.size w)
  go_enter Try.func28, Try.ntmps28
  go_wp2_with fail
  obtain ⟨q0_, q1_, nb_⟩ := Wk.blks2 w (.cells #[.int .i64 M, .int .i64 R] 23 (0, 0)) (.cells #[.int .i64 pl] 3 (0, 0))
  obtain ⟨W0, hW_⟩ : ∃ W, W = ((w.alloc (.cells #[.int .i64 M, .int .i64 R] 23 (0, 0))).alloc (.cells #[.int .i64 pl] 3 (0, 0))) := ⟨_, rfl⟩
  rw [← hW_]
  rw [← hW_] at q0_
  rw [← hW_] at q1_
  rw [← hW_] at nb_
  have sz_ := below_size HB.out
  have hb2_ := Aside0.mk (below_step HB.out nb_)
  obtain ⟨g2, hgg2_⟩ : ∃ g, g = w.heap.size := ⟨_, rfl⟩
  obtain ⟨g3, hgg3_⟩ : ∃ g, g = w.heap.size + 1 := ⟨_, rfl⟩
  rw [← hgg3_]
  rw [← hgg3_] at q1_
  rw [← hgg2_]
  rw [← hgg2_] at q0_
  have GEg2 := Aside0.mk (show w.heap.size ≤ g2 by omega)
  have GEg3 := Aside0.mk (show w.heap.size ≤ g3 by omega)
  have Dg2g3 : g2 ≠ g3 := by omega
  have Dg3g2 : g3 ≠ g2 := by omega
  have BKg2 := Aside0.mk q0_
  have BKg3 := Aside0.mk q1_
  clear HB
  have HB := hb2_
  clear hb2_ hW_ nb_ sz_ hgg2_ hgg3_ q0_ q1_
  have NBKg2_ := Aside0.mk (blk_drew BKg2.out)
  have NBKg3_ := Aside0.mk (blk_drew BKg3.out)
  have NHB_ := Aside0.mk (below_drew1 HB.out)
  clear BKg2 BKg3 HB
  have BKg2 := NBKg2_
  have BKg3 := NBKg3_
  have HB := NHB_
  clear NBKg2_ NBKg3_ NHB_
  refine start_ (n := 13) (S := fun w' => w'.cell? ⟨g2, 0, none⟩ = some (.int .i64 M) ∧ w'.cell? ⟨g2, 1, none⟩ = some (.int .i64 R) ∧ w'.cell? ⟨g3, 0, none⟩ = some (.int .i64 pl)) (ds := []) #[false, false, false, false, false, false, false, false, false, false, false, false, false] (by kernel_rfl) rfl rfl ⟨(blk_cell BKg2.out 0).trans rfl, (blk_cell BKg2.out 1).trans rfl, (blk_cell BKg3.out 0).trans rfl⟩ (fun hHeld => ?_)
  generalize W0.drew = W1 at BKg2 BKg3 HB hHeld ⊢
  refine take_ (i := 0) (N := some 9) (v := ?_) (a' := ?_) #[true, false, false, false, false, false, false, false, false, false, false, false, false] rfl rfl (by kernel_rfl) (fun _ _ _ h => h) (Or.inl ⟨by rfl, ?_⟩) hHeld ?_ ?_
  rotate_left
  · rintro w' ⟨s0, s1, s2⟩
    go_simp
    with_reducible rfl
  rotate_left
  · simp only [Act.put, List.setIfInBounds_toArray, List.set_cons_zero, List.set_cons_succ, i64_w, i32_w]
    rfl
  refine one_ (i := 1) (N := some 10) #[true, true, false, false, false, false, false, false, false, false, false, false, false] rfl rfl (by kernel_rfl) (by decide) (fun K hK => ?_)
  refine goes_ Try.func30 (by kernel_rfl) rfl #[.agg #[.int .i64 M, .int .i64 R]] (by rfl) rfl rfl (by (try simp only [List.map_toArray, List.map_cons, List.map_nil]); first | done | rfl | (simp only [List.length_drop, List.length_take]; rfl)) ?_
  with_reducible refine (geom_is.calls M R true _ H1.out).mono ?_
  rintro e W2 ⟨rfl, hb⟩
  refine ⟨_, rfl, ?_⟩
  have NBKg2_ := Aside0.mk (blk_below (o := .cells #[.int .i64 M, .int .i64 R] 23 (0, 0)) (by (with_reducible repeat (first | refine blk_drewN ?_ _ | refine blk_drew ?_ | refine blk_alloc ?_ _)); exact BKg2.out) hb)
  have NBKg3_ := Aside0.mk (blk_below (o := .cells #[.int .i64 pl] 3 (0, 0)) (by (with_reducible repeat (first | refine blk_drewN ?_ _ | refine blk_drew ?_ | refine blk_alloc ?_ _)); exact BKg3.out) hb)
  have NHB_ := Aside0.mk (below_step (by repeat (first | (with_reducible first | exact HB.out | apply below_alloc | apply pw_below_drewN | apply below_drew1) | exact HB.out)) hb)
  clear BKg2 BKg3 HB
  have BKg2 := NBKg2_
  have BKg3 := NBKg3_
  have HB := NHB_
  clear NBKg2_ NBKg3_ NHB_
  clear hb
  refine hK.out _ _ ⟨(blk_cell BKg2.out 0).trans rfl, (blk_cell BKg2.out 1).trans rfl, (blk_cell BKg3.out 0).trans rfl⟩ (fun hHeld => ?_)
  clear hK K
  refine norm_ (a' := ?_) ?_ ?_
  rotate_left
  · show Act.put _ (some 10) _ = _
    simp only [Act.put, List.setIfInBounds_toArray, List.set_cons_zero, List.set_cons_succ, i64_w, i32_w]
    rfl
  refine pure_ (i := 2) (N := some 11) (v := ?_) (a' := ?_) #[true, true, true, false, false, false, false, false, false, false, false, false, false] rfl rfl (by kernel_rfl) (fun _ _ _ h => h) (Or.inl ⟨by rfl, ?_⟩) ?_ ?_
  rotate_left
  · intro w'
    go_simp
    with_reducible rfl
  rotate_left
  · simp only [Act.put, List.setIfInBounds_toArray, List.set_cons_zero, List.set_cons_succ, i64_w, i32_w]
    rfl
  refine pure_ (i := 3) (N := some 12) (v := ?_) (a' := ?_) #[true, true, true, true, false, false, false, false, false, false, false, false, false] rfl rfl (by kernel_rfl) (fun _ _ _ h => h) (Or.inl ⟨by rfl, ?_⟩) ?_ ?_
  rotate_left
  · intro w'
    go_simp
    with_reducible rfl
  rotate_left
  · simp only [Act.put, List.setIfInBounds_toArray, List.set_cons_zero, List.set_cons_succ, i64_w, i32_w]
    rfl
  refine take_ (i := 4) (N := some 13) (v := ?_) (a' := ?_) #[true, true, true, true, true, false, false, false, false, false, false, false, false] rfl rfl (by kernel_rfl) (fun _ _ _ h => h) (Or.inl ⟨by rfl, ?_⟩) hHeld ?_ ?_
  rotate_left
  · rintro w' ⟨s0, s1, s2⟩
    go_simp
    with_reducible rfl
  rotate_left
  · simp only [Act.put, List.setIfInBounds_toArray, List.set_cons_zero, List.set_cons_succ, i64_w, i32_w]
    rfl
  refine pure_ (i := 5) (N := some 14) (v := ?_) (a' := ?_) #[true, true, true, true, true, true, false, false, false, false, false, false, false] rfl rfl (by kernel_rfl) (fun _ _ _ h => h) (Or.inl ⟨by rfl, ?_⟩) ?_ ?_
  rotate_left
  · intro w'
    go_simp
    with_reducible rfl
  rotate_left
  · simp only [Act.put, List.setIfInBounds_toArray, List.set_cons_zero, List.set_cons_succ, i64_w, i32_w]
    rfl
  refine pure_ (i := 6) (N := some 15) (v := ?_) (a' := ?_) #[true, true, true, true, true, true, true, false, false, false, false, false, false] rfl rfl (by kernel_rfl) (fun _ _ _ h => h) (Or.inl ⟨by rfl, ?_⟩) ?_ ?_
  rotate_left
  · intro w'
    go_simp
    with_reducible rfl
  rotate_left
  · simp only [Act.put, List.setIfInBounds_toArray, List.set_cons_zero, List.set_cons_succ, i64_w, i32_w]
    rfl
  refine pure_ (i := 7) (N := some 16) (v := ?_) (a' := ?_) #[true, true, true, true, true, true, true, true, false, false, false, false, false] rfl rfl (by kernel_rfl) (fun _ _ _ h => h) (Or.inl ⟨by rfl, ?_⟩) ?_ ?_
  rotate_left
  · intro w'
    go_simp
    with_reducible rfl
  rotate_left
  · simp only [Act.put, List.setIfInBounds_toArray, List.set_cons_zero, List.set_cons_succ, i64_w, i32_w]
    rfl
  refine take_ (i := 8) (N := some 17) (v := ?_) (a' := ?_) #[true, true, true, true, true, true, true, true, true, false, false, false, false] rfl rfl (by kernel_rfl) (fun _ _ _ h => h) (Or.inl ⟨by rfl, ?_⟩) hHeld ?_ ?_
  rotate_left
  · rintro w' ⟨s0, s1, s2⟩
    go_simp
    with_reducible rfl
  rotate_left
  · simp only [Act.put, List.setIfInBounds_toArray, List.set_cons_zero, List.set_cons_succ, i64_w, i32_w]
    rfl
  refine take_ (i := 9) (N := some 18) (v := ?_) (a' := ?_) #[true, true, true, true, true, true, true, true, true, true, false, false, false] rfl rfl (by kernel_rfl) (fun _ _ _ h => h) (Or.inl ⟨by rfl, ?_⟩) hHeld ?_ ?_
  rotate_left
  · rintro w' ⟨s0, s1, s2⟩
    go_simp
    with_reducible rfl
  rotate_left
  · simp only [Act.put, List.setIfInBounds_toArray, List.set_cons_zero, List.set_cons_succ, i64_w, i32_w]
    rfl
  refine one_ (i := 10) (N := some 19) #[true, true, true, true, true, true, true, true, true, true, true, false, false] rfl rfl (by kernel_rfl) (by decide) (fun K hK => ?_)
  refine goes_ Try.func23 (by kernel_rfl) rfl #[.agg #[.int .i64 M, .int .i64 R]] (by rfl) rfl rfl (by (try simp only [List.map_toArray, List.map_cons, List.map_nil]); first | done | rfl | (simp only [List.length_drop, List.length_take]; rfl)) ?_
  with_reducible refine (geom_Sectors.calls k M R s _ HS.out).mono ?_
  rintro e W3 ⟨rfl, hb⟩
  refine ⟨_, rfl, ?_⟩
  have NBKg2_ := Aside0.mk (blk_below (o := .cells #[.int .i64 M, .int .i64 R] 23 (0, 0)) (by (with_reducible repeat (first | refine blk_drewN ?_ _ | refine blk_drew ?_ | refine blk_alloc ?_ _)); exact BKg2.out) hb)
  have NBKg3_ := Aside0.mk (blk_below (o := .cells #[.int .i64 pl] 3 (0, 0)) (by (with_reducible repeat (first | refine blk_drewN ?_ _ | refine blk_drew ?_ | refine blk_alloc ?_ _)); exact BKg3.out) hb)
  have NHB_ := Aside0.mk (below_step (by repeat (first | (with_reducible first | exact HB.out | apply below_alloc | apply pw_below_drewN | apply below_drew1) | exact HB.out)) hb)
  clear BKg2 BKg3 HB
  have BKg2 := NBKg2_
  have BKg3 := NBKg3_
  have HB := NHB_
  clear NBKg2_ NBKg3_ NHB_
  clear hb
  refine hK.out _ _ ⟨(blk_cell BKg2.out 0).trans rfl, (blk_cell BKg2.out 1).trans rfl, (blk_cell BKg3.out 0).trans rfl⟩ (fun hHeld => ?_)
  clear hK K
  refine norm_ (a' := ?_) ?_ ?_
  rotate_left
  · show Act.put _ (some 19) _ = _
    simp only [Act.put, List.setIfInBounds_toArray, List.set_cons_zero, List.set_cons_succ, i64_w, i32_w]
    rfl
  refine pure_ (i := 11) (N := some 20) (v := ?_) (a' := ?_) #[true, true, true, true, true, true, true, true, true, true, true, true, false] rfl rfl (by kernel_rfl) (fun _ _ _ h => h) (Or.inl ⟨by rfl, ?_⟩) ?_ ?_
  rotate_left
  · intro w'
    go_simp
    with_reducible rfl
  rotate_left
  · simp only [Act.put, List.setIfInBounds_toArray, List.set_cons_zero, List.set_cons_succ, i64_w, i32_w]
    rfl
  refine pure_ (i := 12) (N := some 21) (v := ?_) (a' := ?_) #[true, true, true, true, true, true, true, true, true, true, true, true, true] rfl rfl (by kernel_rfl) (fun _ _ _ h => h) (Or.inl ⟨by rfl, ?_⟩) ?_ ?_
  rotate_left
  · intro w'
    go_simp
    with_reducible rfl
  rotate_left
  · simp only [Act.put, List.setIfInBounds_toArray, List.set_cons_zero, List.set_cons_succ, i64_w, i32_w]
    rfl
  refine done_ (by kernel_rfl) ?_
  obtain ⟨cg2_0, cg2_1⟩ := Wk.cells2 BKg2.out
  have fg2_0 := blk_frozen BKg2.out 0
  have fg2_1 := blk_frozen BKg2.out 1
  have cg3_0 := Wk.cells1 BKg3.out
  have fg3_0 := blk_frozen BKg3.out 0
  go_wp2_with fail
  clear cg2_0 fg2_0 cg2_1 fg2_1 cg3_0 fg3_0
  with_reducible refine (geom_firsts.calls k M R hf nd _ H2.out H3.out).mono ?_
  rintro e W4 ⟨rfl, hb⟩
  have NBKg2_ := Aside0.mk (blk_below (o := .cells #[.int .i64 M, .int .i64 R] 23 (0, 0)) (by (with_reducible repeat (first | refine blk_drewN ?_ _ | refine blk_drew ?_ | refine blk_alloc ?_ _)); exact BKg2.out) hb)
  have NBKg3_ := Aside0.mk (blk_below (o := .cells #[.int .i64 pl] 3 (0, 0)) (by (with_reducible repeat (first | refine blk_drewN ?_ _ | refine blk_drew ?_ | refine blk_alloc ?_ _)); exact BKg3.out) hb)
  have NHB_ := Aside0.mk (below_step (by repeat (first | (with_reducible first | exact HB.out | apply below_alloc | apply pw_below_drewN | apply below_drew1) | exact HB.out)) hb)
  clear BKg2 BKg3 HB
  have BKg2 := NBKg2_
  have BKg3 := NBKg3_
  have HB := NHB_
  clear NBKg2_ NBKg3_ NHB_
  clear hb
  obtain ⟨cg2_0, cg2_1⟩ := Wk.cells2 BKg2.out
  have fg2_0 := blk_frozen BKg2.out 0
  have fg2_1 := blk_frozen BKg2.out 1
  have cg3_0 := Wk.cells1 BKg3.out
  have fg3_0 := blk_frozen BKg3.out 0
  go_wp2_with fail
  clear cg2_0 fg2_0 cg2_1 fg2_1 cg3_0 fg3_0
  obtain ⟨q0_, nb_⟩ := Wk.blks1 W4 (.cells #[.int .i64 0, .int .i64 0, .int .i64 8, .int .i64 (wrap64 (8 + wrap64 (2 * hf))), .int .i64 (wrap64 (wrap64 (8 + wrap64 (2 * hf)) + nd)), .int .i64 (wrap64 (wrap64 (wrap64 (8 + wrap64 (2 * hf)) + nd) + R))] 43 (0, 0))
  obtain ⟨W5, hW_⟩ : ∃ W, W = (W4.alloc (.cells #[.int .i64 0, .int .i64 0, .int .i64 8, .int .i64 (wrap64 (8 + wrap64 (2 * hf))), .int .i64 (wrap64 (wrap64 (8 + wrap64 (2 * hf)) + nd)), .int .i64 (wrap64 (wrap64 (wrap64 (8 + wrap64 (2 * hf)) + nd) + R))] 43 (0, 0))) := ⟨_, rfl⟩
  rw [← hW_]
  rw [← hW_] at q0_
  rw [← hW_] at nb_
  have mg2_ := blk_below BKg2.out nb_
  have mg3_ := blk_below BKg3.out nb_
  have sz_ := below_size HB.out
  have ltg2_ := blk_lt BKg2.out
  have ltg3_ := blk_lt BKg3.out
  have hb2_ := Aside0.mk (below_step HB.out nb_)
  obtain ⟨g7, hgg7_⟩ : ∃ g, g = W4.heap.size := ⟨_, rfl⟩
  rw [← hgg7_]
  rw [← hgg7_] at q0_
  have GEg7 := Aside0.mk (show w.heap.size ≤ g7 by omega)
  have Dg2g7 : g2 ≠ g7 := by omega
  have Dg7g2 : g7 ≠ g2 := by omega
  have Dg3g7 : g3 ≠ g7 := by omega
  have Dg7g3 : g7 ≠ g3 := by omega
  have BNg2 := Aside0.mk mg2_
  clear BKg2
  have BKg2 := BNg2
  clear BNg2 ltg2_ mg2_
  have BNg3 := Aside0.mk mg3_
  clear BKg3
  have BKg3 := BNg3
  clear BNg3 ltg3_ mg3_
  have BKg7 := Aside0.mk q0_
  clear HB
  have HB := hb2_
  clear hb2_ hW_ nb_ sz_ hgg7_ q0_
  have hx_ : ∀ j, j < 6 → W5.cell? ⟨g7, j, none⟩ = some (.int .i64 (([0, 0, 8, (wrap64 (8 + wrap64 (2 * hf))), (wrap64 (wrap64 (8 + wrap64 (2 * hf)) + nd)), (wrap64 (wrap64 (wrap64 (8 + wrap64 (2 * hf)) + nd) + R))] : List Int).getD j 0)) := by
    intro j hj
    have hc_ := blk_cell BKg7.out j
    have : j = 0 ∨ j = 1 ∨ j = 2 ∨ j = 3 ∨ j = 4 ∨ j = 5 := by omega
    rcases this with rfl | rfl | rfl | rfl | rfl | rfl <;> exact hc_.trans rfl
  have h2_ : ∀ j, j < 5 → ([0, 0, 8, (wrap64 (8 + wrap64 (2 * hf))), (wrap64 (wrap64 (8 + wrap64 (2 * hf)) + nd)), (wrap64 (wrap64 (wrap64 (8 + wrap64 (2 * hf)) + nd) + R))] : List Int).getD j 0 ≤ pl := by
    intro j hj
    have c' : ¬ pl < 0 := of_decide_eq_false c
    have d2' : ¬ pl < 8 := of_decide_eq_false d2
    have d3' : ¬ pl < (wrap64 (8 + wrap64 (2 * hf))) := of_decide_eq_false d3
    have d4' : ¬ pl < (wrap64 (wrap64 (8 + wrap64 (2 * hf)) + nd)) := of_decide_eq_false d4
    have : j = 0 ∨ j = 1 ∨ j = 2 ∨ j = 3 ∨ j = 4 := by omega
    rcases this with rfl | rfl | rfl | rfl | rfl <;> simp only [List.getD_eq_getElem?_getD, List.getElem?_cons_zero, List.getElem?_cons_succ, Option.getD_some] <;> omega
  with_reducible refine (indexfunc.calls ([0, 0, 8, (wrap64 (8 + wrap64 (2 * hf))), (wrap64 (wrap64 (8 + wrap64 (2 * hf)) + nd)), (wrap64 (wrap64 (wrap64 (8 + wrap64 (2 * hf)) + nd) + R))] : List Int) pl g3 g7 5 _ (Wk.cells1 BKg3.out) hx_ (by omega) (by have t_ := of_decide_eq_true d5; simpa using t_) h2_).mono ?_
  rintro e w_ ⟨rfl, rfl⟩
  clear hx_ h2_
  obtain ⟨cg2_0, cg2_1⟩ := Wk.cells2 BKg2.out
  have fg2_0 := blk_frozen BKg2.out 0
  have fg2_1 := blk_frozen BKg2.out 1
  have cg3_0 := Wk.cells1 BKg3.out
  have fg3_0 := blk_frozen BKg3.out 0
  obtain ⟨cg7_0, cg7_1, cg7_2, cg7_3, cg7_4, cg7_5⟩ := Wk.cells6 BKg7.out
  have fg7_0 := blk_frozen BKg7.out 0
  have fg7_1 := blk_frozen BKg7.out 1
  have fg7_2 := blk_frozen BKg7.out 2
  have fg7_3 := blk_frozen BKg7.out 3
  have fg7_4 := blk_frozen BKg7.out 4
  have fg7_5 := blk_frozen BKg7.out 5
  have wq : wrap64 4 = 4 := by unfold wrap64; omega
  go_wp2_with fail
  clear cg2_0 fg2_0 cg2_1 fg2_1 cg3_0 fg3_0 cg7_0 fg7_0 cg7_1 fg7_1 cg7_2 fg7_2 cg7_3 fg7_3 cg7_4 fg7_4 cg7_5 fg7_5
  have NBKg2_ := Aside0.mk (blk_drew BKg2.out)
  have NBKg3_ := Aside0.mk (blk_drew BKg3.out)
  have NBKg7_ := Aside0.mk (blk_drew BKg7.out)
  have NHB_ := Aside0.mk (below_drew1 HB.out)
  clear BKg2 BKg3 BKg7 HB
  have BKg2 := NBKg2_
  have BKg3 := NBKg3_
  have BKg7 := NBKg7_
  have HB := NHB_
  clear NBKg2_ NBKg3_ NBKg7_ NHB_
  refine start_ (n := 12) (S := fun w' => w'.cell? ⟨g3, 0, none⟩ = some (.int .i64 pl) ∧ w'.cell? ⟨g7, 0, none⟩ = some (.int .i64 0) ∧ w'.cell? ⟨g7, 1, none⟩ = some (.int .i64 0) ∧ w'.cell? ⟨g7, 2, none⟩ = some (.int .i64 8) ∧ w'.cell? ⟨g7, 3, none⟩ = some (.int .i64 (wrap64 (8 + wrap64 (2 * hf)))) ∧ w'.cell? ⟨g7, 4, none⟩ = some (.int .i64 (wrap64 (wrap64 (8 + wrap64 (2 * hf)) + nd))) ∧ w'.cell? ⟨g7, 5, none⟩ = some (.int .i64 (wrap64 (wrap64 (wrap64 (8 + wrap64 (2 * hf)) + nd) + R)))) (ds := []) #[false, false, false, false, false, false, false, false, false, false, false, false] (by kernel_rfl) rfl rfl ⟨(blk_cell BKg3.out 0).trans rfl, (blk_cell BKg7.out 0).trans rfl, (blk_cell BKg7.out 1).trans rfl, (blk_cell BKg7.out 2).trans rfl, (blk_cell BKg7.out 3).trans rfl, (blk_cell BKg7.out 4).trans rfl, (blk_cell BKg7.out 5).trans rfl⟩ (fun hHeld => ?_)
  generalize W5.drew = W6 at BKg2 BKg3 BKg7 HB hHeld ⊢
  refine pure_ (i := 0) (N := some 29) (v := ?_) (a' := ?_) #[true, false, false, false, false, false, false, false, false, false, false, false] rfl rfl (by kernel_rfl) (fun _ _ _ h => h) (Or.inl ⟨by rfl, ?_⟩) ?_ ?_
  rotate_left
  · intro w'
    go_simp
    with_reducible rfl
  rotate_left
  · simp only [Act.put, List.setIfInBounds_toArray, List.set_cons_zero, List.set_cons_succ, i64_w, i32_w]
    rfl
  refine take_ (i := 1) (N := some 30) (v := ?_) (a' := ?_) #[true, true, false, false, false, false, false, false, false, false, false, false] rfl rfl (by kernel_rfl) (fun _ _ _ h => h) (Or.inl ⟨by rfl, ?_⟩) hHeld ?_ ?_
  rotate_left
  · rintro w' ⟨s0, s1, s2, s3, s4, s5, s6⟩
    go_simp
    with_reducible rfl
  rotate_left
  · simp only [Act.put, List.setIfInBounds_toArray, List.set_cons_zero, List.set_cons_succ, i64_w, i32_w]
    rfl
  refine pure_ (i := 2) (N := some 31) (v := ?_) (a' := ?_) #[true, true, true, false, false, false, false, false, false, false, false, false] rfl rfl (by kernel_rfl) (fun _ _ _ h => h) (Or.inl ⟨by rfl, ?_⟩) ?_ ?_
  rotate_left
  · intro w'
    go_simp
    with_reducible rfl
  rotate_left
  · simp only [Act.put, List.setIfInBounds_toArray, List.set_cons_zero, List.set_cons_succ, i64_w, i32_w]
    rfl
  refine pure_ (i := 3) (N := some 32) (v := ?_) (a' := ?_) #[true, true, true, true, false, false, false, false, false, false, false, false] rfl rfl (by kernel_rfl) (fun _ _ _ h => h) (Or.inl ⟨by rfl, ?_⟩) ?_ ?_
  rotate_left
  · intro w'
    go_simp
    with_reducible rfl
  rotate_left
  · simp only [Act.put, List.setIfInBounds_toArray, List.set_cons_zero, List.set_cons_succ, i64_w, i32_w]
    rfl
  refine take_ (i := 4) (N := some 33) (v := ?_) (a' := ?_) #[true, true, true, true, true, false, false, false, false, false, false, false] rfl rfl (by kernel_rfl) (fun _ _ _ h => h) (Or.inl ⟨by rfl, ?_⟩) hHeld ?_ ?_
  rotate_left
  · rintro w' ⟨s0, s1, s2, s3, s4, s5, s6⟩
    go_simp
    with_reducible rfl
  rotate_left
  · simp only [Act.put, List.setIfInBounds_toArray, List.set_cons_zero, List.set_cons_succ, i64_w, i32_w]
    rfl
  refine pure_ (i := 5) (N := some 34) (v := ?_) (a' := ?_) #[true, true, true, true, true, true, false, false, false, false, false, false] rfl rfl (by kernel_rfl) (fun _ _ _ h => h) (Or.inl ⟨by rfl, ?_⟩) ?_ ?_
  rotate_left
  · intro w'
    go_simp
    with_reducible rfl
  rotate_left
  · simp only [Act.put, List.setIfInBounds_toArray, List.set_cons_zero, List.set_cons_succ, i64_w, i32_w]
    rfl
  refine pure_ (i := 6) (N := some 35) (v := ?_) (a' := ?_) #[true, true, true, true, true, true, true, false, false, false, false, false] rfl rfl (by kernel_rfl) (fun _ _ _ h => h) (Or.inl ⟨by rfl, ?_⟩) ?_ ?_
  rotate_left
  · intro w'
    go_simp
    with_reducible rfl
  rotate_left
  · simp only [Act.put, List.setIfInBounds_toArray, List.set_cons_zero, List.set_cons_succ, i64_w, i32_w]
    rfl
  refine one_ (i := 7) (N := some 36) #[true, true, true, true, true, true, true, true, false, false, false, false] rfl rfl (by kernel_rfl) (by decide) (fun K hK => ?_)
  refine goes_ Try.func34 (by kernel_rfl) rfl #[.int .i64 4] (by rfl) rfl rfl (by (try simp only [List.map_toArray, List.map_cons, List.map_nil]); first | done | rfl | (simp only [List.length_drop, List.length_take]; rfl)) ?_
  with_reducible refine (geom_least.calls 4 l _ HL.out).mono ?_
  rintro e w_ ⟨rfl, ⟨nd_, rfl⟩⟩
  refine ⟨_, rfl, ?_⟩
  have NBKg2_ := Aside0.mk (blk_drewN BKg2.out nd_)
  have NBKg3_ := Aside0.mk (blk_drewN BKg3.out nd_)
  have NBKg7_ := Aside0.mk (blk_drewN BKg7.out nd_)
  have NHB_ := Aside0.mk (pw_below_drewN HB.out nd_)
  clear BKg2 BKg3 BKg7 HB
  have BKg2 := NBKg2_
  have BKg3 := NBKg3_
  have BKg7 := NBKg7_
  have HB := NHB_
  clear NBKg2_ NBKg3_ NBKg7_ NHB_
  refine hK.out _ _ ⟨(blk_cell BKg3.out 0).trans rfl, (blk_cell BKg7.out 0).trans rfl, (blk_cell BKg7.out 1).trans rfl, (blk_cell BKg7.out 2).trans rfl, (blk_cell BKg7.out 3).trans rfl, (blk_cell BKg7.out 4).trans rfl, (blk_cell BKg7.out 5).trans rfl⟩ (fun hHeld => ?_)
  clear hK K
  refine norm_ (a' := ?_) ?_ ?_
  rotate_left
  · show Act.put _ (some 36) _ = _
    simp only [Act.put, List.setIfInBounds_toArray, List.set_cons_zero, List.set_cons_succ, i64_w, i32_w]
    rfl
  generalize W6.drewN nd_ = W7 at BKg2 BKg3 BKg7 HB hHeld ⊢
  refine pure_ (i := 8) (N := some 37) (v := ?_) (a' := ?_) #[true, true, true, true, true, true, true, true, true, false, false, false] rfl rfl (by kernel_rfl) (fun _ _ _ h => h) (Or.inl ⟨by rfl, ?_⟩) ?_ ?_
  rotate_left
  · intro w'
    go_simp
    with_reducible rfl
  rotate_left
  · simp only [Act.put, List.setIfInBounds_toArray, List.set_cons_zero, List.set_cons_succ, i64_w, i32_w]
    rfl
  refine pure_ (i := 9) (N := some 4) (v := ?_) (a' := ?_) #[true, true, true, true, true, true, true, true, true, true, false, false] rfl rfl (by kernel_rfl) (fun _ _ _ h => h) (Or.inl ⟨by rfl, ?_⟩) ?_ ?_
  rotate_left
  · intro w'
    go_simp
    with_reducible rfl
  rotate_left
  · simp only [Act.put, List.setIfInBounds_toArray, List.set_cons_zero, List.set_cons_succ, i64_w, i32_w]
    rfl
  refine pure_ (i := 10) (N := some 5) (v := ?_) (a' := ?_) #[true, true, true, true, true, true, true, true, true, true, true, false] rfl rfl (by kernel_rfl) (fun _ _ _ h => h) (Or.inl ⟨by rfl, ?_⟩) ?_ ?_
  rotate_left
  · intro w'
    go_simp
    with_reducible rfl
  rotate_left
  · simp only [Act.put, List.setIfInBounds_toArray, List.set_cons_zero, List.set_cons_succ, i64_w, i32_w]
    rfl
  refine pure_ (i := 11) (N := some 6) (v := ?_) (a' := ?_) #[true, true, true, true, true, true, true, true, true, true, true, true] rfl rfl (by kernel_rfl) (fun _ _ _ h => h) (Or.inl ⟨by rfl, ?_⟩) ?_ ?_
  rotate_left
  · intro w'
    go_simp
    with_reducible rfl
  rotate_left
  · simp only [Act.put, List.setIfInBounds_toArray, List.set_cons_zero, List.set_cons_succ, i64_w, i32_w]
    rfl
  refine done_ (by kernel_rfl) ?_
  go_wp2
  go_ret3
  exact ⟨by first | rfl | (simp; done) | (simp [*]; done), HB.out⟩
theorem geom_What.calls (k : Nat) (M R pl r1 r2 r3 : Int) (w : World) (h : geom_What.f k M R pl = some (r1, r2, r3)) :
    Calls Try.prog 28 #[.agg #[.int .i64 M, .int .i64 R], .int .i64 pl] w fun e w' => e = .returned (.tuple #[.int .i64 r1, .int .i64 r2, .int .i64 r3]) ∧ Below w.heap.size w w' := by
  unfold geom_What.f at h
  obtain ⟨b, hb1, h⟩ := Option.bind_eq_some_iff.mp h
  cases b with
  | false =>
    rw [if_neg (by decide)] at h
    simp only [Option.some.injEq, Prod.mk.injEq] at h
    obtain ⟨rfl, rfl, rfl⟩ := h
    exact geom_What.no1 M R pl w ⟨hb1⟩
  | true =>
    rw [if_pos rfl] at h
    by_cases c1 : pl < 0
    · rw [if_pos c1] at h
      simp only [Option.some.injEq, Prod.mk.injEq] at h
      obtain ⟨rfl, rfl, rfl⟩ := h
      exact geom_What.no2 M R pl w ⟨hb1⟩ (decide_eq_true c1)
    rw [if_neg c1] at h
    obtain ⟨s, hs, h⟩ := Option.bind_eq_some_iff.mp h
    by_cases c2 : pl ≥ s
    · rw [if_pos c2] at h
      simp only [Option.some.injEq, Prod.mk.injEq] at h
      obtain ⟨rfl, rfl, rfl⟩ := h
      exact geom_What.no3 k M R pl s w ⟨hb1⟩ ⟨hs⟩ (decide_eq_false c1) (decide_eq_true c2)
    rw [if_neg c2] at h
    obtain ⟨hf, h2, h⟩ := Option.bind_eq_some_iff.mp h
    obtain ⟨nd, h3, h⟩ := Option.bind_eq_some_iff.mp h
    by_cases d2 : pl < 8
    · rw [if_pos d2] at h
      obtain ⟨l, hl, h⟩ := Option.bind_eq_some_iff.mp h
      simp only [Option.some.injEq, Prod.mk.injEq] at h
      obtain ⟨rfl, rfl, rfl⟩ := h
      exact geom_What.at1 k M R pl s hf nd l w ⟨hb1⟩ ⟨hs⟩ ⟨h2⟩ ⟨h3⟩ ⟨hl⟩ (decide_eq_false c1) (decide_eq_false c2) (decide_eq_true d2)
    rw [if_neg d2] at h
    by_cases d3 : pl < (wrap64 (8 + wrap64 (2 * hf)))
    · rw [if_pos d3] at h
      obtain ⟨l, hl, h⟩ := Option.bind_eq_some_iff.mp h
      simp only [Option.some.injEq, Prod.mk.injEq] at h
      obtain ⟨rfl, rfl, rfl⟩ := h
      exact geom_What.at2 k M R pl s hf nd l w ⟨hb1⟩ ⟨hs⟩ ⟨h2⟩ ⟨h3⟩ ⟨hl⟩ (decide_eq_false c1) (decide_eq_false c2) (decide_eq_false d2) (decide_eq_true d3)
    rw [if_neg d3] at h
    by_cases d4 : pl < (wrap64 (wrap64 (8 + wrap64 (2 * hf)) + nd))
    · rw [if_pos d4] at h
      obtain ⟨l, hl, h⟩ := Option.bind_eq_some_iff.mp h
      simp only [Option.some.injEq, Prod.mk.injEq] at h
      obtain ⟨rfl, rfl, rfl⟩ := h
      exact geom_What.at3 k M R pl s hf nd l w ⟨hb1⟩ ⟨hs⟩ ⟨h2⟩ ⟨h3⟩ ⟨hl⟩ (decide_eq_false c1) (decide_eq_false c2) (decide_eq_false d2) (decide_eq_false d3) (decide_eq_true d4)
    rw [if_neg d4] at h
    by_cases d5 : pl < (wrap64 (wrap64 (wrap64 (8 + wrap64 (2 * hf)) + nd) + R))
    · rw [if_pos d5] at h
      obtain ⟨l, hl, h⟩ := Option.bind_eq_some_iff.mp h
      simp only [Option.some.injEq, Prod.mk.injEq] at h
      obtain ⟨rfl, rfl, rfl⟩ := h
      exact geom_What.at4 k M R pl s hf nd l w ⟨hb1⟩ ⟨hs⟩ ⟨h2⟩ ⟨h3⟩ ⟨hl⟩ (decide_eq_false c1) (decide_eq_false c2) (decide_eq_false d2) (decide_eq_false d3) (decide_eq_false d4) (decide_eq_true d5)
    rw [if_neg d5] at h
    exact absurd h (by simp)
/-! ### casematelaw14_GeomBack: function 7 -/
mutual
def casematelaw14_GeomBack.j0 : Nat → Int → Int → Int → Int → Bool → Int → Int → Int → Int → Option (Bool)
  | 0, _, _, _, _, _, _, _, _, _ => none
  | k + 1, x1, x7, x8, x9, x39, x131000, x131001, x132000, x132001 => if x39 = true then (some false) else (if x9 = 0 then ((geom_Place.f k x131000 x131001 x7 x8).bind fun bt137 => (if bt137.2 = 0 then (if bt137.1 = x1 then (casematelaw14_GeomBack.j1 k x131000 x131001 x132000 x132001) else (some false)) else (some false))) else (casematelaw14_GeomBack.j1 k x131000 x131001 x132000 x132001))
def casematelaw14_GeomBack.j1 : Nat → Int → Int → Int → Int → Option (Bool)
  | 0, _, _, _, _ => none
  | k + 1, x131000, x131001, x132000, x132001 => (geom_Place.f k x131000 x131001 x132000 x132001).bind fun bt139 => (if bt139.2 = 0 then ((geom_What.f k x131000 x131001 bt139.1).bind fun bt141 => (if bt141.2.2 = 0 then (if bt141.1 = x132000 then (if bt141.2.1 = x132001 then ((casematelaw14_works.f k).bind fun t144 => (some t144)) else (some false)) else (some false)) else (some false))) else (if bt139.1 = 0 then ((casematelaw14_works.f k).bind fun t145 => (some t145)) else (some false)))
end
def casematelaw14_GeomBack.f (k : Nat) (a0_0 : Int) (a0_1 : Int) (a1 : Int) (a2_0 : Int) (a2_1 : Int) : Option (Bool) := (geom_What.f k a0_0 a0_1 a1).bind fun bt132 => ((geom_Check.f a0_0 a0_1).bind fun t135 => (if t135 = 0 then (if a1 ≥ 0 then ((geom_Sectors.f k a0_0 a0_1).bind fun t136 => (casematelaw14_GeomBack.j0 k a1 bt132.1 bt132.2.1 bt132.2.2 ((bt132.2.2 == 0) != (decide (a1 < t136))) a0_0 a0_1 a2_0 a2_1)) else (casematelaw14_GeomBack.j0 k a1 bt132.1 bt132.2.1 bt132.2.2 ((bt132.2.2 == 0) != false) a0_0 a0_1 a2_0 a2_1)) else (casematelaw14_GeomBack.j0 k a1 bt132.1 bt132.2.1 bt132.2.2 ((bt132.2.2 == 0) != false) a0_0 a0_1 a2_0 a2_1)))
theorem casematelaw14_GeomBack.mono_l : ∀ k, (∀ y0 y1 y2 y3 y4 y5 y6 y7 y8, LeO (casematelaw14_GeomBack.j0 k y0 y1 y2 y3 y4 y5 y6 y7 y8) (casematelaw14_GeomBack.j0 (k + 1) y0 y1 y2 y3 y4 y5 y6 y7 y8)) ∧ (∀ y0 y1 y2 y3, LeO (casematelaw14_GeomBack.j1 k y0 y1 y2 y3) (casematelaw14_GeomBack.j1 (k + 1) y0 y1 y2 y3))
  | 0 => ⟨fun _ _ _ _ _ _ _ _ _ r h => by simp [casematelaw14_GeomBack.j0] at h, fun _ _ _ _ r h => by simp [casematelaw14_GeomBack.j1] at h⟩
  | k + 1 => by
    obtain ⟨ih0, ih1⟩ := casematelaw14_GeomBack.mono_l k
    refine ⟨?_, ?_⟩
    · intro y0 y1 y2 y3 y4 y5 y6 y7 y8
      unfold casematelaw14_GeomBack.j0
      repeat' first
      | (with_reducible exact ih0 _ _ _ _ _ _ _ _ _)
      | (with_reducible exact ih1 _ _ _ _)
      | (with_reducible exact casematelaw14_works.mono _)
      | (with_reducible exact geom_Place.mono _ _ _ _ _)
      | (with_reducible exact geom_Sectors.mono _ _ _)
      | (with_reducible exact geom_What.mono _ _ _ _)
      | (with_reducible exact LeO.refl _)
      | (with_reducible exact LeO.none _)
      | (with_reducible refine LeO.ite ?_ ?_)
      | (with_reducible refine LeO.bind ?_ (fun _ => ?_))
      | exact ih0 _ _ _ _ _ _ _ _ _
      | exact ih1 _ _ _ _
      | exact casematelaw14_works.mono _
      | exact geom_Place.mono _ _ _ _ _
      | exact geom_Sectors.mono _ _ _
      | exact geom_What.mono _ _ _ _
      | exact LeO.none _
      | refine LeO.ite ?_ ?_
      | refine LeO.bind ?_ (fun _ => ?_)
    · intro y0 y1 y2 y3
      unfold casematelaw14_GeomBack.j1
      repeat' first
      | (with_reducible exact ih0 _ _ _ _ _ _ _ _ _)
      | (with_reducible exact ih1 _ _ _ _)
      | (with_reducible exact casematelaw14_works.mono _)
      | (with_reducible exact geom_Place.mono _ _ _ _ _)
      | (with_reducible exact geom_Sectors.mono _ _ _)
      | (with_reducible exact geom_What.mono _ _ _ _)
      | (with_reducible exact LeO.refl _)
      | (with_reducible exact LeO.none _)
      | (with_reducible refine LeO.ite ?_ ?_)
      | (with_reducible refine LeO.bind ?_ (fun _ => ?_))
      | exact ih0 _ _ _ _ _ _ _ _ _
      | exact ih1 _ _ _ _
      | exact casematelaw14_works.mono _
      | exact geom_Place.mono _ _ _ _ _
      | exact geom_Sectors.mono _ _ _
      | exact geom_What.mono _ _ _ _
      | exact LeO.none _
      | refine LeO.ite ?_ ?_
      | refine LeO.bind ?_ (fun _ => ?_)
theorem casematelaw14_GeomBack.mono : ∀ a0 a1 a2 a3 a4 k, LeO (casematelaw14_GeomBack.f k a0 a1 a2 a3 a4) (casematelaw14_GeomBack.f (k + 1) a0 a1 a2 a3 a4) := by
  intro a0 a1 a2 a3 a4 k
  obtain ⟨ih0, ih1⟩ := casematelaw14_GeomBack.mono_l k
  unfold casematelaw14_GeomBack.f
  repeat' first
      | (with_reducible exact ih0 _ _ _ _ _ _ _ _ _)
      | (with_reducible exact ih1 _ _ _ _)
      | (with_reducible exact casematelaw14_works.mono _)
      | (with_reducible exact geom_Place.mono _ _ _ _ _)
      | (with_reducible exact geom_Sectors.mono _ _ _)
      | (with_reducible exact geom_What.mono _ _ _ _)
      | (with_reducible exact LeO.refl _)
      | (with_reducible exact LeO.none _)
      | (with_reducible refine LeO.ite ?_ ?_)
      | (with_reducible refine LeO.bind ?_ (fun _ => ?_))
      | exact ih0 _ _ _ _ _ _ _ _ _
      | exact ih1 _ _ _ _
      | exact casematelaw14_works.mono _
      | exact geom_Place.mono _ _ _ _ _
      | exact geom_Sectors.mono _ _ _
      | exact geom_What.mono _ _ _ _
      | exact LeO.none _
      | refine LeO.ite ?_ ?_
      | refine LeO.bind ?_ (fun _ => ?_)
set_option maxHeartbeats 8000000 in
set_option maxRecDepth 100000 in
theorem casematelaw14_GeomBack.calls (k : Nat) (a0_0 : Int) (a0_1 : Int) (a1 : Int) (a2_0 : Int) (a2_1 : Int) (r : Bool) (w : World) (h : casematelaw14_GeomBack.f k a0_0 a0_1 a1 a2_0 a2_1 = some r) :
    Calls Try.prog 7 #[.agg #[.int .i64 a0_0, .int .i64 a0_1], .int .i64 a1, .agg #[.int .i64 a2_0, .int .i64 a2_1]] w fun e w' => e = .returned (.bool r) ∧ Below w.heap.size w w' := by
  have hu23 := Try.underlying23
  have hu30 := Try.underlying30
  have HB := Aside0.mk (Below.refl w.heap.size w)
  have H : ((geom_What.f k a0_0 a0_1 a1).bind fun bt132 => ((geom_Check.f a0_0 a0_1).bind fun t135 => (if t135 = 0 then (if a1 ≥ 0 then ((geom_Sectors.f k a0_0 a0_1).bind fun t136 => (casematelaw14_GeomBack.j0 k a1 bt132.1 bt132.2.1 bt132.2.2 ((bt132.2.2 == 0) != (decide (a1 < t136))) a0_0 a0_1 a2_0 a2_1)) else (casematelaw14_GeomBack.j0 k a1 bt132.1 bt132.2.1 bt132.2.2 ((bt132.2.2 == 0) != false) a0_0 a0_1 a2_0 a2_1)) else (casematelaw14_GeomBack.j0 k a1 bt132.1 bt132.2.1 bt132.2.2 ((bt132.2.2 == 0) != false) a0_0 a0_1 a2_0 a2_1)))) = some r := h
  clear h
  replace H := Option.bind_eq_some_iff.mp H
  obtain ⟨⟨t132, t133, t134⟩, A40, H⟩ := H
  replace H : ((geom_Check.f a0_0 a0_1).bind fun t135 => (if t135 = 0 then (if a1 ≥ 0 then ((geom_Sectors.f k a0_0 a0_1).bind fun t136 => (casematelaw14_GeomBack.j0 k a1 t132 t133 t134 ((t134 == 0) != (decide (a1 < t136))) a0_0 a0_1 a2_0 a2_1)) else (casematelaw14_GeomBack.j0 k a1 t132 t133 t134 ((t134 == 0) != false) a0_0 a0_1 a2_0 a2_1)) else (casematelaw14_GeomBack.j0 k a1 t132 t133 t134 ((t134 == 0) != false) a0_0 a0_1 a2_0 a2_1))) = some r := H
  have A4 := Aside0.mk A40
  clear A40
  have HC5 := Aside0.mk H
  clear H
  go_enter Try.func7, Try.ntmps7
  go_upto_region 2 with (first | ((with_reducible refine gate_dst (N := 3) rfl ?_); refine box_event ?hg (N := 3) ?hd (cs := #[.int .i64 a0_0, .int .i64 a0_1]) (t := 23) ?hr ?_; (case hd => rfl); (case hg => rfl); (case hr => first | (go_simp; done) | (go_simp; rfl)); intro gb130 hg w6 hbox hb; have n0_ := Aside0.mk (below_step (by repeat (first | (with_reducible first | exact HB.out | apply below_alloc | apply pw_below_drewN | apply below_drew1) | exact HB.out)) hb); have n1_ := Aside0.mk (hbox); have n2_ := Aside0.mk ((by rw [hg]; exact (below_size (by repeat (first | (with_reducible first | exact HB.out | apply below_alloc | apply pw_below_drewN | apply below_drew1) | exact HB.out))) : w.heap.size ≤ gb130)); have n3_ := Aside0.mk ((by rw [hg]; exact (below_size (by repeat (first | (with_reducible first | exact HB.out | apply below_alloc | apply pw_below_drewN | apply below_drew1) | exact HB.out))) : w.heap.size ≤ gb130)); clear HB; have HB := n0_; have BK130 := n1_; have GW130 := n2_; have GE130 := n3_; clear n0_ n1_ n2_ n3_; clear hb hbox hg) | ((with_reducible refine gate_dst (N := 5) rfl ?_); refine box_event ?hg (N := 5) ?hd (cs := #[.int .i64 a2_0, .int .i64 a2_1]) (t := 30) ?hr ?_; (case hd => rfl); (case hg => rfl); (case hr => first | (go_simp; done) | (go_simp; rfl)); intro gb131 hg w7 hbox hb; have n0_ := Aside0.mk (blk_below (g := gb130) (o := .cells #[.int .i64 a0_0, .int .i64 a0_1] 23 (0, 0)) (by (with_reducible repeat (first | refine blk_drewN ?_ _ | refine blk_drew ?_ | refine blk_alloc ?_ _)); exact BK130.out) hb); have n1_ := Aside0.mk (below_step (by repeat (first | (with_reducible first | exact HB.out | apply below_alloc | apply pw_below_drewN | apply below_drew1 | refine below_set ?_ GE130.out) | exact HB.out)) hb); have n2_ := Aside0.mk (hbox); have n3_ := Aside0.mk ((by rw [hg]; exact (below_size (by repeat (first | (with_reducible first | exact HB.out | apply below_alloc | apply pw_below_drewN | apply below_drew1 | refine below_set ?_ GE130.out) | exact HB.out))) : w.heap.size ≤ gb131)); have n4_ := Aside0.mk ((by rw [hg]; exact (below_size (by repeat (first | (with_reducible first | exact HB.out | apply below_alloc | apply pw_below_drewN | apply below_drew1 | refine below_set ?_ GE130.out) | exact HB.out))) : w.heap.size ≤ gb131)); have n5_ := Aside0.mk ((by rw [hg]; exact Nat.ne_of_lt (blk_lt (g := gb130) (o := .cells #[.int .i64 a0_0, .int .i64 a0_1] 23 (0, 0)) (by (with_reducible repeat (first | refine blk_drewN ?_ _ | refine blk_drew ?_ | refine blk_alloc ?_ _)); exact BK130.out)) : gb130 ≠ gb131)); have n6_ := Aside0.mk ((by rw [hg]; exact Nat.ne_of_gt (blk_lt (g := gb130) (o := .cells #[.int .i64 a0_0, .int .i64 a0_1] 23 (0, 0)) (by (with_reducible repeat (first | refine blk_drewN ?_ _ | refine blk_drew ?_ | refine blk_alloc ?_ _)); exact BK130.out)) : gb131 ≠ gb130)); clear BK130; clear HB; have BK130 := n0_; have HB := n1_; have BK131 := n2_; have GW131 := n3_; have GE131 := n4_; have NB130_131 := n5_; have NB131_130 := n6_; clear n0_ n1_ n2_ n3_ n4_ n5_ n6_; clear hb hbox hg; have hnb8 := NB130_131.out; have hnc8 := NB131_130.out; have hcz9_0 : w7.cell? ⟨gb130, 0, none⟩ = some (.int .i64 a0_0) := (blk_cell BK130.out 0).trans rfl; have hcz9_1 : w7.cell? ⟨gb130, 1, none⟩ = some (.int .i64 a0_1) := (blk_cell BK130.out 1).trans rfl; have hfz9_0 := blk_frozen BK130.out 0; have hfz9_1 := blk_frozen BK130.out 1) | ((with_reducible refine gate_callee (f := 28) rfl ?_); refine goesL_ (some 20) rfl rfl Try.func28 (by kernel_rfl) rfl #[.agg #[.int .i64 a0_0, .int .i64 a0_1], .int .i64 a1] rfl (by (try simp only [List.map_toArray, List.map_cons, List.map_nil]); first | done | rfl | (simp only [List.length_drop, List.length_take]; rfl)) ?_; (with_reducible refine (geom_What.calls k a0_0 a0_1 a1 t132 t133 t134 _ A4.out).mono ?_); rintro e w10 ⟨rfl, hb⟩; refine ⟨_, rfl, ?_⟩; have n0_ := Aside0.mk (blk_below (g := gb130) (o := .cells #[.int .i64 a0_0, .int .i64 a0_1] 23 (0, 0)) (by (with_reducible repeat (first | refine blk_drewN ?_ _ | refine blk_drew ?_ | refine blk_alloc ?_ _)); exact BK130.out) hb); have n1_ := Aside0.mk (blk_below (g := gb131) (o := .cells #[.int .i64 a2_0, .int .i64 a2_1] 30 (0, 0)) (by (with_reducible repeat (first | refine blk_drewN ?_ _ | refine blk_drew ?_ | refine blk_alloc ?_ _)); exact BK131.out) hb); have n2_ := Aside0.mk (below_step (by repeat (first | (with_reducible first | exact HB.out | apply below_alloc | apply pw_below_drewN | apply below_drew1 | refine below_set ?_ GE130.out | refine below_set ?_ GE131.out) | exact HB.out)) hb); clear BK130; clear BK131; clear HB; have BK130 := n0_; have BK131 := n1_; have HB := n2_; clear n0_ n1_ n2_; (try clear hb); (try clear hb2); (try clear hk); (try clear hi)))
  (try simp only [Act.put, List.setIfInBounds_toArray, List.set_cons_zero, List.set_cons_succ])
  go_cut [39] (fun v39 wc => ∃ (kq : Nat) (x39_4 : Bool), v39 = .bool x39_4 ∧ Aside0 (casematelaw14_GeomBack.j0 kq a1 t132 t133 t134 x39_4 a0_0 a0_1 a2_0 a2_1 = some r) ∧ Aside0 (kq ≤ k) ∧ Aside0 (wc.heap[gb130]? = some (.cells #[.int .i64 a0_0, .int .i64 a0_1] 23 (0, 0))) ∧ Aside0 (wc.heap[gb131]? = some (.cells #[.int .i64 a2_0, .int .i64 a2_1] 30 (0, 0))) ∧ Aside0 (Below w.heap.size w wc))
  case first =>
    have H := HC5.out
    clear HC5
    replace H := Option.bind_eq_some_iff.mp H
    obtain ⟨t135, A110, H⟩ := H
    replace H : (if t135 = 0 then (if a1 ≥ 0 then ((geom_Sectors.f k a0_0 a0_1).bind fun t136 => (casematelaw14_GeomBack.j0 k a1 t132 t133 t134 ((t134 == 0) != (decide (a1 < t136))) a0_0 a0_1 a2_0 a2_1)) else (casematelaw14_GeomBack.j0 k a1 t132 t133 t134 ((t134 == 0) != false) a0_0 a0_1 a2_0 a2_1)) else (casematelaw14_GeomBack.j0 k a1 t132 t133 t134 ((t134 == 0) != false) a0_0 a0_1 a2_0 a2_1)) = some r := H
    have A11 := Aside0.mk A110
    clear A110
    by_cases c12 : t135 = 0
    · rw [if_pos c12] at H
      have c12b0 : (t135 == 0) = true := beq_iff_eq.mpr c12
      have c12b1 : (t135 != 0) = false := bne_eq_false_iff_eq.mpr c12
      clear c12
      (first | rw [c12b0] | (simp only [i64_w, i32_w]; rw [c12b0]) | skip)
      by_cases c13 : a1 ≥ 0
      · rw [if_pos c13] at H
        have c13b0 : decide (0 ≤ a1) = true := decide_eq_true c13
        clear c13
        replace H := Option.bind_eq_some_iff.mp H
        obtain ⟨t136, A140, H⟩ := H
        replace H : (casematelaw14_GeomBack.j0 k a1 t132 t133 t134 ((t134 == 0) != (decide (a1 < t136))) a0_0 a0_1 a2_0 a2_1) = some r := H
        have A14 := Aside0.mk A140
        clear A140
        have H' := Aside0.mk H
        clear H
        have hnb15 := NB130_131.out
        have hnc15 := NB131_130.out
        have hcz16_0 : w10.cell? ⟨gb130, 0, none⟩ = some (.int .i64 a0_0) := (blk_cell BK130.out 0).trans rfl
        have hcz16_1 : w10.cell? ⟨gb130, 1, none⟩ = some (.int .i64 a0_1) := (blk_cell BK130.out 1).trans rfl
        have hfz16_0 := blk_frozen BK130.out 0
        have hfz16_1 := blk_frozen BK130.out 1
        go_wp2_with (first | ((with_reducible refine gate_callee (f := 9) rfl ?_); refine goesL_ (some 27) rfl rfl Try.func9 (by kernel_rfl) rfl #[.agg #[.int .i64 a0_0, .int .i64 a0_1]] rfl (by (try simp only [List.map_toArray, List.map_cons, List.map_nil]); first | done | rfl | (simp only [List.length_drop, List.length_take]; rfl)) ?_; (with_reducible refine (geom_Check.calls a0_0 a0_1 t135 _ A11.out).mono ?_); rintro e w17 ⟨rfl, hb⟩; refine ⟨_, rfl, ?_⟩; have n0_ := Aside0.mk (blk_below (g := gb130) (o := .cells #[.int .i64 a0_0, .int .i64 a0_1] 23 (0, 0)) (by (with_reducible repeat (first | refine blk_drewN ?_ _ | refine blk_drew ?_ | refine blk_alloc ?_ _)); exact BK130.out) hb); have n1_ := Aside0.mk (blk_below (g := gb131) (o := .cells #[.int .i64 a2_0, .int .i64 a2_1] 30 (0, 0)) (by (with_reducible repeat (first | refine blk_drewN ?_ _ | refine blk_drew ?_ | refine blk_alloc ?_ _)); exact BK131.out) hb); have n2_ := Aside0.mk (below_step (by repeat (first | (with_reducible first | exact HB.out | apply below_alloc | apply pw_below_drewN | apply below_drew1 | refine below_set ?_ GE130.out | refine below_set ?_ GE131.out) | exact HB.out)) hb); clear BK130; clear BK131; clear HB; have BK130 := n0_; have BK131 := n1_; have HB := n2_; clear n0_ n1_ n2_; (try clear hb); (try clear hb2); (try clear hk); (try clear hi); have hcz18_0 : w17.cell? ⟨gb130, 0, none⟩ = some (.int .i64 a0_0) := (blk_cell BK130.out 0).trans rfl; have hcz18_1 : w17.cell? ⟨gb130, 1, none⟩ = some (.int .i64 a0_1) := (blk_cell BK130.out 1).trans rfl; have hfz18_0 := blk_frozen BK130.out 0; have hfz18_1 := blk_frozen BK130.out 1) | (go_at_call 23; (with_reducible refine (geom_Sectors.calls k a0_0 a0_1 t136 _ A14.out).mono ?_); rintro e w19 ⟨rfl, hb⟩; have n0_ := Aside0.mk (blk_below (g := gb130) (o := .cells #[.int .i64 a0_0, .int .i64 a0_1] 23 (0, 0)) (by (with_reducible repeat (first | refine blk_drewN ?_ _ | refine blk_drew ?_ | refine blk_alloc ?_ _)); exact BK130.out) hb); have n1_ := Aside0.mk (blk_below (g := gb131) (o := .cells #[.int .i64 a2_0, .int .i64 a2_1] 30 (0, 0)) (by (with_reducible repeat (first | refine blk_drewN ?_ _ | refine blk_drew ?_ | refine blk_alloc ?_ _)); exact BK131.out) hb); have n2_ := Aside0.mk (below_step (by repeat (first | (with_reducible first | exact HB.out | apply below_alloc | apply pw_below_drewN | apply below_drew1 | refine below_set ?_ GE130.out | refine below_set ?_ GE131.out) | exact HB.out)) hb); clear BK130; clear BK131; clear HB; have BK130 := n0_; have BK131 := n1_; have HB := n2_; clear n0_ n1_ n2_; (try clear hb); (try clear hb2); (try clear hk); (try clear hi)))
        go_meet
        case rel => exact ⟨_, (((t134 == 0) != (decide (a1 < t136)))), (by first | rfl | (simp; done) | (simp [*]; done)), H', ⟨by first | omega | exact Nat.le_refl _⟩, ⟨by (with_reducible repeat (first | refine blk_drewN ?_ _ | refine blk_drew ?_ | refine blk_alloc ?_ _)); exact BK130.out⟩, ⟨by (with_reducible repeat (first | refine blk_drewN ?_ _ | refine blk_drew ?_ | refine blk_alloc ?_ _)); exact BK131.out⟩, ⟨by repeat (first | (with_reducible first | exact HB.out | apply below_alloc | apply pw_below_drewN | apply below_drew1 | refine below_set ?_ GE130.out | refine below_set ?_ GE131.out) | exact HB.out)⟩⟩
      · rw [if_neg c13] at H
        have c13b0 : decide (0 ≤ a1) = false := decide_eq_false c13
        clear c13
        have H' := Aside0.mk H
        clear H
        have hnb20 := NB130_131.out
        have hnc20 := NB131_130.out
        have hcz21_0 : w10.cell? ⟨gb130, 0, none⟩ = some (.int .i64 a0_0) := (blk_cell BK130.out 0).trans rfl
        have hcz21_1 : w10.cell? ⟨gb130, 1, none⟩ = some (.int .i64 a0_1) := (blk_cell BK130.out 1).trans rfl
        have hfz21_0 := blk_frozen BK130.out 0
        have hfz21_1 := blk_frozen BK130.out 1
        go_wp2_with (first | ((with_reducible refine gate_callee (f := 9) rfl ?_); refine goesL_ (some 27) rfl rfl Try.func9 (by kernel_rfl) rfl #[.agg #[.int .i64 a0_0, .int .i64 a0_1]] rfl (by (try simp only [List.map_toArray, List.map_cons, List.map_nil]); first | done | rfl | (simp only [List.length_drop, List.length_take]; rfl)) ?_; (with_reducible refine (geom_Check.calls a0_0 a0_1 t135 _ A11.out).mono ?_); rintro e w22 ⟨rfl, hb⟩; refine ⟨_, rfl, ?_⟩; have n0_ := Aside0.mk (blk_below (g := gb130) (o := .cells #[.int .i64 a0_0, .int .i64 a0_1] 23 (0, 0)) (by (with_reducible repeat (first | refine blk_drewN ?_ _ | refine blk_drew ?_ | refine blk_alloc ?_ _)); exact BK130.out) hb); have n1_ := Aside0.mk (blk_below (g := gb131) (o := .cells #[.int .i64 a2_0, .int .i64 a2_1] 30 (0, 0)) (by (with_reducible repeat (first | refine blk_drewN ?_ _ | refine blk_drew ?_ | refine blk_alloc ?_ _)); exact BK131.out) hb); have n2_ := Aside0.mk (below_step (by repeat (first | (with_reducible first | exact HB.out | apply below_alloc | apply pw_below_drewN | apply below_drew1 | refine below_set ?_ GE130.out | refine below_set ?_ GE131.out) | exact HB.out)) hb); clear BK130; clear BK131; clear HB; have BK130 := n0_; have BK131 := n1_; have HB := n2_; clear n0_ n1_ n2_; (try clear hb); (try clear hb2); (try clear hk); (try clear hi)))
        go_meet
        case rel => exact ⟨_, (((t134 == 0) != false)), (by first | rfl | (simp; done) | (simp [*]; done)), H', ⟨by first | omega | exact Nat.le_refl _⟩, ⟨by (with_reducible repeat (first | refine blk_drewN ?_ _ | refine blk_drew ?_ | refine blk_alloc ?_ _)); exact BK130.out⟩, ⟨by (with_reducible repeat (first | refine blk_drewN ?_ _ | refine blk_drew ?_ | refine blk_alloc ?_ _)); exact BK131.out⟩, ⟨by repeat (first | (with_reducible first | exact HB.out | apply below_alloc | apply pw_below_drewN | apply below_drew1 | refine below_set ?_ GE130.out | refine below_set ?_ GE131.out) | exact HB.out)⟩⟩
    · rw [if_neg c12] at H
      have c12b0 : (t135 == 0) = false := beq_eq_false_iff_ne.mpr c12
      have c12b1 : (t135 != 0) = true := bne_iff_ne.mpr c12
      (first | rw [c12b0] | (simp only [i64_w, i32_w]; rw [c12b0]) | skip)
      have H' := Aside0.mk H
      clear H
      have hnb23 := NB130_131.out
      have hnc23 := NB131_130.out
      have hcz24_0 : w10.cell? ⟨gb130, 0, none⟩ = some (.int .i64 a0_0) := (blk_cell BK130.out 0).trans rfl
      have hcz24_1 : w10.cell? ⟨gb130, 1, none⟩ = some (.int .i64 a0_1) := (blk_cell BK130.out 1).trans rfl
      have hfz24_0 := blk_frozen BK130.out 0
      have hfz24_1 := blk_frozen BK130.out 1
      go_wp2_with (first | ((with_reducible refine gate_callee (f := 9) rfl ?_); refine goesL_ (some 27) rfl rfl Try.func9 (by kernel_rfl) rfl #[.agg #[.int .i64 a0_0, .int .i64 a0_1]] rfl (by (try simp only [List.map_toArray, List.map_cons, List.map_nil]); first | done | rfl | (simp only [List.length_drop, List.length_take]; rfl)) ?_; (with_reducible refine (geom_Check.calls a0_0 a0_1 t135 _ A11.out).mono ?_); rintro e w25 ⟨rfl, hb⟩; refine ⟨_, rfl, ?_⟩; have n0_ := Aside0.mk (blk_below (g := gb130) (o := .cells #[.int .i64 a0_0, .int .i64 a0_1] 23 (0, 0)) (by (with_reducible repeat (first | refine blk_drewN ?_ _ | refine blk_drew ?_ | refine blk_alloc ?_ _)); exact BK130.out) hb); have n1_ := Aside0.mk (blk_below (g := gb131) (o := .cells #[.int .i64 a2_0, .int .i64 a2_1] 30 (0, 0)) (by (with_reducible repeat (first | refine blk_drewN ?_ _ | refine blk_drew ?_ | refine blk_alloc ?_ _)); exact BK131.out) hb); have n2_ := Aside0.mk (below_step (by repeat (first | (with_reducible first | exact HB.out | apply below_alloc | apply pw_below_drewN | apply below_drew1 | refine below_set ?_ GE130.out | refine below_set ?_ GE131.out) | exact HB.out)) hb); clear BK130; clear BK131; clear HB; have BK130 := n0_; have BK131 := n1_; have HB := n2_; clear n0_ n1_ n2_; (try clear hb); (try clear hb2); (try clear hk); (try clear hi)))
      go_meet
      case rel => exact ⟨_, (((t134 == 0) != false)), (by first | rfl | (simp; done) | (simp [*]; done)), H', ⟨by first | omega | exact Nat.le_refl _⟩, ⟨by (with_reducible repeat (first | refine blk_drewN ?_ _ | refine blk_drew ?_ | refine blk_alloc ?_ _)); exact BK130.out⟩, ⟨by (with_reducible repeat (first | refine blk_drewN ?_ _ | refine blk_drew ?_ | refine blk_alloc ?_ _)); exact BK131.out⟩, ⟨by repeat (first | (with_reducible first | exact HB.out | apply below_alloc | apply pw_below_drewN | apply below_drew1 | refine below_set ?_ GE130.out | refine below_set ?_ GE131.out) | exact HB.out)⟩⟩
  case rest =>
    clear HC5
    try clear c1
    try clear c2
    try clear p2
    try clear c7
    try clear c8
    try clear c9
    try clear c12
    try clear c12b0
    try clear c12b1
    try clear c13
    try clear c13b0
    try clear c15
    try clear c20
    try clear c23
    try clear hcz16_0
    try clear hcz16_1
    try clear hcz18_0
    try clear hcz18_1
    try clear hcz21_0
    try clear hcz21_1
    try clear hcz24_0
    try clear hcz24_1
    try clear hcz9_0
    try clear hcz9_1
    try clear hfz16_0
    try clear hfz16_1
    try clear hfz18_0
    try clear hfz18_1
    try clear hfz21_0
    try clear hfz21_1
    try clear hfz24_0
    try clear hfz24_1
    try clear hfz9_0
    try clear hfz9_1
    obtain ⟨kq, x39_4, rfl, HA, HJ4, BK130, BK131, HB⟩ := hcut
    cases kq with
    | zero => exact absurd HA.out (by simp [casematelaw14_GeomBack.j0])
    | succ kj4 =>
      have H := HA.out
      clear HA
      simp only [casematelaw14_GeomBack.j0] at H
      by_cases c26 : x39_4 = true
      · subst c26
        have H1 : (some false) = some r := by rw [if_pos rfl] at H; exact H
        clear H
        have H := H1
        clear H1
        obtain rfl := Option.some.inj H
        go_wp2
        go_ret
        exact ⟨by first | rfl | (simp [errW_none, errW_some] <;> rfl) | (simp [*, errW_none, errW_some] <;> rfl), by repeat (first | (with_reducible first | exact HB.out | apply below_alloc | apply pw_below_drewN | apply below_drew1 | refine below_set ?_ GE130.out | refine below_set ?_ GE131.out) | exact HB.out)⟩
      · replace c26 := Bool.eq_false_iff.mpr c26
        subst c26
        have H1 : (if t134 = 0 then ((geom_Place.f kj4 a0_0 a0_1 t132 t133).bind fun bt137 => (if bt137.2 = 0 then (if bt137.1 = a1 then (casematelaw14_GeomBack.j1 kj4 a0_0 a0_1 a2_0 a2_1) else (some false)) else (some false))) else (casematelaw14_GeomBack.j1 kj4 a0_0 a0_1 a2_0 a2_1)) = some r := by rw [if_neg (show ¬ (false = true) by decide)] at H; exact H
        clear H
        have H := H1
        clear H1
        have HC27 := Aside0.mk H
        clear H
        go_upto_if 41 with (fail)
        go_cut [] (fun wc => ∃ (kq : Nat), Aside0 (casematelaw14_GeomBack.j1 kq a0_0 a0_1 a2_0 a2_1 = some r) ∧ Aside0 (kq ≤ kj4) ∧ Aside0 (wc.heap[gb130]? = some (.cells #[.int .i64 a0_0, .int .i64 a0_1] 23 (0, 0))) ∧ Aside0 (wc.heap[gb131]? = some (.cells #[.int .i64 a2_0, .int .i64 a2_1] 30 (0, 0))) ∧ Aside0 (Below w.heap.size w wc))
        case first =>
          have H := HC27.out
          clear HC27
          by_cases c28 : t134 = 0
          · rw [if_pos c28] at H
            have c28b0 : (t134 == 0) = true := beq_iff_eq.mpr c28
            have c28b1 : (t134 != 0) = false := bne_eq_false_iff_eq.mpr c28
            clear c28
            (first | rw [c28b0] | (simp only [i64_w, i32_w]; rw [c28b0]) | skip)
            replace H := Option.bind_eq_some_iff.mp H
            obtain ⟨⟨t137, t138⟩, A290, H⟩ := H
            replace H : (if t138 = 0 then (if t137 = a1 then (casematelaw14_GeomBack.j1 kj4 a0_0 a0_1 a2_0 a2_1) else (some false)) else (some false)) = some r := H
            have A29 := Aside0.mk A290
            clear A290
            by_cases c30 : t138 = 0
            · rw [if_pos c30] at H
              have c30b0 : (t138 == 0) = true := beq_iff_eq.mpr c30
              have c30b1 : (t138 != 0) = false := bne_eq_false_iff_eq.mpr c30
              clear c30
              by_cases c31 : t137 = a1
              · rw [if_pos c31] at H
                have c31b0 : (t137 == a1) = true := beq_iff_eq.mpr c31
                have c31b1 : (t137 != a1) = false := bne_eq_false_iff_eq.mpr c31
                clear c31
                have H' := Aside0.mk H
                clear H
                have hnb32 := NB130_131.out
                have hnc32 := NB131_130.out
                have hcz33_0 : wc.cell? ⟨gb130, 0, none⟩ = some (.int .i64 a0_0) := (blk_cell BK130.out 0).trans rfl
                have hcz33_1 : wc.cell? ⟨gb130, 1, none⟩ = some (.int .i64 a0_1) := (blk_cell BK130.out 1).trans rfl
                have hfz33_0 := blk_frozen BK130.out 0
                have hfz33_1 := blk_frozen BK130.out 1
                go_wp2_with (first | ((with_reducible refine gate_callee (f := 26) rfl ?_); refine goesL_ (some 46) rfl rfl Try.func26 (by kernel_rfl) rfl #[.agg #[.int .i64 a0_0, .int .i64 a0_1], .int .i64 t132, .int .i64 t133] rfl (by (try simp only [List.map_toArray, List.map_cons, List.map_nil]); first | done | rfl | (simp only [List.length_drop, List.length_take]; rfl)) ?_; (with_reducible refine (geom_Place.calls kj4 a0_0 a0_1 t132 t133 t137 t138 _ A29.out).mono ?_); rintro e w34 ⟨rfl, hb⟩; refine ⟨_, rfl, ?_⟩; have n0_ := Aside0.mk (blk_below (g := gb130) (o := .cells #[.int .i64 a0_0, .int .i64 a0_1] 23 (0, 0)) (by (with_reducible repeat (first | refine blk_drewN ?_ _ | refine blk_drew ?_ | refine blk_alloc ?_ _)); exact BK130.out) hb); have n1_ := Aside0.mk (blk_below (g := gb131) (o := .cells #[.int .i64 a2_0, .int .i64 a2_1] 30 (0, 0)) (by (with_reducible repeat (first | refine blk_drewN ?_ _ | refine blk_drew ?_ | refine blk_alloc ?_ _)); exact BK131.out) hb); have n2_ := Aside0.mk (below_step (by repeat (first | (with_reducible first | exact HB.out | apply below_alloc | apply pw_below_drewN | apply below_drew1 | refine below_set ?_ GE130.out | refine below_set ?_ GE131.out) | exact HB.out)) hb); clear BK130; clear BK131; clear HB; have BK130 := n0_; have BK131 := n1_; have HB := n2_; clear n0_ n1_ n2_; (try clear hb); (try clear hb2); (try clear hk); (try clear hi)))
                go_meet
                case rel => exact ⟨_, H', ⟨by have := HJ4.out; first | omega | exact Nat.le_refl _⟩, ⟨by (with_reducible repeat (first | refine blk_drewN ?_ _ | refine blk_drew ?_ | refine blk_alloc ?_ _)); exact BK130.out⟩, ⟨by (with_reducible repeat (first | refine blk_drewN ?_ _ | refine blk_drew ?_ | refine blk_alloc ?_ _)); exact BK131.out⟩, ⟨by repeat (first | (with_reducible first | exact HB.out | apply below_alloc | apply pw_below_drewN | apply below_drew1 | refine below_set ?_ GE130.out | refine below_set ?_ GE131.out) | exact HB.out)⟩⟩
              · rw [if_neg c31] at H
                have c31b0 : (t137 == a1) = false := beq_eq_false_iff_ne.mpr c31
                have c31b1 : (t137 != a1) = true := bne_iff_ne.mpr c31
                obtain rfl := Option.some.inj H
                have hnb35 := NB130_131.out
                have hnc35 := NB131_130.out
                have hcz36_0 : wc.cell? ⟨gb130, 0, none⟩ = some (.int .i64 a0_0) := (blk_cell BK130.out 0).trans rfl
                have hcz36_1 : wc.cell? ⟨gb130, 1, none⟩ = some (.int .i64 a0_1) := (blk_cell BK130.out 1).trans rfl
                have hfz36_0 := blk_frozen BK130.out 0
                have hfz36_1 := blk_frozen BK130.out 1
                go_wp2_with (first | ((with_reducible refine gate_callee (f := 26) rfl ?_); refine goesL_ (some 46) rfl rfl Try.func26 (by kernel_rfl) rfl #[.agg #[.int .i64 a0_0, .int .i64 a0_1], .int .i64 t132, .int .i64 t133] rfl (by (try simp only [List.map_toArray, List.map_cons, List.map_nil]); first | done | rfl | (simp only [List.length_drop, List.length_take]; rfl)) ?_; (with_reducible refine (geom_Place.calls kj4 a0_0 a0_1 t132 t133 t137 t138 _ A29.out).mono ?_); rintro e w37 ⟨rfl, hb⟩; refine ⟨_, rfl, ?_⟩; have n0_ := Aside0.mk (blk_below (g := gb130) (o := .cells #[.int .i64 a0_0, .int .i64 a0_1] 23 (0, 0)) (by (with_reducible repeat (first | refine blk_drewN ?_ _ | refine blk_drew ?_ | refine blk_alloc ?_ _)); exact BK130.out) hb); have n1_ := Aside0.mk (blk_below (g := gb131) (o := .cells #[.int .i64 a2_0, .int .i64 a2_1] 30 (0, 0)) (by (with_reducible repeat (first | refine blk_drewN ?_ _ | refine blk_drew ?_ | refine blk_alloc ?_ _)); exact BK131.out) hb); have n2_ := Aside0.mk (below_step (by repeat (first | (with_reducible first | exact HB.out | apply below_alloc | apply pw_below_drewN | apply below_drew1 | refine below_set ?_ GE130.out | refine below_set ?_ GE131.out) | exact HB.out)) hb); clear BK130; clear BK131; clear HB; have BK130 := n0_; have BK131 := n1_; have HB := n2_; clear n0_ n1_ n2_; (try clear hb); (try clear hb2); (try clear hk); (try clear hi)))
                go_ret
                exact ⟨by first | rfl | (simp [errW_none, errW_some] <;> rfl) | (simp [*, errW_none, errW_some] <;> rfl), by repeat (first | (with_reducible first | exact HB.out | apply below_alloc | apply pw_below_drewN | apply below_drew1 | refine below_set ?_ GE130.out | refine below_set ?_ GE131.out) | exact HB.out)⟩
            · rw [if_neg c30] at H
              have c30b0 : (t138 == 0) = false := beq_eq_false_iff_ne.mpr c30
              have c30b1 : (t138 != 0) = true := bne_iff_ne.mpr c30
              obtain rfl := Option.some.inj H
              have hnb38 := NB130_131.out
              have hnc38 := NB131_130.out
              have hcz39_0 : wc.cell? ⟨gb130, 0, none⟩ = some (.int .i64 a0_0) := (blk_cell BK130.out 0).trans rfl
              have hcz39_1 : wc.cell? ⟨gb130, 1, none⟩ = some (.int .i64 a0_1) := (blk_cell BK130.out 1).trans rfl
              have hfz39_0 := blk_frozen BK130.out 0
              have hfz39_1 := blk_frozen BK130.out 1
              go_wp2_with (first | ((with_reducible refine gate_callee (f := 26) rfl ?_); refine goesL_ (some 46) rfl rfl Try.func26 (by kernel_rfl) rfl #[.agg #[.int .i64 a0_0, .int .i64 a0_1], .int .i64 t132, .int .i64 t133] rfl (by (try simp only [List.map_toArray, List.map_cons, List.map_nil]); first | done | rfl | (simp only [List.length_drop, List.length_take]; rfl)) ?_; (with_reducible refine (geom_Place.calls kj4 a0_0 a0_1 t132 t133 t137 t138 _ A29.out).mono ?_); rintro e w40 ⟨rfl, hb⟩; refine ⟨_, rfl, ?_⟩; have n0_ := Aside0.mk (blk_below (g := gb130) (o := .cells #[.int .i64 a0_0, .int .i64 a0_1] 23 (0, 0)) (by (with_reducible repeat (first | refine blk_drewN ?_ _ | refine blk_drew ?_ | refine blk_alloc ?_ _)); exact BK130.out) hb); have n1_ := Aside0.mk (blk_below (g := gb131) (o := .cells #[.int .i64 a2_0, .int .i64 a2_1] 30 (0, 0)) (by (with_reducible repeat (first | refine blk_drewN ?_ _ | refine blk_drew ?_ | refine blk_alloc ?_ _)); exact BK131.out) hb); have n2_ := Aside0.mk (below_step (by repeat (first | (with_reducible first | exact HB.out | apply below_alloc | apply pw_below_drewN | apply below_drew1 | refine below_set ?_ GE130.out | refine below_set ?_ GE131.out) | exact HB.out)) hb); clear BK130; clear BK131; clear HB; have BK130 := n0_; have BK131 := n1_; have HB := n2_; clear n0_ n1_ n2_; (try clear hb); (try clear hb2); (try clear hk); (try clear hi)))
              go_ret
              exact ⟨by first | rfl | (simp [errW_none, errW_some] <;> rfl) | (simp [*, errW_none, errW_some] <;> rfl), by repeat (first | (with_reducible first | exact HB.out | apply below_alloc | apply pw_below_drewN | apply below_drew1 | refine below_set ?_ GE130.out | refine below_set ?_ GE131.out) | exact HB.out)⟩
          · rw [if_neg c28] at H
            have c28b0 : (t134 == 0) = false := beq_eq_false_iff_ne.mpr c28
            have c28b1 : (t134 != 0) = true := bne_iff_ne.mpr c28
            (first | rw [c28b0] | (simp only [i64_w, i32_w]; rw [c28b0]) | skip)
            have H' := Aside0.mk H
            clear H
            go_wp2
            go_meet
            case rel => exact ⟨_, H', ⟨by have := HJ4.out; first | omega | exact Nat.le_refl _⟩, ⟨by (with_reducible repeat (first | refine blk_drewN ?_ _ | refine blk_drew ?_ | refine blk_alloc ?_ _)); exact BK130.out⟩, ⟨by (with_reducible repeat (first | refine blk_drewN ?_ _ | refine blk_drew ?_ | refine blk_alloc ?_ _)); exact BK131.out⟩, ⟨by repeat (first | (with_reducible first | exact HB.out | apply below_alloc | apply pw_below_drewN | apply below_drew1 | refine below_set ?_ GE130.out | refine below_set ?_ GE131.out) | exact HB.out)⟩⟩
        case rest =>
          clear HC27
          try clear c1
          try clear c2
          try clear p2
          try clear c3
          try clear c7
          try clear c8
          try clear c9
          try clear c12
          try clear c12b0
          try clear c12b1
          try clear c13
          try clear c13b0
          try clear c15
          try clear c20
          try clear c23
          try clear c26
          try clear c28
          try clear c28b0
          try clear c28b1
          try clear c30
          try clear c30b0
          try clear c30b1
          try clear c31
          try clear c31b0
          try clear c31b1
          try clear c32
          try clear c35
          try clear c38
          try clear hcz16_0
          try clear hcz16_1
          try clear hcz18_0
          try clear hcz18_1
          try clear hcz21_0
          try clear hcz21_1
          try clear hcz24_0
          try clear hcz24_1
          try clear hcz33_0
          try clear hcz33_1
          try clear hcz36_0
          try clear hcz36_1
          try clear hcz39_0
          try clear hcz39_1
          try clear hcz9_0
          try clear hcz9_1
          try clear hfz16_0
          try clear hfz16_1
          try clear hfz18_0
          try clear hfz18_1
          try clear hfz21_0
          try clear hfz21_1
          try clear hfz24_0
          try clear hfz24_1
          try clear hfz33_0
          try clear hfz33_1
          try clear hfz36_0
          try clear hfz36_1
          try clear hfz39_0
          try clear hfz39_1
          try clear hfz9_0
          try clear hfz9_1
          try clear p2
          obtain ⟨kq, HA, HJ26, BK130, BK131, HB⟩ := hcut
          cases kq with
          | zero => exact absurd HA.out (by simp [casematelaw14_GeomBack.j1])
          | succ kj26 =>
            have H := HA.out
            clear HA
            simp only [casematelaw14_GeomBack.j1] at H
            replace H := Option.bind_eq_some_iff.mp H
            obtain ⟨⟨t139, t140⟩, A410, H⟩ := H
            replace H : (if t140 = 0 then ((geom_What.f kj26 a0_0 a0_1 t139).bind fun bt141 => (if bt141.2.2 = 0 then (if bt141.1 = a2_0 then (if bt141.2.1 = a2_1 then ((casematelaw14_works.f kj26).bind fun t144 => (some t144)) else (some false)) else (some false)) else (some false))) else (if t139 = 0 then ((casematelaw14_works.f kj26).bind fun t145 => (some t145)) else (some false))) = some r := H
            have A41 := Aside0.mk A410
            clear A410
            by_cases c42 : t140 = 0
            · rw [if_pos c42] at H
              have c42b0 : (t140 == 0) = true := beq_iff_eq.mpr c42
              have c42b1 : (t140 != 0) = false := bne_eq_false_iff_eq.mpr c42
              clear c42
              replace H := Option.bind_eq_some_iff.mp H
              obtain ⟨⟨t141, t142, t143⟩, A430, H⟩ := H
              replace H : (if t143 = 0 then (if t141 = a2_0 then (if t142 = a2_1 then ((casematelaw14_works.f kj26).bind fun t144 => (some t144)) else (some false)) else (some false)) else (some false)) = some r := H
              have A43 := Aside0.mk A430
              clear A430
              by_cases c44 : t143 = 0
              · rw [if_pos c44] at H
                have c44b0 : (t143 == 0) = true := beq_iff_eq.mpr c44
                have c44b1 : (t143 != 0) = false := bne_eq_false_iff_eq.mpr c44
                clear c44
                by_cases c45 : t141 = a2_0
                · rw [if_pos c45] at H
                  have c45b0 : (t141 == a2_0) = true := beq_iff_eq.mpr c45
                  have c45b1 : (t141 != a2_0) = false := bne_eq_false_iff_eq.mpr c45
                  clear c45
                  by_cases c46 : t142 = a2_1
                  · rw [if_pos c46] at H
                    have c46b0 : (t142 == a2_1) = true := beq_iff_eq.mpr c46
                    have c46b1 : (t142 != a2_1) = false := bne_eq_false_iff_eq.mpr c46
                    clear c46
                    replace H := Option.bind_eq_some_iff.mp H
                    obtain ⟨t144, A470, H⟩ := H
                    replace H : (some t144) = some r := H
                    have A47 := Aside0.mk A470
                    clear A470
                    obtain rfl := Option.some.inj H
                    have hnb48 := NB130_131.out
                    have hnc48 := NB131_130.out
                    have hcz49_0 : wc.cell? ⟨gb130, 0, none⟩ = some (.int .i64 a0_0) := (blk_cell BK130.out 0).trans rfl
                    have hcz49_1 : wc.cell? ⟨gb130, 1, none⟩ = some (.int .i64 a0_1) := (blk_cell BK130.out 1).trans rfl
                    have hfz49_0 := blk_frozen BK130.out 0
                    have hfz49_1 := blk_frozen BK130.out 1
                    have hcz50_0 : wc.cell? ⟨gb131, 0, none⟩ = some (.int .i64 a2_0) := (blk_cell BK131.out 0).trans rfl
                    have hcz50_1 : wc.cell? ⟨gb131, 1, none⟩ = some (.int .i64 a2_1) := (blk_cell BK131.out 1).trans rfl
                    have hfz50_0 := blk_frozen BK131.out 0
                    have hfz50_1 := blk_frozen BK131.out 1
                    go_wp2_with (first | ((with_reducible refine gate_callee (f := 26) rfl ?_); refine goesL_ (some 62) rfl rfl Try.func26 (by kernel_rfl) rfl #[.agg #[.int .i64 a0_0, .int .i64 a0_1], .int .i64 a2_0, .int .i64 a2_1] rfl (by (try simp only [List.map_toArray, List.map_cons, List.map_nil]); first | done | rfl | (simp only [List.length_drop, List.length_take]; rfl)) ?_; (with_reducible refine (geom_Place.calls kj26 a0_0 a0_1 a2_0 a2_1 t139 t140 _ A41.out).mono ?_); rintro e w51 ⟨rfl, hb⟩; refine ⟨_, rfl, ?_⟩; have n0_ := Aside0.mk (blk_below (g := gb130) (o := .cells #[.int .i64 a0_0, .int .i64 a0_1] 23 (0, 0)) (by (with_reducible repeat (first | refine blk_drewN ?_ _ | refine blk_drew ?_ | refine blk_alloc ?_ _)); exact BK130.out) hb); have n1_ := Aside0.mk (blk_below (g := gb131) (o := .cells #[.int .i64 a2_0, .int .i64 a2_1] 30 (0, 0)) (by (with_reducible repeat (first | refine blk_drewN ?_ _ | refine blk_drew ?_ | refine blk_alloc ?_ _)); exact BK131.out) hb); have n2_ := Aside0.mk (below_step (by repeat (first | (with_reducible first | exact HB.out | apply below_alloc | apply pw_below_drewN | apply below_drew1 | refine below_set ?_ GE130.out | refine below_set ?_ GE131.out) | exact HB.out)) hb); clear BK130; clear BK131; clear HB; have BK130 := n0_; have BK131 := n1_; have HB := n2_; clear n0_ n1_ n2_; (try clear hb); (try clear hb2); (try clear hk); (try clear hi); have hcz52_0 : w51.cell? ⟨gb130, 0, none⟩ = some (.int .i64 a0_0) := (blk_cell BK130.out 0).trans rfl; have hcz52_1 : w51.cell? ⟨gb130, 1, none⟩ = some (.int .i64 a0_1) := (blk_cell BK130.out 1).trans rfl; have hfz52_0 := blk_frozen BK130.out 0; have hfz52_1 := blk_frozen BK130.out 1) | ((with_reducible refine gate_callee (f := 28) rfl ?_); refine goesL_ (some 75) rfl rfl Try.func28 (by kernel_rfl) rfl #[.agg #[.int .i64 a0_0, .int .i64 a0_1], .int .i64 t139] rfl (by (try simp only [List.map_toArray, List.map_cons, List.map_nil]); first | done | rfl | (simp only [List.length_drop, List.length_take]; rfl)) ?_; (with_reducible refine (geom_What.calls kj26 a0_0 a0_1 t139 t141 t142 t143 _ A43.out).mono ?_); rintro e w53 ⟨rfl, hb⟩; refine ⟨_, rfl, ?_⟩; have n0_ := Aside0.mk (blk_below (g := gb130) (o := .cells #[.int .i64 a0_0, .int .i64 a0_1] 23 (0, 0)) (by (with_reducible repeat (first | refine blk_drewN ?_ _ | refine blk_drew ?_ | refine blk_alloc ?_ _)); exact BK130.out) hb); have n1_ := Aside0.mk (blk_below (g := gb131) (o := .cells #[.int .i64 a2_0, .int .i64 a2_1] 30 (0, 0)) (by (with_reducible repeat (first | refine blk_drewN ?_ _ | refine blk_drew ?_ | refine blk_alloc ?_ _)); exact BK131.out) hb); have n2_ := Aside0.mk (below_step (by repeat (first | (with_reducible first | exact HB.out | apply below_alloc | apply pw_below_drewN | apply below_drew1 | refine below_set ?_ GE130.out | refine below_set ?_ GE131.out) | exact HB.out)) hb); clear BK130; clear BK131; clear HB; have BK130 := n0_; have BK131 := n1_; have HB := n2_; clear n0_ n1_ n2_; (try clear hb); (try clear hb2); (try clear hk); (try clear hi); have hcz54_0 : w53.cell? ⟨gb131, 0, none⟩ = some (.int .i64 a2_0) := (blk_cell BK131.out 0).trans rfl; have hcz54_1 : w53.cell? ⟨gb131, 1, none⟩ = some (.int .i64 a2_1) := (blk_cell BK131.out 1).trans rfl; have hfz54_0 := blk_frozen BK131.out 0; have hfz54_1 := blk_frozen BK131.out 1) | (go_at_call 25; (with_reducible refine (casematelaw14_works.calls kj26  t144 _ A47.out).mono ?_); rintro e w55 ⟨rfl, hb⟩; have n0_ := Aside0.mk (blk_below (g := gb130) (o := .cells #[.int .i64 a0_0, .int .i64 a0_1] 23 (0, 0)) (by (with_reducible repeat (first | refine blk_drewN ?_ _ | refine blk_drew ?_ | refine blk_alloc ?_ _)); exact BK130.out) hb); have n1_ := Aside0.mk (blk_below (g := gb131) (o := .cells #[.int .i64 a2_0, .int .i64 a2_1] 30 (0, 0)) (by (with_reducible repeat (first | refine blk_drewN ?_ _ | refine blk_drew ?_ | refine blk_alloc ?_ _)); exact BK131.out) hb); have n2_ := Aside0.mk (below_step (by repeat (first | (with_reducible first | exact HB.out | apply below_alloc | apply pw_below_drewN | apply below_drew1 | refine below_set ?_ GE130.out | refine below_set ?_ GE131.out) | exact HB.out)) hb); clear BK130; clear BK131; clear HB; have BK130 := n0_; have BK131 := n1_; have HB := n2_; clear n0_ n1_ n2_; (try clear hb); (try clear hb2); (try clear hk); (try clear hi)))
                    go_ret
                    exact ⟨by first | rfl | (simp [errW_none, errW_some] <;> rfl) | (simp [*, errW_none, errW_some] <;> rfl), by repeat (first | (with_reducible first | exact HB.out | apply below_alloc | apply pw_below_drewN | apply below_drew1 | refine below_set ?_ GE130.out | refine below_set ?_ GE131.out) | exact HB.out)⟩
                  · rw [if_neg c46] at H
                    have c46b0 : (t142 == a2_1) = false := beq_eq_false_iff_ne.mpr c46
                    have c46b1 : (t142 != a2_1) = true := bne_iff_ne.mpr c46
                    obtain rfl := Option.some.inj H
                    have hnb56 := NB130_131.out
                    have hnc56 := NB131_130.out
                    have hcz57_0 : wc.cell? ⟨gb130, 0, none⟩ = some (.int .i64 a0_0) := (blk_cell BK130.out 0).trans rfl
                    have hcz57_1 : wc.cell? ⟨gb130, 1, none⟩ = some (.int .i64 a0_1) := (blk_cell BK130.out 1).trans rfl
                    have hfz57_0 := blk_frozen BK130.out 0
                    have hfz57_1 := blk_frozen BK130.out 1
                    have hcz58_0 : wc.cell? ⟨gb131, 0, none⟩ = some (.int .i64 a2_0) := (blk_cell BK131.out 0).trans rfl
                    have hcz58_1 : wc.cell? ⟨gb131, 1, none⟩ = some (.int .i64 a2_1) := (blk_cell BK131.out 1).trans rfl
                    have hfz58_0 := blk_frozen BK131.out 0
                    have hfz58_1 := blk_frozen BK131.out 1
                    go_wp2_with (first | ((with_reducible refine gate_callee (f := 26) rfl ?_); refine goesL_ (some 62) rfl rfl Try.func26 (by kernel_rfl) rfl #[.agg #[.int .i64 a0_0, .int .i64 a0_1], .int .i64 a2_0, .int .i64 a2_1] rfl (by (try simp only [List.map_toArray, List.map_cons, List.map_nil]); first | done | rfl | (simp only [List.length_drop, List.length_take]; rfl)) ?_; (with_reducible refine (geom_Place.calls kj26 a0_0 a0_1 a2_0 a2_1 t139 t140 _ A41.out).mono ?_); rintro e w59 ⟨rfl, hb⟩; refine ⟨_, rfl, ?_⟩; have n0_ := Aside0.mk (blk_below (g := gb130) (o := .cells #[.int .i64 a0_0, .int .i64 a0_1] 23 (0, 0)) (by (with_reducible repeat (first | refine blk_drewN ?_ _ | refine blk_drew ?_ | refine blk_alloc ?_ _)); exact BK130.out) hb); have n1_ := Aside0.mk (blk_below (g := gb131) (o := .cells #[.int .i64 a2_0, .int .i64 a2_1] 30 (0, 0)) (by (with_reducible repeat (first | refine blk_drewN ?_ _ | refine blk_drew ?_ | refine blk_alloc ?_ _)); exact BK131.out) hb); have n2_ := Aside0.mk (below_step (by repeat (first | (with_reducible first | exact HB.out | apply below_alloc | apply pw_below_drewN | apply below_drew1 | refine below_set ?_ GE130.out | refine below_set ?_ GE131.out) | exact HB.out)) hb); clear BK130; clear BK131; clear HB; have BK130 := n0_; have BK131 := n1_; have HB := n2_; clear n0_ n1_ n2_; (try clear hb); (try clear hb2); (try clear hk); (try clear hi); have hcz60_0 : w59.cell? ⟨gb130, 0, none⟩ = some (.int .i64 a0_0) := (blk_cell BK130.out 0).trans rfl; have hcz60_1 : w59.cell? ⟨gb130, 1, none⟩ = some (.int .i64 a0_1) := (blk_cell BK130.out 1).trans rfl; have hfz60_0 := blk_frozen BK130.out 0; have hfz60_1 := blk_frozen BK130.out 1) | ((with_reducible refine gate_callee (f := 28) rfl ?_); refine goesL_ (some 75) rfl rfl Try.func28 (by kernel_rfl) rfl #[.agg #[.int .i64 a0_0, .int .i64 a0_1], .int .i64 t139] rfl (by (try simp only [List.map_toArray, List.map_cons, List.map_nil]); first | done | rfl | (simp only [List.length_drop, List.length_take]; rfl)) ?_; (with_reducible refine (geom_What.calls kj26 a0_0 a0_1 t139 t141 t142 t143 _ A43.out).mono ?_); rintro e w61 ⟨rfl, hb⟩; refine ⟨_, rfl, ?_⟩; have n0_ := Aside0.mk (blk_below (g := gb130) (o := .cells #[.int .i64 a0_0, .int .i64 a0_1] 23 (0, 0)) (by (with_reducible repeat (first | refine blk_drewN ?_ _ | refine blk_drew ?_ | refine blk_alloc ?_ _)); exact BK130.out) hb); have n1_ := Aside0.mk (blk_below (g := gb131) (o := .cells #[.int .i64 a2_0, .int .i64 a2_1] 30 (0, 0)) (by (with_reducible repeat (first | refine blk_drewN ?_ _ | refine blk_drew ?_ | refine blk_alloc ?_ _)); exact BK131.out) hb); have n2_ := Aside0.mk (below_step (by repeat (first | (with_reducible first | exact HB.out | apply below_alloc | apply pw_below_drewN | apply below_drew1 | refine below_set ?_ GE130.out | refine below_set ?_ GE131.out) | exact HB.out)) hb); clear BK130; clear BK131; clear HB; have BK130 := n0_; have BK131 := n1_; have HB := n2_; clear n0_ n1_ n2_; (try clear hb); (try clear hb2); (try clear hk); (try clear hi); have hcz62_0 : w61.cell? ⟨gb131, 0, none⟩ = some (.int .i64 a2_0) := (blk_cell BK131.out 0).trans rfl; have hcz62_1 : w61.cell? ⟨gb131, 1, none⟩ = some (.int .i64 a2_1) := (blk_cell BK131.out 1).trans rfl; have hfz62_0 := blk_frozen BK131.out 0; have hfz62_1 := blk_frozen BK131.out 1))
                    go_ret
                    exact ⟨by first | rfl | (simp [errW_none, errW_some] <;> rfl) | (simp [*, errW_none, errW_some] <;> rfl), by repeat (first | (with_reducible first | exact HB.out | apply below_alloc | apply pw_below_drewN | apply below_drew1 | refine below_set ?_ GE130.out | refine below_set ?_ GE131.out) | exact HB.out)⟩
                · rw [if_neg c45] at H
                  have c45b0 : (t141 == a2_0) = false := beq_eq_false_iff_ne.mpr c45
                  have c45b1 : (t141 != a2_0) = true := bne_iff_ne.mpr c45
                  obtain rfl := Option.some.inj H
                  have hnb63 := NB130_131.out
                  have hnc63 := NB131_130.out
                  have hcz64_0 : wc.cell? ⟨gb130, 0, none⟩ = some (.int .i64 a0_0) := (blk_cell BK130.out 0).trans rfl
                  have hcz64_1 : wc.cell? ⟨gb130, 1, none⟩ = some (.int .i64 a0_1) := (blk_cell BK130.out 1).trans rfl
                  have hfz64_0 := blk_frozen BK130.out 0
                  have hfz64_1 := blk_frozen BK130.out 1
                  have hcz65_0 : wc.cell? ⟨gb131, 0, none⟩ = some (.int .i64 a2_0) := (blk_cell BK131.out 0).trans rfl
                  have hcz65_1 : wc.cell? ⟨gb131, 1, none⟩ = some (.int .i64 a2_1) := (blk_cell BK131.out 1).trans rfl
                  have hfz65_0 := blk_frozen BK131.out 0
                  have hfz65_1 := blk_frozen BK131.out 1
                  go_wp2_with (first | ((with_reducible refine gate_callee (f := 26) rfl ?_); refine goesL_ (some 62) rfl rfl Try.func26 (by kernel_rfl) rfl #[.agg #[.int .i64 a0_0, .int .i64 a0_1], .int .i64 a2_0, .int .i64 a2_1] rfl (by (try simp only [List.map_toArray, List.map_cons, List.map_nil]); first | done | rfl | (simp only [List.length_drop, List.length_take]; rfl)) ?_; (with_reducible refine (geom_Place.calls kj26 a0_0 a0_1 a2_0 a2_1 t139 t140 _ A41.out).mono ?_); rintro e w66 ⟨rfl, hb⟩; refine ⟨_, rfl, ?_⟩; have n0_ := Aside0.mk (blk_below (g := gb130) (o := .cells #[.int .i64 a0_0, .int .i64 a0_1] 23 (0, 0)) (by (with_reducible repeat (first | refine blk_drewN ?_ _ | refine blk_drew ?_ | refine blk_alloc ?_ _)); exact BK130.out) hb); have n1_ := Aside0.mk (blk_below (g := gb131) (o := .cells #[.int .i64 a2_0, .int .i64 a2_1] 30 (0, 0)) (by (with_reducible repeat (first | refine blk_drewN ?_ _ | refine blk_drew ?_ | refine blk_alloc ?_ _)); exact BK131.out) hb); have n2_ := Aside0.mk (below_step (by repeat (first | (with_reducible first | exact HB.out | apply below_alloc | apply pw_below_drewN | apply below_drew1 | refine below_set ?_ GE130.out | refine below_set ?_ GE131.out) | exact HB.out)) hb); clear BK130; clear BK131; clear HB; have BK130 := n0_; have BK131 := n1_; have HB := n2_; clear n0_ n1_ n2_; (try clear hb); (try clear hb2); (try clear hk); (try clear hi); have hcz67_0 : w66.cell? ⟨gb130, 0, none⟩ = some (.int .i64 a0_0) := (blk_cell BK130.out 0).trans rfl; have hcz67_1 : w66.cell? ⟨gb130, 1, none⟩ = some (.int .i64 a0_1) := (blk_cell BK130.out 1).trans rfl; have hfz67_0 := blk_frozen BK130.out 0; have hfz67_1 := blk_frozen BK130.out 1) | ((with_reducible refine gate_callee (f := 28) rfl ?_); refine goesL_ (some 75) rfl rfl Try.func28 (by kernel_rfl) rfl #[.agg #[.int .i64 a0_0, .int .i64 a0_1], .int .i64 t139] rfl (by (try simp only [List.map_toArray, List.map_cons, List.map_nil]); first | done | rfl | (simp only [List.length_drop, List.length_take]; rfl)) ?_; (with_reducible refine (geom_What.calls kj26 a0_0 a0_1 t139 t141 t142 t143 _ A43.out).mono ?_); rintro e w68 ⟨rfl, hb⟩; refine ⟨_, rfl, ?_⟩; have n0_ := Aside0.mk (blk_below (g := gb130) (o := .cells #[.int .i64 a0_0, .int .i64 a0_1] 23 (0, 0)) (by (with_reducible repeat (first | refine blk_drewN ?_ _ | refine blk_drew ?_ | refine blk_alloc ?_ _)); exact BK130.out) hb); have n1_ := Aside0.mk (blk_below (g := gb131) (o := .cells #[.int .i64 a2_0, .int .i64 a2_1] 30 (0, 0)) (by (with_reducible repeat (first | refine blk_drewN ?_ _ | refine blk_drew ?_ | refine blk_alloc ?_ _)); exact BK131.out) hb); have n2_ := Aside0.mk (below_step (by repeat (first | (with_reducible first | exact HB.out | apply below_alloc | apply pw_below_drewN | apply below_drew1 | refine below_set ?_ GE130.out | refine below_set ?_ GE131.out) | exact HB.out)) hb); clear BK130; clear BK131; clear HB; have BK130 := n0_; have BK131 := n1_; have HB := n2_; clear n0_ n1_ n2_; (try clear hb); (try clear hb2); (try clear hk); (try clear hi); have hcz69_0 : w68.cell? ⟨gb131, 0, none⟩ = some (.int .i64 a2_0) := (blk_cell BK131.out 0).trans rfl; have hcz69_1 : w68.cell? ⟨gb131, 1, none⟩ = some (.int .i64 a2_1) := (blk_cell BK131.out 1).trans rfl; have hfz69_0 := blk_frozen BK131.out 0; have hfz69_1 := blk_frozen BK131.out 1))
                  go_ret
                  exact ⟨by first | rfl | (simp [errW_none, errW_some] <;> rfl) | (simp [*, errW_none, errW_some] <;> rfl), by repeat (first | (with_reducible first | exact HB.out | apply below_alloc | apply pw_below_drewN | apply below_drew1 | refine below_set ?_ GE130.out | refine below_set ?_ GE131.out) | exact HB.out)⟩
              · rw [if_neg c44] at H
                have c44b0 : (t143 == 0) = false := beq_eq_false_iff_ne.mpr c44
                have c44b1 : (t143 != 0) = true := bne_iff_ne.mpr c44
                obtain rfl := Option.some.inj H
                have hnb70 := NB130_131.out
                have hnc70 := NB131_130.out
                have hcz71_0 : wc.cell? ⟨gb130, 0, none⟩ = some (.int .i64 a0_0) := (blk_cell BK130.out 0).trans rfl
                have hcz71_1 : wc.cell? ⟨gb130, 1, none⟩ = some (.int .i64 a0_1) := (blk_cell BK130.out 1).trans rfl
                have hfz71_0 := blk_frozen BK130.out 0
                have hfz71_1 := blk_frozen BK130.out 1
                have hcz72_0 : wc.cell? ⟨gb131, 0, none⟩ = some (.int .i64 a2_0) := (blk_cell BK131.out 0).trans rfl
                have hcz72_1 : wc.cell? ⟨gb131, 1, none⟩ = some (.int .i64 a2_1) := (blk_cell BK131.out 1).trans rfl
                have hfz72_0 := blk_frozen BK131.out 0
                have hfz72_1 := blk_frozen BK131.out 1
                go_wp2_with (first | ((with_reducible refine gate_callee (f := 26) rfl ?_); refine goesL_ (some 62) rfl rfl Try.func26 (by kernel_rfl) rfl #[.agg #[.int .i64 a0_0, .int .i64 a0_1], .int .i64 a2_0, .int .i64 a2_1] rfl (by (try simp only [List.map_toArray, List.map_cons, List.map_nil]); first | done | rfl | (simp only [List.length_drop, List.length_take]; rfl)) ?_; (with_reducible refine (geom_Place.calls kj26 a0_0 a0_1 a2_0 a2_1 t139 t140 _ A41.out).mono ?_); rintro e w73 ⟨rfl, hb⟩; refine ⟨_, rfl, ?_⟩; have n0_ := Aside0.mk (blk_below (g := gb130) (o := .cells #[.int .i64 a0_0, .int .i64 a0_1] 23 (0, 0)) (by (with_reducible repeat (first | refine blk_drewN ?_ _ | refine blk_drew ?_ | refine blk_alloc ?_ _)); exact BK130.out) hb); have n1_ := Aside0.mk (blk_below (g := gb131) (o := .cells #[.int .i64 a2_0, .int .i64 a2_1] 30 (0, 0)) (by (with_reducible repeat (first | refine blk_drewN ?_ _ | refine blk_drew ?_ | refine blk_alloc ?_ _)); exact BK131.out) hb); have n2_ := Aside0.mk (below_step (by repeat (first | (with_reducible first | exact HB.out | apply below_alloc | apply pw_below_drewN | apply below_drew1 | refine below_set ?_ GE130.out | refine below_set ?_ GE131.out) | exact HB.out)) hb); clear BK130; clear BK131; clear HB; have BK130 := n0_; have BK131 := n1_; have HB := n2_; clear n0_ n1_ n2_; (try clear hb); (try clear hb2); (try clear hk); (try clear hi); have hcz74_0 : w73.cell? ⟨gb130, 0, none⟩ = some (.int .i64 a0_0) := (blk_cell BK130.out 0).trans rfl; have hcz74_1 : w73.cell? ⟨gb130, 1, none⟩ = some (.int .i64 a0_1) := (blk_cell BK130.out 1).trans rfl; have hfz74_0 := blk_frozen BK130.out 0; have hfz74_1 := blk_frozen BK130.out 1) | ((with_reducible refine gate_callee (f := 28) rfl ?_); refine goesL_ (some 75) rfl rfl Try.func28 (by kernel_rfl) rfl #[.agg #[.int .i64 a0_0, .int .i64 a0_1], .int .i64 t139] rfl (by (try simp only [List.map_toArray, List.map_cons, List.map_nil]); first | done | rfl | (simp only [List.length_drop, List.length_take]; rfl)) ?_; (with_reducible refine (geom_What.calls kj26 a0_0 a0_1 t139 t141 t142 t143 _ A43.out).mono ?_); rintro e w75 ⟨rfl, hb⟩; refine ⟨_, rfl, ?_⟩; have n0_ := Aside0.mk (blk_below (g := gb130) (o := .cells #[.int .i64 a0_0, .int .i64 a0_1] 23 (0, 0)) (by (with_reducible repeat (first | refine blk_drewN ?_ _ | refine blk_drew ?_ | refine blk_alloc ?_ _)); exact BK130.out) hb); have n1_ := Aside0.mk (blk_below (g := gb131) (o := .cells #[.int .i64 a2_0, .int .i64 a2_1] 30 (0, 0)) (by (with_reducible repeat (first | refine blk_drewN ?_ _ | refine blk_drew ?_ | refine blk_alloc ?_ _)); exact BK131.out) hb); have n2_ := Aside0.mk (below_step (by repeat (first | (with_reducible first | exact HB.out | apply below_alloc | apply pw_below_drewN | apply below_drew1 | refine below_set ?_ GE130.out | refine below_set ?_ GE131.out) | exact HB.out)) hb); clear BK130; clear BK131; clear HB; have BK130 := n0_; have BK131 := n1_; have HB := n2_; clear n0_ n1_ n2_; (try clear hb); (try clear hb2); (try clear hk); (try clear hi)))
                go_ret
                exact ⟨by first | rfl | (simp [errW_none, errW_some] <;> rfl) | (simp [*, errW_none, errW_some] <;> rfl), by repeat (first | (with_reducible first | exact HB.out | apply below_alloc | apply pw_below_drewN | apply below_drew1 | refine below_set ?_ GE130.out | refine below_set ?_ GE131.out) | exact HB.out)⟩
            · rw [if_neg c42] at H
              have c42b0 : (t140 == 0) = false := beq_eq_false_iff_ne.mpr c42
              have c42b1 : (t140 != 0) = true := bne_iff_ne.mpr c42
              by_cases c76 : t139 = 0
              · rw [if_pos c76] at H
                have c76b0 : (t139 == 0) = true := beq_iff_eq.mpr c76
                have c76b1 : (t139 != 0) = false := bne_eq_false_iff_eq.mpr c76
                clear c76
                replace H := Option.bind_eq_some_iff.mp H
                obtain ⟨t145, A770, H⟩ := H
                replace H : (some t145) = some r := H
                have A77 := Aside0.mk A770
                clear A770
                obtain rfl := Option.some.inj H
                have hnb78 := NB130_131.out
                have hnc78 := NB131_130.out
                have hcz79_0 : wc.cell? ⟨gb130, 0, none⟩ = some (.int .i64 a0_0) := (blk_cell BK130.out 0).trans rfl
                have hcz79_1 : wc.cell? ⟨gb130, 1, none⟩ = some (.int .i64 a0_1) := (blk_cell BK130.out 1).trans rfl
                have hfz79_0 := blk_frozen BK130.out 0
                have hfz79_1 := blk_frozen BK130.out 1
                have hcz80_0 : wc.cell? ⟨gb131, 0, none⟩ = some (.int .i64 a2_0) := (blk_cell BK131.out 0).trans rfl
                have hcz80_1 : wc.cell? ⟨gb131, 1, none⟩ = some (.int .i64 a2_1) := (blk_cell BK131.out 1).trans rfl
                have hfz80_0 := blk_frozen BK131.out 0
                have hfz80_1 := blk_frozen BK131.out 1
                go_wp2_with (first | ((with_reducible refine gate_callee (f := 26) rfl ?_); refine goesL_ (some 62) rfl rfl Try.func26 (by kernel_rfl) rfl #[.agg #[.int .i64 a0_0, .int .i64 a0_1], .int .i64 a2_0, .int .i64 a2_1] rfl (by (try simp only [List.map_toArray, List.map_cons, List.map_nil]); first | done | rfl | (simp only [List.length_drop, List.length_take]; rfl)) ?_; (with_reducible refine (geom_Place.calls kj26 a0_0 a0_1 a2_0 a2_1 t139 t140 _ A41.out).mono ?_); rintro e w81 ⟨rfl, hb⟩; refine ⟨_, rfl, ?_⟩; have n0_ := Aside0.mk (blk_below (g := gb130) (o := .cells #[.int .i64 a0_0, .int .i64 a0_1] 23 (0, 0)) (by (with_reducible repeat (first | refine blk_drewN ?_ _ | refine blk_drew ?_ | refine blk_alloc ?_ _)); exact BK130.out) hb); have n1_ := Aside0.mk (blk_below (g := gb131) (o := .cells #[.int .i64 a2_0, .int .i64 a2_1] 30 (0, 0)) (by (with_reducible repeat (first | refine blk_drewN ?_ _ | refine blk_drew ?_ | refine blk_alloc ?_ _)); exact BK131.out) hb); have n2_ := Aside0.mk (below_step (by repeat (first | (with_reducible first | exact HB.out | apply below_alloc | apply pw_below_drewN | apply below_drew1 | refine below_set ?_ GE130.out | refine below_set ?_ GE131.out) | exact HB.out)) hb); clear BK130; clear BK131; clear HB; have BK130 := n0_; have BK131 := n1_; have HB := n2_; clear n0_ n1_ n2_; (try clear hb); (try clear hb2); (try clear hk); (try clear hi)) | (go_at_call 25; (with_reducible refine (casematelaw14_works.calls kj26  t145 _ A77.out).mono ?_); rintro e w82 ⟨rfl, hb⟩; have n0_ := Aside0.mk (blk_below (g := gb130) (o := .cells #[.int .i64 a0_0, .int .i64 a0_1] 23 (0, 0)) (by (with_reducible repeat (first | refine blk_drewN ?_ _ | refine blk_drew ?_ | refine blk_alloc ?_ _)); exact BK130.out) hb); have n1_ := Aside0.mk (blk_below (g := gb131) (o := .cells #[.int .i64 a2_0, .int .i64 a2_1] 30 (0, 0)) (by (with_reducible repeat (first | refine blk_drewN ?_ _ | refine blk_drew ?_ | refine blk_alloc ?_ _)); exact BK131.out) hb); have n2_ := Aside0.mk (below_step (by repeat (first | (with_reducible first | exact HB.out | apply below_alloc | apply pw_below_drewN | apply below_drew1 | refine below_set ?_ GE130.out | refine below_set ?_ GE131.out) | exact HB.out)) hb); clear BK130; clear BK131; clear HB; have BK130 := n0_; have BK131 := n1_; have HB := n2_; clear n0_ n1_ n2_; (try clear hb); (try clear hb2); (try clear hk); (try clear hi)))
                go_ret
                exact ⟨by first | rfl | (simp [errW_none, errW_some] <;> rfl) | (simp [*, errW_none, errW_some] <;> rfl), by repeat (first | (with_reducible first | exact HB.out | apply below_alloc | apply pw_below_drewN | apply below_drew1 | refine below_set ?_ GE130.out | refine below_set ?_ GE131.out) | exact HB.out)⟩
              · rw [if_neg c76] at H
                have c76b0 : (t139 == 0) = false := beq_eq_false_iff_ne.mpr c76
                have c76b1 : (t139 != 0) = true := bne_iff_ne.mpr c76
                obtain rfl := Option.some.inj H
                have hnb83 := NB130_131.out
                have hnc83 := NB131_130.out
                have hcz84_0 : wc.cell? ⟨gb130, 0, none⟩ = some (.int .i64 a0_0) := (blk_cell BK130.out 0).trans rfl
                have hcz84_1 : wc.cell? ⟨gb130, 1, none⟩ = some (.int .i64 a0_1) := (blk_cell BK130.out 1).trans rfl
                have hfz84_0 := blk_frozen BK130.out 0
                have hfz84_1 := blk_frozen BK130.out 1
                have hcz85_0 : wc.cell? ⟨gb131, 0, none⟩ = some (.int .i64 a2_0) := (blk_cell BK131.out 0).trans rfl
                have hcz85_1 : wc.cell? ⟨gb131, 1, none⟩ = some (.int .i64 a2_1) := (blk_cell BK131.out 1).trans rfl
                have hfz85_0 := blk_frozen BK131.out 0
                have hfz85_1 := blk_frozen BK131.out 1
                go_wp2_with (first | ((with_reducible refine gate_callee (f := 26) rfl ?_); refine goesL_ (some 62) rfl rfl Try.func26 (by kernel_rfl) rfl #[.agg #[.int .i64 a0_0, .int .i64 a0_1], .int .i64 a2_0, .int .i64 a2_1] rfl (by (try simp only [List.map_toArray, List.map_cons, List.map_nil]); first | done | rfl | (simp only [List.length_drop, List.length_take]; rfl)) ?_; (with_reducible refine (geom_Place.calls kj26 a0_0 a0_1 a2_0 a2_1 t139 t140 _ A41.out).mono ?_); rintro e w86 ⟨rfl, hb⟩; refine ⟨_, rfl, ?_⟩; have n0_ := Aside0.mk (blk_below (g := gb130) (o := .cells #[.int .i64 a0_0, .int .i64 a0_1] 23 (0, 0)) (by (with_reducible repeat (first | refine blk_drewN ?_ _ | refine blk_drew ?_ | refine blk_alloc ?_ _)); exact BK130.out) hb); have n1_ := Aside0.mk (blk_below (g := gb131) (o := .cells #[.int .i64 a2_0, .int .i64 a2_1] 30 (0, 0)) (by (with_reducible repeat (first | refine blk_drewN ?_ _ | refine blk_drew ?_ | refine blk_alloc ?_ _)); exact BK131.out) hb); have n2_ := Aside0.mk (below_step (by repeat (first | (with_reducible first | exact HB.out | apply below_alloc | apply pw_below_drewN | apply below_drew1 | refine below_set ?_ GE130.out | refine below_set ?_ GE131.out) | exact HB.out)) hb); clear BK130; clear BK131; clear HB; have BK130 := n0_; have BK131 := n1_; have HB := n2_; clear n0_ n1_ n2_; (try clear hb); (try clear hb2); (try clear hk); (try clear hi)))
                go_ret
                exact ⟨by first | rfl | (simp [errW_none, errW_some] <;> rfl) | (simp [*, errW_none, errW_some] <;> rfl), by repeat (first | (with_reducible first | exact HB.out | apply below_alloc | apply pw_below_drewN | apply below_drew1 | refine below_set ?_ GE130.out | refine below_set ?_ GE131.out) | exact HB.out)⟩

end Go.Proofs.Ythmdpcdcbfndiaa.PGeomBack
