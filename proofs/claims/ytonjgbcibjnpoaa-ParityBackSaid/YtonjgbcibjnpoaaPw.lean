/- The walks of filled, sum, times, plain. -/
import Derived.Test.YtonjgbcibjnpoaaPb
import Derived.Test.YtonjgbcibjnpoaaSd
import Derived.Test.YtonjgbcibjnpoaaSs
import Derived.WalkSpells
import Derived.OpenShut
import Derived.Outline
import Derived.Lib.Hide
namespace Go.Proofs.Ytonjgbcibjnpoaa.Pw
open Go.RowKit Go.Proofs.YtonjgbcibjnpoaaW.PrintWords Go.Proofs.YtonjgbcibjnpoaaW.PrintLast Go.Proofs.YtonjgbcibjnpoaaW.PrintMore Go.Proofs.Ytonjgbcibjnpoaa.Gf Go.Proofs.Ytonjgbcibjnpoaa.Sc Go.Proofs.Ytonjgbcibjnpoaa.Pb Go.Proofs.Ytonjgbcibjnpoaa.Sd Go.Proofs.Ytonjgbcibjnpoaa.Ss
set_option linter.unusedVariables false
set_option linter.unusedSimpArgs false


theorem zlit : (#[.int .u8 0, .int .u8 0, .int .u8 0, .int .u8 0, .int .u8 0, .int .u8 0, .int .u8 0, .int .u8 0, .int .u8 0, .int .u8 0, .int .u8 0, .int .u8 0, .int .u8 0, .int .u8 0, .int .u8 0, .int .u8 0, .int .u8 0, .int .u8 0, .int .u8 0, .int .u8 0, .int .u8 0, .int .u8 0, .int .u8 0, .int .u8 0, .int .u8 0, .int .u8 0, .int .u8 0, .int .u8 0, .int .u8 0, .int .u8 0, .int .u8 0, .int .u8 0, .int .u8 0, .int .u8 0, .int .u8 0, .int .u8 0, .int .u8 0, .int .u8 0, .int .u8 0, .int .u8 0, .int .u8 0, .int .u8 0, .int .u8 0, .int .u8 0, .int .u8 0, .int .u8 0, .int .u8 0, .int .u8 0, .int .u8 0, .int .u8 0, .int .u8 0, .int .u8 0, .int .u8 0, .int .u8 0, .int .u8 0, .int .u8 0, .int .u8 0, .int .u8 0, .int .u8 0, .int .u8 0, .int .u8 0, .int .u8 0, .int .u8 0, .int .u8 0] : Array Value) = bys zeros := rfl
def rep (c : Nat) : List Nat := List.replicate 64 c
theorem rep_length (c : Nat) : (rep c).length = 64 := by simp [rep]
theorem rep_get {c k : Nat} (h : k < 64) : (rep c).getD k 0 = c := by
  unfold rep
  rw [List.getD_eq_getElem?_getD, List.getElem?_replicate, if_pos h]
  rfl
theorem rep_sec {c : Nat} (h : c < 256) : Sec (rep c) := ⟨rep_length c, fun x hx => by simp [rep] at hx; omega⟩

set_option maxHeartbeats 4000000 in
set_option maxRecDepth 100000 in
theorem filled_calls (c : Nat) (w : World) : Calls Try.prog 24 #[.int .u8 (c : Int)] w fun e w' => e = .returned (.agg (bys (rep c))) ∧ Below w.heap.size w w' := by
  have HB := Aside0.mk (Below.refl w.heap.size w)
  go_enter Try.func24, Try.ntmps24
  go_wp2_with fail
  rw [zlit]
  obtain ⟨q0_, q1_, nb_⟩ := Wk.blks2 w (.cells (bys zeros) 23 (0, 0)) (.cells (bys zeros) 23 (0, 0))
  obtain ⟨W1, hW_⟩ : ∃ W, W = ((w.alloc (.cells (bys zeros) 23 (0, 0))).alloc (.cells (bys zeros) 23 (0, 0))) := ⟨_, rfl⟩
  rw [← hW_]
  rw [← hW_] at q0_
  rw [← hW_] at q1_
  rw [← hW_] at nb_
  have sz_ := below_size HB.out
  have hb2_ := Aside0.mk (below_step HB.out nb_)
  obtain ⟨g2, hgg2_⟩ : ∃ g, g = w.heap.size := ⟨_, rfl⟩
  obtain ⟨g3, hgg3_⟩ : ∃ g, g = w.heap.size + 1 := ⟨_, rfl⟩
  rw [← hgg3_]
  rw [← hgg3_] at q1_
  rw [← hgg2_]
  rw [← hgg2_] at q0_
  have GEg2 := Aside0.mk (show w.heap.size ≤ g2 by omega)
  have GEg3 := Aside0.mk (show w.heap.size ≤ g3 by omega)
  have Dg2g3 : g2 ≠ g3 := by omega
  have Dg3g2 : g3 ≠ g2 := by omega
  have BKg2 := Aside0.mk q0_
  have BKg3 := Aside0.mk q1_
  clear HB
  have HB := hb2_
  clear hb2_ hW_ nb_ sz_ hgg2_ hgg3_ q0_ q1_
  go_loopw [4] (fun i wr => ∃ k : Nat, k ≤ 64 ∧ i = .int .i64 k ∧ Aside0 (wr.heap[g3]? = some (.cells (bys (mix (rep c) zeros k)) 23 (0, 0))) ∧ Aside0 (wr.heap[g2]? = some (.cells (bys zeros) 23 (0, 0))) ∧ Aside0 (Below w.heap.size w wr)) (fun i _ => 64 - (intOf i).toNat)
  case atStart => exact ⟨0, by omega, rfl, ⟨by rw [mix_zero]; exact BKg3.out⟩, BKg2, HB⟩
  case round =>
    clear BKg2 BKg3 HB
    obtain ⟨k, hk, rfl, BKg3, BKg2, HB⟩ := hrel
    by_cases hlt : k < 64
    · have h1 : decide ((k : Int) < 64) = true := by simp; omega
      have h2 := cell_bys BKg3.out (off := k) (by rw [mix_length (by simp [rep, zeros]) (by simp [zeros]; omega)]; simp [zeros]; exact hlt)
      have h3 := blk_frozen BKg3.out k
      go_wp2
      go_roundw
      case rel =>
        refine ⟨k + 1, by omega, by go_num, ⟨?_⟩, ⟨blk_far BKg2.out Dg2g3 _⟩, ⟨below_set HB.out GEg3.out⟩⟩
        have h4 := setCell_bys (i := k) (x := (rep c).getD k 0) BKg3.out
        rw [mix_set (by simp [rep, zeros]) (by simp [zeros]; exact hlt), rep_get hlt] at h4
        exact h4
      case measure => simp [intOf]; omega
    · obtain rfl : k = 64 := by omega
      have e1 := mix_full (rep_length c) zeros_length
      have BK3 := Aside0.mk (show wr.heap[g3]? = some (.cells (bys (rep c)) 23 (0, 0)) by rw [← e1]; exact BKg3.out)
      clear BKg3 e1 hlt hk
      go_wp2_with (first | ((with_reducible refine gate_dst (N := 12) rfl ?_); refine Kd.event_run rfl (exec_load_all T23 rfl rfl BK3.out (rep_length c)) ?_) | ((with_reducible refine gate_store (t := 23) (p := 2) rfl ?_); refine store_event rfl rfl rfl (exec_store_all T23 rfl rfl rfl BKg2.out (rep_length c) zeros_length) ?_; intro w5 hW_))
      exact bodyPost_ret (v := .agg (bys (rep c))) (results_cell_row Try.results24 _ _ g2 23 (bys (rep c)) (0, 0) (.array 64 5) rfl (by rw [hW_]; exact setRow_blk BKg2.out) T23.hu rfl (by rw [bys_size, rep_length]; exact T23.hi)) rfl ⟨rfl, by rw [hW_]; exact setRow_below HB.out GEg2.out⟩

/-- The sum of two sectors. -/
def xorL (a b : List Nat) : List Nat := List.zipWith (fun x y => x ^^^ y) a b
theorem xorL_length {a b : List Nat} (ha : a.length = 64) (hb : b.length = 64) : (xorL a b).length = 64 := by simp [xorL, ha, hb]
theorem xorL_get {a b : List Nat} {k : Nat} (ha : k < a.length) (hb : k < b.length) : (xorL a b).getD k 0 = a.getD k 0 ^^^ b.getD k 0 := by
  unfold xorL
  rw [List.getD_eq_getElem?_getD, List.getD_eq_getElem?_getD, List.getD_eq_getElem?_getD, List.getElem?_zipWith, List.getElem?_eq_getElem ha, List.getElem?_eq_getElem hb]
  rfl
theorem xorL_sec {a b : List Nat} (ha : Sec a) (hb : Sec b) : Sec (xorL a b) := by
  refine ⟨xorL_length ha.len hb.len, fun x hx => ?_⟩
  obtain ⟨i, hi, rfl⟩ := List.getElem_of_mem hx
  have h1 := xorL_get (a := a) (b := b) (k := i) (by have := xorL_length ha.len hb.len; have := ha.len; omega) (by have := xorL_length ha.len hb.len; have := hb.len; omega)
  rw [List.getD_eq_getElem?_getD, List.getElem?_eq_getElem hi, Option.getD_some] at h1
  rw [h1]
  exact xor_lt (ha.get i) (hb.get i)
/-- A sector times a factor. -/
def mulL (a : List Nat) (f : Nat) : List Nat := a.map (fun x => gmul x f)
theorem mulL_length {a : List Nat} {f : Nat} (ha : a.length = 64) : (mulL a f).length = 64 := by simp [mulL, ha]
theorem mulL_get {a : List Nat} {f k : Nat} (ha : k < a.length) : (mulL a f).getD k 0 = gmul (a.getD k 0) f := by
  unfold mulL
  rw [List.getD_eq_getElem?_getD, List.getD_eq_getElem?_getD, List.getElem?_map, List.getElem?_eq_getElem ha]
  rfl
theorem mulL_sec {a : List Nat} {f : Nat} (ha : Sec a) : Sec (mulL a f) := by
  refine ⟨mulL_length ha.len, fun x hx => ?_⟩
  unfold mulL at hx
  rw [List.mem_map] at hx
  obtain ⟨y, hy, rfl⟩ := hx
  exact gmul_lt (ha.byte y hy)
set_option maxHeartbeats 4000000 in
set_option maxRecDepth 100000 in
theorem sum_calls (a b : List Nat) (ha : Sec a) (hb : Sec b) (w : World) : Calls Try.prog 25 #[.agg (bys a), .agg (bys b)] w fun e w' => e = .returned (.agg (bys (xorL a b))) ∧ Below w.heap.size w w' := by
  have HB := Aside0.mk (Below.refl w.heap.size w)
  go_enter Try.func25, Try.ntmps25
  go_wp2_with fail
  rw [zlit]
  obtain ⟨q0_, q1_, q2_, nb_⟩ := Wk.blks3 w (.cells (bys a) 23 (0, 0)) (.cells (bys b) 23 (0, 0)) (.cells (bys zeros) 23 (0, 0))
  obtain ⟨W1, hW_⟩ : ∃ W, W = (((w.alloc (.cells (bys a) 23 (0, 0))).alloc (.cells (bys b) 23 (0, 0))).alloc (.cells (bys zeros) 23 (0, 0))) := ⟨_, rfl⟩
  rw [← hW_]
  rw [← hW_] at q0_
  rw [← hW_] at q1_
  rw [← hW_] at q2_
  rw [← hW_] at nb_
  have sz_ := below_size HB.out
  have hb2_ := Aside0.mk (below_step HB.out nb_)
  obtain ⟨g2, hgg2_⟩ : ∃ g, g = w.heap.size := ⟨_, rfl⟩
  obtain ⟨g3, hgg3_⟩ : ∃ g, g = w.heap.size + 1 := ⟨_, rfl⟩
  obtain ⟨g4, hgg4_⟩ : ∃ g, g = w.heap.size + 1 + 1 := ⟨_, rfl⟩
  rw [← hgg4_]
  rw [← hgg4_] at q2_
  rw [← hgg3_]
  rw [← hgg3_] at q1_
  rw [← hgg2_]
  rw [← hgg2_] at q0_
  have GEg2 := Aside0.mk (show w.heap.size ≤ g2 by omega)
  have GEg3 := Aside0.mk (show w.heap.size ≤ g3 by omega)
  have Dg2g3 : g2 ≠ g3 := by omega
  have Dg3g2 : g3 ≠ g2 := by omega
  have GEg4 := Aside0.mk (show w.heap.size ≤ g4 by omega)
  have Dg2g4 : g2 ≠ g4 := by omega
  have Dg4g2 : g4 ≠ g2 := by omega
  have Dg3g4 : g3 ≠ g4 := by omega
  have Dg4g3 : g4 ≠ g3 := by omega
  have BKg2 := Aside0.mk q0_
  have BKg3 := Aside0.mk q1_
  have BKg4 := Aside0.mk q2_
  clear HB
  have HB := hb2_
  clear hb2_ hW_ nb_ sz_ hgg2_ hgg3_ hgg4_ q0_ q1_ q2_
  go_loopw [5, 6] (fun j i wr => ∃ k : Nat, k ≤ 64 ∧ i = .int .i64 k ∧ Aside0 (wr.heap[g2]? = some (.cells (bys (mix (xorL a b) a k)) 23 (0, 0))) ∧ Aside0 (wr.heap[g3]? = some (.cells (bys b) 23 (0, 0))) ∧ Aside0 (wr.heap[g4]? = some (.cells (bys zeros) 23 (0, 0))) ∧ Aside0 (Below w.heap.size w wr)) (fun _ i _ => 64 - (intOf i).toNat)
  case atStart => exact ⟨0, by omega, rfl, ⟨by rw [mix_zero]; exact BKg2.out⟩, BKg3, BKg4, HB⟩
  case round =>
    clear BKg2 BKg3 BKg4 HB
    obtain ⟨k, hk, rfl, BKg2, BKg3, BKg4, HB⟩ := hrel
    by_cases hlt : k < 64
    · skip
      have h1 : decide ((k : Int) < 64) = true := by simp; omega
      have h0 : (0 : Int) ≤ (k : Int) := by omega
      have h9 : (k : Int) < 64 := by omega
      have hlen : (mix (xorL a b) a k).length = 64 := by rw [mix_length (by rw [xorL_length ha.len hb.len, ha.len]) (by have := ha.len; omega), ha.len]
      go_wp2_with fail
      obtain ⟨x, ex_⟩ : ∃ x, x = a.getD k 0 := ⟨_, rfl⟩
      obtain ⟨y, ey_⟩ : ∃ y, y = b.getD k 0 := ⟨_, rfl⟩
      have EX := Aside0.mk ex_
      have EY := Aside0.mk ey_
      clear ex_ ey_
      have hxl : x < 256 := by rw [EX.out]; exact ha.get k
      have hyl : y < 256 := by rw [EY.out]; exact hb.get k
      have NBKg2_ := Aside0.mk (blk_drew BKg2.out)
      have NBKg3_ := Aside0.mk (blk_drew BKg3.out)
      have NBKg4_ := Aside0.mk (blk_drew BKg4.out)
      have NHB_ := Aside0.mk (below_drew1 HB.out)
      clear BKg2 BKg3 BKg4 HB
      have BKg2 := NBKg2_
      have BKg3 := NBKg3_
      have BKg4 := NBKg4_
      have HB := NHB_
      clear NBKg2_ NBKg3_ NBKg4_ NHB_
      refine start_ (n := 9) (S := fun w' => w'.cell? ⟨g2, k, none⟩ = some (.int .u8 (x : Int)) ∧ w'.cell? ⟨g3, k, none⟩ = some (.int .u8 (y : Int))) (ds := [8]) #[false, false, false, false, false, false, false, false, false] (by kernel_rfl) rfl rfl (⟨by rw [EX.out, cell_bys BKg2.out (by omega), mix_get (by rw [xorL_length ha.len hb.len, ha.len]) (by rw [ha.len]; exact hlt)], by rw [EY.out, cell_bys BKg3.out (by rw [hb.len]; exact hlt)]⟩) (fun hHeld => ?_)
      generalize wr.drew = W2 at BKg2 BKg3 BKg4 HB hHeld ⊢
      refine pure_ (i := 0) (N := some 9) (v := ?_) (a' := ?_) #[true, false, false, false, false, false, false, false, false] rfl rfl (by kernel_rfl) (fun _ _ _ h => h) (Or.inl ⟨by rfl, ?_⟩) ?_ ?_
      rotate_left
      · intro w'
        go_simp
        with_reducible rfl
      rotate_left
      · simp only [Act.put, List.setIfInBounds_toArray, List.set_cons_zero, List.set_cons_succ, i64_w, i32_w]
        rfl
      refine pure_ (i := 1) (N := some 10) (v := ?_) (a' := ?_) #[true, true, false, false, false, false, false, false, false] rfl rfl (by kernel_rfl) (fun _ _ _ h => h) (Or.inl ⟨by rfl, ?_⟩) ?_ ?_
      rotate_left
      · intro w'
        go_simp
        with_reducible rfl
      rotate_left
      · simp only [Act.put, List.setIfInBounds_toArray, List.set_cons_zero, List.set_cons_succ, i64_w, i32_w]
        rfl
      refine take_ (i := 2) (N := some 11) (v := ?_) (a' := ?_) #[true, true, true, false, false, false, false, false, false] rfl rfl (by kernel_rfl) (fun _ _ _ h => h) (Or.inl ⟨by rfl, ?_⟩) hHeld ?_ ?_
      rotate_left
      · rintro w' ⟨s0, s1⟩
        go_simp
        with_reducible rfl
      rotate_left
      · simp only [Act.put, List.setIfInBounds_toArray, List.set_cons_zero, List.set_cons_succ, i64_w, i32_w]
        rfl
      refine pure_ (i := 3) (N := some 12) (v := ?_) (a' := ?_) #[true, true, true, true, false, false, false, false, false] rfl rfl (by kernel_rfl) (fun _ _ _ h => h) (Or.inl ⟨by rfl, ?_⟩) ?_ ?_
      rotate_left
      · intro w'
        go_simp
        with_reducible rfl
      rotate_left
      · simp only [Act.put, List.setIfInBounds_toArray, List.set_cons_zero, List.set_cons_succ, i64_w, i32_w]
        rfl
      refine pure_ (i := 4) (N := some 13) (v := ?_) (a' := ?_) #[true, true, true, true, true, false, false, false, false] rfl rfl (by kernel_rfl) (fun _ _ _ h => h) (Or.inl ⟨by rfl, ?_⟩) ?_ ?_
      rotate_left
      · intro w'
        go_simp
        with_reducible rfl
      rotate_left
      · simp only [Act.put, List.setIfInBounds_toArray, List.set_cons_zero, List.set_cons_succ, i64_w, i32_w]
        rfl
      refine take_ (i := 5) (N := some 14) (v := ?_) (a' := ?_) #[true, true, true, true, true, true, false, false, false] rfl rfl (by kernel_rfl) (fun _ _ _ h => h) (Or.inl ⟨by rfl, ?_⟩) hHeld ?_ ?_
      rotate_left
      · rintro w' ⟨s0, s1⟩
        go_simp
        with_reducible rfl
      rotate_left
      · simp only [Act.put, List.setIfInBounds_toArray, List.set_cons_zero, List.set_cons_succ, i64_w, i32_w]
        rfl
      have hx := xor8 hxl hyl
      refine pure_ (i := 6) (N := some 15) (v := ?_) (a' := ?_) #[true, true, true, true, true, true, true, false, false] rfl rfl (by kernel_rfl) (fun _ _ _ h => h) (Or.inl ⟨by rfl, ?_⟩) ?_ ?_
      rotate_left
      · intro w'
        go_simp
        with_reducible rfl
      rotate_left
      · simp only [Act.put, List.setIfInBounds_toArray, List.set_cons_zero, List.set_cons_succ, i64_w, i32_w]
        rfl
      refine pure_ (i := 7) (N := some 16) (v := ?_) (a' := ?_) #[true, true, true, true, true, true, true, true, false] rfl rfl (by kernel_rfl) (fun _ _ _ h => h) (Or.inl ⟨by rfl, ?_⟩) ?_ ?_
      rotate_left
      · intro w'
        go_simp
        with_reducible rfl
      rotate_left
      · simp only [Act.put, List.setIfInBounds_toArray, List.set_cons_zero, List.set_cons_succ, i64_w, i32_w]
        rfl
      clear hx
      have h2 := cell_bys BKg2.out (off := k) (by omega)
      have h3 := blk_frozen BKg2.out k
      refine last_ (i := 8) (N := none) #[true, true, true, true, true, true, true, true, true] rfl rfl (by kernel_rfl) (by decide) (fun K hK => ?_)
      refine skip_ (by rfl) rfl (w1 := ?_) ?_ ?_
      rotate_left
      · go_simp
        with_reducible rfl
      have NBKg2_ := Aside0.mk ((by have h4 := setCell_bys (i := k) (x := (xorL a b).getD k 0) BKg2.out; rw [mix_set (by rw [xorL_length ha.len hb.len, ha.len]) (by rw [ha.len]; exact hlt), xorL_get (by rw [ha.len]; exact hlt) (by rw [hb.len]; exact hlt), ← EX.out, ← EY.out] at h4; exact h4 : (W2.setCell ⟨g2, k, none⟩ (.int .u8 ((x ^^^ y : Nat) : Int))).heap[g2]? = some (Obj.cells (bys (mix (xorL a b) a (k + 1))) 23 (0, 0))))
      have NBKg3_ := Aside0.mk (blk_far (p := ⟨g2, k, none⟩) BKg3.out Dg3g2 (.int .u8 ((x ^^^ y : Nat) : Int)))
      have NBKg4_ := Aside0.mk (blk_far (p := ⟨g2, k, none⟩) BKg4.out Dg4g2 (.int .u8 ((x ^^^ y : Nat) : Int)))
      have NHB_ := Aside0.mk (below_set (j := k) (v := (.int .u8 ((x ^^^ y : Nat) : Int))) HB.out GEg2.out)
      clear BKg2 BKg3 BKg4 HB
      have BKg2 := NBKg2_
      have BKg3 := NBKg3_
      have BKg4 := NBKg4_
      have HB := NHB_
      clear NBKg2_ NBKg3_ NBKg4_ NHB_
      refine hK.out _ _ ?_
      clear hK K
      refine done_ (by kernel_rfl) ?_
      clear h2 h3
      go_wp2
      go_roundw
      case rel => exact ⟨k + 1, by omega, by go_num, BKg2, BKg3, BKg4, HB⟩
      case measure => simp [intOf]; omega
    · obtain rfl : k = 64 := by omega
      have e1 := mix_full (xorL_length ha.len hb.len) ha.len
      have BK2 := Aside0.mk (show wr.heap[g2]? = some (.cells (bys (xorL a b)) 23 (0, 0)) by rw [← e1]; exact BKg2.out)
      have hln := xorL_length ha.len hb.len
      have HLN := Lib.hid hln
      clear BKg2 e1 hlt hk hln
      go_wp2_with (first | ((with_reducible refine gate_dst (N := 18) rfl ?_); refine Kd.event_run rfl (exec_load_all T23 rfl rfl BK2.out HLN.out) ?_) | ((with_reducible refine gate_store (t := 23) (p := 4) rfl ?_); refine store_event rfl rfl rfl (exec_store_all T23 rfl rfl rfl BKg4.out HLN.out zeros_length) ?_; intro w5 hW_))
      exact bodyPost_ret (v := .agg (bys (xorL a b))) (results_cell_row Try.results25 _ _ g4 23 (bys (xorL a b)) (0, 0) (.array 64 5) rfl (by rw [hW_]; exact setRow_blk BKg4.out) T23.hu rfl (by rw [bys_size, HLN.out]; exact T23.hi)) rfl ⟨rfl, by rw [hW_]; exact setRow_below HB.out GEg4.out⟩
set_option maxHeartbeats 4000000 in
set_option maxRecDepth 100000 in
theorem times_calls (a : List Nat) (f : Nat) (ha : Sec a) (hf : f < 256) (w : World) : Calls Try.prog 26 #[.agg (bys a), .int .u8 (f : Int)] w fun e w' => e = .returned (.agg (bys (mulL a f))) ∧ Below w.heap.size w w' := by
  have HB := Aside0.mk (Below.refl w.heap.size w)
  go_enter Try.func26, Try.ntmps26
  go_wp2_with fail
  rw [zlit]
  obtain ⟨q0_, q1_, nb_⟩ := Wk.blks2 w (Obj.cells (bys a) 23 (0, 0)) (Obj.cells (bys zeros) 23 (0, 0))
  obtain ⟨W1, hW_⟩ : ∃ W, W = ((w.alloc (Obj.cells (bys a) 23 (0, 0))).alloc (Obj.cells (bys zeros) 23 (0, 0))) := ⟨_, rfl⟩
  rw [← hW_]
  rw [← hW_] at q0_
  rw [← hW_] at q1_
  rw [← hW_] at nb_
  have sz_ := below_size HB.out
  have hb2_ := Aside0.mk (below_step HB.out nb_)
  obtain ⟨g2, hgg2_⟩ : ∃ g, g = w.heap.size := ⟨_, rfl⟩
  obtain ⟨g4, hgg4_⟩ : ∃ g, g = w.heap.size + 1 := ⟨_, rfl⟩
  rw [← hgg4_]
  rw [← hgg4_] at q1_
  rw [← hgg2_]
  rw [← hgg2_] at q0_
  have hge_ : w.heap.size ≤ g2 := hgg2_ ▸ sz_
  have GEg2 := Aside0.mk hge_
  clear hge_
  have hge_ : w.heap.size ≤ g4 := hgg4_ ▸ Nat.le_succ_of_le sz_
  have GEg4 := Aside0.mk hge_
  clear hge_
  have Dg2g4 : g2 ≠ g4 := (by omega)
  have Dg4g2 : g4 ≠ g2 := (by omega)
  have BKg2 := Aside0.mk q0_
  have BKg4 := Aside0.mk q1_
  clear HB
  have HB := hb2_
  clear hb2_ hW_ nb_ sz_ hgg2_ hgg4_ q0_ q1_
  go_loopw [5, 6] (fun j i wr => ∃ k : Nat, k ≤ 64 ∧ i = .int .i64 k ∧ Aside0 (wr.heap[g2]? = some (.cells (bys (mix (mulL a f) a k)) 23 (0, 0))) ∧ Aside0 (wr.heap[g4]? = some (.cells (bys zeros) 23 (0, 0))) ∧ Aside0 (Below w.heap.size w wr)) (fun _ i _ => 64 - (intOf i).toNat)
  case atStart => exact ⟨0, by omega, rfl, ⟨by rw [mix_zero]; exact BKg2.out⟩, BKg4, HB⟩
  case round =>
    clear BKg2 BKg4 HB
    obtain ⟨k, hk, rfl, BKg2, BKg4, HB⟩ := hrel
    by_cases hlt : k < 64
    · skip
      have h1 : decide ((k : Int) < 64) = true := by simp; omega
      have h0 : (0 : Int) ≤ (k : Int) := by omega
      have h9 : (k : Int) < 64 := by omega
      have hlen : (mix (mulL a f) a k).length = 64 := by rw [mix_length (by rw [mulL_length ha.len, ha.len]) (by have := ha.len; omega), ha.len]
      have HLEN := Lib.hid hlen
      clear hlen
      obtain ⟨x, ex_⟩ : ∃ x, x = a.getD k 0 := ⟨_, rfl⟩
      have EX := Aside0.mk ex_
      clear ex_
      have hxl : x < 256 := by rw [EX.out]; exact ha.get k
      have h2 : wr.cell? ⟨g2, k, none⟩ = some (.int .u8 (x : Int)) := by rw [EX.out, cell_bys BKg2.out (by rw [HLEN.out]; exact hlt), mix_get (by rw [mulL_length ha.len, ha.len]) (by rw [ha.len]; exact hlt)]
      go_wp2_with (first | (go_at_call 42; go_must (with_reducible refine (mul_calls hxl hf _).mono ?_); rintro e W2 ⟨rfl, hq_⟩; obtain ⟨nd_, hq_⟩ := hq_.out; have NBKg2_ := Aside0.mk ((by rw [hq_]; exact blk_drewN (by (with_reducible repeat (first | refine blk_drewN ?_ _ | refine blk_drew ?_ | refine blk_alloc ?_ _)); exact BKg2.out) nd_ : W2.heap[g2]? = some (Obj.cells (bys (mix (mulL a f) a k)) 23 (0, 0)))); have NBKg4_ := Aside0.mk ((by rw [hq_]; exact blk_drewN (by (with_reducible repeat (first | refine blk_drewN ?_ _ | refine blk_drew ?_ | refine blk_alloc ?_ _)); exact BKg4.out) nd_ : W2.heap[g4]? = some (Obj.cells (bys zeros) 23 (0, 0)))); have NHB_ := Aside0.mk ((by rw [hq_]; exact pw_below_drewN (by repeat (first | (with_reducible first | exact HB.out | apply below_alloc | apply pw_below_drewN | apply below_drew1) | exact HB.out)) nd_ : Below w.heap.size w W2)); clear BKg2 BKg4 HB; have BKg2 := NBKg2_; have BKg4 := NBKg4_; have HB := NHB_; clear NBKg2_ NBKg4_ NHB_; clear hq_ nd_) | ((with_reducible refine gate_store (t := 5) (p := 15) rfl ?_); go_must (refine store_event rfl rfl rfl (exec_put (cs' := bys (mix (mulL a f) a (k + 1))) (show _ = some 1 by kernel_rfl) rfl rfl rfl (rfl) (one_int) (by (with_reducible repeat (first | refine blk_drewN ?_ _ | refine blk_drew ?_ | refine blk_alloc ?_ _)); exact BKg2.out) (by rw [bys_size, HLEN.out]; omega) (by show putc _ _ #[.int .u8 ((gmul x f : Nat) : Int)] = _; rw [putc_byte (by rw [HLEN.out]; exact hlt), EX.out, ← mulL_get (by rw [ha.len]; exact hlt), mix_set (by rw [mulL_length ha.len, ha.len]) (by rw [ha.len]; exact hlt)])) ?_); intro W3 hW_; have NBKg2_ := Aside0.mk ((by rw [hW_]; exact setRow_blk (by (with_reducible repeat (first | refine blk_drewN ?_ _ | refine blk_drew ?_ | refine blk_alloc ?_ _)); exact BKg2.out) : W3.heap[g2]? = some (Obj.cells (bys (mix (mulL a f) a (k + 1))) 23 (0, 0)))); have NBKg4_ := Aside0.mk ((by rw [hW_]; exact setRow_far (by (with_reducible repeat (first | refine blk_drewN ?_ _ | refine blk_drew ?_ | refine blk_alloc ?_ _)); exact BKg4.out) Dg4g2 : W3.heap[g4]? = some (Obj.cells (bys zeros) 23 (0, 0)))); have NHB_ := Aside0.mk ((by rw [hW_]; exact setRow_below (by repeat (first | (with_reducible first | exact HB.out | apply below_alloc | apply pw_below_drewN | apply below_drew1) | exact HB.out)) GEg2.out : Below w.heap.size w W3)); clear BKg2 BKg4 HB; have BKg2 := NBKg2_; have BKg4 := NBKg4_; have HB := NHB_; clear NBKg2_ NBKg4_ NHB_; clear hW_))
      go_roundw
      case rel => exact ⟨k + 1, by omega, by go_num, BKg2, BKg4, HB⟩
      case measure => simp [intOf]; omega
    · obtain rfl : k = 64 := by omega
      have e1 := mix_full (mulL_length (f := f) ha.len) ha.len
      have BK2 := Aside0.mk (show wr.heap[g2]? = some (.cells (bys (mulL a f)) 23 (0, 0)) by rw [← e1]; exact BKg2.out)
      have hln := mulL_length (f := f) ha.len
      have HLN := Lib.hid hln
      clear BKg2 e1 hlt hk hln
      go_wp2_with (first | ((with_reducible refine gate_dst (N := 17) rfl ?_); refine Kd.event_run rfl (exec_load_all T23 rfl rfl BK2.out HLN.out) ?_) | ((with_reducible refine gate_store (t := 23) (p := 4) rfl ?_); refine store_event rfl rfl rfl (exec_store_all T23 rfl rfl rfl BKg4.out HLN.out zeros_length) ?_; intro w5 hW_))
      exact bodyPost_ret (v := .agg (bys (mulL a f))) (results_cell_row Try.results26 _ _ g4 23 (bys (mulL a f)) (0, 0) (.array 64 5) rfl (by rw [hW_]; exact setRow_blk BKg4.out) T23.hu rfl (by rw [bys_size, HLN.out]; exact T23.hi)) rfl ⟨rfl, by rw [hW_]; exact setRow_below HB.out GEg4.out⟩

/-- The sum of the first k sectors. -/
def psum (L : List (List Nat)) : Nat → List Nat
  | 0 => zeros
  | k + 1 => xorL (psum L k) (L.getD k [])
/-- The weighted sum of the first k sectors. -/
def qsum (L : List (List Nat)) : Nat → List Nat
  | 0 => zeros
  | k + 1 => xorL (qsum L k) (mulL (L.getD k []) (pwZ (k : Int)))
theorem psum_sec {L : List (List Nat)} (h : Secs L) : ∀ k, k ≤ L.length → Sec (psum L k)
  | 0, _ => zeros_sec
  | k + 1, hk => xorL_sec (psum_sec h k (by omega)) (h.at (by omega))
theorem qsum_sec {L : List (List Nat)} (h : Secs L) : ∀ k, k ≤ L.length → Sec (qsum L k)
  | 0, _ => zeros_sec
  | k + 1, hk => xorL_sec (qsum_sec h k (by omega)) (mulL_sec (h.at (by omega)))
set_option maxHeartbeats 4000000 in
set_option maxRecDepth 100000 in
theorem plain_calls (A : Option Addr) (n c : Nat) (L : List (List Nat)) (w : World) (hC : Kd.C seK w A n L) (hS : Secs L) : Calls Try.prog 30 #[.slice A n c] w fun e w' => e = .returned (.tuple #[.agg (bys (psum L n)), .agg (bys (qsum L n))]) ∧ Below w.heap.size w w' := by
  have hle := le_C hC
  have HB := Aside0.mk (Below.refl w.heap.size w)
  go_enter Try.func30, Try.ntmps30
  go_wp2_with fail
  rw [zlit]
  obtain ⟨q0_, q1_, nb_⟩ := Wk.blks2 w (Obj.cells (bys zeros) 23 (0, 0)) (Obj.cells (bys zeros) 23 (0, 0))
  obtain ⟨W1, hW_⟩ : ∃ W, W = ((w.alloc (Obj.cells (bys zeros) 23 (0, 0))).alloc (Obj.cells (bys zeros) 23 (0, 0))) := ⟨_, rfl⟩
  rw [← hW_]
  rw [← hW_] at q0_
  rw [← hW_] at q1_
  rw [← hW_] at nb_
  have sz_ := below_size HB.out
  have hb2_ := Aside0.mk (below_step HB.out nb_)
  obtain ⟨g2, hgg2_⟩ : ∃ g, g = w.heap.size := ⟨_, rfl⟩
  obtain ⟨g3, hgg3_⟩ : ∃ g, g = w.heap.size + 1 := ⟨_, rfl⟩
  rw [← hgg3_]
  rw [← hgg3_] at q1_
  rw [← hgg2_]
  rw [← hgg2_] at q0_
  have hge_ : w.heap.size ≤ g2 := hgg2_ ▸ sz_
  have GEg2 := Aside0.mk hge_
  clear hge_
  have hge_ : w.heap.size ≤ g3 := hgg3_ ▸ Nat.le_succ_of_le sz_
  have GEg3 := Aside0.mk hge_
  clear hge_
  have Dg2g3 : g2 ≠ g3 := (by omega)
  have Dg3g2 : g3 ≠ g2 := (by omega)
  have BKg2 := Aside0.mk q0_
  have BKg3 := Aside0.mk q1_
  clear HB
  have HB := hb2_
  clear hb2_ hW_ nb_ sz_ hgg2_ hgg3_ q0_ q1_
  go_loopw [4, 5, 8] (fun a5 a4 i wr => ∃ k : Nat, k ≤ n ∧ i = .int .i64 k ∧ Aside0 (wr.heap[g2]? = some (Obj.cells (bys (psum L k)) 23 (0, 0))) ∧ Aside0 (wr.heap[g3]? = some (Obj.cells (bys (qsum L k)) 23 (0, 0))) ∧ Aside0 (Below w.heap.size w wr)) (fun _ _ i _ => n - (intOf i).toNat)
  case atStart => exact ⟨0, by omega, rfl, BKg2, BKg3, HB⟩
  case round =>
    clear BKg2 BKg3 HB
    obtain ⟨k, hk, rfl, BKg2, BKg3, HB⟩ := hrel
    by_cases hlt : k < n
    · skip
      have hd : decide ((k : Int) < (n : Int)) = true := by simp; omega
      have h0 : (0 : Int) ≤ (k : Int) := by omega
      have h9 : (k : Int) < (n : Int) := by omega
      obtain ⟨ad, rfl⟩ := sec_head hC (show 0 < n by omega)
      have hLn := len_C hC
      have hd1 := hS.at (show k < L.length by omega)
      have hp1 := psum_sec hS k (by omega)
      have hq1 := qsum_sec hS k (by omega)
      have HD1 := Lib.hid hd1.len
      have HP1 := Lib.hid hp1.len
      have HQ1 := Lib.hid hq1.len
      obtain ⟨d, ed_⟩ : ∃ d, d = L.getD k [] := ⟨_, rfl⟩
      have ED := Aside0.mk ed_
      rw [← ed_] at hd1 HD1
      clear ed_
      go_wp2_with (first | ((with_reducible refine gate_dst (N := 12) rfl ?_); go_must (refine Kd.event_run rfl (exec_sec (Kd.C_below hC (by repeat (first | (with_reducible first | exact HB.out | apply below_alloc | apply pw_below_drewN | apply below_drew1) | exact HB.out))) hlt ED.out rfl rfl) ?_)) | ((with_reducible refine gate_store (t := 23) (p := 5) rfl ?_); go_must (rw [zlit]; obtain ⟨q0_, nb_⟩ := Wk.blks1 wr (Obj.cells (bys zeros) 23 (0, 0)); obtain ⟨W2a, hW_⟩ : ∃ W, W = (wr.alloc (Obj.cells (bys zeros) 23 (0, 0))) := ⟨_, rfl⟩; rw [← hW_]; rw [← hW_] at q0_; rw [← hW_] at nb_; have mg2_ := blk_below BKg2.out nb_; have mg3_ := blk_below BKg3.out nb_; have sz_ := below_size HB.out; have ltg2_ := blk_lt BKg2.out; have ltg3_ := blk_lt BKg3.out; have hb2_ := Aside0.mk (below_step HB.out nb_); obtain ⟨g5, hgg5_⟩ : ∃ g, g = wr.heap.size := ⟨_, rfl⟩; rw [← hgg5_]; rw [← hgg5_] at q0_; have hge_ : w.heap.size ≤ g5 := hgg5_ ▸ sz_; have GEg5 := Aside0.mk hge_; clear hge_; have Dg2g5 : g2 ≠ g5 := (by omega); have Dg5g2 : g5 ≠ g2 := (by omega); have Dg3g5 : g3 ≠ g5 := (by omega); have Dg5g3 : g5 ≠ g3 := (by omega); have BNg2 := Aside0.mk mg2_; clear BKg2; have BKg2 := BNg2; clear BNg2 ltg2_ mg2_; have BNg3 := Aside0.mk mg3_; clear BKg3; have BKg3 := BNg3; clear BNg3 ltg3_ mg3_; have BKg5 := Aside0.mk q0_; clear HB; have HB := hb2_; clear hb2_ hW_ nb_ sz_ hgg5_ q0_); ((with_reducible refine gate_store (t := 23) (p := 5) rfl ?_); go_must (refine store_event rfl rfl rfl (exec_put (cs' := bys d) T23.hi rfl rfl rfl (by show (bys d).size = 64; rw [bys_size]; exact HD1.out) one_agg (by (with_reducible repeat (first | refine blk_drewN ?_ _ | refine blk_drew ?_ | refine blk_alloc ?_ _)); exact BKg5.out) (by rw [bys_size, zeros_length]; omega) (putc_all ((bys_size _).trans ((zeros_length).trans ((HD1.out).symm.trans (bys_size _).symm))))) ?_); intro W2 hW_; have NBKg2_ := Aside0.mk ((by rw [hW_]; exact setRow_far (by (with_reducible repeat (first | refine blk_drewN ?_ _ | refine blk_drew ?_ | refine blk_alloc ?_ _)); exact BKg2.out) Dg2g5 : W2.heap[g2]? = some (Obj.cells (bys (psum L k)) 23 (0, 0)))); have NBKg3_ := Aside0.mk ((by rw [hW_]; exact setRow_far (by (with_reducible repeat (first | refine blk_drewN ?_ _ | refine blk_drew ?_ | refine blk_alloc ?_ _)); exact BKg3.out) Dg3g5 : W2.heap[g3]? = some (Obj.cells (bys (qsum L k)) 23 (0, 0)))); have NBKg5_ := Aside0.mk ((by rw [hW_]; exact setRow_blk (by (with_reducible repeat (first | refine blk_drewN ?_ _ | refine blk_drew ?_ | refine blk_alloc ?_ _)); exact BKg5.out) : W2.heap[g5]? = some (Obj.cells (bys d) 23 (0, 0)))); have NHB_ := Aside0.mk ((by rw [hW_]; exact setRow_below (by repeat (first | (with_reducible first | exact HB.out | apply below_alloc | apply pw_below_drewN | apply below_drew1) | exact HB.out)) GEg5.out : Below w.heap.size w W2)); clear BKg2 BKg3 BKg5 HB; have BKg2 := NBKg2_; have BKg3 := NBKg3_; have BKg5 := NBKg5_; have HB := NHB_; clear NBKg2_ NBKg3_ NBKg5_ NHB_; clear hW_)) | ((with_reducible refine gate_dst (N := 13) rfl ?_); go_must (refine Kd.event_run rfl (exec_row_all agg23 (by rw [bys_size, HP1.out]; exact T23.hi) rfl rfl (by (with_reducible repeat (first | refine blk_drewN ?_ _ | refine blk_drew ?_ | refine blk_alloc ?_ _)); exact BKg2.out)) ?_)) | ((with_reducible refine gate_dst (N := 14) rfl ?_); go_must (refine Kd.event_run rfl (exec_row_all agg23 (by rw [bys_size, HD1.out]; exact T23.hi) rfl rfl (by (with_reducible repeat (first | refine blk_drewN ?_ _ | refine blk_drew ?_ | refine blk_alloc ?_ _)); exact BKg5.out)) ?_)) | (go_at_call 25; go_must (with_reducible refine (sum_calls _ _ hp1 hd1 _).mono ?_); rintro e W3 ⟨rfl, hb⟩; have NBKg2_ := Aside0.mk (blk_below (o := (Obj.cells (bys (psum L k)) 23 (0, 0))) (by (with_reducible repeat (first | refine blk_drewN ?_ _ | refine blk_drew ?_ | refine blk_alloc ?_ _)); exact BKg2.out) hb); have NBKg3_ := Aside0.mk (blk_below (o := (Obj.cells (bys (qsum L k)) 23 (0, 0))) (by (with_reducible repeat (first | refine blk_drewN ?_ _ | refine blk_drew ?_ | refine blk_alloc ?_ _)); exact BKg3.out) hb); have NBKg5_ := Aside0.mk (blk_below (o := (Obj.cells (bys d) 23 (0, 0))) (by (with_reducible repeat (first | refine blk_drewN ?_ _ | refine blk_drew ?_ | refine blk_alloc ?_ _)); exact BKg5.out) hb); have NHB_ := Aside0.mk (below_step (by repeat (first | (with_reducible first | exact HB.out | apply below_alloc | apply pw_below_drewN | apply below_drew1) | exact HB.out)) hb); clear BKg2 BKg3 BKg5 HB; have BKg2 := NBKg2_; have BKg3 := NBKg3_; have BKg5 := NBKg5_; have HB := NHB_; clear NBKg2_ NBKg3_ NBKg5_ NHB_; clear hb) | ((with_reducible refine gate_store (t := 23) (p := 2) rfl ?_); go_must (refine store_event rfl rfl rfl (exec_put (cs' := bys (xorL (psum L k) d)) T23.hi rfl rfl rfl (by show (bys (xorL (psum L k) d)).size = 64; rw [bys_size]; exact (xorL_sec hp1 hd1).len) one_agg (by (with_reducible repeat (first | refine blk_drewN ?_ _ | refine blk_drew ?_ | refine blk_alloc ?_ _)); exact BKg2.out) (by rw [bys_size, HP1.out]; omega) (putc_all ((bys_size _).trans ((HP1.out).trans (((xorL_sec hp1 hd1).len).symm.trans (bys_size _).symm))))) ?_); intro W4 hW_; have NBKg2_ := Aside0.mk ((by rw [hW_]; exact setRow_blk (by (with_reducible repeat (first | refine blk_drewN ?_ _ | refine blk_drew ?_ | refine blk_alloc ?_ _)); exact BKg2.out) : W4.heap[g2]? = some (Obj.cells (bys (xorL (psum L k) d)) 23 (0, 0)))); have NBKg3_ := Aside0.mk ((by rw [hW_]; exact setRow_far (by (with_reducible repeat (first | refine blk_drewN ?_ _ | refine blk_drew ?_ | refine blk_alloc ?_ _)); exact BKg3.out) Dg3g2 : W4.heap[g3]? = some (Obj.cells (bys (qsum L k)) 23 (0, 0)))); have NBKg5_ := Aside0.mk ((by rw [hW_]; exact setRow_far (by (with_reducible repeat (first | refine blk_drewN ?_ _ | refine blk_drew ?_ | refine blk_alloc ?_ _)); exact BKg5.out) Dg5g2 : W4.heap[g5]? = some (Obj.cells (bys d) 23 (0, 0)))); have NHB_ := Aside0.mk ((by rw [hW_]; exact setRow_below (by repeat (first | (with_reducible first | exact HB.out | apply below_alloc | apply pw_below_drewN | apply below_drew1) | exact HB.out)) GEg2.out : Below w.heap.size w W4)); clear BKg2 BKg3 BKg5 HB; have BKg2 := NBKg2_; have BKg3 := NBKg3_; have BKg5 := NBKg5_; have HB := NHB_; clear NBKg2_ NBKg3_ NBKg5_ NHB_; clear hW_))
      have NBKg2_ := Aside0.mk (((by (with_reducible repeat (first | refine blk_drewN ?_ _ | refine blk_drew ?_ | refine blk_alloc ?_ _)); exact BKg2.out) : W4.drew.heap[g2]? = some (Obj.cells (bys (xorL (psum L k) d)) 23 (0, 0))))
      have NBKg3_ := Aside0.mk (((by (with_reducible repeat (first | refine blk_drewN ?_ _ | refine blk_drew ?_ | refine blk_alloc ?_ _)); exact BKg3.out) : W4.drew.heap[g3]? = some (Obj.cells (bys (qsum L k)) 23 (0, 0))))
      have NBKg5_ := Aside0.mk (((by (with_reducible repeat (first | refine blk_drewN ?_ _ | refine blk_drew ?_ | refine blk_alloc ?_ _)); exact BKg5.out) : W4.drew.heap[g5]? = some (Obj.cells (bys d) 23 (0, 0))))
      have NHB_ := Aside0.mk ((by repeat (first | (with_reducible first | exact HB.out | apply below_alloc | apply pw_below_drewN | apply below_drew1) | exact HB.out) : Below w.heap.size w W4.drew))
      clear BKg2 BKg3 BKg5 HB
      have BKg2 := NBKg2_
      have BKg3 := NBKg3_
      have BKg5 := NBKg5_
      have HB := NHB_
      clear NBKg2_ NBKg3_ NBKg5_ NHB_
      refine start_ (n := 7) (S := fun w' => (w'.heap[g3]? = some (Obj.cells (bys (qsum L k)) 23 (0, 0))) ∧ (w'.heap[g5]? = some (Obj.cells (bys d) 23 (0, 0)))) (ds := [6]) #[false, false, false, false, false, false, false] (by kernel_rfl) rfl rfl (⟨BKg3.out, BKg5.out⟩) (fun hHeld => ?_)
      generalize W4.drew = W5 at BKg2 BKg3 BKg5 HB hHeld ⊢
      refine take_ (i := 0) (N := some 16) (v := .agg (bys (qsum L k))) (a' := ?_) #[true, false, false, false, false, false, false] rfl rfl (by kernel_rfl) (fun _ _ _ h => h) (Or.inl ⟨by rfl, ?_⟩) hHeld ?_ ?_
      · rintro w' ⟨k_g3, k_g5⟩
        exact exec_row_all agg23 (by rw [bys_size, HQ1.out]; exact T23.hi) rfl rfl k_g3
      rotate_left
      · simp only [Act.put, List.setIfInBounds_toArray, List.set_cons_zero, List.set_cons_succ, i64_w, i32_w]
        rfl
      refine take_ (i := 1) (N := some 17) (v := .agg (bys d)) (a' := ?_) #[true, true, false, false, false, false, false] rfl rfl (by kernel_rfl) (fun _ _ _ h => h) (Or.inl ⟨by rfl, ?_⟩) hHeld ?_ ?_
      · rintro w' ⟨k_g3, k_g5⟩
        exact exec_row_all agg23 (by rw [bys_size, HD1.out]; exact T23.hi) rfl rfl k_g5
      rotate_left
      · simp only [Act.put, List.setIfInBounds_toArray, List.set_cons_zero, List.set_cons_succ, i64_w, i32_w]
        rfl
      refine pure_ (i := 2) (N := some 18) (v := ?_) (a' := ?_) #[true, true, true, false, false, false, false] rfl rfl (by kernel_rfl) (fun _ _ _ h => h) (Or.inl ⟨by rfl, ?_⟩) ?_ ?_
      rotate_left
      · intro w'
        go_simp
        with_reducible rfl
      rotate_left
      · simp only [Act.put, List.setIfInBounds_toArray, List.set_cons_zero, List.set_cons_succ, i64_w, i32_w]
        rfl
      refine one_ (i := 3) (N := some 19) #[true, true, true, true, false, false, false] rfl rfl (by kernel_rfl) (by decide) (fun K hK => ?_)
      refine goes_ Try.func27 (by kernel_rfl) rfl #[.int .i64 (k : Int)] (by rfl) rfl rfl (by (try simp only [List.map_toArray, List.map_cons, List.map_nil]); first | done | rfl) ?_
      with_reducible refine (pow_calls (k : Int) _).mono ?_
      rintro e w_ ⟨rfl, ⟨nd_, rfl⟩⟩
      refine ⟨_, rfl, ?_⟩
      have NBKg2_ := Aside0.mk (blk_drewN BKg2.out nd_)
      have NBKg3_ := Aside0.mk (blk_drewN BKg3.out nd_)
      have NBKg5_ := Aside0.mk (blk_drewN BKg5.out nd_)
      have NHB_ := Aside0.mk (pw_below_drewN HB.out nd_)
      clear BKg2 BKg3 BKg5 HB
      have BKg2 := NBKg2_
      have BKg3 := NBKg3_
      have BKg5 := NBKg5_
      have HB := NHB_
      clear NBKg2_ NBKg3_ NBKg5_ NHB_
      refine hK.out _ _ (⟨BKg3.out, BKg5.out⟩) (fun hHeld => ?_)
      clear hK K
      refine norm_ (a' := ?_) ?_ ?_
      rotate_left
      · show Act.put _ (some 19) _ = _
        simp only [Act.put, List.setIfInBounds_toArray, List.set_cons_zero, List.set_cons_succ, i64_w, i32_w]
        rfl
      generalize W5.drewN nd_ = W6 at BKg2 BKg3 BKg5 HB hHeld ⊢
      refine one_ (i := 4) (N := some 20) #[true, true, true, true, true, false, false] rfl rfl (by kernel_rfl) (by decide) (fun K hK => ?_)
      refine goes_ Try.func26 (by kernel_rfl) rfl #[.agg (bys d), .int .u8 ((pwZ (k : Int) : Nat) : Int)] (by rfl) rfl rfl (by (try simp only [List.map_toArray, List.map_cons, List.map_nil]); first | done | rfl) ?_
      with_reducible refine (times_calls _ _ hd1 (pwZ_lt _) _).mono ?_
      rintro e W7 ⟨rfl, hb⟩
      refine ⟨_, rfl, ?_⟩
      have NBKg2_ := Aside0.mk (blk_below BKg2.out hb)
      have NBKg3_ := Aside0.mk (blk_below BKg3.out hb)
      have NBKg5_ := Aside0.mk (blk_below BKg5.out hb)
      have NHB_ := Aside0.mk (below_step HB.out hb)
      clear BKg2 BKg3 BKg5 HB
      have BKg2 := NBKg2_
      have BKg3 := NBKg3_
      have BKg5 := NBKg5_
      have HB := NHB_
      clear NBKg2_ NBKg3_ NBKg5_ NHB_
      clear hb
      refine hK.out _ _ (⟨BKg3.out, BKg5.out⟩) (fun hHeld => ?_)
      clear hK K
      refine norm_ (a' := ?_) ?_ ?_
      rotate_left
      · show Act.put _ (some 20) _ = _
        simp only [Act.put, List.setIfInBounds_toArray, List.set_cons_zero, List.set_cons_succ, i64_w, i32_w]
        rfl
      refine one_ (i := 5) (N := some 21) #[true, true, true, true, true, true, false] rfl rfl (by kernel_rfl) (by decide) (fun K hK => ?_)
      refine goes_ Try.func25 (by kernel_rfl) rfl #[.agg (bys (qsum L k)), .agg (bys (mulL d (pwZ (k : Int))))] (by rfl) rfl rfl (by (try simp only [List.map_toArray, List.map_cons, List.map_nil]); first | done | rfl) ?_
      with_reducible refine (sum_calls _ _ hq1 (mulL_sec hd1) _).mono ?_
      rintro e W8 ⟨rfl, hb⟩
      refine ⟨_, rfl, ?_⟩
      have NBKg2_ := Aside0.mk (blk_below BKg2.out hb)
      have NBKg3_ := Aside0.mk (blk_below BKg3.out hb)
      have NBKg5_ := Aside0.mk (blk_below BKg5.out hb)
      have NHB_ := Aside0.mk (below_step HB.out hb)
      clear BKg2 BKg3 BKg5 HB
      have BKg2 := NBKg2_
      have BKg3 := NBKg3_
      have BKg5 := NBKg5_
      have HB := NHB_
      clear NBKg2_ NBKg3_ NBKg5_ NHB_
      clear hb
      refine hK.out _ _ (⟨BKg3.out, BKg5.out⟩) (fun hHeld => ?_)
      clear hK K
      refine norm_ (a' := ?_) ?_ ?_
      rotate_left
      · show Act.put _ (some 21) _ = _
        simp only [Act.put, List.setIfInBounds_toArray, List.set_cons_zero, List.set_cons_succ, i64_w, i32_w]
        rfl
      refine last_ (i := 6) (N := none) #[true, true, true, true, true, true, true] rfl rfl (by kernel_rfl) (by decide) (fun K hK => ?_)
      refine skip_ (by rfl) rfl (exec_put (cs' := bys (xorL (qsum L k) (mulL d (pwZ (k : Int))))) T23.hi rfl rfl rfl (by show (bys (xorL (qsum L k) (mulL d (pwZ (k : Int))))).size = 64; rw [bys_size]; exact (xorL_sec hq1 (mulL_sec hd1)).len) one_agg BKg3.out (by rw [bys_size, HQ1.out]; omega) (putc_all ((bys_size _).trans ((HQ1.out).trans (((xorL_sec hq1 (mulL_sec hd1)).len).symm.trans (bys_size _).symm))))) ?_
      obtain ⟨W9, hW_⟩ : ∃ W, W = W8.setRow g3 (bys (xorL (qsum L k) (mulL d (pwZ (k : Int))))) := ⟨_, rfl⟩
      rw [← hW_]
      have NBKg2_ := Aside0.mk ((by rw [hW_]; exact setRow_far BKg2.out Dg2g3 : W9.heap[g2]? = some (Obj.cells (bys (xorL (psum L k) d)) 23 (0, 0))))
      have NBKg3_ := Aside0.mk ((by rw [hW_]; exact setRow_blk BKg3.out : W9.heap[g3]? = some (Obj.cells (bys (xorL (qsum L k) (mulL d (pwZ (k : Int))))) 23 (0, 0))))
      have NBKg5_ := Aside0.mk ((by rw [hW_]; exact setRow_far BKg5.out Dg5g3 : W9.heap[g5]? = some (Obj.cells (bys d) 23 (0, 0))))
      have NHB_ := Aside0.mk ((by rw [hW_]; exact setRow_below (HB.out) GEg3.out : Below w.heap.size w W9))
      clear BKg2 BKg3 BKg5 HB
      have BKg2 := NBKg2_
      have BKg3 := NBKg3_
      have BKg5 := NBKg5_
      have HB := NHB_
      clear NBKg2_ NBKg3_ NBKg5_ NHB_
      clear hW_
      refine hK.out _ _ ?_
      clear hK K
      refine done_ (by kernel_rfl) ?_
      clear BKg5 GEg5
      clear HD1 HP1 HQ1
      go_wp2
      go_roundw
      case rel => exact ⟨k + 1, by omega, by go_num, ⟨by rw [psum, ← ED.out]; exact BKg2.out⟩, ⟨by rw [qsum, ← ED.out]; exact BKg3.out⟩, HB⟩
      case measure => simp [intOf]; omega
    · obtain rfl : n = k := by omega
      have hLn := len_C hC
      have HP1 := Lib.hid (psum_sec hS n (by omega)).len
      have HQ1 := Lib.hid (qsum_sec hS n (by omega)).len
      clear hLn
      have hd : decide ((n : Int) < (n : Int)) = false := by simp
      go_wp2_with fail
      have NBKg2_ := Aside0.mk (((by (with_reducible repeat (first | refine blk_drewN ?_ _ | refine blk_drew ?_ | refine blk_alloc ?_ _)); exact BKg2.out) : wr.drew.heap[g2]? = some (Obj.cells (bys (psum L n)) 23 (0, 0))))
      have NBKg3_ := Aside0.mk (((by (with_reducible repeat (first | refine blk_drewN ?_ _ | refine blk_drew ?_ | refine blk_alloc ?_ _)); exact BKg3.out) : wr.drew.heap[g3]? = some (Obj.cells (bys (qsum L n)) 23 (0, 0))))
      have NHB_ := Aside0.mk ((by repeat (first | (with_reducible first | exact HB.out | apply below_alloc | apply pw_below_drewN | apply below_drew1) | exact HB.out) : Below w.heap.size w wr.drew))
      clear BKg2 BKg3 HB
      have BKg2 := NBKg2_
      have BKg3 := NBKg3_
      have HB := NHB_
      clear NBKg2_ NBKg3_ NHB_
      refine start_ (n := 4) (S := fun w' => (w'.heap[g2]? = some (Obj.cells (bys (psum L n)) 23 (0, 0))) ∧ (w'.heap[g3]? = some (Obj.cells (bys (qsum L n)) 23 (0, 0)))) (ds := [3]) #[false, false, false, false] (by kernel_rfl) rfl rfl (⟨BKg2.out, BKg3.out⟩) (fun hHeld => ?_)
      generalize wr.drew = W2 at BKg2 BKg3 HB hHeld ⊢
      refine take_ (i := 0) (N := some 23) (v := .agg (bys (psum L n))) (a' := ?_) #[true, false, false, false] rfl rfl (by kernel_rfl) (fun _ _ _ h => h) (Or.inl ⟨by rfl, ?_⟩) hHeld ?_ ?_
      · rintro w' ⟨k_g2, k_g3⟩
        exact exec_row_all agg23 (by rw [bys_size, HP1.out]; exact T23.hi) rfl rfl k_g2
      rotate_left
      · simp only [Act.put, List.setIfInBounds_toArray, List.set_cons_zero, List.set_cons_succ, i64_w, i32_w]
        rfl
      refine take_ (i := 1) (N := some 24) (v := .agg (bys (qsum L n))) (a' := ?_) #[true, true, false, false] rfl rfl (by kernel_rfl) (fun _ _ _ h => h) (Or.inl ⟨by rfl, ?_⟩) hHeld ?_ ?_
      · rintro w' ⟨k_g2, k_g3⟩
        exact exec_row_all agg23 (by rw [bys_size, HQ1.out]; exact T23.hi) rfl rfl k_g3
      rotate_left
      · simp only [Act.put, List.setIfInBounds_toArray, List.set_cons_zero, List.set_cons_succ, i64_w, i32_w]
        rfl
      refine one_ (i := 2) (N := none) #[true, true, true, false] rfl rfl (by kernel_rfl) (by decide) (fun K hK => ?_)
      refine skip_ (by rfl) rfl (exec_put (cs' := bys (psum L n)) T23.hi rfl rfl rfl (by show (bys (psum L n)).size = 64; rw [bys_size]; exact HP1.out) one_agg BKg2.out (by rw [bys_size, HP1.out]; omega) (putc_all ((bys_size _).trans ((HP1.out).trans ((HP1.out).symm.trans (bys_size _).symm))))) ?_
      obtain ⟨W3, hW_⟩ : ∃ W, W = W2.setRow g2 (bys (psum L n)) := ⟨_, rfl⟩
      rw [← hW_]
      have NBKg2_ := Aside0.mk ((by rw [hW_]; exact setRow_blk BKg2.out : W3.heap[g2]? = some (Obj.cells (bys (psum L n)) 23 (0, 0))))
      have NBKg3_ := Aside0.mk ((by rw [hW_]; exact setRow_far BKg3.out Dg3g2 : W3.heap[g3]? = some (Obj.cells (bys (qsum L n)) 23 (0, 0))))
      have NHB_ := Aside0.mk ((by rw [hW_]; exact setRow_below (HB.out) GEg2.out : Below w.heap.size w W3))
      clear BKg2 BKg3 HB
      have BKg2 := NBKg2_
      have BKg3 := NBKg3_
      have HB := NHB_
      clear NBKg2_ NBKg3_ NHB_
      clear hW_
      refine hK.out _ _ (⟨BKg2.out, BKg3.out⟩) (fun hHeld => ?_)
      clear hK K
      refine last_ (i := 3) (N := none) #[true, true, true, true] rfl rfl (by kernel_rfl) (by decide) (fun K hK => ?_)
      refine skip_ (by rfl) rfl (exec_put (cs' := bys (qsum L n)) T23.hi rfl rfl rfl (by show (bys (qsum L n)).size = 64; rw [bys_size]; exact HQ1.out) one_agg BKg3.out (by rw [bys_size, HQ1.out]; omega) (putc_all ((bys_size _).trans ((HQ1.out).trans ((HQ1.out).symm.trans (bys_size _).symm))))) ?_
      obtain ⟨W4, hW_⟩ : ∃ W, W = W3.setRow g3 (bys (qsum L n)) := ⟨_, rfl⟩
      rw [← hW_]
      have NBKg2_ := Aside0.mk ((by rw [hW_]; exact setRow_far BKg2.out Dg2g3 : W4.heap[g2]? = some (Obj.cells (bys (psum L n)) 23 (0, 0))))
      have NBKg3_ := Aside0.mk ((by rw [hW_]; exact setRow_blk BKg3.out : W4.heap[g3]? = some (Obj.cells (bys (qsum L n)) 23 (0, 0))))
      have NHB_ := Aside0.mk ((by rw [hW_]; exact setRow_below (HB.out) GEg3.out : Below w.heap.size w W4))
      clear BKg2 BKg3 HB
      have BKg2 := NBKg2_
      have BKg3 := NBKg3_
      have HB := NHB_
      clear NBKg2_ NBKg3_ NHB_
      clear hW_
      refine hK.out _ _ ?_
      clear hK K
      refine done_ (by kernel_rfl) ?_
      go_wp2
      exact bodyPost_ret (v := .tuple #[.agg (bys (psum L n)), .agg (bys (qsum L n))]) (results_list (rs := [.cell 2 23, .cell 3 23]) rfl (by simp) (.cell g2 23 _ (0, 0) _ rfl BKg2.out T23.hu rfl (by rw [bys_size, HP1.out]; exact T23.hi) (.cell g3 23 _ (0, 0) _ rfl BKg3.out T23.hu rfl (by rw [bys_size, HQ1.out]; exact T23.hi) .nil))) rfl ⟨rfl, HB.out⟩

end Go.Proofs.Ytonjgbcibjnpoaa.Pw
