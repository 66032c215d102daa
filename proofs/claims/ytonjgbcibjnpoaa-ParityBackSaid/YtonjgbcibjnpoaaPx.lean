import Derived.Test.YtonjgbcibjnpoaaPb
import Derived.Test.YtonjgbcibjnpoaaSd
import Derived.Test.YtonjgbcibjnpoaaSs
import Derived.Test.YtonjgbcibjnpoaaSr
import Derived.Test.YtonjgbcibjnpoaaPw
import Derived.WalkSpells
import Derived.OpenShut
import Derived.Outline
import Derived.Lib.Hide
namespace Go.Proofs.Ytonjgbcibjnpoaa.Pw
open Go.RowKit Go.Proofs.YtonjgbcibjnpoaaW.PrintWords Go.Proofs.YtonjgbcibjnpoaaW.PrintLast Go.Proofs.YtonjgbcibjnpoaaW.PrintMore Go.Proofs.Ytonjgbcibjnpoaa.Gf Go.Proofs.Ytonjgbcibjnpoaa.Sc Go.Proofs.Ytonjgbcibjnpoaa.Pb Go.Proofs.Ytonjgbcibjnpoaa.Sd Go.Proofs.Ytonjgbcibjnpoaa.Ss Go.Proofs.Ytonjgbcibjnpoaa.Sr
set_option linter.unusedVariables false
set_option linter.unusedSimpArgs false


def ofE (n : Nat) : Int := if n = 0 then 2 else if 62 < n then 3 else 0
def ofP (L : List (List Nat)) (n : Nat) : List Nat := if n = 0 then zeros else if 62 < n then zeros else psum L n
def ofQ (L : List (List Nat)) (n : Nat) : List Nat := if n = 0 then zeros else if 62 < n then zeros else qsum L n
set_option maxHeartbeats 4000000 in
set_option maxRecDepth 100000 in
theorem of_calls (A : Option Addr) (n c : Nat) (L : List (List Nat)) (w : World) (hC : Kd.C seK w A n L) (hS : Secs L) : Calls Try.prog 13 #[.slice A n c] w fun e w' => e = .returned (.tuple #[.agg (bys (ofP L n)), .agg (bys (ofQ L n)), .int .i64 (ofE n)]) ∧ Below w.heap.size w w' := by
  by_cases h0 : n = 0
  · have e1 : ofP L n = zeros := by simp [ofP, h0]
    have e2 : ofQ L n = zeros := by simp [ofQ, h0]
    have e3 : ofE n = 2 := by simp [ofE, h0]
    have HB := Aside0.mk (Below.refl w.heap.size w)
    go_enter Try.func13, Try.ntmps13
    have d1 : decide ((n : Int) = 0) = true := by simp; omega
    go_wp2_with fail
    rw [zlit]
    obtain ⟨q0_, q1_, nb_⟩ := Wk.blks2 w (Obj.cells (bys zeros) 23 (0, 0)) (Obj.cells (bys zeros) 23 (0, 0))
    obtain ⟨W1, hW_⟩ : ∃ W, W = ((w.alloc (Obj.cells (bys zeros) 23 (0, 0))).alloc (Obj.cells (bys zeros) 23 (0, 0))) := ⟨_, rfl⟩
    rw [← hW_]
    rw [← hW_] at q0_
    rw [← hW_] at q1_
    rw [← hW_] at nb_
    have sz_ := below_size HB.out
    have hb2_ := Aside0.mk (below_step HB.out nb_)
    obtain ⟨g2, hgg2_⟩ : ∃ g, g = w.heap.size := ⟨_, rfl⟩
    obtain ⟨g3, hgg3_⟩ : ∃ g, g = w.heap.size + 1 := ⟨_, rfl⟩
    rw [← hgg3_]
    rw [← hgg3_] at q1_
    rw [← hgg2_]
    rw [← hgg2_] at q0_
    have hge_ : w.heap.size ≤ g2 := (by omega)
    have GEg2 := Aside0.mk hge_
    clear hge_
    have hge_ : w.heap.size ≤ g3 := (by omega)
    have GEg3 := Aside0.mk hge_
    clear hge_
    have Dg2g3 : g2 ≠ g3 := (by omega)
    have Dg3g2 : g3 ≠ g2 := (by omega)
    have BKg2 := Aside0.mk q0_
    have BKg3 := Aside0.mk q1_
    clear HB
    have HB := hb2_
    clear hb2_ sz_ hW_ nb_ hgg2_ hgg3_ q0_ q1_
    have d1 : decide ((n : Int) = 0) = true := by simp; omega
    go_wp2_with fail
    have NBKg2_ := Aside0.mk (((by (with_reducible repeat (first | refine blk_drewN ?_ _ | refine blk_drew ?_ | refine blk_alloc ?_ _)); exact BKg2.out) : W1.drew.heap[g2]? = some (Obj.cells (bys zeros) 23 (0, 0))))
    have NBKg3_ := Aside0.mk (((by (with_reducible repeat (first | refine blk_drewN ?_ _ | refine blk_drew ?_ | refine blk_alloc ?_ _)); exact BKg3.out) : W1.drew.heap[g3]? = some (Obj.cells (bys zeros) 23 (0, 0))))
    have NHB_ := Aside0.mk ((by repeat (first | (with_reducible first | exact HB.out | apply below_alloc | apply pw_below_drewN | apply below_drew1) | exact HB.out) : Below w.heap.size w W1.drew))
    clear BKg2 BKg3 HB
    have BKg2 := NBKg2_
    have BKg3 := NBKg3_
    have HB := NHB_
    clear NBKg2_ NBKg3_ NHB_
    refine start_ (n := 5) (S := fun w' => (w'.heap[g2]? = some (Obj.cells (bys zeros) 23 (0, 0))) ∧ (w'.heap[g3]? = some (Obj.cells (bys zeros) 23 (0, 0)))) (ds := []) #[false, false, false, false, false] (by kernel_rfl) rfl rfl (⟨BKg2.out, BKg3.out⟩) (fun hHeld => ?_)
    generalize W1.drew = V0 at BKg2 BKg3 HB hHeld ⊢
    refine take_ (i := 0) (N := some 11) (v := .agg (bys zeros)) (a' := ?_) #[true, false, false, false, false] rfl rfl (by kernel_rfl) (fun _ _ _ h => h) (Or.inl ⟨by rfl, ?_⟩) hHeld ?_ ?_
    · rintro w' ⟨k_g2, k_g3⟩
      exact exec_row_all agg23 (by rw [bys_size, zeros_length]; exact T23.hi) rfl rfl k_g2
    rotate_left
    · simp only [Act.put, List.setIfInBounds_toArray, List.set_cons_zero, List.set_cons_succ, i64_w, i32_w]
      rfl
    refine take_ (i := 1) (N := some 12) (v := .agg (bys zeros)) (a' := ?_) #[true, true, false, false, false] rfl rfl (by kernel_rfl) (fun _ _ _ h => h) (Or.inl ⟨by rfl, ?_⟩) hHeld ?_ ?_
    · rintro w' ⟨k_g2, k_g3⟩
      exact exec_row_all agg23 (by rw [bys_size, zeros_length]; exact T23.hi) rfl rfl k_g3
    rotate_left
    · simp only [Act.put, List.setIfInBounds_toArray, List.set_cons_zero, List.set_cons_succ, i64_w, i32_w]
      rfl
    refine one_ (i := 2) (N := none) #[true, true, true, false, false] rfl rfl (by kernel_rfl) (by decide) (fun K hK => ?_)
    refine skip_ (by rfl) rfl (exec_put (cs' := bys zeros) T23.hi rfl rfl rfl (by show (bys zeros).size = 64; rw [bys_size]; exact zeros_length) one_agg BKg2.out (by rw [bys_size, zeros_length]; omega) (putc_all ((bys_size _).trans ((zeros_length).trans ((zeros_length).symm.trans (bys_size _).symm))))) ?_
    obtain ⟨V1, hW_⟩ : ∃ W, W = V0.setRow g2 (bys zeros) := ⟨_, rfl⟩
    rw [← hW_]
    have NBKg2_ := Aside0.mk ((by rw [hW_]; exact setRow_blk BKg2.out : V1.heap[g2]? = some (Obj.cells (bys zeros) 23 (0, 0))))
    have NBKg3_ := Aside0.mk ((by rw [hW_]; exact setRow_far BKg3.out Dg3g2 : V1.heap[g3]? = some (Obj.cells (bys zeros) 23 (0, 0))))
    have NHB_ := Aside0.mk ((by rw [hW_]; exact setRow_below (HB.out) GEg2.out : Below w.heap.size w V1))
    clear BKg2 BKg3 HB
    have BKg2 := NBKg2_
    have BKg3 := NBKg3_
    have HB := NHB_
    clear NBKg2_ NBKg3_ NHB_
    clear hW_
    refine hK.out _ _ (⟨BKg2.out, BKg3.out⟩) (fun hHeld => ?_)
    clear hK K
    refine one_ (i := 3) (N := none) #[true, true, true, true, false] rfl rfl (by kernel_rfl) (by decide) (fun K hK => ?_)
    refine skip_ (by rfl) rfl (exec_put (cs' := bys zeros) T23.hi rfl rfl rfl (by show (bys zeros).size = 64; rw [bys_size]; exact zeros_length) one_agg BKg3.out (by rw [bys_size, zeros_length]; omega) (putc_all ((bys_size _).trans ((zeros_length).trans ((zeros_length).symm.trans (bys_size _).symm))))) ?_
    obtain ⟨V2, hW_⟩ : ∃ W, W = V1.setRow g3 (bys zeros) := ⟨_, rfl⟩
    rw [← hW_]
    have NBKg2_ := Aside0.mk ((by rw [hW_]; exact setRow_far BKg2.out Dg2g3 : V2.heap[g2]? = some (Obj.cells (bys zeros) 23 (0, 0))))
    have NBKg3_ := Aside0.mk ((by rw [hW_]; exact setRow_blk BKg3.out : V2.heap[g3]? = some (Obj.cells (bys zeros) 23 (0, 0))))
    have NHB_ := Aside0.mk ((by rw [hW_]; exact setRow_below (HB.out) GEg3.out : Below w.heap.size w V2))
    clear BKg2 BKg3 HB
    have BKg2 := NBKg2_
    have BKg3 := NBKg3_
    have HB := NHB_
    clear NBKg2_ NBKg3_ NHB_
    clear hW_
    refine hK.out _ _ (⟨BKg2.out, BKg3.out⟩) (fun hHeld => ?_)
    clear hK K
    refine pure_ (i := 4) (N := some 4) (v := ?_) (a' := ?_) #[true, true, true, true, true] rfl rfl (by kernel_rfl) (fun _ _ _ h => h) (Or.inl ⟨by rfl, ?_⟩) ?_ ?_
    rotate_left
    · intro w'
      go_simp
      with_reducible rfl
    rotate_left
    · simp only [Act.put, List.setIfInBounds_toArray, List.set_cons_zero, List.set_cons_succ, i64_w, i32_w]
      rfl
    refine done_ (by kernel_rfl) ?_
    go_wp2
    exact bodyPost_ret (v := .tuple #[.agg (bys zeros), .agg (bys zeros), .int .i64 _]) (results_list (rs := [.cell 2 23, .cell 3 23, .tmp 4]) rfl (by simp) (.cell g2 23 _ (0, 0) _ rfl BKg2.out T23.hu rfl (by rw [bys_size, zeros_length]; exact T23.hi) (.cell g3 23 _ (0, 0) _ rfl BKg3.out T23.hu rfl (by rw [bys_size, zeros_length]; exact T23.hi) (.tmp .nil)))) rfl ⟨by rw [e1, e2, e3], HB.out⟩
  by_cases h1 : 62 < n
  · have e1 : ofP L n = zeros := by simp [ofP, h0, h1]
    have e2 : ofQ L n = zeros := by simp [ofQ, h0, h1]
    have e3 : ofE n = 3 := by simp [ofE, h0, h1]
    have HB := Aside0.mk (Below.refl w.heap.size w)
    go_enter Try.func13, Try.ntmps13
    have d1 : decide ((n : Int) = 0) = false := by simp; omega
    have d2 : decide ((62 : Int) < n) = true := by simp; omega
    go_wp2_with fail
    rw [zlit]
    obtain ⟨q0_, q1_, nb_⟩ := Wk.blks2 w (Obj.cells (bys zeros) 23 (0, 0)) (Obj.cells (bys zeros) 23 (0, 0))
    obtain ⟨W1, hW_⟩ : ∃ W, W = ((w.alloc (Obj.cells (bys zeros) 23 (0, 0))).alloc (Obj.cells (bys zeros) 23 (0, 0))) := ⟨_, rfl⟩
    rw [← hW_]
    rw [← hW_] at q0_
    rw [← hW_] at q1_
    rw [← hW_] at nb_
    have sz_ := below_size HB.out
    have hb2_ := Aside0.mk (below_step HB.out nb_)
    obtain ⟨g2, hgg2_⟩ : ∃ g, g = w.heap.size := ⟨_, rfl⟩
    obtain ⟨g3, hgg3_⟩ : ∃ g, g = w.heap.size + 1 := ⟨_, rfl⟩
    rw [← hgg3_]
    rw [← hgg3_] at q1_
    rw [← hgg2_]
    rw [← hgg2_] at q0_
    have hge_ : w.heap.size ≤ g2 := (by omega)
    have GEg2 := Aside0.mk hge_
    clear hge_
    have hge_ : w.heap.size ≤ g3 := (by omega)
    have GEg3 := Aside0.mk hge_
    clear hge_
    have Dg2g3 : g2 ≠ g3 := (by omega)
    have Dg3g2 : g3 ≠ g2 := (by omega)
    have BKg2 := Aside0.mk q0_
    have BKg3 := Aside0.mk q1_
    clear HB
    have HB := hb2_
    clear hb2_ sz_ hW_ nb_ hgg2_ hgg3_ q0_ q1_
    have d1 : decide ((n : Int) = 0) = false := by simp; omega
    have d2 : decide ((62 : Int) < n) = true := by simp; omega
    go_wp2_with fail
    have NBKg2_ := Aside0.mk (((by (with_reducible repeat (first | refine blk_drewN ?_ _ | refine blk_drew ?_ | refine blk_alloc ?_ _)); exact BKg2.out) : W1.drew.heap[g2]? = some (Obj.cells (bys zeros) 23 (0, 0))))
    have NBKg3_ := Aside0.mk (((by (with_reducible repeat (first | refine blk_drewN ?_ _ | refine blk_drew ?_ | refine blk_alloc ?_ _)); exact BKg3.out) : W1.drew.heap[g3]? = some (Obj.cells (bys zeros) 23 (0, 0))))
    have NHB_ := Aside0.mk ((by repeat (first | (with_reducible first | exact HB.out | apply below_alloc | apply pw_below_drewN | apply below_drew1) | exact HB.out) : Below w.heap.size w W1.drew))
    clear BKg2 BKg3 HB
    have BKg2 := NBKg2_
    have BKg3 := NBKg3_
    have HB := NHB_
    clear NBKg2_ NBKg3_ NHB_
    refine start_ (n := 5) (S := fun w' => (w'.heap[g2]? = some (Obj.cells (bys zeros) 23 (0, 0))) ∧ (w'.heap[g3]? = some (Obj.cells (bys zeros) 23 (0, 0)))) (ds := []) #[false, false, false, false, false] (by kernel_rfl) rfl rfl (⟨BKg2.out, BKg3.out⟩) (fun hHeld => ?_)
    generalize W1.drew = V0 at BKg2 BKg3 HB hHeld ⊢
    refine take_ (i := 0) (N := some 16) (v := .agg (bys zeros)) (a' := ?_) #[true, false, false, false, false] rfl rfl (by kernel_rfl) (fun _ _ _ h => h) (Or.inl ⟨by rfl, ?_⟩) hHeld ?_ ?_
    · rintro w' ⟨k_g2, k_g3⟩
      exact exec_row_all agg23 (by rw [bys_size, zeros_length]; exact T23.hi) rfl rfl k_g2
    rotate_left
    · simp only [Act.put, List.setIfInBounds_toArray, List.set_cons_zero, List.set_cons_succ, i64_w, i32_w]
      rfl
    refine take_ (i := 1) (N := some 17) (v := .agg (bys zeros)) (a' := ?_) #[true, true, false, false, false] rfl rfl (by kernel_rfl) (fun _ _ _ h => h) (Or.inl ⟨by rfl, ?_⟩) hHeld ?_ ?_
    · rintro w' ⟨k_g2, k_g3⟩
      exact exec_row_all agg23 (by rw [bys_size, zeros_length]; exact T23.hi) rfl rfl k_g3
    rotate_left
    · simp only [Act.put, List.setIfInBounds_toArray, List.set_cons_zero, List.set_cons_succ, i64_w, i32_w]
      rfl
    refine one_ (i := 2) (N := none) #[true, true, true, false, false] rfl rfl (by kernel_rfl) (by decide) (fun K hK => ?_)
    refine skip_ (by rfl) rfl (exec_put (cs' := bys zeros) T23.hi rfl rfl rfl (by show (bys zeros).size = 64; rw [bys_size]; exact zeros_length) one_agg BKg2.out (by rw [bys_size, zeros_length]; omega) (putc_all ((bys_size _).trans ((zeros_length).trans ((zeros_length).symm.trans (bys_size _).symm))))) ?_
    obtain ⟨V1, hW_⟩ : ∃ W, W = V0.setRow g2 (bys zeros) := ⟨_, rfl⟩
    rw [← hW_]
    have NBKg2_ := Aside0.mk ((by rw [hW_]; exact setRow_blk BKg2.out : V1.heap[g2]? = some (Obj.cells (bys zeros) 23 (0, 0))))
    have NBKg3_ := Aside0.mk ((by rw [hW_]; exact setRow_far BKg3.out Dg3g2 : V1.heap[g3]? = some (Obj.cells (bys zeros) 23 (0, 0))))
    have NHB_ := Aside0.mk ((by rw [hW_]; exact setRow_below (HB.out) GEg2.out : Below w.heap.size w V1))
    clear BKg2 BKg3 HB
    have BKg2 := NBKg2_
    have BKg3 := NBKg3_
    have HB := NHB_
    clear NBKg2_ NBKg3_ NHB_
    clear hW_
    refine hK.out _ _ (⟨BKg2.out, BKg3.out⟩) (fun hHeld => ?_)
    clear hK K
    refine one_ (i := 3) (N := none) #[true, true, true, true, false] rfl rfl (by kernel_rfl) (by decide) (fun K hK => ?_)
    refine skip_ (by rfl) rfl (exec_put (cs' := bys zeros) T23.hi rfl rfl rfl (by show (bys zeros).size = 64; rw [bys_size]; exact zeros_length) one_agg BKg3.out (by rw [bys_size, zeros_length]; omega) (putc_all ((bys_size _).trans ((zeros_length).trans ((zeros_length).symm.trans (bys_size _).symm))))) ?_
    obtain ⟨V2, hW_⟩ : ∃ W, W = V1.setRow g3 (bys zeros) := ⟨_, rfl⟩
    rw [← hW_]
    have NBKg2_ := Aside0.mk ((by rw [hW_]; exact setRow_far BKg2.out Dg2g3 : V2.heap[g2]? = some (Obj.cells (bys zeros) 23 (0, 0))))
    have NBKg3_ := Aside0.mk ((by rw [hW_]; exact setRow_blk BKg3.out : V2.heap[g3]? = some (Obj.cells (bys zeros) 23 (0, 0))))
    have NHB_ := Aside0.mk ((by rw [hW_]; exact setRow_below (HB.out) GEg3.out : Below w.heap.size w V2))
    clear BKg2 BKg3 HB
    have BKg2 := NBKg2_
    have BKg3 := NBKg3_
    have HB := NHB_
    clear NBKg2_ NBKg3_ NHB_
    clear hW_
    refine hK.out _ _ (⟨BKg2.out, BKg3.out⟩) (fun hHeld => ?_)
    clear hK K
    refine pure_ (i := 4) (N := some 4) (v := ?_) (a' := ?_) #[true, true, true, true, true] rfl rfl (by kernel_rfl) (fun _ _ _ h => h) (Or.inl ⟨by rfl, ?_⟩) ?_ ?_
    rotate_left
    · intro w'
      go_simp
      with_reducible rfl
    rotate_left
    · simp only [Act.put, List.setIfInBounds_toArray, List.set_cons_zero, List.set_cons_succ, i64_w, i32_w]
      rfl
    refine done_ (by kernel_rfl) ?_
    go_wp2
    exact bodyPost_ret (v := .tuple #[.agg (bys zeros), .agg (bys zeros), .int .i64 _]) (results_list (rs := [.cell 2 23, .cell 3 23, .tmp 4]) rfl (by simp) (.cell g2 23 _ (0, 0) _ rfl BKg2.out T23.hu rfl (by rw [bys_size, zeros_length]; exact T23.hi) (.cell g3 23 _ (0, 0) _ rfl BKg3.out T23.hu rfl (by rw [bys_size, zeros_length]; exact T23.hi) (.tmp .nil)))) rfl ⟨by rw [e1, e2, e3], HB.out⟩
  · have e1 : ofP L n = psum L n := by simp [ofP, h0, h1]
    have e2 : ofQ L n = qsum L n := by simp [ofQ, h0, h1]
    have e3 : ofE n = 0 := by simp [ofE, h0, h1]
    have HB := Aside0.mk (Below.refl w.heap.size w)
    go_enter Try.func13, Try.ntmps13
    have d1 : decide ((n : Int) = 0) = false := by simp; omega
    have d2 : decide ((62 : Int) < n) = false := by simp; omega
    go_wp2_with fail
    rw [zlit]
    obtain ⟨q0_, q1_, nb_⟩ := Wk.blks2 w (Obj.cells (bys zeros) 23 (0, 0)) (Obj.cells (bys zeros) 23 (0, 0))
    obtain ⟨W1, hW_⟩ : ∃ W, W = ((w.alloc (Obj.cells (bys zeros) 23 (0, 0))).alloc (Obj.cells (bys zeros) 23 (0, 0))) := ⟨_, rfl⟩
    rw [← hW_]
    rw [← hW_] at q0_
    rw [← hW_] at q1_
    rw [← hW_] at nb_
    have sz_ := below_size HB.out
    have hb2_ := Aside0.mk (below_step HB.out nb_)
    obtain ⟨g2, hgg2_⟩ : ∃ g, g = w.heap.size := ⟨_, rfl⟩
    obtain ⟨g3, hgg3_⟩ : ∃ g, g = w.heap.size + 1 := ⟨_, rfl⟩
    rw [← hgg3_]
    rw [← hgg3_] at q1_
    rw [← hgg2_]
    rw [← hgg2_] at q0_
    have hge_ : w.heap.size ≤ g2 := (by omega)
    have GEg2 := Aside0.mk hge_
    clear hge_
    have hge_ : w.heap.size ≤ g3 := (by omega)
    have GEg3 := Aside0.mk hge_
    clear hge_
    have Dg2g3 : g2 ≠ g3 := (by omega)
    have Dg3g2 : g3 ≠ g2 := (by omega)
    have BKg2 := Aside0.mk q0_
    have BKg3 := Aside0.mk q1_
    clear HB
    have HB := hb2_
    clear hb2_ sz_ hW_ nb_ hgg2_ hgg3_ q0_ q1_
    have d1 : decide ((n : Int) = 0) = false := by simp; omega
    have d2 : decide ((62 : Int) < n) = false := by simp; omega
    have HP := Lib.hid (psum_sec hS n (by have := len_C hC; omega)).len
    have HQ := Lib.hid (qsum_sec hS n (by have := len_C hC; omega)).len
    go_wp2_with (first | (go_at_call 30; go_must (with_reducible refine (plain_calls _ _ _ L _ (Kd.C_below hC (by repeat (first | (with_reducible first | exact HB.out | apply below_alloc | apply pw_below_drewN | apply below_drew1) | exact HB.out))) hS).mono ?_); rintro e U1 ⟨rfl, hb⟩; have NBKg2_ := Aside0.mk (blk_below (o := (Obj.cells (bys zeros) 23 (0, 0))) (by (with_reducible repeat (first | refine blk_drewN ?_ _ | refine blk_drew ?_ | refine blk_alloc ?_ _)); exact BKg2.out) hb); have NBKg3_ := Aside0.mk (blk_below (o := (Obj.cells (bys zeros) 23 (0, 0))) (by (with_reducible repeat (first | refine blk_drewN ?_ _ | refine blk_drew ?_ | refine blk_alloc ?_ _)); exact BKg3.out) hb); have NHB_ := Aside0.mk (below_step (by repeat (first | (with_reducible first | exact HB.out | apply below_alloc | apply pw_below_drewN | apply below_drew1) | exact HB.out)) hb); clear BKg2 BKg3 HB; have BKg2 := NBKg2_; have BKg3 := NBKg3_; have HB := NHB_; clear NBKg2_ NBKg3_ NHB_; clear hb) | ((with_reducible refine gate_store (t := 23) (p := 2) rfl ?_); go_must (refine store_event rfl rfl rfl (exec_put (cs' := bys (psum L n)) T23.hi rfl rfl rfl (by show (bys (psum L n)).size = 64; rw [bys_size]; exact HP.out) one_agg (by (with_reducible repeat (first | refine blk_drewN ?_ _ | refine blk_drew ?_ | refine blk_alloc ?_ _)); exact BKg2.out) (by rw [bys_size, zeros_length]; omega) (putc_all ((bys_size _).trans ((zeros_length).trans ((HP.out).symm.trans (bys_size _).symm))))) ?_); intro U2 hW_; have NBKg2_ := Aside0.mk ((by rw [hW_]; exact setRow_blk (by (with_reducible repeat (first | refine blk_drewN ?_ _ | refine blk_drew ?_ | refine blk_alloc ?_ _)); exact BKg2.out) : U2.heap[g2]? = some (Obj.cells (bys (psum L n)) 23 (0, 0)))); have NBKg3_ := Aside0.mk ((by rw [hW_]; exact setRow_far (by (with_reducible repeat (first | refine blk_drewN ?_ _ | refine blk_drew ?_ | refine blk_alloc ?_ _)); exact BKg3.out) Dg3g2 : U2.heap[g3]? = some (Obj.cells (bys zeros) 23 (0, 0)))); have NHB_ := Aside0.mk ((by rw [hW_]; exact setRow_below (by repeat (first | (with_reducible first | exact HB.out | apply below_alloc | apply pw_below_drewN | apply below_drew1) | exact HB.out)) GEg2.out : Below w.heap.size w U2)); clear BKg2 BKg3 HB; have BKg2 := NBKg2_; have BKg3 := NBKg3_; have HB := NHB_; clear NBKg2_ NBKg3_ NHB_; clear hW_) | ((with_reducible refine gate_store (t := 23) (p := 3) rfl ?_); go_must (refine store_event rfl rfl rfl (exec_put (cs' := bys (qsum L n)) T23.hi rfl rfl rfl (by show (bys (qsum L n)).size = 64; rw [bys_size]; exact HQ.out) one_agg (by (with_reducible repeat (first | refine blk_drewN ?_ _ | refine blk_drew ?_ | refine blk_alloc ?_ _)); exact BKg3.out) (by rw [bys_size, zeros_length]; omega) (putc_all ((bys_size _).trans ((zeros_length).trans ((HQ.out).symm.trans (bys_size _).symm))))) ?_); intro U3 hW_; have NBKg2_ := Aside0.mk ((by rw [hW_]; exact setRow_far (by (with_reducible repeat (first | refine blk_drewN ?_ _ | refine blk_drew ?_ | refine blk_alloc ?_ _)); exact BKg2.out) Dg2g3 : U3.heap[g2]? = some (Obj.cells (bys (psum L n)) 23 (0, 0)))); have NBKg3_ := Aside0.mk ((by rw [hW_]; exact setRow_blk (by (with_reducible repeat (first | refine blk_drewN ?_ _ | refine blk_drew ?_ | refine blk_alloc ?_ _)); exact BKg3.out) : U3.heap[g3]? = some (Obj.cells (bys (qsum L n)) 23 (0, 0)))); have NHB_ := Aside0.mk ((by rw [hW_]; exact setRow_below (by repeat (first | (with_reducible first | exact HB.out | apply below_alloc | apply pw_below_drewN | apply below_drew1) | exact HB.out)) GEg3.out : Below w.heap.size w U3)); clear BKg2 BKg3 HB; have BKg2 := NBKg2_; have BKg3 := NBKg3_; have HB := NHB_; clear NBKg2_ NBKg3_ NHB_; clear hW_))
    have NBKg2_ := Aside0.mk (((by (with_reducible repeat (first | refine blk_drewN ?_ _ | refine blk_drew ?_ | refine blk_alloc ?_ _)); exact BKg2.out) : U3.drew.heap[g2]? = some (Obj.cells (bys (psum L n)) 23 (0, 0))))
    have NBKg3_ := Aside0.mk (((by (with_reducible repeat (first | refine blk_drewN ?_ _ | refine blk_drew ?_ | refine blk_alloc ?_ _)); exact BKg3.out) : U3.drew.heap[g3]? = some (Obj.cells (bys (qsum L n)) 23 (0, 0))))
    have NHB_ := Aside0.mk ((by repeat (first | (with_reducible first | exact HB.out | apply below_alloc | apply pw_below_drewN | apply below_drew1) | exact HB.out) : Below w.heap.size w U3.drew))
    clear BKg2 BKg3 HB
    have BKg2 := NBKg2_
    have BKg3 := NBKg3_
    have HB := NHB_
    clear NBKg2_ NBKg3_ NHB_
    refine start_ (n := 5) (S := fun w' => (w'.heap[g2]? = some (Obj.cells (bys (psum L n)) 23 (0, 0))) ∧ (w'.heap[g3]? = some (Obj.cells (bys (qsum L n)) 23 (0, 0)))) (ds := []) #[false, false, false, false, false] (by kernel_rfl) rfl rfl (⟨BKg2.out, BKg3.out⟩) (fun hHeld => ?_)
    generalize U3.drew = V0 at BKg2 BKg3 HB hHeld ⊢
    refine take_ (i := 0) (N := some 23) (v := .agg (bys (psum L n))) (a' := ?_) #[true, false, false, false, false] rfl rfl (by kernel_rfl) (fun _ _ _ h => h) (Or.inl ⟨by rfl, ?_⟩) hHeld ?_ ?_
    · rintro w' ⟨k_g2, k_g3⟩
      exact exec_row_all agg23 (by rw [bys_size, HP.out]; exact T23.hi) rfl rfl k_g2
    rotate_left
    · simp only [Act.put, List.setIfInBounds_toArray, List.set_cons_zero, List.set_cons_succ, i64_w, i32_w]
      rfl
    refine take_ (i := 1) (N := some 24) (v := .agg (bys (qsum L n))) (a' := ?_) #[true, true, false, false, false] rfl rfl (by kernel_rfl) (fun _ _ _ h => h) (Or.inl ⟨by rfl, ?_⟩) hHeld ?_ ?_
    · rintro w' ⟨k_g2, k_g3⟩
      exact exec_row_all agg23 (by rw [bys_size, HQ.out]; exact T23.hi) rfl rfl k_g3
    rotate_left
    · simp only [Act.put, List.setIfInBounds_toArray, List.set_cons_zero, List.set_cons_succ, i64_w, i32_w]
      rfl
    refine one_ (i := 2) (N := none) #[true, true, true, false, false] rfl rfl (by kernel_rfl) (by decide) (fun K hK => ?_)
    refine skip_ (by rfl) rfl (exec_put (cs' := bys (psum L n)) T23.hi rfl rfl rfl (by show (bys (psum L n)).size = 64; rw [bys_size]; exact HP.out) one_agg BKg2.out (by rw [bys_size, HP.out]; omega) (putc_all ((bys_size _).trans ((HP.out).trans ((HP.out).symm.trans (bys_size _).symm))))) ?_
    obtain ⟨V1, hW_⟩ : ∃ W, W = V0.setRow g2 (bys (psum L n)) := ⟨_, rfl⟩
    rw [← hW_]
    have NBKg2_ := Aside0.mk ((by rw [hW_]; exact setRow_blk BKg2.out : V1.heap[g2]? = some (Obj.cells (bys (psum L n)) 23 (0, 0))))
    have NBKg3_ := Aside0.mk ((by rw [hW_]; exact setRow_far BKg3.out Dg3g2 : V1.heap[g3]? = some (Obj.cells (bys (qsum L n)) 23 (0, 0))))
    have NHB_ := Aside0.mk ((by rw [hW_]; exact setRow_below (HB.out) GEg2.out : Below w.heap.size w V1))
    clear BKg2 BKg3 HB
    have BKg2 := NBKg2_
    have BKg3 := NBKg3_
    have HB := NHB_
    clear NBKg2_ NBKg3_ NHB_
    clear hW_
    refine hK.out _ _ (⟨BKg2.out, BKg3.out⟩) (fun hHeld => ?_)
    clear hK K
    refine one_ (i := 3) (N := none) #[true, true, true, true, false] rfl rfl (by kernel_rfl) (by decide) (fun K hK => ?_)
    refine skip_ (by rfl) rfl (exec_put (cs' := bys (qsum L n)) T23.hi rfl rfl rfl (by show (bys (qsum L n)).size = 64; rw [bys_size]; exact HQ.out) one_agg BKg3.out (by rw [bys_size, HQ.out]; omega) (putc_all ((bys_size _).trans ((HQ.out).trans ((HQ.out).symm.trans (bys_size _).symm))))) ?_
    obtain ⟨V2, hW_⟩ : ∃ W, W = V1.setRow g3 (bys (qsum L n)) := ⟨_, rfl⟩
    rw [← hW_]
    have NBKg2_ := Aside0.mk ((by rw [hW_]; exact setRow_far BKg2.out Dg2g3 : V2.heap[g2]? = some (Obj.cells (bys (psum L n)) 23 (0, 0))))
    have NBKg3_ := Aside0.mk ((by rw [hW_]; exact setRow_blk BKg3.out : V2.heap[g3]? = some (Obj.cells (bys (qsum L n)) 23 (0, 0))))
    have NHB_ := Aside0.mk ((by rw [hW_]; exact setRow_below (HB.out) GEg3.out : Below w.heap.size w V2))
    clear BKg2 BKg3 HB
    have BKg2 := NBKg2_
    have BKg3 := NBKg3_
    have HB := NHB_
    clear NBKg2_ NBKg3_ NHB_
    clear hW_
    refine hK.out _ _ (⟨BKg2.out, BKg3.out⟩) (fun hHeld => ?_)
    clear hK K
    refine pure_ (i := 4) (N := some 4) (v := ?_) (a' := ?_) #[true, true, true, true, true] rfl rfl (by kernel_rfl) (fun _ _ _ h => h) (Or.inl ⟨by rfl, ?_⟩) ?_ ?_
    rotate_left
    · intro w'
      go_simp
      with_reducible rfl
    rotate_left
    · simp only [Act.put, List.setIfInBounds_toArray, List.set_cons_zero, List.set_cons_succ, i64_w, i32_w]
      rfl
    refine done_ (by kernel_rfl) ?_
    go_wp2
    exact bodyPost_ret (v := .tuple #[.agg (bys (psum L n)), .agg (bys (qsum L n)), .int .i64 _]) (results_list (rs := [.cell 2 23, .cell 3 23, .tmp 4]) rfl (by simp) (.cell g2 23 _ (0, 0) _ rfl BKg2.out T23.hu rfl (by rw [bys_size, HP.out]; exact T23.hi) (.cell g3 23 _ (0, 0) _ rfl BKg3.out T23.hu rfl (by rw [bys_size, HQ.out]; exact T23.hi) (.tmp .nil)))) rfl ⟨by rw [e1, e2, e3], HB.out⟩
set_option maxHeartbeats 4000000 in
set_option maxRecDepth 100000 in
theorem works_calls (w : World) : Calls Try.prog 12 #[] w fun e w' => e = .returned (.bool true) ∧ Below w.heap.size w w' := by
  have HB := Aside0.mk (Below.refl w.heap.size w)
  have E1 : ofP [rep 1, rep 2] 2 = rep 3 := by decide
  have E2 : ofQ [rep 1, rep 2] 2 = rep 5 := by decide
  have E3 : ofE 2 = 0 := rfl
  have hS : Secs [rep 1, rep 2] := fun l hl => by simp at hl; rcases hl with rfl | rfl <;> exact rep_sec (by decide)
  have hL : ∀ l ∈ [rep 1, rep 2], l.length = 64 := fun l hl => (hS l hl).len
  have HL := Lib.hid hL
  have HM := Lib.hid (show (∀ l ∈ [rep 1, rep 2], l.length = 64) ∧ [rep 1, rep 2].length = 2 ∧ 2 ≤ 9223372036854775807 from ⟨hL, rfl, by decide⟩)
  have HS := Lib.hid hS
  have HE1 := Lib.hid E1
  have HE2 := Lib.hid E2
  have HE3 := Lib.hid E3
  clear hL hS E1 E2 E3
  have F1 : ∀ w, Calls Try.prog 24 #[.int .u8 1] w fun e w' => e = .returned (.agg (bys (rep 1))) ∧ Below w.heap.size w w' := fun w => filled_calls 1 w
  have F2 : ∀ w, Calls Try.prog 24 #[.int .u8 2] w fun e w' => e = .returned (.agg (bys (rep 2))) ∧ Below w.heap.size w w' := fun w => filled_calls 2 w
  have F3 : ∀ w, Calls Try.prog 24 #[.int .u8 3] w fun e w' => e = .returned (.agg (bys (rep 3))) ∧ Below w.heap.size w w' := fun w => filled_calls 3 w
  have F5 : ∀ w, Calls Try.prog 24 #[.int .u8 5] w fun e w' => e = .returned (.agg (bys (rep 5))) ∧ Below w.heap.size w w' := fun w => filled_calls 5 w
  have HF1 := Lib.hid F1
  have HF2 := Lib.hid F2
  have HF3 := Lib.hid F3
  have HF5 := Lib.hid F5
  clear F1 F2 F3 F5
  go_enter Try.func12, Try.ntmps12
  go_wp2_with (first | (go_at_call 24; (with_reducible refine (HF1.out _).mono ?_); rintro e U1 ⟨rfl, hb⟩; have NHB_ := Aside0.mk (below_step (by repeat (first | (with_reducible first | exact HB.out | apply below_alloc | apply pw_below_drewN | apply below_drew1) | exact HB.out)) hb); clear HB; have HB := NHB_; clear NHB_; clear hb) | (go_at_call 24; (with_reducible refine (HF2.out _).mono ?_); rintro e U2 ⟨rfl, hb⟩; have NHB_ := Aside0.mk (below_step (by repeat (first | (with_reducible first | exact HB.out | apply below_alloc | apply pw_below_drewN | apply below_drew1) | exact HB.out)) hb); clear HB; have HB := NHB_; clear NHB_; clear hb) | ((with_reducible refine gate_dst (N := 7) rfl ?_); go_must (refine lit_event rfl rfl (cs := bys [rep 1, rep 2].flatten) (t := 23) (exec_lit [rep 1, rep 2] HL.out rfl rfl (by decide) (by decide) rfl) ?_); intro gl hg_ wgl BK_ hb_; have GEgl := Aside0.mk (show w.heap.size ≤ gl by rw [hg_]; exact below_size (by repeat (first | (with_reducible first | exact HB.out | apply below_alloc | apply pw_below_drewN | apply below_drew1) | exact HB.out))); have NHB_ := Aside0.mk (below_step (by repeat (first | (with_reducible first | exact HB.out | apply below_alloc | apply pw_below_drewN | apply below_drew1) | exact HB.out)) hb_); clear HB; have HB := NHB_; clear NHB_; have BKgl := Aside0.mk BK_; clear BK_ hb_ hg_) | (go_at_call 13; go_must (with_reducible refine (of_calls _ _ _ [rep 1, rep 2] _ (C_lit (by (with_reducible repeat (first | refine blk_drewN ?_ _ | refine blk_drew ?_ | refine blk_alloc ?_ _)); exact BKgl.out) HM.out) HS.out).mono ?_); rintro e U3 ⟨rfl, hb⟩; rw [HE1.out, HE2.out, HE3.out]; have NBKgl_ := Aside0.mk (blk_below (o := (Obj.cells (bys [rep 1, rep 2].flatten) 23 (0, 0))) (by (with_reducible repeat (first | refine blk_drewN ?_ _ | refine blk_drew ?_ | refine blk_alloc ?_ _)); exact BKgl.out) hb); have NHB_ := Aside0.mk (below_step (by repeat (first | (with_reducible first | exact HB.out | apply below_alloc | apply pw_below_drewN | apply below_drew1) | exact HB.out)) hb); clear BKgl HB; have BKgl := NBKgl_; have HB := NHB_; clear NBKgl_ NHB_; clear hb) | ((with_reducible refine gate_store (t := 23) (p := 1) rfl ?_); go_must (rw [zlit]; obtain ⟨q0_, q1_, nb_⟩ := Wk.blks2 U3 (Obj.cells (bys zeros) 23 (0, 0)) (Obj.cells (bys zeros) 23 (0, 0)); obtain ⟨U4, hW_⟩ : ∃ W, W = ((U3.alloc (Obj.cells (bys zeros) 23 (0, 0))).alloc (Obj.cells (bys zeros) 23 (0, 0))) := ⟨_, rfl⟩; rw [← hW_]; rw [← hW_] at q0_; rw [← hW_] at q1_; rw [← hW_] at nb_; have mgl_ := blk_below BKgl.out nb_; have sz_ := below_size HB.out; have ltgl_ := blk_lt BKgl.out; have hb2_ := Aside0.mk (below_step HB.out nb_); obtain ⟨gp, hggp_⟩ : ∃ g, g = U3.heap.size := ⟨_, rfl⟩; obtain ⟨gq, hggq_⟩ : ∃ g, g = U3.heap.size + 1 := ⟨_, rfl⟩; rw [← hggq_]; rw [← hggq_] at q1_; rw [← hggp_]; rw [← hggp_] at q0_; have hge_ : w.heap.size ≤ gp := (by omega); have GEgp := Aside0.mk hge_; clear hge_; have Dglgp : gl ≠ gp := (by omega); have Dgpgl : gp ≠ gl := (by omega); have hge_ : w.heap.size ≤ gq := (by omega); have GEgq := Aside0.mk hge_; clear hge_; have Dglgq : gl ≠ gq := (by omega); have Dgqgl : gq ≠ gl := (by omega); have Dgpgq : gp ≠ gq := (by omega); have Dgqgp : gq ≠ gp := (by omega); have BNgl := Aside0.mk mgl_; clear BKgl; have BKgl := BNgl; clear BNgl ltgl_ mgl_; have BKgp := Aside0.mk q0_; have BKgq := Aside0.mk q1_; clear HB; have HB := hb2_; clear hb2_ sz_ hW_ nb_ hggp_ hggq_ q0_ q1_); ((with_reducible refine gate_store (t := 23) (p := 1) rfl ?_); go_must (refine store_event rfl rfl rfl (exec_put (cs' := bys (rep 3)) T23.hi rfl rfl rfl (by show (bys (rep 3)).size = 64; rw [bys_size]; exact (rep_length 3)) one_agg (by (with_reducible repeat (first | refine blk_drewN ?_ _ | refine blk_drew ?_ | refine blk_alloc ?_ _)); exact BKgp.out) (by rw [bys_size, zeros_length]; omega) (putc_all ((bys_size _).trans ((zeros_length).trans (((rep_length 3)).symm.trans (bys_size _).symm))))) ?_); intro U5 hW_; have NBKgl_ := Aside0.mk ((by rw [hW_]; exact setRow_far (by (with_reducible repeat (first | refine blk_drewN ?_ _ | refine blk_drew ?_ | refine blk_alloc ?_ _)); exact BKgl.out) Dglgp : U5.heap[gl]? = some (Obj.cells (bys [rep 1, rep 2].flatten) 23 (0, 0)))); have NBKgp_ := Aside0.mk ((by rw [hW_]; exact setRow_blk (by (with_reducible repeat (first | refine blk_drewN ?_ _ | refine blk_drew ?_ | refine blk_alloc ?_ _)); exact BKgp.out) : U5.heap[gp]? = some (Obj.cells (bys (rep 3)) 23 (0, 0)))); have NBKgq_ := Aside0.mk ((by rw [hW_]; exact setRow_far (by (with_reducible repeat (first | refine blk_drewN ?_ _ | refine blk_drew ?_ | refine blk_alloc ?_ _)); exact BKgq.out) Dgqgp : U5.heap[gq]? = some (Obj.cells (bys zeros) 23 (0, 0)))); have NHB_ := Aside0.mk ((by rw [hW_]; exact setRow_below (by repeat (first | (with_reducible first | exact HB.out | apply below_alloc | apply pw_below_drewN | apply below_drew1) | exact HB.out)) GEgp.out : Below w.heap.size w U5)); clear BKgl BKgp BKgq HB; have BKgl := NBKgl_; have BKgp := NBKgp_; have BKgq := NBKgq_; have HB := NHB_; clear NBKgl_ NBKgp_ NBKgq_ NHB_; clear hW_)) | ((with_reducible refine gate_store (t := 23) (p := 2) rfl ?_); go_must (refine store_event rfl rfl rfl (exec_put (cs' := bys (rep 5)) T23.hi rfl rfl rfl (by show (bys (rep 5)).size = 64; rw [bys_size]; exact (rep_length 5)) one_agg (by (with_reducible repeat (first | refine blk_drewN ?_ _ | refine blk_drew ?_ | refine blk_alloc ?_ _)); exact BKgq.out) (by rw [bys_size, zeros_length]; omega) (putc_all ((bys_size _).trans ((zeros_length).trans (((rep_length 5)).symm.trans (bys_size _).symm))))) ?_); intro U6 hW_; have NBKgl_ := Aside0.mk ((by rw [hW_]; exact setRow_far (by (with_reducible repeat (first | refine blk_drewN ?_ _ | refine blk_drew ?_ | refine blk_alloc ?_ _)); exact BKgl.out) Dglgq : U6.heap[gl]? = some (Obj.cells (bys [rep 1, rep 2].flatten) 23 (0, 0)))); have NBKgp_ := Aside0.mk ((by rw [hW_]; exact setRow_far (by (with_reducible repeat (first | refine blk_drewN ?_ _ | refine blk_drew ?_ | refine blk_alloc ?_ _)); exact BKgp.out) Dgpgq : U6.heap[gp]? = some (Obj.cells (bys (rep 3)) 23 (0, 0)))); have NBKgq_ := Aside0.mk ((by rw [hW_]; exact setRow_blk (by (with_reducible repeat (first | refine blk_drewN ?_ _ | refine blk_drew ?_ | refine blk_alloc ?_ _)); exact BKgq.out) : U6.heap[gq]? = some (Obj.cells (bys (rep 5)) 23 (0, 0)))); have NHB_ := Aside0.mk ((by rw [hW_]; exact setRow_below (by repeat (first | (with_reducible first | exact HB.out | apply below_alloc | apply pw_below_drewN | apply below_drew1) | exact HB.out)) GEgq.out : Below w.heap.size w U6)); clear BKgl BKgp BKgq HB; have BKgl := NBKgl_; have BKgp := NBKgp_; have BKgq := NBKgq_; have HB := NHB_; clear NBKgl_ NBKgp_ NBKgq_ NHB_; clear hW_))
  have NBKgl_ := Aside0.mk (((by (with_reducible repeat (first | refine blk_drewN ?_ _ | refine blk_drew ?_ | refine blk_alloc ?_ _)); exact BKgl.out) : U6.drew.heap[gl]? = some (Obj.cells (bys [rep 1, rep 2].flatten) 23 (0, 0))))
  have NBKgp_ := Aside0.mk (((by (with_reducible repeat (first | refine blk_drewN ?_ _ | refine blk_drew ?_ | refine blk_alloc ?_ _)); exact BKgp.out) : U6.drew.heap[gp]? = some (Obj.cells (bys (rep 3)) 23 (0, 0))))
  have NBKgq_ := Aside0.mk (((by (with_reducible repeat (first | refine blk_drewN ?_ _ | refine blk_drew ?_ | refine blk_alloc ?_ _)); exact BKgq.out) : U6.drew.heap[gq]? = some (Obj.cells (bys (rep 5)) 23 (0, 0))))
  have NHB_ := Aside0.mk ((by repeat (first | (with_reducible first | exact HB.out | apply below_alloc | apply pw_below_drewN | apply below_drew1) | exact HB.out) : Below w.heap.size w U6.drew))
  clear BKgl BKgp BKgq HB
  have BKgl := NBKgl_
  have BKgp := NBKgp_
  have BKgq := NBKgq_
  have HB := NHB_
  clear NBKgl_ NBKgp_ NBKgq_ NHB_
  refine start_ (n := 13) (S := fun w' => (w'.heap[gp]? = some (Obj.cells (bys (rep 3)) 23 (0, 0))) ∧ (w'.heap[gq]? = some (Obj.cells (bys (rep 5)) 23 (0, 0)))) (ds := []) #[false, false, false, false, false, false, false, false, false, false, false, false, false] (by kernel_rfl) rfl rfl (⟨BKgp.out, BKgq.out⟩) (fun hHeld => ?_)
  generalize U6.drew = V0 at BKgl BKgp BKgq HB hHeld ⊢
  refine pure_ (i := 0) (N := some 12) (v := ?_) (a' := ?_) #[true, false, false, false, false, false, false, false, false, false, false, false, false] rfl rfl (by kernel_rfl) (fun _ _ _ h => h) (Or.inl ⟨by rfl, ?_⟩) ?_ ?_
  rotate_left
  · intro w'
    go_simp
    with_reducible rfl
  rotate_left
  · simp only [Act.put, List.setIfInBounds_toArray, List.set_cons_zero, List.set_cons_succ, i64_w, i32_w]
    rfl
  refine pure_ (i := 1) (N := some 13) (v := ?_) (a' := ?_) #[true, true, false, false, false, false, false, false, false, false, false, false, false] rfl rfl (by kernel_rfl) (fun _ _ _ h => h) (Or.inl ⟨by rfl, ?_⟩) ?_ ?_
  rotate_left
  · intro w'
    go_simp
    with_reducible rfl
  rotate_left
  · simp only [Act.put, List.setIfInBounds_toArray, List.set_cons_zero, List.set_cons_succ, i64_w, i32_w]
    rfl
  refine pure_ (i := 2) (N := some 14) (v := ?_) (a' := ?_) #[true, true, true, false, false, false, false, false, false, false, false, false, false] rfl rfl (by kernel_rfl) (fun _ _ _ h => h) (Or.inl ⟨by rfl, ?_⟩) ?_ ?_
  rotate_left
  · intro w'
    go_simp
    with_reducible rfl
  rotate_left
  · simp only [Act.put, List.setIfInBounds_toArray, List.set_cons_zero, List.set_cons_succ, i64_w, i32_w]
    rfl
  refine take_ (i := 3) (N := some 15) (v := .agg (bys (rep 3))) (a' := ?_) #[true, true, true, true, false, false, false, false, false, false, false, false, false] rfl rfl (by kernel_rfl) (fun _ _ _ h => h) (Or.inl ⟨by rfl, ?_⟩) hHeld ?_ ?_
  · rintro w' ⟨k_gp, k_gq⟩
    exact exec_row_all agg23 (by rw [bys_size, (rep_length 3)]; exact T23.hi) rfl rfl k_gp
  rotate_left
  · simp only [Act.put, List.setIfInBounds_toArray, List.set_cons_zero, List.set_cons_succ, i64_w, i32_w]
    rfl
  refine one_ (i := 4) (N := some 16) #[true, true, true, true, true, false, false, false, false, false, false, false, false] rfl rfl (by kernel_rfl) (by decide) (fun K hK => ?_)
  refine goes_ Try.func24 (by kernel_rfl) rfl #[.int .u8 3] (by rfl) rfl rfl (by (try simp only [List.map_toArray, List.map_cons, List.map_nil]); first | done | rfl) ?_
  with_reducible refine (HF3.out _).mono ?_
  rintro e V1 ⟨rfl, hb⟩
  refine ⟨_, rfl, ?_⟩
  have NBKgl_ := Aside0.mk (blk_below BKgl.out hb)
  have NBKgp_ := Aside0.mk (blk_below BKgp.out hb)
  have NBKgq_ := Aside0.mk (blk_below BKgq.out hb)
  have NHB_ := Aside0.mk (below_step HB.out hb)
  clear BKgl BKgp BKgq HB
  have BKgl := NBKgl_
  have BKgp := NBKgp_
  have BKgq := NBKgq_
  have HB := NHB_
  clear NBKgl_ NBKgp_ NBKgq_ NHB_
  clear hb
  refine hK.out _ _ (⟨BKgp.out, BKgq.out⟩) (fun hHeld => ?_)
  clear hK K
  refine norm_ (a' := ?_) ?_ ?_
  rotate_left
  · show Act.put _ (some 16) _ = _
    simp only [Act.put, List.setIfInBounds_toArray, List.set_cons_zero, List.set_cons_succ, i64_w, i32_w]
    rfl
  refine pure_ (i := 5) (N := some 17) (v := .bool true) (a' := ?_) #[true, true, true, true, true, true, false, false, false, false, false, false, false] rfl rfl (by kernel_rfl) (fun _ _ _ h => h) (Or.inl ⟨by rfl, ?_⟩) ?_ ?_
  · intro w'
    exact exec_eq23 rfl rfl rfl (rep_length 3) (rep_length 3) (decide_eq_true (rfl : rep 3 = rep 3))
  rotate_left
  · simp only [Act.put, List.setIfInBounds_toArray, List.set_cons_zero, List.set_cons_succ, i64_w, i32_w]
    rfl
  refine pure_ (i := 6) (N := some 18) (v := ?_) (a' := ?_) #[true, true, true, true, true, true, true, false, false, false, false, false, false] rfl rfl (by kernel_rfl) (fun _ _ _ h => h) (Or.inl ⟨by rfl, ?_⟩) ?_ ?_
  rotate_left
  · intro w'
    go_simp
    with_reducible rfl
  rotate_left
  · simp only [Act.put, List.setIfInBounds_toArray, List.set_cons_zero, List.set_cons_succ, i64_w, i32_w]
    rfl
  refine pure_ (i := 7) (N := some 19) (v := ?_) (a' := ?_) #[true, true, true, true, true, true, true, true, false, false, false, false, false] rfl rfl (by kernel_rfl) (fun _ _ _ h => h) (Or.inl ⟨by rfl, ?_⟩) ?_ ?_
  rotate_left
  · intro w'
    go_simp
    with_reducible rfl
  rotate_left
  · simp only [Act.put, List.setIfInBounds_toArray, List.set_cons_zero, List.set_cons_succ, i64_w, i32_w]
    rfl
  refine take_ (i := 8) (N := some 20) (v := .agg (bys (rep 5))) (a' := ?_) #[true, true, true, true, true, true, true, true, true, false, false, false, false] rfl rfl (by kernel_rfl) (fun _ _ _ h => h) (Or.inl ⟨by rfl, ?_⟩) hHeld ?_ ?_
  · rintro w' ⟨k_gp, k_gq⟩
    exact exec_row_all agg23 (by rw [bys_size, (rep_length 5)]; exact T23.hi) rfl rfl k_gq
  rotate_left
  · simp only [Act.put, List.setIfInBounds_toArray, List.set_cons_zero, List.set_cons_succ, i64_w, i32_w]
    rfl
  refine one_ (i := 9) (N := some 21) #[true, true, true, true, true, true, true, true, true, true, false, false, false] rfl rfl (by kernel_rfl) (by decide) (fun K hK => ?_)
  refine goes_ Try.func24 (by kernel_rfl) rfl #[.int .u8 5] (by rfl) rfl rfl (by (try simp only [List.map_toArray, List.map_cons, List.map_nil]); first | done | rfl) ?_
  with_reducible refine (HF5.out _).mono ?_
  rintro e V2 ⟨rfl, hb⟩
  refine ⟨_, rfl, ?_⟩
  have NBKgl_ := Aside0.mk (blk_below BKgl.out hb)
  have NBKgp_ := Aside0.mk (blk_below BKgp.out hb)
  have NBKgq_ := Aside0.mk (blk_below BKgq.out hb)
  have NHB_ := Aside0.mk (below_step HB.out hb)
  clear BKgl BKgp BKgq HB
  have BKgl := NBKgl_
  have BKgp := NBKgp_
  have BKgq := NBKgq_
  have HB := NHB_
  clear NBKgl_ NBKgp_ NBKgq_ NHB_
  clear hb
  refine hK.out _ _ (⟨BKgp.out, BKgq.out⟩) (fun hHeld => ?_)
  clear hK K
  refine norm_ (a' := ?_) ?_ ?_
  rotate_left
  · show Act.put _ (some 21) _ = _
    simp only [Act.put, List.setIfInBounds_toArray, List.set_cons_zero, List.set_cons_succ, i64_w, i32_w]
    rfl
  refine pure_ (i := 10) (N := some 22) (v := .bool true) (a' := ?_) #[true, true, true, true, true, true, true, true, true, true, true, false, false] rfl rfl (by kernel_rfl) (fun _ _ _ h => h) (Or.inl ⟨by rfl, ?_⟩) ?_ ?_
  · intro w'
    exact exec_eq23 rfl rfl rfl (rep_length 5) (rep_length 5) (decide_eq_true (rfl : rep 5 = rep 5))
  rotate_left
  · simp only [Act.put, List.setIfInBounds_toArray, List.set_cons_zero, List.set_cons_succ, i64_w, i32_w]
    rfl
  refine pure_ (i := 11) (N := some 23) (v := ?_) (a' := ?_) #[true, true, true, true, true, true, true, true, true, true, true, true, false] rfl rfl (by kernel_rfl) (fun _ _ _ h => h) (Or.inl ⟨by rfl, ?_⟩) ?_ ?_
  rotate_left
  · intro w'
    go_simp
    with_reducible rfl
  rotate_left
  · simp only [Act.put, List.setIfInBounds_toArray, List.set_cons_zero, List.set_cons_succ, i64_w, i32_w]
    rfl
  refine pure_ (i := 12) (N := some 0) (v := ?_) (a' := ?_) #[true, true, true, true, true, true, true, true, true, true, true, true, true] rfl rfl (by kernel_rfl) (fun _ _ _ h => h) (Or.inl ⟨by rfl, ?_⟩) ?_ ?_
  rotate_left
  · intro w'
    go_simp
    with_reducible rfl
  rotate_left
  · simp only [Act.put, List.setIfInBounds_toArray, List.set_cons_zero, List.set_cons_succ, i64_w, i32_w]
    rfl
  refine done_ (by kernel_rfl) ?_
  go_wp2
  exact bodyPost_ret (v := .bool true) (results_single rfl (.tmp .nil)) rfl ⟨rfl, HB.out⟩

end Go.Proofs.Ytonjgbcibjnpoaa.Pw
