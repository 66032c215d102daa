import Derived.Test.YtonjgbcibjnpoaaPb
import Derived.Test.YtonjgbcibjnpoaaSd
import Derived.Test.YtonjgbcibjnpoaaSs
import Derived.Test.YtonjgbcibjnpoaaSr
import Derived.Test.YtonjgbcibjnpoaaPw
import Derived.Test.YtonjgbcibjnpoaaPx
import Derived.Test.YtonjgbcibjnpoaaPc
import Derived.WalkSpells
import Derived.OpenShut
import Derived.Outline
import Derived.Lib.Hide
namespace Go.Proofs.Ytonjgbcibjnpoaa.Pw
open Go.RowKit Go.Proofs.YtonjgbcibjnpoaaW.PrintWords Go.Proofs.YtonjgbcibjnpoaaW.PrintLast Go.Proofs.YtonjgbcibjnpoaaW.PrintMore Go.Proofs.Ytonjgbcibjnpoaa.Gf Go.Proofs.Ytonjgbcibjnpoaa.Sc Go.Proofs.Ytonjgbcibjnpoaa.Pb Go.Proofs.Ytonjgbcibjnpoaa.Sd Go.Proofs.Ytonjgbcibjnpoaa.Ss Go.Proofs.Ytonjgbcibjnpoaa.Sr
set_option linter.unusedVariables false
set_option linter.unusedSimpArgs false

set_option maxHeartbeats 4000000 in
set_option maxRecDepth 100000 in
theorem refof_calls (A : Option Addr) (n c : Nat) (L : List (List Nat)) (w : World) (hC : Kd.C seK w A n L) (hS : Secs L) : Calls Try.prog 15 #[.slice A n c] w fun e w' => e = .returned (.tuple #[.agg (bys (ofP L n)), .agg (bys (ofQ L n)), .int .i64 (ofE n)]) ∧ Below w.heap.size w w' := by
  by_cases h0 : n = 0
  · have e1 : ofP L n = zeros := by simp [ofP, h0]
    have e2 : ofQ L n = zeros := by simp [ofQ, h0]
    have e3 : ofE n = 2 := by simp [ofE, h0]
    have HB := Aside0.mk (Below.refl w.heap.size w)
    have d1 : decide ((n : Int) = 0) = true := by simp; omega
    go_enter Try.func15, Try.ntmps15
    go_wp2_with fail
    rw [zlit]
    obtain ⟨q0_, q1_, q2_, q3_, nb_⟩ := Wk.blks4 w (Obj.cells (bys zeros) 23 (0, 0)) (Obj.cells (bys zeros) 23 (0, 0)) (Obj.cells (bys zeros) 23 (0, 0)) (Obj.cells (bys zeros) 23 (0, 0))
    obtain ⟨W1, hW_⟩ : ∃ W, W = ((((w.alloc (Obj.cells (bys zeros) 23 (0, 0))).alloc (Obj.cells (bys zeros) 23 (0, 0))).alloc (Obj.cells (bys zeros) 23 (0, 0))).alloc (Obj.cells (bys zeros) 23 (0, 0))) := ⟨_, rfl⟩
    rw [← hW_]
    rw [← hW_] at q0_
    rw [← hW_] at q1_
    rw [← hW_] at q2_
    rw [← hW_] at q3_
    rw [← hW_] at nb_
    have sz_ := below_size HB.out
    have hb2_ := Aside0.mk (below_step HB.out nb_)
    obtain ⟨g2, hgg2_⟩ : ∃ g, g = w.heap.size := ⟨_, rfl⟩
    obtain ⟨g3, hgg3_⟩ : ∃ g, g = w.heap.size + 1 := ⟨_, rfl⟩
    obtain ⟨g5, hgg5_⟩ : ∃ g, g = w.heap.size + 1 + 1 := ⟨_, rfl⟩
    obtain ⟨g6, hgg6_⟩ : ∃ g, g = w.heap.size + 1 + 1 + 1 := ⟨_, rfl⟩
    rw [← hgg6_]
    rw [← hgg6_] at q3_
    rw [← hgg5_]
    rw [← hgg5_] at q2_
    rw [← hgg3_]
    rw [← hgg3_] at q1_
    rw [← hgg2_]
    rw [← hgg2_] at q0_
    have hge_ : w.heap.size ≤ g2 := (by omega)
    have GEg2 := Aside0.mk hge_
    clear hge_
    have hge_ : w.heap.size ≤ g3 := (by omega)
    have GEg3 := Aside0.mk hge_
    clear hge_
    have Dg2g3 : g2 ≠ g3 := (by omega)
    have Dg3g2 : g3 ≠ g2 := (by omega)
    have hge_ : w.heap.size ≤ g5 := (by omega)
    have GEg5 := Aside0.mk hge_
    clear hge_
    have Dg2g5 : g2 ≠ g5 := (by omega)
    have Dg5g2 : g5 ≠ g2 := (by omega)
    have Dg3g5 : g3 ≠ g5 := (by omega)
    have Dg5g3 : g5 ≠ g3 := (by omega)
    have hge_ : w.heap.size ≤ g6 := (by omega)
    have GEg6 := Aside0.mk hge_
    clear hge_
    have Dg2g6 : g2 ≠ g6 := (by omega)
    have Dg6g2 : g6 ≠ g2 := (by omega)
    have Dg3g6 : g3 ≠ g6 := (by omega)
    have Dg6g3 : g6 ≠ g3 := (by omega)
    have Dg5g6 : g5 ≠ g6 := (by omega)
    have Dg6g5 : g6 ≠ g5 := (by omega)
    have BKg2 := Aside0.mk q0_
    have BKg3 := Aside0.mk q1_
    have BKg5 := Aside0.mk q2_
    have BKg6 := Aside0.mk q3_
    clear HB
    have HB := hb2_
    clear hb2_ sz_ hW_ nb_ hgg2_ hgg3_ hgg5_ hgg6_ q0_ q1_ q2_ q3_
    have d1 : decide ((n : Int) = 0) = true := by simp; omega
    have NBKg2_ := Aside0.mk (((by (with_reducible repeat (first | refine blk_drewN ?_ _ | refine blk_drew ?_ | refine blk_alloc ?_ _)); exact BKg2.out) : W1.drew.heap[g2]? = some (Obj.cells (bys zeros) 23 (0, 0))))
    have NBKg3_ := Aside0.mk (((by (with_reducible repeat (first | refine blk_drewN ?_ _ | refine blk_drew ?_ | refine blk_alloc ?_ _)); exact BKg3.out) : W1.drew.heap[g3]? = some (Obj.cells (bys zeros) 23 (0, 0))))
    have NBKg5_ := Aside0.mk (((by (with_reducible repeat (first | refine blk_drewN ?_ _ | refine blk_drew ?_ | refine blk_alloc ?_ _)); exact BKg5.out) : W1.drew.heap[g5]? = some (Obj.cells (bys zeros) 23 (0, 0))))
    have NBKg6_ := Aside0.mk (((by (with_reducible repeat (first | refine blk_drewN ?_ _ | refine blk_drew ?_ | refine blk_alloc ?_ _)); exact BKg6.out) : W1.drew.heap[g6]? = some (Obj.cells (bys zeros) 23 (0, 0))))
    have NHB_ := Aside0.mk ((by repeat (first | (with_reducible first | exact HB.out | apply below_alloc | apply pw_below_drewN | apply below_drew1) | exact HB.out) : Below w.heap.size w W1.drew))
    clear BKg2 BKg3 BKg5 BKg6 HB
    have BKg2 := NBKg2_
    have BKg3 := NBKg3_
    have BKg5 := NBKg5_
    have BKg6 := NBKg6_
    have HB := NHB_
    clear NBKg2_ NBKg3_ NBKg5_ NBKg6_ NHB_
    refine start_ (n := 5) (S := fun w' => (w'.heap[g5]? = some (Obj.cells (bys zeros) 23 (0, 0))) ∧ (w'.heap[g6]? = some (Obj.cells (bys zeros) 23 (0, 0)))) (ds := []) #[false, false, false, false, false] (by kernel_rfl) rfl rfl (⟨BKg5.out, BKg6.out⟩) (fun hHeld => ?_)
    generalize W1.drew = V0 at BKg2 BKg3 BKg5 BKg6 HB hHeld ⊢
    refine take_ (i := 0) (N := some 11) (v := .agg (bys zeros)) (a' := ?_) #[true, false, false, false, false] rfl rfl (by kernel_rfl) (fun _ _ _ h => h) (Or.inl ⟨by rfl, ?_⟩) hHeld ?_ ?_
    · rintro w' ⟨k_g5, k_g6⟩
      exact exec_row_all agg23 (by rw [bys_size, zeros_length]; exact T23.hi) rfl rfl k_g5
    rotate_left
    · simp only [Act.put, List.setIfInBounds_toArray, List.set_cons_zero, List.set_cons_succ, i64_w, i32_w]
      rfl
    refine take_ (i := 1) (N := some 12) (v := .agg (bys zeros)) (a' := ?_) #[true, true, false, false, false] rfl rfl (by kernel_rfl) (fun _ _ _ h => h) (Or.inl ⟨by rfl, ?_⟩) hHeld ?_ ?_
    · rintro w' ⟨k_g5, k_g6⟩
      exact exec_row_all agg23 (by rw [bys_size, zeros_length]; exact T23.hi) rfl rfl k_g6
    rotate_left
    · simp only [Act.put, List.setIfInBounds_toArray, List.set_cons_zero, List.set_cons_succ, i64_w, i32_w]
      rfl
    refine one_ (i := 2) (N := none) #[true, true, true, false, false] rfl rfl (by kernel_rfl) (by decide) (fun K hK => ?_)
    refine skip_ (by rfl) rfl (exec_put (cs' := bys zeros) T23.hi rfl rfl rfl (by show (bys zeros).size = 64; rw [bys_size]; exact zeros_length) one_agg BKg2.out (by rw [bys_size, zeros_length]; omega) (putc_all ((bys_size _).trans ((zeros_length).trans ((zeros_length).symm.trans (bys_size _).symm))))) ?_
    obtain ⟨V1, hW_⟩ : ∃ W, W = V0.setRow g2 (bys zeros) := ⟨_, rfl⟩
    rw [← hW_]
    have NBKg2_ := Aside0.mk ((by rw [hW_]; exact setRow_blk BKg2.out : V1.heap[g2]? = some (Obj.cells (bys zeros) 23 (0, 0))))
    have NBKg3_ := Aside0.mk ((by rw [hW_]; exact setRow_far BKg3.out Dg3g2 : V1.heap[g3]? = some (Obj.cells (bys zeros) 23 (0, 0))))
    have NBKg5_ := Aside0.mk ((by rw [hW_]; exact setRow_far BKg5.out Dg5g2 : V1.heap[g5]? = some (Obj.cells (bys zeros) 23 (0, 0))))
    have NBKg6_ := Aside0.mk ((by rw [hW_]; exact setRow_far BKg6.out Dg6g2 : V1.heap[g6]? = some (Obj.cells (bys zeros) 23 (0, 0))))
    have NHB_ := Aside0.mk ((by rw [hW_]; exact setRow_below (HB.out) GEg2.out : Below w.heap.size w V1))
    clear BKg2 BKg3 BKg5 BKg6 HB
    have BKg2 := NBKg2_
    have BKg3 := NBKg3_
    have BKg5 := NBKg5_
    have BKg6 := NBKg6_
    have HB := NHB_
    clear NBKg2_ NBKg3_ NBKg5_ NBKg6_ NHB_
    clear hW_
    refine hK.out _ _ (⟨BKg5.out, BKg6.out⟩) (fun hHeld => ?_)
    clear hK K
    refine one_ (i := 3) (N := none) #[true, true, true, true, false] rfl rfl (by kernel_rfl) (by decide) (fun K hK => ?_)
    refine skip_ (by rfl) rfl (exec_put (cs' := bys zeros) T23.hi rfl rfl rfl (by show (bys zeros).size = 64; rw [bys_size]; exact zeros_length) one_agg BKg3.out (by rw [bys_size, zeros_length]; omega) (putc_all ((bys_size _).trans ((zeros_length).trans ((zeros_length).symm.trans (bys_size _).symm))))) ?_
    obtain ⟨V2, hW_⟩ : ∃ W, W = V1.setRow g3 (bys zeros) := ⟨_, rfl⟩
    rw [← hW_]
    have NBKg2_ := Aside0.mk ((by rw [hW_]; exact setRow_far BKg2.out Dg2g3 : V2.heap[g2]? = some (Obj.cells (bys zeros) 23 (0, 0))))
    have NBKg3_ := Aside0.mk ((by rw [hW_]; exact setRow_blk BKg3.out : V2.heap[g3]? = some (Obj.cells (bys zeros) 23 (0, 0))))
    have NBKg5_ := Aside0.mk ((by rw [hW_]; exact setRow_far BKg5.out Dg5g3 : V2.heap[g5]? = some (Obj.cells (bys zeros) 23 (0, 0))))
    have NBKg6_ := Aside0.mk ((by rw [hW_]; exact setRow_far BKg6.out Dg6g3 : V2.heap[g6]? = some (Obj.cells (bys zeros) 23 (0, 0))))
    have NHB_ := Aside0.mk ((by rw [hW_]; exact setRow_below (HB.out) GEg3.out : Below w.heap.size w V2))
    clear BKg2 BKg3 BKg5 BKg6 HB
    have BKg2 := NBKg2_
    have BKg3 := NBKg3_
    have BKg5 := NBKg5_
    have BKg6 := NBKg6_
    have HB := NHB_
    clear NBKg2_ NBKg3_ NBKg5_ NBKg6_ NHB_
    clear hW_
    refine hK.out _ _ (⟨BKg5.out, BKg6.out⟩) (fun hHeld => ?_)
    clear hK K
    refine pure_ (i := 4) (N := some 4) (v := ?_) (a' := ?_) #[true, true, true, true, true] rfl rfl (by kernel_rfl) (fun _ _ _ h => h) (Or.inl ⟨by rfl, ?_⟩) ?_ ?_
    rotate_left
    · intro w'
      go_simp
      with_reducible rfl
    rotate_left
    · simp only [Act.put, List.setIfInBounds_toArray, List.set_cons_zero, List.set_cons_succ, i64_w, i32_w]
      rfl
    refine done_ (by kernel_rfl) ?_
    go_wp2
    exact bodyPost_ret (v := .tuple #[.agg (bys zeros), .agg (bys zeros), .int .i64 _]) (results_list (rs := [.cell 2 23, .cell 3 23, .tmp 4]) rfl (by simp) (.cell g2 23 _ (0, 0) _ rfl BKg2.out T23.hu rfl (by rw [bys_size, zeros_length]; exact T23.hi) (.cell g3 23 _ (0, 0) _ rfl BKg3.out T23.hu rfl (by rw [bys_size, zeros_length]; exact T23.hi) (.tmp .nil)))) rfl ⟨by first | rw [e1, e2, e3] | with_reducible rfl, HB.out⟩
  by_cases h1 : 62 < n
  · have e1 : ofP L n = zeros := by simp [ofP, h0, h1]
    have e2 : ofQ L n = zeros := by simp [ofQ, h0, h1]
    have e3 : ofE n = 3 := by simp [ofE, h0, h1]
    have HB := Aside0.mk (Below.refl w.heap.size w)
    have d1 : decide ((n : Int) = 0) = false := by simp; omega
    have d2 : decide ((62 : Int) < n) = true := by simp; omega
    go_enter Try.func15, Try.ntmps15
    go_wp2_with fail
    rw [zlit]
    obtain ⟨q0_, q1_, q2_, q3_, nb_⟩ := Wk.blks4 w (Obj.cells (bys zeros) 23 (0, 0)) (Obj.cells (bys zeros) 23 (0, 0)) (Obj.cells (bys zeros) 23 (0, 0)) (Obj.cells (bys zeros) 23 (0, 0))
    obtain ⟨W1, hW_⟩ : ∃ W, W = ((((w.alloc (Obj.cells (bys zeros) 23 (0, 0))).alloc (Obj.cells (bys zeros) 23 (0, 0))).alloc (Obj.cells (bys zeros) 23 (0, 0))).alloc (Obj.cells (bys zeros) 23 (0, 0))) := ⟨_, rfl⟩
    rw [← hW_]
    rw [← hW_] at q0_
    rw [← hW_] at q1_
    rw [← hW_] at q2_
    rw [← hW_] at q3_
    rw [← hW_] at nb_
    have sz_ := below_size HB.out
    have hb2_ := Aside0.mk (below_step HB.out nb_)
    obtain ⟨g2, hgg2_⟩ : ∃ g, g = w.heap.size := ⟨_, rfl⟩
    obtain ⟨g3, hgg3_⟩ : ∃ g, g = w.heap.size + 1 := ⟨_, rfl⟩
    obtain ⟨g5, hgg5_⟩ : ∃ g, g = w.heap.size + 1 + 1 := ⟨_, rfl⟩
    obtain ⟨g6, hgg6_⟩ : ∃ g, g = w.heap.size + 1 + 1 + 1 := ⟨_, rfl⟩
    rw [← hgg6_]
    rw [← hgg6_] at q3_
    rw [← hgg5_]
    rw [← hgg5_] at q2_
    rw [← hgg3_]
    rw [← hgg3_] at q1_
    rw [← hgg2_]
    rw [← hgg2_] at q0_
    have hge_ : w.heap.size ≤ g2 := (by omega)
    have GEg2 := Aside0.mk hge_
    clear hge_
    have hge_ : w.heap.size ≤ g3 := (by omega)
    have GEg3 := Aside0.mk hge_
    clear hge_
    have Dg2g3 : g2 ≠ g3 := (by omega)
    have Dg3g2 : g3 ≠ g2 := (by omega)
    have hge_ : w.heap.size ≤ g5 := (by omega)
    have GEg5 := Aside0.mk hge_
    clear hge_
    have Dg2g5 : g2 ≠ g5 := (by omega)
    have Dg5g2 : g5 ≠ g2 := (by omega)
    have Dg3g5 : g3 ≠ g5 := (by omega)
    have Dg5g3 : g5 ≠ g3 := (by omega)
    have hge_ : w.heap.size ≤ g6 := (by omega)
    have GEg6 := Aside0.mk hge_
    clear hge_
    have Dg2g6 : g2 ≠ g6 := (by omega)
    have Dg6g2 : g6 ≠ g2 := (by omega)
    have Dg3g6 : g3 ≠ g6 := (by omega)
    have Dg6g3 : g6 ≠ g3 := (by omega)
    have Dg5g6 : g5 ≠ g6 := (by omega)
    have Dg6g5 : g6 ≠ g5 := (by omega)
    have BKg2 := Aside0.mk q0_
    have BKg3 := Aside0.mk q1_
    have BKg5 := Aside0.mk q2_
    have BKg6 := Aside0.mk q3_
    clear HB
    have HB := hb2_
    clear hb2_ sz_ hW_ nb_ hgg2_ hgg3_ hgg5_ hgg6_ q0_ q1_ q2_ q3_
    have d1 : decide ((n : Int) = 0) = false := by simp; omega
    have d2 : decide ((62 : Int) < n) = true := by simp; omega
    have NBKg2_ := Aside0.mk (((by (with_reducible repeat (first | refine blk_drewN ?_ _ | refine blk_drew ?_ | refine blk_alloc ?_ _)); exact BKg2.out) : W1.drew.heap[g2]? = some (Obj.cells (bys zeros) 23 (0, 0))))
    have NBKg3_ := Aside0.mk (((by (with_reducible repeat (first | refine blk_drewN ?_ _ | refine blk_drew ?_ | refine blk_alloc ?_ _)); exact BKg3.out) : W1.drew.heap[g3]? = some (Obj.cells (bys zeros) 23 (0, 0))))
    have NBKg5_ := Aside0.mk (((by (with_reducible repeat (first | refine blk_drewN ?_ _ | refine blk_drew ?_ | refine blk_alloc ?_ _)); exact BKg5.out) : W1.drew.heap[g5]? = some (Obj.cells (bys zeros) 23 (0, 0))))
    have NBKg6_ := Aside0.mk (((by (with_reducible repeat (first | refine blk_drewN ?_ _ | refine blk_drew ?_ | refine blk_alloc ?_ _)); exact BKg6.out) : W1.drew.heap[g6]? = some (Obj.cells (bys zeros) 23 (0, 0))))
    have NHB_ := Aside0.mk ((by repeat (first | (with_reducible first | exact HB.out | apply below_alloc | apply pw_below_drewN | apply below_drew1) | exact HB.out) : Below w.heap.size w W1.drew))
    clear BKg2 BKg3 BKg5 BKg6 HB
    have BKg2 := NBKg2_
    have BKg3 := NBKg3_
    have BKg5 := NBKg5_
    have BKg6 := NBKg6_
    have HB := NHB_
    clear NBKg2_ NBKg3_ NBKg5_ NBKg6_ NHB_
    refine start_ (n := 5) (S := fun w' => (w'.heap[g5]? = some (Obj.cells (bys zeros) 23 (0, 0))) ∧ (w'.heap[g6]? = some (Obj.cells (bys zeros) 23 (0, 0)))) (ds := []) #[false, false, false, false, false] (by kernel_rfl) rfl rfl (⟨BKg5.out, BKg6.out⟩) (fun hHeld => ?_)
    generalize W1.drew = V0 at BKg2 BKg3 BKg5 BKg6 HB hHeld ⊢
    refine take_ (i := 0) (N := some 16) (v := .agg (bys zeros)) (a' := ?_) #[true, false, false, false, false] rfl rfl (by kernel_rfl) (fun _ _ _ h => h) (Or.inl ⟨by rfl, ?_⟩) hHeld ?_ ?_
    · rintro w' ⟨k_g5, k_g6⟩
      exact exec_row_all agg23 (by rw [bys_size, zeros_length]; exact T23.hi) rfl rfl k_g5
    rotate_left
    · simp only [Act.put, List.setIfInBounds_toArray, List.set_cons_zero, List.set_cons_succ, i64_w, i32_w]
      rfl
    refine take_ (i := 1) (N := some 17) (v := .agg (bys zeros)) (a' := ?_) #[true, true, false, false, false] rfl rfl (by kernel_rfl) (fun _ _ _ h => h) (Or.inl ⟨by rfl, ?_⟩) hHeld ?_ ?_
    · rintro w' ⟨k_g5, k_g6⟩
      exact exec_row_all agg23 (by rw [bys_size, zeros_length]; exact T23.hi) rfl rfl k_g6
    rotate_left
    · simp only [Act.put, List.setIfInBounds_toArray, List.set_cons_zero, List.set_cons_succ, i64_w, i32_w]
      rfl
    refine one_ (i := 2) (N := none) #[true, true, true, false, false] rfl rfl (by kernel_rfl) (by decide) (fun K hK => ?_)
    refine skip_ (by rfl) rfl (exec_put (cs' := bys zeros) T23.hi rfl rfl rfl (by show (bys zeros).size = 64; rw [bys_size]; exact zeros_length) one_agg BKg2.out (by rw [bys_size, zeros_length]; omega) (putc_all ((bys_size _).trans ((zeros_length).trans ((zeros_length).symm.trans (bys_size _).symm))))) ?_
    obtain ⟨V1, hW_⟩ : ∃ W, W = V0.setRow g2 (bys zeros) := ⟨_, rfl⟩
    rw [← hW_]
    have NBKg2_ := Aside0.mk ((by rw [hW_]; exact setRow_blk BKg2.out : V1.heap[g2]? = some (Obj.cells (bys zeros) 23 (0, 0))))
    have NBKg3_ := Aside0.mk ((by rw [hW_]; exact setRow_far BKg3.out Dg3g2 : V1.heap[g3]? = some (Obj.cells (bys zeros) 23 (0, 0))))
    have NBKg5_ := Aside0.mk ((by rw [hW_]; exact setRow_far BKg5.out Dg5g2 : V1.heap[g5]? = some (Obj.cells (bys zeros) 23 (0, 0))))
    have NBKg6_ := Aside0.mk ((by rw [hW_]; exact setRow_far BKg6.out Dg6g2 : V1.heap[g6]? = some (Obj.cells (bys zeros) 23 (0, 0))))
    have NHB_ := Aside0.mk ((by rw [hW_]; exact setRow_below (HB.out) GEg2.out : Below w.heap.size w V1))
    clear BKg2 BKg3 BKg5 BKg6 HB
    have BKg2 := NBKg2_
    have BKg3 := NBKg3_
    have BKg5 := NBKg5_
    have BKg6 := NBKg6_
    have HB := NHB_
    clear NBKg2_ NBKg3_ NBKg5_ NBKg6_ NHB_
    clear hW_
    refine hK.out _ _ (⟨BKg5.out, BKg6.out⟩) (fun hHeld => ?_)
    clear hK K
    refine one_ (i := 3) (N := none) #[true, true, true, true, false] rfl rfl (by kernel_rfl) (by decide) (fun K hK => ?_)
    refine skip_ (by rfl) rfl (exec_put (cs' := bys zeros) T23.hi rfl rfl rfl (by show (bys zeros).size = 64; rw [bys_size]; exact zeros_length) one_agg BKg3.out (by rw [bys_size, zeros_length]; omega) (putc_all ((bys_size _).trans ((zeros_length).trans ((zeros_length).symm.trans (bys_size _).symm))))) ?_
    obtain ⟨V2, hW_⟩ : ∃ W, W = V1.setRow g3 (bys zeros) := ⟨_, rfl⟩
    rw [← hW_]
    have NBKg2_ := Aside0.mk ((by rw [hW_]; exact setRow_far BKg2.out Dg2g3 : V2.heap[g2]? = some (Obj.cells (bys zeros) 23 (0, 0))))
    have NBKg3_ := Aside0.mk ((by rw [hW_]; exact setRow_blk BKg3.out : V2.heap[g3]? = some (Obj.cells (bys zeros) 23 (0, 0))))
    have NBKg5_ := Aside0.mk ((by rw [hW_]; exact setRow_far BKg5.out Dg5g3 : V2.heap[g5]? = some (Obj.cells (bys zeros) 23 (0, 0))))
    have NBKg6_ := Aside0.mk ((by rw [hW_]; exact setRow_far BKg6.out Dg6g3 : V2.heap[g6]? = some (Obj.cells (bys zeros) 23 (0, 0))))
    have NHB_ := Aside0.mk ((by rw [hW_]; exact setRow_below (HB.out) GEg3.out : Below w.heap.size w V2))
    clear BKg2 BKg3 BKg5 BKg6 HB
    have BKg2 := NBKg2_
    have BKg3 := NBKg3_
    have BKg5 := NBKg5_
    have BKg6 := NBKg6_
    have HB := NHB_
    clear NBKg2_ NBKg3_ NBKg5_ NBKg6_ NHB_
    clear hW_
    refine hK.out _ _ (⟨BKg5.out, BKg6.out⟩) (fun hHeld => ?_)
    clear hK K
    refine pure_ (i := 4) (N := some 4) (v := ?_) (a' := ?_) #[true, true, true, true, true] rfl rfl (by kernel_rfl) (fun _ _ _ h => h) (Or.inl ⟨by rfl, ?_⟩) ?_ ?_
    rotate_left
    · intro w'
      go_simp
      with_reducible rfl
    rotate_left
    · simp only [Act.put, List.setIfInBounds_toArray, List.set_cons_zero, List.set_cons_succ, i64_w, i32_w]
      rfl
    refine done_ (by kernel_rfl) ?_
    go_wp2
    exact bodyPost_ret (v := .tuple #[.agg (bys zeros), .agg (bys zeros), .int .i64 _]) (results_list (rs := [.cell 2 23, .cell 3 23, .tmp 4]) rfl (by simp) (.cell g2 23 _ (0, 0) _ rfl BKg2.out T23.hu rfl (by rw [bys_size, zeros_length]; exact T23.hi) (.cell g3 23 _ (0, 0) _ rfl BKg3.out T23.hu rfl (by rw [bys_size, zeros_length]; exact T23.hi) (.tmp .nil)))) rfl ⟨by first | rw [e1, e2, e3] | with_reducible rfl, HB.out⟩
  · have e1 : ofP L n = psum L n := by simp [ofP, h0, h1]
    have e2 : ofQ L n = qsum L n := by simp [ofQ, h0, h1]
    have e3 : ofE n = 0 := by simp [ofE, h0, h1]
    have HB := Aside0.mk (Below.refl w.heap.size w)
    have d1 : decide ((n : Int) = 0) = false := by simp; omega
    have d0 : ((n : Int) == 0) = false := by simp; omega
    have d2 : decide ((62 : Int) < n) = false := by simp; omega
    go_enter Try.func15, Try.ntmps15
    go_wp2_with fail
    rw [zlit]
    obtain ⟨q0_, q1_, q2_, q3_, nb_⟩ := Wk.blks4 w (Obj.cells (bys zeros) 23 (0, 0)) (Obj.cells (bys zeros) 23 (0, 0)) (Obj.cells (bys zeros) 23 (0, 0)) (Obj.cells (bys zeros) 23 (0, 0))
    obtain ⟨W1, hW_⟩ : ∃ W, W = ((((w.alloc (Obj.cells (bys zeros) 23 (0, 0))).alloc (Obj.cells (bys zeros) 23 (0, 0))).alloc (Obj.cells (bys zeros) 23 (0, 0))).alloc (Obj.cells (bys zeros) 23 (0, 0))) := ⟨_, rfl⟩
    rw [← hW_]
    rw [← hW_] at q0_
    rw [← hW_] at q1_
    rw [← hW_] at q2_
    rw [← hW_] at q3_
    rw [← hW_] at nb_
    have sz_ := below_size HB.out
    have hb2_ := Aside0.mk (below_step HB.out nb_)
    obtain ⟨g2, hgg2_⟩ : ∃ g, g = w.heap.size := ⟨_, rfl⟩
    obtain ⟨g3, hgg3_⟩ : ∃ g, g = w.heap.size + 1 := ⟨_, rfl⟩
    obtain ⟨g5, hgg5_⟩ : ∃ g, g = w.heap.size + 1 + 1 := ⟨_, rfl⟩
    obtain ⟨g6, hgg6_⟩ : ∃ g, g = w.heap.size + 1 + 1 + 1 := ⟨_, rfl⟩
    rw [← hgg6_]
    rw [← hgg6_] at q3_
    rw [← hgg5_]
    rw [← hgg5_] at q2_
    rw [← hgg3_]
    rw [← hgg3_] at q1_
    rw [← hgg2_]
    rw [← hgg2_] at q0_
    have hge_ : w.heap.size ≤ g2 := (by omega)
    have GEg2 := Aside0.mk hge_
    clear hge_
    have hge_ : w.heap.size ≤ g3 := (by omega)
    have GEg3 := Aside0.mk hge_
    clear hge_
    have Dg2g3 : g2 ≠ g3 := (by omega)
    have Dg3g2 : g3 ≠ g2 := (by omega)
    have hge_ : w.heap.size ≤ g5 := (by omega)
    have GEg5 := Aside0.mk hge_
    clear hge_
    have Dg2g5 : g2 ≠ g5 := (by omega)
    have Dg5g2 : g5 ≠ g2 := (by omega)
    have Dg3g5 : g3 ≠ g5 := (by omega)
    have Dg5g3 : g5 ≠ g3 := (by omega)
    have hge_ : w.heap.size ≤ g6 := (by omega)
    have GEg6 := Aside0.mk hge_
    clear hge_
    have Dg2g6 : g2 ≠ g6 := (by omega)
    have Dg6g2 : g6 ≠ g2 := (by omega)
    have Dg3g6 : g3 ≠ g6 := (by omega)
    have Dg6g3 : g6 ≠ g3 := (by omega)
    have Dg5g6 : g5 ≠ g6 := (by omega)
    have Dg6g5 : g6 ≠ g5 := (by omega)
    have BKg2 := Aside0.mk q0_
    have BKg3 := Aside0.mk q1_
    have BKg5 := Aside0.mk q2_
    have BKg6 := Aside0.mk q3_
    clear HB
    have HB := hb2_
    clear hb2_ sz_ hW_ nb_ hgg2_ hgg3_ hgg5_ hgg6_ q0_ q1_ q2_ q3_
    have d1 : decide ((n : Int) = 0) = false := by simp; omega
    have d0 : ((n : Int) == 0) = false := by simp; omega
    have d2 : decide ((62 : Int) < n) = false := by simp; omega
    have hLn := len_C hC
    have hps := psum_sec hS n (by omega)
    have hqs := qsum_sec hS n (by omega)
    go_loopw [7] (fun i wr => ∃ k : Nat, k ≤ 64 ∧ i = .int .i64 k ∧ Aside0 (wr.heap[g2]? = some (Obj.cells (bys zeros) 23 (0, 0))) ∧ Aside0 (wr.heap[g3]? = some (Obj.cells (bys zeros) 23 (0, 0))) ∧ Aside0 (wr.heap[g5]? = some (Obj.cells (bys (mix (psum L n) zeros k)) 23 (0, 0))) ∧ Aside0 (wr.heap[g6]? = some (Obj.cells (bys (mix (qsum L n) zeros k)) 23 (0, 0))) ∧ Aside0 (Below w.heap.size w wr)) (fun i _ => 64 - (intOf i).toNat)
    case atStart => exact ⟨0, by omega, rfl, BKg2, BKg3, ⟨by rw [mix_zero]; exact BKg5.out⟩, ⟨by rw [mix_zero]; exact BKg6.out⟩, HB⟩
    case round =>
      clear BKg2 BKg3 BKg5 BKg6 HB
      obtain ⟨k, hk, rfl, BKg2, BKg3, BKg5, BKg6, HB⟩ := hrel
      by_cases hlt : k < 64
      · skip
        have hd : decide ((k : Int) < 64) = true := by simp; omega
        have h0 : (0 : Int) ≤ (k : Int) := by omega
        have h9 : (k : Int) < 64 := by omega
        have l1 : (mix (psum L n) zeros k).length = 64 := by rw [mix_length (by rw [hps.len, zeros_length]) (by rw [zeros_length]; omega), zeros_length]
        have l2 : (mix (qsum L n) zeros k).length = 64 := by rw [mix_length (by rw [hqs.len, zeros_length]) (by rw [zeros_length]; omega), zeros_length]
        have L1 := Lib.hid l1
        have L2 := Lib.hid l2
        have HPS := Lib.hid hps
        have HQS := Lib.hid hqs
        clear l1 l2
        go_wp2_with (first | (go_at_call 31; go_must (with_reducible refine (refp_calls A n c k L _ (Kd.C_below hC (by repeat (first | (with_reducible first | exact HB.out | apply below_alloc | apply pw_below_drewN | apply below_drew1) | exact HB.out))) hS hlt).mono ?_); rintro e W2 ⟨rfl, hb⟩; have NBKg2_ := Aside0.mk (blk_below (o := (Obj.cells (bys zeros) 23 (0, 0))) (by (with_reducible repeat (first | refine blk_drewN ?_ _ | refine blk_drew ?_ | refine blk_alloc ?_ _)); exact BKg2.out) hb); have NBKg3_ := Aside0.mk (blk_below (o := (Obj.cells (bys zeros) 23 (0, 0))) (by (with_reducible repeat (first | refine blk_drewN ?_ _ | refine blk_drew ?_ | refine blk_alloc ?_ _)); exact BKg3.out) hb); have NBKg5_ := Aside0.mk (blk_below (o := (Obj.cells (bys (mix (psum L n) zeros k)) 23 (0, 0))) (by (with_reducible repeat (first | refine blk_drewN ?_ _ | refine blk_drew ?_ | refine blk_alloc ?_ _)); exact BKg5.out) hb); have NBKg6_ := Aside0.mk (blk_below (o := (Obj.cells (bys (mix (qsum L n) zeros k)) 23 (0, 0))) (by (with_reducible repeat (first | refine blk_drewN ?_ _ | refine blk_drew ?_ | refine blk_alloc ?_ _)); exact BKg6.out) hb); have NHB_ := Aside0.mk (below_step (by repeat (first | (with_reducible first | exact HB.out | apply below_alloc | apply pw_below_drewN | apply below_drew1) | exact HB.out)) hb); clear BKg2 BKg3 BKg5 BKg6 HB; have BKg2 := NBKg2_; have BKg3 := NBKg3_; have BKg5 := NBKg5_; have BKg6 := NBKg6_; have HB := NHB_; clear NBKg2_ NBKg3_ NBKg5_ NBKg6_ NHB_; clear hb) | ((with_reducible refine gate_store (t := 5) (p := 26) rfl ?_); go_must (refine store_event rfl rfl rfl (exec_put (cs' := bys (mix (psum L n) zeros (k + 1))) (show _ = some 1 by kernel_rfl) rfl rfl rfl (rfl) (one_int) (by (with_reducible repeat (first | refine blk_drewN ?_ _ | refine blk_drew ?_ | refine blk_alloc ?_ _)); exact BKg5.out) (by rw [bys_size, L1.out]; omega) (by show putc _ _ #[.int .u8 _] = _; rw [putc_byte (by rw [L1.out]; exact hlt), ← List.getD_eq_getElem?_getD, mix_set (by rw [HPS.out.len, zeros_length]) (by rw [zeros_length]; exact hlt)])) ?_); intro W3 hW_; have NBKg2_ := Aside0.mk ((by rw [hW_]; exact setRow_far (by (with_reducible repeat (first | refine blk_drewN ?_ _ | refine blk_drew ?_ | refine blk_alloc ?_ _)); exact BKg2.out) Dg2g5 : W3.heap[g2]? = some (Obj.cells (bys zeros) 23 (0, 0)))); have NBKg3_ := Aside0.mk ((by rw [hW_]; exact setRow_far (by (with_reducible repeat (first | refine blk_drewN ?_ _ | refine blk_drew ?_ | refine blk_alloc ?_ _)); exact BKg3.out) Dg3g5 : W3.heap[g3]? = some (Obj.cells (bys zeros) 23 (0, 0)))); have NBKg5_ := Aside0.mk ((by rw [hW_]; exact setRow_blk (by (with_reducible repeat (first | refine blk_drewN ?_ _ | refine blk_drew ?_ | refine blk_alloc ?_ _)); exact BKg5.out) : W3.heap[g5]? = some (Obj.cells (bys (mix (psum L n) zeros (k + 1))) 23 (0, 0)))); have NBKg6_ := Aside0.mk ((by rw [hW_]; exact setRow_far (by (with_reducible repeat (first | refine blk_drewN ?_ _ | refine blk_drew ?_ | refine blk_alloc ?_ _)); exact BKg6.out) Dg6g5 : W3.heap[g6]? = some (Obj.cells (bys (mix (qsum L n) zeros k)) 23 (0, 0)))); have NHB_ := Aside0.mk ((by rw [hW_]; exact setRow_below (by repeat (first | (with_reducible first | exact HB.out | apply below_alloc | apply pw_below_drewN | apply below_drew1) | exact HB.out)) GEg5.out : Below w.heap.size w W3)); clear BKg2 BKg3 BKg5 BKg6 HB; have BKg2 := NBKg2_; have BKg3 := NBKg3_; have BKg5 := NBKg5_; have BKg6 := NBKg6_; have HB := NHB_; clear NBKg2_ NBKg3_ NBKg5_ NBKg6_ NHB_; clear hW_) | (go_at_call 32; go_must (with_reducible refine (refq_calls A n c k L _ (Kd.C_below hC (by repeat (first | (with_reducible first | exact HB.out | apply below_alloc | apply pw_below_drewN | apply below_drew1) | exact HB.out))) hS hlt).mono ?_); rintro e W4 ⟨rfl, hb⟩; have NBKg2_ := Aside0.mk (blk_below (o := (Obj.cells (bys zeros) 23 (0, 0))) (by (with_reducible repeat (first | refine blk_drewN ?_ _ | refine blk_drew ?_ | refine blk_alloc ?_ _)); exact BKg2.out) hb); have NBKg3_ := Aside0.mk (blk_below (o := (Obj.cells (bys zeros) 23 (0, 0))) (by (with_reducible repeat (first | refine blk_drewN ?_ _ | refine blk_drew ?_ | refine blk_alloc ?_ _)); exact BKg3.out) hb); have NBKg5_ := Aside0.mk (blk_below (o := (Obj.cells (bys (mix (psum L n) zeros (k + 1))) 23 (0, 0))) (by (with_reducible repeat (first | refine blk_drewN ?_ _ | refine blk_drew ?_ | refine blk_alloc ?_ _)); exact BKg5.out) hb); have NBKg6_ := Aside0.mk (blk_below (o := (Obj.cells (bys (mix (qsum L n) zeros k)) 23 (0, 0))) (by (with_reducible repeat (first | refine blk_drewN ?_ _ | refine blk_drew ?_ | refine blk_alloc ?_ _)); exact BKg6.out) hb); have NHB_ := Aside0.mk (below_step (by repeat (first | (with_reducible first | exact HB.out | apply below_alloc | apply pw_below_drewN | apply below_drew1) | exact HB.out)) hb); clear BKg2 BKg3 BKg5 BKg6 HB; have BKg2 := NBKg2_; have BKg3 := NBKg3_; have BKg5 := NBKg5_; have BKg6 := NBKg6_; have HB := NHB_; clear NBKg2_ NBKg3_ NBKg5_ NBKg6_ NHB_; clear hb) | ((with_reducible refine gate_store (t := 5) (p := 31) rfl ?_); go_must (refine store_event rfl rfl rfl (exec_put (cs' := bys (mix (qsum L n) zeros (k + 1))) (show _ = some 1 by kernel_rfl) rfl rfl rfl (rfl) (one_int) (by (with_reducible repeat (first | refine blk_drewN ?_ _ | refine blk_drew ?_ | refine blk_alloc ?_ _)); exact BKg6.out) (by rw [bys_size, L2.out]; omega) (by show putc _ _ #[.int .u8 _] = _; rw [putc_byte (by rw [L2.out]; exact hlt), ← List.getD_eq_getElem?_getD, mix_set (by rw [HQS.out.len, zeros_length]) (by rw [zeros_length]; exact hlt)])) ?_); intro W5 hW_; have NBKg2_ := Aside0.mk ((by rw [hW_]; exact setRow_far (by (with_reducible repeat (first | refine blk_drewN ?_ _ | refine blk_drew ?_ | refine blk_alloc ?_ _)); exact BKg2.out) Dg2g6 : W5.heap[g2]? = some (Obj.cells (bys zeros) 23 (0, 0)))); have NBKg3_ := Aside0.mk ((by rw [hW_]; exact setRow_far (by (with_reducible repeat (first | refine blk_drewN ?_ _ | refine blk_drew ?_ | refine blk_alloc ?_ _)); exact BKg3.out) Dg3g6 : W5.heap[g3]? = some (Obj.cells (bys zeros) 23 (0, 0)))); have NBKg5_ := Aside0.mk ((by rw [hW_]; exact setRow_far (by (with_reducible repeat (first | refine blk_drewN ?_ _ | refine blk_drew ?_ | refine blk_alloc ?_ _)); exact BKg5.out) Dg5g6 : W5.heap[g5]? = some (Obj.cells (bys (mix (psum L n) zeros (k + 1))) 23 (0, 0)))); have NBKg6_ := Aside0.mk ((by rw [hW_]; exact setRow_blk (by (with_reducible repeat (first | refine blk_drewN ?_ _ | refine blk_drew ?_ | refine blk_alloc ?_ _)); exact BKg6.out) : W5.heap[g6]? = some (Obj.cells (bys (mix (qsum L n) zeros (k + 1))) 23 (0, 0)))); have NHB_ := Aside0.mk ((by rw [hW_]; exact setRow_below (by repeat (first | (with_reducible first | exact HB.out | apply below_alloc | apply pw_below_drewN | apply below_drew1) | exact HB.out)) GEg6.out : Below w.heap.size w W5)); clear BKg2 BKg3 BKg5 BKg6 HB; have BKg2 := NBKg2_; have BKg3 := NBKg3_; have BKg5 := NBKg5_; have BKg6 := NBKg6_; have HB := NHB_; clear NBKg2_ NBKg3_ NBKg5_ NBKg6_ NHB_; clear hW_))
        go_roundw
        case rel => exact ⟨k + 1, by omega, by go_num, BKg2, BKg3, BKg5, BKg6, HB⟩
        case measure => simp [intOf] <;> omega
      · obtain rfl : k = 64 := by omega
        have hd : decide ((64 : Int) < 64) = false := by simp
        have e5 := mix_full (r := psum L n) (a := zeros) hps.len zeros_length
        have e6 := mix_full (r := qsum L n) (a := zeros) hqs.len zeros_length
        rw [e5] at BKg5
        rw [e6] at BKg6
        have HP := Lib.hid hps.len
        have HQ := Lib.hid hqs.len
        clear e5 e6 hd
        go_wp2_with fail
        have NBKg2_ := Aside0.mk (((by (with_reducible repeat (first | refine blk_drewN ?_ _ | refine blk_drew ?_ | refine blk_alloc ?_ _)); exact BKg2.out) : wr.drew.heap[g2]? = some (Obj.cells (bys zeros) 23 (0, 0))))
        have NBKg3_ := Aside0.mk (((by (with_reducible repeat (first | refine blk_drewN ?_ _ | refine blk_drew ?_ | refine blk_alloc ?_ _)); exact BKg3.out) : wr.drew.heap[g3]? = some (Obj.cells (bys zeros) 23 (0, 0))))
        have NBKg5_ := Aside0.mk (((by (with_reducible repeat (first | refine blk_drewN ?_ _ | refine blk_drew ?_ | refine blk_alloc ?_ _)); exact BKg5.out) : wr.drew.heap[g5]? = some (Obj.cells (bys (psum L n)) 23 (0, 0))))
        have NBKg6_ := Aside0.mk (((by (with_reducible repeat (first | refine blk_drewN ?_ _ | refine blk_drew ?_ | refine blk_alloc ?_ _)); exact BKg6.out) : wr.drew.heap[g6]? = some (Obj.cells (bys (qsum L n)) 23 (0, 0))))
        have NHB_ := Aside0.mk ((by repeat (first | (with_reducible first | exact HB.out | apply below_alloc | apply pw_below_drewN | apply below_drew1) | exact HB.out) : Below w.heap.size w wr.drew))
        clear BKg2 BKg3 BKg5 BKg6 HB
        have BKg2 := NBKg2_
        have BKg3 := NBKg3_
        have BKg5 := NBKg5_
        have BKg6 := NBKg6_
        have HB := NHB_
        clear NBKg2_ NBKg3_ NBKg5_ NBKg6_ NHB_
        refine start_ (n := 5) (S := fun w' => (w'.heap[g5]? = some (Obj.cells (bys (psum L n)) 23 (0, 0))) ∧ (w'.heap[g6]? = some (Obj.cells (bys (qsum L n)) 23 (0, 0)))) (ds := []) #[false, false, false, false, false] (by kernel_rfl) rfl rfl (⟨BKg5.out, BKg6.out⟩) (fun hHeld => ?_)
        generalize wr.drew = V0 at BKg2 BKg3 BKg5 BKg6 HB hHeld ⊢
        refine take_ (i := 0) (N := some 32) (v := .agg (bys (psum L n))) (a' := ?_) #[true, false, false, false, false] rfl rfl (by kernel_rfl) (fun _ _ _ h => h) (Or.inl ⟨by rfl, ?_⟩) hHeld ?_ ?_
        · rintro w' ⟨k_g5, k_g6⟩
          exact exec_row_all agg23 (by rw [bys_size, HP.out]; exact T23.hi) rfl rfl k_g5
        rotate_left
        · simp only [Act.put, List.setIfInBounds_toArray, List.set_cons_zero, List.set_cons_succ, i64_w, i32_w]
          rfl
        refine take_ (i := 1) (N := some 33) (v := .agg (bys (qsum L n))) (a' := ?_) #[true, true, false, false, false] rfl rfl (by kernel_rfl) (fun _ _ _ h => h) (Or.inl ⟨by rfl, ?_⟩) hHeld ?_ ?_
        · rintro w' ⟨k_g5, k_g6⟩
          exact exec_row_all agg23 (by rw [bys_size, HQ.out]; exact T23.hi) rfl rfl k_g6
        rotate_left
        · simp only [Act.put, List.setIfInBounds_toArray, List.set_cons_zero, List.set_cons_succ, i64_w, i32_w]
          rfl
        refine one_ (i := 2) (N := none) #[true, true, true, false, false] rfl rfl (by kernel_rfl) (by decide) (fun K hK => ?_)
        refine skip_ (by rfl) rfl (exec_put (cs' := bys (psum L n)) T23.hi rfl rfl rfl (by show (bys (psum L n)).size = 64; rw [bys_size]; exact HP.out) one_agg BKg2.out (by rw [bys_size, zeros_length]; omega) (putc_all ((bys_size _).trans ((zeros_length).trans ((HP.out).symm.trans (bys_size _).symm))))) ?_
        obtain ⟨V1, hW_⟩ : ∃ W, W = V0.setRow g2 (bys (psum L n)) := ⟨_, rfl⟩
        rw [← hW_]
        have NBKg2_ := Aside0.mk ((by rw [hW_]; exact setRow_blk BKg2.out : V1.heap[g2]? = some (Obj.cells (bys (psum L n)) 23 (0, 0))))
        have NBKg3_ := Aside0.mk ((by rw [hW_]; exact setRow_far BKg3.out Dg3g2 : V1.heap[g3]? = some (Obj.cells (bys zeros) 23 (0, 0))))
        have NBKg5_ := Aside0.mk ((by rw [hW_]; exact setRow_far BKg5.out Dg5g2 : V1.heap[g5]? = some (Obj.cells (bys (psum L n)) 23 (0, 0))))
        have NBKg6_ := Aside0.mk ((by rw [hW_]; exact setRow_far BKg6.out Dg6g2 : V1.heap[g6]? = some (Obj.cells (bys (qsum L n)) 23 (0, 0))))
        have NHB_ := Aside0.mk ((by rw [hW_]; exact setRow_below (HB.out) GEg2.out : Below w.heap.size w V1))
        clear BKg2 BKg3 BKg5 BKg6 HB
        have BKg2 := NBKg2_
        have BKg3 := NBKg3_
        have BKg5 := NBKg5_
        have BKg6 := NBKg6_
        have HB := NHB_
        clear NBKg2_ NBKg3_ NBKg5_ NBKg6_ NHB_
        clear hW_
        refine hK.out _ _ (⟨BKg5.out, BKg6.out⟩) (fun hHeld => ?_)
        clear hK K
        refine one_ (i := 3) (N := none) #[true, true, true, true, false] rfl rfl (by kernel_rfl) (by decide) (fun K hK => ?_)
        refine skip_ (by rfl) rfl (exec_put (cs' := bys (qsum L n)) T23.hi rfl rfl rfl (by show (bys (qsum L n)).size = 64; rw [bys_size]; exact HQ.out) one_agg BKg3.out (by rw [bys_size, zeros_length]; omega) (putc_all ((bys_size _).trans ((zeros_length).trans ((HQ.out).symm.trans (bys_size _).symm))))) ?_
        obtain ⟨V2, hW_⟩ : ∃ W, W = V1.setRow g3 (bys (qsum L n)) := ⟨_, rfl⟩
        rw [← hW_]
        have NBKg2_ := Aside0.mk ((by rw [hW_]; exact setRow_far BKg2.out Dg2g3 : V2.heap[g2]? = some (Obj.cells (bys (psum L n)) 23 (0, 0))))
        have NBKg3_ := Aside0.mk ((by rw [hW_]; exact setRow_blk BKg3.out : V2.heap[g3]? = some (Obj.cells (bys (qsum L n)) 23 (0, 0))))
        have NBKg5_ := Aside0.mk ((by rw [hW_]; exact setRow_far BKg5.out Dg5g3 : V2.heap[g5]? = some (Obj.cells (bys (psum L n)) 23 (0, 0))))
        have NBKg6_ := Aside0.mk ((by rw [hW_]; exact setRow_far BKg6.out Dg6g3 : V2.heap[g6]? = some (Obj.cells (bys (qsum L n)) 23 (0, 0))))
        have NHB_ := Aside0.mk ((by rw [hW_]; exact setRow_below (HB.out) GEg3.out : Below w.heap.size w V2))
        clear BKg2 BKg3 BKg5 BKg6 HB
        have BKg2 := NBKg2_
        have BKg3 := NBKg3_
        have BKg5 := NBKg5_
        have BKg6 := NBKg6_
        have HB := NHB_
        clear NBKg2_ NBKg3_ NBKg5_ NBKg6_ NHB_
        clear hW_
        refine hK.out _ _ (⟨BKg5.out, BKg6.out⟩) (fun hHeld => ?_)
        clear hK K
        refine pure_ (i := 4) (N := some 4) (v := ?_) (a' := ?_) #[true, true, true, true, true] rfl rfl (by kernel_rfl) (fun _ _ _ h => h) (Or.inl ⟨by rfl, ?_⟩) ?_ ?_
        rotate_left
        · intro w'
          go_simp
          with_reducible rfl
        rotate_left
        · simp only [Act.put, List.setIfInBounds_toArray, List.set_cons_zero, List.set_cons_succ, i64_w, i32_w]
          rfl
        refine done_ (by kernel_rfl) ?_
        go_wp2
        exact bodyPost_ret (v := .tuple #[.agg (bys (psum L n)), .agg (bys (qsum L n)), .int .i64 _]) (results_list (rs := [.cell 2 23, .cell 3 23, .tmp 4]) rfl (by simp) (.cell g2 23 _ (0, 0) _ rfl BKg2.out T23.hu rfl (by rw [bys_size, HP.out]; exact T23.hi) (.cell g3 23 _ (0, 0) _ rfl BKg3.out T23.hu rfl (by rw [bys_size, HQ.out]; exact T23.hi) (.tmp .nil)))) rfl ⟨by first | rw [e1, e2, e3] | with_reducible rfl, HB.out⟩

theorem list_eq {L M : List (List Nat)} (hl : L.length = M.length) (h : ∀ j, j < L.length → L.getD j [] = M.getD j []) : L = M := by
  apply List.ext_getElem hl
  intro j h1 h2
  have := h j h1
  rwa [List.getD_eq_getElem?_getD, List.getD_eq_getElem?_getD, List.getElem?_eq_getElem h1, List.getElem?_eq_getElem h2] at this
theorem sec_len {w : World} {A : Option Addr} {n : Nat} {L : List (List Nat)} (h : Kd.C seK w A n L) {i : Nat} (hi : i < n) : (L.getD i []).length = 64 := by
  obtain ⟨_, _, hl, _⟩ := at_sec h hi
  exact hl
set_option maxHeartbeats 4000000 in
set_option maxRecDepth 100000 in
theorem refsame_calls (A B : Option Addr) (n m c c' : Nat) (L M : List (List Nat)) (w : World) (hC : Kd.C seK w A n L) (hD : Kd.C seK w B m M) : Calls Try.prog 18 #[.slice A n c, .slice B m c'] w fun e w' => e = .returned (.bool (decide (L = M))) ∧ Below w.heap.size w w' := by
  have hl1 := len_C hC
  have hl2 := len_C hD
  have hle := le_C hC
  have hle2 := le_C hD
  have HB := Aside0.mk (Below.refl w.heap.size w)
  by_cases hnm : n = m
  · subst hnm
    have d1 : decide ((n : Int) = (n : Int)) = true := by simp
    have hl := hl1.trans hl2.symm
    have HL1 := Lib.hid hl1
    have HL := Lib.hid hl
    clear hl1 hl2 hl
    go_enter Try.func18, Try.ntmps18
    go_wp2_with fail
    go_loopw [5] (fun i wr => ∃ k : Nat, k ≤ n ∧ i = .int .i64 k ∧ Hid (∀ j, j < k → L.getD j [] = M.getD j []) ∧ Aside0 (Below w.heap.size w wr)) (fun i _ => n - (intOf i).toNat)
    case atStart => exact ⟨0, by omega, rfl, Lib.hid (fun j hj => by omega), HB⟩
    case round =>
      clear HB
      obtain ⟨k, hk, rfl, HE, HB⟩ := hrel
      by_cases hlt : k < n
      · obtain ⟨ad, rfl⟩ := sec_head hC (show 0 < n by omega)
        obtain ⟨bd, rfl⟩ := sec_head hD (show 0 < n by omega)
        have hd : decide ((k : Int) < (n : Int)) = true := by simp; omega
        have h0 : (0 : Int) ≤ (k : Int) := by omega
        have h9 : (k : Int) < (n : Int) := by omega
        obtain ⟨d, ed_⟩ : ∃ d, d = L.getD k [] := ⟨_, rfl⟩
        obtain ⟨f, ef_⟩ : ∃ d, d = M.getD k [] := ⟨_, rfl⟩
        have l1 := sec_len hC hlt
        have l2 := sec_len hD hlt
        rw [← ed_] at l1
        rw [← ef_] at l2
        have L1 := Lib.hid l1
        have L2 := Lib.hid l2
        have ED := Lib.hid ed_
        have EF := Lib.hid ef_
        clear ed_ ef_ l1 l2
        go_wp2_with fail
        have NHB_ := Aside0.mk (below_drew1 HB.out)
        clear HB
        have HB := NHB_
        clear NHB_
        refine start_ (n := 9) (S := fun w' => (Below w.heap.size w w')) (ds := []) #[false, false, false, false, false, false, false, false, false] (by kernel_rfl) rfl rfl (HB.out) (fun hHeld => ?_)
        generalize wr.drew = V0 at  HB hHeld ⊢
        refine pure_ (i := 0) (N := some 17) (v := ?_) (a' := ?_) #[true, false, false, false, false, false, false, false, false] rfl rfl (by kernel_rfl) (fun _ _ _ h => h) (Or.inl ⟨by rfl, ?_⟩) ?_ ?_
        rotate_left
        · intro w'
          go_simp
          with_reducible rfl
        rotate_left
        · simp only [Act.put, List.setIfInBounds_toArray, List.set_cons_zero, List.set_cons_succ, i64_w, i32_w]
          rfl
        refine pure_ (i := 1) (N := some 18) (v := ?_) (a' := ?_) #[true, true, false, false, false, false, false, false, false] rfl rfl (by kernel_rfl) (fun _ _ _ h => h) (Or.inl ⟨by rfl, ?_⟩) ?_ ?_
        rotate_left
        · intro w'
          go_simp
          with_reducible rfl
        rotate_left
        · simp only [Act.put, List.setIfInBounds_toArray, List.set_cons_zero, List.set_cons_succ, i64_w, i32_w]
          rfl
        refine pure_ (i := 2) (N := some 19) (v := ?_) (a' := ?_) #[true, true, true, false, false, false, false, false, false] rfl rfl (by kernel_rfl) (fun _ _ _ h => h) (Or.inl ⟨by rfl, ?_⟩) ?_ ?_
        rotate_left
        · intro w'
          go_simp
          with_reducible rfl
        rotate_left
        · simp only [Act.put, List.setIfInBounds_toArray, List.set_cons_zero, List.set_cons_succ, i64_w, i32_w]
          rfl
        refine take_ (i := 3) (N := some 20) (v := .agg (bys d)) (a' := ?_) #[true, true, true, true, false, false, false, false, false] rfl rfl (by kernel_rfl) (fun _ _ _ h => h) (Or.inl ⟨by rfl, ?_⟩) hHeld ?_ ?_
        · rintro w' kb_
          exact exec_sec (Kd.C_below hC kb_) hlt ED.out rfl rfl
        rotate_left
        · simp only [Act.put, List.setIfInBounds_toArray, List.set_cons_zero, List.set_cons_succ, i64_w, i32_w]
          rfl
        refine pure_ (i := 4) (N := some 21) (v := ?_) (a' := ?_) #[true, true, true, true, true, false, false, false, false] rfl rfl (by kernel_rfl) (fun _ _ _ h => h) (Or.inl ⟨by rfl, ?_⟩) ?_ ?_
        rotate_left
        · intro w'
          go_simp
          with_reducible rfl
        rotate_left
        · simp only [Act.put, List.setIfInBounds_toArray, List.set_cons_zero, List.set_cons_succ, i64_w, i32_w]
          rfl
        refine pure_ (i := 5) (N := some 22) (v := ?_) (a' := ?_) #[true, true, true, true, true, true, false, false, false] rfl rfl (by kernel_rfl) (fun _ _ _ h => h) (Or.inl ⟨by rfl, ?_⟩) ?_ ?_
        rotate_left
        · intro w'
          go_simp
          with_reducible rfl
        rotate_left
        · simp only [Act.put, List.setIfInBounds_toArray, List.set_cons_zero, List.set_cons_succ, i64_w, i32_w]
          rfl
        refine pure_ (i := 6) (N := some 23) (v := ?_) (a' := ?_) #[true, true, true, true, true, true, true, false, false] rfl rfl (by kernel_rfl) (fun _ _ _ h => h) (Or.inl ⟨by rfl, ?_⟩) ?_ ?_
        rotate_left
        · intro w'
          go_simp
          with_reducible rfl
        rotate_left
        · simp only [Act.put, List.setIfInBounds_toArray, List.set_cons_zero, List.set_cons_succ, i64_w, i32_w]
          rfl
        refine take_ (i := 7) (N := some 24) (v := .agg (bys f)) (a' := ?_) #[true, true, true, true, true, true, true, true, false] rfl rfl (by kernel_rfl) (fun _ _ _ h => h) (Or.inl ⟨by rfl, ?_⟩) hHeld ?_ ?_
        · rintro w' kb_
          exact exec_sec (Kd.C_below hD kb_) hlt EF.out rfl rfl
        rotate_left
        · simp only [Act.put, List.setIfInBounds_toArray, List.set_cons_zero, List.set_cons_succ, i64_w, i32_w]
          rfl
        by_cases hdf : d = f
        · skip
          refine pure_ (i := 8) (N := some 25) (v := .bool false) (a' := ?_) #[true, true, true, true, true, true, true, true, true] rfl rfl (by kernel_rfl) (fun _ _ _ h => h) (Or.inl ⟨by rfl, ?_⟩) ?_ ?_
          · intro w'
            exact exec_ne23 rfl rfl rfl L1.out L2.out (by rw [decide_eq_true hdf]; rfl)
          rotate_left
          · simp only [Act.put, List.setIfInBounds_toArray, List.set_cons_zero, List.set_cons_succ, i64_w, i32_w]
            rfl
          refine done_ (by kernel_rfl) ?_
          go_wp2
          go_roundw
          case rel => exact ⟨k + 1, by omega, by go_num, Lib.hid (fun j hj => by
            rcases Nat.lt_succ_iff_lt_or_eq.1 hj with h | rfl
            · exact HE.out j h
            · rw [← ED.out, ← EF.out, hdf]), HB⟩
          case measure => simp [intOf] <;> omega
        · skip
          refine pure_ (i := 8) (N := some 25) (v := .bool true) (a' := ?_) #[true, true, true, true, true, true, true, true, true] rfl rfl (by kernel_rfl) (fun _ _ _ h => h) (Or.inl ⟨by rfl, ?_⟩) ?_ ?_
          · intro w'
            exact exec_ne23 rfl rfl rfl L1.out L2.out (by rw [decide_eq_false hdf]; rfl)
          rotate_left
          · simp only [Act.put, List.setIfInBounds_toArray, List.set_cons_zero, List.set_cons_succ, i64_w, i32_w]
            rfl
          refine done_ (by kernel_rfl) ?_
          go_wp2
          have hne : L ≠ M := fun e => hdf (by rw [ED.out, EF.out, e])
          exact bodyPost_ret (v := .bool false) (results_single rfl (.tmp .nil)) rfl ⟨by rw [decide_eq_false hne], HB.out⟩
      · obtain rfl : n = k := by omega
        have hd : decide ((n : Int) < (n : Int)) = false := by simp
        have he : L = M := list_eq HL.out (fun j hj => HE.out j (by rw [HL1.out] at hj; exact hj))
        go_wp2
        exact bodyPost_ret (v := .bool true) (results_single rfl (.tmp .nil)) rfl ⟨by rw [decide_eq_true he], HB.out⟩
  · have d1 : decide ((n : Int) = (m : Int)) = false := by simp; omega
    have hne : L ≠ M := fun e => hnm (by rw [← hl1, ← hl2, e])
    clear hl1 hl2
    go_enter Try.func18, Try.ntmps18
    go_wp2
    exact bodyPost_ret (v := .bool false) (results_single rfl (.tmp .nil)) rfl ⟨by rw [decide_eq_false hne], HB.out⟩
set_option maxHeartbeats 4000000 in
set_option maxRecDepth 100000 in
theorem same_calls (A B : Option Addr) (n m c c' : Nat) (L M : List (List Nat)) (w : World) (hC : Kd.C seK w A n L) (hD : Kd.C seK w B m M) : Calls Try.prog 21 #[.slice A n c, .slice B m c'] w fun e w' => e = .returned (.bool (decide (L = M))) ∧ Below w.heap.size w w' := by
  have hl1 := len_C hC
  have hl2 := len_C hD
  have hle := le_C hC
  have hle2 := le_C hD
  have HB := Aside0.mk (Below.refl w.heap.size w)
  by_cases hnm : n = m
  · subst hnm
    have d1 : decide ((n : Int) = (n : Int)) = true := by simp
    have hl := hl1.trans hl2.symm
    have HL1 := Lib.hid hl1
    have HL := Lib.hid hl
    clear hl1 hl2 hl
    go_enter Try.func21, Try.ntmps21
    go_wp2_with fail
    go_loopw [5] (fun i wr => ∃ k : Nat, k ≤ n ∧ i = .int .i64 k ∧ Hid (∀ j, j < k → L.getD j [] = M.getD j []) ∧ Aside0 (Below w.heap.size w wr)) (fun i _ => n - (intOf i).toNat)
    case atStart => exact ⟨0, by omega, rfl, Lib.hid (fun j hj => by omega), HB⟩
    case round =>
      clear HB
      obtain ⟨k, hk, rfl, HE, HB⟩ := hrel
      by_cases hlt : k < n
      · obtain ⟨ad, rfl⟩ := sec_head hC (show 0 < n by omega)
        obtain ⟨bd, rfl⟩ := sec_head hD (show 0 < n by omega)
        have hd : decide ((k : Int) < (n : Int)) = true := by simp; omega
        have h0 : (0 : Int) ≤ (k : Int) := by omega
        have h9 : (k : Int) < (n : Int) := by omega
        obtain ⟨d, ed_⟩ : ∃ d, d = L.getD k [] := ⟨_, rfl⟩
        obtain ⟨f, ef_⟩ : ∃ d, d = M.getD k [] := ⟨_, rfl⟩
        have l1 := sec_len hC hlt
        have l2 := sec_len hD hlt
        rw [← ed_] at l1
        rw [← ef_] at l2
        have L1 := Lib.hid l1
        have L2 := Lib.hid l2
        have ED := Lib.hid ed_
        have EF := Lib.hid ef_
        clear ed_ ef_ l1 l2
        go_wp2_with fail
        have NHB_ := Aside0.mk (below_drew1 HB.out)
        clear HB
        have HB := NHB_
        clear NHB_
        refine start_ (n := 9) (S := fun w' => (Below w.heap.size w w')) (ds := []) #[false, false, false, false, false, false, false, false, false] (by kernel_rfl) rfl rfl (HB.out) (fun hHeld => ?_)
        generalize wr.drew = V0 at  HB hHeld ⊢
        refine pure_ (i := 0) (N := some 17) (v := ?_) (a' := ?_) #[true, false, false, false, false, false, false, false, false] rfl rfl (by kernel_rfl) (fun _ _ _ h => h) (Or.inl ⟨by rfl, ?_⟩) ?_ ?_
        rotate_left
        · intro w'
          go_simp
          with_reducible rfl
        rotate_left
        · simp only [Act.put, List.setIfInBounds_toArray, List.set_cons_zero, List.set_cons_succ, i64_w, i32_w]
          rfl
        refine pure_ (i := 1) (N := some 18) (v := ?_) (a' := ?_) #[true, true, false, false, false, false, false, false, false] rfl rfl (by kernel_rfl) (fun _ _ _ h => h) (Or.inl ⟨by rfl, ?_⟩) ?_ ?_
        rotate_left
        · intro w'
          go_simp
          with_reducible rfl
        rotate_left
        · simp only [Act.put, List.setIfInBounds_toArray, List.set_cons_zero, List.set_cons_succ, i64_w, i32_w]
          rfl
        refine pure_ (i := 2) (N := some 19) (v := ?_) (a' := ?_) #[true, true, true, false, false, false, false, false, false] rfl rfl (by kernel_rfl) (fun _ _ _ h => h) (Or.inl ⟨by rfl, ?_⟩) ?_ ?_
        rotate_left
        · intro w'
          go_simp
          with_reducible rfl
        rotate_left
        · simp only [Act.put, List.setIfInBounds_toArray, List.set_cons_zero, List.set_cons_succ, i64_w, i32_w]
          rfl
        refine take_ (i := 3) (N := some 20) (v := .agg (bys d)) (a' := ?_) #[true, true, true, true, false, false, false, false, false] rfl rfl (by kernel_rfl) (fun _ _ _ h => h) (Or.inl ⟨by rfl, ?_⟩) hHeld ?_ ?_
        · rintro w' kb_
          exact exec_sec (Kd.C_below hC kb_) hlt ED.out rfl rfl
        rotate_left
        · simp only [Act.put, List.setIfInBounds_toArray, List.set_cons_zero, List.set_cons_succ, i64_w, i32_w]
          rfl
        refine pure_ (i := 4) (N := some 21) (v := ?_) (a' := ?_) #[true, true, true, true, true, false, false, false, false] rfl rfl (by kernel_rfl) (fun _ _ _ h => h) (Or.inl ⟨by rfl, ?_⟩) ?_ ?_
        rotate_left
        · intro w'
          go_simp
          with_reducible rfl
        rotate_left
        · simp only [Act.put, List.setIfInBounds_toArray, List.set_cons_zero, List.set_cons_succ, i64_w, i32_w]
          rfl
        refine pure_ (i := 5) (N := some 22) (v := ?_) (a' := ?_) #[true, true, true, true, true, true, false, false, false] rfl rfl (by kernel_rfl) (fun _ _ _ h => h) (Or.inl ⟨by rfl, ?_⟩) ?_ ?_
        rotate_left
        · intro w'
          go_simp
          with_reducible rfl
        rotate_left
        · simp only [Act.put, List.setIfInBounds_toArray, List.set_cons_zero, List.set_cons_succ, i64_w, i32_w]
          rfl
        refine pure_ (i := 6) (N := some 23) (v := ?_) (a' := ?_) #[true, true, true, true, true, true, true, false, false] rfl rfl (by kernel_rfl) (fun _ _ _ h => h) (Or.inl ⟨by rfl, ?_⟩) ?_ ?_
        rotate_left
        · intro w'
          go_simp
          with_reducible rfl
        rotate_left
        · simp only [Act.put, List.setIfInBounds_toArray, List.set_cons_zero, List.set_cons_succ, i64_w, i32_w]
          rfl
        refine take_ (i := 7) (N := some 24) (v := .agg (bys f)) (a' := ?_) #[true, true, true, true, true, true, true, true, false] rfl rfl (by kernel_rfl) (fun _ _ _ h => h) (Or.inl ⟨by rfl, ?_⟩) hHeld ?_ ?_
        · rintro w' kb_
          exact exec_sec (Kd.C_below hD kb_) hlt EF.out rfl rfl
        rotate_left
        · simp only [Act.put, List.setIfInBounds_toArray, List.set_cons_zero, List.set_cons_succ, i64_w, i32_w]
          rfl
        by_cases hdf : d = f
        · skip
          refine pure_ (i := 8) (N := some 25) (v := .bool false) (a' := ?_) #[true, true, true, true, true, true, true, true, true] rfl rfl (by kernel_rfl) (fun _ _ _ h => h) (Or.inl ⟨by rfl, ?_⟩) ?_ ?_
          · intro w'
            exact exec_ne23 rfl rfl rfl L1.out L2.out (by rw [decide_eq_true hdf]; rfl)
          rotate_left
          · simp only [Act.put, List.setIfInBounds_toArray, List.set_cons_zero, List.set_cons_succ, i64_w, i32_w]
            rfl
          refine done_ (by kernel_rfl) ?_
          go_wp2
          go_roundw
          case rel => exact ⟨k + 1, by omega, by go_num, Lib.hid (fun j hj => by
            rcases Nat.lt_succ_iff_lt_or_eq.1 hj with h | rfl
            · exact HE.out j h
            · rw [← ED.out, ← EF.out, hdf]), HB⟩
          case measure => simp [intOf] <;> omega
        · skip
          refine pure_ (i := 8) (N := some 25) (v := .bool true) (a' := ?_) #[true, true, true, true, true, true, true, true, true] rfl rfl (by kernel_rfl) (fun _ _ _ h => h) (Or.inl ⟨by rfl, ?_⟩) ?_ ?_
          · intro w'
            exact exec_ne23 rfl rfl rfl L1.out L2.out (by rw [decide_eq_false hdf]; rfl)
          rotate_left
          · simp only [Act.put, List.setIfInBounds_toArray, List.set_cons_zero, List.set_cons_succ, i64_w, i32_w]
            rfl
          refine done_ (by kernel_rfl) ?_
          go_wp2
          have hne : L ≠ M := fun e => hdf (by rw [ED.out, EF.out, e])
          exact bodyPost_ret (v := .bool false) (results_single rfl (.tmp .nil)) rfl ⟨by rw [decide_eq_false hne], HB.out⟩
      · obtain rfl : n = k := by omega
        have hd : decide ((n : Int) < (n : Int)) = false := by simp
        have he : L = M := list_eq HL.out (fun j hj => HE.out j (by rw [HL1.out] at hj; exact hj))
        go_wp2
        exact bodyPost_ret (v := .bool true) (results_single rfl (.tmp .nil)) rfl ⟨by rw [decide_eq_true he], HB.out⟩
  · have d1 : decide ((n : Int) = (m : Int)) = false := by simp; omega
    have hne : L ≠ M := fun e => hnm (by rw [← hl1, ← hl2, e])
    clear hl1 hl2
    go_enter Try.func21, Try.ntmps21
    go_wp2
    exact bodyPost_ret (v := .bool false) (results_single rfl (.tmp .nil)) rfl ⟨by rw [decide_eq_false hne], HB.out⟩

theorem C_take {w : World} {A : Option Addr} {n m : Nat} {L : List (List Nat)} (h : Kd.C seK w A n L) (hm : m ≤ n) : Kd.C seK w A m (L.take m) := by
  refine ⟨by rw [List.length_take, len_C h]; omega, by have := le_C h; omega, fun h0 => ?_⟩
  obtain ⟨ad, e, hc⟩ := h.2.2 (by omega)
  refine ⟨ad, e, fun j p hp => hc j p ?_⟩
  rw [List.getElem?_take] at hp
  split at hp
  · exact hp
  · cases hp
theorem secs_take {L : List (List Nat)} (h : Secs L) (m : Nat) : Secs (L.take m) := fun l hl => h l (List.mem_of_mem_take hl)
theorem getD_take {L : List (List Nat)} {k m : Nat} (h : k < m) : (L.take m).getD k [] = L.getD k [] := by
  rw [List.getD_eq_getElem?_getD, List.getD_eq_getElem?_getD, List.getElem?_take_of_lt h]
theorem psum_take {L : List (List Nat)} {m : Nat} : ∀ k, k ≤ m → psum (L.take m) k = psum L k
  | 0, _ => rfl
  | k + 1, h => by rw [psum, psum, psum_take k (by omega), getD_take (by omega)]
theorem qsum_take {L : List (List Nat)} {m : Nat} : ∀ k, k ≤ m → qsum (L.take m) k = qsum L k
  | 0, _ => rfl
  | k + 1, h => by rw [qsum, qsum, qsum_take k (by omega), getD_take (by omega)]
/-- Is it a right row? -/
def rightB (L : List (List Nat)) : Bool :=
  if L.length < 3 then false else if 64 < L.length then false else
    decide (psum L (L.length - 2) = L.getD (L.length - 2) []) && decide (qsum L (L.length - 2) = L.getD (L.length - 1) [])
set_option maxHeartbeats 4000000 in
set_option maxRecDepth 100000 in
theorem right_calls (A : Option Addr) (N c : Nat) (L : List (List Nat)) (w : World) (hC : Kd.C seK w A N L) (hS : Secs L) (hc : N ≤ c) (hcm : c ≤ 9223372036854775807) : Calls Try.prog 16 #[.slice A N c] w fun e w' => e = .returned (.bool (rightB L)) ∧ Below w.heap.size w w' := by
  have hLn := len_C hC
  have hle := le_C hC
  by_cases h0 : N < 3
  · have e1 : rightB L = false := by simp [rightB, hLn, h0]
    have hw : wrap64 ((N : Int) - 2) = (N : Int) - 2 := by unfold wrap64; omega
    have d1 : decide ((N : Int) - 2 < 1) = true := by simp; omega
    have HB := Aside0.mk (Below.refl w.heap.size w)
    go_enter Try.func16, Try.ntmps16
    go_wp2
    exact bodyPost_ret (v := .bool false) (results_single rfl (.tmp .nil)) rfl ⟨by first | rw [e1] | with_reducible rfl, HB.out⟩
  by_cases h1 : 64 < N
  · have e1 : rightB L = false := by simp [rightB, hLn, h0, h1]
    have hw : wrap64 ((N : Int) - 2) = (N : Int) - 2 := by unfold wrap64; omega
    have d1 : decide ((N : Int) - 2 < 1) = false := by simp; omega
    have d2 : decide ((62 : Int) < (N : Int) - 2) = true := by simp; omega
    have HB := Aside0.mk (Below.refl w.heap.size w)
    go_enter Try.func16, Try.ntmps16
    go_wp2
    exact bodyPost_ret (v := .bool false) (results_single rfl (.tmp .nil)) rfl ⟨by first | rw [e1] | with_reducible rfl, HB.out⟩
  · skip
    obtain ⟨n, rfl⟩ : ∃ n, N = n + 2 := ⟨N - 2, by omega⟩
    obtain ⟨ad, rfl⟩ := sec_head hC (by omega)
    have hw : wrap64 (((n + 2 : Nat) : Int) - 2) = (n : Int) := by unfold wrap64; omega
    have hw1 : wrap64 ((n : Int) + 1) = ((n + 1 : Nat) : Int) := by unfold wrap64; omega
    have d1 : decide ((n : Int) < 1) = false := by simp; omega
    have d2 : decide ((62 : Int) < n) = false := by simp; omega
    have hn0 : (0 : Int) ≤ (n : Int) := by omega
    have hnc : (n : Int) ≤ (c : Int) := by omega
    have hn2 : (n : Int) < ((n + 2 : Nat) : Int) := by omega
    have hn3 : ((n + 1 : Nat) : Int) < ((n + 2 : Nat) : Int) := by omega
    have hn4 : (0 : Int) ≤ ((n + 1 : Nat) : Int) := by omega
    have hn5 : (n : Int) < (n : Int) + 2 := by omega
    have hn6 : (n : Int) + 1 < (n : Int) + 2 := by omega
    have hn7 : (0 : Int) ≤ (n : Int) + 1 := by omega
    have hn8 : ((n : Int) + 1).toNat = n + 1 := by omega
    have hps := psum_sec hS n (by have := len_C hC; omega)
    have hqs := qsum_sec hS n (by have := len_C hC; omega)
    have HP := Lib.hid hps.len
    have HQ := Lib.hid hqs.len
    clear hps hqs
    have HB := Aside0.mk (Below.refl w.heap.size w)
    go_enter Try.func16, Try.ntmps16
    go_wp2_with (first | (go_at_call 30; go_must (with_reducible refine (plain_calls _ _ _ (L.take n) _ (C_take (Kd.C_below hC (by repeat (first | (with_reducible first | exact HB.out | apply below_alloc | apply pw_below_drewN | apply below_drew1) | exact HB.out))) (Nat.le_add_right n 2)) (secs_take hS n)).mono ?_); rintro e U1 ⟨rfl, hb⟩; rw [psum_take n (Nat.le_refl n), qsum_take n (Nat.le_refl n)]; have NHB_ := Aside0.mk (below_step (by repeat (first | (with_reducible first | exact HB.out | apply below_alloc | apply pw_below_drewN | apply below_drew1) | exact HB.out)) hb); clear HB; have HB := NHB_; clear NHB_; clear hb) | ((with_reducible refine gate_store (t := 23) (p := 4) rfl ?_); go_must (rw [zlit]; obtain ⟨q0_, q1_, nb_⟩ := Wk.blks2 U1 (Obj.cells (bys zeros) 23 (0, 0)) (Obj.cells (bys zeros) 23 (0, 0)); obtain ⟨U2, hW_⟩ : ∃ W, W = ((U1.alloc (Obj.cells (bys zeros) 23 (0, 0))).alloc (Obj.cells (bys zeros) 23 (0, 0))) := ⟨_, rfl⟩; rw [← hW_]; rw [← hW_] at q0_; rw [← hW_] at q1_; rw [← hW_] at nb_; have sz_ := below_size HB.out; have hb2_ := Aside0.mk (below_step HB.out nb_); obtain ⟨g4, hgg4_⟩ : ∃ g, g = U1.heap.size := ⟨_, rfl⟩; obtain ⟨g5, hgg5_⟩ : ∃ g, g = U1.heap.size + 1 := ⟨_, rfl⟩; rw [← hgg5_]; rw [← hgg5_] at q1_; rw [← hgg4_]; rw [← hgg4_] at q0_; have hge_ : w.heap.size ≤ g4 := (by omega); have GEg4 := Aside0.mk hge_; clear hge_; have hge_ : w.heap.size ≤ g5 := (by omega); have GEg5 := Aside0.mk hge_; clear hge_; have Dg4g5 : g4 ≠ g5 := (by omega); have Dg5g4 : g5 ≠ g4 := (by omega); have BKg4 := Aside0.mk q0_; have BKg5 := Aside0.mk q1_; clear HB; have HB := hb2_; clear hb2_ sz_ hW_ nb_ hgg4_ hgg5_ q0_ q1_); ((with_reducible refine gate_store (t := 23) (p := 4) rfl ?_); go_must (refine store_event rfl rfl rfl (exec_put (cs' := bys (psum L n)) T23.hi rfl rfl rfl (by show (bys (psum L n)).size = 64; rw [bys_size]; exact HP.out) one_agg (by (with_reducible repeat (first | refine blk_drewN ?_ _ | refine blk_drew ?_ | refine blk_alloc ?_ _)); exact BKg4.out) (by rw [bys_size, zeros_length]; omega) (putc_all ((bys_size _).trans ((zeros_length).trans ((HP.out).symm.trans (bys_size _).symm))))) ?_); intro U3 hW_; have NBKg4_ := Aside0.mk ((by rw [hW_]; exact setRow_blk (by (with_reducible repeat (first | refine blk_drewN ?_ _ | refine blk_drew ?_ | refine blk_alloc ?_ _)); exact BKg4.out) : U3.heap[g4]? = some (Obj.cells (bys (psum L n)) 23 (0, 0)))); have NBKg5_ := Aside0.mk ((by rw [hW_]; exact setRow_far (by (with_reducible repeat (first | refine blk_drewN ?_ _ | refine blk_drew ?_ | refine blk_alloc ?_ _)); exact BKg5.out) Dg5g4 : U3.heap[g5]? = some (Obj.cells (bys zeros) 23 (0, 0)))); have NHB_ := Aside0.mk ((by rw [hW_]; exact setRow_below (by repeat (first | (with_reducible first | exact HB.out | apply below_alloc | apply pw_below_drewN | apply below_drew1) | exact HB.out)) GEg4.out : Below w.heap.size w U3)); clear BKg4 BKg5 HB; have BKg4 := NBKg4_; have BKg5 := NBKg5_; have HB := NHB_; clear NBKg4_ NBKg5_ NHB_; clear hW_)) | ((with_reducible refine gate_store (t := 23) (p := 5) rfl ?_); go_must (refine store_event rfl rfl rfl (exec_put (cs' := bys (qsum L n)) T23.hi rfl rfl rfl (by show (bys (qsum L n)).size = 64; rw [bys_size]; exact HQ.out) one_agg (by (with_reducible repeat (first | refine blk_drewN ?_ _ | refine blk_drew ?_ | refine blk_alloc ?_ _)); exact BKg5.out) (by rw [bys_size, zeros_length]; omega) (putc_all ((bys_size _).trans ((zeros_length).trans ((HQ.out).symm.trans (bys_size _).symm))))) ?_); intro U4 hW_; have NBKg4_ := Aside0.mk ((by rw [hW_]; exact setRow_far (by (with_reducible repeat (first | refine blk_drewN ?_ _ | refine blk_drew ?_ | refine blk_alloc ?_ _)); exact BKg4.out) Dg4g5 : U4.heap[g4]? = some (Obj.cells (bys (psum L n)) 23 (0, 0)))); have NBKg5_ := Aside0.mk ((by rw [hW_]; exact setRow_blk (by (with_reducible repeat (first | refine blk_drewN ?_ _ | refine blk_drew ?_ | refine blk_alloc ?_ _)); exact BKg5.out) : U4.heap[g5]? = some (Obj.cells (bys (qsum L n)) 23 (0, 0)))); have NHB_ := Aside0.mk ((by rw [hW_]; exact setRow_below (by repeat (first | (with_reducible first | exact HB.out | apply below_alloc | apply pw_below_drewN | apply below_drew1) | exact HB.out)) GEg5.out : Below w.heap.size w U4)); clear BKg4 BKg5 HB; have BKg4 := NBKg4_; have BKg5 := NBKg5_; have HB := NHB_; clear NBKg4_ NBKg5_ NHB_; clear hW_))
    obtain ⟨d, ed_⟩ : ∃ d, d = L.getD n [] := ⟨_, rfl⟩
    obtain ⟨f, ef_⟩ : ∃ d, d = L.getD (n + 1) [] := ⟨_, rfl⟩
    obtain ⟨l1, l2⟩ : d.length = 64 ∧ f.length = 64 := by
      rw [ed_, ef_]
      refine ⟨?_, ?_⟩
      · obtain ⟨_, _, h, _⟩ := at_sec hC (i := n) (by omega); exact h
      · obtain ⟨_, _, h, _⟩ := at_sec hC (i := n + 1) (by omega); exact h
    have L1 := Lib.hid l1
    have L2 := Lib.hid l2
    have ED := Lib.hid ed_
    have EF := Lib.hid ef_
    have e1 : rightB L = (decide (psum L n = d) && decide (qsum L n = f)) := by
      unfold rightB
      rw [if_neg (by omega), if_neg (by omega), hLn, ed_, ef_]
      rfl
    have E1 := Lib.hid e1
    clear ed_ ef_ l1 l2 e1
    have NBKg4_ := Aside0.mk (blk_drew BKg4.out)
    have NBKg5_ := Aside0.mk (blk_drew BKg5.out)
    have NHB_ := Aside0.mk (below_drew1 HB.out)
    clear BKg4 BKg5 HB
    have BKg4 := NBKg4_
    have BKg5 := NBKg5_
    have HB := NHB_
    clear NBKg4_ NBKg5_ NHB_
    refine start_ (n := 16) (S := fun w' => (w'.heap[g4]? = some (Obj.cells (bys (psum L n)) 23 (0, 0))) ∧ (w'.heap[g5]? = some (Obj.cells (bys (qsum L n)) 23 (0, 0))) ∧ (Below w.heap.size w w')) (ds := []) #[false, false, false, false, false, false, false, false, false, false, false, false, false, false, false, false] (by kernel_rfl) rfl rfl (⟨BKg4.out, BKg5.out, HB.out⟩) (fun hHeld => ?_)
    generalize U4.drew = V0 at BKg4 BKg5 HB hHeld ⊢
    refine take_ (i := 0) (N := some 22) (v := .agg (bys (psum L n))) (a' := ?_) #[true, false, false, false, false, false, false, false, false, false, false, false, false, false, false, false] rfl rfl (by kernel_rfl) (fun _ _ _ h => h) (Or.inl ⟨by rfl, ?_⟩) hHeld ?_ ?_
    · rintro w' ⟨k_g4, k_g5, kb_⟩
      exact exec_row_all agg23 (by rw [bys_size, HP.out]; exact T23.hi) rfl rfl k_g4
    rotate_left
    · simp only [Act.put, List.setIfInBounds_toArray, List.set_cons_zero, List.set_cons_succ, i64_w, i32_w]
      rfl
    refine pure_ (i := 1) (N := some 23) (v := ?_) (a' := ?_) #[true, true, false, false, false, false, false, false, false, false, false, false, false, false, false, false] rfl rfl (by kernel_rfl) (fun _ _ _ h => h) (Or.inl ⟨by rfl, ?_⟩) ?_ ?_
    rotate_left
    · intro w'
      go_simp
      with_reducible rfl
    rotate_left
    · simp only [Act.put, List.setIfInBounds_toArray, List.set_cons_zero, List.set_cons_succ, i64_w, i32_w]
      rfl
    refine pure_ (i := 2) (N := some 24) (v := ?_) (a' := ?_) #[true, true, true, false, false, false, false, false, false, false, false, false, false, false, false, false] rfl rfl (by kernel_rfl) (fun _ _ _ h => h) (Or.inl ⟨by rfl, ?_⟩) ?_ ?_
    rotate_left
    · intro w'
      go_simp
      with_reducible rfl
    rotate_left
    · simp only [Act.put, List.setIfInBounds_toArray, List.set_cons_zero, List.set_cons_succ, i64_w, i32_w]
      rfl
    refine pure_ (i := 3) (N := some 25) (v := ?_) (a' := ?_) #[true, true, true, true, false, false, false, false, false, false, false, false, false, false, false, false] rfl rfl (by kernel_rfl) (fun _ _ _ h => h) (Or.inl ⟨by rfl, ?_⟩) ?_ ?_
    rotate_left
    · intro w'
      go_simp
      with_reducible rfl
    rotate_left
    · simp only [Act.put, List.setIfInBounds_toArray, List.set_cons_zero, List.set_cons_succ, i64_w, i32_w]
      rfl
    refine take_ (i := 4) (N := some 26) (v := .agg (bys d)) (a' := ?_) #[true, true, true, true, true, false, false, false, false, false, false, false, false, false, false, false] rfl rfl (by kernel_rfl) (fun _ _ _ h => h) (Or.inl ⟨by rfl, ?_⟩) hHeld ?_ ?_
    · rintro w' ⟨k_g4, k_g5, kb_⟩
      exact exec_sec (Kd.C_below hC kb_) (show n < n + 2 by omega) ED.out rfl rfl
    rotate_left
    · simp only [Act.put, List.setIfInBounds_toArray, List.set_cons_zero, List.set_cons_succ, i64_w, i32_w]
      rfl
    by_cases hpd : psum L n = d
    · skip
      refine pure_ (i := 5) (N := some 27) (v := .bool true) (a' := ?_) #[true, true, true, true, true, true, false, false, false, false, false, false, false, false, false, false] rfl rfl (by kernel_rfl) (fun _ _ _ h => h) (Or.inl ⟨by rfl, ?_⟩) ?_ ?_
      · intro w'
        exact exec_eq23 rfl rfl rfl HP.out L1.out (decide_eq_true hpd)
      rotate_left
      · simp only [Act.put, List.setIfInBounds_toArray, List.set_cons_zero, List.set_cons_succ, i64_w, i32_w]
        rfl
      refine pure_ (i := 6) (N := some 28) (v := ?_) (a' := ?_) #[true, true, true, true, true, true, true, false, false, false, false, false, false, false, false, false] rfl rfl (by kernel_rfl) (fun _ _ _ h => h) (Or.inl ⟨by rfl, ?_⟩) ?_ ?_
      rotate_left
      · intro w'
        go_simp
        with_reducible rfl
      rotate_left
      · simp only [Act.put, List.setIfInBounds_toArray, List.set_cons_zero, List.set_cons_succ, i64_w, i32_w]
        rfl
      refine take_ (i := 7) (N := some 29) (v := .agg (bys (qsum L n))) (a' := ?_) #[true, true, true, true, true, true, true, true, false, false, false, false, false, false, false, false] rfl rfl (by kernel_rfl) (fun _ _ _ h => h) (Or.inl ⟨by rfl, ?_⟩) hHeld ?_ ?_
      · rintro w' ⟨k_g4, k_g5, kb_⟩
        exact exec_row_all agg23 (by rw [bys_size, HQ.out]; exact T23.hi) rfl rfl k_g5
      rotate_left
      · simp only [Act.put, List.setIfInBounds_toArray, List.set_cons_zero, List.set_cons_succ, i64_w, i32_w]
        rfl
      refine pure_ (i := 8) (N := some 30) (v := ?_) (a' := ?_) #[true, true, true, true, true, true, true, true, true, false, false, false, false, false, false, false] rfl rfl (by kernel_rfl) (fun _ _ _ h => h) (Or.inl ⟨by rfl, ?_⟩) ?_ ?_
      rotate_left
      · intro w'
        go_simp
        with_reducible rfl
      rotate_left
      · simp only [Act.put, List.setIfInBounds_toArray, List.set_cons_zero, List.set_cons_succ, i64_w, i32_w]
        rfl
      refine pure_ (i := 9) (N := some 31) (v := ?_) (a' := ?_) #[true, true, true, true, true, true, true, true, true, true, false, false, false, false, false, false] rfl rfl (by kernel_rfl) (fun _ _ _ h => h) (Or.inl ⟨by rfl, ?_⟩) ?_ ?_
      rotate_left
      · intro w'
        go_simp
        with_reducible rfl
      rotate_left
      · simp only [Act.put, List.setIfInBounds_toArray, List.set_cons_zero, List.set_cons_succ, i64_w, i32_w]
        rfl
      refine pure_ (i := 10) (N := some 32) (v := ?_) (a' := ?_) #[true, true, true, true, true, true, true, true, true, true, true, false, false, false, false, false] rfl rfl (by kernel_rfl) (fun _ _ _ h => h) (Or.inl ⟨by rfl, ?_⟩) ?_ ?_
      rotate_left
      · intro w'
        go_simp
        with_reducible rfl
      rotate_left
      · simp only [Act.put, List.setIfInBounds_toArray, List.set_cons_zero, List.set_cons_succ, i64_w, i32_w]
        rfl
      refine pure_ (i := 11) (N := some 33) (v := ?_) (a' := ?_) #[true, true, true, true, true, true, true, true, true, true, true, true, false, false, false, false] rfl rfl (by kernel_rfl) (fun _ _ _ h => h) (Or.inl ⟨by rfl, ?_⟩) ?_ ?_
      rotate_left
      · intro w'
        go_simp
        with_reducible rfl
      rotate_left
      · simp only [Act.put, List.setIfInBounds_toArray, List.set_cons_zero, List.set_cons_succ, i64_w, i32_w]
        rfl
      refine take_ (i := 12) (N := some 34) (v := .agg (bys f)) (a' := ?_) #[true, true, true, true, true, true, true, true, true, true, true, true, true, false, false, false] rfl rfl (by kernel_rfl) (fun _ _ _ h => h) (Or.inl ⟨by rfl, ?_⟩) hHeld ?_ ?_
      · rintro w' ⟨k_g4, k_g5, kb_⟩
        exact exec_sec (Kd.C_below hC kb_) (show n + 1 < n + 2 by omega) EF.out rfl rfl
      rotate_left
      · simp only [Act.put, List.setIfInBounds_toArray, List.set_cons_zero, List.set_cons_succ, i64_w, i32_w]
        rfl
      by_cases hqf : qsum L n = f
      · skip
        refine pure_ (i := 13) (N := some 35) (v := .bool true) (a' := ?_) #[true, true, true, true, true, true, true, true, true, true, true, true, true, true, false, false] rfl rfl (by kernel_rfl) (fun _ _ _ h => h) (Or.inl ⟨by rfl, ?_⟩) ?_ ?_
        · intro w'
          exact exec_eq23 rfl rfl rfl HQ.out L2.out (decide_eq_true hqf)
        rotate_left
        · simp only [Act.put, List.setIfInBounds_toArray, List.set_cons_zero, List.set_cons_succ, i64_w, i32_w]
          rfl
        refine pure_ (i := 14) (N := some 36) (v := ?_) (a' := ?_) #[true, true, true, true, true, true, true, true, true, true, true, true, true, true, true, false] rfl rfl (by kernel_rfl) (fun _ _ _ h => h) (Or.inl ⟨by rfl, ?_⟩) ?_ ?_
        rotate_left
        · intro w'
          go_simp
          with_reducible rfl
        rotate_left
        · simp only [Act.put, List.setIfInBounds_toArray, List.set_cons_zero, List.set_cons_succ, i64_w, i32_w]
          rfl
        refine pure_ (i := 15) (N := some 2) (v := ?_) (a' := ?_) #[true, true, true, true, true, true, true, true, true, true, true, true, true, true, true, true] rfl rfl (by kernel_rfl) (fun _ _ _ h => h) (Or.inl ⟨by rfl, ?_⟩) ?_ ?_
        rotate_left
        · intro w'
          go_simp
          with_reducible rfl
        rotate_left
        · simp only [Act.put, List.setIfInBounds_toArray, List.set_cons_zero, List.set_cons_succ, i64_w, i32_w]
          rfl
        refine done_ (by kernel_rfl) ?_
        go_wp2
        exact bodyPost_ret (v := .bool true) (results_single rfl (.tmp .nil)) rfl ⟨by rw [E1.out, decide_eq_true hpd, decide_eq_true hqf]; rfl, HB.out⟩
      · skip
        refine pure_ (i := 13) (N := some 35) (v := .bool false) (a' := ?_) #[true, true, true, true, true, true, true, true, true, true, true, true, true, true, false, false] rfl rfl (by kernel_rfl) (fun _ _ _ h => h) (Or.inl ⟨by rfl, ?_⟩) ?_ ?_
        · intro w'
          exact exec_eq23 rfl rfl rfl HQ.out L2.out (decide_eq_false hqf)
        rotate_left
        · simp only [Act.put, List.setIfInBounds_toArray, List.set_cons_zero, List.set_cons_succ, i64_w, i32_w]
          rfl
        refine pure_ (i := 14) (N := some 36) (v := ?_) (a' := ?_) #[true, true, true, true, true, true, true, true, true, true, true, true, true, true, true, false] rfl rfl (by kernel_rfl) (fun _ _ _ h => h) (Or.inl ⟨by rfl, ?_⟩) ?_ ?_
        rotate_left
        · intro w'
          go_simp
          with_reducible rfl
        rotate_left
        · simp only [Act.put, List.setIfInBounds_toArray, List.set_cons_zero, List.set_cons_succ, i64_w, i32_w]
          rfl
        refine pure_ (i := 15) (N := some 2) (v := ?_) (a' := ?_) #[true, true, true, true, true, true, true, true, true, true, true, true, true, true, true, true] rfl rfl (by kernel_rfl) (fun _ _ _ h => h) (Or.inl ⟨by rfl, ?_⟩) ?_ ?_
        rotate_left
        · intro w'
          go_simp
          with_reducible rfl
        rotate_left
        · simp only [Act.put, List.setIfInBounds_toArray, List.set_cons_zero, List.set_cons_succ, i64_w, i32_w]
          rfl
        refine done_ (by kernel_rfl) ?_
        go_wp2
        exact bodyPost_ret (v := .bool false) (results_single rfl (.tmp .nil)) rfl ⟨by rw [E1.out, decide_eq_true hpd, decide_eq_false hqf]; rfl, HB.out⟩
    · skip
      refine pure_ (i := 5) (N := some 27) (v := .bool false) (a' := ?_) #[true, true, true, true, true, true, false, false, false, false, false, false, false, false, false, false] rfl rfl (by kernel_rfl) (fun _ _ _ h => h) (Or.inl ⟨by rfl, ?_⟩) ?_ ?_
      · intro w'
        exact exec_eq23 rfl rfl rfl HP.out L1.out (decide_eq_false hpd)
      rotate_left
      · simp only [Act.put, List.setIfInBounds_toArray, List.set_cons_zero, List.set_cons_succ, i64_w, i32_w]
        rfl
      refine pure_ (i := 6) (N := some 28) (v := ?_) (a' := ?_) #[true, true, true, true, true, true, true, false, false, false, false, false, false, false, false, false] rfl rfl (by kernel_rfl) (fun _ _ _ h => h) (Or.inl ⟨by rfl, ?_⟩) ?_ ?_
      rotate_left
      · intro w'
        go_simp
        with_reducible rfl
      rotate_left
      · simp only [Act.put, List.setIfInBounds_toArray, List.set_cons_zero, List.set_cons_succ, i64_w, i32_w]
        rfl
      refine pure_ (i := 7) (N := some 29) (v := undef) (a' := ?_) #[true, true, true, true, true, true, true, true, false, false, false, false, false, false, false, false] rfl rfl (by kernel_rfl) (fun _ _ _ h => h) (Or.inr ⟨by rfl, rfl⟩) ?_ ?_
      rotate_left
      · simp only [Act.put, List.setIfInBounds_toArray, List.set_cons_zero, List.set_cons_succ, i64_w, i32_w]
        rfl
      refine pure_ (i := 8) (N := some 30) (v := undef) (a' := ?_) #[true, true, true, true, true, true, true, true, true, false, false, false, false, false, false, false] rfl rfl (by kernel_rfl) (fun _ _ _ h => h) (Or.inr ⟨by rfl, rfl⟩) ?_ ?_
      rotate_left
      · simp only [Act.put, List.setIfInBounds_toArray, List.set_cons_zero, List.set_cons_succ, i64_w, i32_w]
        rfl
      refine pure_ (i := 9) (N := some 31) (v := undef) (a' := ?_) #[true, true, true, true, true, true, true, true, true, true, false, false, false, false, false, false] rfl rfl (by kernel_rfl) (fun _ _ _ h => h) (Or.inr ⟨by rfl, rfl⟩) ?_ ?_
      rotate_left
      · simp only [Act.put, List.setIfInBounds_toArray, List.set_cons_zero, List.set_cons_succ, i64_w, i32_w]
        rfl
      refine pure_ (i := 10) (N := some 32) (v := undef) (a' := ?_) #[true, true, true, true, true, true, true, true, true, true, true, false, false, false, false, false] rfl rfl (by kernel_rfl) (fun _ _ _ h => h) (Or.inr ⟨by rfl, rfl⟩) ?_ ?_
      rotate_left
      · simp only [Act.put, List.setIfInBounds_toArray, List.set_cons_zero, List.set_cons_succ, i64_w, i32_w]
        rfl
      refine pure_ (i := 11) (N := some 33) (v := undef) (a' := ?_) #[true, true, true, true, true, true, true, true, true, true, true, true, false, false, false, false] rfl rfl (by kernel_rfl) (fun _ _ _ h => h) (Or.inr ⟨by rfl, rfl⟩) ?_ ?_
      rotate_left
      · simp only [Act.put, List.setIfInBounds_toArray, List.set_cons_zero, List.set_cons_succ, i64_w, i32_w]
        rfl
      refine pure_ (i := 12) (N := some 34) (v := undef) (a' := ?_) #[true, true, true, true, true, true, true, true, true, true, true, true, true, false, false, false] rfl rfl (by kernel_rfl) (fun _ _ _ h => h) (Or.inr ⟨by rfl, rfl⟩) ?_ ?_
      rotate_left
      · simp only [Act.put, List.setIfInBounds_toArray, List.set_cons_zero, List.set_cons_succ, i64_w, i32_w]
        rfl
      refine pure_ (i := 13) (N := some 35) (v := undef) (a' := ?_) #[true, true, true, true, true, true, true, true, true, true, true, true, true, true, false, false] rfl rfl (by kernel_rfl) (fun _ _ _ h => h) (Or.inr ⟨by rfl, rfl⟩) ?_ ?_
      rotate_left
      · simp only [Act.put, List.setIfInBounds_toArray, List.set_cons_zero, List.set_cons_succ, i64_w, i32_w]
        rfl
      refine pure_ (i := 14) (N := some 36) (v := ?_) (a' := ?_) #[true, true, true, true, true, true, true, true, true, true, true, true, true, true, true, false] rfl rfl (by kernel_rfl) (fun _ _ _ h => h) (Or.inl ⟨by rfl, ?_⟩) ?_ ?_
      rotate_left
      · intro w'
        go_simp
        with_reducible rfl
      rotate_left
      · simp only [Act.put, List.setIfInBounds_toArray, List.set_cons_zero, List.set_cons_succ, i64_w, i32_w]
        rfl
      refine pure_ (i := 15) (N := some 2) (v := ?_) (a' := ?_) #[true, true, true, true, true, true, true, true, true, true, true, true, true, true, true, true] rfl rfl (by kernel_rfl) (fun _ _ _ h => h) (Or.inl ⟨by rfl, ?_⟩) ?_ ?_
      rotate_left
      · intro w'
        go_simp
        with_reducible rfl
      rotate_left
      · simp only [Act.put, List.setIfInBounds_toArray, List.set_cons_zero, List.set_cons_succ, i64_w, i32_w]
        rfl
      refine done_ (by kernel_rfl) ?_
      go_wp2
      exact bodyPost_ret (v := .bool false) (results_single rfl (.tmp .nil)) rfl ⟨by rw [E1.out, decide_eq_false hpd]; rfl, HB.out⟩

theorem byte_eq {a b : List Nat} (ha : a.length = 64) (hb : b.length = 64) (h : ∀ j, j < 64 → a.getD j 0 = b.getD j 0) : a = b := by
  apply List.ext_getElem (by omega)
  intro j h1 h2
  have := h j (by omega)
  rwa [List.getD_eq_getElem?_getD, List.getD_eq_getElem?_getD, List.getElem?_eq_getElem h1, List.getElem?_eq_getElem h2] at this
set_option maxHeartbeats 4000000 in
set_option maxRecDepth 100000 in
theorem refright_calls (A : Option Addr) (N c : Nat) (L : List (List Nat)) (w : World) (hC : Kd.C seK w A N L) (hS : Secs L) (hc : N ≤ c) (hcm : c ≤ 9223372036854775807) : Calls Try.prog 17 #[.slice A N c] w fun e w' => e = .returned (.bool (rightB L)) ∧ Below w.heap.size w w' := by
  have hLn := len_C hC
  have hle := le_C hC
  by_cases h0 : N < 3
  · have e1 : rightB L = false := by simp [rightB, hLn, h0]
    have hw : wrap64 ((N : Int) - 2) = (N : Int) - 2 := by unfold wrap64; omega
    have d1 : decide ((N : Int) - 2 < 1) = true := by simp; omega
    have HB := Aside0.mk (Below.refl w.heap.size w)
    go_enter Try.func17, Try.ntmps17
    go_wp2
    exact bodyPost_ret (v := .bool false) (results_single rfl (.tmp .nil)) rfl ⟨by first | rw [e1] | with_reducible rfl, HB.out⟩
  by_cases h1 : 64 < N
  · have e1 : rightB L = false := by simp [rightB, hLn, h0, h1]
    have hw : wrap64 ((N : Int) - 2) = (N : Int) - 2 := by unfold wrap64; omega
    have d1 : decide ((N : Int) - 2 < 1) = false := by simp; omega
    have d2 : decide ((62 : Int) < (N : Int) - 2) = true := by simp; omega
    have HB := Aside0.mk (Below.refl w.heap.size w)
    go_enter Try.func17, Try.ntmps17
    go_wp2
    exact bodyPost_ret (v := .bool false) (results_single rfl (.tmp .nil)) rfl ⟨by first | rw [e1] | with_reducible rfl, HB.out⟩
  · skip
    obtain ⟨n, rfl⟩ : ∃ n, N = n + 2 := ⟨N - 2, by omega⟩
    obtain ⟨ad, rfl⟩ := sec_head hC (by omega)
    have hw : wrap64 (((n + 2 : Nat) : Int) - 2) = (n : Int) := by unfold wrap64; omega
    have hw1 : wrap64 ((n : Int) + 1) = ((n + 1 : Nat) : Int) := by unfold wrap64; omega
    have d1 : decide ((n : Int) < 1) = false := by simp; omega
    have d2 : decide ((62 : Int) < n) = false := by simp; omega
    have hn0 : (0 : Int) ≤ (n : Int) := by omega
    have hnc : (n : Int) ≤ (c : Int) := by omega
    have hn5 : (n : Int) < (n : Int) + 2 := by omega
    have hn6 : (n : Int) + 1 < (n : Int) + 2 := by omega
    have hn7 : (0 : Int) ≤ (n : Int) + 1 := by omega
    have hn8 : ((n : Int) + 1).toNat = n + 1 := by omega
    have HB := Aside0.mk (Below.refl w.heap.size w)
    obtain ⟨d, ed_⟩ : ∃ d, d = L.getD n [] := ⟨_, rfl⟩
    obtain ⟨f, ef_⟩ : ∃ d, d = L.getD (n + 1) [] := ⟨_, rfl⟩
    obtain ⟨l1, l2⟩ : d.length = 64 ∧ f.length = 64 := by
      rw [ed_, ef_]
      refine ⟨?_, ?_⟩
      · obtain ⟨_, _, h, _⟩ := at_sec hC (i := n) (by omega); exact h
      · obtain ⟨_, _, h, _⟩ := at_sec hC (i := n + 1) (by omega); exact h
    have hps := psum_sec hS n (by have := len_C hC; omega)
    have hqs := qsum_sec hS n (by have := len_C hC; omega)
    have HP := Lib.hid hps.len
    have HQ := Lib.hid hqs.len
    clear hps hqs
    have L1 := Lib.hid l1
    have L2 := Lib.hid l2
    have ED := Lib.hid ed_
    have EF := Lib.hid ef_
    have e1 : rightB L = (decide (psum L n = d) && decide (qsum L n = f)) := by
      unfold rightB
      rw [if_neg (by omega), if_neg (by omega), hLn, ed_, ef_]
      rfl
    have E1 := Lib.hid e1
    clear ed_ ef_ l1 l2 e1
    go_enter Try.func17, Try.ntmps17
    go_wp2_with fail
    go_loopw [4] (fun i wr => ∃ k : Nat, k ≤ 64 ∧ i = .int .i64 k ∧ Hid (∀ j, j < k → d.getD j 0 = (psum L n).getD j 0 ∧ f.getD j 0 = (qsum L n).getD j 0) ∧ Aside0 (Below w.heap.size w wr)) (fun i _ => 64 - (intOf i).toNat)
    case atStart => exact ⟨0, by omega, rfl, Lib.hid (fun j hj => by omega), HB⟩
    case round =>
      clear HB
      obtain ⟨k, hk, rfl, HE, HB⟩ := hrel
      by_cases hlt : k < 64
      · skip
        have hd : decide ((k : Int) < 64) = true := by simp; omega
        have h0 : (0 : Int) ≤ (k : Int) := by omega
        have h9 : (k : Int) < 64 := by omega
        obtain ⟨x, ex_⟩ : ∃ x, x = d.getD k 0 := ⟨_, rfl⟩
        obtain ⟨y, ey_⟩ : ∃ x, x = (psum L n).getD k 0 := ⟨_, rfl⟩
        obtain ⟨u, eu_⟩ : ∃ x, x = f.getD k 0 := ⟨_, rfl⟩
        obtain ⟨v, ev_⟩ : ∃ x, x = (qsum L n).getD k 0 := ⟨_, rfl⟩
        have EX := Lib.hid ex_
        have EY := Lib.hid ey_
        have EU := Lib.hid eu_
        have EV := Lib.hid ev_
        clear ex_ ey_ eu_ ev_
        go_wp2_with fail
        have NHB_ := Aside0.mk (below_drew1 HB.out)
        clear HB
        have HB := NHB_
        clear NHB_
        refine start_ (n := 27) (S := fun w' => (Below w.heap.size w w')) (ds := []) #[false, false, false, false, false, false, false, false, false, false, false, false, false, false, false, false, false, false, false, false, false, false, false, false, false, false, false] (by kernel_rfl) rfl rfl (HB.out) (fun hHeld => ?_)
        generalize wr.drew = V0 at  HB hHeld ⊢
        refine pure_ (i := 0) (N := some 18) (v := ?_) (a' := ?_) #[true, false, false, false, false, false, false, false, false, false, false, false, false, false, false, false, false, false, false, false, false, false, false, false, false, false, false] rfl rfl (by kernel_rfl) (fun _ _ _ h => h) (Or.inl ⟨by rfl, ?_⟩) ?_ ?_
        rotate_left
        · intro w'
          go_simp
          with_reducible rfl
        rotate_left
        · simp only [Act.put, List.setIfInBounds_toArray, List.set_cons_zero, List.set_cons_succ, i64_w, i32_w]
          rfl
        refine pure_ (i := 1) (N := some 19) (v := ?_) (a' := ?_) #[true, true, false, false, false, false, false, false, false, false, false, false, false, false, false, false, false, false, false, false, false, false, false, false, false, false, false] rfl rfl (by kernel_rfl) (fun _ _ _ h => h) (Or.inl ⟨by rfl, ?_⟩) ?_ ?_
        rotate_left
        · intro w'
          go_simp
          with_reducible rfl
        rotate_left
        · simp only [Act.put, List.setIfInBounds_toArray, List.set_cons_zero, List.set_cons_succ, i64_w, i32_w]
          rfl
        refine pure_ (i := 2) (N := some 20) (v := ?_) (a' := ?_) #[true, true, true, false, false, false, false, false, false, false, false, false, false, false, false, false, false, false, false, false, false, false, false, false, false, false, false] rfl rfl (by kernel_rfl) (fun _ _ _ h => h) (Or.inl ⟨by rfl, ?_⟩) ?_ ?_
        rotate_left
        · intro w'
          go_simp
          with_reducible rfl
        rotate_left
        · simp only [Act.put, List.setIfInBounds_toArray, List.set_cons_zero, List.set_cons_succ, i64_w, i32_w]
          rfl
        refine pure_ (i := 3) (N := some 21) (v := ?_) (a' := ?_) #[true, true, true, true, false, false, false, false, false, false, false, false, false, false, false, false, false, false, false, false, false, false, false, false, false, false, false] rfl rfl (by kernel_rfl) (fun _ _ _ h => h) (Or.inl ⟨by rfl, ?_⟩) ?_ ?_
        rotate_left
        · intro w'
          go_simp
          with_reducible rfl
        rotate_left
        · simp only [Act.put, List.setIfInBounds_toArray, List.set_cons_zero, List.set_cons_succ, i64_w, i32_w]
          rfl
        refine pure_ (i := 4) (N := some 22) (v := ?_) (a' := ?_) #[true, true, true, true, true, false, false, false, false, false, false, false, false, false, false, false, false, false, false, false, false, false, false, false, false, false, false] rfl rfl (by kernel_rfl) (fun _ _ _ h => h) (Or.inl ⟨by rfl, ?_⟩) ?_ ?_
        rotate_left
        · intro w'
          go_simp
          with_reducible rfl
        rotate_left
        · simp only [Act.put, List.setIfInBounds_toArray, List.set_cons_zero, List.set_cons_succ, i64_w, i32_w]
          rfl
        refine take_ (i := 5) (N := some 23) (v := .int .u8 (x : Int)) (a' := ?_) #[true, true, true, true, true, true, false, false, false, false, false, false, false, false, false, false, false, false, false, false, false, false, false, false, false, false, false] rfl rfl (by kernel_rfl) (fun _ _ _ h => h) (Or.inl ⟨by rfl, ?_⟩) hHeld ?_ ?_
        · rintro w' kb_
          exact exec_one agg5 rfl rfl (by have hq_ := byte_C (Kd.C_below hC kb_) (show n < n + 2 by omega) hlt; rw [← ED.out, ← EX.out] at hq_; exact hq_)
        rotate_left
        · simp only [Act.put, List.setIfInBounds_toArray, List.set_cons_zero, List.set_cons_succ, i64_w, i32_w]
          rfl
        refine pure_ (i := 6) (N := some 24) (v := ?_) (a' := ?_) #[true, true, true, true, true, true, true, false, false, false, false, false, false, false, false, false, false, false, false, false, false, false, false, false, false, false, false] rfl rfl (by kernel_rfl) (fun _ _ _ h => h) (Or.inl ⟨by rfl, ?_⟩) ?_ ?_
        rotate_left
        · intro w'
          go_simp
          with_reducible rfl
        rotate_left
        · simp only [Act.put, List.setIfInBounds_toArray, List.set_cons_zero, List.set_cons_succ, i64_w, i32_w]
          rfl
        refine pure_ (i := 7) (N := some 25) (v := ?_) (a' := ?_) #[true, true, true, true, true, true, true, true, false, false, false, false, false, false, false, false, false, false, false, false, false, false, false, false, false, false, false] rfl rfl (by kernel_rfl) (fun _ _ _ h => h) (Or.inl ⟨by rfl, ?_⟩) ?_ ?_
        rotate_left
        · intro w'
          go_simp
          with_reducible rfl
        rotate_left
        · simp only [Act.put, List.setIfInBounds_toArray, List.set_cons_zero, List.set_cons_succ, i64_w, i32_w]
          rfl
        refine pure_ (i := 8) (N := some 26) (v := ?_) (a' := ?_) #[true, true, true, true, true, true, true, true, true, false, false, false, false, false, false, false, false, false, false, false, false, false, false, false, false, false, false] rfl rfl (by kernel_rfl) (fun _ _ _ h => h) (Or.inl ⟨by rfl, ?_⟩) ?_ ?_
        rotate_left
        · intro w'
          go_simp
          with_reducible rfl
        rotate_left
        · simp only [Act.put, List.setIfInBounds_toArray, List.set_cons_zero, List.set_cons_succ, i64_w, i32_w]
          rfl
        refine pure_ (i := 9) (N := some 27) (v := ?_) (a' := ?_) #[true, true, true, true, true, true, true, true, true, true, false, false, false, false, false, false, false, false, false, false, false, false, false, false, false, false, false] rfl rfl (by kernel_rfl) (fun _ _ _ h => h) (Or.inl ⟨by rfl, ?_⟩) ?_ ?_
        rotate_left
        · intro w'
          go_simp
          with_reducible rfl
        rotate_left
        · simp only [Act.put, List.setIfInBounds_toArray, List.set_cons_zero, List.set_cons_succ, i64_w, i32_w]
          rfl
        refine one_ (i := 10) (N := some 28) #[true, true, true, true, true, true, true, true, true, true, true, false, false, false, false, false, false, false, false, false, false, false, false, false, false, false, false] rfl rfl (by kernel_rfl) (by decide) (fun K hK => ?_)
        refine goes_ Try.func31 (by kernel_rfl) rfl #[.slice (some ad) n c, .int .i64 (-1), .int .i64 (k : Int)] (by rfl) rfl rfl (by (try simp only [List.map_toArray, List.map_cons, List.map_nil]); first | done | rfl) ?_
        with_reducible refine (refp_calls (some ad) n c k (L.take n) _ (C_take (Kd.C_below hC HB.out) (Nat.le_add_right n 2)) (secs_take hS n) hlt).mono ?_
        rintro e V1 ⟨rfl, hb⟩
        refine ⟨_, rfl, ?_⟩
        rw [psum_take n (Nat.le_refl n), ← EY.out]
        have NHB_ := Aside0.mk (below_step HB.out hb)
        clear HB
        have HB := NHB_
        clear NHB_
        clear hb
        refine hK.out _ _ (HB.out) (fun hHeld => ?_)
        clear hK K
        refine norm_ (a' := ?_) ?_ ?_
        rotate_left
        · show Act.put _ (some 28) _ = _
          simp only [Act.put, List.setIfInBounds_toArray, List.set_cons_zero, List.set_cons_succ, i64_w, i32_w]
          rfl
        by_cases hxy : x = y
        · skip
          have hxb : ((x : Int) != (y : Int)) = false := by simp; omega
          refine pure_ (i := 11) (N := some 29) (v := ?_) (a' := ?_) #[true, true, true, true, true, true, true, true, true, true, true, true, false, false, false, false, false, false, false, false, false, false, false, false, false, false, false] rfl rfl (by kernel_rfl) (fun _ _ _ h => h) (Or.inl ⟨by rfl, ?_⟩) ?_ ?_
          rotate_left
          · intro w'
            go_simp
            with_reducible rfl
          rotate_left
          · simp only [Act.put, List.setIfInBounds_toArray, List.set_cons_zero, List.set_cons_succ, i64_w, i32_w]
            rfl
          refine pure_ (i := 12) (N := some 30) (v := ?_) (a' := ?_) #[true, true, true, true, true, true, true, true, true, true, true, true, true, false, false, false, false, false, false, false, false, false, false, false, false, false, false] rfl rfl (by kernel_rfl) (fun _ _ _ h => h) (Or.inl ⟨by rfl, ?_⟩) ?_ ?_
          rotate_left
          · intro w'
            go_simp
            with_reducible rfl
          rotate_left
          · simp only [Act.put, List.setIfInBounds_toArray, List.set_cons_zero, List.set_cons_succ, i64_w, i32_w]
            rfl
          refine pure_ (i := 13) (N := some 31) (v := ?_) (a' := ?_) #[true, true, true, true, true, true, true, true, true, true, true, true, true, true, false, false, false, false, false, false, false, false, false, false, false, false, false] rfl rfl (by kernel_rfl) (fun _ _ _ h => h) (Or.inl ⟨by rfl, ?_⟩) ?_ ?_
          rotate_left
          · intro w'
            go_simp
            with_reducible rfl
          rotate_left
          · simp only [Act.put, List.setIfInBounds_toArray, List.set_cons_zero, List.set_cons_succ, i64_w, i32_w]
            rfl
          refine pure_ (i := 14) (N := some 32) (v := ?_) (a' := ?_) #[true, true, true, true, true, true, true, true, true, true, true, true, true, true, true, false, false, false, false, false, false, false, false, false, false, false, false] rfl rfl (by kernel_rfl) (fun _ _ _ h => h) (Or.inl ⟨by rfl, ?_⟩) ?_ ?_
          rotate_left
          · intro w'
            go_simp
            with_reducible rfl
          rotate_left
          · simp only [Act.put, List.setIfInBounds_toArray, List.set_cons_zero, List.set_cons_succ, i64_w, i32_w]
            rfl
          refine pure_ (i := 15) (N := some 33) (v := ?_) (a' := ?_) #[true, true, true, true, true, true, true, true, true, true, true, true, true, true, true, true, false, false, false, false, false, false, false, false, false, false, false] rfl rfl (by kernel_rfl) (fun _ _ _ h => h) (Or.inl ⟨by rfl, ?_⟩) ?_ ?_
          rotate_left
          · intro w'
            go_simp
            with_reducible rfl
          rotate_left
          · simp only [Act.put, List.setIfInBounds_toArray, List.set_cons_zero, List.set_cons_succ, i64_w, i32_w]
            rfl
          refine pure_ (i := 16) (N := some 34) (v := ?_) (a' := ?_) #[true, true, true, true, true, true, true, true, true, true, true, true, true, true, true, true, true, false, false, false, false, false, false, false, false, false, false] rfl rfl (by kernel_rfl) (fun _ _ _ h => h) (Or.inl ⟨by rfl, ?_⟩) ?_ ?_
          rotate_left
          · intro w'
            go_simp
            with_reducible rfl
          rotate_left
          · simp only [Act.put, List.setIfInBounds_toArray, List.set_cons_zero, List.set_cons_succ, i64_w, i32_w]
            rfl
          refine pure_ (i := 17) (N := some 35) (v := ?_) (a' := ?_) #[true, true, true, true, true, true, true, true, true, true, true, true, true, true, true, true, true, true, false, false, false, false, false, false, false, false, false] rfl rfl (by kernel_rfl) (fun _ _ _ h => h) (Or.inl ⟨by rfl, ?_⟩) ?_ ?_
          rotate_left
          · intro w'
            go_simp
            with_reducible rfl
          rotate_left
          · simp only [Act.put, List.setIfInBounds_toArray, List.set_cons_zero, List.set_cons_succ, i64_w, i32_w]
            rfl
          refine pure_ (i := 18) (N := some 36) (v := ?_) (a' := ?_) #[true, true, true, true, true, true, true, true, true, true, true, true, true, true, true, true, true, true, true, false, false, false, false, false, false, false, false] rfl rfl (by kernel_rfl) (fun _ _ _ h => h) (Or.inl ⟨by rfl, ?_⟩) ?_ ?_
          rotate_left
          · intro w'
            go_simp
            with_reducible rfl
          rotate_left
          · simp only [Act.put, List.setIfInBounds_toArray, List.set_cons_zero, List.set_cons_succ, i64_w, i32_w]
            rfl
          refine take_ (i := 19) (N := some 37) (v := .int .u8 (u : Int)) (a' := ?_) #[true, true, true, true, true, true, true, true, true, true, true, true, true, true, true, true, true, true, true, true, false, false, false, false, false, false, false] rfl rfl (by kernel_rfl) (fun _ _ _ h => h) (Or.inl ⟨by rfl, ?_⟩) hHeld ?_ ?_
          · rintro w' kb_
            exact exec_one agg5 rfl rfl (by have hq_ := byte_C (Kd.C_below hC kb_) (show n + 1 < n + 2 by omega) hlt; rw [← EF.out, ← EU.out] at hq_; exact hq_)
          rotate_left
          · simp only [Act.put, List.setIfInBounds_toArray, List.set_cons_zero, List.set_cons_succ, i64_w, i32_w]
            rfl
          refine pure_ (i := 20) (N := some 38) (v := ?_) (a' := ?_) #[true, true, true, true, true, true, true, true, true, true, true, true, true, true, true, true, true, true, true, true, true, false, false, false, false, false, false] rfl rfl (by kernel_rfl) (fun _ _ _ h => h) (Or.inl ⟨by rfl, ?_⟩) ?_ ?_
          rotate_left
          · intro w'
            go_simp
            with_reducible rfl
          rotate_left
          · simp only [Act.put, List.setIfInBounds_toArray, List.set_cons_zero, List.set_cons_succ, i64_w, i32_w]
            rfl
          refine pure_ (i := 21) (N := some 39) (v := ?_) (a' := ?_) #[true, true, true, true, true, true, true, true, true, true, true, true, true, true, true, true, true, true, true, true, true, true, false, false, false, false, false] rfl rfl (by kernel_rfl) (fun _ _ _ h => h) (Or.inl ⟨by rfl, ?_⟩) ?_ ?_
          rotate_left
          · intro w'
            go_simp
            with_reducible rfl
          rotate_left
          · simp only [Act.put, List.setIfInBounds_toArray, List.set_cons_zero, List.set_cons_succ, i64_w, i32_w]
            rfl
          refine pure_ (i := 22) (N := some 40) (v := ?_) (a' := ?_) #[true, true, true, true, true, true, true, true, true, true, true, true, true, true, true, true, true, true, true, true, true, true, true, false, false, false, false] rfl rfl (by kernel_rfl) (fun _ _ _ h => h) (Or.inl ⟨by rfl, ?_⟩) ?_ ?_
          rotate_left
          · intro w'
            go_simp
            with_reducible rfl
          rotate_left
          · simp only [Act.put, List.setIfInBounds_toArray, List.set_cons_zero, List.set_cons_succ, i64_w, i32_w]
            rfl
          refine pure_ (i := 23) (N := some 41) (v := ?_) (a' := ?_) #[true, true, true, true, true, true, true, true, true, true, true, true, true, true, true, true, true, true, true, true, true, true, true, true, false, false, false] rfl rfl (by kernel_rfl) (fun _ _ _ h => h) (Or.inl ⟨by rfl, ?_⟩) ?_ ?_
          rotate_left
          · intro w'
            go_simp
            with_reducible rfl
          rotate_left
          · simp only [Act.put, List.setIfInBounds_toArray, List.set_cons_zero, List.set_cons_succ, i64_w, i32_w]
            rfl
          refine one_ (i := 24) (N := some 42) #[true, true, true, true, true, true, true, true, true, true, true, true, true, true, true, true, true, true, true, true, true, true, true, true, true, false, false] rfl rfl (by kernel_rfl) (by decide) (fun K hK => ?_)
          refine goes_ Try.func32 (by kernel_rfl) rfl #[.slice (some ad) n c, .int .i64 (-1), .int .i64 (k : Int)] (by rfl) rfl rfl (by (try simp only [List.map_toArray, List.map_cons, List.map_nil]); first | done | rfl) ?_
          with_reducible refine (refq_calls (some ad) n c k (L.take n) _ (C_take (Kd.C_below hC HB.out) (Nat.le_add_right n 2)) (secs_take hS n) hlt).mono ?_
          rintro e V2 ⟨rfl, hb⟩
          refine ⟨_, rfl, ?_⟩
          rw [qsum_take n (Nat.le_refl n), ← EV.out]
          have NHB_ := Aside0.mk (below_step HB.out hb)
          clear HB
          have HB := NHB_
          clear NHB_
          clear hb
          refine hK.out _ _ (HB.out) (fun hHeld => ?_)
          clear hK K
          refine norm_ (a' := ?_) ?_ ?_
          rotate_left
          · show Act.put _ (some 42) _ = _
            simp only [Act.put, List.setIfInBounds_toArray, List.set_cons_zero, List.set_cons_succ, i64_w, i32_w]
            rfl
          by_cases huv : u = v
          · skip
            have hub : ((u : Int) != (v : Int)) = false := by simp; omega
            refine pure_ (i := 25) (N := some 43) (v := ?_) (a' := ?_) #[true, true, true, true, true, true, true, true, true, true, true, true, true, true, true, true, true, true, true, true, true, true, true, true, true, true, false] rfl rfl (by kernel_rfl) (fun _ _ _ h => h) (Or.inl ⟨by rfl, ?_⟩) ?_ ?_
            rotate_left
            · intro w'
              go_simp
              with_reducible rfl
            rotate_left
            · simp only [Act.put, List.setIfInBounds_toArray, List.set_cons_zero, List.set_cons_succ, i64_w, i32_w]
              rfl
            refine pure_ (i := 26) (N := some 44) (v := ?_) (a' := ?_) #[true, true, true, true, true, true, true, true, true, true, true, true, true, true, true, true, true, true, true, true, true, true, true, true, true, true, true] rfl rfl (by kernel_rfl) (fun _ _ _ h => h) (Or.inl ⟨by rfl, ?_⟩) ?_ ?_
            rotate_left
            · intro w'
              go_simp
              with_reducible rfl
            rotate_left
            · simp only [Act.put, List.setIfInBounds_toArray, List.set_cons_zero, List.set_cons_succ, i64_w, i32_w]
              rfl
            refine done_ (by kernel_rfl) ?_
            go_wp2
            go_roundw
            case rel => exact ⟨k + 1, by omega, by go_num, Lib.hid (fun j hj => by
              rcases Nat.lt_succ_iff_lt_or_eq.1 hj with h | rfl
              · exact HE.out j h
              · rw [← EX.out, ← EY.out, ← EU.out, ← EV.out]; exact ⟨hxy, huv⟩), HB⟩
            case measure => simp [intOf] <;> omega
          · skip
            have hub : ((u : Int) != (v : Int)) = true := by simp; omega
            refine pure_ (i := 25) (N := some 43) (v := ?_) (a' := ?_) #[true, true, true, true, true, true, true, true, true, true, true, true, true, true, true, true, true, true, true, true, true, true, true, true, true, true, false] rfl rfl (by kernel_rfl) (fun _ _ _ h => h) (Or.inl ⟨by rfl, ?_⟩) ?_ ?_
            rotate_left
            · intro w'
              go_simp
              with_reducible rfl
            rotate_left
            · simp only [Act.put, List.setIfInBounds_toArray, List.set_cons_zero, List.set_cons_succ, i64_w, i32_w]
              rfl
            refine pure_ (i := 26) (N := some 44) (v := ?_) (a' := ?_) #[true, true, true, true, true, true, true, true, true, true, true, true, true, true, true, true, true, true, true, true, true, true, true, true, true, true, true] rfl rfl (by kernel_rfl) (fun _ _ _ h => h) (Or.inl ⟨by rfl, ?_⟩) ?_ ?_
            rotate_left
            · intro w'
              go_simp
              with_reducible rfl
            rotate_left
            · simp only [Act.put, List.setIfInBounds_toArray, List.set_cons_zero, List.set_cons_succ, i64_w, i32_w]
              rfl
            refine done_ (by kernel_rfl) ?_
            go_wp2
            have hne : rightB L = false := by
              rw [E1.out]
              rw [decide_eq_false (p := qsum L n = f) (fun e => huv (by rw [EU.out, EV.out, e])), Bool.and_false]
            exact bodyPost_ret (v := .bool false) (results_single rfl (.tmp .nil)) rfl ⟨by first | rw [hne] | with_reducible rfl, HB.out⟩
        · skip
          have hxb : ((x : Int) != (y : Int)) = true := by simp; omega
          refine pure_ (i := 11) (N := some 29) (v := ?_) (a' := ?_) #[true, true, true, true, true, true, true, true, true, true, true, true, false, false, false, false, false, false, false, false, false, false, false, false, false, false, false] rfl rfl (by kernel_rfl) (fun _ _ _ h => h) (Or.inl ⟨by rfl, ?_⟩) ?_ ?_
          rotate_left
          · intro w'
            go_simp
            with_reducible rfl
          rotate_left
          · simp only [Act.put, List.setIfInBounds_toArray, List.set_cons_zero, List.set_cons_succ, i64_w, i32_w]
            rfl
          refine pure_ (i := 12) (N := some 30) (v := ?_) (a' := ?_) #[true, true, true, true, true, true, true, true, true, true, true, true, true, false, false, false, false, false, false, false, false, false, false, false, false, false, false] rfl rfl (by kernel_rfl) (fun _ _ _ h => h) (Or.inl ⟨by rfl, ?_⟩) ?_ ?_
          rotate_left
          · intro w'
            go_simp
            with_reducible rfl
          rotate_left
          · simp only [Act.put, List.setIfInBounds_toArray, List.set_cons_zero, List.set_cons_succ, i64_w, i32_w]
            rfl
          refine pure_ (i := 13) (N := some 31) (v := undef) (a' := ?_) #[true, true, true, true, true, true, true, true, true, true, true, true, true, true, false, false, false, false, false, false, false, false, false, false, false, false, false] rfl rfl (by kernel_rfl) (fun _ _ _ h => h) (Or.inr ⟨by rfl, rfl⟩) ?_ ?_
          rotate_left
          · simp only [Act.put, List.setIfInBounds_toArray, List.set_cons_zero, List.set_cons_succ, i64_w, i32_w]
            rfl
          refine pure_ (i := 14) (N := some 32) (v := undef) (a' := ?_) #[true, true, true, true, true, true, true, true, true, true, true, true, true, true, true, false, false, false, false, false, false, false, false, false, false, false, false] rfl rfl (by kernel_rfl) (fun _ _ _ h => h) (Or.inr ⟨by rfl, rfl⟩) ?_ ?_
          rotate_left
          · simp only [Act.put, List.setIfInBounds_toArray, List.set_cons_zero, List.set_cons_succ, i64_w, i32_w]
            rfl
          refine pure_ (i := 15) (N := some 33) (v := undef) (a' := ?_) #[true, true, true, true, true, true, true, true, true, true, true, true, true, true, true, true, false, false, false, false, false, false, false, false, false, false, false] rfl rfl (by kernel_rfl) (fun _ _ _ h => h) (Or.inr ⟨by rfl, rfl⟩) ?_ ?_
          rotate_left
          · simp only [Act.put, List.setIfInBounds_toArray, List.set_cons_zero, List.set_cons_succ, i64_w, i32_w]
            rfl
          refine pure_ (i := 16) (N := some 34) (v := undef) (a' := ?_) #[true, true, true, true, true, true, true, true, true, true, true, true, true, true, true, true, true, false, false, false, false, false, false, false, false, false, false] rfl rfl (by kernel_rfl) (fun _ _ _ h => h) (Or.inr ⟨by rfl, rfl⟩) ?_ ?_
          rotate_left
          · simp only [Act.put, List.setIfInBounds_toArray, List.set_cons_zero, List.set_cons_succ, i64_w, i32_w]
            rfl
          refine pure_ (i := 17) (N := some 35) (v := undef) (a' := ?_) #[true, true, true, true, true, true, true, true, true, true, true, true, true, true, true, true, true, true, false, false, false, false, false, false, false, false, false] rfl rfl (by kernel_rfl) (fun _ _ _ h => h) (Or.inr ⟨by rfl, rfl⟩) ?_ ?_
          rotate_left
          · simp only [Act.put, List.setIfInBounds_toArray, List.set_cons_zero, List.set_cons_succ, i64_w, i32_w]
            rfl
          refine pure_ (i := 18) (N := some 36) (v := undef) (a' := ?_) #[true, true, true, true, true, true, true, true, true, true, true, true, true, true, true, true, true, true, true, false, false, false, false, false, false, false, false] rfl rfl (by kernel_rfl) (fun _ _ _ h => h) (Or.inr ⟨by rfl, rfl⟩) ?_ ?_
          rotate_left
          · simp only [Act.put, List.setIfInBounds_toArray, List.set_cons_zero, List.set_cons_succ, i64_w, i32_w]
            rfl
          refine pure_ (i := 19) (N := some 37) (v := undef) (a' := ?_) #[true, true, true, true, true, true, true, true, true, true, true, true, true, true, true, true, true, true, true, true, false, false, false, false, false, false, false] rfl rfl (by kernel_rfl) (fun _ _ _ h => h) (Or.inr ⟨by rfl, rfl⟩) ?_ ?_
          rotate_left
          · simp only [Act.put, List.setIfInBounds_toArray, List.set_cons_zero, List.set_cons_succ, i64_w, i32_w]
            rfl
          refine pure_ (i := 20) (N := some 38) (v := undef) (a' := ?_) #[true, true, true, true, true, true, true, true, true, true, true, true, true, true, true, true, true, true, true, true, true, false, false, false, false, false, false] rfl rfl (by kernel_rfl) (fun _ _ _ h => h) (Or.inr ⟨by rfl, rfl⟩) ?_ ?_
          rotate_left
          · simp only [Act.put, List.setIfInBounds_toArray, List.set_cons_zero, List.set_cons_succ, i64_w, i32_w]
            rfl
          refine pure_ (i := 21) (N := some 39) (v := undef) (a' := ?_) #[true, true, true, true, true, true, true, true, true, true, true, true, true, true, true, true, true, true, true, true, true, true, false, false, false, false, false] rfl rfl (by kernel_rfl) (fun _ _ _ h => h) (Or.inr ⟨by rfl, rfl⟩) ?_ ?_
          rotate_left
          · simp only [Act.put, List.setIfInBounds_toArray, List.set_cons_zero, List.set_cons_succ, i64_w, i32_w]
            rfl
          refine pure_ (i := 22) (N := some 40) (v := undef) (a' := ?_) #[true, true, true, true, true, true, true, true, true, true, true, true, true, true, true, true, true, true, true, true, true, true, true, false, false, false, false] rfl rfl (by kernel_rfl) (fun _ _ _ h => h) (Or.inr ⟨by rfl, rfl⟩) ?_ ?_
          rotate_left
          · simp only [Act.put, List.setIfInBounds_toArray, List.set_cons_zero, List.set_cons_succ, i64_w, i32_w]
            rfl
          refine pure_ (i := 23) (N := some 41) (v := undef) (a' := ?_) #[true, true, true, true, true, true, true, true, true, true, true, true, true, true, true, true, true, true, true, true, true, true, true, true, false, false, false] rfl rfl (by kernel_rfl) (fun _ _ _ h => h) (Or.inr ⟨by rfl, rfl⟩) ?_ ?_
          rotate_left
          · simp only [Act.put, List.setIfInBounds_toArray, List.set_cons_zero, List.set_cons_succ, i64_w, i32_w]
            rfl
          refine pure_ (i := 24) (N := some 42) (v := undef) (a' := ?_) #[true, true, true, true, true, true, true, true, true, true, true, true, true, true, true, true, true, true, true, true, true, true, true, true, true, false, false] rfl rfl (by kernel_rfl) (fun _ _ _ h => h) (Or.inr ⟨by rfl, rfl⟩) ?_ ?_
          rotate_left
          · simp only [Act.put, List.setIfInBounds_toArray, List.set_cons_zero, List.set_cons_succ, i64_w, i32_w]
            rfl
          refine pure_ (i := 25) (N := some 43) (v := undef) (a' := ?_) #[true, true, true, true, true, true, true, true, true, true, true, true, true, true, true, true, true, true, true, true, true, true, true, true, true, true, false] rfl rfl (by kernel_rfl) (fun _ _ _ h => h) (Or.inr ⟨by rfl, rfl⟩) ?_ ?_
          rotate_left
          · simp only [Act.put, List.setIfInBounds_toArray, List.set_cons_zero, List.set_cons_succ, i64_w, i32_w]
            rfl
          refine pure_ (i := 26) (N := some 44) (v := ?_) (a' := ?_) #[true, true, true, true, true, true, true, true, true, true, true, true, true, true, true, true, true, true, true, true, true, true, true, true, true, true, true] rfl rfl (by kernel_rfl) (fun _ _ _ h => h) (Or.inl ⟨by rfl, ?_⟩) ?_ ?_
          rotate_left
          · intro w'
            go_simp
            with_reducible rfl
          rotate_left
          · simp only [Act.put, List.setIfInBounds_toArray, List.set_cons_zero, List.set_cons_succ, i64_w, i32_w]
            rfl
          refine done_ (by kernel_rfl) ?_
          go_wp2
          have hne : rightB L = false := by
            rw [E1.out]
            rw [decide_eq_false (fun e => hxy (by rw [EX.out, EY.out, e])), Bool.false_and]
          exact bodyPost_ret (v := .bool false) (results_single rfl (.tmp .nil)) rfl ⟨by first | rw [hne] | with_reducible rfl, HB.out⟩
      · obtain rfl : k = 64 := by omega
        have hd : decide ((64 : Int) < 64) = false := by simp
        have he1 : psum L n = d := (byte_eq L1.out HP.out (fun j hj => (HE.out j hj).1)).symm
        have he2 : qsum L n = f := (byte_eq L2.out HQ.out (fun j hj => (HE.out j hj).2)).symm
        go_wp2
        exact bodyPost_ret (v := .bool true) (results_single rfl (.tmp .nil)) rfl ⟨by rw [E1.out, decide_eq_true he1, decide_eq_true he2]; rfl, HB.out⟩

end Go.Proofs.Ytonjgbcibjnpoaa.Pw
