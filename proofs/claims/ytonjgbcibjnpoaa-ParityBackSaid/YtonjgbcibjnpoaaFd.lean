import Derived.Test.YtonjgbcibjnpoaaPb
import Derived.Test.YtonjgbcibjnpoaaSd
import Derived.Test.YtonjgbcibjnpoaaSs
import Derived.Test.YtonjgbcibjnpoaaSr
import Derived.Test.YtonjgbcibjnpoaaPw
import Derived.Test.YtonjgbcibjnpoaaFa
import Derived.WalkSpells
import Derived.OpenShut
import Derived.Outline
import Derived.Lib.Hide
namespace Go.Proofs.Ytonjgbcibjnpoaa.Pw
open Go.RowKit Go.Proofs.YtonjgbcibjnpoaaW.PrintWords Go.Proofs.YtonjgbcibjnpoaaW.PrintLast Go.Proofs.YtonjgbcibjnpoaaW.PrintMore Go.Proofs.Ytonjgbcibjnpoaa.Gf Go.Proofs.Ytonjgbcibjnpoaa.Sc Go.Proofs.Ytonjgbcibjnpoaa.Pb Go.Proofs.Ytonjgbcibjnpoaa.Sd Go.Proofs.Ytonjgbcibjnpoaa.Ss Go.Proofs.Ytonjgbcibjnpoaa.Sr Go.Proofs.Ytonjgbcibjnpoaa.Pd Go.Proofs.Ytonjgbcibjnpoaa.Dv Go.Proofs.Ytonjgbcibjnpoaa.Sq
set_option linter.unusedVariables false
set_option linter.unusedSimpArgs false

set_option maxHeartbeats 4000000 in
set_option maxRecDepth 100000 in
theorem fix_dP (A B : Option Addr) (n c m2 c2 : Nat) (L : List (List Nat)) (zs l : List Int) (w : World) (hC : Kd.C seK w A n L) (hS : Secs L) (hc : n ≤ c) (hcm : c ≤ 9223372036854775807) (hR : ReadsInt w .i64 B m2 zs) (hm2 : m2 ≤ 100) (EL : Hid (l = unl zs)) (ks : List Nat) (el : l = ks.map (fun k : Nat => (k : Int))) (hkl : ∀ k ∈ ks, k < n) (h : 3 ≤ n) (h64 : n ≤ 64) (h2 : l.length ≤ 2) (i j : Nat) (hks0 : ks = [i, j]) (hi : i < n - 2) (hj : j = n - 2) : Calls Try.prog 22 #[.slice A n c, .slice B m2 c2] w fun e w' => ∃ v, e = .returned (.tuple #[v, .int .i64 0]) ∧ Own w' w.heap.size v (fixR L (n - 2) ks) ∧ Below w.heap.size w w' := by
  have HB := Aside0.mk (Below.refl w.heap.size w)
  obtain ⟨m, rfl⟩ : ∃ m, n = m + 2 := ⟨n - 2, by omega⟩
  have hw : wrap64 (((m + 2 : Nat) : Int) - 2) = (m : Int) := by have := le_C hC; unfold wrap64; omega
  have d1 : decide ((m : Int) < 1) = false := by simp; omega
  have d9 : decide ((62 : Int) < (m : Int)) = false := by simp; omega
  obtain ⟨r, er⟩ : ∃ r, r = l.length := ⟨_, rfl⟩
  have d8 : decide ((2 : Int) < (r : Int)) = false := by simp; omega
  have hLn := len_C hC
  obtain ⟨ad, rfl⟩ := sec_head hC (by omega)
  have hks : r = ks.length := by rw [er, el, List.length_map]
  have hcc : (m : Int) ≤ (c : Int) := by omega
  have EKS := Lib.hid hks0
  have EK_ := Lib.hid el
  have h0 : 0 < l.length := by rw [el, hks0]; simp
  have hr2 : r = 2 := by rw [er, el, hks0]; simp
  have HI2 := Lib.hid (show i < m + 2 by omega)
  have HJ2 := Lib.hid (show j < m + 2 by omega)
  have D2 := Lib.hid (show decide ((r : Int) = 2) = true by simp; omega)
  have HNI := Lib.hid (show i < m by omega)
  have HNJ := Lib.hid (show ¬ j < m by omega)
  have HJM := Lib.hid (show j = m by omega)
  have DJ := Lib.hid (show decide ((j : Int) < (m : Int)) = false by simp; omega)
  have HNG := Lib.hid (show wrap64 (-(i : Int)) = -(i : Int) by unfold wrap64; omega)
  have HL0 := Lib.hid (show 0 < l.length by omega)
  have HL1 := Lib.hid (show r - 1 < l.length by omega)
  obtain ⟨z, ez⟩ : ∃ z, z = l.getD 0 0 := ⟨_, rfl⟩
  obtain ⟨y, ey⟩ : ∃ z, z = l.getD (r - 1) 0 := ⟨_, rfl⟩
  have hin : ∀ q, q < l.length → l.getD q 0 = ((ks.getD q 0 : Nat) : Int) ∧ ks.getD q 0 < m + 2 := fun q hq => by
    have hq2 : q < ks.length := by rw [← hks, er]; exact hq
    refine ⟨by rw [el, List.getD_eq_getElem?_getD, List.getElem?_map, List.getD_eq_getElem?_getD, List.getElem?_eq_getElem hq2]; rfl, ?_⟩
    rw [List.getD_eq_getElem?_getD, List.getElem?_eq_getElem hq2]
    exact hkl _ (List.getElem_mem hq2)
  have hzy : 0 ≤ z ∧ y < (m : Int) + 2 := by
    obtain ⟨h2, h1⟩ := hin 0 (by omega)
    obtain ⟨h4, h3⟩ := hin (r - 1) (by omega)
    rw [ez, ey, h2, h4]
    exact ⟨by omega, by omega⟩
  have e1 : decide ((0 : Int) < (r : Int)) = true := by simp; omega
  have e2 : decide (z < 0) = false := by simp; omega
  have e3 : decide ((m : Int) + 2 ≤ y) = false := by simp; omega
  have e4 : wrap64 ((r : Int) - 1) = (r : Int) - 1 := by have := le_C hC; unfold wrap64; omega
  have e5 : (r : Int) - 1 < (r : Int) := by omega
  have e6 : (0 : Int) < (r : Int) := by omega
  have e7 : (0 : Int) ≤ (r : Int) - 1 := by omega
  have EZ := Lib.hid ez
  have EY := Lib.hid ey
  have HIN := Lib.hid hin
  clear ez ey hzy hin
  have ZI := Lib.hid (show z = (i : Int) by rw [EZ.out, (HIN.out 0 HL0.out).1, EKS.out]; rfl)
  have YJ := Lib.hid (show y = (j : Int) by rw [EY.out, (HIN.out (r - 1) HL1.out).1, EKS.out, hr2]; rfl)
  have R1_ := Lib.hid (show r - 1 = 1 by rw [hr2])
  have R2_ := Lib.hid hr2
  have CT := Lib.hid (show l.contains (m : Int) = true by rw [EK_.out, EKS.out]; simp; omega)
  clear hks0 hr2 hi hj
  have ER := Lib.hid er
  have EK := Lib.hid el
  have HKS := Lib.hid hks
  have HKL := Lib.hid hkl
  have LN := Lib.hid hLn
  have HS := Lib.hid hS
  have HP := Lib.hid (show 0 < L.length by omega)
  have HW1 := Lib.hid (show wrap64 ((m : Int) + 1) = (m : Int) + 1 by unfold wrap64; omega)
  have HMB := Lib.hid (show m + 2 ≤ 100 by omega)
  have HM1 := Lib.hid (show 1 ≤ m by omega)
  have HM2 := Lib.hid (show m ≤ 62 by omega)
  clear er el hks hkl hLn hS
  go_enter Try.func22, Try.ntmps22
  go_wp2_with (first | ((with_reducible refine gate_store (t := 3) (p := 6) rfl ?_); go_must (obtain ⟨q0_, nb_⟩ := Wk.blks1 w (Obj.cells (#[.int .i64 0]) 3 (0, 0)); obtain ⟨W1, hW_⟩ : ∃ W, W = (w.alloc (Obj.cells (#[.int .i64 0]) 3 (0, 0))) := ⟨_, rfl⟩; rw [← hW_]; rw [← hW_] at q0_; rw [← hW_] at nb_; have sz_ := below_size HB.out; have hb2_ := Aside0.mk (below_step HB.out nb_); obtain ⟨g6, hgg6_⟩ : ∃ g, g = w.heap.size := ⟨_, rfl⟩; rw [← hgg6_]; rw [← hgg6_] at q0_; have hge_ : w.heap.size ≤ g6 := (by omega); have GEg6 := Aside0.mk hge_; clear hge_; have BKg6 := Aside0.mk q0_; clear HB; have HB := hb2_; clear hb2_ sz_ hW_ nb_ hgg6_ q0_); ((with_reducible refine gate_store (t := 3) (p := 6) rfl ?_); go_must (refine store_event rfl rfl rfl (exec_put (cs' := #[.int .i64 ((m : Int))]) (v := .int .i64 ((m : Int))) (show (Try.prog.info? 3).map (·.size) = some 1 by kernel_rfl) rfl rfl rfl rfl one_int (by (with_reducible repeat (first | refine blk_drewN ?_ _ | refine blk_drew ?_ | refine blk_alloc ?_ _)); exact BKg6.out) (by exact Nat.le_refl 1) (by rfl)) ?_); intro W2 hW_; have NBKg6_ := Aside0.mk ((by rw [hW_]; exact setRow_blk (by (with_reducible repeat (first | refine blk_drewN ?_ _ | refine blk_drew ?_ | refine blk_alloc ?_ _)); exact BKg6.out) : W2.heap[g6]? = some (Obj.cells (#[.int .i64 ((m : Int))]) 3 (0, 0)))); have NHB_ := Aside0.mk ((by rw [hW_]; exact setRow_below (by repeat (first | (with_reducible first | exact HB.out | apply below_alloc | apply pw_below_drewN | apply below_drew1) | exact HB.out)) GEg6.out : Below w.heap.size w W2)); clear BKg6 HB; have BKg6 := NBKg6_; have HB := NHB_; clear NBKg6_ NHB_; clear hW_)) | ((go_at_call 33; go_must ((with_reducible refine (unlike_calls B m2 c2 zs _ (hR.below (by repeat (first | (with_reducible first | exact HB.out | apply below_alloc | apply pw_below_drewN | apply below_drew1) | exact HB.out))) hm2).mono ?_); rintro e W3 ⟨A2, c3, rfl, hc3, hcm3, hR3, hb⟩; rw [← EL.out] at hc3 hR3 ⊢; rw [← ER.out] at hc3 ⊢; have NBKg6_ := Aside0.mk (blk_below (o := (Obj.cells (#[.int .i64 ((m : Int))]) 3 (0, 0))) (by (with_reducible repeat (first | refine blk_drewN ?_ _ | refine blk_drew ?_ | refine blk_alloc ?_ _)); exact BKg6.out) hb); have NHB_ := Aside0.mk (below_step (by repeat (first | (with_reducible first | exact HB.out | apply below_alloc | apply pw_below_drewN | apply below_drew1) | exact HB.out)) hb); clear BKg6 HB; have BKg6 := NBKg6_; have HB := NHB_; clear NBKg6_ NHB_; clear hb)); have HBu := Aside0.mk (Below.refl W3.heap.size W3); go_must (have hcl := (int_at hR3 HL0.out); obtain ⟨ad2, rfl, hcl⟩ := hcl; rw [← EZ.out] at hcl; have HCL := Lib.hid hcl; clear hcl; have hcl := (int_at hR3 HL1.out); obtain ⟨ad3, e3_, hcl⟩ := hcl; injection e3_ with e3_; subst e3_; rw [← EY.out] at hcl; have HCY := Lib.hid hcl; clear hcl)) | ((with_reducible refine gate_dst (N := 24) rfl ?_); go_must (refine Kd.event_run rfl (exec_one (v := .int .i64 (m : Int)) agg3 rfl rfl (Wk.cells1 (by (with_reducible repeat (first | refine blk_drewN ?_ _ | refine blk_drew ?_ | refine blk_alloc ?_ _)); exact BKg6.out))) ?_)) | ((with_reducible refine gate_dst (N := 33) rfl ?_); go_must (refine event_run_g (by rfl) (exec_one (v := .int .i64 z) agg3 rfl rfl HCL.out) ?_)) | ((with_reducible refine gate_dst (N := 41) rfl ?_); go_must (refine event_run_g (by rfl) (exec_one (v := .int .i64 y) agg3 rfl rfl HCY.out) ?_)) | ((with_reducible refine gate_dst (N := 49) rfl ?_); go_must (refine Kd.event_run rfl (exec_one (v := .int .i64 (m : Int)) agg3 rfl rfl (Wk.cells1 (by (with_reducible repeat (first | refine blk_drewN ?_ _ | refine blk_drew ?_ | refine blk_alloc ?_ _)); exact BKg6.out))) ?_)) | ((go_at_call 34; go_must ((with_reducible refine (cloneS_calls (some ad) (m + 2) c L _ (Kd.C_below hC (by repeat (first | (with_reducible first | exact HB.out | apply below_alloc | apply pw_below_drewN | apply below_drew1) | exact HB.out))) (by omega) (by have := HM2.out; omega)).mono ?_); rintro e W4 ⟨v8, rfl, OW_, hb⟩; obtain ⟨gr, cr, sp, rfl, hge_, hbk_, hcr, hcmr, hspr⟩ := Own.block1 OW_ HP.out; clear OW_; rw [LN.out] at hcr hspr ⊢; have lt_ := blk_lt ((by (with_reducible repeat (first | refine blk_drewN ?_ _ | refine blk_drew ?_ | refine blk_alloc ?_ _)); exact BKg6.out) : _ = some (Obj.cells (#[.int .i64 ((m : Int))]) 3 (0, 0))); have Dg6gr : g6 ≠ gr := (by omega); have Dgrg6 : gr ≠ g6 := (by omega); have GEgr := Aside0.mk (Nat.le_trans (below_size (by repeat (first | (with_reducible first | exact HB.out | apply below_alloc | apply pw_below_drewN | apply below_drew1) | exact HB.out))) hge_); have GEugr := Aside0.mk (Nat.le_trans (below_size (by repeat (first | (with_reducible first | exact HBu.out | apply below_alloc | apply pw_below_drewN | apply below_drew1) | exact HBu.out))) hge_); clear lt_ hge_; have NBKg6_ := Aside0.mk (blk_below (o := (Obj.cells (#[.int .i64 ((m : Int))]) 3 (0, 0))) (by (with_reducible repeat (first | refine blk_drewN ?_ _ | refine blk_drew ?_ | refine blk_alloc ?_ _)); exact BKg6.out) hb); have NHB_ := Aside0.mk (below_step (by repeat (first | (with_reducible first | exact HB.out | apply below_alloc | apply pw_below_drewN | apply below_drew1) | exact HB.out)) hb); have NHBu_ := Aside0.mk (below_step (by repeat (first | (with_reducible first | exact HBu.out | apply below_alloc | apply pw_below_drewN | apply below_drew1) | exact HBu.out)) hb); clear BKg6 HB HBu; have BKg6 := NBKg6_; have HB := NHB_; have HBu := NHBu_; clear NBKg6_ NHB_ NHBu_; clear hb)); have BKgr := Aside0.mk hbk_; clear hbk_))
  go_loopw [59] (fun i wr => ∃ a : Nat, a ≤ r ∧ i = .int .i64 a ∧ Aside0 (wr.heap[g6]? = some (.cells #[.int .i64 (m : Int)] 3 (0, 0))) ∧ Aside0 (wr.heap[gr]? = some (.cells (bys (zeroed L (ks.take a)).flatten ++ sp) 23 (0, 0))) ∧ Aside0 (Below w.heap.size w wr) ∧ Aside0 (Below W3.heap.size W3 wr)) (fun i _ => r - (intOf i).toNat)
  case atStart => exact ⟨0, by omega, rfl, BKg6, BKgr, HB, HBu⟩
  case round =>
    clear BKg6 BKgr HB HBu
    obtain ⟨a, ha, rfl, BKg6, BKgr, HB, HBu⟩ := hrel
    by_cases hlt : a < r
    · skip
      have h2 : decide ((a : Int) < (r : Int)) = true := by simp; omega
      have h20 : (0 : Int) ≤ (a : Int) := by omega
      have h29 : (a : Int) < (r : Int) := by omega
      obtain ⟨x, ex_⟩ : ∃ x, x = ks.getD a 0 := ⟨_, rfl⟩
      have hak : a < ks.length := by rw [← HKS.out]; exact hlt
      have hx : x < m + 2 := by rw [ex_, List.getD_eq_getElem?_getD, List.getElem?_eq_getElem hak]; exact HKL.out _ (List.getElem_mem hak)
      have hx0 : (0 : Int) ≤ (x : Int) := by omega
      have hx1 : (x : Int) < (m : Int) + 2 := by omega
      have hcl := int_at (i := a) hR3 (by rw [← ER.out]; exact hlt)
      obtain ⟨ad4, e4_, hcl⟩ := hcl
      have hlv : l.getD a 0 = (x : Int) := by rw [EK.out, ex_, List.getD_eq_getElem?_getD, List.getElem?_map, List.getD_eq_getElem?_getD, List.getElem?_eq_getElem hak]; rfl
      rw [hlv] at hcl
      injection e4_ with e4_
      subst e4_
      have HCA := Lib.hid hcl
      have HX := Lib.hid hx
      clear hcl hlv hx
      obtain ⟨S_, eS_⟩ : ∃ S, S = zeroed L (ks.take a) := ⟨_, rfl⟩
      have sS : Secs S_ := by rw [eS_]; exact zeroed_secs HS.out
      have lS : S_.length = m + 2 := by rw [eS_, zeroed_length]; exact LN.out
      have nS : S_.set x zeros = zeroed L (ks.take (a + 1)) := by
        unfold zeroed at eS_ ⊢
        rw [take_succ_foldl hak, ← eS_, ← ex_]
      rw [← eS_] at BKgr
      have SS := Lib.hid sS
      have LS := Lib.hid lS
      have NS := Lib.hid nS
      clear sS lS nS eS_ ex_ hak
      go_wp2_with (first | ((with_reducible refine gate_dst (N := 62) rfl ?_); go_must (refine Kd.event_run rfl (exec_one (v := .int .i64 (x : Int)) agg3 rfl rfl (pw_cell_below (by repeat (first | (with_reducible first | exact HBu.out | apply below_alloc | apply pw_below_drewN | apply below_drew1) | exact HBu.out)) HCA.out)) ?_)) | ((with_reducible refine gate_store (t := 23) (p := 66) rfl ?_); go_must (refine store_event rfl rfl rfl (exec_put (cs' := bys (S_.set x zeros).flatten ++ sp) (v := .agg (bys zeros)) T23.hi rfl rfl rfl (by show (bys zeros).size = 64; rw [bys_size]; exact zeros_length) one_agg (by (with_reducible repeat (first | refine blk_drewN ?_ _ | refine blk_drew ?_ | refine blk_alloc ?_ _)); exact BKgr.out) (row_fit SS.out LS.out HX.out) (put_sec (fun l_ h_ => (SS.out l_ h_).len) (by rw [LS.out]; exact HX.out) zeros_length)) ?_); intro V1 hW_; have NBKg6_ := Aside0.mk ((by rw [hW_]; exact setRow_far (by (with_reducible repeat (first | refine blk_drewN ?_ _ | refine blk_drew ?_ | refine blk_alloc ?_ _)); exact BKg6.out) Dg6gr : V1.heap[g6]? = some (Obj.cells (#[.int .i64 (m : Int)]) 3 (0, 0)))); have NBKgr_ := Aside0.mk ((by rw [hW_]; exact setRow_blk (by (with_reducible repeat (first | refine blk_drewN ?_ _ | refine blk_drew ?_ | refine blk_alloc ?_ _)); exact BKgr.out) : V1.heap[gr]? = some (Obj.cells (bys (S_.set x zeros).flatten ++ sp) 23 (0, 0)))); have NHB_ := Aside0.mk ((by rw [hW_]; exact setRow_below (by repeat (first | (with_reducible first | exact HB.out | apply below_alloc | apply pw_below_drewN | apply below_drew1) | exact HB.out)) GEgr.out : Below w.heap.size w V1)); have NHBu_ := Aside0.mk ((by rw [hW_]; exact setRow_below (by repeat (first | (with_reducible first | exact HBu.out | apply below_alloc | apply pw_below_drewN | apply below_drew1) | exact HBu.out)) GEugr.out : Below W3.heap.size W3 V1)); clear BKg6 BKgr HB HBu; have BKg6 := NBKg6_; have BKgr := NBKgr_; have HB := NHB_; have HBu := NHBu_; clear NBKg6_ NBKgr_ NHB_ NHBu_; clear hW_))
      go_roundw
      case rel => exact ⟨a + 1, by omega, by go_num, BKg6, ⟨by rw [← NS.out]; exact BKgr.out⟩, HB, HBu⟩
      case measure => simp [intOf] <;> omega
    · skip
      obtain rfl : r = a := by omega
      clear hlt ha
      obtain ⟨Zr, eZ⟩ : ∃ S, S = zeroed L ks := ⟨_, rfl⟩
      rw [show ks.take r = ks by rw [HKS.out, List.take_length], ← eZ] at BKgr
      have sZ : Secs Zr := by rw [eZ]; exact zeroed_secs HS.out
      have lZ : Zr.length = m + 2 := by rw [eZ, zeroed_length]; exact LN.out
      obtain ⟨P0, eP0⟩ : ∃ S, S = psum Zr m := ⟨_, rfl⟩
      obtain ⟨Q0, eQ0⟩ : ∃ S, S = qsum Zr m := ⟨_, rfl⟩
      have sP0 : Sec P0 := by rw [eP0]; exact psum_sec sZ m (by omega)
      have sQ0 : Sec Q0 := by rw [eQ0]; exact qsum_sec sZ m (by omega)
      have hcr2 : (m : Int) ≤ (cr : Int) := by omega
      have hm0 : (0 : Int) ≤ (m : Int) := by omega
      have hend : decide ((r : Int) < (r : Int)) = false := by simp
      have EZR := Lib.hid eZ
      have SZ := Lib.hid sZ
      have LZ := Lib.hid lZ
      have EP0 := Lib.hid eP0
      have EQ0 := Lib.hid eQ0
      have SP0 := Lib.hid sP0
      have SQ0 := Lib.hid sQ0
      clear eZ sZ lZ eP0 eQ0 sP0 sQ0
      have tok1 := Lib.hid trivial
      have tok2 := Lib.hid trivial
      have EF1 := Lib.hid (show Lib.idxBy (fun _ y => decide (y < (m : Int))) l default = 0 by rw [EK.out, EKS.out]; simp [Lib.idxBy, Lib.idxByFrom]; have := HNI.out; omega)
      obtain ⟨R1, eR1⟩ : ∃ R, R = fixMid Zr m ks := ⟨_, rfl⟩
      have eq1 : R1 = Zr.set i (mulL (xorL (Zr.getD (m + 1) []) Q0) (pwZ (-(i : Int)))) := by rw [eR1, EKS.out]; simp only [fixMid]; rw [if_neg HNJ.out, if_pos HNI.out, if_pos HJM.out, ← EQ0.out]
      have sR1 : Secs R1 := by rw [eq1]; exact set_secs SZ.out (mulL_sec (xorL_sec (SZ.out.at (by rw [LZ.out]; omega)) SQ0.out))
      have lR1 : R1.length = m + 2 := by rw [eq1]; rw [List.length_set]; exact LZ.out
      obtain ⟨P1, eP1⟩ : ∃ S, S = psum R1 m := ⟨_, rfl⟩
      obtain ⟨Q1, eQ1⟩ : ∃ S, S = qsum R1 m := ⟨_, rfl⟩
      have sP1 : Sec P1 := by rw [eP1]; exact psum_sec sR1 m (by omega)
      have sQ1 : Sec Q1 := by rw [eQ1]; exact qsum_sec sR1 m (by omega)
      have ER1 := Lib.hid eR1
      have EQR := Lib.hid eq1
      have SR1 := Lib.hid sR1
      have LR1 := Lib.hid lR1
      have EP1 := Lib.hid eP1
      have EQ1 := Lib.hid eQ1
      have SP1 := Lib.hid sP1
      have SQ1 := Lib.hid sQ1
      clear eR1 eq1 sR1 lR1 eP1 eQ1 sP1 sQ1
      go_wp2_with (first | ((with_reducible refine gate_dst (N := 69) rfl ?_); go_must (refine Kd.event_run rfl (exec_one (v := .int .i64 (m : Int)) agg3 rfl rfl (Wk.cells1 (by (with_reducible repeat (first | refine blk_drewN ?_ _ | refine blk_drew ?_ | refine blk_alloc ?_ _)); exact BKg6.out))) ?_)) | (go_at_call 30; have tk_ := tok1; clear tk_ tok1; go_must ((with_reducible refine (plain_calls _ m cr (Zr.take m) _ (C_take (c_row (by (with_reducible repeat (first | refine blk_drewN ?_ _ | refine blk_drew ?_ | refine blk_alloc ?_ _)); exact BKgr.out) SZ.out LZ.out (by have := HM2.out; omega)) (by omega)) (secs_take SZ.out m)).mono ?_); rintro e X1 ⟨rfl, hb⟩; rw [psum_take m (Nat.le_refl m), qsum_take m (Nat.le_refl m), ← EP0.out, ← EQ0.out]; have NBKg6_ := Aside0.mk (blk_below (o := (Obj.cells (#[.int .i64 (m : Int)]) 3 (0, 0))) (by (with_reducible repeat (first | refine blk_drewN ?_ _ | refine blk_drew ?_ | refine blk_alloc ?_ _)); exact BKg6.out) hb); have NBKgr_ := Aside0.mk (blk_below (o := (Obj.cells (bys (Zr).flatten ++ sp) 23 (0, 0))) (by (with_reducible repeat (first | refine blk_drewN ?_ _ | refine blk_drew ?_ | refine blk_alloc ?_ _)); exact BKgr.out) hb); have NHB_ := Aside0.mk (below_step (by repeat (first | (with_reducible first | exact HB.out | apply below_alloc | apply pw_below_drewN | apply below_drew1) | exact HB.out)) hb); have NHBu_ := Aside0.mk (below_step (by repeat (first | (with_reducible first | exact HBu.out | apply below_alloc | apply pw_below_drewN | apply below_drew1) | exact HBu.out)) hb); clear BKg6 BKgr HB HBu; have BKg6 := NBKg6_; have BKgr := NBKgr_; have HB := NHB_; have HBu := NHBu_; clear NBKg6_ NBKgr_ NHB_ NHBu_; clear hb)) | ((with_reducible refine gate_store (t := 23) (p := 12) rfl ?_); go_must (rw [zlit]; obtain ⟨q0_, q1_, nb_⟩ := Wk.blks2 X1 (Obj.cells (bys zeros) 23 (0, 0)) (Obj.cells (bys zeros) 23 (0, 0)); obtain ⟨X2, hW_⟩ : ∃ W, W = ((X1.alloc (Obj.cells (bys zeros) 23 (0, 0))).alloc (Obj.cells (bys zeros) 23 (0, 0))) := ⟨_, rfl⟩; rw [← hW_]; rw [← hW_] at q0_; rw [← hW_] at q1_; rw [← hW_] at nb_; have mg6_ := blk_below BKg6.out nb_; have mgr_ := blk_below BKgr.out nb_; have sz_ := below_size HB.out; have szu_ := below_size HBu.out; have ltg6_ := blk_lt BKg6.out; have ltgr_ := blk_lt BKgr.out; have hb2_ := Aside0.mk (below_step HB.out nb_); have hb2u_ := Aside0.mk (below_step HBu.out nb_); obtain ⟨g12, hgg12_⟩ : ∃ g, g = X1.heap.size := ⟨_, rfl⟩; obtain ⟨g13, hgg13_⟩ : ∃ g, g = X1.heap.size + 1 := ⟨_, rfl⟩; rw [← hgg13_]; rw [← hgg13_] at q1_; rw [← hgg12_]; rw [← hgg12_] at q0_; have hge_ : w.heap.size ≤ g12 := (by omega); have GEg12 := Aside0.mk hge_; clear hge_; have hge_ : W3.heap.size ≤ g12 := (by omega); have GEug12 := Aside0.mk hge_; clear hge_; have Dg6g12 : g6 ≠ g12 := (by omega); have Dg12g6 : g12 ≠ g6 := (by omega); have Dgrg12 : gr ≠ g12 := (by omega); have Dg12gr : g12 ≠ gr := (by omega); have hge_ : w.heap.size ≤ g13 := (by omega); have GEg13 := Aside0.mk hge_; clear hge_; have hge_ : W3.heap.size ≤ g13 := (by omega); have GEug13 := Aside0.mk hge_; clear hge_; have Dg6g13 : g6 ≠ g13 := (by omega); have Dg13g6 : g13 ≠ g6 := (by omega); have Dgrg13 : gr ≠ g13 := (by omega); have Dg13gr : g13 ≠ gr := (by omega); have Dg12g13 : g12 ≠ g13 := (by omega); have Dg13g12 : g13 ≠ g12 := (by omega); have BNg6 := Aside0.mk mg6_; clear BKg6; have BKg6 := BNg6; clear BNg6 ltg6_ mg6_; have BNgr := Aside0.mk mgr_; clear BKgr; have BKgr := BNgr; clear BNgr ltgr_ mgr_; have BKg12 := Aside0.mk q0_; have BKg13 := Aside0.mk q1_; clear HB HBu; have HB := hb2_; have HBu := hb2u_; clear hb2_ hb2u_ sz_ szu_ hW_ nb_ hgg12_ hgg13_ q0_ q1_); ((with_reducible refine gate_store (t := 23) (p := 12) rfl ?_); go_must (refine store_event rfl rfl rfl (exec_put (cs' := bys P0) T23.hi rfl rfl rfl (by show (bys P0).size = 64; rw [bys_size]; exact SP0.out.len) one_agg (by (with_reducible repeat (first | refine blk_drewN ?_ _ | refine blk_drew ?_ | refine blk_alloc ?_ _)); exact BKg12.out) (by rw [bys_size, zeros_length]; omega) (putc_all ((bys_size _).trans ((zeros_length).trans ((SP0.out.len).symm.trans (bys_size _).symm))))) ?_); intro X3 hW_; have NBKg6_ := Aside0.mk ((by rw [hW_]; exact setRow_far (by (with_reducible repeat (first | refine blk_drewN ?_ _ | refine blk_drew ?_ | refine blk_alloc ?_ _)); exact BKg6.out) Dg6g12 : X3.heap[g6]? = some (Obj.cells (#[.int .i64 (m : Int)]) 3 (0, 0)))); have NBKgr_ := Aside0.mk ((by rw [hW_]; exact setRow_far (by (with_reducible repeat (first | refine blk_drewN ?_ _ | refine blk_drew ?_ | refine blk_alloc ?_ _)); exact BKgr.out) Dgrg12 : X3.heap[gr]? = some (Obj.cells (bys (Zr).flatten ++ sp) 23 (0, 0)))); have NBKg12_ := Aside0.mk ((by rw [hW_]; exact setRow_blk (by (with_reducible repeat (first | refine blk_drewN ?_ _ | refine blk_drew ?_ | refine blk_alloc ?_ _)); exact BKg12.out) : X3.heap[g12]? = some (Obj.cells (bys P0) 23 (0, 0)))); have NBKg13_ := Aside0.mk ((by rw [hW_]; exact setRow_far (by (with_reducible repeat (first | refine blk_drewN ?_ _ | refine blk_drew ?_ | refine blk_alloc ?_ _)); exact BKg13.out) Dg13g12 : X3.heap[g13]? = some (Obj.cells (bys zeros) 23 (0, 0)))); have NHB_ := Aside0.mk ((by rw [hW_]; exact setRow_below (by repeat (first | (with_reducible first | exact HB.out | apply below_alloc | apply pw_below_drewN | apply below_drew1) | exact HB.out)) GEg12.out : Below w.heap.size w X3)); have NHBu_ := Aside0.mk ((by rw [hW_]; exact setRow_below (by repeat (first | (with_reducible first | exact HBu.out | apply below_alloc | apply pw_below_drewN | apply below_drew1) | exact HBu.out)) GEug12.out : Below W3.heap.size W3 X3)); clear BKg6 BKgr BKg12 BKg13 HB HBu; have BKg6 := NBKg6_; have BKgr := NBKgr_; have BKg12 := NBKg12_; have BKg13 := NBKg13_; have HB := NHB_; have HBu := NHBu_; clear NBKg6_ NBKgr_ NBKg12_ NBKg13_ NHB_ NHBu_; clear hW_)) | ((with_reducible refine gate_store (t := 23) (p := 13) rfl ?_); go_must (refine store_event rfl rfl rfl (exec_put (cs' := bys Q0) T23.hi rfl rfl rfl (by show (bys Q0).size = 64; rw [bys_size]; exact SQ0.out.len) one_agg (by (with_reducible repeat (first | refine blk_drewN ?_ _ | refine blk_drew ?_ | refine blk_alloc ?_ _)); exact BKg13.out) (by rw [bys_size, zeros_length]; omega) (putc_all ((bys_size _).trans ((zeros_length).trans ((SQ0.out.len).symm.trans (bys_size _).symm))))) ?_); intro X4 hW_; have NBKg6_ := Aside0.mk ((by rw [hW_]; exact setRow_far (by (with_reducible repeat (first | refine blk_drewN ?_ _ | refine blk_drew ?_ | refine blk_alloc ?_ _)); exact BKg6.out) Dg6g13 : X4.heap[g6]? = some (Obj.cells (#[.int .i64 (m : Int)]) 3 (0, 0)))); have NBKgr_ := Aside0.mk ((by rw [hW_]; exact setRow_far (by (with_reducible repeat (first | refine blk_drewN ?_ _ | refine blk_drew ?_ | refine blk_alloc ?_ _)); exact BKgr.out) Dgrg13 : X4.heap[gr]? = some (Obj.cells (bys (Zr).flatten ++ sp) 23 (0, 0)))); have NBKg12_ := Aside0.mk ((by rw [hW_]; exact setRow_far (by (with_reducible repeat (first | refine blk_drewN ?_ _ | refine blk_drew ?_ | refine blk_alloc ?_ _)); exact BKg12.out) Dg12g13 : X4.heap[g12]? = some (Obj.cells (bys P0) 23 (0, 0)))); have NBKg13_ := Aside0.mk ((by rw [hW_]; exact setRow_blk (by (with_reducible repeat (first | refine blk_drewN ?_ _ | refine blk_drew ?_ | refine blk_alloc ?_ _)); exact BKg13.out) : X4.heap[g13]? = some (Obj.cells (bys Q0) 23 (0, 0)))); have NHB_ := Aside0.mk ((by rw [hW_]; exact setRow_below (by repeat (first | (with_reducible first | exact HB.out | apply below_alloc | apply pw_below_drewN | apply below_drew1) | exact HB.out)) GEg13.out : Below w.heap.size w X4)); have NHBu_ := Aside0.mk ((by rw [hW_]; exact setRow_below (by repeat (first | (with_reducible first | exact HBu.out | apply below_alloc | apply pw_below_drewN | apply below_drew1) | exact HBu.out)) GEug13.out : Below W3.heap.size W3 X4)); clear BKg6 BKgr BKg12 BKg13 HB HBu; have BKg6 := NBKg6_; have BKgr := NBKgr_; have BKg12 := NBKg12_; have BKg13 := NBKg13_; have HB := NHB_; have HBu := NHBu_; clear NBKg6_ NBKgr_ NBKg12_ NBKg13_ NHB_ NHBu_; clear hW_) | (go_at_call 35; go_must ((with_reducible refine (first_calls2 _ c3 m g6 r l _ ER.out (hR3.below (by repeat (first | (with_reducible first | exact HBu.out | apply below_alloc | apply pw_below_drewN | apply below_drew1) | exact HBu.out))) (by (with_reducible repeat (first | refine blk_drewN ?_ _ | refine blk_drew ?_ | refine blk_alloc ?_ _)); exact BKg6.out)).mono ?_); rintro e X5 ⟨rfl, hb⟩; rw [EF1.out]; have NBKg6_ := Aside0.mk (blk_below (o := (Obj.cells (#[.int .i64 (m : Int)]) 3 (0, 0))) (by (with_reducible repeat (first | refine blk_drewN ?_ _ | refine blk_drew ?_ | refine blk_alloc ?_ _)); exact BKg6.out) hb); have NBKgr_ := Aside0.mk (blk_below (o := (Obj.cells (bys (Zr).flatten ++ sp) 23 (0, 0))) (by (with_reducible repeat (first | refine blk_drewN ?_ _ | refine blk_drew ?_ | refine blk_alloc ?_ _)); exact BKgr.out) hb); have NBKg12_ := Aside0.mk (blk_below (o := (Obj.cells (bys P0) 23 (0, 0))) (by (with_reducible repeat (first | refine blk_drewN ?_ _ | refine blk_drew ?_ | refine blk_alloc ?_ _)); exact BKg12.out) hb); have NBKg13_ := Aside0.mk (blk_below (o := (Obj.cells (bys Q0) 23 (0, 0))) (by (with_reducible repeat (first | refine blk_drewN ?_ _ | refine blk_drew ?_ | refine blk_alloc ?_ _)); exact BKg13.out) hb); have NHB_ := Aside0.mk (below_step (by repeat (first | (with_reducible first | exact HB.out | apply below_alloc | apply pw_below_drewN | apply below_drew1) | exact HB.out)) hb); have NHBu_ := Aside0.mk (below_step (by repeat (first | (with_reducible first | exact HBu.out | apply below_alloc | apply pw_below_drewN | apply below_drew1) | exact HBu.out)) hb); clear BKg6 BKgr BKg12 BKg13 HB HBu; have BKg6 := NBKg6_; have BKgr := NBKgr_; have BKg12 := NBKg12_; have BKg13 := NBKg13_; have HB := NHB_; have HBu := NHBu_; clear NBKg6_ NBKgr_ NBKg12_ NBKg13_ NHB_ NHBu_; clear hb)))
      obtain ⟨zm, ezm⟩ : ∃ z, z = Zr.getD m [] := ⟨_, rfl⟩
      obtain ⟨zq, ezq⟩ : ∃ z, z = Zr.getD (m + 1) [] := ⟨_, rfl⟩
      have szm : Sec zm := by rw [ezm]; exact SZ.out.at (by rw [LZ.out]; exact Nat.lt_add_of_pos_right (by decide))
      have szq : Sec zq := by rw [ezq]; exact SZ.out.at (by rw [LZ.out]; exact Nat.lt_succ_self _)
      have EZM := Lib.hid ezm
      have EZQ := Lib.hid ezq
      have SZM := Lib.hid szm
      have SZQ := Lib.hid szq
      have HIM := Lib.hid (show m < m + 2 from Nat.lt_add_of_pos_right (by decide))
      have HIQ := Lib.hid (show m + 1 < m + 2 from Nat.lt_succ_self _)
      clear ezm ezq szm szq
      have u1 : (m : Int) < (m : Int) + 2 := Int.ofNat_lt.2 HIM.out
      have u2 : (m : Int) + 1 < (m : Int) + 2 := Int.ofNat_lt.2 HIQ.out
      have u3 : (0 : Int) ≤ (m : Int) + 1 := Int.natCast_nonneg (m + 1)
      have u4 : (0 : Int) ≤ (i : Int) := Int.natCast_nonneg i
      have u5 : (i : Int) < (m : Int) + 2 := Int.ofNat_lt.2 HI2.out
      have HC0 := Lib.hid (show W3.cell? (ad2.add 0) = some (.int .i64 (i : Int)) by have h := HCL.out; rw [ZI.out] at h; exact h)
      have u6 : (0 : Int) ≤ (j : Int) := Int.natCast_nonneg j
      have u7 : (j : Int) < (m : Int) + 2 := Int.ofNat_lt.2 HJ2.out
      have HC1 := Lib.hid (show W3.cell? ⟨ad2.block, ad2.off + 1, none⟩ = some (.int .i64 (j : Int)) by have h := HCY.out; rw [YJ.out, R1_.out] at h; exact cell_off h)
      have u8 : (1 : Int) < (r : Int) := by rw [R2_.out]; decide
      have NBKg6_ := Aside0.mk (blk_drew BKg6.out)
      have NBKgr_ := Aside0.mk (blk_drew BKgr.out)
      have NBKg12_ := Aside0.mk (blk_drew BKg12.out)
      have NBKg13_ := Aside0.mk (blk_drew BKg13.out)
      have NHB_ := Aside0.mk (below_drew1 HB.out)
      have NHBu_ := Aside0.mk (below_drew1 HBu.out)
      clear BKg6 BKgr BKg12 BKg13 HB HBu
      have BKg6 := NBKg6_
      have BKgr := NBKgr_
      have BKg12 := NBKg12_
      have BKg13 := NBKg13_
      have HB := NHB_
      have HBu := NHBu_
      clear NBKg6_ NBKgr_ NBKg12_ NBKg13_ NHB_ NHBu_
      refine start_ (n := 11) (S := fun w' => (w'.heap[g6]? = some (Obj.cells (#[.int .i64 (m : Int)]) 3 (0, 0))) ∧ (Below w.heap.size w w') ∧ (Below W3.heap.size W3 w')) (ds := []) #[false, false, false, false, false, false, false, false, false, false, false] (by kernel_rfl) rfl rfl (⟨BKg6.out, HB.out, HBu.out⟩) (fun hHeld => ?_)
      generalize X5.drew = D0 at BKg6 BKgr BKg12 BKg13 HB HBu hHeld ⊢
      refine pure_ (i := 0) (N := some 95) (v := ?_) (a' := ?_) #[true, false, false, false, false, false, false, false, false, false, false] rfl rfl (by kernel_rfl) (fun _ _ _ h => h) (Or.inl ⟨by rfl, ?_⟩) ?_ ?_
      rotate_left
      · intro w'
        go_simp
        with_reducible rfl
      rotate_left
      · simp only [Act.put, List.setIfInBounds_toArray, List.set_cons_zero, List.set_cons_succ, i64_w, i32_w]
        rfl
      refine pure_ (i := 1) (N := some 96) (v := ?_) (a' := ?_) #[true, true, false, false, false, false, false, false, false, false, false] rfl rfl (by kernel_rfl) (fun _ _ _ h => h) (Or.inl ⟨by rfl, ?_⟩) ?_ ?_
      rotate_left
      · intro w'
        go_simp
        with_reducible rfl
      rotate_left
      · simp only [Act.put, List.setIfInBounds_toArray, List.set_cons_zero, List.set_cons_succ, i64_w, i32_w]
        rfl
      refine pure_ (i := 2) (N := some 97) (v := .bool true) (a' := ?_) #[true, true, true, false, false, false, false, false, false, false, false] rfl rfl (by kernel_rfl) (fun _ _ _ h => h) (Or.inl ⟨by rfl, ?_⟩) ?_ ?_
      · intro w'
        exact exec_eqi (u := (r : Int)) (v := 2) rfl rfl rfl D2.out
      rotate_left
      · simp only [Act.put, List.setIfInBounds_toArray, List.set_cons_zero, List.set_cons_succ, i64_w, i32_w]
        rfl
      refine pure_ (i := 3) (N := some 98) (v := ?_) (a' := ?_) #[true, true, true, true, false, false, false, false, false, false, false] rfl rfl (by kernel_rfl) (fun _ _ _ h => h) (Or.inl ⟨by rfl, ?_⟩) ?_ ?_
      rotate_left
      · intro w'
        go_simp
        with_reducible rfl
      rotate_left
      · simp only [Act.put, List.setIfInBounds_toArray, List.set_cons_zero, List.set_cons_succ, i64_w, i32_w]
        rfl
      refine pure_ (i := 4) (N := some 99) (v := ?_) (a' := ?_) #[true, true, true, true, true, false, false, false, false, false, false] rfl rfl (by kernel_rfl) (fun _ _ _ h => h) (Or.inl ⟨by rfl, ?_⟩) ?_ ?_
      rotate_left
      · intro w'
        go_simp
        with_reducible rfl
      rotate_left
      · simp only [Act.put, List.setIfInBounds_toArray, List.set_cons_zero, List.set_cons_succ, i64_w, i32_w]
        rfl
      refine pure_ (i := 5) (N := some 100) (v := ?_) (a' := ?_) #[true, true, true, true, true, true, false, false, false, false, false] rfl rfl (by kernel_rfl) (fun _ _ _ h => h) (Or.inl ⟨by rfl, ?_⟩) ?_ ?_
      rotate_left
      · intro w'
        go_simp
        with_reducible rfl
      rotate_left
      · simp only [Act.put, List.setIfInBounds_toArray, List.set_cons_zero, List.set_cons_succ, i64_w, i32_w]
        rfl
      refine take_ (i := 6) (N := some 101) (v := .int .i64 (j : Int)) (a' := ?_) #[true, true, true, true, true, true, true, false, false, false, false] rfl rfl (by kernel_rfl) (fun _ _ _ h => h) (Or.inl ⟨by rfl, ?_⟩) hHeld ?_ ?_
      · rintro w' ⟨k_g6, kb_, kbu_⟩
        exact exec_one (v := .int .i64 (j : Int)) agg3 rfl rfl (pw_cell_below kbu_ HC1.out)
      rotate_left
      · simp only [Act.put, List.setIfInBounds_toArray, List.set_cons_zero, List.set_cons_succ, i64_w, i32_w]
        rfl
      refine take_ (i := 7) (N := some 102) (v := .int .i64 (m : Int)) (a' := ?_) #[true, true, true, true, true, true, true, true, false, false, false] rfl rfl (by kernel_rfl) (fun _ _ _ h => h) (Or.inl ⟨by rfl, ?_⟩) hHeld ?_ ?_
      · rintro w' ⟨k_g6, kb_, kbu_⟩
        exact exec_one (v := .int .i64 (m : Int)) agg3 rfl rfl (Wk.cells1 k_g6)
      rotate_left
      · simp only [Act.put, List.setIfInBounds_toArray, List.set_cons_zero, List.set_cons_succ, i64_w, i32_w]
        rfl
      refine pure_ (i := 8) (N := some 103) (v := .bool false) (a' := ?_) #[true, true, true, true, true, true, true, true, true, false, false] rfl rfl (by kernel_rfl) (fun _ _ _ h => h) (Or.inl ⟨by rfl, ?_⟩) ?_ ?_
      · intro w'
        exact exec_lti (u := (j : Int)) (v := (m : Int)) rfl rfl rfl DJ.out
      rotate_left
      · simp only [Act.put, List.setIfInBounds_toArray, List.set_cons_zero, List.set_cons_succ, i64_w, i32_w]
        rfl
      refine pure_ (i := 9) (N := some 104) (v := ?_) (a' := ?_) #[true, true, true, true, true, true, true, true, true, true, false] rfl rfl (by kernel_rfl) (fun _ _ _ h => h) (Or.inl ⟨by rfl, ?_⟩) ?_ ?_
      rotate_left
      · intro w'
        go_simp
        with_reducible rfl
      rotate_left
      · simp only [Act.put, List.setIfInBounds_toArray, List.set_cons_zero, List.set_cons_succ, i64_w, i32_w]
        rfl
      refine pure_ (i := 10) (N := some 94) (v := ?_) (a' := ?_) #[true, true, true, true, true, true, true, true, true, true, true] rfl rfl (by kernel_rfl) (fun _ _ _ h => h) (Or.inl ⟨by rfl, ?_⟩) ?_ ?_
      rotate_left
      · intro w'
        go_simp
        with_reducible rfl
      rotate_left
      · simp only [Act.put, List.setIfInBounds_toArray, List.set_cons_zero, List.set_cons_succ, i64_w, i32_w]
        rfl
      refine done_ (by kernel_rfl) ?_
      go_wp2_with (first | ((with_reducible refine gate_dst (N := 140) rfl ?_); go_must (refine Kd.event_run rfl (exec_one (v := .int .i64 (m : Int)) agg3 rfl rfl (Wk.cells1 (by (with_reducible repeat (first | refine blk_drewN ?_ _ | refine blk_drew ?_ | refine blk_alloc ?_ _)); exact BKg6.out))) ?_)) | (go_at_call 38; go_must ((with_reducible refine (contains_calls2 _ c3 r l (m : Int) _ ER.out (hR3.below (by repeat (first | (with_reducible first | exact HBu.out | apply below_alloc | apply pw_below_drewN | apply below_drew1) | exact HBu.out)))).mono ?_); rintro e D1 ⟨rfl, hb⟩; rw [CT.out]; have NBKg6_ := Aside0.mk (blk_below (o := (Obj.cells (#[.int .i64 (m : Int)]) 3 (0, 0))) (by (with_reducible repeat (first | refine blk_drewN ?_ _ | refine blk_drew ?_ | refine blk_alloc ?_ _)); exact BKg6.out) hb); have NBKgr_ := Aside0.mk (blk_below (o := (Obj.cells (bys (Zr).flatten ++ sp) 23 (0, 0))) (by (with_reducible repeat (first | refine blk_drewN ?_ _ | refine blk_drew ?_ | refine blk_alloc ?_ _)); exact BKgr.out) hb); have NBKg12_ := Aside0.mk (blk_below (o := (Obj.cells (bys P0) 23 (0, 0))) (by (with_reducible repeat (first | refine blk_drewN ?_ _ | refine blk_drew ?_ | refine blk_alloc ?_ _)); exact BKg12.out) hb); have NBKg13_ := Aside0.mk (blk_below (o := (Obj.cells (bys Q0) 23 (0, 0))) (by (with_reducible repeat (first | refine blk_drewN ?_ _ | refine blk_drew ?_ | refine blk_alloc ?_ _)); exact BKg13.out) hb); have NHB_ := Aside0.mk (below_step (by repeat (first | (with_reducible first | exact HB.out | apply below_alloc | apply pw_below_drewN | apply below_drew1) | exact HB.out)) hb); have NHBu_ := Aside0.mk (below_step (by repeat (first | (with_reducible first | exact HBu.out | apply below_alloc | apply pw_below_drewN | apply below_drew1) | exact HBu.out)) hb); clear BKg6 BKgr BKg12 BKg13 HB HBu; have BKg6 := NBKg6_; have BKgr := NBKgr_; have BKg12 := NBKg12_; have BKg13 := NBKg13_; have HB := NHB_; have HBu := NHBu_; clear NBKg6_ NBKgr_ NBKg12_ NBKg13_ NHB_ NHBu_; clear hb)) | ((with_reducible refine gate_dst (N := 145) rfl ?_); go_must (refine Kd.event_run rfl (exec_one (v := .int .i64 (i : Int)) agg3 rfl rfl (pw_cell_below (by repeat (first | (with_reducible first | exact HBu.out | apply below_alloc | apply pw_below_drewN | apply below_drew1) | exact HBu.out)) HC0.out)) ?_)))
      have NBKg6_ := Aside0.mk (blk_drew BKg6.out)
      have NBKgr_ := Aside0.mk (blk_drew BKgr.out)
      have NBKg12_ := Aside0.mk (blk_drew BKg12.out)
      have NBKg13_ := Aside0.mk (blk_drew BKg13.out)
      have NHB_ := Aside0.mk (below_drew1 HB.out)
      have NHBu_ := Aside0.mk (below_drew1 HBu.out)
      clear BKg6 BKgr BKg12 BKg13 HB HBu
      have BKg6 := NBKg6_
      have BKgr := NBKgr_
      have BKg12 := NBKg12_
      have BKg13 := NBKg13_
      have HB := NHB_
      have HBu := NHBu_
      clear NBKg6_ NBKgr_ NBKg12_ NBKg13_ NHB_ NHBu_
      refine start_ (n := 15) (S := fun w' => (w'.heap[g6]? = some (Obj.cells (#[.int .i64 (m : Int)]) 3 (0, 0))) ∧ (w'.heap[gr]? = some (Obj.cells (bys (Zr).flatten ++ sp) 23 (0, 0))) ∧ (w'.heap[g13]? = some (Obj.cells (bys Q0) 23 (0, 0))) ∧ (Below w.heap.size w w') ∧ (Below W3.heap.size W3 w')) (ds := [14]) #[false, false, false, false, false, false, false, false, false, false, false, false, false, false, false] (by kernel_rfl) rfl rfl (⟨BKg6.out, BKgr.out, BKg13.out, HB.out, HBu.out⟩) (fun hHeld => ?_)
      generalize D1.drew = D2_ at BKg6 BKgr BKg12 BKg13 HB HBu hHeld ⊢
      refine pure_ (i := 0) (N := some 146) (v := ?_) (a' := ?_) #[true, false, false, false, false, false, false, false, false, false, false, false, false, false, false] rfl rfl (by kernel_rfl) (fun _ _ _ h => h) (Or.inl ⟨by rfl, ?_⟩) ?_ ?_
      rotate_left
      · intro w'
        go_simp
        with_reducible rfl
      rotate_left
      · simp only [Act.put, List.setIfInBounds_toArray, List.set_cons_zero, List.set_cons_succ, i64_w, i32_w]
        rfl
      refine pure_ (i := 1) (N := some 147) (v := ?_) (a' := ?_) #[true, true, false, false, false, false, false, false, false, false, false, false, false, false, false] rfl rfl (by kernel_rfl) (fun _ _ _ h => h) (Or.inl ⟨by rfl, ?_⟩) ?_ ?_
      rotate_left
      · intro w'
        go_simp
        with_reducible rfl
      rotate_left
      · simp only [Act.put, List.setIfInBounds_toArray, List.set_cons_zero, List.set_cons_succ, i64_w, i32_w]
        rfl
      refine pure_ (i := 2) (N := some 148) (v := ?_) (a' := ?_) #[true, true, true, false, false, false, false, false, false, false, false, false, false, false, false] rfl rfl (by kernel_rfl) (fun _ _ _ h => h) (Or.inl ⟨by rfl, ?_⟩) ?_ ?_
      rotate_left
      · intro w'
        go_simp
        with_reducible rfl
      rotate_left
      · simp only [Act.put, List.setIfInBounds_toArray, List.set_cons_zero, List.set_cons_succ, i64_w, i32_w]
        rfl
      refine take_ (i := 3) (N := some 149) (v := .int .i64 (m : Int)) (a' := ?_) #[true, true, true, true, false, false, false, false, false, false, false, false, false, false, false] rfl rfl (by kernel_rfl) (fun _ _ _ h => h) (Or.inl ⟨by rfl, ?_⟩) hHeld ?_ ?_
      · rintro w' ⟨k_g6, k_gr, k_g13, kb_, kbu_⟩
        exact exec_one (v := .int .i64 (m : Int)) agg3 rfl rfl (Wk.cells1 k_g6)
      rotate_left
      · simp only [Act.put, List.setIfInBounds_toArray, List.set_cons_zero, List.set_cons_succ, i64_w, i32_w]
        rfl
      refine pure_ (i := 4) (N := some 150) (v := .int .i64 ((m : Int) + 1)) (a' := ?_) #[true, true, true, true, true, false, false, false, false, false, false, false, false, false, false] rfl rfl (by kernel_rfl) (fun _ _ _ h => h) (Or.inl ⟨by rfl, ?_⟩) ?_ ?_
      · intro w'
        exact exec_addi (u := (m : Int)) (v := 1) rfl rfl rfl HW1.out
      rotate_left
      · simp only [Act.put, List.setIfInBounds_toArray, List.set_cons_zero, List.set_cons_succ, i64_w, i32_w]
        rfl
      refine pure_ (i := 5) (N := some 151) (v := .pointer (some ⟨gr, (m + 1) * 64, none⟩)) (a' := ?_) #[true, true, true, true, true, true, false, false, false, false, false, false, false, false, false] rfl rfl (by kernel_rfl) (fun _ _ _ h => h) (Or.inl ⟨by rfl, ?_⟩) ?_ ?_
      · intro w'
        go_simp
      rotate_left
      · simp only [Act.put, List.setIfInBounds_toArray, List.set_cons_zero, List.set_cons_succ, i64_w, i32_w]
        rfl
      refine take_ (i := 6) (N := some 152) (v := .agg (bys zq)) (a' := ?_) #[true, true, true, true, true, true, true, false, false, false, false, false, false, false, false] rfl rfl (by kernel_rfl) (fun _ _ _ h => h) (Or.inl ⟨by rfl, ?_⟩) hHeld ?_ ?_
      · rintro w' ⟨k_g6, k_gr, k_g13, kb_, kbu_⟩
        exact exec_rsec k_gr SZ.out LZ.out HMB.out HIQ.out EZQ.out rfl rfl
      rotate_left
      · simp only [Act.put, List.setIfInBounds_toArray, List.set_cons_zero, List.set_cons_succ, i64_w, i32_w]
        rfl
      refine take_ (i := 7) (N := some 153) (v := .agg (bys Q0)) (a' := ?_) #[true, true, true, true, true, true, true, true, false, false, false, false, false, false, false] rfl rfl (by kernel_rfl) (fun _ _ _ h => h) (Or.inl ⟨by rfl, ?_⟩) hHeld ?_ ?_
      · rintro w' ⟨k_g6, k_gr, k_g13, kb_, kbu_⟩
        exact exec_row_all agg23 (by rw [bys_size, SQ0.out.len]; exact T23.hi) rfl rfl k_g13
      rotate_left
      · simp only [Act.put, List.setIfInBounds_toArray, List.set_cons_zero, List.set_cons_succ, i64_w, i32_w]
        rfl
      refine pure_ (i := 9) (N := some 155) (v := ?_) (a' := ?_) #[true, true, true, true, true, true, true, true, false, true, false, false, false, false, false] rfl rfl (by kernel_rfl) (fun _ _ _ h => h) (Or.inl ⟨by rfl, ?_⟩) ?_ ?_
      rotate_left
      · intro w'
        go_simp
        with_reducible rfl
      rotate_left
      · simp only [Act.put, List.setIfInBounds_toArray, List.set_cons_zero, List.set_cons_succ, i64_w, i32_w]
        rfl
      refine pure_ (i := 10) (N := some 156) (v := .int .i64 (-(i : Int))) (a' := ?_) #[true, true, true, true, true, true, true, true, false, true, true, false, false, false, false] rfl rfl (by kernel_rfl) (fun _ _ _ h => h) (Or.inl ⟨by rfl, ?_⟩) ?_ ?_
      · intro w'
        exact exec_negi (u := (i : Int)) (r := -(i : Int)) rfl rfl HNG.out
      rotate_left
      · simp only [Act.put, List.setIfInBounds_toArray, List.set_cons_zero, List.set_cons_succ, i64_w, i32_w]
        rfl
      refine one_ (i := 8) (N := some 154) #[true, true, true, true, true, true, true, true, true, true, true, false, false, false, false] rfl rfl (by kernel_rfl) (by decide) (fun K hK => ?_)
      refine goes_ Try.func25 (by kernel_rfl) rfl #[.agg (bys zq), .agg (bys Q0)] (by rfl) rfl rfl (by (try simp only [List.map_toArray, List.map_cons, List.map_nil]); first | done | rfl) ?_
      with_reducible refine (sum_calls _ _ SZQ.out SQ0.out _).mono ?_
      rintro e D3 ⟨rfl, hb⟩
      refine ⟨_, rfl, ?_⟩
      have NBKg6_ := Aside0.mk (blk_below BKg6.out hb)
      have NBKgr_ := Aside0.mk (blk_below BKgr.out hb)
      have NBKg12_ := Aside0.mk (blk_below BKg12.out hb)
      have NBKg13_ := Aside0.mk (blk_below BKg13.out hb)
      have NHB_ := Aside0.mk (below_step HB.out hb)
      have NHBu_ := Aside0.mk (below_step HBu.out hb)
      clear BKg6 BKgr BKg12 BKg13 HB HBu
      have BKg6 := NBKg6_
      have BKgr := NBKgr_
      have BKg12 := NBKg12_
      have BKg13 := NBKg13_
      have HB := NHB_
      have HBu := NHBu_
      clear NBKg6_ NBKgr_ NBKg12_ NBKg13_ NHB_ NHBu_
      clear hb
      refine hK.out _ _ (⟨BKg6.out, BKgr.out, BKg13.out, HB.out, HBu.out⟩) (fun hHeld => ?_)
      clear hK K
      refine norm_ (a' := ?_) ?_ ?_
      rotate_left
      · show Act.put _ (some 154) _ = _
        simp only [Act.put, List.setIfInBounds_toArray, List.set_cons_zero, List.set_cons_succ, i64_w, i32_w]
        rfl
      refine one_ (i := 11) (N := some 157) #[true, true, true, true, true, true, true, true, true, true, true, true, false, false, false] rfl rfl (by kernel_rfl) (by decide) (fun K hK => ?_)
      refine goes_ Try.func27 (by kernel_rfl) rfl #[.int .i64 (-(i : Int))] (by rfl) rfl rfl (by (try simp only [List.map_toArray, List.map_cons, List.map_nil]); first | done | rfl) ?_
      with_reducible refine (pow_calls (-(i : Int)) _).mono ?_
      rintro e w_ ⟨rfl, ⟨nd_, rfl⟩⟩
      refine ⟨_, rfl, ?_⟩
      have NBKg6_ := Aside0.mk (blk_drewN BKg6.out nd_)
      have NBKgr_ := Aside0.mk (blk_drewN BKgr.out nd_)
      have NBKg12_ := Aside0.mk (blk_drewN BKg12.out nd_)
      have NBKg13_ := Aside0.mk (blk_drewN BKg13.out nd_)
      have NHB_ := Aside0.mk (pw_below_drewN HB.out nd_)
      have NHBu_ := Aside0.mk (pw_below_drewN HBu.out nd_)
      clear BKg6 BKgr BKg12 BKg13 HB HBu
      have BKg6 := NBKg6_
      have BKgr := NBKgr_
      have BKg12 := NBKg12_
      have BKg13 := NBKg13_
      have HB := NHB_
      have HBu := NHBu_
      clear NBKg6_ NBKgr_ NBKg12_ NBKg13_ NHB_ NHBu_
      refine hK.out _ _ (⟨BKg6.out, BKgr.out, BKg13.out, HB.out, HBu.out⟩) (fun hHeld => ?_)
      clear hK K
      refine norm_ (a' := ?_) ?_ ?_
      rotate_left
      · show Act.put _ (some 157) _ = _
        simp only [Act.put, List.setIfInBounds_toArray, List.set_cons_zero, List.set_cons_succ, i64_w, i32_w]
        rfl
      generalize D3.drewN nd_ = D4 at BKg6 BKgr BKg12 BKg13 HB HBu hHeld ⊢
      refine one_ (i := 12) (N := some 158) #[true, true, true, true, true, true, true, true, true, true, true, true, true, false, false] rfl rfl (by kernel_rfl) (by decide) (fun K hK => ?_)
      refine goes_ Try.func26 (by kernel_rfl) rfl #[.agg (bys (xorL zq Q0)), .int .u8 ((pwZ (-(i : Int)) : Nat) : Int)] (by rfl) rfl rfl (by (try simp only [List.map_toArray, List.map_cons, List.map_nil]); first | done | rfl) ?_
      with_reducible refine (times_calls _ _ (xorL_sec SZQ.out SQ0.out) (pwZ_lt _) _).mono ?_
      rintro e D5 ⟨rfl, hb⟩
      refine ⟨_, rfl, ?_⟩
      have NBKg6_ := Aside0.mk (blk_below BKg6.out hb)
      have NBKgr_ := Aside0.mk (blk_below BKgr.out hb)
      have NBKg12_ := Aside0.mk (blk_below BKg12.out hb)
      have NBKg13_ := Aside0.mk (blk_below BKg13.out hb)
      have NHB_ := Aside0.mk (below_step HB.out hb)
      have NHBu_ := Aside0.mk (below_step HBu.out hb)
      clear BKg6 BKgr BKg12 BKg13 HB HBu
      have BKg6 := NBKg6_
      have BKgr := NBKgr_
      have BKg12 := NBKg12_
      have BKg13 := NBKg13_
      have HB := NHB_
      have HBu := NHBu_
      clear NBKg6_ NBKgr_ NBKg12_ NBKg13_ NHB_ NHBu_
      clear hb
      refine hK.out _ _ (⟨BKg6.out, BKgr.out, BKg13.out, HB.out, HBu.out⟩) (fun hHeld => ?_)
      clear hK K
      refine norm_ (a' := ?_) ?_ ?_
      rotate_left
      · show Act.put _ (some 158) _ = _
        simp only [Act.put, List.setIfInBounds_toArray, List.set_cons_zero, List.set_cons_succ, i64_w, i32_w]
        rfl
      refine pure_ (i := 13) (N := some 159) (v := ?_) (a' := ?_) #[true, true, true, true, true, true, true, true, true, true, true, true, true, true, false] rfl rfl (by kernel_rfl) (fun _ _ _ h => h) (Or.inl ⟨by rfl, ?_⟩) ?_ ?_
      rotate_left
      · intro w'
        go_simp
        with_reducible rfl
      rotate_left
      · simp only [Act.put, List.setIfInBounds_toArray, List.set_cons_zero, List.set_cons_succ, i64_w, i32_w]
        rfl
      refine last_ (i := 14) (N := none) #[true, true, true, true, true, true, true, true, true, true, true, true, true, true, true] rfl rfl (by kernel_rfl) (by decide) (fun K hK => ?_)
      refine skip_ (by rfl) rfl (exec_put (cs' := bys (Zr.set i (mulL (xorL zq Q0) (pwZ (-(i : Int))))).flatten ++ sp) (v := .agg (bys (mulL (xorL zq Q0) (pwZ (-(i : Int)))))) T23.hi rfl rfl rfl (by show (bys (mulL (xorL zq Q0) (pwZ (-(i : Int))))).size = 64; rw [bys_size]; exact (mulL_sec (xorL_sec SZQ.out SQ0.out)).len) one_agg BKgr.out (row_fit SZ.out LZ.out HI2.out) (put_sec (fun l_ h_ => (SZ.out l_ h_).len) (by rw [LZ.out]; exact HI2.out) (mulL_sec (xorL_sec SZQ.out SQ0.out)).len)) ?_
      obtain ⟨D6, hW_⟩ : ∃ W, W = D5.setRow gr (bys (Zr.set i (mulL (xorL zq Q0) (pwZ (-(i : Int))))).flatten ++ sp) := ⟨_, rfl⟩
      rw [← hW_]
      have NBKg6_ := Aside0.mk ((by rw [hW_]; exact setRow_far BKg6.out Dg6gr : D6.heap[g6]? = some (Obj.cells (#[.int .i64 (m : Int)]) 3 (0, 0))))
      have NBKgr_ := Aside0.mk ((by rw [hW_]; exact setRow_blk BKgr.out : D6.heap[gr]? = some (Obj.cells (bys (Zr.set i (mulL (xorL zq Q0) (pwZ (-(i : Int))))).flatten ++ sp) 23 (0, 0))))
      have NBKg12_ := Aside0.mk ((by rw [hW_]; exact setRow_far BKg12.out Dg12gr : D6.heap[g12]? = some (Obj.cells (bys P0) 23 (0, 0))))
      have NBKg13_ := Aside0.mk ((by rw [hW_]; exact setRow_far BKg13.out Dg13gr : D6.heap[g13]? = some (Obj.cells (bys Q0) 23 (0, 0))))
      have NHB_ := Aside0.mk ((by rw [hW_]; exact setRow_below (HB.out) GEgr.out : Below w.heap.size w D6))
      have NHBu_ := Aside0.mk ((by rw [hW_]; exact setRow_below (HBu.out) GEugr.out : Below W3.heap.size W3 D6))
      clear BKg6 BKgr BKg12 BKg13 HB HBu
      have BKg6 := NBKg6_
      have BKgr := NBKgr_
      have BKg12 := NBKg12_
      have BKg13 := NBKg13_
      have HB := NHB_
      have HBu := NHBu_
      clear NBKg6_ NBKgr_ NBKg12_ NBKg13_ NHB_ NHBu_
      clear hW_
      refine hK.out _ _ ?_
      clear hK K
      refine done_ (by kernel_rfl) ?_
      go_wp2_with fail
      have EQR2 := EQR.out
      rw [← EZQ.out] at EQR2
      rw [← EQR2] at BKgr
      clear EQR2
      go_wp2_with (first | (go_at_call 30; have tk_ := tok2; clear tk_ tok2; go_must ((with_reducible refine (plain_calls _ m cr (R1.take m) _ (C_take (c_row (by (with_reducible repeat (first | refine blk_drewN ?_ _ | refine blk_drew ?_ | refine blk_alloc ?_ _)); exact BKgr.out) SR1.out LR1.out (by have := HM2.out; omega)) (by omega)) (secs_take SR1.out m)).mono ?_); rintro e Y1 ⟨rfl, hb⟩; rw [psum_take m (Nat.le_refl m), qsum_take m (Nat.le_refl m), ← EP1.out, ← EQ1.out]; have NBKg6_ := Aside0.mk (blk_below (o := (Obj.cells (#[.int .i64 (m : Int)]) 3 (0, 0))) (by (with_reducible repeat (first | refine blk_drewN ?_ _ | refine blk_drew ?_ | refine blk_alloc ?_ _)); exact BKg6.out) hb); have NBKgr_ := Aside0.mk (blk_below (o := (Obj.cells (bys (R1).flatten ++ sp) 23 (0, 0))) (by (with_reducible repeat (first | refine blk_drewN ?_ _ | refine blk_drew ?_ | refine blk_alloc ?_ _)); exact BKgr.out) hb); have NBKg12_ := Aside0.mk (blk_below (o := (Obj.cells (bys P0) 23 (0, 0))) (by (with_reducible repeat (first | refine blk_drewN ?_ _ | refine blk_drew ?_ | refine blk_alloc ?_ _)); exact BKg12.out) hb); have NBKg13_ := Aside0.mk (blk_below (o := (Obj.cells (bys Q0) 23 (0, 0))) (by (with_reducible repeat (first | refine blk_drewN ?_ _ | refine blk_drew ?_ | refine blk_alloc ?_ _)); exact BKg13.out) hb); have NHB_ := Aside0.mk (below_step (by repeat (first | (with_reducible first | exact HB.out | apply below_alloc | apply pw_below_drewN | apply below_drew1) | exact HB.out)) hb); have NHBu_ := Aside0.mk (below_step (by repeat (first | (with_reducible first | exact HBu.out | apply below_alloc | apply pw_below_drewN | apply below_drew1) | exact HBu.out)) hb); clear BKg6 BKgr BKg12 BKg13 HB HBu; have BKg6 := NBKg6_; have BKgr := NBKgr_; have BKg12 := NBKg12_; have BKg13 := NBKg13_; have HB := NHB_; have HBu := NHBu_; clear NBKg6_ NBKgr_ NBKg12_ NBKg13_ NHB_ NHBu_; clear hb)) | ((with_reducible refine gate_store (t := 23) (p := 12) rfl ?_); go_must (refine store_event rfl rfl rfl (exec_put (cs' := bys P1) T23.hi rfl rfl rfl (by show (bys P1).size = 64; rw [bys_size]; exact SP1.out.len) one_agg (by (with_reducible repeat (first | refine blk_drewN ?_ _ | refine blk_drew ?_ | refine blk_alloc ?_ _)); exact BKg12.out) (by rw [bys_size, SP0.out.len]; omega) (putc_all ((bys_size _).trans ((SP0.out.len).trans ((SP1.out.len).symm.trans (bys_size _).symm))))) ?_); intro Y2 hW_; have NBKg6_ := Aside0.mk ((by rw [hW_]; exact setRow_far (by (with_reducible repeat (first | refine blk_drewN ?_ _ | refine blk_drew ?_ | refine blk_alloc ?_ _)); exact BKg6.out) Dg6g12 : Y2.heap[g6]? = some (Obj.cells (#[.int .i64 (m : Int)]) 3 (0, 0)))); have NBKgr_ := Aside0.mk ((by rw [hW_]; exact setRow_far (by (with_reducible repeat (first | refine blk_drewN ?_ _ | refine blk_drew ?_ | refine blk_alloc ?_ _)); exact BKgr.out) Dgrg12 : Y2.heap[gr]? = some (Obj.cells (bys (R1).flatten ++ sp) 23 (0, 0)))); have NBKg12_ := Aside0.mk ((by rw [hW_]; exact setRow_blk (by (with_reducible repeat (first | refine blk_drewN ?_ _ | refine blk_drew ?_ | refine blk_alloc ?_ _)); exact BKg12.out) : Y2.heap[g12]? = some (Obj.cells (bys P1) 23 (0, 0)))); have NBKg13_ := Aside0.mk ((by rw [hW_]; exact setRow_far (by (with_reducible repeat (first | refine blk_drewN ?_ _ | refine blk_drew ?_ | refine blk_alloc ?_ _)); exact BKg13.out) Dg13g12 : Y2.heap[g13]? = some (Obj.cells (bys Q0) 23 (0, 0)))); have NHB_ := Aside0.mk ((by rw [hW_]; exact setRow_below (by repeat (first | (with_reducible first | exact HB.out | apply below_alloc | apply pw_below_drewN | apply below_drew1) | exact HB.out)) GEg12.out : Below w.heap.size w Y2)); have NHBu_ := Aside0.mk ((by rw [hW_]; exact setRow_below (by repeat (first | (with_reducible first | exact HBu.out | apply below_alloc | apply pw_below_drewN | apply below_drew1) | exact HBu.out)) GEug12.out : Below W3.heap.size W3 Y2)); clear BKg6 BKgr BKg12 BKg13 HB HBu; have BKg6 := NBKg6_; have BKgr := NBKgr_; have BKg12 := NBKg12_; have BKg13 := NBKg13_; have HB := NHB_; have HBu := NHBu_; clear NBKg6_ NBKgr_ NBKg12_ NBKg13_ NHB_ NHBu_; clear hW_) | ((with_reducible refine gate_store (t := 23) (p := 13) rfl ?_); go_must (refine store_event rfl rfl rfl (exec_put (cs' := bys Q1) T23.hi rfl rfl rfl (by show (bys Q1).size = 64; rw [bys_size]; exact SQ1.out.len) one_agg (by (with_reducible repeat (first | refine blk_drewN ?_ _ | refine blk_drew ?_ | refine blk_alloc ?_ _)); exact BKg13.out) (by rw [bys_size, SQ0.out.len]; omega) (putc_all ((bys_size _).trans ((SQ0.out.len).trans ((SQ1.out.len).symm.trans (bys_size _).symm))))) ?_); intro Y3 hW_; have NBKg6_ := Aside0.mk ((by rw [hW_]; exact setRow_far (by (with_reducible repeat (first | refine blk_drewN ?_ _ | refine blk_drew ?_ | refine blk_alloc ?_ _)); exact BKg6.out) Dg6g13 : Y3.heap[g6]? = some (Obj.cells (#[.int .i64 (m : Int)]) 3 (0, 0)))); have NBKgr_ := Aside0.mk ((by rw [hW_]; exact setRow_far (by (with_reducible repeat (first | refine blk_drewN ?_ _ | refine blk_drew ?_ | refine blk_alloc ?_ _)); exact BKgr.out) Dgrg13 : Y3.heap[gr]? = some (Obj.cells (bys (R1).flatten ++ sp) 23 (0, 0)))); have NBKg12_ := Aside0.mk ((by rw [hW_]; exact setRow_far (by (with_reducible repeat (first | refine blk_drewN ?_ _ | refine blk_drew ?_ | refine blk_alloc ?_ _)); exact BKg12.out) Dg12g13 : Y3.heap[g12]? = some (Obj.cells (bys P1) 23 (0, 0)))); have NBKg13_ := Aside0.mk ((by rw [hW_]; exact setRow_blk (by (with_reducible repeat (first | refine blk_drewN ?_ _ | refine blk_drew ?_ | refine blk_alloc ?_ _)); exact BKg13.out) : Y3.heap[g13]? = some (Obj.cells (bys Q1) 23 (0, 0)))); have NHB_ := Aside0.mk ((by rw [hW_]; exact setRow_below (by repeat (first | (with_reducible first | exact HB.out | apply below_alloc | apply pw_below_drewN | apply below_drew1) | exact HB.out)) GEg13.out : Below w.heap.size w Y3)); have NHBu_ := Aside0.mk ((by rw [hW_]; exact setRow_below (by repeat (first | (with_reducible first | exact HBu.out | apply below_alloc | apply pw_below_drewN | apply below_drew1) | exact HBu.out)) GEug13.out : Below W3.heap.size W3 Y3)); clear BKg6 BKgr BKg12 BKg13 HB HBu; have BKg6 := NBKg6_; have BKgr := NBKgr_; have BKg12 := NBKg12_; have BKg13 := NBKg13_; have HB := NHB_; have HBu := NHBu_; clear NBKg6_ NBKgr_ NBKg12_ NBKg13_ NHB_ NHBu_; clear hW_))
      have N_ := Lib.hid Dg6gr
      clear Dg6gr
      have Dg6gr := N_
      clear N_
      have N_ := Lib.hid Dg6g12
      clear Dg6g12
      have Dg6g12 := N_
      clear N_
      have N_ := Lib.hid Dg6g13
      clear Dg6g13
      have Dg6g13 := N_
      clear N_
      have N_ := Lib.hid Dgrg6
      clear Dgrg6
      have Dgrg6 := N_
      clear N_
      have N_ := Lib.hid Dgrg12
      clear Dgrg12
      have Dgrg12 := N_
      clear N_
      have N_ := Lib.hid Dgrg13
      clear Dgrg13
      have Dgrg13 := N_
      clear N_
      have N_ := Lib.hid Dg12g6
      clear Dg12g6
      have Dg12g6 := N_
      clear N_
      have N_ := Lib.hid Dg12gr
      clear Dg12gr
      have Dg12gr := N_
      clear N_
      have N_ := Lib.hid Dg12g13
      clear Dg12g13
      have Dg12g13 := N_
      clear N_
      have N_ := Lib.hid Dg13g6
      clear Dg13g6
      have Dg13g6 := N_
      clear N_
      have N_ := Lib.hid Dg13gr
      clear Dg13gr
      have Dg13gr := N_
      clear N_
      have N_ := Lib.hid Dg13g12
      clear Dg13g12
      have Dg13g12 := N_
      clear N_
      go_loopw [167] (fun i wr => ∃ a : Nat, a ≤ r ∧ i = .int .i64 a ∧ Aside0 (wr.heap[g6]? = some (.cells #[.int .i64 (m : Int)] 3 (0, 0))) ∧ Aside0 (wr.heap[gr]? = some (.cells (bys ((ks.take a).foldl (endOne m P1 Q1) R1).flatten ++ sp) 23 (0, 0))) ∧ Aside0 (Below w.heap.size w wr) ∧ Aside0 (Below W3.heap.size W3 wr) ∧ Aside0 (wr.heap[g12]? = some (.cells (bys P1) 23 (0, 0))) ∧ Aside0 (wr.heap[g13]? = some (.cells (bys Q1) 23 (0, 0)))) (fun i _ => r - (intOf i).toNat)
      case atStart => exact ⟨0, Nat.zero_le _, rfl, BKg6, BKgr, HB, HBu, BKg12, BKg13⟩
      case round =>
        clear BKg6 BKgr HB HBu BKg12 BKg13
        obtain ⟨a, ha, rfl, BKg6, BKgr, HB, HBu, BKg12, BKg13⟩ := hrel
        by_cases hlt : a < r
        · skip
          have h29 : (a : Int) < (r : Int) := Int.ofNat_lt.2 hlt
          have h2 : decide ((a : Int) < (r : Int)) = true := decide_eq_true h29
          have h20 : (0 : Int) ≤ (a : Int) := Int.natCast_nonneg a
          obtain ⟨x, ex_⟩ : ∃ x, x = ks.getD a 0 := ⟨_, rfl⟩
          have hak : a < ks.length := by rw [← HKS.out]; exact hlt
          have hx : x < m + 2 := by rw [ex_, List.getD_eq_getElem?_getD, List.getElem?_eq_getElem hak]; exact HKL.out _ (List.getElem_mem hak)
          have hx0 : (0 : Int) ≤ (x : Int) := Int.natCast_nonneg x
          have hx1 : (x : Int) < (m : Int) + 2 := Int.ofNat_lt.2 hx
          have hx2 := HW1.out
          have hcl := int_at (i := a) hR3 (by rw [← ER.out]; exact hlt)
          obtain ⟨ad4, e4_, hcl⟩ := hcl
          have hlv : l.getD a 0 = (x : Int) := by rw [EK.out, ex_, List.getD_eq_getElem?_getD, List.getElem?_map, List.getD_eq_getElem?_getD, List.getElem?_eq_getElem hak]; rfl
          rw [hlv] at hcl
          injection e4_ with e4_
          subst e4_
          have HCA := Lib.hid hcl
          have HX := Lib.hid hx
          clear hcl hlv hx
          obtain ⟨S_, eS_⟩ : ∃ S, S = (ks.take a).foldl (endOne m P1 Q1) R1 := ⟨_, rfl⟩
          have sS : Secs S_ := by rw [eS_]; exact foldl_secs (fun _ _ h => endOne_secs SP1.out SQ1.out h) _ R1 SR1.out
          have lS : S_.length = m + 2 := by rw [eS_, foldl_len (fun _ _ => endOne_length)]; exact LR1.out
          have nS : endOne m P1 Q1 S_ x = (ks.take (a + 1)).foldl (endOne m P1 Q1) R1 := by rw [take_succ_foldl hak, ← eS_, ← ex_]
          rw [← eS_] at BKgr
          have SS := Lib.hid sS
          have LS := Lib.hid lS
          have NS := Lib.hid nS
          clear sS lS nS eS_ ex_ hak
          by_cases hxm : x = m
          · skip
            have QA := Lib.hid (show decide ((x : Int) = (m : Int)) = true from decide_eq_true (by rw [hxm]))
            have NW := Lib.hid (show endOne m P1 Q1 S_ x = S_.set x P1 by unfold endOne; rw [if_pos hxm])
            clear hxm
            go_wp2_with (first | ((with_reducible refine gate_dst (N := 170) rfl ?_); go_must (refine Kd.event_run rfl (exec_one (v := .int .i64 (x : Int)) agg3 rfl rfl (pw_cell_below (by repeat (first | (with_reducible first | exact HBu.out | apply below_alloc | apply pw_below_drewN | apply below_drew1) | exact HBu.out)) HCA.out)) ?_)) | ((with_reducible refine gate_dst (N := 173) rfl ?_); go_must (refine Kd.event_run rfl (exec_one (v := .int .i64 (m : Int)) agg3 rfl rfl (Wk.cells1 (by (with_reducible repeat (first | refine blk_drewN ?_ _ | refine blk_drew ?_ | refine blk_alloc ?_ _)); exact BKg6.out))) ?_)) | ((with_reducible refine gate_dst (N := 180) rfl ?_); go_must (refine Kd.event_run rfl (exec_one (v := .int .i64 (m : Int)) agg3 rfl rfl (Wk.cells1 (by (with_reducible repeat (first | refine blk_drewN ?_ _ | refine blk_drew ?_ | refine blk_alloc ?_ _)); exact BKg6.out))) ?_)) | ((with_reducible refine gate_dst (N := 174) rfl ?_); go_must (refine Kd.event_run rfl (exec_eqi rfl rfl rfl QA.out) ?_)) | ((with_reducible refine gate_dst (N := 177) rfl ?_); go_must (refine Kd.event_run rfl (exec_row_all agg23 (by rw [bys_size, SP1.out.len]; exact T23.hi) rfl rfl (by (with_reducible repeat (first | refine blk_drewN ?_ _ | refine blk_drew ?_ | refine blk_alloc ?_ _)); exact BKg12.out)) ?_)) | ((with_reducible refine gate_store (t := 23) (p := 178) rfl ?_); go_must (refine store_event rfl rfl rfl (exec_put (cs' := bys (S_.set x P1).flatten ++ sp) (v := .agg (bys P1)) T23.hi rfl rfl rfl (by show (bys P1).size = 64; rw [bys_size]; exact SP1.out.len) one_agg (by (with_reducible repeat (first | refine blk_drewN ?_ _ | refine blk_drew ?_ | refine blk_alloc ?_ _)); exact BKgr.out) (row_fit SS.out LS.out HX.out) (put_sec (fun l_ h_ => (SS.out l_ h_).len) (by rw [LS.out]; exact HX.out) SP1.out.len)) ?_); intro V1 hW_; have NBKg6_ := Aside0.mk ((by rw [hW_]; exact setRow_far (by (with_reducible repeat (first | refine blk_drewN ?_ _ | refine blk_drew ?_ | refine blk_alloc ?_ _)); exact BKg6.out) Dg6gr.out : V1.heap[g6]? = some (Obj.cells (#[.int .i64 (m : Int)]) 3 (0, 0)))); have NBKgr_ := Aside0.mk ((by rw [hW_]; exact setRow_blk (by (with_reducible repeat (first | refine blk_drewN ?_ _ | refine blk_drew ?_ | refine blk_alloc ?_ _)); exact BKgr.out) : V1.heap[gr]? = some (Obj.cells (bys (S_.set x P1).flatten ++ sp) 23 (0, 0)))); have NBKg12_ := Aside0.mk ((by rw [hW_]; exact setRow_far (by (with_reducible repeat (first | refine blk_drewN ?_ _ | refine blk_drew ?_ | refine blk_alloc ?_ _)); exact BKg12.out) Dg12gr.out : V1.heap[g12]? = some (Obj.cells (bys P1) 23 (0, 0)))); have NBKg13_ := Aside0.mk ((by rw [hW_]; exact setRow_far (by (with_reducible repeat (first | refine blk_drewN ?_ _ | refine blk_drew ?_ | refine blk_alloc ?_ _)); exact BKg13.out) Dg13gr.out : V1.heap[g13]? = some (Obj.cells (bys Q1) 23 (0, 0)))); have NHB_ := Aside0.mk ((by rw [hW_]; exact setRow_below (by repeat (first | (with_reducible first | exact HB.out | apply below_alloc | apply pw_below_drewN | apply below_drew1) | exact HB.out)) GEgr.out : Below w.heap.size w V1)); have NHBu_ := Aside0.mk ((by rw [hW_]; exact setRow_below (by repeat (first | (with_reducible first | exact HBu.out | apply below_alloc | apply pw_below_drewN | apply below_drew1) | exact HBu.out)) GEugr.out : Below W3.heap.size W3 V1)); clear BKg6 BKgr BKg12 BKg13 HB HBu; have BKg6 := NBKg6_; have BKgr := NBKgr_; have BKg12 := NBKg12_; have BKg13 := NBKg13_; have HB := NHB_; have HBu := NHBu_; clear NBKg6_ NBKgr_ NBKg12_ NBKg13_ NHB_ NHBu_; clear hW_))
            go_roundw
            case rel => exact ⟨a + 1, Nat.succ_le_of_lt hlt, by go_num, BKg6, ⟨by rw [← NS.out, NW.out]; exact BKgr.out⟩, HB, HBu, BKg12, BKg13⟩
            case measure => exact meas hlt
          by_cases hxn : x = m + 1
          · skip
            have QA := Lib.hid (show decide ((x : Int) = (m : Int)) = false from decide_eq_false (fun h => hxm (Int.ofNat.inj h)))
            have QB := Lib.hid (show decide ((x : Int) = (m : Int) + 1) = true from decide_eq_true (by rw [hxn]; rfl))
            have NW := Lib.hid (show endOne m P1 Q1 S_ x = S_.set x Q1 by unfold endOne; rw [if_neg hxm, if_pos hxn])
            clear hxm hxn
            go_wp2_with (first | ((with_reducible refine gate_dst (N := 170) rfl ?_); go_must (refine Kd.event_run rfl (exec_one (v := .int .i64 (x : Int)) agg3 rfl rfl (pw_cell_below (by repeat (first | (with_reducible first | exact HBu.out | apply below_alloc | apply pw_below_drewN | apply below_drew1) | exact HBu.out)) HCA.out)) ?_)) | ((with_reducible refine gate_dst (N := 173) rfl ?_); go_must (refine Kd.event_run rfl (exec_one (v := .int .i64 (m : Int)) agg3 rfl rfl (Wk.cells1 (by (with_reducible repeat (first | refine blk_drewN ?_ _ | refine blk_drew ?_ | refine blk_alloc ?_ _)); exact BKg6.out))) ?_)) | ((with_reducible refine gate_dst (N := 180) rfl ?_); go_must (refine Kd.event_run rfl (exec_one (v := .int .i64 (m : Int)) agg3 rfl rfl (Wk.cells1 (by (with_reducible repeat (first | refine blk_drewN ?_ _ | refine blk_drew ?_ | refine blk_alloc ?_ _)); exact BKg6.out))) ?_)) | ((with_reducible refine gate_dst (N := 174) rfl ?_); go_must (refine Kd.event_run rfl (exec_eqi rfl rfl rfl QA.out) ?_)) | ((with_reducible refine gate_dst (N := 181) rfl ?_); go_must (refine Kd.event_run rfl (exec_addi (u := (m : Int)) (v := 1) (r := (m : Int) + 1) rfl rfl rfl HW1.out) ?_)) | ((with_reducible refine gate_dst (N := 182) rfl ?_); go_must (refine Kd.event_run rfl (exec_eqi (v := (m : Int) + 1) rfl rfl rfl QB.out) ?_)) | ((with_reducible refine gate_dst (N := 185) rfl ?_); go_must (refine Kd.event_run rfl (exec_row_all agg23 (by rw [bys_size, SQ1.out.len]; exact T23.hi) rfl rfl (by (with_reducible repeat (first | refine blk_drewN ?_ _ | refine blk_drew ?_ | refine blk_alloc ?_ _)); exact BKg13.out)) ?_)) | ((with_reducible refine gate_store (t := 23) (p := 186) rfl ?_); go_must (refine store_event rfl rfl rfl (exec_put (cs' := bys (S_.set x Q1).flatten ++ sp) (v := .agg (bys Q1)) T23.hi rfl rfl rfl (by show (bys Q1).size = 64; rw [bys_size]; exact SQ1.out.len) one_agg (by (with_reducible repeat (first | refine blk_drewN ?_ _ | refine blk_drew ?_ | refine blk_alloc ?_ _)); exact BKgr.out) (row_fit SS.out LS.out HX.out) (put_sec (fun l_ h_ => (SS.out l_ h_).len) (by rw [LS.out]; exact HX.out) SQ1.out.len)) ?_); intro V1 hW_; have NBKg6_ := Aside0.mk ((by rw [hW_]; exact setRow_far (by (with_reducible repeat (first | refine blk_drewN ?_ _ | refine blk_drew ?_ | refine blk_alloc ?_ _)); exact BKg6.out) Dg6gr.out : V1.heap[g6]? = some (Obj.cells (#[.int .i64 (m : Int)]) 3 (0, 0)))); have NBKgr_ := Aside0.mk ((by rw [hW_]; exact setRow_blk (by (with_reducible repeat (first | refine blk_drewN ?_ _ | refine blk_drew ?_ | refine blk_alloc ?_ _)); exact BKgr.out) : V1.heap[gr]? = some (Obj.cells (bys (S_.set x Q1).flatten ++ sp) 23 (0, 0)))); have NBKg12_ := Aside0.mk ((by rw [hW_]; exact setRow_far (by (with_reducible repeat (first | refine blk_drewN ?_ _ | refine blk_drew ?_ | refine blk_alloc ?_ _)); exact BKg12.out) Dg12gr.out : V1.heap[g12]? = some (Obj.cells (bys P1) 23 (0, 0)))); have NBKg13_ := Aside0.mk ((by rw [hW_]; exact setRow_far (by (with_reducible repeat (first | refine blk_drewN ?_ _ | refine blk_drew ?_ | refine blk_alloc ?_ _)); exact BKg13.out) Dg13gr.out : V1.heap[g13]? = some (Obj.cells (bys Q1) 23 (0, 0)))); have NHB_ := Aside0.mk ((by rw [hW_]; exact setRow_below (by repeat (first | (with_reducible first | exact HB.out | apply below_alloc | apply pw_below_drewN | apply below_drew1) | exact HB.out)) GEgr.out : Below w.heap.size w V1)); have NHBu_ := Aside0.mk ((by rw [hW_]; exact setRow_below (by repeat (first | (with_reducible first | exact HBu.out | apply below_alloc | apply pw_below_drewN | apply below_drew1) | exact HBu.out)) GEugr.out : Below W3.heap.size W3 V1)); clear BKg6 BKgr BKg12 BKg13 HB HBu; have BKg6 := NBKg6_; have BKgr := NBKgr_; have BKg12 := NBKg12_; have BKg13 := NBKg13_; have HB := NHB_; have HBu := NHBu_; clear NBKg6_ NBKgr_ NBKg12_ NBKg13_ NHB_ NHBu_; clear hW_))
            go_roundw
            case rel => exact ⟨a + 1, Nat.succ_le_of_lt hlt, by go_num, BKg6, ⟨by rw [← NS.out, NW.out]; exact BKgr.out⟩, HB, HBu, BKg12, BKg13⟩
            case measure => exact meas hlt
          · skip
            have QA := Lib.hid (show decide ((x : Int) = (m : Int)) = false from decide_eq_false (fun h => hxm (Int.ofNat.inj h)))
            have QB := Lib.hid (show decide ((x : Int) = (m : Int) + 1) = false from decide_eq_false (fun h => hxn (Int.ofNat.inj (h.trans rfl))))
            have NW := Lib.hid (show endOne m P1 Q1 S_ x = S_ by unfold endOne; rw [if_neg hxm, if_neg hxn])
            clear hxm hxn
            go_wp2_with (first | ((with_reducible refine gate_dst (N := 170) rfl ?_); go_must (refine Kd.event_run rfl (exec_one (v := .int .i64 (x : Int)) agg3 rfl rfl (pw_cell_below (by repeat (first | (with_reducible first | exact HBu.out | apply below_alloc | apply pw_below_drewN | apply below_drew1) | exact HBu.out)) HCA.out)) ?_)) | ((with_reducible refine gate_dst (N := 173) rfl ?_); go_must (refine Kd.event_run rfl (exec_one (v := .int .i64 (m : Int)) agg3 rfl rfl (Wk.cells1 (by (with_reducible repeat (first | refine blk_drewN ?_ _ | refine blk_drew ?_ | refine blk_alloc ?_ _)); exact BKg6.out))) ?_)) | ((with_reducible refine gate_dst (N := 180) rfl ?_); go_must (refine Kd.event_run rfl (exec_one (v := .int .i64 (m : Int)) agg3 rfl rfl (Wk.cells1 (by (with_reducible repeat (first | refine blk_drewN ?_ _ | refine blk_drew ?_ | refine blk_alloc ?_ _)); exact BKg6.out))) ?_)) | ((with_reducible refine gate_dst (N := 174) rfl ?_); go_must (refine Kd.event_run rfl (exec_eqi rfl rfl rfl QA.out) ?_)) | ((with_reducible refine gate_dst (N := 181) rfl ?_); go_must (refine Kd.event_run rfl (exec_addi (u := (m : Int)) (v := 1) (r := (m : Int) + 1) rfl rfl rfl HW1.out) ?_)) | ((with_reducible refine gate_dst (N := 182) rfl ?_); go_must (refine Kd.event_run rfl (exec_eqi (v := (m : Int) + 1) rfl rfl rfl QB.out) ?_)))
            go_roundw
            case rel => exact ⟨a + 1, Nat.succ_le_of_lt hlt, by go_num, BKg6, ⟨by rw [← NS.out, NW.out]; exact BKgr.out⟩, HB, HBu, BKg12, BKg13⟩
            case measure => exact meas hlt
        · skip
          obtain rfl : r = a := Nat.le_antisymm (Nat.not_lt.1 hlt) ha
          clear hlt ha BKg6 BKg12 BKg13 HBu
          have sR : Secs (ks.foldl (endOne m P1 Q1) R1) := foldl_secs (fun _ _ h => endOne_secs SP1.out SQ1.out h) ks R1 SR1.out
          have lR : (ks.foldl (endOne m P1 Q1) R1).length = m + 2 := by rw [foldl_len (fun _ _ => endOne_length)]; exact LR1.out
          rw [show ks.take r = ks by rw [HKS.out, List.take_length]] at BKgr
          have eR : fixR L m ks = ks.foldl (endOne m P1 Q1) R1 := by unfold fixR fixEnd; rw [← EZR.out, ← ER1.out, ← EP1.out, ← EQ1.out]
          rw [← eR] at BKgr sR lR
          have SR := Lib.hid sR
          have LR := Lib.hid lR
          clear sR lR eR
          go_wp2
          exact bodyPost_ret (v := .tuple #[.slice (some ⟨gr, 0, none⟩) (m + 2) cr, .int .i64 0]) (results_list (rs := [.tmp 4, .tmp 5]) rfl (by simp) (.tmp (.tmp .nil))) rfl ⟨_, rfl, by
            have h := Own.of_block (fun l_ h_ => (SR.out l_ h_).len) GEgr.out BKgr.out (by rw [LR.out]; exact hcr) hcmr (by rw [LR.out]; exact hspr)
            rw [LR.out] at h
            exact h, HB.out⟩
set_option maxHeartbeats 4000000 in
set_option maxRecDepth 100000 in
theorem fix_dd (A B : Option Addr) (n c m2 c2 : Nat) (L : List (List Nat)) (zs l : List Int) (w : World) (hC : Kd.C seK w A n L) (hS : Secs L) (hc : n ≤ c) (hcm : c ≤ 9223372036854775807) (hR : ReadsInt w .i64 B m2 zs) (hm2 : m2 ≤ 100) (EL : Hid (l = unl zs)) (ks : List Nat) (el : l = ks.map (fun k : Nat => (k : Int))) (hkl : ∀ k ∈ ks, k < n) (h : 3 ≤ n) (h64 : n ≤ 64) (h2 : l.length ≤ 2) (i j : Nat) (hks0 : ks = [i, j]) (hij : i < j) (hj : j < n - 2) : Calls Try.prog 22 #[.slice A n c, .slice B m2 c2] w fun e w' => ∃ v, e = .returned (.tuple #[v, .int .i64 0]) ∧ Own w' w.heap.size v (fixR L (n - 2) ks) ∧ Below w.heap.size w w' := by
  have HB := Aside0.mk (Below.refl w.heap.size w)
  obtain ⟨m, rfl⟩ : ∃ m, n = m + 2 := ⟨n - 2, by omega⟩
  have hw : wrap64 (((m + 2 : Nat) : Int) - 2) = (m : Int) := by have := le_C hC; unfold wrap64; omega
  have d1 : decide ((m : Int) < 1) = false := by simp; omega
  have d9 : decide ((62 : Int) < (m : Int)) = false := by simp; omega
  obtain ⟨r, er⟩ : ∃ r, r = l.length := ⟨_, rfl⟩
  have d8 : decide ((2 : Int) < (r : Int)) = false := by simp; omega
  have hLn := len_C hC
  obtain ⟨ad, rfl⟩ := sec_head hC (by omega)
  have hks : r = ks.length := by rw [er, el, List.length_map]
  have hcc : (m : Int) ≤ (c : Int) := by omega
  have EKS := Lib.hid hks0
  have EK_ := Lib.hid el
  have h0 : 0 < l.length := by rw [el, hks0]; simp
  have hr2 : r = 2 := by rw [er, el, hks0]; simp
  have HI2 := Lib.hid (show i < m + 2 by omega)
  have HJ2 := Lib.hid (show j < m + 2 by omega)
  have D2 := Lib.hid (show decide ((r : Int) = 2) = true by simp; omega)
  have HNI := Lib.hid (show i < m by omega)
  have HNJ := Lib.hid (show j < m by omega)
  have HUV := Lib.hid (show pwZ (i : Int) ^^^ pwZ (j : Int) ≠ 0 from fun h_ => by
    have h2_ := eq_of_xor h_
    rw [pwZ_nat, pwZ_nat] at h2_
    have := pw_inj (by omega) (by omega) h2_
    omega)
  have DJ := Lib.hid (show decide ((j : Int) < (m : Int)) = true by simp; omega)
  have HL0 := Lib.hid (show 0 < l.length by omega)
  have HL1 := Lib.hid (show r - 1 < l.length by omega)
  obtain ⟨z, ez⟩ : ∃ z, z = l.getD 0 0 := ⟨_, rfl⟩
  obtain ⟨y, ey⟩ : ∃ z, z = l.getD (r - 1) 0 := ⟨_, rfl⟩
  have hin : ∀ q, q < l.length → l.getD q 0 = ((ks.getD q 0 : Nat) : Int) ∧ ks.getD q 0 < m + 2 := fun q hq => by
    have hq2 : q < ks.length := by rw [← hks, er]; exact hq
    refine ⟨by rw [el, List.getD_eq_getElem?_getD, List.getElem?_map, List.getD_eq_getElem?_getD, List.getElem?_eq_getElem hq2]; rfl, ?_⟩
    rw [List.getD_eq_getElem?_getD, List.getElem?_eq_getElem hq2]
    exact hkl _ (List.getElem_mem hq2)
  have hzy : 0 ≤ z ∧ y < (m : Int) + 2 := by
    obtain ⟨h2, h1⟩ := hin 0 (by omega)
    obtain ⟨h4, h3⟩ := hin (r - 1) (by omega)
    rw [ez, ey, h2, h4]
    exact ⟨by omega, by omega⟩
  have e1 : decide ((0 : Int) < (r : Int)) = true := by simp; omega
  have e2 : decide (z < 0) = false := by simp; omega
  have e3 : decide ((m : Int) + 2 ≤ y) = false := by simp; omega
  have e4 : wrap64 ((r : Int) - 1) = (r : Int) - 1 := by have := le_C hC; unfold wrap64; omega
  have e5 : (r : Int) - 1 < (r : Int) := by omega
  have e6 : (0 : Int) < (r : Int) := by omega
  have e7 : (0 : Int) ≤ (r : Int) - 1 := by omega
  have EZ := Lib.hid ez
  have EY := Lib.hid ey
  have HIN := Lib.hid hin
  clear ez ey hzy hin
  have ZI := Lib.hid (show z = (i : Int) by rw [EZ.out, (HIN.out 0 HL0.out).1, EKS.out]; rfl)
  have YJ := Lib.hid (show y = (j : Int) by rw [EY.out, (HIN.out (r - 1) HL1.out).1, EKS.out, hr2]; rfl)
  have R1_ := Lib.hid (show r - 1 = 1 by rw [hr2])
  have R2_ := Lib.hid hr2
  clear hks0 hr2 hij hj
  have ER := Lib.hid er
  have EK := Lib.hid el
  have HKS := Lib.hid hks
  have HKL := Lib.hid hkl
  have LN := Lib.hid hLn
  have HS := Lib.hid hS
  have HP := Lib.hid (show 0 < L.length by omega)
  have HW1 := Lib.hid (show wrap64 ((m : Int) + 1) = (m : Int) + 1 by unfold wrap64; omega)
  have HMB := Lib.hid (show m + 2 ≤ 100 by omega)
  have HM1 := Lib.hid (show 1 ≤ m by omega)
  have HM2 := Lib.hid (show m ≤ 62 by omega)
  clear er el hks hkl hLn hS
  go_enter Try.func22, Try.ntmps22
  go_wp2_with (first | ((with_reducible refine gate_store (t := 3) (p := 6) rfl ?_); go_must (obtain ⟨q0_, nb_⟩ := Wk.blks1 w (Obj.cells (#[.int .i64 0]) 3 (0, 0)); obtain ⟨W1, hW_⟩ : ∃ W, W = (w.alloc (Obj.cells (#[.int .i64 0]) 3 (0, 0))) := ⟨_, rfl⟩; rw [← hW_]; rw [← hW_] at q0_; rw [← hW_] at nb_; have sz_ := below_size HB.out; have hb2_ := Aside0.mk (below_step HB.out nb_); obtain ⟨g6, hgg6_⟩ : ∃ g, g = w.heap.size := ⟨_, rfl⟩; rw [← hgg6_]; rw [← hgg6_] at q0_; have hge_ : w.heap.size ≤ g6 := (by omega); have GEg6 := Aside0.mk hge_; clear hge_; have BKg6 := Aside0.mk q0_; clear HB; have HB := hb2_; clear hb2_ sz_ hW_ nb_ hgg6_ q0_); ((with_reducible refine gate_store (t := 3) (p := 6) rfl ?_); go_must (refine store_event rfl rfl rfl (exec_put (cs' := #[.int .i64 ((m : Int))]) (v := .int .i64 ((m : Int))) (show (Try.prog.info? 3).map (·.size) = some 1 by kernel_rfl) rfl rfl rfl rfl one_int (by (with_reducible repeat (first | refine blk_drewN ?_ _ | refine blk_drew ?_ | refine blk_alloc ?_ _)); exact BKg6.out) (by exact Nat.le_refl 1) (by rfl)) ?_); intro W2 hW_; have NBKg6_ := Aside0.mk ((by rw [hW_]; exact setRow_blk (by (with_reducible repeat (first | refine blk_drewN ?_ _ | refine blk_drew ?_ | refine blk_alloc ?_ _)); exact BKg6.out) : W2.heap[g6]? = some (Obj.cells (#[.int .i64 ((m : Int))]) 3 (0, 0)))); have NHB_ := Aside0.mk ((by rw [hW_]; exact setRow_below (by repeat (first | (with_reducible first | exact HB.out | apply below_alloc | apply pw_below_drewN | apply below_drew1) | exact HB.out)) GEg6.out : Below w.heap.size w W2)); clear BKg6 HB; have BKg6 := NBKg6_; have HB := NHB_; clear NBKg6_ NHB_; clear hW_)) | ((go_at_call 33; go_must ((with_reducible refine (unlike_calls B m2 c2 zs _ (hR.below (by repeat (first | (with_reducible first | exact HB.out | apply below_alloc | apply pw_below_drewN | apply below_drew1) | exact HB.out))) hm2).mono ?_); rintro e W3 ⟨A2, c3, rfl, hc3, hcm3, hR3, hb⟩; rw [← EL.out] at hc3 hR3 ⊢; rw [← ER.out] at hc3 ⊢; have NBKg6_ := Aside0.mk (blk_below (o := (Obj.cells (#[.int .i64 ((m : Int))]) 3 (0, 0))) (by (with_reducible repeat (first | refine blk_drewN ?_ _ | refine blk_drew ?_ | refine blk_alloc ?_ _)); exact BKg6.out) hb); have NHB_ := Aside0.mk (below_step (by repeat (first | (with_reducible first | exact HB.out | apply below_alloc | apply pw_below_drewN | apply below_drew1) | exact HB.out)) hb); clear BKg6 HB; have BKg6 := NBKg6_; have HB := NHB_; clear NBKg6_ NHB_; clear hb)); have HBu := Aside0.mk (Below.refl W3.heap.size W3); go_must (have hcl := (int_at hR3 HL0.out); obtain ⟨ad2, rfl, hcl⟩ := hcl; rw [← EZ.out] at hcl; have HCL := Lib.hid hcl; clear hcl; have hcl := (int_at hR3 HL1.out); obtain ⟨ad3, e3_, hcl⟩ := hcl; injection e3_ with e3_; subst e3_; rw [← EY.out] at hcl; have HCY := Lib.hid hcl; clear hcl)) | ((with_reducible refine gate_dst (N := 24) rfl ?_); go_must (refine Kd.event_run rfl (exec_one (v := .int .i64 (m : Int)) agg3 rfl rfl (Wk.cells1 (by (with_reducible repeat (first | refine blk_drewN ?_ _ | refine blk_drew ?_ | refine blk_alloc ?_ _)); exact BKg6.out))) ?_)) | ((with_reducible refine gate_dst (N := 33) rfl ?_); go_must (refine event_run_g (by rfl) (exec_one (v := .int .i64 z) agg3 rfl rfl HCL.out) ?_)) | ((with_reducible refine gate_dst (N := 41) rfl ?_); go_must (refine event_run_g (by rfl) (exec_one (v := .int .i64 y) agg3 rfl rfl HCY.out) ?_)) | ((with_reducible refine gate_dst (N := 49) rfl ?_); go_must (refine Kd.event_run rfl (exec_one (v := .int .i64 (m : Int)) agg3 rfl rfl (Wk.cells1 (by (with_reducible repeat (first | refine blk_drewN ?_ _ | refine blk_drew ?_ | refine blk_alloc ?_ _)); exact BKg6.out))) ?_)) | ((go_at_call 34; go_must ((with_reducible refine (cloneS_calls (some ad) (m + 2) c L _ (Kd.C_below hC (by repeat (first | (with_reducible first | exact HB.out | apply below_alloc | apply pw_below_drewN | apply below_drew1) | exact HB.out))) (by omega) (by have := HM2.out; omega)).mono ?_); rintro e W4 ⟨v8, rfl, OW_, hb⟩; obtain ⟨gr, cr, sp, rfl, hge_, hbk_, hcr, hcmr, hspr⟩ := Own.block1 OW_ HP.out; clear OW_; rw [LN.out] at hcr hspr ⊢; have lt_ := blk_lt ((by (with_reducible repeat (first | refine blk_drewN ?_ _ | refine blk_drew ?_ | refine blk_alloc ?_ _)); exact BKg6.out) : _ = some (Obj.cells (#[.int .i64 ((m : Int))]) 3 (0, 0))); have Dg6gr : g6 ≠ gr := (by omega); have Dgrg6 : gr ≠ g6 := (by omega); have GEgr := Aside0.mk (Nat.le_trans (below_size (by repeat (first | (with_reducible first | exact HB.out | apply below_alloc | apply pw_below_drewN | apply below_drew1) | exact HB.out))) hge_); have GEugr := Aside0.mk (Nat.le_trans (below_size (by repeat (first | (with_reducible first | exact HBu.out | apply below_alloc | apply pw_below_drewN | apply below_drew1) | exact HBu.out))) hge_); clear lt_ hge_; have NBKg6_ := Aside0.mk (blk_below (o := (Obj.cells (#[.int .i64 ((m : Int))]) 3 (0, 0))) (by (with_reducible repeat (first | refine blk_drewN ?_ _ | refine blk_drew ?_ | refine blk_alloc ?_ _)); exact BKg6.out) hb); have NHB_ := Aside0.mk (below_step (by repeat (first | (with_reducible first | exact HB.out | apply below_alloc | apply pw_below_drewN | apply below_drew1) | exact HB.out)) hb); have NHBu_ := Aside0.mk (below_step (by repeat (first | (with_reducible first | exact HBu.out | apply below_alloc | apply pw_below_drewN | apply below_drew1) | exact HBu.out)) hb); clear BKg6 HB HBu; have BKg6 := NBKg6_; have HB := NHB_; have HBu := NHBu_; clear NBKg6_ NHB_ NHBu_; clear hb)); have BKgr := Aside0.mk hbk_; clear hbk_))
  go_loopw [59] (fun i wr => ∃ a : Nat, a ≤ r ∧ i = .int .i64 a ∧ Aside0 (wr.heap[g6]? = some (.cells #[.int .i64 (m : Int)] 3 (0, 0))) ∧ Aside0 (wr.heap[gr]? = some (.cells (bys (zeroed L (ks.take a)).flatten ++ sp) 23 (0, 0))) ∧ Aside0 (Below w.heap.size w wr) ∧ Aside0 (Below W3.heap.size W3 wr)) (fun i _ => r - (intOf i).toNat)
  case atStart => exact ⟨0, by omega, rfl, BKg6, BKgr, HB, HBu⟩
  case round =>
    clear BKg6 BKgr HB HBu
    obtain ⟨a, ha, rfl, BKg6, BKgr, HB, HBu⟩ := hrel
    by_cases hlt : a < r
    · skip
      have h2 : decide ((a : Int) < (r : Int)) = true := by simp; omega
      have h20 : (0 : Int) ≤ (a : Int) := by omega
      have h29 : (a : Int) < (r : Int) := by omega
      obtain ⟨x, ex_⟩ : ∃ x, x = ks.getD a 0 := ⟨_, rfl⟩
      have hak : a < ks.length := by rw [← HKS.out]; exact hlt
      have hx : x < m + 2 := by rw [ex_, List.getD_eq_getElem?_getD, List.getElem?_eq_getElem hak]; exact HKL.out _ (List.getElem_mem hak)
      have hx0 : (0 : Int) ≤ (x : Int) := by omega
      have hx1 : (x : Int) < (m : Int) + 2 := by omega
      have hcl := int_at (i := a) hR3 (by rw [← ER.out]; exact hlt)
      obtain ⟨ad4, e4_, hcl⟩ := hcl
      have hlv : l.getD a 0 = (x : Int) := by rw [EK.out, ex_, List.getD_eq_getElem?_getD, List.getElem?_map, List.getD_eq_getElem?_getD, List.getElem?_eq_getElem hak]; rfl
      rw [hlv] at hcl
      injection e4_ with e4_
      subst e4_
      have HCA := Lib.hid hcl
      have HX := Lib.hid hx
      clear hcl hlv hx
      obtain ⟨S_, eS_⟩ : ∃ S, S = zeroed L (ks.take a) := ⟨_, rfl⟩
      have sS : Secs S_ := by rw [eS_]; exact zeroed_secs HS.out
      have lS : S_.length = m + 2 := by rw [eS_, zeroed_length]; exact LN.out
      have nS : S_.set x zeros = zeroed L (ks.take (a + 1)) := by
        unfold zeroed at eS_ ⊢
        rw [take_succ_foldl hak, ← eS_, ← ex_]
      rw [← eS_] at BKgr
      have SS := Lib.hid sS
      have LS := Lib.hid lS
      have NS := Lib.hid nS
      clear sS lS nS eS_ ex_ hak
      go_wp2_with (first | ((with_reducible refine gate_dst (N := 62) rfl ?_); go_must (refine Kd.event_run rfl (exec_one (v := .int .i64 (x : Int)) agg3 rfl rfl (pw_cell_below (by repeat (first | (with_reducible first | exact HBu.out | apply below_alloc | apply pw_below_drewN | apply below_drew1) | exact HBu.out)) HCA.out)) ?_)) | ((with_reducible refine gate_store (t := 23) (p := 66) rfl ?_); go_must (refine store_event rfl rfl rfl (exec_put (cs' := bys (S_.set x zeros).flatten ++ sp) (v := .agg (bys zeros)) T23.hi rfl rfl rfl (by show (bys zeros).size = 64; rw [bys_size]; exact zeros_length) one_agg (by (with_reducible repeat (first | refine blk_drewN ?_ _ | refine blk_drew ?_ | refine blk_alloc ?_ _)); exact BKgr.out) (row_fit SS.out LS.out HX.out) (put_sec (fun l_ h_ => (SS.out l_ h_).len) (by rw [LS.out]; exact HX.out) zeros_length)) ?_); intro V1 hW_; have NBKg6_ := Aside0.mk ((by rw [hW_]; exact setRow_far (by (with_reducible repeat (first | refine blk_drewN ?_ _ | refine blk_drew ?_ | refine blk_alloc ?_ _)); exact BKg6.out) Dg6gr : V1.heap[g6]? = some (Obj.cells (#[.int .i64 (m : Int)]) 3 (0, 0)))); have NBKgr_ := Aside0.mk ((by rw [hW_]; exact setRow_blk (by (with_reducible repeat (first | refine blk_drewN ?_ _ | refine blk_drew ?_ | refine blk_alloc ?_ _)); exact BKgr.out) : V1.heap[gr]? = some (Obj.cells (bys (S_.set x zeros).flatten ++ sp) 23 (0, 0)))); have NHB_ := Aside0.mk ((by rw [hW_]; exact setRow_below (by repeat (first | (with_reducible first | exact HB.out | apply below_alloc | apply pw_below_drewN | apply below_drew1) | exact HB.out)) GEgr.out : Below w.heap.size w V1)); have NHBu_ := Aside0.mk ((by rw [hW_]; exact setRow_below (by repeat (first | (with_reducible first | exact HBu.out | apply below_alloc | apply pw_below_drewN | apply below_drew1) | exact HBu.out)) GEugr.out : Below W3.heap.size W3 V1)); clear BKg6 BKgr HB HBu; have BKg6 := NBKg6_; have BKgr := NBKgr_; have HB := NHB_; have HBu := NHBu_; clear NBKg6_ NBKgr_ NHB_ NHBu_; clear hW_))
      go_roundw
      case rel => exact ⟨a + 1, by omega, by go_num, BKg6, ⟨by rw [← NS.out]; exact BKgr.out⟩, HB, HBu⟩
      case measure => simp [intOf] <;> omega
    · skip
      obtain rfl : r = a := by omega
      clear hlt ha
      obtain ⟨Zr, eZ⟩ : ∃ S, S = zeroed L ks := ⟨_, rfl⟩
      rw [show ks.take r = ks by rw [HKS.out, List.take_length], ← eZ] at BKgr
      have sZ : Secs Zr := by rw [eZ]; exact zeroed_secs HS.out
      have lZ : Zr.length = m + 2 := by rw [eZ, zeroed_length]; exact LN.out
      obtain ⟨P0, eP0⟩ : ∃ S, S = psum Zr m := ⟨_, rfl⟩
      obtain ⟨Q0, eQ0⟩ : ∃ S, S = qsum Zr m := ⟨_, rfl⟩
      have sP0 : Sec P0 := by rw [eP0]; exact psum_sec sZ m (by omega)
      have sQ0 : Sec Q0 := by rw [eQ0]; exact qsum_sec sZ m (by omega)
      have hcr2 : (m : Int) ≤ (cr : Int) := by omega
      have hm0 : (0 : Int) ≤ (m : Int) := by omega
      have hend : decide ((r : Int) < (r : Int)) = false := by simp
      have EZR := Lib.hid eZ
      have SZ := Lib.hid sZ
      have LZ := Lib.hid lZ
      have EP0 := Lib.hid eP0
      have EQ0 := Lib.hid eQ0
      have SP0 := Lib.hid sP0
      have SQ0 := Lib.hid sQ0
      clear eZ sZ lZ eP0 eQ0 sP0 sQ0
      have tok1 := Lib.hid trivial
      have tok2 := Lib.hid trivial
      have EF1 := Lib.hid (show Lib.idxBy (fun _ y => decide (y < (m : Int))) l default = 0 by rw [EK.out, EKS.out]; simp [Lib.idxBy, Lib.idxByFrom]; have := HNI.out; omega)
      obtain ⟨R1, eR1⟩ : ∃ R, R = fixMid Zr m ks := ⟨_, rfl⟩
      have eq1 : R1 = (Zr.set i (twoA (xorL (Zr.getD m []) P0) (xorL (Zr.getD (m + 1) []) Q0) (pwZ (i : Int)) (pwZ (j : Int)))).set j (twoB (xorL (Zr.getD m []) P0) (xorL (Zr.getD (m + 1) []) Q0) (pwZ (i : Int)) (pwZ (j : Int))) := by rw [eR1, EKS.out]; simp only [fixMid]; rw [if_pos HNJ.out, ← EP0.out, ← EQ0.out]
      have sR1 : Secs R1 := by rw [eq1]; exact set_secs (set_secs SZ.out (twoA_sec (xorL_sec (SZ.out.at (by rw [LZ.out]; omega)) SP0.out) (xorL_sec (SZ.out.at (by rw [LZ.out]; omega)) SQ0.out))) (twoB_sec (xorL_sec (SZ.out.at (by rw [LZ.out]; omega)) SP0.out) (xorL_sec (SZ.out.at (by rw [LZ.out]; omega)) SQ0.out))
      have lR1 : R1.length = m + 2 := by rw [eq1]; rw [List.length_set, List.length_set]; exact LZ.out
      obtain ⟨P1, eP1⟩ : ∃ S, S = psum R1 m := ⟨_, rfl⟩
      obtain ⟨Q1, eQ1⟩ : ∃ S, S = qsum R1 m := ⟨_, rfl⟩
      have sP1 : Sec P1 := by rw [eP1]; exact psum_sec sR1 m (by omega)
      have sQ1 : Sec Q1 := by rw [eQ1]; exact qsum_sec sR1 m (by omega)
      have ER1 := Lib.hid eR1
      have EQR := Lib.hid eq1
      have SR1 := Lib.hid sR1
      have LR1 := Lib.hid lR1
      have EP1 := Lib.hid eP1
      have EQ1 := Lib.hid eQ1
      have SP1 := Lib.hid sP1
      have SQ1 := Lib.hid sQ1
      clear eR1 eq1 sR1 lR1 eP1 eQ1 sP1 sQ1
      go_wp2_with (first | ((with_reducible refine gate_dst (N := 69) rfl ?_); go_must (refine Kd.event_run rfl (exec_one (v := .int .i64 (m : Int)) agg3 rfl rfl (Wk.cells1 (by (with_reducible repeat (first | refine blk_drewN ?_ _ | refine blk_drew ?_ | refine blk_alloc ?_ _)); exact BKg6.out))) ?_)) | (go_at_call 30; have tk_ := tok1; clear tk_ tok1; go_must ((with_reducible refine (plain_calls _ m cr (Zr.take m) _ (C_take (c_row (by (with_reducible repeat (first | refine blk_drewN ?_ _ | refine blk_drew ?_ | refine blk_alloc ?_ _)); exact BKgr.out) SZ.out LZ.out (by have := HM2.out; omega)) (by omega)) (secs_take SZ.out m)).mono ?_); rintro e X1 ⟨rfl, hb⟩; rw [psum_take m (Nat.le_refl m), qsum_take m (Nat.le_refl m), ← EP0.out, ← EQ0.out]; have NBKg6_ := Aside0.mk (blk_below (o := (Obj.cells (#[.int .i64 (m : Int)]) 3 (0, 0))) (by (with_reducible repeat (first | refine blk_drewN ?_ _ | refine blk_drew ?_ | refine blk_alloc ?_ _)); exact BKg6.out) hb); have NBKgr_ := Aside0.mk (blk_below (o := (Obj.cells (bys (Zr).flatten ++ sp) 23 (0, 0))) (by (with_reducible repeat (first | refine blk_drewN ?_ _ | refine blk_drew ?_ | refine blk_alloc ?_ _)); exact BKgr.out) hb); have NHB_ := Aside0.mk (below_step (by repeat (first | (with_reducible first | exact HB.out | apply below_alloc | apply pw_below_drewN | apply below_drew1) | exact HB.out)) hb); have NHBu_ := Aside0.mk (below_step (by repeat (first | (with_reducible first | exact HBu.out | apply below_alloc | apply pw_below_drewN | apply below_drew1) | exact HBu.out)) hb); clear BKg6 BKgr HB HBu; have BKg6 := NBKg6_; have BKgr := NBKgr_; have HB := NHB_; have HBu := NHBu_; clear NBKg6_ NBKgr_ NHB_ NHBu_; clear hb)) | ((with_reducible refine gate_store (t := 23) (p := 12) rfl ?_); go_must (rw [zlit]; obtain ⟨q0_, q1_, nb_⟩ := Wk.blks2 X1 (Obj.cells (bys zeros) 23 (0, 0)) (Obj.cells (bys zeros) 23 (0, 0)); obtain ⟨X2, hW_⟩ : ∃ W, W = ((X1.alloc (Obj.cells (bys zeros) 23 (0, 0))).alloc (Obj.cells (bys zeros) 23 (0, 0))) := ⟨_, rfl⟩; rw [← hW_]; rw [← hW_] at q0_; rw [← hW_] at q1_; rw [← hW_] at nb_; have mg6_ := blk_below BKg6.out nb_; have mgr_ := blk_below BKgr.out nb_; have sz_ := below_size HB.out; have szu_ := below_size HBu.out; have ltg6_ := blk_lt BKg6.out; have ltgr_ := blk_lt BKgr.out; have hb2_ := Aside0.mk (below_step HB.out nb_); have hb2u_ := Aside0.mk (below_step HBu.out nb_); obtain ⟨g12, hgg12_⟩ : ∃ g, g = X1.heap.size := ⟨_, rfl⟩; obtain ⟨g13, hgg13_⟩ : ∃ g, g = X1.heap.size + 1 := ⟨_, rfl⟩; rw [← hgg13_]; rw [← hgg13_] at q1_; rw [← hgg12_]; rw [← hgg12_] at q0_; have hge_ : w.heap.size ≤ g12 := (by omega); have GEg12 := Aside0.mk hge_; clear hge_; have hge_ : W3.heap.size ≤ g12 := (by omega); have GEug12 := Aside0.mk hge_; clear hge_; have Dg6g12 : g6 ≠ g12 := (by omega); have Dg12g6 : g12 ≠ g6 := (by omega); have Dgrg12 : gr ≠ g12 := (by omega); have Dg12gr : g12 ≠ gr := (by omega); have hge_ : w.heap.size ≤ g13 := (by omega); have GEg13 := Aside0.mk hge_; clear hge_; have hge_ : W3.heap.size ≤ g13 := (by omega); have GEug13 := Aside0.mk hge_; clear hge_; have Dg6g13 : g6 ≠ g13 := (by omega); have Dg13g6 : g13 ≠ g6 := (by omega); have Dgrg13 : gr ≠ g13 := (by omega); have Dg13gr : g13 ≠ gr := (by omega); have Dg12g13 : g12 ≠ g13 := (by omega); have Dg13g12 : g13 ≠ g12 := (by omega); have BNg6 := Aside0.mk mg6_; clear BKg6; have BKg6 := BNg6; clear BNg6 ltg6_ mg6_; have BNgr := Aside0.mk mgr_; clear BKgr; have BKgr := BNgr; clear BNgr ltgr_ mgr_; have BKg12 := Aside0.mk q0_; have BKg13 := Aside0.mk q1_; clear HB HBu; have HB := hb2_; have HBu := hb2u_; clear hb2_ hb2u_ sz_ szu_ hW_ nb_ hgg12_ hgg13_ q0_ q1_); ((with_reducible refine gate_store (t := 23) (p := 12) rfl ?_); go_must (refine store_event rfl rfl rfl (exec_put (cs' := bys P0) T23.hi rfl rfl rfl (by show (bys P0).size = 64; rw [bys_size]; exact SP0.out.len) one_agg (by (with_reducible repeat (first | refine blk_drewN ?_ _ | refine blk_drew ?_ | refine blk_alloc ?_ _)); exact BKg12.out) (by rw [bys_size, zeros_length]; omega) (putc_all ((bys_size _).trans ((zeros_length).trans ((SP0.out.len).symm.trans (bys_size _).symm))))) ?_); intro X3 hW_; have NBKg6_ := Aside0.mk ((by rw [hW_]; exact setRow_far (by (with_reducible repeat (first | refine blk_drewN ?_ _ | refine blk_drew ?_ | refine blk_alloc ?_ _)); exact BKg6.out) Dg6g12 : X3.heap[g6]? = some (Obj.cells (#[.int .i64 (m : Int)]) 3 (0, 0)))); have NBKgr_ := Aside0.mk ((by rw [hW_]; exact setRow_far (by (with_reducible repeat (first | refine blk_drewN ?_ _ | refine blk_drew ?_ | refine blk_alloc ?_ _)); exact BKgr.out) Dgrg12 : X3.heap[gr]? = some (Obj.cells (bys (Zr).flatten ++ sp) 23 (0, 0)))); have NBKg12_ := Aside0.mk ((by rw [hW_]; exact setRow_blk (by (with_reducible repeat (first | refine blk_drewN ?_ _ | refine blk_drew ?_ | refine blk_alloc ?_ _)); exact BKg12.out) : X3.heap[g12]? = some (Obj.cells (bys P0) 23 (0, 0)))); have NBKg13_ := Aside0.mk ((by rw [hW_]; exact setRow_far (by (with_reducible repeat (first | refine blk_drewN ?_ _ | refine blk_drew ?_ | refine blk_alloc ?_ _)); exact BKg13.out) Dg13g12 : X3.heap[g13]? = some (Obj.cells (bys zeros) 23 (0, 0)))); have NHB_ := Aside0.mk ((by rw [hW_]; exact setRow_below (by repeat (first | (with_reducible first | exact HB.out | apply below_alloc | apply pw_below_drewN | apply below_drew1) | exact HB.out)) GEg12.out : Below w.heap.size w X3)); have NHBu_ := Aside0.mk ((by rw [hW_]; exact setRow_below (by repeat (first | (with_reducible first | exact HBu.out | apply below_alloc | apply pw_below_drewN | apply below_drew1) | exact HBu.out)) GEug12.out : Below W3.heap.size W3 X3)); clear BKg6 BKgr BKg12 BKg13 HB HBu; have BKg6 := NBKg6_; have BKgr := NBKgr_; have BKg12 := NBKg12_; have BKg13 := NBKg13_; have HB := NHB_; have HBu := NHBu_; clear NBKg6_ NBKgr_ NBKg12_ NBKg13_ NHB_ NHBu_; clear hW_)) | ((with_reducible refine gate_store (t := 23) (p := 13) rfl ?_); go_must (refine store_event rfl rfl rfl (exec_put (cs' := bys Q0) T23.hi rfl rfl rfl (by show (bys Q0).size = 64; rw [bys_size]; exact SQ0.out.len) one_agg (by (with_reducible repeat (first | refine blk_drewN ?_ _ | refine blk_drew ?_ | refine blk_alloc ?_ _)); exact BKg13.out) (by rw [bys_size, zeros_length]; omega) (putc_all ((bys_size _).trans ((zeros_length).trans ((SQ0.out.len).symm.trans (bys_size _).symm))))) ?_); intro X4 hW_; have NBKg6_ := Aside0.mk ((by rw [hW_]; exact setRow_far (by (with_reducible repeat (first | refine blk_drewN ?_ _ | refine blk_drew ?_ | refine blk_alloc ?_ _)); exact BKg6.out) Dg6g13 : X4.heap[g6]? = some (Obj.cells (#[.int .i64 (m : Int)]) 3 (0, 0)))); have NBKgr_ := Aside0.mk ((by rw [hW_]; exact setRow_far (by (with_reducible repeat (first | refine blk_drewN ?_ _ | refine blk_drew ?_ | refine blk_alloc ?_ _)); exact BKgr.out) Dgrg13 : X4.heap[gr]? = some (Obj.cells (bys (Zr).flatten ++ sp) 23 (0, 0)))); have NBKg12_ := Aside0.mk ((by rw [hW_]; exact setRow_far (by (with_reducible repeat (first | refine blk_drewN ?_ _ | refine blk_drew ?_ | refine blk_alloc ?_ _)); exact BKg12.out) Dg12g13 : X4.heap[g12]? = some (Obj.cells (bys P0) 23 (0, 0)))); have NBKg13_ := Aside0.mk ((by rw [hW_]; exact setRow_blk (by (with_reducible repeat (first | refine blk_drewN ?_ _ | refine blk_drew ?_ | refine blk_alloc ?_ _)); exact BKg13.out) : X4.heap[g13]? = some (Obj.cells (bys Q0) 23 (0, 0)))); have NHB_ := Aside0.mk ((by rw [hW_]; exact setRow_below (by repeat (first | (with_reducible first | exact HB.out | apply below_alloc | apply pw_below_drewN | apply below_drew1) | exact HB.out)) GEg13.out : Below w.heap.size w X4)); have NHBu_ := Aside0.mk ((by rw [hW_]; exact setRow_below (by repeat (first | (with_reducible first | exact HBu.out | apply below_alloc | apply pw_below_drewN | apply below_drew1) | exact HBu.out)) GEug13.out : Below W3.heap.size W3 X4)); clear BKg6 BKgr BKg12 BKg13 HB HBu; have BKg6 := NBKg6_; have BKgr := NBKgr_; have BKg12 := NBKg12_; have BKg13 := NBKg13_; have HB := NHB_; have HBu := NHBu_; clear NBKg6_ NBKgr_ NBKg12_ NBKg13_ NHB_ NHBu_; clear hW_) | (go_at_call 35; go_must ((with_reducible refine (first_calls2 _ c3 m g6 r l _ ER.out (hR3.below (by repeat (first | (with_reducible first | exact HBu.out | apply below_alloc | apply pw_below_drewN | apply below_drew1) | exact HBu.out))) (by (with_reducible repeat (first | refine blk_drewN ?_ _ | refine blk_drew ?_ | refine blk_alloc ?_ _)); exact BKg6.out)).mono ?_); rintro e X5 ⟨rfl, hb⟩; rw [EF1.out]; have NBKg6_ := Aside0.mk (blk_below (o := (Obj.cells (#[.int .i64 (m : Int)]) 3 (0, 0))) (by (with_reducible repeat (first | refine blk_drewN ?_ _ | refine blk_drew ?_ | refine blk_alloc ?_ _)); exact BKg6.out) hb); have NBKgr_ := Aside0.mk (blk_below (o := (Obj.cells (bys (Zr).flatten ++ sp) 23 (0, 0))) (by (with_reducible repeat (first | refine blk_drewN ?_ _ | refine blk_drew ?_ | refine blk_alloc ?_ _)); exact BKgr.out) hb); have NBKg12_ := Aside0.mk (blk_below (o := (Obj.cells (bys P0) 23 (0, 0))) (by (with_reducible repeat (first | refine blk_drewN ?_ _ | refine blk_drew ?_ | refine blk_alloc ?_ _)); exact BKg12.out) hb); have NBKg13_ := Aside0.mk (blk_below (o := (Obj.cells (bys Q0) 23 (0, 0))) (by (with_reducible repeat (first | refine blk_drewN ?_ _ | refine blk_drew ?_ | refine blk_alloc ?_ _)); exact BKg13.out) hb); have NHB_ := Aside0.mk (below_step (by repeat (first | (with_reducible first | exact HB.out | apply below_alloc | apply pw_below_drewN | apply below_drew1) | exact HB.out)) hb); have NHBu_ := Aside0.mk (below_step (by repeat (first | (with_reducible first | exact HBu.out | apply below_alloc | apply pw_below_drewN | apply below_drew1) | exact HBu.out)) hb); clear BKg6 BKgr BKg12 BKg13 HB HBu; have BKg6 := NBKg6_; have BKgr := NBKgr_; have BKg12 := NBKg12_; have BKg13 := NBKg13_; have HB := NHB_; have HBu := NHBu_; clear NBKg6_ NBKgr_ NBKg12_ NBKg13_ NHB_ NHBu_; clear hb)))
      obtain ⟨zm, ezm⟩ : ∃ z, z = Zr.getD m [] := ⟨_, rfl⟩
      obtain ⟨zq, ezq⟩ : ∃ z, z = Zr.getD (m + 1) [] := ⟨_, rfl⟩
      have szm : Sec zm := by rw [ezm]; exact SZ.out.at (by rw [LZ.out]; exact Nat.lt_add_of_pos_right (by decide))
      have szq : Sec zq := by rw [ezq]; exact SZ.out.at (by rw [LZ.out]; exact Nat.lt_succ_self _)
      have EZM := Lib.hid ezm
      have EZQ := Lib.hid ezq
      have SZM := Lib.hid szm
      have SZQ := Lib.hid szq
      have HIM := Lib.hid (show m < m + 2 from Nat.lt_add_of_pos_right (by decide))
      have HIQ := Lib.hid (show m + 1 < m + 2 from Nat.lt_succ_self _)
      clear ezm ezq szm szq
      have u1 : (m : Int) < (m : Int) + 2 := Int.ofNat_lt.2 HIM.out
      have u2 : (m : Int) + 1 < (m : Int) + 2 := Int.ofNat_lt.2 HIQ.out
      have u3 : (0 : Int) ≤ (m : Int) + 1 := Int.natCast_nonneg (m + 1)
      have u4 : (0 : Int) ≤ (i : Int) := Int.natCast_nonneg i
      have u5 : (i : Int) < (m : Int) + 2 := Int.ofNat_lt.2 HI2.out
      have HC0 := Lib.hid (show W3.cell? (ad2.add 0) = some (.int .i64 (i : Int)) by have h := HCL.out; rw [ZI.out] at h; exact h)
      have u6 : (0 : Int) ≤ (j : Int) := Int.natCast_nonneg j
      have u7 : (j : Int) < (m : Int) + 2 := Int.ofNat_lt.2 HJ2.out
      have HC1 := Lib.hid (show W3.cell? ⟨ad2.block, ad2.off + 1, none⟩ = some (.int .i64 (j : Int)) by have h := HCY.out; rw [YJ.out, R1_.out] at h; exact cell_off h)
      have u8 : (1 : Int) < (r : Int) := by rw [R2_.out]; decide
      have NBKg6_ := Aside0.mk (blk_drew BKg6.out)
      have NBKgr_ := Aside0.mk (blk_drew BKgr.out)
      have NBKg12_ := Aside0.mk (blk_drew BKg12.out)
      have NBKg13_ := Aside0.mk (blk_drew BKg13.out)
      have NHB_ := Aside0.mk (below_drew1 HB.out)
      have NHBu_ := Aside0.mk (below_drew1 HBu.out)
      clear BKg6 BKgr BKg12 BKg13 HB HBu
      have BKg6 := NBKg6_
      have BKgr := NBKgr_
      have BKg12 := NBKg12_
      have BKg13 := NBKg13_
      have HB := NHB_
      have HBu := NHBu_
      clear NBKg6_ NBKgr_ NBKg12_ NBKg13_ NHB_ NHBu_
      refine start_ (n := 11) (S := fun w' => (w'.heap[g6]? = some (Obj.cells (#[.int .i64 (m : Int)]) 3 (0, 0))) ∧ (Below w.heap.size w w') ∧ (Below W3.heap.size W3 w')) (ds := []) #[false, false, false, false, false, false, false, false, false, false, false] (by kernel_rfl) rfl rfl (⟨BKg6.out, HB.out, HBu.out⟩) (fun hHeld => ?_)
      generalize X5.drew = D0 at BKg6 BKgr BKg12 BKg13 HB HBu hHeld ⊢
      refine pure_ (i := 0) (N := some 95) (v := ?_) (a' := ?_) #[true, false, false, false, false, false, false, false, false, false, false] rfl rfl (by kernel_rfl) (fun _ _ _ h => h) (Or.inl ⟨by rfl, ?_⟩) ?_ ?_
      rotate_left
      · intro w'
        go_simp
        with_reducible rfl
      rotate_left
      · simp only [Act.put, List.setIfInBounds_toArray, List.set_cons_zero, List.set_cons_succ, i64_w, i32_w]
        rfl
      refine pure_ (i := 1) (N := some 96) (v := ?_) (a' := ?_) #[true, true, false, false, false, false, false, false, false, false, false] rfl rfl (by kernel_rfl) (fun _ _ _ h => h) (Or.inl ⟨by rfl, ?_⟩) ?_ ?_
      rotate_left
      · intro w'
        go_simp
        with_reducible rfl
      rotate_left
      · simp only [Act.put, List.setIfInBounds_toArray, List.set_cons_zero, List.set_cons_succ, i64_w, i32_w]
        rfl
      refine pure_ (i := 2) (N := some 97) (v := .bool true) (a' := ?_) #[true, true, true, false, false, false, false, false, false, false, false] rfl rfl (by kernel_rfl) (fun _ _ _ h => h) (Or.inl ⟨by rfl, ?_⟩) ?_ ?_
      · intro w'
        exact exec_eqi (u := (r : Int)) (v := 2) rfl rfl rfl D2.out
      rotate_left
      · simp only [Act.put, List.setIfInBounds_toArray, List.set_cons_zero, List.set_cons_succ, i64_w, i32_w]
        rfl
      refine pure_ (i := 3) (N := some 98) (v := ?_) (a' := ?_) #[true, true, true, true, false, false, false, false, false, false, false] rfl rfl (by kernel_rfl) (fun _ _ _ h => h) (Or.inl ⟨by rfl, ?_⟩) ?_ ?_
      rotate_left
      · intro w'
        go_simp
        with_reducible rfl
      rotate_left
      · simp only [Act.put, List.setIfInBounds_toArray, List.set_cons_zero, List.set_cons_succ, i64_w, i32_w]
        rfl
      refine pure_ (i := 4) (N := some 99) (v := ?_) (a' := ?_) #[true, true, true, true, true, false, false, false, false, false, false] rfl rfl (by kernel_rfl) (fun _ _ _ h => h) (Or.inl ⟨by rfl, ?_⟩) ?_ ?_
      rotate_left
      · intro w'
        go_simp
        with_reducible rfl
      rotate_left
      · simp only [Act.put, List.setIfInBounds_toArray, List.set_cons_zero, List.set_cons_succ, i64_w, i32_w]
        rfl
      refine pure_ (i := 5) (N := some 100) (v := ?_) (a' := ?_) #[true, true, true, true, true, true, false, false, false, false, false] rfl rfl (by kernel_rfl) (fun _ _ _ h => h) (Or.inl ⟨by rfl, ?_⟩) ?_ ?_
      rotate_left
      · intro w'
        go_simp
        with_reducible rfl
      rotate_left
      · simp only [Act.put, List.setIfInBounds_toArray, List.set_cons_zero, List.set_cons_succ, i64_w, i32_w]
        rfl
      refine take_ (i := 6) (N := some 101) (v := .int .i64 (j : Int)) (a' := ?_) #[true, true, true, true, true, true, true, false, false, false, false] rfl rfl (by kernel_rfl) (fun _ _ _ h => h) (Or.inl ⟨by rfl, ?_⟩) hHeld ?_ ?_
      · rintro w' ⟨k_g6, kb_, kbu_⟩
        exact exec_one (v := .int .i64 (j : Int)) agg3 rfl rfl (pw_cell_below kbu_ HC1.out)
      rotate_left
      · simp only [Act.put, List.setIfInBounds_toArray, List.set_cons_zero, List.set_cons_succ, i64_w, i32_w]
        rfl
      refine take_ (i := 7) (N := some 102) (v := .int .i64 (m : Int)) (a' := ?_) #[true, true, true, true, true, true, true, true, false, false, false] rfl rfl (by kernel_rfl) (fun _ _ _ h => h) (Or.inl ⟨by rfl, ?_⟩) hHeld ?_ ?_
      · rintro w' ⟨k_g6, kb_, kbu_⟩
        exact exec_one (v := .int .i64 (m : Int)) agg3 rfl rfl (Wk.cells1 k_g6)
      rotate_left
      · simp only [Act.put, List.setIfInBounds_toArray, List.set_cons_zero, List.set_cons_succ, i64_w, i32_w]
        rfl
      refine pure_ (i := 8) (N := some 103) (v := .bool true) (a' := ?_) #[true, true, true, true, true, true, true, true, true, false, false] rfl rfl (by kernel_rfl) (fun _ _ _ h => h) (Or.inl ⟨by rfl, ?_⟩) ?_ ?_
      · intro w'
        exact exec_lti (u := (j : Int)) (v := (m : Int)) rfl rfl rfl DJ.out
      rotate_left
      · simp only [Act.put, List.setIfInBounds_toArray, List.set_cons_zero, List.set_cons_succ, i64_w, i32_w]
        rfl
      refine pure_ (i := 9) (N := some 104) (v := ?_) (a' := ?_) #[true, true, true, true, true, true, true, true, true, true, false] rfl rfl (by kernel_rfl) (fun _ _ _ h => h) (Or.inl ⟨by rfl, ?_⟩) ?_ ?_
      rotate_left
      · intro w'
        go_simp
        with_reducible rfl
      rotate_left
      · simp only [Act.put, List.setIfInBounds_toArray, List.set_cons_zero, List.set_cons_succ, i64_w, i32_w]
        rfl
      refine pure_ (i := 10) (N := some 94) (v := ?_) (a' := ?_) #[true, true, true, true, true, true, true, true, true, true, true] rfl rfl (by kernel_rfl) (fun _ _ _ h => h) (Or.inl ⟨by rfl, ?_⟩) ?_ ?_
      rotate_left
      · intro w'
        go_simp
        with_reducible rfl
      rotate_left
      · simp only [Act.put, List.setIfInBounds_toArray, List.set_cons_zero, List.set_cons_succ, i64_w, i32_w]
        rfl
      refine done_ (by kernel_rfl) ?_
      go_wp2_with fail
      have NBKg6_ := Aside0.mk (blk_drew BKg6.out)
      have NBKgr_ := Aside0.mk (blk_drew BKgr.out)
      have NBKg12_ := Aside0.mk (blk_drew BKg12.out)
      have NBKg13_ := Aside0.mk (blk_drew BKg13.out)
      have NHB_ := Aside0.mk (below_drew1 HB.out)
      have NHBu_ := Aside0.mk (below_drew1 HBu.out)
      clear BKg6 BKgr BKg12 BKg13 HB HBu
      have BKg6 := NBKg6_
      have BKgr := NBKgr_
      have BKg12 := NBKg12_
      have BKg13 := NBKg13_
      have HB := NHB_
      have HBu := NHBu_
      clear NBKg6_ NBKgr_ NBKg12_ NBKg13_ NHB_ NHBu_
      refine start_ (n := 35) (S := fun w' => (w'.heap[g6]? = some (Obj.cells (#[.int .i64 (m : Int)]) 3 (0, 0))) ∧ (w'.heap[gr]? = some (Obj.cells (bys (Zr).flatten ++ sp) 23 (0, 0))) ∧ (w'.heap[g12]? = some (Obj.cells (bys P0) 23 (0, 0))) ∧ (w'.heap[g13]? = some (Obj.cells (bys Q0) 23 (0, 0))) ∧ (Below w.heap.size w w') ∧ (Below W3.heap.size W3 w')) (ds := [32, 34]) #[false, false, false, false, false, false, false, false, false, false, false, false, false, false, false, false, false, false, false, false, false, false, false, false, false, false, false, false, false, false, false, false, false, false, false] (by kernel_rfl) rfl rfl (⟨BKg6.out, BKgr.out, BKg12.out, BKg13.out, HB.out, HBu.out⟩) (fun hHeld => ?_)
      generalize D0.drew = D2_ at BKg6 BKgr BKg12 BKg13 HB HBu hHeld ⊢
      refine pure_ (i := 0) (N := some 106) (v := ?_) (a' := ?_) #[true, false, false, false, false, false, false, false, false, false, false, false, false, false, false, false, false, false, false, false, false, false, false, false, false, false, false, false, false, false, false, false, false, false, false] rfl rfl (by kernel_rfl) (fun _ _ _ h => h) (Or.inl ⟨by rfl, ?_⟩) ?_ ?_
      rotate_left
      · intro w'
        go_simp
        with_reducible rfl
      rotate_left
      · simp only [Act.put, List.setIfInBounds_toArray, List.set_cons_zero, List.set_cons_succ, i64_w, i32_w]
        rfl
      refine pure_ (i := 1) (N := some 107) (v := ?_) (a' := ?_) #[true, true, false, false, false, false, false, false, false, false, false, false, false, false, false, false, false, false, false, false, false, false, false, false, false, false, false, false, false, false, false, false, false, false, false] rfl rfl (by kernel_rfl) (fun _ _ _ h => h) (Or.inl ⟨by rfl, ?_⟩) ?_ ?_
      rotate_left
      · intro w'
        go_simp
        with_reducible rfl
      rotate_left
      · simp only [Act.put, List.setIfInBounds_toArray, List.set_cons_zero, List.set_cons_succ, i64_w, i32_w]
        rfl
      refine pure_ (i := 2) (N := some 108) (v := ?_) (a' := ?_) #[true, true, true, false, false, false, false, false, false, false, false, false, false, false, false, false, false, false, false, false, false, false, false, false, false, false, false, false, false, false, false, false, false, false, false] rfl rfl (by kernel_rfl) (fun _ _ _ h => h) (Or.inl ⟨by rfl, ?_⟩) ?_ ?_
      rotate_left
      · intro w'
        go_simp
        with_reducible rfl
      rotate_left
      · simp only [Act.put, List.setIfInBounds_toArray, List.set_cons_zero, List.set_cons_succ, i64_w, i32_w]
        rfl
      refine take_ (i := 3) (N := some 109) (v := .int .i64 (i : Int)) (a' := ?_) #[true, true, true, true, false, false, false, false, false, false, false, false, false, false, false, false, false, false, false, false, false, false, false, false, false, false, false, false, false, false, false, false, false, false, false] rfl rfl (by kernel_rfl) (fun _ _ _ h => h) (Or.inl ⟨by rfl, ?_⟩) hHeld ?_ ?_
      · rintro w' ⟨k_g6, k_gr, k_g12, k_g13, kb_, kbu_⟩
        exact exec_one (v := .int .i64 (i : Int)) agg3 rfl rfl (pw_cell_below kbu_ HC0.out)
      rotate_left
      · simp only [Act.put, List.setIfInBounds_toArray, List.set_cons_zero, List.set_cons_succ, i64_w, i32_w]
        rfl
      refine pure_ (i := 4) (N := some 110) (v := ?_) (a' := ?_) #[true, true, true, true, true, false, false, false, false, false, false, false, false, false, false, false, false, false, false, false, false, false, false, false, false, false, false, false, false, false, false, false, false, false, false] rfl rfl (by kernel_rfl) (fun _ _ _ h => h) (Or.inl ⟨by rfl, ?_⟩) ?_ ?_
      rotate_left
      · intro w'
        go_simp
        with_reducible rfl
      rotate_left
      · simp only [Act.put, List.setIfInBounds_toArray, List.set_cons_zero, List.set_cons_succ, i64_w, i32_w]
        rfl
      refine pure_ (i := 5) (N := some 111) (v := ?_) (a' := ?_) #[true, true, true, true, true, true, false, false, false, false, false, false, false, false, false, false, false, false, false, false, false, false, false, false, false, false, false, false, false, false, false, false, false, false, false] rfl rfl (by kernel_rfl) (fun _ _ _ h => h) (Or.inl ⟨by rfl, ?_⟩) ?_ ?_
      rotate_left
      · intro w'
        go_simp
        with_reducible rfl
      rotate_left
      · simp only [Act.put, List.setIfInBounds_toArray, List.set_cons_zero, List.set_cons_succ, i64_w, i32_w]
        rfl
      refine pure_ (i := 6) (N := some 112) (v := ?_) (a' := ?_) #[true, true, true, true, true, true, true, false, false, false, false, false, false, false, false, false, false, false, false, false, false, false, false, false, false, false, false, false, false, false, false, false, false, false, false] rfl rfl (by kernel_rfl) (fun _ _ _ h => h) (Or.inl ⟨by rfl, ?_⟩) ?_ ?_
      rotate_left
      · intro w'
        go_simp
        with_reducible rfl
      rotate_left
      · simp only [Act.put, List.setIfInBounds_toArray, List.set_cons_zero, List.set_cons_succ, i64_w, i32_w]
        rfl
      refine take_ (i := 7) (N := some 113) (v := .int .i64 (j : Int)) (a' := ?_) #[true, true, true, true, true, true, true, true, false, false, false, false, false, false, false, false, false, false, false, false, false, false, false, false, false, false, false, false, false, false, false, false, false, false, false] rfl rfl (by kernel_rfl) (fun _ _ _ h => h) (Or.inl ⟨by rfl, ?_⟩) hHeld ?_ ?_
      · rintro w' ⟨k_g6, k_gr, k_g12, k_g13, kb_, kbu_⟩
        exact exec_one (v := .int .i64 (j : Int)) agg3 rfl rfl (pw_cell_below kbu_ HC1.out)
      rotate_left
      · simp only [Act.put, List.setIfInBounds_toArray, List.set_cons_zero, List.set_cons_succ, i64_w, i32_w]
        rfl
      refine pure_ (i := 8) (N := some 114) (v := ?_) (a' := ?_) #[true, true, true, true, true, true, true, true, true, false, false, false, false, false, false, false, false, false, false, false, false, false, false, false, false, false, false, false, false, false, false, false, false, false, false] rfl rfl (by kernel_rfl) (fun _ _ _ h => h) (Or.inl ⟨by rfl, ?_⟩) ?_ ?_
      rotate_left
      · intro w'
        go_simp
        with_reducible rfl
      rotate_left
      · simp only [Act.put, List.setIfInBounds_toArray, List.set_cons_zero, List.set_cons_succ, i64_w, i32_w]
        rfl
      refine take_ (i := 9) (N := some 115) (v := .int .i64 (m : Int)) (a' := ?_) #[true, true, true, true, true, true, true, true, true, true, false, false, false, false, false, false, false, false, false, false, false, false, false, false, false, false, false, false, false, false, false, false, false, false, false] rfl rfl (by kernel_rfl) (fun _ _ _ h => h) (Or.inl ⟨by rfl, ?_⟩) hHeld ?_ ?_
      · rintro w' ⟨k_g6, k_gr, k_g12, k_g13, kb_, kbu_⟩
        exact exec_one (v := .int .i64 (m : Int)) agg3 rfl rfl (Wk.cells1 k_g6)
      rotate_left
      · simp only [Act.put, List.setIfInBounds_toArray, List.set_cons_zero, List.set_cons_succ, i64_w, i32_w]
        rfl
      refine pure_ (i := 10) (N := some 116) (v := ?_) (a' := ?_) #[true, true, true, true, true, true, true, true, true, true, true, false, false, false, false, false, false, false, false, false, false, false, false, false, false, false, false, false, false, false, false, false, false, false, false] rfl rfl (by kernel_rfl) (fun _ _ _ h => h) (Or.inl ⟨by rfl, ?_⟩) ?_ ?_
      rotate_left
      · intro w'
        go_simp
        with_reducible rfl
      rotate_left
      · simp only [Act.put, List.setIfInBounds_toArray, List.set_cons_zero, List.set_cons_succ, i64_w, i32_w]
        rfl
      refine take_ (i := 11) (N := some 117) (v := .agg (bys zm)) (a' := ?_) #[true, true, true, true, true, true, true, true, true, true, true, true, false, false, false, false, false, false, false, false, false, false, false, false, false, false, false, false, false, false, false, false, false, false, false] rfl rfl (by kernel_rfl) (fun _ _ _ h => h) (Or.inl ⟨by rfl, ?_⟩) hHeld ?_ ?_
      · rintro w' ⟨k_g6, k_gr, k_g12, k_g13, kb_, kbu_⟩
        exact exec_rsec k_gr SZ.out LZ.out HMB.out HIM.out EZM.out rfl rfl
      rotate_left
      · simp only [Act.put, List.setIfInBounds_toArray, List.set_cons_zero, List.set_cons_succ, i64_w, i32_w]
        rfl
      refine take_ (i := 12) (N := some 118) (v := .agg (bys P0)) (a' := ?_) #[true, true, true, true, true, true, true, true, true, true, true, true, true, false, false, false, false, false, false, false, false, false, false, false, false, false, false, false, false, false, false, false, false, false, false] rfl rfl (by kernel_rfl) (fun _ _ _ h => h) (Or.inl ⟨by rfl, ?_⟩) hHeld ?_ ?_
      · rintro w' ⟨k_g6, k_gr, k_g12, k_g13, kb_, kbu_⟩
        exact exec_row_all agg23 (by rw [bys_size, SP0.out.len]; exact T23.hi) rfl rfl k_g12
      rotate_left
      · simp only [Act.put, List.setIfInBounds_toArray, List.set_cons_zero, List.set_cons_succ, i64_w, i32_w]
        rfl
      refine pure_ (i := 14) (N := some 120) (v := ?_) (a' := ?_) #[true, true, true, true, true, true, true, true, true, true, true, true, true, false, true, false, false, false, false, false, false, false, false, false, false, false, false, false, false, false, false, false, false, false, false] rfl rfl (by kernel_rfl) (fun _ _ _ h => h) (Or.inl ⟨by rfl, ?_⟩) ?_ ?_
      rotate_left
      · intro w'
        go_simp
        with_reducible rfl
      rotate_left
      · simp only [Act.put, List.setIfInBounds_toArray, List.set_cons_zero, List.set_cons_succ, i64_w, i32_w]
        rfl
      refine take_ (i := 15) (N := some 121) (v := .int .i64 (m : Int)) (a' := ?_) #[true, true, true, true, true, true, true, true, true, true, true, true, true, false, true, true, false, false, false, false, false, false, false, false, false, false, false, false, false, false, false, false, false, false, false] rfl rfl (by kernel_rfl) (fun _ _ _ h => h) (Or.inl ⟨by rfl, ?_⟩) hHeld ?_ ?_
      · rintro w' ⟨k_g6, k_gr, k_g12, k_g13, kb_, kbu_⟩
        exact exec_one (v := .int .i64 (m : Int)) agg3 rfl rfl (Wk.cells1 k_g6)
      rotate_left
      · simp only [Act.put, List.setIfInBounds_toArray, List.set_cons_zero, List.set_cons_succ, i64_w, i32_w]
        rfl
      refine pure_ (i := 16) (N := some 122) (v := .int .i64 ((m : Int) + 1)) (a' := ?_) #[true, true, true, true, true, true, true, true, true, true, true, true, true, false, true, true, true, false, false, false, false, false, false, false, false, false, false, false, false, false, false, false, false, false, false] rfl rfl (by kernel_rfl) (fun _ _ _ h => h) (Or.inl ⟨by rfl, ?_⟩) ?_ ?_
      · intro w'
        exact exec_addi (u := (m : Int)) (v := 1) rfl rfl rfl HW1.out
      rotate_left
      · simp only [Act.put, List.setIfInBounds_toArray, List.set_cons_zero, List.set_cons_succ, i64_w, i32_w]
        rfl
      refine pure_ (i := 17) (N := some 123) (v := .pointer (some ⟨gr, (m + 1) * 64, none⟩)) (a' := ?_) #[true, true, true, true, true, true, true, true, true, true, true, true, true, false, true, true, true, true, false, false, false, false, false, false, false, false, false, false, false, false, false, false, false, false, false] rfl rfl (by kernel_rfl) (fun _ _ _ h => h) (Or.inl ⟨by rfl, ?_⟩) ?_ ?_
      · intro w'
        go_simp
      rotate_left
      · simp only [Act.put, List.setIfInBounds_toArray, List.set_cons_zero, List.set_cons_succ, i64_w, i32_w]
        rfl
      refine take_ (i := 18) (N := some 124) (v := .agg (bys zq)) (a' := ?_) #[true, true, true, true, true, true, true, true, true, true, true, true, true, false, true, true, true, true, true, false, false, false, false, false, false, false, false, false, false, false, false, false, false, false, false] rfl rfl (by kernel_rfl) (fun _ _ _ h => h) (Or.inl ⟨by rfl, ?_⟩) hHeld ?_ ?_
      · rintro w' ⟨k_g6, k_gr, k_g12, k_g13, kb_, kbu_⟩
        exact exec_rsec k_gr SZ.out LZ.out HMB.out HIQ.out EZQ.out rfl rfl
      rotate_left
      · simp only [Act.put, List.setIfInBounds_toArray, List.set_cons_zero, List.set_cons_succ, i64_w, i32_w]
        rfl
      refine take_ (i := 19) (N := some 125) (v := .agg (bys Q0)) (a' := ?_) #[true, true, true, true, true, true, true, true, true, true, true, true, true, false, true, true, true, true, true, true, false, false, false, false, false, false, false, false, false, false, false, false, false, false, false] rfl rfl (by kernel_rfl) (fun _ _ _ h => h) (Or.inl ⟨by rfl, ?_⟩) hHeld ?_ ?_
      · rintro w' ⟨k_g6, k_gr, k_g12, k_g13, kb_, kbu_⟩
        exact exec_row_all agg23 (by rw [bys_size, SQ0.out.len]; exact T23.hi) rfl rfl k_g13
      rotate_left
      · simp only [Act.put, List.setIfInBounds_toArray, List.set_cons_zero, List.set_cons_succ, i64_w, i32_w]
        rfl
      refine pure_ (i := 21) (N := some 127) (v := ?_) (a' := ?_) #[true, true, true, true, true, true, true, true, true, true, true, true, true, false, true, true, true, true, true, true, false, true, false, false, false, false, false, false, false, false, false, false, false, false, false] rfl rfl (by kernel_rfl) (fun _ _ _ h => h) (Or.inl ⟨by rfl, ?_⟩) ?_ ?_
      rotate_left
      · intro w'
        go_simp
        with_reducible rfl
      rotate_left
      · simp only [Act.put, List.setIfInBounds_toArray, List.set_cons_zero, List.set_cons_succ, i64_w, i32_w]
        rfl
      refine pure_ (i := 22) (N := some 128) (v := ?_) (a' := ?_) #[true, true, true, true, true, true, true, true, true, true, true, true, true, false, true, true, true, true, true, true, false, true, true, false, false, false, false, false, false, false, false, false, false, false, false] rfl rfl (by kernel_rfl) (fun _ _ _ h => h) (Or.inl ⟨by rfl, ?_⟩) ?_ ?_
      rotate_left
      · intro w'
        go_simp
        with_reducible rfl
      rotate_left
      · simp only [Act.put, List.setIfInBounds_toArray, List.set_cons_zero, List.set_cons_succ, i64_w, i32_w]
        rfl
      refine take_ (i := 23) (N := some 129) (v := .int .i64 (i : Int)) (a' := ?_) #[true, true, true, true, true, true, true, true, true, true, true, true, true, false, true, true, true, true, true, true, false, true, true, true, false, false, false, false, false, false, false, false, false, false, false] rfl rfl (by kernel_rfl) (fun _ _ _ h => h) (Or.inl ⟨by rfl, ?_⟩) hHeld ?_ ?_
      · rintro w' ⟨k_g6, k_gr, k_g12, k_g13, kb_, kbu_⟩
        exact exec_one (v := .int .i64 (i : Int)) agg3 rfl rfl (pw_cell_below kbu_ HC0.out)
      rotate_left
      · simp only [Act.put, List.setIfInBounds_toArray, List.set_cons_zero, List.set_cons_succ, i64_w, i32_w]
        rfl
      refine pure_ (i := 24) (N := some 130) (v := ?_) (a' := ?_) #[true, true, true, true, true, true, true, true, true, true, true, true, true, false, true, true, true, true, true, true, false, true, true, true, true, false, false, false, false, false, false, false, false, false, false] rfl rfl (by kernel_rfl) (fun _ _ _ h => h) (Or.inl ⟨by rfl, ?_⟩) ?_ ?_
      rotate_left
      · intro w'
        go_simp
        with_reducible rfl
      rotate_left
      · simp only [Act.put, List.setIfInBounds_toArray, List.set_cons_zero, List.set_cons_succ, i64_w, i32_w]
        rfl
      refine pure_ (i := 25) (N := some 131) (v := ?_) (a' := ?_) #[true, true, true, true, true, true, true, true, true, true, true, true, true, false, true, true, true, true, true, true, false, true, true, true, true, true, false, false, false, false, false, false, false, false, false] rfl rfl (by kernel_rfl) (fun _ _ _ h => h) (Or.inl ⟨by rfl, ?_⟩) ?_ ?_
      rotate_left
      · intro w'
        go_simp
        with_reducible rfl
      rotate_left
      · simp only [Act.put, List.setIfInBounds_toArray, List.set_cons_zero, List.set_cons_succ, i64_w, i32_w]
        rfl
      refine take_ (i := 26) (N := some 132) (v := .int .i64 (j : Int)) (a' := ?_) #[true, true, true, true, true, true, true, true, true, true, true, true, true, false, true, true, true, true, true, true, false, true, true, true, true, true, true, false, false, false, false, false, false, false, false] rfl rfl (by kernel_rfl) (fun _ _ _ h => h) (Or.inl ⟨by rfl, ?_⟩) hHeld ?_ ?_
      · rintro w' ⟨k_g6, k_gr, k_g12, k_g13, kb_, kbu_⟩
        exact exec_one (v := .int .i64 (j : Int)) agg3 rfl rfl (pw_cell_below kbu_ HC1.out)
      rotate_left
      · simp only [Act.put, List.setIfInBounds_toArray, List.set_cons_zero, List.set_cons_succ, i64_w, i32_w]
        rfl
      refine one_ (i := 13) (N := some 119) #[true, true, true, true, true, true, true, true, true, true, true, true, true, true, true, true, true, true, true, true, false, true, true, true, true, true, true, false, false, false, false, false, false, false, false] rfl rfl (by kernel_rfl) (by decide) (fun K hK => ?_)
      refine goes_ Try.func25 (by kernel_rfl) rfl #[.agg (bys zm), .agg (bys P0)] (by rfl) rfl rfl (by (try simp only [List.map_toArray, List.map_cons, List.map_nil]); first | done | rfl) ?_
      with_reducible refine (sum_calls _ _ SZM.out SP0.out _).mono ?_
      rintro e D3 ⟨rfl, hb⟩
      refine ⟨_, rfl, ?_⟩
      have NBKg6_ := Aside0.mk (blk_below BKg6.out hb)
      have NBKgr_ := Aside0.mk (blk_below BKgr.out hb)
      have NBKg12_ := Aside0.mk (blk_below BKg12.out hb)
      have NBKg13_ := Aside0.mk (blk_below BKg13.out hb)
      have NHB_ := Aside0.mk (below_step HB.out hb)
      have NHBu_ := Aside0.mk (below_step HBu.out hb)
      clear BKg6 BKgr BKg12 BKg13 HB HBu
      have BKg6 := NBKg6_
      have BKgr := NBKgr_
      have BKg12 := NBKg12_
      have BKg13 := NBKg13_
      have HB := NHB_
      have HBu := NHBu_
      clear NBKg6_ NBKgr_ NBKg12_ NBKg13_ NHB_ NHBu_
      clear hb
      refine hK.out _ _ (⟨BKg6.out, BKgr.out, BKg12.out, BKg13.out, HB.out, HBu.out⟩) (fun hHeld => ?_)
      clear hK K
      refine norm_ (a' := ?_) ?_ ?_
      rotate_left
      · show Act.put _ (some 119) _ = _
        simp only [Act.put, List.setIfInBounds_toArray, List.set_cons_zero, List.set_cons_succ, i64_w, i32_w]
        rfl
      refine one_ (i := 20) (N := some 126) #[true, true, true, true, true, true, true, true, true, true, true, true, true, true, true, true, true, true, true, true, true, true, true, true, true, true, true, false, false, false, false, false, false, false, false] rfl rfl (by kernel_rfl) (by decide) (fun K hK => ?_)
      refine goes_ Try.func25 (by kernel_rfl) rfl #[.agg (bys zq), .agg (bys Q0)] (by rfl) rfl rfl (by (try simp only [List.map_toArray, List.map_cons, List.map_nil]); first | done | rfl) ?_
      with_reducible refine (sum_calls _ _ SZQ.out SQ0.out _).mono ?_
      rintro e D4 ⟨rfl, hb⟩
      refine ⟨_, rfl, ?_⟩
      have NBKg6_ := Aside0.mk (blk_below BKg6.out hb)
      have NBKgr_ := Aside0.mk (blk_below BKgr.out hb)
      have NBKg12_ := Aside0.mk (blk_below BKg12.out hb)
      have NBKg13_ := Aside0.mk (blk_below BKg13.out hb)
      have NHB_ := Aside0.mk (below_step HB.out hb)
      have NHBu_ := Aside0.mk (below_step HBu.out hb)
      clear BKg6 BKgr BKg12 BKg13 HB HBu
      have BKg6 := NBKg6_
      have BKgr := NBKgr_
      have BKg12 := NBKg12_
      have BKg13 := NBKg13_
      have HB := NHB_
      have HBu := NHBu_
      clear NBKg6_ NBKgr_ NBKg12_ NBKg13_ NHB_ NHBu_
      clear hb
      refine hK.out _ _ (⟨BKg6.out, BKgr.out, BKg12.out, BKg13.out, HB.out, HBu.out⟩) (fun hHeld => ?_)
      clear hK K
      refine norm_ (a' := ?_) ?_ ?_
      rotate_left
      · show Act.put _ (some 126) _ = _
        simp only [Act.put, List.setIfInBounds_toArray, List.set_cons_zero, List.set_cons_succ, i64_w, i32_w]
        rfl
      refine one_ (i := 27) (N := some 133) #[true, true, true, true, true, true, true, true, true, true, true, true, true, true, true, true, true, true, true, true, true, true, true, true, true, true, true, true, false, false, false, false, false, false, false] rfl rfl (by kernel_rfl) (by decide) (fun K hK => ?_)
      refine goes_ Try.func37 (by kernel_rfl) rfl #[.agg (bys (xorL zm P0)), .agg (bys (xorL zq Q0)), .int .i64 (i : Int), .int .i64 (j : Int)] (by rfl) rfl rfl (by (try simp only [List.map_toArray, List.map_cons, List.map_nil]); first | done | rfl) ?_
      with_reducible refine (two_calls _ _ (i : Int) (j : Int) _ (xorL_sec SZM.out SP0.out) (xorL_sec SZQ.out SQ0.out) HUV.out).mono ?_
      rintro e D5 ⟨rfl, hb⟩
      refine ⟨_, rfl, ?_⟩
      have NBKg6_ := Aside0.mk (blk_below BKg6.out hb)
      have NBKgr_ := Aside0.mk (blk_below BKgr.out hb)
      have NBKg12_ := Aside0.mk (blk_below BKg12.out hb)
      have NBKg13_ := Aside0.mk (blk_below BKg13.out hb)
      have NHB_ := Aside0.mk (below_step HB.out hb)
      have NHBu_ := Aside0.mk (below_step HBu.out hb)
      clear BKg6 BKgr BKg12 BKg13 HB HBu
      have BKg6 := NBKg6_
      have BKgr := NBKgr_
      have BKg12 := NBKg12_
      have BKg13 := NBKg13_
      have HB := NHB_
      have HBu := NHBu_
      clear NBKg6_ NBKgr_ NBKg12_ NBKg13_ NHB_ NHBu_
      clear hb
      refine hK.out _ _ (⟨BKg6.out, BKgr.out, BKg12.out, BKg13.out, HB.out, HBu.out⟩) (fun hHeld => ?_)
      clear hK K
      refine norm_ (a' := ?_) ?_ ?_
      rotate_left
      · show Act.put _ (some 133) _ = _
        simp only [Act.put, List.setIfInBounds_toArray, List.set_cons_zero, List.set_cons_succ, i64_w, i32_w]
        rfl
      refine pure_ (i := 28) (N := some 105) (v := ?_) (a' := ?_) #[true, true, true, true, true, true, true, true, true, true, true, true, true, true, true, true, true, true, true, true, true, true, true, true, true, true, true, true, true, false, false, false, false, false, false] rfl rfl (by kernel_rfl) (fun _ _ _ h => h) (Or.inl ⟨by rfl, ?_⟩) ?_ ?_
      rotate_left
      · intro w'
        go_simp
        with_reducible rfl
      rotate_left
      · simp only [Act.put, List.setIfInBounds_toArray, List.set_cons_zero, List.set_cons_succ, i64_w, i32_w]
        rfl
      refine pure_ (i := 29) (N := some 134) (v := ?_) (a' := ?_) #[true, true, true, true, true, true, true, true, true, true, true, true, true, true, true, true, true, true, true, true, true, true, true, true, true, true, true, true, true, true, false, false, false, false, false] rfl rfl (by kernel_rfl) (fun _ _ _ h => h) (Or.inl ⟨by rfl, ?_⟩) ?_ ?_
      rotate_left
      · intro w'
        go_simp
        with_reducible rfl
      rotate_left
      · simp only [Act.put, List.setIfInBounds_toArray, List.set_cons_zero, List.set_cons_succ, i64_w, i32_w]
        rfl
      refine pure_ (i := 30) (N := some 135) (v := ?_) (a' := ?_) #[true, true, true, true, true, true, true, true, true, true, true, true, true, true, true, true, true, true, true, true, true, true, true, true, true, true, true, true, true, true, true, false, false, false, false] rfl rfl (by kernel_rfl) (fun _ _ _ h => h) (Or.inl ⟨by rfl, ?_⟩) ?_ ?_
      rotate_left
      · intro w'
        go_simp
        with_reducible rfl
      rotate_left
      · simp only [Act.put, List.setIfInBounds_toArray, List.set_cons_zero, List.set_cons_succ, i64_w, i32_w]
        rfl
      refine pure_ (i := 31) (N := some 136) (v := ?_) (a' := ?_) #[true, true, true, true, true, true, true, true, true, true, true, true, true, true, true, true, true, true, true, true, true, true, true, true, true, true, true, true, true, true, true, true, false, false, false] rfl rfl (by kernel_rfl) (fun _ _ _ h => h) (Or.inl ⟨by rfl, ?_⟩) ?_ ?_
      rotate_left
      · intro w'
        go_simp
        with_reducible rfl
      rotate_left
      · simp only [Act.put, List.setIfInBounds_toArray, List.set_cons_zero, List.set_cons_succ, i64_w, i32_w]
        rfl
      refine last_ (i := 32) (N := none) #[true, true, true, true, true, true, true, true, true, true, true, true, true, true, true, true, true, true, true, true, true, true, true, true, true, true, true, true, true, true, true, true, true, false, false] rfl rfl (by kernel_rfl) (by decide) (fun K hK => ?_)
      refine skip_ (by rfl) rfl (exec_put (cs' := bys (Zr.set i (twoA (xorL zm P0) (xorL zq Q0) (pwZ (i : Int)) (pwZ (j : Int)))).flatten ++ sp) (v := .agg (bys (twoA (xorL zm P0) (xorL zq Q0) (pwZ (i : Int)) (pwZ (j : Int))))) T23.hi rfl rfl rfl (by show (bys (twoA (xorL zm P0) (xorL zq Q0) (pwZ (i : Int)) (pwZ (j : Int)))).size = 64; rw [bys_size]; exact (twoA_sec (xorL_sec SZM.out SP0.out) (xorL_sec SZQ.out SQ0.out)).len) one_agg BKgr.out (row_fit SZ.out LZ.out HI2.out) (put_sec (fun l_ h_ => (SZ.out l_ h_).len) (by rw [LZ.out]; exact HI2.out) (twoA_sec (xorL_sec SZM.out SP0.out) (xorL_sec SZQ.out SQ0.out)).len)) ?_
      obtain ⟨D6, hW_⟩ : ∃ W, W = D5.setRow gr (bys (Zr.set i (twoA (xorL zm P0) (xorL zq Q0) (pwZ (i : Int)) (pwZ (j : Int)))).flatten ++ sp) := ⟨_, rfl⟩
      rw [← hW_]
      have NBKg6_ := Aside0.mk ((by rw [hW_]; exact setRow_far BKg6.out Dg6gr : D6.heap[g6]? = some (Obj.cells (#[.int .i64 (m : Int)]) 3 (0, 0))))
      have NBKgr_ := Aside0.mk ((by rw [hW_]; exact setRow_blk BKgr.out : D6.heap[gr]? = some (Obj.cells (bys (Zr.set i (twoA (xorL zm P0) (xorL zq Q0) (pwZ (i : Int)) (pwZ (j : Int)))).flatten ++ sp) 23 (0, 0))))
      have NBKg12_ := Aside0.mk ((by rw [hW_]; exact setRow_far BKg12.out Dg12gr : D6.heap[g12]? = some (Obj.cells (bys P0) 23 (0, 0))))
      have NBKg13_ := Aside0.mk ((by rw [hW_]; exact setRow_far BKg13.out Dg13gr : D6.heap[g13]? = some (Obj.cells (bys Q0) 23 (0, 0))))
      have NHB_ := Aside0.mk ((by rw [hW_]; exact setRow_below (HB.out) GEgr.out : Below w.heap.size w D6))
      have NHBu_ := Aside0.mk ((by rw [hW_]; exact setRow_below (HBu.out) GEugr.out : Below W3.heap.size W3 D6))
      clear BKg6 BKgr BKg12 BKg13 HB HBu
      have BKg6 := NBKg6_
      have BKgr := NBKgr_
      have BKg12 := NBKg12_
      have BKg13 := NBKg13_
      have HB := NHB_
      have HBu := NHBu_
      clear NBKg6_ NBKgr_ NBKg12_ NBKg13_ NHB_ NHBu_
      clear hW_
      refine hK.out _ _ ?_
      clear hK K
      refine pure_ (i := 33) (N := some 137) (v := ?_) (a' := ?_) #[true, true, true, true, true, true, true, true, true, true, true, true, true, true, true, true, true, true, true, true, true, true, true, true, true, true, true, true, true, true, true, true, true, true, false] rfl rfl (by kernel_rfl) (fun _ _ _ h => h) (Or.inl ⟨by rfl, ?_⟩) ?_ ?_
      rotate_left
      · intro w'
        go_simp
        with_reducible rfl
      rotate_left
      · simp only [Act.put, List.setIfInBounds_toArray, List.set_cons_zero, List.set_cons_succ, i64_w, i32_w]
        rfl
      refine last_ (i := 34) (N := none) #[true, true, true, true, true, true, true, true, true, true, true, true, true, true, true, true, true, true, true, true, true, true, true, true, true, true, true, true, true, true, true, true, true, true, true] rfl rfl (by kernel_rfl) (by decide) (fun K hK => ?_)
      refine skip_ (by rfl) rfl (exec_put (cs' := bys ((Zr.set i (twoA (xorL zm P0) (xorL zq Q0) (pwZ (i : Int)) (pwZ (j : Int)))).set j (twoB (xorL zm P0) (xorL zq Q0) (pwZ (i : Int)) (pwZ (j : Int)))).flatten ++ sp) (v := .agg (bys (twoB (xorL zm P0) (xorL zq Q0) (pwZ (i : Int)) (pwZ (j : Int))))) T23.hi rfl rfl rfl (by show (bys (twoB (xorL zm P0) (xorL zq Q0) (pwZ (i : Int)) (pwZ (j : Int)))).size = 64; rw [bys_size]; exact (twoB_sec (xorL_sec SZM.out SP0.out) (xorL_sec SZQ.out SQ0.out)).len) one_agg BKgr.out (row_fit (set_secs SZ.out (twoA_sec (xorL_sec SZM.out SP0.out) (xorL_sec SZQ.out SQ0.out))) ((List.length_set).trans LZ.out) HJ2.out) (put_sec (fun l_ h_ => ((set_secs SZ.out (twoA_sec (xorL_sec SZM.out SP0.out) (xorL_sec SZQ.out SQ0.out))) l_ h_).len) (by rw [((List.length_set).trans LZ.out)]; exact HJ2.out) (twoB_sec (xorL_sec SZM.out SP0.out) (xorL_sec SZQ.out SQ0.out)).len)) ?_
      obtain ⟨D7, hW_⟩ : ∃ W, W = D6.setRow gr (bys ((Zr.set i (twoA (xorL zm P0) (xorL zq Q0) (pwZ (i : Int)) (pwZ (j : Int)))).set j (twoB (xorL zm P0) (xorL zq Q0) (pwZ (i : Int)) (pwZ (j : Int)))).flatten ++ sp) := ⟨_, rfl⟩
      rw [← hW_]
      have NBKg6_ := Aside0.mk ((by rw [hW_]; exact setRow_far BKg6.out Dg6gr : D7.heap[g6]? = some (Obj.cells (#[.int .i64 (m : Int)]) 3 (0, 0))))
      have NBKgr_ := Aside0.mk ((by rw [hW_]; exact setRow_blk BKgr.out : D7.heap[gr]? = some (Obj.cells (bys ((Zr.set i (twoA (xorL zm P0) (xorL zq Q0) (pwZ (i : Int)) (pwZ (j : Int)))).set j (twoB (xorL zm P0) (xorL zq Q0) (pwZ (i : Int)) (pwZ (j : Int)))).flatten ++ sp) 23 (0, 0))))
      have NBKg12_ := Aside0.mk ((by rw [hW_]; exact setRow_far BKg12.out Dg12gr : D7.heap[g12]? = some (Obj.cells (bys P0) 23 (0, 0))))
      have NBKg13_ := Aside0.mk ((by rw [hW_]; exact setRow_far BKg13.out Dg13gr : D7.heap[g13]? = some (Obj.cells (bys Q0) 23 (0, 0))))
      have NHB_ := Aside0.mk ((by rw [hW_]; exact setRow_below (HB.out) GEgr.out : Below w.heap.size w D7))
      have NHBu_ := Aside0.mk ((by rw [hW_]; exact setRow_below (HBu.out) GEugr.out : Below W3.heap.size W3 D7))
      clear BKg6 BKgr BKg12 BKg13 HB HBu
      have BKg6 := NBKg6_
      have BKgr := NBKgr_
      have BKg12 := NBKg12_
      have BKg13 := NBKg13_
      have HB := NHB_
      have HBu := NHBu_
      clear NBKg6_ NBKgr_ NBKg12_ NBKg13_ NHB_ NHBu_
      clear hW_
      refine hK.out _ _ ?_
      clear hK K
      refine done_ (by kernel_rfl) ?_
      go_wp2_with fail
      have EQR2 := EQR.out
      rw [← EZM.out, ← EZQ.out] at EQR2
      rw [← EQR2] at BKgr
      clear EQR2
      go_wp2_with (first | (go_at_call 30; have tk_ := tok2; clear tk_ tok2; go_must ((with_reducible refine (plain_calls _ m cr (R1.take m) _ (C_take (c_row (by (with_reducible repeat (first | refine blk_drewN ?_ _ | refine blk_drew ?_ | refine blk_alloc ?_ _)); exact BKgr.out) SR1.out LR1.out (by have := HM2.out; omega)) (by omega)) (secs_take SR1.out m)).mono ?_); rintro e Y1 ⟨rfl, hb⟩; rw [psum_take m (Nat.le_refl m), qsum_take m (Nat.le_refl m), ← EP1.out, ← EQ1.out]; have NBKg6_ := Aside0.mk (blk_below (o := (Obj.cells (#[.int .i64 (m : Int)]) 3 (0, 0))) (by (with_reducible repeat (first | refine blk_drewN ?_ _ | refine blk_drew ?_ | refine blk_alloc ?_ _)); exact BKg6.out) hb); have NBKgr_ := Aside0.mk (blk_below (o := (Obj.cells (bys (R1).flatten ++ sp) 23 (0, 0))) (by (with_reducible repeat (first | refine blk_drewN ?_ _ | refine blk_drew ?_ | refine blk_alloc ?_ _)); exact BKgr.out) hb); have NBKg12_ := Aside0.mk (blk_below (o := (Obj.cells (bys P0) 23 (0, 0))) (by (with_reducible repeat (first | refine blk_drewN ?_ _ | refine blk_drew ?_ | refine blk_alloc ?_ _)); exact BKg12.out) hb); have NBKg13_ := Aside0.mk (blk_below (o := (Obj.cells (bys Q0) 23 (0, 0))) (by (with_reducible repeat (first | refine blk_drewN ?_ _ | refine blk_drew ?_ | refine blk_alloc ?_ _)); exact BKg13.out) hb); have NHB_ := Aside0.mk (below_step (by repeat (first | (with_reducible first | exact HB.out | apply below_alloc | apply pw_below_drewN | apply below_drew1) | exact HB.out)) hb); have NHBu_ := Aside0.mk (below_step (by repeat (first | (with_reducible first | exact HBu.out | apply below_alloc | apply pw_below_drewN | apply below_drew1) | exact HBu.out)) hb); clear BKg6 BKgr BKg12 BKg13 HB HBu; have BKg6 := NBKg6_; have BKgr := NBKgr_; have BKg12 := NBKg12_; have BKg13 := NBKg13_; have HB := NHB_; have HBu := NHBu_; clear NBKg6_ NBKgr_ NBKg12_ NBKg13_ NHB_ NHBu_; clear hb)) | ((with_reducible refine gate_store (t := 23) (p := 12) rfl ?_); go_must (refine store_event rfl rfl rfl (exec_put (cs' := bys P1) T23.hi rfl rfl rfl (by show (bys P1).size = 64; rw [bys_size]; exact SP1.out.len) one_agg (by (with_reducible repeat (first | refine blk_drewN ?_ _ | refine blk_drew ?_ | refine blk_alloc ?_ _)); exact BKg12.out) (by rw [bys_size, SP0.out.len]; omega) (putc_all ((bys_size _).trans ((SP0.out.len).trans ((SP1.out.len).symm.trans (bys_size _).symm))))) ?_); intro Y2 hW_; have NBKg6_ := Aside0.mk ((by rw [hW_]; exact setRow_far (by (with_reducible repeat (first | refine blk_drewN ?_ _ | refine blk_drew ?_ | refine blk_alloc ?_ _)); exact BKg6.out) Dg6g12 : Y2.heap[g6]? = some (Obj.cells (#[.int .i64 (m : Int)]) 3 (0, 0)))); have NBKgr_ := Aside0.mk ((by rw [hW_]; exact setRow_far (by (with_reducible repeat (first | refine blk_drewN ?_ _ | refine blk_drew ?_ | refine blk_alloc ?_ _)); exact BKgr.out) Dgrg12 : Y2.heap[gr]? = some (Obj.cells (bys (R1).flatten ++ sp) 23 (0, 0)))); have NBKg12_ := Aside0.mk ((by rw [hW_]; exact setRow_blk (by (with_reducible repeat (first | refine blk_drewN ?_ _ | refine blk_drew ?_ | refine blk_alloc ?_ _)); exact BKg12.out) : Y2.heap[g12]? = some (Obj.cells (bys P1) 23 (0, 0)))); have NBKg13_ := Aside0.mk ((by rw [hW_]; exact setRow_far (by (with_reducible repeat (first | refine blk_drewN ?_ _ | refine blk_drew ?_ | refine blk_alloc ?_ _)); exact BKg13.out) Dg13g12 : Y2.heap[g13]? = some (Obj.cells (bys Q0) 23 (0, 0)))); have NHB_ := Aside0.mk ((by rw [hW_]; exact setRow_below (by repeat (first | (with_reducible first | exact HB.out | apply below_alloc | apply pw_below_drewN | apply below_drew1) | exact HB.out)) GEg12.out : Below w.heap.size w Y2)); have NHBu_ := Aside0.mk ((by rw [hW_]; exact setRow_below (by repeat (first | (with_reducible first | exact HBu.out | apply below_alloc | apply pw_below_drewN | apply below_drew1) | exact HBu.out)) GEug12.out : Below W3.heap.size W3 Y2)); clear BKg6 BKgr BKg12 BKg13 HB HBu; have BKg6 := NBKg6_; have BKgr := NBKgr_; have BKg12 := NBKg12_; have BKg13 := NBKg13_; have HB := NHB_; have HBu := NHBu_; clear NBKg6_ NBKgr_ NBKg12_ NBKg13_ NHB_ NHBu_; clear hW_) | ((with_reducible refine gate_store (t := 23) (p := 13) rfl ?_); go_must (refine store_event rfl rfl rfl (exec_put (cs' := bys Q1) T23.hi rfl rfl rfl (by show (bys Q1).size = 64; rw [bys_size]; exact SQ1.out.len) one_agg (by (with_reducible repeat (first | refine blk_drewN ?_ _ | refine blk_drew ?_ | refine blk_alloc ?_ _)); exact BKg13.out) (by rw [bys_size, SQ0.out.len]; omega) (putc_all ((bys_size _).trans ((SQ0.out.len).trans ((SQ1.out.len).symm.trans (bys_size _).symm))))) ?_); intro Y3 hW_; have NBKg6_ := Aside0.mk ((by rw [hW_]; exact setRow_far (by (with_reducible repeat (first | refine blk_drewN ?_ _ | refine blk_drew ?_ | refine blk_alloc ?_ _)); exact BKg6.out) Dg6g13 : Y3.heap[g6]? = some (Obj.cells (#[.int .i64 (m : Int)]) 3 (0, 0)))); have NBKgr_ := Aside0.mk ((by rw [hW_]; exact setRow_far (by (with_reducible repeat (first | refine blk_drewN ?_ _ | refine blk_drew ?_ | refine blk_alloc ?_ _)); exact BKgr.out) Dgrg13 : Y3.heap[gr]? = some (Obj.cells (bys (R1).flatten ++ sp) 23 (0, 0)))); have NBKg12_ := Aside0.mk ((by rw [hW_]; exact setRow_far (by (with_reducible repeat (first | refine blk_drewN ?_ _ | refine blk_drew ?_ | refine blk_alloc ?_ _)); exact BKg12.out) Dg12g13 : Y3.heap[g12]? = some (Obj.cells (bys P1) 23 (0, 0)))); have NBKg13_ := Aside0.mk ((by rw [hW_]; exact setRow_blk (by (with_reducible repeat (first | refine blk_drewN ?_ _ | refine blk_drew ?_ | refine blk_alloc ?_ _)); exact BKg13.out) : Y3.heap[g13]? = some (Obj.cells (bys Q1) 23 (0, 0)))); have NHB_ := Aside0.mk ((by rw [hW_]; exact setRow_below (by repeat (first | (with_reducible first | exact HB.out | apply below_alloc | apply pw_below_drewN | apply below_drew1) | exact HB.out)) GEg13.out : Below w.heap.size w Y3)); have NHBu_ := Aside0.mk ((by rw [hW_]; exact setRow_below (by repeat (first | (with_reducible first | exact HBu.out | apply below_alloc | apply pw_below_drewN | apply below_drew1) | exact HBu.out)) GEug13.out : Below W3.heap.size W3 Y3)); clear BKg6 BKgr BKg12 BKg13 HB HBu; have BKg6 := NBKg6_; have BKgr := NBKgr_; have BKg12 := NBKg12_; have BKg13 := NBKg13_; have HB := NHB_; have HBu := NHBu_; clear NBKg6_ NBKgr_ NBKg12_ NBKg13_ NHB_ NHBu_; clear hW_))
      have N_ := Lib.hid Dg6gr
      clear Dg6gr
      have Dg6gr := N_
      clear N_
      have N_ := Lib.hid Dg6g12
      clear Dg6g12
      have Dg6g12 := N_
      clear N_
      have N_ := Lib.hid Dg6g13
      clear Dg6g13
      have Dg6g13 := N_
      clear N_
      have N_ := Lib.hid Dgrg6
      clear Dgrg6
      have Dgrg6 := N_
      clear N_
      have N_ := Lib.hid Dgrg12
      clear Dgrg12
      have Dgrg12 := N_
      clear N_
      have N_ := Lib.hid Dgrg13
      clear Dgrg13
      have Dgrg13 := N_
      clear N_
      have N_ := Lib.hid Dg12g6
      clear Dg12g6
      have Dg12g6 := N_
      clear N_
      have N_ := Lib.hid Dg12gr
      clear Dg12gr
      have Dg12gr := N_
      clear N_
      have N_ := Lib.hid Dg12g13
      clear Dg12g13
      have Dg12g13 := N_
      clear N_
      have N_ := Lib.hid Dg13g6
      clear Dg13g6
      have Dg13g6 := N_
      clear N_
      have N_ := Lib.hid Dg13gr
      clear Dg13gr
      have Dg13gr := N_
      clear N_
      have N_ := Lib.hid Dg13g12
      clear Dg13g12
      have Dg13g12 := N_
      clear N_
      go_loopw [167] (fun i wr => ∃ a : Nat, a ≤ r ∧ i = .int .i64 a ∧ Aside0 (wr.heap[g6]? = some (.cells #[.int .i64 (m : Int)] 3 (0, 0))) ∧ Aside0 (wr.heap[gr]? = some (.cells (bys ((ks.take a).foldl (endOne m P1 Q1) R1).flatten ++ sp) 23 (0, 0))) ∧ Aside0 (Below w.heap.size w wr) ∧ Aside0 (Below W3.heap.size W3 wr) ∧ Aside0 (wr.heap[g12]? = some (.cells (bys P1) 23 (0, 0))) ∧ Aside0 (wr.heap[g13]? = some (.cells (bys Q1) 23 (0, 0)))) (fun i _ => r - (intOf i).toNat)
      case atStart => exact ⟨0, Nat.zero_le _, rfl, BKg6, BKgr, HB, HBu, BKg12, BKg13⟩
      case round =>
        clear BKg6 BKgr HB HBu BKg12 BKg13
        obtain ⟨a, ha, rfl, BKg6, BKgr, HB, HBu, BKg12, BKg13⟩ := hrel
        by_cases hlt : a < r
        · skip
          have h29 : (a : Int) < (r : Int) := Int.ofNat_lt.2 hlt
          have h2 : decide ((a : Int) < (r : Int)) = true := decide_eq_true h29
          have h20 : (0 : Int) ≤ (a : Int) := Int.natCast_nonneg a
          obtain ⟨x, ex_⟩ : ∃ x, x = ks.getD a 0 := ⟨_, rfl⟩
          have hak : a < ks.length := by rw [← HKS.out]; exact hlt
          have hx : x < m + 2 := by rw [ex_, List.getD_eq_getElem?_getD, List.getElem?_eq_getElem hak]; exact HKL.out _ (List.getElem_mem hak)
          have hx0 : (0 : Int) ≤ (x : Int) := Int.natCast_nonneg x
          have hx1 : (x : Int) < (m : Int) + 2 := Int.ofNat_lt.2 hx
          have hx2 := HW1.out
          have hcl := int_at (i := a) hR3 (by rw [← ER.out]; exact hlt)
          obtain ⟨ad4, e4_, hcl⟩ := hcl
          have hlv : l.getD a 0 = (x : Int) := by rw [EK.out, ex_, List.getD_eq_getElem?_getD, List.getElem?_map, List.getD_eq_getElem?_getD, List.getElem?_eq_getElem hak]; rfl
          rw [hlv] at hcl
          injection e4_ with e4_
          subst e4_
          have HCA := Lib.hid hcl
          have HX := Lib.hid hx
          clear hcl hlv hx
          obtain ⟨S_, eS_⟩ : ∃ S, S = (ks.take a).foldl (endOne m P1 Q1) R1 := ⟨_, rfl⟩
          have sS : Secs S_ := by rw [eS_]; exact foldl_secs (fun _ _ h => endOne_secs SP1.out SQ1.out h) _ R1 SR1.out
          have lS : S_.length = m + 2 := by rw [eS_, foldl_len (fun _ _ => endOne_length)]; exact LR1.out
          have nS : endOne m P1 Q1 S_ x = (ks.take (a + 1)).foldl (endOne m P1 Q1) R1 := by rw [take_succ_foldl hak, ← eS_, ← ex_]
          rw [← eS_] at BKgr
          have SS := Lib.hid sS
          have LS := Lib.hid lS
          have NS := Lib.hid nS
          clear sS lS nS eS_ ex_ hak
          by_cases hxm : x = m
          · skip
            have QA := Lib.hid (show decide ((x : Int) = (m : Int)) = true from decide_eq_true (by rw [hxm]))
            have NW := Lib.hid (show endOne m P1 Q1 S_ x = S_.set x P1 by unfold endOne; rw [if_pos hxm])
            clear hxm
            go_wp2_with (first | ((with_reducible refine gate_dst (N := 170) rfl ?_); go_must (refine Kd.event_run rfl (exec_one (v := .int .i64 (x : Int)) agg3 rfl rfl (pw_cell_below (by repeat (first | (with_reducible first | exact HBu.out | apply below_alloc | apply pw_below_drewN | apply below_drew1) | exact HBu.out)) HCA.out)) ?_)) | ((with_reducible refine gate_dst (N := 173) rfl ?_); go_must (refine Kd.event_run rfl (exec_one (v := .int .i64 (m : Int)) agg3 rfl rfl (Wk.cells1 (by (with_reducible repeat (first | refine blk_drewN ?_ _ | refine blk_drew ?_ | refine blk_alloc ?_ _)); exact BKg6.out))) ?_)) | ((with_reducible refine gate_dst (N := 180) rfl ?_); go_must (refine Kd.event_run rfl (exec_one (v := .int .i64 (m : Int)) agg3 rfl rfl (Wk.cells1 (by (with_reducible repeat (first | refine blk_drewN ?_ _ | refine blk_drew ?_ | refine blk_alloc ?_ _)); exact BKg6.out))) ?_)) | ((with_reducible refine gate_dst (N := 174) rfl ?_); go_must (refine Kd.event_run rfl (exec_eqi rfl rfl rfl QA.out) ?_)) | ((with_reducible refine gate_dst (N := 177) rfl ?_); go_must (refine Kd.event_run rfl (exec_row_all agg23 (by rw [bys_size, SP1.out.len]; exact T23.hi) rfl rfl (by (with_reducible repeat (first | refine blk_drewN ?_ _ | refine blk_drew ?_ | refine blk_alloc ?_ _)); exact BKg12.out)) ?_)) | ((with_reducible refine gate_store (t := 23) (p := 178) rfl ?_); go_must (refine store_event rfl rfl rfl (exec_put (cs' := bys (S_.set x P1).flatten ++ sp) (v := .agg (bys P1)) T23.hi rfl rfl rfl (by show (bys P1).size = 64; rw [bys_size]; exact SP1.out.len) one_agg (by (with_reducible repeat (first | refine blk_drewN ?_ _ | refine blk_drew ?_ | refine blk_alloc ?_ _)); exact BKgr.out) (row_fit SS.out LS.out HX.out) (put_sec (fun l_ h_ => (SS.out l_ h_).len) (by rw [LS.out]; exact HX.out) SP1.out.len)) ?_); intro V1 hW_; have NBKg6_ := Aside0.mk ((by rw [hW_]; exact setRow_far (by (with_reducible repeat (first | refine blk_drewN ?_ _ | refine blk_drew ?_ | refine blk_alloc ?_ _)); exact BKg6.out) Dg6gr.out : V1.heap[g6]? = some (Obj.cells (#[.int .i64 (m : Int)]) 3 (0, 0)))); have NBKgr_ := Aside0.mk ((by rw [hW_]; exact setRow_blk (by (with_reducible repeat (first | refine blk_drewN ?_ _ | refine blk_drew ?_ | refine blk_alloc ?_ _)); exact BKgr.out) : V1.heap[gr]? = some (Obj.cells (bys (S_.set x P1).flatten ++ sp) 23 (0, 0)))); have NBKg12_ := Aside0.mk ((by rw [hW_]; exact setRow_far (by (with_reducible repeat (first | refine blk_drewN ?_ _ | refine blk_drew ?_ | refine blk_alloc ?_ _)); exact BKg12.out) Dg12gr.out : V1.heap[g12]? = some (Obj.cells (bys P1) 23 (0, 0)))); have NBKg13_ := Aside0.mk ((by rw [hW_]; exact setRow_far (by (with_reducible repeat (first | refine blk_drewN ?_ _ | refine blk_drew ?_ | refine blk_alloc ?_ _)); exact BKg13.out) Dg13gr.out : V1.heap[g13]? = some (Obj.cells (bys Q1) 23 (0, 0)))); have NHB_ := Aside0.mk ((by rw [hW_]; exact setRow_below (by repeat (first | (with_reducible first | exact HB.out | apply below_alloc | apply pw_below_drewN | apply below_drew1) | exact HB.out)) GEgr.out : Below w.heap.size w V1)); have NHBu_ := Aside0.mk ((by rw [hW_]; exact setRow_below (by repeat (first | (with_reducible first | exact HBu.out | apply below_alloc | apply pw_below_drewN | apply below_drew1) | exact HBu.out)) GEugr.out : Below W3.heap.size W3 V1)); clear BKg6 BKgr BKg12 BKg13 HB HBu; have BKg6 := NBKg6_; have BKgr := NBKgr_; have BKg12 := NBKg12_; have BKg13 := NBKg13_; have HB := NHB_; have HBu := NHBu_; clear NBKg6_ NBKgr_ NBKg12_ NBKg13_ NHB_ NHBu_; clear hW_))
            go_roundw
            case rel => exact ⟨a + 1, Nat.succ_le_of_lt hlt, by go_num, BKg6, ⟨by rw [← NS.out, NW.out]; exact BKgr.out⟩, HB, HBu, BKg12, BKg13⟩
            case measure => exact meas hlt
          by_cases hxn : x = m + 1
          · skip
            have QA := Lib.hid (show decide ((x : Int) = (m : Int)) = false from decide_eq_false (fun h => hxm (Int.ofNat.inj h)))
            have QB := Lib.hid (show decide ((x : Int) = (m : Int) + 1) = true from decide_eq_true (by rw [hxn]; rfl))
            have NW := Lib.hid (show endOne m P1 Q1 S_ x = S_.set x Q1 by unfold endOne; rw [if_neg hxm, if_pos hxn])
            clear hxm hxn
            go_wp2_with (first | ((with_reducible refine gate_dst (N := 170) rfl ?_); go_must (refine Kd.event_run rfl (exec_one (v := .int .i64 (x : Int)) agg3 rfl rfl (pw_cell_below (by repeat (first | (with_reducible first | exact HBu.out | apply below_alloc | apply pw_below_drewN | apply below_drew1) | exact HBu.out)) HCA.out)) ?_)) | ((with_reducible refine gate_dst (N := 173) rfl ?_); go_must (refine Kd.event_run rfl (exec_one (v := .int .i64 (m : Int)) agg3 rfl rfl (Wk.cells1 (by (with_reducible repeat (first | refine blk_drewN ?_ _ | refine blk_drew ?_ | refine blk_alloc ?_ _)); exact BKg6.out))) ?_)) | ((with_reducible refine gate_dst (N := 180) rfl ?_); go_must (refine Kd.event_run rfl (exec_one (v := .int .i64 (m : Int)) agg3 rfl rfl (Wk.cells1 (by (with_reducible repeat (first | refine blk_drewN ?_ _ | refine blk_drew ?_ | refine blk_alloc ?_ _)); exact BKg6.out))) ?_)) | ((with_reducible refine gate_dst (N := 174) rfl ?_); go_must (refine Kd.event_run rfl (exec_eqi rfl rfl rfl QA.out) ?_)) | ((with_reducible refine gate_dst (N := 181) rfl ?_); go_must (refine Kd.event_run rfl (exec_addi (u := (m : Int)) (v := 1) (r := (m : Int) + 1) rfl rfl rfl HW1.out) ?_)) | ((with_reducible refine gate_dst (N := 182) rfl ?_); go_must (refine Kd.event_run rfl (exec_eqi (v := (m : Int) + 1) rfl rfl rfl QB.out) ?_)) | ((with_reducible refine gate_dst (N := 185) rfl ?_); go_must (refine Kd.event_run rfl (exec_row_all agg23 (by rw [bys_size, SQ1.out.len]; exact T23.hi) rfl rfl (by (with_reducible repeat (first | refine blk_drewN ?_ _ | refine blk_drew ?_ | refine blk_alloc ?_ _)); exact BKg13.out)) ?_)) | ((with_reducible refine gate_store (t := 23) (p := 186) rfl ?_); go_must (refine store_event rfl rfl rfl (exec_put (cs' := bys (S_.set x Q1).flatten ++ sp) (v := .agg (bys Q1)) T23.hi rfl rfl rfl (by show (bys Q1).size = 64; rw [bys_size]; exact SQ1.out.len) one_agg (by (with_reducible repeat (first | refine blk_drewN ?_ _ | refine blk_drew ?_ | refine blk_alloc ?_ _)); exact BKgr.out) (row_fit SS.out LS.out HX.out) (put_sec (fun l_ h_ => (SS.out l_ h_).len) (by rw [LS.out]; exact HX.out) SQ1.out.len)) ?_); intro V1 hW_; have NBKg6_ := Aside0.mk ((by rw [hW_]; exact setRow_far (by (with_reducible repeat (first | refine blk_drewN ?_ _ | refine blk_drew ?_ | refine blk_alloc ?_ _)); exact BKg6.out) Dg6gr.out : V1.heap[g6]? = some (Obj.cells (#[.int .i64 (m : Int)]) 3 (0, 0)))); have NBKgr_ := Aside0.mk ((by rw [hW_]; exact setRow_blk (by (with_reducible repeat (first | refine blk_drewN ?_ _ | refine blk_drew ?_ | refine blk_alloc ?_ _)); exact BKgr.out) : V1.heap[gr]? = some (Obj.cells (bys (S_.set x Q1).flatten ++ sp) 23 (0, 0)))); have NBKg12_ := Aside0.mk ((by rw [hW_]; exact setRow_far (by (with_reducible repeat (first | refine blk_drewN ?_ _ | refine blk_drew ?_ | refine blk_alloc ?_ _)); exact BKg12.out) Dg12gr.out : V1.heap[g12]? = some (Obj.cells (bys P1) 23 (0, 0)))); have NBKg13_ := Aside0.mk ((by rw [hW_]; exact setRow_far (by (with_reducible repeat (first | refine blk_drewN ?_ _ | refine blk_drew ?_ | refine blk_alloc ?_ _)); exact BKg13.out) Dg13gr.out : V1.heap[g13]? = some (Obj.cells (bys Q1) 23 (0, 0)))); have NHB_ := Aside0.mk ((by rw [hW_]; exact setRow_below (by repeat (first | (with_reducible first | exact HB.out | apply below_alloc | apply pw_below_drewN | apply below_drew1) | exact HB.out)) GEgr.out : Below w.heap.size w V1)); have NHBu_ := Aside0.mk ((by rw [hW_]; exact setRow_below (by repeat (first | (with_reducible first | exact HBu.out | apply below_alloc | apply pw_below_drewN | apply below_drew1) | exact HBu.out)) GEugr.out : Below W3.heap.size W3 V1)); clear BKg6 BKgr BKg12 BKg13 HB HBu; have BKg6 := NBKg6_; have BKgr := NBKgr_; have BKg12 := NBKg12_; have BKg13 := NBKg13_; have HB := NHB_; have HBu := NHBu_; clear NBKg6_ NBKgr_ NBKg12_ NBKg13_ NHB_ NHBu_; clear hW_))
            go_roundw
            case rel => exact ⟨a + 1, Nat.succ_le_of_lt hlt, by go_num, BKg6, ⟨by rw [← NS.out, NW.out]; exact BKgr.out⟩, HB, HBu, BKg12, BKg13⟩
            case measure => exact meas hlt
          · skip
            have QA := Lib.hid (show decide ((x : Int) = (m : Int)) = false from decide_eq_false (fun h => hxm (Int.ofNat.inj h)))
            have QB := Lib.hid (show decide ((x : Int) = (m : Int) + 1) = false from decide_eq_false (fun h => hxn (Int.ofNat.inj (h.trans rfl))))
            have NW := Lib.hid (show endOne m P1 Q1 S_ x = S_ by unfold endOne; rw [if_neg hxm, if_neg hxn])
            clear hxm hxn
            go_wp2_with (first | ((with_reducible refine gate_dst (N := 170) rfl ?_); go_must (refine Kd.event_run rfl (exec_one (v := .int .i64 (x : Int)) agg3 rfl rfl (pw_cell_below (by repeat (first | (with_reducible first | exact HBu.out | apply below_alloc | apply pw_below_drewN | apply below_drew1) | exact HBu.out)) HCA.out)) ?_)) | ((with_reducible refine gate_dst (N := 173) rfl ?_); go_must (refine Kd.event_run rfl (exec_one (v := .int .i64 (m : Int)) agg3 rfl rfl (Wk.cells1 (by (with_reducible repeat (first | refine blk_drewN ?_ _ | refine blk_drew ?_ | refine blk_alloc ?_ _)); exact BKg6.out))) ?_)) | ((with_reducible refine gate_dst (N := 180) rfl ?_); go_must (refine Kd.event_run rfl (exec_one (v := .int .i64 (m : Int)) agg3 rfl rfl (Wk.cells1 (by (with_reducible repeat (first | refine blk_drewN ?_ _ | refine blk_drew ?_ | refine blk_alloc ?_ _)); exact BKg6.out))) ?_)) | ((with_reducible refine gate_dst (N := 174) rfl ?_); go_must (refine Kd.event_run rfl (exec_eqi rfl rfl rfl QA.out) ?_)) | ((with_reducible refine gate_dst (N := 181) rfl ?_); go_must (refine Kd.event_run rfl (exec_addi (u := (m : Int)) (v := 1) (r := (m : Int) + 1) rfl rfl rfl HW1.out) ?_)) | ((with_reducible refine gate_dst (N := 182) rfl ?_); go_must (refine Kd.event_run rfl (exec_eqi (v := (m : Int) + 1) rfl rfl rfl QB.out) ?_)))
            go_roundw
            case rel => exact ⟨a + 1, Nat.succ_le_of_lt hlt, by go_num, BKg6, ⟨by rw [← NS.out, NW.out]; exact BKgr.out⟩, HB, HBu, BKg12, BKg13⟩
            case measure => exact meas hlt
        · skip
          obtain rfl : r = a := Nat.le_antisymm (Nat.not_lt.1 hlt) ha
          clear hlt ha BKg6 BKg12 BKg13 HBu
          have sR : Secs (ks.foldl (endOne m P1 Q1) R1) := foldl_secs (fun _ _ h => endOne_secs SP1.out SQ1.out h) ks R1 SR1.out
          have lR : (ks.foldl (endOne m P1 Q1) R1).length = m + 2 := by rw [foldl_len (fun _ _ => endOne_length)]; exact LR1.out
          rw [show ks.take r = ks by rw [HKS.out, List.take_length]] at BKgr
          have eR : fixR L m ks = ks.foldl (endOne m P1 Q1) R1 := by unfold fixR fixEnd; rw [← EZR.out, ← ER1.out, ← EP1.out, ← EQ1.out]
          rw [← eR] at BKgr sR lR
          have SR := Lib.hid sR
          have LR := Lib.hid lR
          clear sR lR eR
          go_wp2
          exact bodyPost_ret (v := .tuple #[.slice (some ⟨gr, 0, none⟩) (m + 2) cr, .int .i64 0]) (results_list (rs := [.tmp 4, .tmp 5]) rfl (by simp) (.tmp (.tmp .nil))) rfl ⟨_, rfl, by
            have h := Own.of_block (fun l_ h_ => (SR.out l_ h_).len) GEgr.out BKgr.out (by rw [LR.out]; exact hcr) hcmr (by rw [LR.out]; exact hspr)
            rw [LR.out] at h
            exact h, HB.out⟩

end Go.Proofs.Ytonjgbcibjnpoaa.Pw
