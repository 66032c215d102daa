import Derived.Test.YtonjgbcibjnpoaaPb
import Derived.Test.YtonjgbcibjnpoaaSd
import Derived.Test.YtonjgbcibjnpoaaSs
import Derived.Test.YtonjgbcibjnpoaaSr
import Derived.Test.YtonjgbcibjnpoaaPw
import Derived.Test.YtonjgbcibjnpoaaPx
import Derived.WalkSpells
import Derived.OpenShut
import Derived.Outline
import Derived.Lib.Hide
namespace Go.Proofs.Ytonjgbcibjnpoaa.Pw
open Go.RowKit Go.Proofs.YtonjgbcibjnpoaaW.PrintWords Go.Proofs.YtonjgbcibjnpoaaW.PrintLast Go.Proofs.YtonjgbcibjnpoaaW.PrintMore Go.Proofs.Ytonjgbcibjnpoaa.Gf Go.Proofs.Ytonjgbcibjnpoaa.Sc Go.Proofs.Ytonjgbcibjnpoaa.Pb Go.Proofs.Ytonjgbcibjnpoaa.Sd Go.Proofs.Ytonjgbcibjnpoaa.Ss Go.Proofs.Ytonjgbcibjnpoaa.Sr
set_option linter.unusedVariables false
set_option linter.unusedSimpArgs false


set_option maxRecDepth 100000 in
theorem zlit25 : Try.zeroCells25 = bys (rowL zeros zeros zeros) := by kernel_rfl
/-- What Change tells. -/
def chE (i : Int) : Int := if i < 0 then 2 else if 62 ≤ i then 2 else 0
def chP (p o d : List Nat) (i : Int) : List Nat := if i < 0 then zeros else if 62 ≤ i then zeros else xorL p (xorL o d)
def chQ (q o d : List Nat) (i : Int) : List Nat := if i < 0 then zeros else if 62 ≤ i then zeros else xorL q (mulL (xorL o d) (pwZ i))
def chO (d : List Nat) (i : Int) : List Nat := if i < 0 then zeros else if 62 ≤ i then zeros else d
set_option maxHeartbeats 4000000 in
set_option maxRecDepth 100000 in
theorem change_calls (p q o : List Nat) (i : Int) (d : List Nat) (w : World) (hp : Sec p) (hq : Sec q) (ho : Sec o) (hd : Sec d) : Calls Try.prog 10 #[.agg (bys (rowL p q o)), .int .i64 i, .agg (bys d)] w fun e w' => e = .returned (.tuple #[.agg (bys (rowL (chP p o d i) (chQ q o d i) (chO d i))), .int .i64 (chE i)]) ∧ Below w.heap.size w w' := by
  by_cases h0 : i < 0
  · skip
    have e1 : chE i = 2 := by simp [chE, h0]
    have e2 : chP p o d i = zeros := by simp [chP, h0]
    have e3 : chQ q o d i = zeros := by simp [chQ, h0]
    have e4 : chO d i = zeros := by simp [chO, h0]
    have HB := Aside0.mk (Below.refl w.heap.size w)
    have d1 : decide (i < 0) = true := by simpa using h0
    go_enter Try.func10, Try.ntmps10
    go_wp2_with (first | ((with_reducible refine gate_store (t := 25) (p := 6) rfl ?_); go_must (rw [zlit25]; obtain ⟨q0_, q1_, q2_, nb_⟩ := Wk.blks3 w (Obj.cells (bys (rowL p q o)) 25 (0, 0)) (Obj.cells (bys d) 23 (0, 0)) (Obj.cells (bys (rowL zeros zeros zeros)) 25 (0, 0)); obtain ⟨W1, hW_⟩ : ∃ W, W = (((w.alloc (Obj.cells (bys (rowL p q o)) 25 (0, 0))).alloc (Obj.cells (bys d) 23 (0, 0))).alloc (Obj.cells (bys (rowL zeros zeros zeros)) 25 (0, 0))) := ⟨_, rfl⟩; rw [← hW_]; rw [← hW_] at q0_; rw [← hW_] at q1_; rw [← hW_] at q2_; rw [← hW_] at nb_; have sz_ := below_size HB.out; have hb2_ := Aside0.mk (below_step HB.out nb_); obtain ⟨g3, hgg3_⟩ : ∃ g, g = w.heap.size := ⟨_, rfl⟩; obtain ⟨g5, hgg5_⟩ : ∃ g, g = w.heap.size + 1 := ⟨_, rfl⟩; obtain ⟨g6, hgg6_⟩ : ∃ g, g = w.heap.size + 1 + 1 := ⟨_, rfl⟩; rw [← hgg6_]; rw [← hgg6_] at q2_; rw [← hgg5_]; rw [← hgg5_] at q1_; rw [← hgg3_]; rw [← hgg3_] at q0_; have hge_ : w.heap.size ≤ g3 := (by omega); have GEg3 := Aside0.mk hge_; clear hge_; have hge_ : w.heap.size ≤ g5 := (by omega); have GEg5 := Aside0.mk hge_; clear hge_; have Dg3g5 : g3 ≠ g5 := (by omega); have Dg5g3 : g5 ≠ g3 := (by omega); have hge_ : w.heap.size ≤ g6 := (by omega); have GEg6 := Aside0.mk hge_; clear hge_; have Dg3g6 : g3 ≠ g6 := (by omega); have Dg6g3 : g6 ≠ g3 := (by omega); have Dg5g6 : g5 ≠ g6 := (by omega); have Dg6g5 : g6 ≠ g5 := (by omega); have BKg3 := Aside0.mk q0_; have BKg5 := Aside0.mk q1_; have BKg6 := Aside0.mk q2_; clear HB; have HB := hb2_; clear hb2_ sz_ hW_ nb_ hgg3_ hgg5_ hgg6_ q0_ q1_ q2_); ((with_reducible refine gate_store (t := 25) (p := 6) rfl ?_); go_must (refine store_event rfl rfl rfl (exec_put (cs' := bys (rowL zeros zeros zeros)) size25 rfl rfl rfl (by show (bys (rowL zeros zeros zeros)).size = 192; rw [bys_size, (rowL_length zeros_length zeros_length zeros_length)]) one_agg (by (with_reducible repeat (first | refine blk_drewN ?_ _ | refine blk_drew ?_ | refine blk_alloc ?_ _)); exact BKg6.out) (by rw [bys_size, (rowL_length zeros_length zeros_length zeros_length)]; decide) (putc_all ((bys_size _).trans (((rowL_length zeros_length zeros_length zeros_length)).trans (((rowL_length zeros_length zeros_length zeros_length)).symm.trans (bys_size _).symm))))) ?_); intro W2 hW_; have NBKg3_ := Aside0.mk ((by rw [hW_]; exact setRow_far (by (with_reducible repeat (first | refine blk_drewN ?_ _ | refine blk_drew ?_ | refine blk_alloc ?_ _)); exact BKg3.out) Dg3g6 : W2.heap[g3]? = some (Obj.cells (bys (rowL p q o)) 25 (0, 0)))); have NBKg5_ := Aside0.mk ((by rw [hW_]; exact setRow_far (by (with_reducible repeat (first | refine blk_drewN ?_ _ | refine blk_drew ?_ | refine blk_alloc ?_ _)); exact BKg5.out) Dg5g6 : W2.heap[g5]? = some (Obj.cells (bys d) 23 (0, 0)))); have NBKg6_ := Aside0.mk ((by rw [hW_]; exact setRow_blk (by (with_reducible repeat (first | refine blk_drewN ?_ _ | refine blk_drew ?_ | refine blk_alloc ?_ _)); exact BKg6.out) : W2.heap[g6]? = some (Obj.cells (bys (rowL zeros zeros zeros)) 25 (0, 0)))); have NHB_ := Aside0.mk ((by rw [hW_]; exact setRow_below (by repeat (first | (with_reducible first | exact HB.out | apply below_alloc | apply pw_below_drewN | apply below_drew1) | exact HB.out)) GEg6.out : Below w.heap.size w W2)); clear BKg3 BKg5 BKg6 HB; have BKg3 := NBKg3_; have BKg5 := NBKg5_; have BKg6 := NBKg6_; have HB := NHB_; clear NBKg3_ NBKg5_ NBKg6_ NHB_; clear hW_)))
    exact bodyPost_ret (v := .tuple #[.agg (bys (rowL zeros zeros zeros)), .int .i64 _]) (results_list (rs := [.cell 6 25, .tmp 7]) rfl (by simp) (.cell g6 25 _ (0, 0) _ rfl BKg6.out Try.underlying25 rfl (by rw [bys_size, (rowL_length zeros_length zeros_length zeros_length)]; exact size25) (.tmp .nil))) rfl ⟨by first | rw [e1, e2, e3, e4] | with_reducible rfl, HB.out⟩
  by_cases h1 : 62 ≤ i
  · skip
    have e1 : chE i = 2 := by simp [chE, h0, h1]
    have e2 : chP p o d i = zeros := by simp [chP, h0, h1]
    have e3 : chQ q o d i = zeros := by simp [chQ, h0, h1]
    have e4 : chO d i = zeros := by simp [chO, h0, h1]
    have HB := Aside0.mk (Below.refl w.heap.size w)
    have d1 : decide (i < 0) = false := by simpa using h0
    have d2 : decide (62 ≤ i) = true := by simpa using h1
    go_enter Try.func10, Try.ntmps10
    go_wp2_with (first | ((with_reducible refine gate_store (t := 25) (p := 6) rfl ?_); go_must (rw [zlit25]; obtain ⟨q0_, q1_, q2_, nb_⟩ := Wk.blks3 w (Obj.cells (bys (rowL p q o)) 25 (0, 0)) (Obj.cells (bys d) 23 (0, 0)) (Obj.cells (bys (rowL zeros zeros zeros)) 25 (0, 0)); obtain ⟨W1, hW_⟩ : ∃ W, W = (((w.alloc (Obj.cells (bys (rowL p q o)) 25 (0, 0))).alloc (Obj.cells (bys d) 23 (0, 0))).alloc (Obj.cells (bys (rowL zeros zeros zeros)) 25 (0, 0))) := ⟨_, rfl⟩; rw [← hW_]; rw [← hW_] at q0_; rw [← hW_] at q1_; rw [← hW_] at q2_; rw [← hW_] at nb_; have sz_ := below_size HB.out; have hb2_ := Aside0.mk (below_step HB.out nb_); obtain ⟨g3, hgg3_⟩ : ∃ g, g = w.heap.size := ⟨_, rfl⟩; obtain ⟨g5, hgg5_⟩ : ∃ g, g = w.heap.size + 1 := ⟨_, rfl⟩; obtain ⟨g6, hgg6_⟩ : ∃ g, g = w.heap.size + 1 + 1 := ⟨_, rfl⟩; rw [← hgg6_]; rw [← hgg6_] at q2_; rw [← hgg5_]; rw [← hgg5_] at q1_; rw [← hgg3_]; rw [← hgg3_] at q0_; have hge_ : w.heap.size ≤ g3 := (by omega); have GEg3 := Aside0.mk hge_; clear hge_; have hge_ : w.heap.size ≤ g5 := (by omega); have GEg5 := Aside0.mk hge_; clear hge_; have Dg3g5 : g3 ≠ g5 := (by omega); have Dg5g3 : g5 ≠ g3 := (by omega); have hge_ : w.heap.size ≤ g6 := (by omega); have GEg6 := Aside0.mk hge_; clear hge_; have Dg3g6 : g3 ≠ g6 := (by omega); have Dg6g3 : g6 ≠ g3 := (by omega); have Dg5g6 : g5 ≠ g6 := (by omega); have Dg6g5 : g6 ≠ g5 := (by omega); have BKg3 := Aside0.mk q0_; have BKg5 := Aside0.mk q1_; have BKg6 := Aside0.mk q2_; clear HB; have HB := hb2_; clear hb2_ sz_ hW_ nb_ hgg3_ hgg5_ hgg6_ q0_ q1_ q2_); ((with_reducible refine gate_store (t := 25) (p := 6) rfl ?_); go_must (refine store_event rfl rfl rfl (exec_put (cs' := bys (rowL zeros zeros zeros)) size25 rfl rfl rfl (by show (bys (rowL zeros zeros zeros)).size = 192; rw [bys_size, (rowL_length zeros_length zeros_length zeros_length)]) one_agg (by (with_reducible repeat (first | refine blk_drewN ?_ _ | refine blk_drew ?_ | refine blk_alloc ?_ _)); exact BKg6.out) (by rw [bys_size, (rowL_length zeros_length zeros_length zeros_length)]; decide) (putc_all ((bys_size _).trans (((rowL_length zeros_length zeros_length zeros_length)).trans (((rowL_length zeros_length zeros_length zeros_length)).symm.trans (bys_size _).symm))))) ?_); intro W2 hW_; have NBKg3_ := Aside0.mk ((by rw [hW_]; exact setRow_far (by (with_reducible repeat (first | refine blk_drewN ?_ _ | refine blk_drew ?_ | refine blk_alloc ?_ _)); exact BKg3.out) Dg3g6 : W2.heap[g3]? = some (Obj.cells (bys (rowL p q o)) 25 (0, 0)))); have NBKg5_ := Aside0.mk ((by rw [hW_]; exact setRow_far (by (with_reducible repeat (first | refine blk_drewN ?_ _ | refine blk_drew ?_ | refine blk_alloc ?_ _)); exact BKg5.out) Dg5g6 : W2.heap[g5]? = some (Obj.cells (bys d) 23 (0, 0)))); have NBKg6_ := Aside0.mk ((by rw [hW_]; exact setRow_blk (by (with_reducible repeat (first | refine blk_drewN ?_ _ | refine blk_drew ?_ | refine blk_alloc ?_ _)); exact BKg6.out) : W2.heap[g6]? = some (Obj.cells (bys (rowL zeros zeros zeros)) 25 (0, 0)))); have NHB_ := Aside0.mk ((by rw [hW_]; exact setRow_below (by repeat (first | (with_reducible first | exact HB.out | apply below_alloc | apply pw_below_drewN | apply below_drew1) | exact HB.out)) GEg6.out : Below w.heap.size w W2)); clear BKg3 BKg5 BKg6 HB; have BKg3 := NBKg3_; have BKg5 := NBKg5_; have BKg6 := NBKg6_; have HB := NHB_; clear NBKg3_ NBKg5_ NBKg6_ NHB_; clear hW_)))
    exact bodyPost_ret (v := .tuple #[.agg (bys (rowL zeros zeros zeros)), .int .i64 _]) (results_list (rs := [.cell 6 25, .tmp 7]) rfl (by simp) (.cell g6 25 _ (0, 0) _ rfl BKg6.out Try.underlying25 rfl (by rw [bys_size, (rowL_length zeros_length zeros_length zeros_length)]; exact size25) (.tmp .nil))) rfl ⟨by first | rw [e1, e2, e3, e4] | with_reducible rfl, HB.out⟩
  · skip
    have e1 : chE i = 0 := by simp [chE, h0, h1]
    have e2 : chP p o d i = xorL p (xorL o d) := by simp [chP, h0, h1]
    have e3 : chQ q o d i = xorL q (mulL (xorL o d) (pwZ i)) := by simp [chQ, h0, h1]
    have e4 : chO d i = d := by simp [chO, h0, h1]
    have HB := Aside0.mk (Below.refl w.heap.size w)
    have d1 : decide (i < 0) = false := by simpa using h0
    have d2 : decide (62 ≤ i) = false := by simpa using h1
    go_enter Try.func10, Try.ntmps10
    have hdl := xorL_sec ho hd
    have HP := Lib.hid hp.len
    have HQ := Lib.hid hq.len
    have HO := Lib.hid ho.len
    have HDD := Lib.hid hd.len
    have HDL := Lib.hid hdl.len
    have HR := Lib.hid (rowL_length hp.len hq.len ho.len)
    obtain ⟨dl, edl⟩ : ∃ dl, dl = xorL o d := ⟨_, rfl⟩
    rw [← edl] at hdl HDL e2 e3
    have EDL := Lib.hid edl
    clear edl
    go_wp2_with (first | ((with_reducible refine gate_dst (N := 17) rfl ?_); go_must (rw [zlit25]; obtain ⟨q0_, q1_, q2_, nb_⟩ := Wk.blks3 w (Obj.cells (bys (rowL p q o)) 25 (0, 0)) (Obj.cells (bys d) 23 (0, 0)) (Obj.cells (bys (rowL zeros zeros zeros)) 25 (0, 0)); obtain ⟨W1, hW_⟩ : ∃ W, W = (((w.alloc (Obj.cells (bys (rowL p q o)) 25 (0, 0))).alloc (Obj.cells (bys d) 23 (0, 0))).alloc (Obj.cells (bys (rowL zeros zeros zeros)) 25 (0, 0))) := ⟨_, rfl⟩; rw [← hW_]; rw [← hW_] at q0_; rw [← hW_] at q1_; rw [← hW_] at q2_; rw [← hW_] at nb_; have sz_ := below_size HB.out; have hb2_ := Aside0.mk (below_step HB.out nb_); obtain ⟨g3, hgg3_⟩ : ∃ g, g = w.heap.size := ⟨_, rfl⟩; obtain ⟨g5, hgg5_⟩ : ∃ g, g = w.heap.size + 1 := ⟨_, rfl⟩; obtain ⟨g6, hgg6_⟩ : ∃ g, g = w.heap.size + 1 + 1 := ⟨_, rfl⟩; rw [← hgg6_]; rw [← hgg6_] at q2_; rw [← hgg5_]; rw [← hgg5_] at q1_; rw [← hgg3_]; rw [← hgg3_] at q0_; have hge_ : w.heap.size ≤ g3 := (by omega); have GEg3 := Aside0.mk hge_; clear hge_; have hge_ : w.heap.size ≤ g5 := (by omega); have GEg5 := Aside0.mk hge_; clear hge_; have Dg3g5 : g3 ≠ g5 := (by omega); have Dg5g3 : g5 ≠ g3 := (by omega); have hge_ : w.heap.size ≤ g6 := (by omega); have GEg6 := Aside0.mk hge_; clear hge_; have Dg3g6 : g3 ≠ g6 := (by omega); have Dg6g3 : g6 ≠ g3 := (by omega); have Dg5g6 : g5 ≠ g6 := (by omega); have Dg6g5 : g6 ≠ g5 := (by omega); have BKg3 := Aside0.mk q0_; have BKg5 := Aside0.mk q1_; have BKg6 := Aside0.mk q2_; clear HB; have HB := hb2_; clear hb2_ sz_ hW_ nb_ hgg3_ hgg5_ hgg6_ q0_ q1_ q2_); ((with_reducible refine gate_dst (N := 17) rfl ?_); go_must (refine Kd.event_run rfl (exec_row_at agg23 T23.hi rfl rfl (by (with_reducible repeat (first | refine blk_drewN ?_ _ | refine blk_drew ?_ | refine blk_alloc ?_ _)); exact BKg3.out) (by rw [bys_size, HR.out]; decide) (row_o HP.out HQ.out HO.out)) ?_))) | ((with_reducible refine gate_dst (N := 18) rfl ?_); go_must (refine Kd.event_run rfl (exec_row_all agg23 (by rw [bys_size, HDD.out]; exact T23.hi) rfl rfl (by (with_reducible repeat (first | refine blk_drewN ?_ _ | refine blk_drew ?_ | refine blk_alloc ?_ _)); exact BKg5.out)) ?_)) | (go_at_call 25; go_must (with_reducible refine (sum_calls _ _ ho hd _).mono ?_); rintro e W2 ⟨rfl, hb⟩; rw [← EDL.out]; have NBKg3_ := Aside0.mk (blk_below (o := (Obj.cells (bys (rowL p q o)) 25 (0, 0))) (by (with_reducible repeat (first | refine blk_drewN ?_ _ | refine blk_drew ?_ | refine blk_alloc ?_ _)); exact BKg3.out) hb); have NBKg5_ := Aside0.mk (blk_below (o := (Obj.cells (bys d) 23 (0, 0))) (by (with_reducible repeat (first | refine blk_drewN ?_ _ | refine blk_drew ?_ | refine blk_alloc ?_ _)); exact BKg5.out) hb); have NBKg6_ := Aside0.mk (blk_below (o := (Obj.cells (bys (rowL zeros zeros zeros)) 25 (0, 0))) (by (with_reducible repeat (first | refine blk_drewN ?_ _ | refine blk_drew ?_ | refine blk_alloc ?_ _)); exact BKg6.out) hb); have NHB_ := Aside0.mk (below_step (by repeat (first | (with_reducible first | exact HB.out | apply below_alloc | apply pw_below_drewN | apply below_drew1) | exact HB.out)) hb); clear BKg3 BKg5 BKg6 HB; have BKg3 := NBKg3_; have BKg5 := NBKg5_; have BKg6 := NBKg6_; have HB := NHB_; clear NBKg3_ NBKg5_ NBKg6_ NHB_; clear hb) | ((with_reducible refine gate_store (t := 23) (p := 8) rfl ?_); go_must (rw [zlit]; obtain ⟨q0_, nb_⟩ := Wk.blks1 W2 (Obj.cells (bys zeros) 23 (0, 0)); obtain ⟨W3, hW_⟩ : ∃ W, W = (W2.alloc (Obj.cells (bys zeros) 23 (0, 0))) := ⟨_, rfl⟩; rw [← hW_]; rw [← hW_] at q0_; rw [← hW_] at nb_; have mg3_ := blk_below BKg3.out nb_; have mg5_ := blk_below BKg5.out nb_; have mg6_ := blk_below BKg6.out nb_; have sz_ := below_size HB.out; have ltg3_ := blk_lt BKg3.out; have ltg5_ := blk_lt BKg5.out; have ltg6_ := blk_lt BKg6.out; have hb2_ := Aside0.mk (below_step HB.out nb_); obtain ⟨g8, hgg8_⟩ : ∃ g, g = W2.heap.size := ⟨_, rfl⟩; rw [← hgg8_]; rw [← hgg8_] at q0_; have hge_ : w.heap.size ≤ g8 := (by omega); have GEg8 := Aside0.mk hge_; clear hge_; have Dg3g8 : g3 ≠ g8 := (by omega); have Dg8g3 : g8 ≠ g3 := (by omega); have Dg5g8 : g5 ≠ g8 := (by omega); have Dg8g5 : g8 ≠ g5 := (by omega); have Dg6g8 : g6 ≠ g8 := (by omega); have Dg8g6 : g8 ≠ g6 := (by omega); have BNg3 := Aside0.mk mg3_; clear BKg3; have BKg3 := BNg3; clear BNg3 ltg3_ mg3_; have BNg5 := Aside0.mk mg5_; clear BKg5; have BKg5 := BNg5; clear BNg5 ltg5_ mg5_; have BNg6 := Aside0.mk mg6_; clear BKg6; have BKg6 := BNg6; clear BNg6 ltg6_ mg6_; have BKg8 := Aside0.mk q0_; clear HB; have HB := hb2_; clear hb2_ sz_ hW_ nb_ hgg8_ q0_); ((with_reducible refine gate_store (t := 23) (p := 8) rfl ?_); go_must (refine store_event rfl rfl rfl (exec_put (cs' := bys dl) T23.hi rfl rfl rfl (by show (bys dl).size = 64; rw [bys_size]; exact HDL.out) one_agg (by (with_reducible repeat (first | refine blk_drewN ?_ _ | refine blk_drew ?_ | refine blk_alloc ?_ _)); exact BKg8.out) (by rw [bys_size, zeros_length]; omega) (putc_all ((bys_size _).trans ((zeros_length).trans ((HDL.out).symm.trans (bys_size _).symm))))) ?_); intro W4 hW_; have NBKg3_ := Aside0.mk ((by rw [hW_]; exact setRow_far (by (with_reducible repeat (first | refine blk_drewN ?_ _ | refine blk_drew ?_ | refine blk_alloc ?_ _)); exact BKg3.out) Dg3g8 : W4.heap[g3]? = some (Obj.cells (bys (rowL p q o)) 25 (0, 0)))); have NBKg5_ := Aside0.mk ((by rw [hW_]; exact setRow_far (by (with_reducible repeat (first | refine blk_drewN ?_ _ | refine blk_drew ?_ | refine blk_alloc ?_ _)); exact BKg5.out) Dg5g8 : W4.heap[g5]? = some (Obj.cells (bys d) 23 (0, 0)))); have NBKg6_ := Aside0.mk ((by rw [hW_]; exact setRow_far (by (with_reducible repeat (first | refine blk_drewN ?_ _ | refine blk_drew ?_ | refine blk_alloc ?_ _)); exact BKg6.out) Dg6g8 : W4.heap[g6]? = some (Obj.cells (bys (rowL zeros zeros zeros)) 25 (0, 0)))); have NBKg8_ := Aside0.mk ((by rw [hW_]; exact setRow_blk (by (with_reducible repeat (first | refine blk_drewN ?_ _ | refine blk_drew ?_ | refine blk_alloc ?_ _)); exact BKg8.out) : W4.heap[g8]? = some (Obj.cells (bys dl) 23 (0, 0)))); have NHB_ := Aside0.mk ((by rw [hW_]; exact setRow_below (by repeat (first | (with_reducible first | exact HB.out | apply below_alloc | apply pw_below_drewN | apply below_drew1) | exact HB.out)) GEg8.out : Below w.heap.size w W4)); clear BKg3 BKg5 BKg6 BKg8 HB; have BKg3 := NBKg3_; have BKg5 := NBKg5_; have BKg6 := NBKg6_; have BKg8 := NBKg8_; have HB := NHB_; clear NBKg3_ NBKg5_ NBKg6_ NBKg8_ NHB_; clear hW_)))
    have NBKg3_ := Aside0.mk (((by (with_reducible repeat (first | refine blk_drewN ?_ _ | refine blk_drew ?_ | refine blk_alloc ?_ _)); exact BKg3.out) : W4.drew.heap[g3]? = some (Obj.cells (bys (rowL p q o)) 25 (0, 0))))
    have NBKg5_ := Aside0.mk (((by (with_reducible repeat (first | refine blk_drewN ?_ _ | refine blk_drew ?_ | refine blk_alloc ?_ _)); exact BKg5.out) : W4.drew.heap[g5]? = some (Obj.cells (bys d) 23 (0, 0))))
    have NBKg6_ := Aside0.mk (((by (with_reducible repeat (first | refine blk_drewN ?_ _ | refine blk_drew ?_ | refine blk_alloc ?_ _)); exact BKg6.out) : W4.drew.heap[g6]? = some (Obj.cells (bys (rowL zeros zeros zeros)) 25 (0, 0))))
    have NBKg8_ := Aside0.mk (((by (with_reducible repeat (first | refine blk_drewN ?_ _ | refine blk_drew ?_ | refine blk_alloc ?_ _)); exact BKg8.out) : W4.drew.heap[g8]? = some (Obj.cells (bys dl) 23 (0, 0))))
    have NHB_ := Aside0.mk ((by repeat (first | (with_reducible first | exact HB.out | apply below_alloc | apply pw_below_drewN | apply below_drew1) | exact HB.out) : Below w.heap.size w W4.drew))
    clear BKg3 BKg5 BKg6 BKg8 HB
    have BKg3 := NBKg3_
    have BKg5 := NBKg5_
    have BKg6 := NBKg6_
    have BKg8 := NBKg8_
    have HB := NHB_
    clear NBKg3_ NBKg5_ NBKg6_ NBKg8_ NHB_
    refine start_ (n := 15) (S := fun w' => (w'.heap[g3]? = some (Obj.cells (bys (rowL p q o)) 25 (0, 0))) ∧ (w'.heap[g5]? = some (Obj.cells (bys d) 23 (0, 0))) ∧ (w'.heap[g8]? = some (Obj.cells (bys dl) 23 (0, 0)))) (ds := []) #[false, false, false, false, false, false, false, false, false, false, false, false, false, false, false] (by kernel_rfl) rfl rfl (⟨BKg3.out, BKg5.out, BKg8.out⟩) (fun hHeld => ?_)
    generalize W4.drew = V0 at BKg3 BKg5 BKg6 BKg8 HB hHeld ⊢
    refine pure_ (i := 0) (N := some 20) (v := ?_) (a' := ?_) #[true, false, false, false, false, false, false, false, false, false, false, false, false, false, false] rfl rfl (by kernel_rfl) (fun _ _ _ h => h) (Or.inl ⟨by rfl, ?_⟩) ?_ ?_
    rotate_left
    · intro w'
      go_simp
      with_reducible rfl
    rotate_left
    · simp only [Act.put, List.setIfInBounds_toArray, List.set_cons_zero, List.set_cons_succ, i64_w, i32_w]
      rfl
    refine take_ (i := 1) (N := some 21) (v := .agg (bys p)) (a' := ?_) #[true, true, false, false, false, false, false, false, false, false, false, false, false, false, false] rfl rfl (by kernel_rfl) (fun _ _ _ h => h) (Or.inl ⟨by rfl, ?_⟩) hHeld ?_ ?_
    · rintro w' ⟨k_g3, k_g5, k_g8⟩
      exact exec_row_at agg23 T23.hi rfl rfl k_g3 (by rw [bys_size, HR.out]; decide) (row_p HP.out)
    rotate_left
    · simp only [Act.put, List.setIfInBounds_toArray, List.set_cons_zero, List.set_cons_succ, i64_w, i32_w]
      rfl
    refine take_ (i := 2) (N := some 22) (v := .agg (bys dl)) (a' := ?_) #[true, true, true, false, false, false, false, false, false, false, false, false, false, false, false] rfl rfl (by kernel_rfl) (fun _ _ _ h => h) (Or.inl ⟨by rfl, ?_⟩) hHeld ?_ ?_
    · rintro w' ⟨k_g3, k_g5, k_g8⟩
      exact exec_row_all agg23 (by rw [bys_size, HDL.out]; exact T23.hi) rfl rfl k_g8
    rotate_left
    · simp only [Act.put, List.setIfInBounds_toArray, List.set_cons_zero, List.set_cons_succ, i64_w, i32_w]
      rfl
    refine pure_ (i := 4) (N := some 24) (v := ?_) (a' := ?_) #[true, true, true, false, true, false, false, false, false, false, false, false, false, false, false] rfl rfl (by kernel_rfl) (fun _ _ _ h => h) (Or.inl ⟨by rfl, ?_⟩) ?_ ?_
    rotate_left
    · intro w'
      go_simp
      with_reducible rfl
    rotate_left
    · simp only [Act.put, List.setIfInBounds_toArray, List.set_cons_zero, List.set_cons_succ, i64_w, i32_w]
      rfl
    refine take_ (i := 5) (N := some 25) (v := .agg (bys q)) (a' := ?_) #[true, true, true, false, true, true, false, false, false, false, false, false, false, false, false] rfl rfl (by kernel_rfl) (fun _ _ _ h => h) (Or.inl ⟨by rfl, ?_⟩) hHeld ?_ ?_
    · rintro w' ⟨k_g3, k_g5, k_g8⟩
      exact exec_row_at agg23 T23.hi rfl rfl k_g3 (by rw [bys_size, HR.out]; decide) (row_q HP.out HQ.out)
    rotate_left
    · simp only [Act.put, List.setIfInBounds_toArray, List.set_cons_zero, List.set_cons_succ, i64_w, i32_w]
      rfl
    refine take_ (i := 6) (N := some 26) (v := .agg (bys dl)) (a' := ?_) #[true, true, true, false, true, true, true, false, false, false, false, false, false, false, false] rfl rfl (by kernel_rfl) (fun _ _ _ h => h) (Or.inl ⟨by rfl, ?_⟩) hHeld ?_ ?_
    · rintro w' ⟨k_g3, k_g5, k_g8⟩
      exact exec_row_all agg23 (by rw [bys_size, HDL.out]; exact T23.hi) rfl rfl k_g8
    rotate_left
    · simp only [Act.put, List.setIfInBounds_toArray, List.set_cons_zero, List.set_cons_succ, i64_w, i32_w]
      rfl
    refine pure_ (i := 7) (N := some 27) (v := ?_) (a' := ?_) #[true, true, true, false, true, true, true, true, false, false, false, false, false, false, false] rfl rfl (by kernel_rfl) (fun _ _ _ h => h) (Or.inl ⟨by rfl, ?_⟩) ?_ ?_
    rotate_left
    · intro w'
      go_simp
      with_reducible rfl
    rotate_left
    · simp only [Act.put, List.setIfInBounds_toArray, List.set_cons_zero, List.set_cons_succ, i64_w, i32_w]
      rfl
    refine take_ (i := 11) (N := some 31) (v := .agg (bys d)) (a' := ?_) #[true, true, true, false, true, true, true, true, false, false, false, true, false, false, false] rfl rfl (by kernel_rfl) (fun _ _ _ h => h) (Or.inl ⟨by rfl, ?_⟩) hHeld ?_ ?_
    · rintro w' ⟨k_g3, k_g5, k_g8⟩
      exact exec_row_all agg23 (by rw [bys_size, HDD.out]; exact T23.hi) rfl rfl k_g5
    rotate_left
    · simp only [Act.put, List.setIfInBounds_toArray, List.set_cons_zero, List.set_cons_succ, i64_w, i32_w]
      rfl
    refine one_ (i := 3) (N := some 23) #[true, true, true, true, true, true, true, true, false, false, false, true, false, false, false] rfl rfl (by kernel_rfl) (by decide) (fun K hK => ?_)
    refine goes_ Try.func25 (by kernel_rfl) rfl #[.agg (bys p), .agg (bys dl)] (by rfl) rfl rfl (by (try simp only [List.map_toArray, List.map_cons, List.map_nil]); first | done | rfl) ?_
    with_reducible refine (sum_calls _ _ hp hdl _).mono ?_
    rintro e V1 ⟨rfl, hb⟩
    refine ⟨_, rfl, ?_⟩
    have NBKg3_ := Aside0.mk (blk_below BKg3.out hb)
    have NBKg5_ := Aside0.mk (blk_below BKg5.out hb)
    have NBKg6_ := Aside0.mk (blk_below BKg6.out hb)
    have NBKg8_ := Aside0.mk (blk_below BKg8.out hb)
    have NHB_ := Aside0.mk (below_step HB.out hb)
    clear BKg3 BKg5 BKg6 BKg8 HB
    have BKg3 := NBKg3_
    have BKg5 := NBKg5_
    have BKg6 := NBKg6_
    have BKg8 := NBKg8_
    have HB := NHB_
    clear NBKg3_ NBKg5_ NBKg6_ NBKg8_ NHB_
    clear hb
    refine hK.out _ _ (⟨BKg3.out, BKg5.out, BKg8.out⟩) (fun hHeld => ?_)
    clear hK K
    refine norm_ (a' := ?_) ?_ ?_
    rotate_left
    · show Act.put _ (some 23) _ = _
      simp only [Act.put, List.setIfInBounds_toArray, List.set_cons_zero, List.set_cons_succ, i64_w, i32_w]
      rfl
    refine one_ (i := 8) (N := some 28) #[true, true, true, true, true, true, true, true, true, false, false, true, false, false, false] rfl rfl (by kernel_rfl) (by decide) (fun K hK => ?_)
    refine goes_ Try.func27 (by kernel_rfl) rfl #[.int .i64 i] (by rfl) rfl rfl (by (try simp only [List.map_toArray, List.map_cons, List.map_nil]); first | done | rfl) ?_
    with_reducible refine (pow_calls i _).mono ?_
    rintro e w_ ⟨rfl, ⟨nd_, rfl⟩⟩
    refine ⟨_, rfl, ?_⟩
    have NBKg3_ := Aside0.mk (blk_drewN BKg3.out nd_)
    have NBKg5_ := Aside0.mk (blk_drewN BKg5.out nd_)
    have NBKg6_ := Aside0.mk (blk_drewN BKg6.out nd_)
    have NBKg8_ := Aside0.mk (blk_drewN BKg8.out nd_)
    have NHB_ := Aside0.mk (pw_below_drewN HB.out nd_)
    clear BKg3 BKg5 BKg6 BKg8 HB
    have BKg3 := NBKg3_
    have BKg5 := NBKg5_
    have BKg6 := NBKg6_
    have BKg8 := NBKg8_
    have HB := NHB_
    clear NBKg3_ NBKg5_ NBKg6_ NBKg8_ NHB_
    refine hK.out _ _ (⟨BKg3.out, BKg5.out, BKg8.out⟩) (fun hHeld => ?_)
    clear hK K
    refine norm_ (a' := ?_) ?_ ?_
    rotate_left
    · show Act.put _ (some 28) _ = _
      simp only [Act.put, List.setIfInBounds_toArray, List.set_cons_zero, List.set_cons_succ, i64_w, i32_w]
      rfl
    generalize V1.drewN nd_ = V2 at BKg3 BKg5 BKg6 BKg8 HB hHeld ⊢
    refine one_ (i := 9) (N := some 29) #[true, true, true, true, true, true, true, true, true, true, false, true, false, false, false] rfl rfl (by kernel_rfl) (by decide) (fun K hK => ?_)
    refine goes_ Try.func26 (by kernel_rfl) rfl #[.agg (bys dl), .int .u8 ((pwZ i : Nat) : Int)] (by rfl) rfl rfl (by (try simp only [List.map_toArray, List.map_cons, List.map_nil]); first | done | rfl) ?_
    with_reducible refine (times_calls _ _ hdl (pwZ_lt _) _).mono ?_
    rintro e V3 ⟨rfl, hb⟩
    refine ⟨_, rfl, ?_⟩
    have NBKg3_ := Aside0.mk (blk_below BKg3.out hb)
    have NBKg5_ := Aside0.mk (blk_below BKg5.out hb)
    have NBKg6_ := Aside0.mk (blk_below BKg6.out hb)
    have NBKg8_ := Aside0.mk (blk_below BKg8.out hb)
    have NHB_ := Aside0.mk (below_step HB.out hb)
    clear BKg3 BKg5 BKg6 BKg8 HB
    have BKg3 := NBKg3_
    have BKg5 := NBKg5_
    have BKg6 := NBKg6_
    have BKg8 := NBKg8_
    have HB := NHB_
    clear NBKg3_ NBKg5_ NBKg6_ NBKg8_ NHB_
    clear hb
    refine hK.out _ _ (⟨BKg3.out, BKg5.out, BKg8.out⟩) (fun hHeld => ?_)
    clear hK K
    refine norm_ (a' := ?_) ?_ ?_
    rotate_left
    · show Act.put _ (some 29) _ = _
      simp only [Act.put, List.setIfInBounds_toArray, List.set_cons_zero, List.set_cons_succ, i64_w, i32_w]
      rfl
    refine one_ (i := 10) (N := some 30) #[true, true, true, true, true, true, true, true, true, true, true, true, false, false, false] rfl rfl (by kernel_rfl) (by decide) (fun K hK => ?_)
    refine goes_ Try.func25 (by kernel_rfl) rfl #[.agg (bys q), .agg (bys (mulL dl (pwZ i)))] (by rfl) rfl rfl (by (try simp only [List.map_toArray, List.map_cons, List.map_nil]); first | done | rfl) ?_
    with_reducible refine (sum_calls _ _ hq (mulL_sec hdl) _).mono ?_
    rintro e V4 ⟨rfl, hb⟩
    refine ⟨_, rfl, ?_⟩
    have NBKg3_ := Aside0.mk (blk_below BKg3.out hb)
    have NBKg5_ := Aside0.mk (blk_below BKg5.out hb)
    have NBKg6_ := Aside0.mk (blk_below BKg6.out hb)
    have NBKg8_ := Aside0.mk (blk_below BKg8.out hb)
    have NHB_ := Aside0.mk (below_step HB.out hb)
    clear BKg3 BKg5 BKg6 BKg8 HB
    have BKg3 := NBKg3_
    have BKg5 := NBKg5_
    have BKg6 := NBKg6_
    have BKg8 := NBKg8_
    have HB := NHB_
    clear NBKg3_ NBKg5_ NBKg6_ NBKg8_ NHB_
    clear hb
    refine hK.out _ _ (⟨BKg3.out, BKg5.out, BKg8.out⟩) (fun hHeld => ?_)
    clear hK K
    refine norm_ (a' := ?_) ?_ ?_
    rotate_left
    · show Act.put _ (some 30) _ = _
      simp only [Act.put, List.setIfInBounds_toArray, List.set_cons_zero, List.set_cons_succ, i64_w, i32_w]
      rfl
    refine pure_ (i := 12) (N := some 32) (v := .agg (bys (rowL (xorL p dl) (xorL q (mulL dl (pwZ i))) d))) (a' := ?_) #[true, true, true, true, true, true, true, true, true, true, true, true, true, false, false] rfl rfl (by kernel_rfl) (fun _ _ _ h => h) (Or.inl ⟨by rfl, ?_⟩) ?_ ?_
    · intro w'
      exact exec_build25 rfl rfl (fill3 (xorL_sec hp hdl).len (xorL_sec hq (mulL_sec hdl)).len hd.len)
    rotate_left
    · simp only [Act.put, List.setIfInBounds_toArray, List.set_cons_zero, List.set_cons_succ, i64_w, i32_w]
      rfl
    refine one_ (i := 13) (N := none) #[true, true, true, true, true, true, true, true, true, true, true, true, true, true, false] rfl rfl (by kernel_rfl) (by decide) (fun K hK => ?_)
    refine skip_ (by rfl) rfl (exec_put (cs' := bys (rowL (xorL p dl) (xorL q (mulL dl (pwZ i))) d)) size25 rfl rfl rfl (by show (bys (rowL (xorL p dl) (xorL q (mulL dl (pwZ i))) d)).size = 192; rw [bys_size, (rowL_length (xorL_sec hp hdl).len (xorL_sec hq (mulL_sec hdl)).len hd.len)]) one_agg BKg6.out (by rw [bys_size, (rowL_length zeros_length zeros_length zeros_length)]; decide) (putc_all ((bys_size _).trans (((rowL_length zeros_length zeros_length zeros_length)).trans (((rowL_length (xorL_sec hp hdl).len (xorL_sec hq (mulL_sec hdl)).len hd.len)).symm.trans (bys_size _).symm))))) ?_
    obtain ⟨V5, hW_⟩ : ∃ W, W = V4.setRow g6 (bys (rowL (xorL p dl) (xorL q (mulL dl (pwZ i))) d)) := ⟨_, rfl⟩
    rw [← hW_]
    have NBKg3_ := Aside0.mk ((by rw [hW_]; exact setRow_far BKg3.out Dg3g6 : V5.heap[g3]? = some (Obj.cells (bys (rowL p q o)) 25 (0, 0))))
    have NBKg5_ := Aside0.mk ((by rw [hW_]; exact setRow_far BKg5.out Dg5g6 : V5.heap[g5]? = some (Obj.cells (bys d) 23 (0, 0))))
    have NBKg6_ := Aside0.mk ((by rw [hW_]; exact setRow_blk BKg6.out : V5.heap[g6]? = some (Obj.cells (bys (rowL (xorL p dl) (xorL q (mulL dl (pwZ i))) d)) 25 (0, 0))))
    have NBKg8_ := Aside0.mk ((by rw [hW_]; exact setRow_far BKg8.out Dg8g6 : V5.heap[g8]? = some (Obj.cells (bys dl) 23 (0, 0))))
    have NHB_ := Aside0.mk ((by rw [hW_]; exact setRow_below (HB.out) GEg6.out : Below w.heap.size w V5))
    clear BKg3 BKg5 BKg6 BKg8 HB
    have BKg3 := NBKg3_
    have BKg5 := NBKg5_
    have BKg6 := NBKg6_
    have BKg8 := NBKg8_
    have HB := NHB_
    clear NBKg3_ NBKg5_ NBKg6_ NBKg8_ NHB_
    clear hW_
    refine hK.out _ _ (⟨BKg3.out, BKg5.out, BKg8.out⟩) (fun hHeld => ?_)
    clear hK K
    refine pure_ (i := 14) (N := some 7) (v := ?_) (a' := ?_) #[true, true, true, true, true, true, true, true, true, true, true, true, true, true, true] rfl rfl (by kernel_rfl) (fun _ _ _ h => h) (Or.inl ⟨by rfl, ?_⟩) ?_ ?_
    rotate_left
    · intro w'
      go_simp
      with_reducible rfl
    rotate_left
    · simp only [Act.put, List.setIfInBounds_toArray, List.set_cons_zero, List.set_cons_succ, i64_w, i32_w]
      rfl
    refine done_ (by kernel_rfl) ?_
    go_wp2
    exact bodyPost_ret (v := .tuple #[.agg (bys (rowL (xorL p dl) (xorL q (mulL dl (pwZ i))) d)), .int .i64 _]) (results_list (rs := [.cell 6 25, .tmp 7]) rfl (by simp) (.cell g6 25 _ (0, 0) _ rfl BKg6.out Try.underlying25 rfl (by rw [bys_size, (rowL_length (xorL_sec hp hdl).len (xorL_sec hq (mulL_sec hdl)).len hd.len)]; exact size25) (.tmp .nil))) rfl ⟨by first | rw [e1, e2, e3, e4] | with_reducible rfl, HB.out⟩

theorem agg5 (w : World) : (isAgg 5).run Try.prog w = .ok false w := agg_not Try.underlying5 rfl w
theorem zeros_get (k : Nat) : zeros.getD k 0 = 0 := by
  unfold zeros
  rw [List.getD_eq_getElem?_getD, List.getElem?_replicate]
  split <;> rfl
theorem psum_byte {L : List (List Nat)} (h : Secs L) {m k : Nat} (hm : m < L.length) (hk : k < 64) : (psum L (m + 1)).getD k 0 = (psum L m).getD k 0 ^^^ (L.getD m []).getD k 0 := by
  rw [psum, xorL_get (by rw [(psum_sec h m (by omega)).len]; exact hk) (by rw [(h.at hm).len]; exact hk)]
theorem qsum_byte {L : List (List Nat)} (h : Secs L) {m k : Nat} (hm : m < L.length) (hk : k < 64) : (qsum L (m + 1)).getD k 0 = (qsum L m).getD k 0 ^^^ gmul (pwZ (m : Int)) ((L.getD m []).getD k 0) := by
  rw [qsum, xorL_get (by rw [(qsum_sec h m (by omega)).len]; exact hk) (by rw [mulL_length (h.at hm).len]; exact hk), mulL_get (by rw [(h.at hm).len]; exact hk), gmul_comm ((h.at hm).get k) (pwZ_lt _)]
/-- A byte of sector i. -/
theorem byte_C {w : World} {ad : Addr} {n : Nat} {L : List (List Nat)} (h : Kd.C seK w (some ad) n L) {i j : Nat} (hi : i < n) (hj : j < 64) : w.cell? ((ad.add (i * 64)).add j) = some (.int .u8 (((L.getD i []).getD j 0 : Nat) : Int)) := by
  obtain ⟨ad', e, hl, hc⟩ := at_sec h hi
  injection e with e
  subst e
  exact hc j _ (bys_get (by omega))
set_option maxHeartbeats 4000000 in
set_option maxRecDepth 100000 in
theorem refp_calls (A : Option Addr) (n c k : Nat) (L : List (List Nat)) (w : World) (hC : Kd.C seK w A n L) (hS : Secs L) (hk : k < 64) : Calls Try.prog 31 #[.slice A n c, .int .i64 (-1), .int .i64 (k : Int)] w fun e w' => e = .returned (.int .u8 (((psum L n).getD k 0 : Nat) : Int)) ∧ Below w.heap.size w w' := by
  have hle := le_C hC
  have HB := Aside0.mk (Below.refl w.heap.size w)
  go_enter Try.func31, Try.ntmps31
  go_wp2_with fail
  go_loopw [7, 8] (fun c i wr => ∃ m : Nat, m ≤ n ∧ i = .int .i64 m ∧ c = .int .u8 (((psum L m).getD k 0 : Nat) : Int) ∧ Aside0 (Below w.heap.size w wr)) (fun _ i _ => n - (intOf i).toNat)
  case atStart => exact ⟨0, by omega, rfl, by rw [show (psum L 0).getD k 0 = 0 from zeros_get k]; rfl, HB⟩
  case round =>
    clear HB
    obtain ⟨m, hm, rfl, rfl, HB⟩ := hrel
    by_cases hlt : m < n
    · skip
      have hd : decide ((m : Int) < (n : Int)) = true := by simp; omega
      have h0 : (0 : Int) ≤ (m : Int) := by omega
      have h9 : (m : Int) < (n : Int) := by omega
      have hne : decide ((m : Int) = -1) = false := by simp <;> omega
      have hk0 : (0 : Int) ≤ (k : Int) := by omega
      have hk9 : (k : Int) < 64 := by omega
      obtain ⟨ad, rfl⟩ := sec_head hC (show 0 < n by omega)
      have hLn := len_C hC
      obtain ⟨x, ex_⟩ : ∃ x, x = (L.getD m []).getD k 0 := ⟨_, rfl⟩
      have EX := Lib.hid ex_
      have hxl : x < 256 := by rw [ex_]; exact (hS.at (show m < L.length by omega)).get k
      obtain ⟨y, ey_⟩ : ∃ y, y = (psum L m).getD k 0 := ⟨_, rfl⟩
      have EY := Lib.hid ey_
      have hyl : y < 256 := by rw [ey_]; exact (psum_sec hS m (by omega)).get k
      have hc := byte_C (Kd.C_below hC HB.out) hlt hk
      rw [← ex_] at hc
      have HCC := Lib.hid hc
      have hxx := xor8 hyl hxl
      rw [← ey_]
      clear ex_ ey_ hc
      go_wp2_with (first | ((with_reducible refine gate_dst (N := 24) rfl ?_); go_must (refine Kd.event_run rfl (exec_one agg5 rfl rfl HCC.out) ?_)))
      go_roundw
      case rel => exact ⟨m + 1, by omega, by go_num, by rw [psum_byte hS (by omega) hk, ← EX.out, ← EY.out], HB⟩
      case measure => simp [intOf] <;> omega
    · obtain rfl : n = m := by omega
      have hd : decide ((n : Int) < (n : Int)) = false := by simp
      go_wp2
      exact bodyPost_ret (results_single rfl (.tmp .nil)) rfl ⟨rfl, HB.out⟩
set_option maxHeartbeats 4000000 in
set_option maxRecDepth 100000 in
theorem refq_calls (A : Option Addr) (n c k : Nat) (L : List (List Nat)) (w : World) (hC : Kd.C seK w A n L) (hS : Secs L) (hk : k < 64) : Calls Try.prog 32 #[.slice A n c, .int .i64 (-1), .int .i64 (k : Int)] w fun e w' => e = .returned (.int .u8 (((qsum L n).getD k 0 : Nat) : Int)) ∧ Below w.heap.size w w' := by
  have hle := le_C hC
  have HB := Aside0.mk (Below.refl w.heap.size w)
  go_enter Try.func32, Try.ntmps32
  go_wp2_with fail
  go_loopw [7, 8] (fun c i wr => ∃ m : Nat, m ≤ n ∧ i = .int .i64 m ∧ c = .int .u8 (((qsum L m).getD k 0 : Nat) : Int) ∧ Aside0 (Below w.heap.size w wr)) (fun _ i _ => n - (intOf i).toNat)
  case atStart => exact ⟨0, by omega, rfl, by rw [show (qsum L 0).getD k 0 = 0 from zeros_get k]; rfl, HB⟩
  case round =>
    clear HB
    obtain ⟨m, hm, rfl, rfl, HB⟩ := hrel
    by_cases hlt : m < n
    · skip
      have hd : decide ((m : Int) < (n : Int)) = true := by simp; omega
      have h0 : (0 : Int) ≤ (m : Int) := by omega
      have h9 : (m : Int) < (n : Int) := by omega
      have hne : decide ((m : Int) = -1) = false := by simp <;> omega
      have hk0 : (0 : Int) ≤ (k : Int) := by omega
      have hk9 : (k : Int) < 64 := by omega
      obtain ⟨ad, rfl⟩ := sec_head hC (show 0 < n by omega)
      have hLn := len_C hC
      obtain ⟨x, ex_⟩ : ∃ x, x = (L.getD m []).getD k 0 := ⟨_, rfl⟩
      have EX := Lib.hid ex_
      have hxl : x < 256 := by rw [ex_]; exact (hS.at (show m < L.length by omega)).get k
      obtain ⟨y, ey_⟩ : ∃ y, y = (qsum L m).getD k 0 := ⟨_, rfl⟩
      have EY := Lib.hid ey_
      have hyl : y < 256 := by rw [ey_]; exact (qsum_sec hS m (by omega)).get k
      have hc := byte_C (Kd.C_below hC HB.out) hlt hk
      rw [← ex_] at hc
      have HCC := Lib.hid hc
      have hxx := xor8 hyl (gmul_lt (b := x) (pwZ_lt (m : Int)))
      rw [← ey_]
      clear ex_ ey_ hc
      have HX := Lib.hid hxl
      clear hxx
      go_wp2_with fail
      have NHB_ := Aside0.mk (below_drew1 HB.out)
      clear HB
      have HB := NHB_
      clear NHB_
      refine start_ (n := 12) (S := fun w' => (Below w.heap.size w w')) (ds := []) #[false, false, false, false, false, false, false, false, false, false, false, false] (by kernel_rfl) rfl rfl (HB.out) (fun hHeld => ?_)
      generalize wr.drew = V0 at  HB hHeld ⊢
      refine pure_ (i := 0) (N := some 18) (v := ?_) (a' := ?_) #[true, false, false, false, false, false, false, false, false, false, false, false] rfl rfl (by kernel_rfl) (fun _ _ _ h => h) (Or.inl ⟨by rfl, ?_⟩) ?_ ?_
      rotate_left
      · intro w'
        go_simp
        with_reducible rfl
      rotate_left
      · simp only [Act.put, List.setIfInBounds_toArray, List.set_cons_zero, List.set_cons_succ, i64_w, i32_w]
        rfl
      refine pure_ (i := 1) (N := some 19) (v := ?_) (a' := ?_) #[true, true, false, false, false, false, false, false, false, false, false, false] rfl rfl (by kernel_rfl) (fun _ _ _ h => h) (Or.inl ⟨by rfl, ?_⟩) ?_ ?_
      rotate_left
      · intro w'
        go_simp
        with_reducible rfl
      rotate_left
      · simp only [Act.put, List.setIfInBounds_toArray, List.set_cons_zero, List.set_cons_succ, i64_w, i32_w]
        rfl
      refine pure_ (i := 3) (N := some 21) (v := ?_) (a' := ?_) #[true, true, false, true, false, false, false, false, false, false, false, false] rfl rfl (by kernel_rfl) (fun _ _ _ h => h) (Or.inl ⟨by rfl, ?_⟩) ?_ ?_
      rotate_left
      · intro w'
        go_simp
        with_reducible rfl
      rotate_left
      · simp only [Act.put, List.setIfInBounds_toArray, List.set_cons_zero, List.set_cons_succ, i64_w, i32_w]
        rfl
      refine pure_ (i := 4) (N := some 22) (v := ?_) (a' := ?_) #[true, true, false, true, true, false, false, false, false, false, false, false] rfl rfl (by kernel_rfl) (fun _ _ _ h => h) (Or.inl ⟨by rfl, ?_⟩) ?_ ?_
      rotate_left
      · intro w'
        go_simp
        with_reducible rfl
      rotate_left
      · simp only [Act.put, List.setIfInBounds_toArray, List.set_cons_zero, List.set_cons_succ, i64_w, i32_w]
        rfl
      refine pure_ (i := 5) (N := some 23) (v := ?_) (a' := ?_) #[true, true, false, true, true, true, false, false, false, false, false, false] rfl rfl (by kernel_rfl) (fun _ _ _ h => h) (Or.inl ⟨by rfl, ?_⟩) ?_ ?_
      rotate_left
      · intro w'
        go_simp
        with_reducible rfl
      rotate_left
      · simp only [Act.put, List.setIfInBounds_toArray, List.set_cons_zero, List.set_cons_succ, i64_w, i32_w]
        rfl
      refine pure_ (i := 6) (N := some 24) (v := ?_) (a' := ?_) #[true, true, false, true, true, true, true, false, false, false, false, false] rfl rfl (by kernel_rfl) (fun _ _ _ h => h) (Or.inl ⟨by rfl, ?_⟩) ?_ ?_
      rotate_left
      · intro w'
        go_simp
        with_reducible rfl
      rotate_left
      · simp only [Act.put, List.setIfInBounds_toArray, List.set_cons_zero, List.set_cons_succ, i64_w, i32_w]
        rfl
      refine pure_ (i := 7) (N := some 25) (v := ?_) (a' := ?_) #[true, true, false, true, true, true, true, true, false, false, false, false] rfl rfl (by kernel_rfl) (fun _ _ _ h => h) (Or.inl ⟨by rfl, ?_⟩) ?_ ?_
      rotate_left
      · intro w'
        go_simp
        with_reducible rfl
      rotate_left
      · simp only [Act.put, List.setIfInBounds_toArray, List.set_cons_zero, List.set_cons_succ, i64_w, i32_w]
        rfl
      refine take_ (i := 8) (N := some 26) (v := .int .u8 (x : Int)) (a' := ?_) #[true, true, false, true, true, true, true, true, true, false, false, false] rfl rfl (by kernel_rfl) (fun _ _ _ h => h) (Or.inl ⟨by rfl, ?_⟩) hHeld ?_ ?_
      · rintro w' kb_
        exact exec_one agg5 rfl rfl (by have hq_ := byte_C (Kd.C_below hC kb_) hlt hk; rw [← EX.out] at hq_; exact hq_)
      rotate_left
      · simp only [Act.put, List.setIfInBounds_toArray, List.set_cons_zero, List.set_cons_succ, i64_w, i32_w]
        rfl
      refine one_ (i := 2) (N := some 20) #[true, true, true, true, true, true, true, true, true, false, false, false] rfl rfl (by kernel_rfl) (by decide) (fun K hK => ?_)
      refine goes_ Try.func29 (by kernel_rfl) rfl #[.int .i64 (m : Int)] (by rfl) rfl rfl (by (try simp only [List.map_toArray, List.map_cons, List.map_nil]); first | done | rfl) ?_
      with_reducible refine (refpow_calls (m : Int) _).mono ?_
      rintro e w_ ⟨rfl, ⟨nd_, rfl⟩⟩
      refine ⟨_, rfl, ?_⟩
      have NHB_ := Aside0.mk (pw_below_drewN HB.out nd_)
      clear HB
      have HB := NHB_
      clear NHB_
      refine hK.out _ _ (HB.out) (fun hHeld => ?_)
      clear hK K
      refine norm_ (a' := ?_) ?_ ?_
      rotate_left
      · show Act.put _ (some 20) _ = _
        simp only [Act.put, List.setIfInBounds_toArray, List.set_cons_zero, List.set_cons_succ, i64_w, i32_w]
        rfl
      generalize V0.drewN nd_ = V1 at  HB hHeld ⊢
      refine one_ (i := 9) (N := some 27) #[true, true, true, true, true, true, true, true, true, true, false, false] rfl rfl (by kernel_rfl) (by decide) (fun K hK => ?_)
      refine goes_ Try.func28 (by kernel_rfl) rfl #[.int .u8 ((pwZ (m : Int) : Nat) : Int), .int .u8 (x : Int)] (by rfl) rfl rfl (by (try simp only [List.map_toArray, List.map_cons, List.map_nil]); first | done | rfl) ?_
      with_reducible refine (refmul_calls (pwZ_lt _) HX.out _).mono ?_
      rintro e w_ ⟨rfl, ⟨nd_, rfl⟩⟩
      refine ⟨_, rfl, ?_⟩
      have NHB_ := Aside0.mk (pw_below_drewN HB.out nd_)
      clear HB
      have HB := NHB_
      clear NHB_
      refine hK.out _ _ (HB.out) (fun hHeld => ?_)
      clear hK K
      refine norm_ (a' := ?_) ?_ ?_
      rotate_left
      · show Act.put _ (some 27) _ = _
        simp only [Act.put, List.setIfInBounds_toArray, List.set_cons_zero, List.set_cons_succ, i64_w, i32_w]
        rfl
      generalize V1.drewN nd_ = V2 at  HB hHeld ⊢
      have hxx := xor8 hyl (gmul_lt (b := x) (pwZ_lt (m : Int)))
      refine pure_ (i := 10) (N := some 28) (v := ?_) (a' := ?_) #[true, true, true, true, true, true, true, true, true, true, true, false] rfl rfl (by kernel_rfl) (fun _ _ _ h => h) (Or.inl ⟨by rfl, ?_⟩) ?_ ?_
      rotate_left
      · intro w'
        go_simp
        with_reducible rfl
      rotate_left
      · simp only [Act.put, List.setIfInBounds_toArray, List.set_cons_zero, List.set_cons_succ, i64_w, i32_w]
        rfl
      refine pure_ (i := 11) (N := some 7) (v := ?_) (a' := ?_) #[true, true, true, true, true, true, true, true, true, true, true, true] rfl rfl (by kernel_rfl) (fun _ _ _ h => h) (Or.inl ⟨by rfl, ?_⟩) ?_ ?_
      rotate_left
      · intro w'
        go_simp
        with_reducible rfl
      rotate_left
      · simp only [Act.put, List.setIfInBounds_toArray, List.set_cons_zero, List.set_cons_succ, i64_w, i32_w]
        rfl
      refine done_ (by kernel_rfl) ?_
      clear hxx
      go_wp2
      go_roundw
      case rel => exact ⟨m + 1, by omega, by go_num, by rw [qsum_byte hS (by omega) hk, ← EX.out, ← EY.out], HB⟩
      case measure => simp [intOf] <;> omega
    · obtain rfl : n = m := by omega
      have hd : decide ((n : Int) < (n : Int)) = false := by simp
      go_wp2
      exact bodyPost_ret (results_single rfl (.tmp .nil)) rfl ⟨rfl, HB.out⟩

theorem rowb_p {p q o : List Nat} {k : Nat} (hp : p.length = 64) (hk : k < 64) : (rowL p q o).getD k 0 = p.getD k 0 := by
  unfold rowL
  rw [List.append_assoc, List.getD_eq_getElem?_getD, List.getElem?_append_left (by omega), ← List.getD_eq_getElem?_getD]
theorem rowb_q {p q o : List Nat} {k : Nat} (hp : p.length = 64) (hq : q.length = 64) (hk : k < 64) : (rowL p q o).getD (64 + k) 0 = q.getD k 0 := by
  unfold rowL
  rw [List.getD_eq_getElem?_getD, List.getElem?_append_left (by simp; omega), List.getElem?_append_right (by omega), ← List.getD_eq_getElem?_getD]
  congr 1; omega
theorem rowb_o {p q o : List Nat} {k : Nat} (hp : p.length = 64) (hq : q.length = 64) : (rowL p q o).getD (128 + k) 0 = o.getD k 0 := by
  unfold rowL
  rw [List.getD_eq_getElem?_getD, List.getElem?_append_right (by simp; omega), ← List.getD_eq_getElem?_getD]
  congr 1; simp; omega
theorem putb_p {p q o : List Nat} {k x : Nat} (hp : p.length = 64) (hk : k < 64) : putc (bys (rowL p q o)) k #[.int .u8 (x : Int)] = bys (rowL (p.set k x) q o) := by
  rw [putc_byte (by unfold rowL; simp; omega)]
  unfold rowL
  rw [List.append_assoc, List.append_assoc, List.set_append_left _ _ (by omega)]
theorem putb_q {p q o : List Nat} {k x : Nat} (hp : p.length = 64) (hq : q.length = 64) (hk : k < 64) : putc (bys (rowL p q o)) (64 + k) #[.int .u8 (x : Int)] = bys (rowL p (q.set k x) o) := by
  rw [putc_byte (by unfold rowL; simp; omega)]
  unfold rowL
  rw [List.set_append_left _ _ (by simp; omega), List.set_append_right _ _ (by omega)]
  congr 4; omega
set_option maxHeartbeats 4000000 in
set_option maxRecDepth 100000 in
theorem refchange_calls (p q o : List Nat) (i : Int) (d : List Nat) (w : World) (hp : Sec p) (hq : Sec q) (ho : Sec o) (hd : Sec d) : Calls Try.prog 11 #[.agg (bys (rowL p q o)), .int .i64 i, .agg (bys d)] w fun e w' => e = .returned (.tuple #[.agg (bys (rowL (chP p o d i) (chQ q o d i) (chO d i))), .int .i64 (chE i)]) ∧ Below w.heap.size w w' := by
  by_cases h0 : i < 0
  · skip
    have e1 : chE i = 2 := by simp [chE, h0]
    have e2 : chP p o d i = zeros := by simp [chP, h0]
    have e3 : chQ q o d i = zeros := by simp [chQ, h0]
    have e4 : chO d i = zeros := by simp [chO, h0]
    have HB := Aside0.mk (Below.refl w.heap.size w)
    have d1 : decide (i < 0) = true := by simpa using h0
    go_enter Try.func11, Try.ntmps11
    go_wp2_with (first | ((with_reducible refine gate_store (t := 25) (p := 6) rfl ?_); go_must (rw [zlit25]; obtain ⟨q0_, q1_, q2_, nb_⟩ := Wk.blks3 w (Obj.cells (bys (rowL p q o)) 25 (0, 0)) (Obj.cells (bys d) 23 (0, 0)) (Obj.cells (bys (rowL zeros zeros zeros)) 25 (0, 0)); obtain ⟨W1, hW_⟩ : ∃ W, W = (((w.alloc (Obj.cells (bys (rowL p q o)) 25 (0, 0))).alloc (Obj.cells (bys d) 23 (0, 0))).alloc (Obj.cells (bys (rowL zeros zeros zeros)) 25 (0, 0))) := ⟨_, rfl⟩; rw [← hW_]; rw [← hW_] at q0_; rw [← hW_] at q1_; rw [← hW_] at q2_; rw [← hW_] at nb_; have sz_ := below_size HB.out; have hb2_ := Aside0.mk (below_step HB.out nb_); obtain ⟨g3, hgg3_⟩ : ∃ g, g = w.heap.size := ⟨_, rfl⟩; obtain ⟨g5, hgg5_⟩ : ∃ g, g = w.heap.size + 1 := ⟨_, rfl⟩; obtain ⟨g6, hgg6_⟩ : ∃ g, g = w.heap.size + 1 + 1 := ⟨_, rfl⟩; rw [← hgg6_]; rw [← hgg6_] at q2_; rw [← hgg5_]; rw [← hgg5_] at q1_; rw [← hgg3_]; rw [← hgg3_] at q0_; have hge_ : w.heap.size ≤ g3 := (by omega); have GEg3 := Aside0.mk hge_; clear hge_; have hge_ : w.heap.size ≤ g5 := (by omega); have GEg5 := Aside0.mk hge_; clear hge_; have Dg3g5 : g3 ≠ g5 := (by omega); have Dg5g3 : g5 ≠ g3 := (by omega); have hge_ : w.heap.size ≤ g6 := (by omega); have GEg6 := Aside0.mk hge_; clear hge_; have Dg3g6 : g3 ≠ g6 := (by omega); have Dg6g3 : g6 ≠ g3 := (by omega); have Dg5g6 : g5 ≠ g6 := (by omega); have Dg6g5 : g6 ≠ g5 := (by omega); have BKg3 := Aside0.mk q0_; have BKg5 := Aside0.mk q1_; have BKg6 := Aside0.mk q2_; clear HB; have HB := hb2_; clear hb2_ sz_ hW_ nb_ hgg3_ hgg5_ hgg6_ q0_ q1_ q2_); ((with_reducible refine gate_store (t := 25) (p := 6) rfl ?_); go_must (refine store_event rfl rfl rfl (exec_put (cs' := bys (rowL zeros zeros zeros)) size25 rfl rfl rfl (by show (bys (rowL zeros zeros zeros)).size = 192; rw [bys_size, (rowL_length zeros_length zeros_length zeros_length)]) one_agg (by (with_reducible repeat (first | refine blk_drewN ?_ _ | refine blk_drew ?_ | refine blk_alloc ?_ _)); exact BKg6.out) (by rw [bys_size, (rowL_length zeros_length zeros_length zeros_length)]; decide) (putc_all ((bys_size _).trans (((rowL_length zeros_length zeros_length zeros_length)).trans (((rowL_length zeros_length zeros_length zeros_length)).symm.trans (bys_size _).symm))))) ?_); intro W2 hW_; have NBKg3_ := Aside0.mk ((by rw [hW_]; exact setRow_far (by (with_reducible repeat (first | refine blk_drewN ?_ _ | refine blk_drew ?_ | refine blk_alloc ?_ _)); exact BKg3.out) Dg3g6 : W2.heap[g3]? = some (Obj.cells (bys (rowL p q o)) 25 (0, 0)))); have NBKg5_ := Aside0.mk ((by rw [hW_]; exact setRow_far (by (with_reducible repeat (first | refine blk_drewN ?_ _ | refine blk_drew ?_ | refine blk_alloc ?_ _)); exact BKg5.out) Dg5g6 : W2.heap[g5]? = some (Obj.cells (bys d) 23 (0, 0)))); have NBKg6_ := Aside0.mk ((by rw [hW_]; exact setRow_blk (by (with_reducible repeat (first | refine blk_drewN ?_ _ | refine blk_drew ?_ | refine blk_alloc ?_ _)); exact BKg6.out) : W2.heap[g6]? = some (Obj.cells (bys (rowL zeros zeros zeros)) 25 (0, 0)))); have NHB_ := Aside0.mk ((by rw [hW_]; exact setRow_below (by repeat (first | (with_reducible first | exact HB.out | apply below_alloc | apply pw_below_drewN | apply below_drew1) | exact HB.out)) GEg6.out : Below w.heap.size w W2)); clear BKg3 BKg5 BKg6 HB; have BKg3 := NBKg3_; have BKg5 := NBKg5_; have BKg6 := NBKg6_; have HB := NHB_; clear NBKg3_ NBKg5_ NBKg6_ NHB_; clear hW_)))
    exact bodyPost_ret (v := .tuple #[.agg (bys (rowL zeros zeros zeros)), .int .i64 _]) (results_list (rs := [.cell 6 25, .tmp 7]) rfl (by simp) (.cell g6 25 _ (0, 0) _ rfl BKg6.out Try.underlying25 rfl (by rw [bys_size, (rowL_length zeros_length zeros_length zeros_length)]; exact size25) (.tmp .nil))) rfl ⟨by first | rw [e1, e2, e3, e4] | with_reducible rfl, HB.out⟩
  by_cases h1 : 62 ≤ i
  · skip
    have e1 : chE i = 2 := by simp [chE, h0, h1]
    have e2 : chP p o d i = zeros := by simp [chP, h0, h1]
    have e3 : chQ q o d i = zeros := by simp [chQ, h0, h1]
    have e4 : chO d i = zeros := by simp [chO, h0, h1]
    have HB := Aside0.mk (Below.refl w.heap.size w)
    have d1 : decide (i < 0) = false := by simpa using h0
    have d2 : decide (61 < i) = true := by simp; omega
    go_enter Try.func11, Try.ntmps11
    go_wp2_with (first | ((with_reducible refine gate_store (t := 25) (p := 6) rfl ?_); go_must (rw [zlit25]; obtain ⟨q0_, q1_, q2_, nb_⟩ := Wk.blks3 w (Obj.cells (bys (rowL p q o)) 25 (0, 0)) (Obj.cells (bys d) 23 (0, 0)) (Obj.cells (bys (rowL zeros zeros zeros)) 25 (0, 0)); obtain ⟨W1, hW_⟩ : ∃ W, W = (((w.alloc (Obj.cells (bys (rowL p q o)) 25 (0, 0))).alloc (Obj.cells (bys d) 23 (0, 0))).alloc (Obj.cells (bys (rowL zeros zeros zeros)) 25 (0, 0))) := ⟨_, rfl⟩; rw [← hW_]; rw [← hW_] at q0_; rw [← hW_] at q1_; rw [← hW_] at q2_; rw [← hW_] at nb_; have sz_ := below_size HB.out; have hb2_ := Aside0.mk (below_step HB.out nb_); obtain ⟨g3, hgg3_⟩ : ∃ g, g = w.heap.size := ⟨_, rfl⟩; obtain ⟨g5, hgg5_⟩ : ∃ g, g = w.heap.size + 1 := ⟨_, rfl⟩; obtain ⟨g6, hgg6_⟩ : ∃ g, g = w.heap.size + 1 + 1 := ⟨_, rfl⟩; rw [← hgg6_]; rw [← hgg6_] at q2_; rw [← hgg5_]; rw [← hgg5_] at q1_; rw [← hgg3_]; rw [← hgg3_] at q0_; have hge_ : w.heap.size ≤ g3 := (by omega); have GEg3 := Aside0.mk hge_; clear hge_; have hge_ : w.heap.size ≤ g5 := (by omega); have GEg5 := Aside0.mk hge_; clear hge_; have Dg3g5 : g3 ≠ g5 := (by omega); have Dg5g3 : g5 ≠ g3 := (by omega); have hge_ : w.heap.size ≤ g6 := (by omega); have GEg6 := Aside0.mk hge_; clear hge_; have Dg3g6 : g3 ≠ g6 := (by omega); have Dg6g3 : g6 ≠ g3 := (by omega); have Dg5g6 : g5 ≠ g6 := (by omega); have Dg6g5 : g6 ≠ g5 := (by omega); have BKg3 := Aside0.mk q0_; have BKg5 := Aside0.mk q1_; have BKg6 := Aside0.mk q2_; clear HB; have HB := hb2_; clear hb2_ sz_ hW_ nb_ hgg3_ hgg5_ hgg6_ q0_ q1_ q2_); ((with_reducible refine gate_store (t := 25) (p := 6) rfl ?_); go_must (refine store_event rfl rfl rfl (exec_put (cs' := bys (rowL zeros zeros zeros)) size25 rfl rfl rfl (by show (bys (rowL zeros zeros zeros)).size = 192; rw [bys_size, (rowL_length zeros_length zeros_length zeros_length)]) one_agg (by (with_reducible repeat (first | refine blk_drewN ?_ _ | refine blk_drew ?_ | refine blk_alloc ?_ _)); exact BKg6.out) (by rw [bys_size, (rowL_length zeros_length zeros_length zeros_length)]; decide) (putc_all ((bys_size _).trans (((rowL_length zeros_length zeros_length zeros_length)).trans (((rowL_length zeros_length zeros_length zeros_length)).symm.trans (bys_size _).symm))))) ?_); intro W2 hW_; have NBKg3_ := Aside0.mk ((by rw [hW_]; exact setRow_far (by (with_reducible repeat (first | refine blk_drewN ?_ _ | refine blk_drew ?_ | refine blk_alloc ?_ _)); exact BKg3.out) Dg3g6 : W2.heap[g3]? = some (Obj.cells (bys (rowL p q o)) 25 (0, 0)))); have NBKg5_ := Aside0.mk ((by rw [hW_]; exact setRow_far (by (with_reducible repeat (first | refine blk_drewN ?_ _ | refine blk_drew ?_ | refine blk_alloc ?_ _)); exact BKg5.out) Dg5g6 : W2.heap[g5]? = some (Obj.cells (bys d) 23 (0, 0)))); have NBKg6_ := Aside0.mk ((by rw [hW_]; exact setRow_blk (by (with_reducible repeat (first | refine blk_drewN ?_ _ | refine blk_drew ?_ | refine blk_alloc ?_ _)); exact BKg6.out) : W2.heap[g6]? = some (Obj.cells (bys (rowL zeros zeros zeros)) 25 (0, 0)))); have NHB_ := Aside0.mk ((by rw [hW_]; exact setRow_below (by repeat (first | (with_reducible first | exact HB.out | apply below_alloc | apply pw_below_drewN | apply below_drew1) | exact HB.out)) GEg6.out : Below w.heap.size w W2)); clear BKg3 BKg5 BKg6 HB; have BKg3 := NBKg3_; have BKg5 := NBKg5_; have BKg6 := NBKg6_; have HB := NHB_; clear NBKg3_ NBKg5_ NBKg6_ NHB_; clear hW_)))
    exact bodyPost_ret (v := .tuple #[.agg (bys (rowL zeros zeros zeros)), .int .i64 _]) (results_list (rs := [.cell 6 25, .tmp 7]) rfl (by simp) (.cell g6 25 _ (0, 0) _ rfl BKg6.out Try.underlying25 rfl (by rw [bys_size, (rowL_length zeros_length zeros_length zeros_length)]; exact size25) (.tmp .nil))) rfl ⟨by first | rw [e1, e2, e3, e4] | with_reducible rfl, HB.out⟩
  · skip
    have e1 : chE i = 0 := by simp [chE, h0, h1]
    have e2 : chP p o d i = xorL p (xorL o d) := by simp [chP, h0, h1]
    have e3 : chQ q o d i = xorL q (mulL (xorL o d) (pwZ i)) := by simp [chQ, h0, h1]
    have e4 : chO d i = d := by simp [chO, h0, h1]
    have HB := Aside0.mk (Below.refl w.heap.size w)
    have d1 : decide (i < 0) = false := by simpa using h0
    have d0 : (i < 0) = False := by simpa using h0
    have d2 : decide (61 < i) = false := by simp; omega
    go_enter Try.func11, Try.ntmps11
    have hdl := xorL_sec ho hd
    have HP := Lib.hid hp
    have HQ := Lib.hid hq
    have HO := Lib.hid ho
    have HDD := Lib.hid hd.len
    have HSD := Lib.hid hd
    have HR := Lib.hid (rowL_length hp.len hq.len ho.len)
    obtain ⟨dl, edl⟩ : ∃ dl, dl = xorL o d := ⟨_, rfl⟩
    rw [← edl] at hdl e2 e3
    have HDL := Lib.hid hdl
    have EDL := Lib.hid edl
    clear edl hdl
    obtain ⟨pp, epp⟩ : ∃ x, x = xorL p dl := ⟨_, rfl⟩
    obtain ⟨qq, eqq⟩ : ∃ x, x = xorL q (mulL dl (pwZ i)) := ⟨_, rfl⟩
    rw [← epp] at e2
    rw [← eqq] at e3
    have hpp : Sec pp := by rw [epp]; exact xorL_sec hp HDL.out
    have hqq : Sec qq := by rw [eqq]; exact xorL_sec hq (mulL_sec HDL.out)
    have HPP := Lib.hid hpp
    have HQQ := Lib.hid hqq
    have EPP := Lib.hid epp
    have EQQ := Lib.hid eqq
    clear epp eqq hpp hqq
    go_wp2_with (first | ((with_reducible refine gate_dst (N := 18) rfl ?_); go_must (rw [zlit25]; obtain ⟨q0_, q1_, q2_, nb_⟩ := Wk.blks3 w (Obj.cells (bys (rowL p q o)) 25 (0, 0)) (Obj.cells (bys d) 23 (0, 0)) (Obj.cells (bys (rowL zeros zeros zeros)) 25 (0, 0)); obtain ⟨W1, hW_⟩ : ∃ W, W = (((w.alloc (Obj.cells (bys (rowL p q o)) 25 (0, 0))).alloc (Obj.cells (bys d) 23 (0, 0))).alloc (Obj.cells (bys (rowL zeros zeros zeros)) 25 (0, 0))) := ⟨_, rfl⟩; rw [← hW_]; rw [← hW_] at q0_; rw [← hW_] at q1_; rw [← hW_] at q2_; rw [← hW_] at nb_; have sz_ := below_size HB.out; have hb2_ := Aside0.mk (below_step HB.out nb_); obtain ⟨g3, hgg3_⟩ : ∃ g, g = w.heap.size := ⟨_, rfl⟩; obtain ⟨g5, hgg5_⟩ : ∃ g, g = w.heap.size + 1 := ⟨_, rfl⟩; obtain ⟨g6, hgg6_⟩ : ∃ g, g = w.heap.size + 1 + 1 := ⟨_, rfl⟩; rw [← hgg6_]; rw [← hgg6_] at q2_; rw [← hgg5_]; rw [← hgg5_] at q1_; rw [← hgg3_]; rw [← hgg3_] at q0_; have hge_ : w.heap.size ≤ g3 := (by omega); have GEg3 := Aside0.mk hge_; clear hge_; have hge_ : w.heap.size ≤ g5 := (by omega); have GEg5 := Aside0.mk hge_; clear hge_; have Dg3g5 : g3 ≠ g5 := (by omega); have Dg5g3 : g5 ≠ g3 := (by omega); have hge_ : w.heap.size ≤ g6 := (by omega); have GEg6 := Aside0.mk hge_; clear hge_; have Dg3g6 : g3 ≠ g6 := (by omega); have Dg6g3 : g6 ≠ g3 := (by omega); have Dg5g6 : g5 ≠ g6 := (by omega); have Dg6g5 : g6 ≠ g5 := (by omega); have BKg3 := Aside0.mk q0_; have BKg5 := Aside0.mk q1_; have BKg6 := Aside0.mk q2_; clear HB; have HB := hb2_; clear hb2_ sz_ hW_ nb_ hgg3_ hgg5_ hgg6_ q0_ q1_ q2_); ((with_reducible refine gate_dst (N := 18) rfl ?_); go_must (refine Kd.event_run rfl (exec_row_all agg23 (by rw [bys_size, HDD.out]; exact T23.hi) rfl rfl (by (with_reducible repeat (first | refine blk_drewN ?_ _ | refine blk_drew ?_ | refine blk_alloc ?_ _)); exact BKg5.out)) ?_))) | ((with_reducible refine gate_dst (N := 19) rfl ?_); go_must (refine Kd.event_run rfl (exec_build25 rfl rfl (fillo HDD.out)) ?_)) | ((with_reducible refine gate_store (t := 25) (p := 8) rfl ?_); go_must (rw [zlit25]; obtain ⟨q0_, nb_⟩ := Wk.blks1 W1 (Obj.cells (bys (rowL zeros zeros zeros)) 25 (0, 0)); obtain ⟨W2, hW_⟩ : ∃ W, W = (W1.alloc (Obj.cells (bys (rowL zeros zeros zeros)) 25 (0, 0))) := ⟨_, rfl⟩; rw [← hW_]; rw [← hW_] at q0_; rw [← hW_] at nb_; have mg3_ := blk_below BKg3.out nb_; have mg5_ := blk_below BKg5.out nb_; have mg6_ := blk_below BKg6.out nb_; have sz_ := below_size HB.out; have ltg3_ := blk_lt BKg3.out; have ltg5_ := blk_lt BKg5.out; have ltg6_ := blk_lt BKg6.out; have hb2_ := Aside0.mk (below_step HB.out nb_); obtain ⟨g8, hgg8_⟩ : ∃ g, g = W1.heap.size := ⟨_, rfl⟩; rw [← hgg8_]; rw [← hgg8_] at q0_; have hge_ : w.heap.size ≤ g8 := (by omega); have GEg8 := Aside0.mk hge_; clear hge_; have Dg3g8 : g3 ≠ g8 := (by omega); have Dg8g3 : g8 ≠ g3 := (by omega); have Dg5g8 : g5 ≠ g8 := (by omega); have Dg8g5 : g8 ≠ g5 := (by omega); have Dg6g8 : g6 ≠ g8 := (by omega); have Dg8g6 : g8 ≠ g6 := (by omega); have BNg3 := Aside0.mk mg3_; clear BKg3; have BKg3 := BNg3; clear BNg3 ltg3_ mg3_; have BNg5 := Aside0.mk mg5_; clear BKg5; have BKg5 := BNg5; clear BNg5 ltg5_ mg5_; have BNg6 := Aside0.mk mg6_; clear BKg6; have BKg6 := BNg6; clear BNg6 ltg6_ mg6_; have BKg8 := Aside0.mk q0_; clear HB; have HB := hb2_; clear hb2_ sz_ hW_ nb_ hgg8_ q0_); ((with_reducible refine gate_store (t := 25) (p := 8) rfl ?_); go_must (refine store_event rfl rfl rfl (exec_put (cs' := bys (rowL zeros zeros d)) size25 rfl rfl rfl (by show (bys (rowL zeros zeros d)).size = 192; rw [bys_size, (rowL_length zeros_length zeros_length HDD.out)]) one_agg (by (with_reducible repeat (first | refine blk_drewN ?_ _ | refine blk_drew ?_ | refine blk_alloc ?_ _)); exact BKg8.out) (by rw [bys_size, (rowL_length zeros_length zeros_length zeros_length)]; decide) (putc_all ((bys_size _).trans (((rowL_length zeros_length zeros_length zeros_length)).trans (((rowL_length zeros_length zeros_length HDD.out)).symm.trans (bys_size _).symm))))) ?_); intro W3 hW_; have NBKg3_ := Aside0.mk ((by rw [hW_]; exact setRow_far (by (with_reducible repeat (first | refine blk_drewN ?_ _ | refine blk_drew ?_ | refine blk_alloc ?_ _)); exact BKg3.out) Dg3g8 : W3.heap[g3]? = some (Obj.cells (bys (rowL p q o)) 25 (0, 0)))); have NBKg5_ := Aside0.mk ((by rw [hW_]; exact setRow_far (by (with_reducible repeat (first | refine blk_drewN ?_ _ | refine blk_drew ?_ | refine blk_alloc ?_ _)); exact BKg5.out) Dg5g8 : W3.heap[g5]? = some (Obj.cells (bys d) 23 (0, 0)))); have NBKg6_ := Aside0.mk ((by rw [hW_]; exact setRow_far (by (with_reducible repeat (first | refine blk_drewN ?_ _ | refine blk_drew ?_ | refine blk_alloc ?_ _)); exact BKg6.out) Dg6g8 : W3.heap[g6]? = some (Obj.cells (bys (rowL zeros zeros zeros)) 25 (0, 0)))); have NBKg8_ := Aside0.mk ((by rw [hW_]; exact setRow_blk (by (with_reducible repeat (first | refine blk_drewN ?_ _ | refine blk_drew ?_ | refine blk_alloc ?_ _)); exact BKg8.out) : W3.heap[g8]? = some (Obj.cells (bys (rowL zeros zeros d)) 25 (0, 0)))); have NHB_ := Aside0.mk ((by rw [hW_]; exact setRow_below (by repeat (first | (with_reducible first | exact HB.out | apply below_alloc | apply pw_below_drewN | apply below_drew1) | exact HB.out)) GEg8.out : Below w.heap.size w W3)); clear BKg3 BKg5 BKg6 BKg8 HB; have BKg3 := NBKg3_; have BKg5 := NBKg5_; have BKg6 := NBKg6_; have BKg8 := NBKg8_; have HB := NHB_; clear NBKg3_ NBKg5_ NBKg6_ NBKg8_ NHB_; clear hW_)))
    go_loopw [9, 10] (fun i_ j_ wr => ∃ k : Nat, k ≤ 64 ∧ i_ = .int .i64 k ∧ Aside0 (wr.heap[g3]? = some (Obj.cells (bys (rowL p q o)) 25 (0, 0))) ∧ Aside0 (wr.heap[g5]? = some (Obj.cells (bys d) 23 (0, 0))) ∧ Aside0 (wr.heap[g6]? = some (Obj.cells (bys (rowL zeros zeros zeros)) 25 (0, 0))) ∧ Aside0 (wr.heap[g8]? = some (Obj.cells (bys (rowL (mix pp zeros k) (mix qq zeros k) d)) 25 (0, 0))) ∧ Aside0 (Below w.heap.size w wr)) (fun i_ _ _ => 64 - (intOf i_).toNat)
    case atStart => exact ⟨0, by omega, rfl, BKg3, BKg5, BKg6, ⟨by rw [mix_zero, mix_zero]; exact BKg8.out⟩, HB⟩
    case round =>
      clear BKg3 BKg5 BKg6 BKg8 HB
      obtain ⟨k, hk, rfl, BKg3, BKg5, BKg6, BKg8, HB⟩ := hrel
      by_cases hlt : k < 64
      · skip
        have hd1 : decide ((k : Int) < 64) = true := by simp; omega
        have h0 : (0 : Int) ≤ (k : Int) := by omega
        have h9 : (k : Int) < 64 := by omega
        have l1 : (mix pp zeros k).length = 64 := by rw [mix_length (by rw [HPP.out.len, zeros_length]) (by rw [zeros_length]; omega), zeros_length]
        have l2 : (mix qq zeros k).length = 64 := by rw [mix_length (by rw [HQQ.out.len, zeros_length]) (by rw [zeros_length]; omega), zeros_length]
        have L1 := Lib.hid l1
        have L2 := Lib.hid l2
        clear l1 l2
        obtain ⟨x, ex_⟩ : ∃ x, x = o.getD k 0 := ⟨_, rfl⟩
        obtain ⟨y, ey_⟩ : ∃ x, x = d.getD k 0 := ⟨_, rfl⟩
        obtain ⟨u, eu_⟩ : ∃ x, x = p.getD k 0 := ⟨_, rfl⟩
        obtain ⟨v, ev_⟩ : ∃ x, x = q.getD k 0 := ⟨_, rfl⟩
        have hx : x < 256 := by rw [ex_]; exact HO.out.get k
        have hy : y < 256 := by rw [ey_]; exact HSD.out.get k
        have hu : u < 256 := by rw [eu_]; exact HP.out.get k
        have hv : v < 256 := by rw [ev_]; exact HQ.out.get k
        have EX := Lib.hid ex_
        have EY := Lib.hid ey_
        have EU := Lib.hid eu_
        have EV := Lib.hid ev_
        clear ex_ ey_ eu_ ev_
        obtain ⟨z, ez_⟩ : ∃ z, z = x ^^^ y := ⟨_, rfl⟩
        have hz : z < 256 := by rw [ez_]; exact xor_lt hx hy
        have EZ := Lib.hid ez_
        clear ez_
        have HX := Lib.hid hx
        have HY := Lib.hid hy
        have HU := Lib.hid hu
        have HV := Lib.hid hv
        have HZ := Lib.hid hz
        clear hx hy hu hv hz
        go_wp2_with fail
        have NBKg3_ := Aside0.mk (blk_drew BKg3.out)
        have NBKg5_ := Aside0.mk (blk_drew BKg5.out)
        have NBKg6_ := Aside0.mk (blk_drew BKg6.out)
        have NBKg8_ := Aside0.mk (blk_drew BKg8.out)
        have NHB_ := Aside0.mk (below_drew1 HB.out)
        clear BKg3 BKg5 BKg6 BKg8 HB
        have BKg3 := NBKg3_
        have BKg5 := NBKg5_
        have BKg6 := NBKg6_
        have BKg8 := NBKg8_
        have HB := NHB_
        clear NBKg3_ NBKg5_ NBKg6_ NBKg8_ NHB_
        refine start_ (n := 9) (S := fun w' => (w'.heap[g3]? = some (Obj.cells (bys (rowL p q o)) 25 (0, 0))) ∧ (w'.heap[g5]? = some (Obj.cells (bys d) 23 (0, 0)))) (ds := []) #[false, false, false, false, false, false, false, false, false] (by kernel_rfl) rfl rfl (⟨BKg3.out, BKg5.out⟩) (fun hHeld => ?_)
        generalize wr.drew = V0 at BKg3 BKg5 BKg6 BKg8 HB hHeld ⊢
        refine pure_ (i := 0) (N := some 24) (v := ?_) (a' := ?_) #[true, false, false, false, false, false, false, false, false] rfl rfl (by kernel_rfl) (fun _ _ _ h => h) (Or.inl ⟨by rfl, ?_⟩) ?_ ?_
        rotate_left
        · intro w'
          go_simp
          with_reducible rfl
        rotate_left
        · simp only [Act.put, List.setIfInBounds_toArray, List.set_cons_zero, List.set_cons_succ, i64_w, i32_w]
          rfl
        refine pure_ (i := 1) (N := some 25) (v := ?_) (a' := ?_) #[true, true, false, false, false, false, false, false, false] rfl rfl (by kernel_rfl) (fun _ _ _ h => h) (Or.inl ⟨by rfl, ?_⟩) ?_ ?_
        rotate_left
        · intro w'
          go_simp
          with_reducible rfl
        rotate_left
        · simp only [Act.put, List.setIfInBounds_toArray, List.set_cons_zero, List.set_cons_succ, i64_w, i32_w]
          rfl
        refine pure_ (i := 2) (N := some 26) (v := ?_) (a' := ?_) #[true, true, true, false, false, false, false, false, false] rfl rfl (by kernel_rfl) (fun _ _ _ h => h) (Or.inl ⟨by rfl, ?_⟩) ?_ ?_
        rotate_left
        · intro w'
          go_simp
          with_reducible rfl
        rotate_left
        · simp only [Act.put, List.setIfInBounds_toArray, List.set_cons_zero, List.set_cons_succ, i64_w, i32_w]
          rfl
        refine take_ (i := 3) (N := some 27) (v := .int .u8 (x : Int)) (a' := ?_) #[true, true, true, true, false, false, false, false, false] rfl rfl (by kernel_rfl) (fun _ _ _ h => h) (Or.inl ⟨by rfl, ?_⟩) hHeld ?_ ?_
        · rintro w' ⟨k_g3, k_g5⟩
          exact exec_one agg5 rfl rfl (by rw [EX.out, ← rowb_o (p := p) (q := q) HP.out.len HQ.out.len]; exact cell_bys k_g3 (by rw [HR.out]; omega))
        rotate_left
        · simp only [Act.put, List.setIfInBounds_toArray, List.set_cons_zero, List.set_cons_succ, i64_w, i32_w]
          rfl
        refine pure_ (i := 4) (N := some 28) (v := ?_) (a' := ?_) #[true, true, true, true, true, false, false, false, false] rfl rfl (by kernel_rfl) (fun _ _ _ h => h) (Or.inl ⟨by rfl, ?_⟩) ?_ ?_
        rotate_left
        · intro w'
          go_simp
          with_reducible rfl
        rotate_left
        · simp only [Act.put, List.setIfInBounds_toArray, List.set_cons_zero, List.set_cons_succ, i64_w, i32_w]
          rfl
        refine pure_ (i := 5) (N := some 29) (v := ?_) (a' := ?_) #[true, true, true, true, true, true, false, false, false] rfl rfl (by kernel_rfl) (fun _ _ _ h => h) (Or.inl ⟨by rfl, ?_⟩) ?_ ?_
        rotate_left
        · intro w'
          go_simp
          with_reducible rfl
        rotate_left
        · simp only [Act.put, List.setIfInBounds_toArray, List.set_cons_zero, List.set_cons_succ, i64_w, i32_w]
          rfl
        refine take_ (i := 6) (N := some 30) (v := .int .u8 (y : Int)) (a' := ?_) #[true, true, true, true, true, true, true, false, false] rfl rfl (by kernel_rfl) (fun _ _ _ h => h) (Or.inl ⟨by rfl, ?_⟩) hHeld ?_ ?_
        · rintro w' ⟨k_g3, k_g5⟩
          exact exec_one agg5 rfl rfl (by rw [EY.out]; exact cell_bys k_g5 (by rw [HDD.out]; exact hlt))
        rotate_left
        · simp only [Act.put, List.setIfInBounds_toArray, List.set_cons_zero, List.set_cons_succ, i64_w, i32_w]
          rfl
        have hxy := xor8 HX.out HY.out
        rw [← EZ.out] at hxy
        refine pure_ (i := 7) (N := some 31) (v := ?_) (a' := ?_) #[true, true, true, true, true, true, true, true, false] rfl rfl (by kernel_rfl) (fun _ _ _ h => h) (Or.inl ⟨by rfl, ?_⟩) ?_ ?_
        rotate_left
        · intro w'
          go_simp
          with_reducible rfl
        rotate_left
        · simp only [Act.put, List.setIfInBounds_toArray, List.set_cons_zero, List.set_cons_succ, i64_w, i32_w]
          rfl
        refine pure_ (i := 8) (N := some 10) (v := ?_) (a' := ?_) #[true, true, true, true, true, true, true, true, true] rfl rfl (by kernel_rfl) (fun _ _ _ h => h) (Or.inl ⟨by rfl, ?_⟩) ?_ ?_
        rotate_left
        · intro w'
          go_simp
          with_reducible rfl
        rotate_left
        · simp only [Act.put, List.setIfInBounds_toArray, List.set_cons_zero, List.set_cons_succ, i64_w, i32_w]
          rfl
        refine done_ (by kernel_rfl) ?_
        clear hxy
        have huz := xor8 HU.out HZ.out
        go_wp2_with (first | ((with_reducible refine gate_dst (N := 36) rfl ?_); go_must (refine Kd.event_run rfl (exec_one (v := .int .u8 (u : Int)) agg5 rfl rfl (by rw [EU.out, ← rowb_p (q := q) (o := o) HP.out.len hlt]; exact cell_bys (by (with_reducible repeat (first | refine blk_drewN ?_ _ | refine blk_drew ?_ | refine blk_alloc ?_ _)); exact BKg3.out) (by rw [HR.out]; omega))) ?_)) | ((with_reducible refine gate_store (t := 5) (p := 40) rfl ?_); go_must (refine store_event rfl rfl rfl (exec_put (cs' := bys (rowL (mix pp zeros (k + 1)) (mix qq zeros k) d)) (show _ = some 1 by kernel_rfl) rfl rfl rfl (rfl) (one_int) (by (with_reducible repeat (first | refine blk_drewN ?_ _ | refine blk_drew ?_ | refine blk_alloc ?_ _)); exact BKg8.out) (by rw [bys_size, rowL_length L1.out L2.out HDD.out]; omega) (by show putc _ _ #[.int .u8 ((u ^^^ z : Nat) : Int)] = _; rw [putb_p L1.out hlt, EU.out, EZ.out, EX.out, EY.out, ← xorL_get (by rw [HO.out.len]; exact hlt) (by rw [HDD.out]; exact hlt), ← EDL.out, ← xorL_get (by rw [HP.out.len]; exact hlt) (by rw [HDL.out.len]; exact hlt), ← EPP.out, mix_set (by rw [HPP.out.len, zeros_length]) (by rw [zeros_length]; exact hlt)])) ?_); intro V1 hW_; have NBKg3_ := Aside0.mk ((by rw [hW_]; exact setRow_far (by (with_reducible repeat (first | refine blk_drewN ?_ _ | refine blk_drew ?_ | refine blk_alloc ?_ _)); exact BKg3.out) Dg3g8 : V1.heap[g3]? = some (Obj.cells (bys (rowL p q o)) 25 (0, 0)))); have NBKg5_ := Aside0.mk ((by rw [hW_]; exact setRow_far (by (with_reducible repeat (first | refine blk_drewN ?_ _ | refine blk_drew ?_ | refine blk_alloc ?_ _)); exact BKg5.out) Dg5g8 : V1.heap[g5]? = some (Obj.cells (bys d) 23 (0, 0)))); have NBKg6_ := Aside0.mk ((by rw [hW_]; exact setRow_far (by (with_reducible repeat (first | refine blk_drewN ?_ _ | refine blk_drew ?_ | refine blk_alloc ?_ _)); exact BKg6.out) Dg6g8 : V1.heap[g6]? = some (Obj.cells (bys (rowL zeros zeros zeros)) 25 (0, 0)))); have NBKg8_ := Aside0.mk ((by rw [hW_]; exact setRow_blk (by (with_reducible repeat (first | refine blk_drewN ?_ _ | refine blk_drew ?_ | refine blk_alloc ?_ _)); exact BKg8.out) : V1.heap[g8]? = some (Obj.cells (bys (rowL (mix pp zeros (k + 1)) (mix qq zeros k) d)) 25 (0, 0)))); have NHB_ := Aside0.mk ((by rw [hW_]; exact setRow_below (by repeat (first | (with_reducible first | exact HB.out | apply below_alloc | apply pw_below_drewN | apply below_drew1) | exact HB.out)) GEg8.out : Below w.heap.size w V1)); clear BKg3 BKg5 BKg6 BKg8 HB; have BKg3 := NBKg3_; have BKg5 := NBKg5_; have BKg6 := NBKg6_; have BKg8 := NBKg8_; have HB := NHB_; clear NBKg3_ NBKg5_ NBKg6_ NBKg8_ NHB_; clear hW_))
        have L3 := Lib.hid (show (mix pp zeros (k + 1)).length = 64 by rw [mix_length (by rw [HPP.out.len, zeros_length]) (by rw [zeros_length]; omega), zeros_length])
        clear huz
        have NBKg3_ := Aside0.mk (((by (with_reducible repeat (first | refine blk_drewN ?_ _ | refine blk_drew ?_ | refine blk_alloc ?_ _)); exact BKg3.out) : V1.drew.heap[g3]? = some (Obj.cells (bys (rowL p q o)) 25 (0, 0))))
        have NBKg5_ := Aside0.mk (((by (with_reducible repeat (first | refine blk_drewN ?_ _ | refine blk_drew ?_ | refine blk_alloc ?_ _)); exact BKg5.out) : V1.drew.heap[g5]? = some (Obj.cells (bys d) 23 (0, 0))))
        have NBKg6_ := Aside0.mk (((by (with_reducible repeat (first | refine blk_drewN ?_ _ | refine blk_drew ?_ | refine blk_alloc ?_ _)); exact BKg6.out) : V1.drew.heap[g6]? = some (Obj.cells (bys (rowL zeros zeros zeros)) 25 (0, 0))))
        have NBKg8_ := Aside0.mk (((by (with_reducible repeat (first | refine blk_drewN ?_ _ | refine blk_drew ?_ | refine blk_alloc ?_ _)); exact BKg8.out) : V1.drew.heap[g8]? = some (Obj.cells (bys (rowL (mix pp zeros (k + 1)) (mix qq zeros k) d)) 25 (0, 0))))
        have NHB_ := Aside0.mk ((by repeat (first | (with_reducible first | exact HB.out | apply below_alloc | apply pw_below_drewN | apply below_drew1) | exact HB.out) : Below w.heap.size w V1.drew))
        clear BKg3 BKg5 BKg6 BKg8 HB
        have BKg3 := NBKg3_
        have BKg5 := NBKg5_
        have BKg6 := NBKg6_
        have BKg8 := NBKg8_
        have HB := NHB_
        clear NBKg3_ NBKg5_ NBKg6_ NBKg8_ NHB_
        refine start_ (n := 13) (S := fun w' => (w'.heap[g3]? = some (Obj.cells (bys (rowL p q o)) 25 (0, 0)))) (ds := []) #[false, false, false, false, false, false, false, false, false, false, false, false, false] (by kernel_rfl) rfl rfl (BKg3.out) (fun hHeld => ?_)
        generalize V1.drew = V2 at BKg3 BKg5 BKg6 BKg8 HB hHeld ⊢
        refine pure_ (i := 0) (N := some 41) (v := ?_) (a' := ?_) #[true, false, false, false, false, false, false, false, false, false, false, false, false] rfl rfl (by kernel_rfl) (fun _ _ _ h => h) (Or.inl ⟨by rfl, ?_⟩) ?_ ?_
        rotate_left
        · intro w'
          go_simp
          with_reducible rfl
        rotate_left
        · simp only [Act.put, List.setIfInBounds_toArray, List.set_cons_zero, List.set_cons_succ, i64_w, i32_w]
          rfl
        refine pure_ (i := 1) (N := some 42) (v := ?_) (a' := ?_) #[true, true, false, false, false, false, false, false, false, false, false, false, false] rfl rfl (by kernel_rfl) (fun _ _ _ h => h) (Or.inl ⟨by rfl, ?_⟩) ?_ ?_
        rotate_left
        · intro w'
          go_simp
          with_reducible rfl
        rotate_left
        · simp only [Act.put, List.setIfInBounds_toArray, List.set_cons_zero, List.set_cons_succ, i64_w, i32_w]
          rfl
        refine pure_ (i := 2) (N := some 43) (v := ?_) (a' := ?_) #[true, true, true, false, false, false, false, false, false, false, false, false, false] rfl rfl (by kernel_rfl) (fun _ _ _ h => h) (Or.inl ⟨by rfl, ?_⟩) ?_ ?_
        rotate_left
        · intro w'
          go_simp
          with_reducible rfl
        rotate_left
        · simp only [Act.put, List.setIfInBounds_toArray, List.set_cons_zero, List.set_cons_succ, i64_w, i32_w]
          rfl
        refine pure_ (i := 3) (N := some 44) (v := ?_) (a' := ?_) #[true, true, true, true, false, false, false, false, false, false, false, false, false] rfl rfl (by kernel_rfl) (fun _ _ _ h => h) (Or.inl ⟨by rfl, ?_⟩) ?_ ?_
        rotate_left
        · intro w'
          go_simp
          with_reducible rfl
        rotate_left
        · simp only [Act.put, List.setIfInBounds_toArray, List.set_cons_zero, List.set_cons_succ, i64_w, i32_w]
          rfl
        refine take_ (i := 4) (N := some 45) (v := .int .u8 (v : Int)) (a' := ?_) #[true, true, true, true, true, false, false, false, false, false, false, false, false] rfl rfl (by kernel_rfl) (fun _ _ _ h => h) (Or.inl ⟨by rfl, ?_⟩) hHeld ?_ ?_
        · rintro w' k_g3
          exact exec_one agg5 rfl rfl (by rw [EV.out, ← rowb_q (o := o) HP.out.len HQ.out.len hlt]; exact cell_bys k_g3 (by rw [HR.out]; omega))
        rotate_left
        · simp only [Act.put, List.setIfInBounds_toArray, List.set_cons_zero, List.set_cons_succ, i64_w, i32_w]
          rfl
        refine pure_ (i := 5) (N := some 46) (v := ?_) (a' := ?_) #[true, true, true, true, true, true, false, false, false, false, false, false, false] rfl rfl (by kernel_rfl) (fun _ _ _ h => h) (Or.inl ⟨by rfl, ?_⟩) ?_ ?_
        rotate_left
        · intro w'
          go_simp
          with_reducible rfl
        rotate_left
        · simp only [Act.put, List.setIfInBounds_toArray, List.set_cons_zero, List.set_cons_succ, i64_w, i32_w]
          rfl
        refine pure_ (i := 7) (N := some 48) (v := ?_) (a' := ?_) #[true, true, true, true, true, true, false, true, false, false, false, false, false] rfl rfl (by kernel_rfl) (fun _ _ _ h => h) (Or.inl ⟨by rfl, ?_⟩) ?_ ?_
        rotate_left
        · intro w'
          go_simp
          with_reducible rfl
        rotate_left
        · simp only [Act.put, List.setIfInBounds_toArray, List.set_cons_zero, List.set_cons_succ, i64_w, i32_w]
          rfl
        refine pure_ (i := 10) (N := some 51) (v := ?_) (a' := ?_) #[true, true, true, true, true, true, false, true, false, false, true, false, false] rfl rfl (by kernel_rfl) (fun _ _ _ h => h) (Or.inl ⟨by rfl, ?_⟩) ?_ ?_
        rotate_left
        · intro w'
          go_simp
          with_reducible rfl
        rotate_left
        · simp only [Act.put, List.setIfInBounds_toArray, List.set_cons_zero, List.set_cons_succ, i64_w, i32_w]
          rfl
        refine one_ (i := 6) (N := some 47) #[true, true, true, true, true, true, true, true, false, false, true, false, false] rfl rfl (by kernel_rfl) (by decide) (fun K hK => ?_)
        refine goes_ Try.func29 (by kernel_rfl) rfl #[.int .i64 i] (by rfl) rfl rfl (by (try simp only [List.map_toArray, List.map_cons, List.map_nil]); first | done | rfl) ?_
        with_reducible refine (refpow_calls i _).mono ?_
        rintro e w_ ⟨rfl, ⟨nd_, rfl⟩⟩
        refine ⟨_, rfl, ?_⟩
        have NBKg3_ := Aside0.mk (blk_drewN BKg3.out nd_)
        have NBKg5_ := Aside0.mk (blk_drewN BKg5.out nd_)
        have NBKg6_ := Aside0.mk (blk_drewN BKg6.out nd_)
        have NBKg8_ := Aside0.mk (blk_drewN BKg8.out nd_)
        have NHB_ := Aside0.mk (pw_below_drewN HB.out nd_)
        clear BKg3 BKg5 BKg6 BKg8 HB
        have BKg3 := NBKg3_
        have BKg5 := NBKg5_
        have BKg6 := NBKg6_
        have BKg8 := NBKg8_
        have HB := NHB_
        clear NBKg3_ NBKg5_ NBKg6_ NBKg8_ NHB_
        refine hK.out _ _ (BKg3.out) (fun hHeld => ?_)
        clear hK K
        refine norm_ (a' := ?_) ?_ ?_
        rotate_left
        · show Act.put _ (some 47) _ = _
          simp only [Act.put, List.setIfInBounds_toArray, List.set_cons_zero, List.set_cons_succ, i64_w, i32_w]
          rfl
        generalize V2.drewN nd_ = V3 at BKg3 BKg5 BKg6 BKg8 HB hHeld ⊢
        refine one_ (i := 8) (N := some 49) #[true, true, true, true, true, true, true, true, true, false, true, false, false] rfl rfl (by kernel_rfl) (by decide) (fun K hK => ?_)
        refine goes_ Try.func28 (by kernel_rfl) rfl #[.int .u8 ((pwZ i : Nat) : Int), .int .u8 (z : Int)] (by rfl) rfl rfl (by (try simp only [List.map_toArray, List.map_cons, List.map_nil]); first | done | rfl) ?_
        with_reducible refine (refmul_calls (pwZ_lt _) HZ.out _).mono ?_
        rintro e w_ ⟨rfl, ⟨nd_, rfl⟩⟩
        refine ⟨_, rfl, ?_⟩
        have NBKg3_ := Aside0.mk (blk_drewN BKg3.out nd_)
        have NBKg5_ := Aside0.mk (blk_drewN BKg5.out nd_)
        have NBKg6_ := Aside0.mk (blk_drewN BKg6.out nd_)
        have NBKg8_ := Aside0.mk (blk_drewN BKg8.out nd_)
        have NHB_ := Aside0.mk (pw_below_drewN HB.out nd_)
        clear BKg3 BKg5 BKg6 BKg8 HB
        have BKg3 := NBKg3_
        have BKg5 := NBKg5_
        have BKg6 := NBKg6_
        have BKg8 := NBKg8_
        have HB := NHB_
        clear NBKg3_ NBKg5_ NBKg6_ NBKg8_ NHB_
        refine hK.out _ _ (BKg3.out) (fun hHeld => ?_)
        clear hK K
        refine norm_ (a' := ?_) ?_ ?_
        rotate_left
        · show Act.put _ (some 49) _ = _
          simp only [Act.put, List.setIfInBounds_toArray, List.set_cons_zero, List.set_cons_succ, i64_w, i32_w]
          rfl
        generalize V3.drewN nd_ = V4 at BKg3 BKg5 BKg6 BKg8 HB hHeld ⊢
        have hvz := xor8 HV.out (gmul_lt (b := z) (pwZ_lt i))
        refine pure_ (i := 9) (N := some 50) (v := ?_) (a' := ?_) #[true, true, true, true, true, true, true, true, true, true, true, false, false] rfl rfl (by kernel_rfl) (fun _ _ _ h => h) (Or.inl ⟨by rfl, ?_⟩) ?_ ?_
        rotate_left
        · intro w'
          go_simp
          with_reducible rfl
        rotate_left
        · simp only [Act.put, List.setIfInBounds_toArray, List.set_cons_zero, List.set_cons_succ, i64_w, i32_w]
          rfl
        refine pure_ (i := 11) (N := some 52) (v := ?_) (a' := ?_) #[true, true, true, true, true, true, true, true, true, true, true, true, false] rfl rfl (by kernel_rfl) (fun _ _ _ h => h) (Or.inl ⟨by rfl, ?_⟩) ?_ ?_
        rotate_left
        · intro w'
          go_simp
          with_reducible rfl
        rotate_left
        · simp only [Act.put, List.setIfInBounds_toArray, List.set_cons_zero, List.set_cons_succ, i64_w, i32_w]
          rfl
        refine one_ (i := 12) (N := none) #[true, true, true, true, true, true, true, true, true, true, true, true, true] rfl rfl (by kernel_rfl) (by decide) (fun K hK => ?_)
        refine skip_ (by rfl) rfl (exec_put (cs' := bys (rowL (mix pp zeros (k + 1)) (mix qq zeros (k + 1)) d)) (show _ = some 1 by kernel_rfl) rfl rfl rfl (rfl) (one_int) BKg8.out (by rw [bys_size, rowL_length L3.out L2.out HDD.out]; omega) (by show putc _ _ #[.int .u8 ((v ^^^ gmul (pwZ i) z : Nat) : Int)] = _; rw [putb_q L3.out L2.out hlt, EV.out, EZ.out, EX.out, EY.out, ← xorL_get (by rw [HO.out.len]; exact hlt) (by rw [HDD.out]; exact hlt), ← EDL.out, gmul_comm (pwZ_lt i) (HDL.out.get k), ← mulL_get (by rw [HDL.out.len]; exact hlt), ← xorL_get (by rw [HQ.out.len]; exact hlt) (by rw [mulL_length HDL.out.len]; exact hlt), ← EQQ.out, mix_set (by rw [HQQ.out.len, zeros_length]) (by rw [zeros_length]; exact hlt)])) ?_
        obtain ⟨V5, hW_⟩ : ∃ W, W = V4.setRow g8 (bys (rowL (mix pp zeros (k + 1)) (mix qq zeros (k + 1)) d)) := ⟨_, rfl⟩
        rw [← hW_]
        have NBKg3_ := Aside0.mk ((by rw [hW_]; exact setRow_far BKg3.out Dg3g8 : V5.heap[g3]? = some (Obj.cells (bys (rowL p q o)) 25 (0, 0))))
        have NBKg5_ := Aside0.mk ((by rw [hW_]; exact setRow_far BKg5.out Dg5g8 : V5.heap[g5]? = some (Obj.cells (bys d) 23 (0, 0))))
        have NBKg6_ := Aside0.mk ((by rw [hW_]; exact setRow_far BKg6.out Dg6g8 : V5.heap[g6]? = some (Obj.cells (bys (rowL zeros zeros zeros)) 25 (0, 0))))
        have NBKg8_ := Aside0.mk ((by rw [hW_]; exact setRow_blk BKg8.out : V5.heap[g8]? = some (Obj.cells (bys (rowL (mix pp zeros (k + 1)) (mix qq zeros (k + 1)) d)) 25 (0, 0))))
        have NHB_ := Aside0.mk ((by rw [hW_]; exact setRow_below (HB.out) GEg8.out : Below w.heap.size w V5))
        clear BKg3 BKg5 BKg6 BKg8 HB
        have BKg3 := NBKg3_
        have BKg5 := NBKg5_
        have BKg6 := NBKg6_
        have BKg8 := NBKg8_
        have HB := NHB_
        clear NBKg3_ NBKg5_ NBKg6_ NBKg8_ NHB_
        clear hW_
        refine hK.out _ _ (BKg3.out) (fun hHeld => ?_)
        clear hK K
        refine done_ (by kernel_rfl) ?_
        clear hvz
        go_wp2
        go_roundw
        case rel => exact ⟨k + 1, by omega, by go_num, BKg3, BKg5, BKg6, BKg8, HB⟩
        case measure => simp [intOf] <;> omega
      · obtain rfl : k = 64 := by omega
        have hd1 : decide ((64 : Int) < 64) = false := by simp
        rw [mix_full (r := pp) (a := zeros) HPP.out.len zeros_length, mix_full (r := qq) (a := zeros) HQQ.out.len zeros_length] at BKg8
        have HN := Lib.hid (rowL_length HPP.out.len HQQ.out.len HDD.out)
        go_wp2_with (first | ((with_reducible refine gate_dst (N := 53) rfl ?_); go_must (refine Kd.event_run rfl (exec_row_all agg25 (by rw [bys_size, HN.out]; exact size25) rfl rfl (by (with_reducible repeat (first | refine blk_drewN ?_ _ | refine blk_drew ?_ | refine blk_alloc ?_ _)); exact BKg8.out)) ?_)) | ((with_reducible refine gate_store (t := 25) (p := 6) rfl ?_); go_must (refine store_event rfl rfl rfl (exec_put (cs' := bys (rowL pp qq d)) size25 rfl rfl rfl (by show (bys (rowL pp qq d)).size = 192; rw [bys_size, HN.out]) one_agg (by (with_reducible repeat (first | refine blk_drewN ?_ _ | refine blk_drew ?_ | refine blk_alloc ?_ _)); exact BKg6.out) (by rw [bys_size, (rowL_length zeros_length zeros_length zeros_length)]; decide) (putc_all ((bys_size _).trans (((rowL_length zeros_length zeros_length zeros_length)).trans ((HN.out).symm.trans (bys_size _).symm))))) ?_); intro V1 hW_; have NBKg3_ := Aside0.mk ((by rw [hW_]; exact setRow_far (by (with_reducible repeat (first | refine blk_drewN ?_ _ | refine blk_drew ?_ | refine blk_alloc ?_ _)); exact BKg3.out) Dg3g6 : V1.heap[g3]? = some (Obj.cells (bys (rowL p q o)) 25 (0, 0)))); have NBKg5_ := Aside0.mk ((by rw [hW_]; exact setRow_far (by (with_reducible repeat (first | refine blk_drewN ?_ _ | refine blk_drew ?_ | refine blk_alloc ?_ _)); exact BKg5.out) Dg5g6 : V1.heap[g5]? = some (Obj.cells (bys d) 23 (0, 0)))); have NBKg6_ := Aside0.mk ((by rw [hW_]; exact setRow_blk (by (with_reducible repeat (first | refine blk_drewN ?_ _ | refine blk_drew ?_ | refine blk_alloc ?_ _)); exact BKg6.out) : V1.heap[g6]? = some (Obj.cells (bys (rowL pp qq d)) 25 (0, 0)))); have NBKg8_ := Aside0.mk ((by rw [hW_]; exact setRow_far (by (with_reducible repeat (first | refine blk_drewN ?_ _ | refine blk_drew ?_ | refine blk_alloc ?_ _)); exact BKg8.out) Dg8g6 : V1.heap[g8]? = some (Obj.cells (bys (rowL pp qq d)) 25 (0, 0)))); have NHB_ := Aside0.mk ((by rw [hW_]; exact setRow_below (by repeat (first | (with_reducible first | exact HB.out | apply below_alloc | apply pw_below_drewN | apply below_drew1) | exact HB.out)) GEg6.out : Below w.heap.size w V1)); clear BKg3 BKg5 BKg6 BKg8 HB; have BKg3 := NBKg3_; have BKg5 := NBKg5_; have BKg6 := NBKg6_; have BKg8 := NBKg8_; have HB := NHB_; clear NBKg3_ NBKg5_ NBKg6_ NBKg8_ NHB_; clear hW_))
        exact bodyPost_ret (v := .tuple #[.agg (bys (rowL pp qq d)), .int .i64 _]) (results_list (rs := [.cell 6 25, .tmp 7]) rfl (by simp) (.cell g6 25 _ (0, 0) _ rfl BKg6.out Try.underlying25 rfl (by rw [bys_size, HN.out]; exact size25) (.tmp .nil))) rfl ⟨by first | rw [e1, e2, e3, e4] | with_reducible rfl, HB.out⟩

theorem chP_sec {p o d : List Nat} {i : Int} (hp : Sec p) (ho : Sec o) (hd : Sec d) : Sec (chP p o d i) := by
  unfold chP; split; · exact zeros_sec
  split; · exact zeros_sec
  exact xorL_sec hp (xorL_sec ho hd)
theorem chQ_sec {q o d : List Nat} {i : Int} (hq : Sec q) (ho : Sec o) (hd : Sec d) : Sec (chQ q o d i) := by
  unfold chQ; split; · exact zeros_sec
  split; · exact zeros_sec
  exact xorL_sec hq (mulL_sec (xorL_sec ho hd))
theorem chO_sec {d : List Nat} {i : Int} (hd : Sec d) : Sec (chO d i) := by
  unfold chO; split; · exact zeros_sec
  split; · exact zeros_sec
  exact hd
set_option maxHeartbeats 4000000 in
set_option maxRecDepth 100000 in
theorem parityChange_walk (p q o : List Nat) (i : Int) (d : List Nat) (w : World) (hp : Sec p) (hq : Sec q) (ho : Sec o) (hd : Sec d) : Calls Try.prog 3 #[.agg (bys (rowL p q o)), .int .i64 i, .agg (bys d)] w fun e w' => e = .returned (.bool true) ∧ Below w.heap.size w w' := by
  have HB := Aside0.mk (Below.refl w.heap.size w)
  have HP := Lib.hid hp
  have HQ := Lib.hid hq
  have HO := Lib.hid ho
  have HDD := Lib.hid hd
  have HR := Lib.hid (rowL_length hp.len hq.len ho.len)
  obtain ⟨a, ea⟩ : ∃ x, x = chP p o d i := ⟨_, rfl⟩
  obtain ⟨b, eb⟩ : ∃ x, x = chQ q o d i := ⟨_, rfl⟩
  obtain ⟨c, ec⟩ : ∃ x, x = chO d i := ⟨_, rfl⟩
  obtain ⟨f, ef⟩ : ∃ x, x = chE i := ⟨_, rfl⟩
  have l1 : a.length = 64 := by rw [ea]; exact (chP_sec hp ho hd).len
  have l2 : b.length = 64 := by rw [eb]; exact (chQ_sec hq ho hd).len
  have l3 : c.length = 64 := by rw [ec]; exact (chO_sec hd).len
  have L := Lib.hid (⟨l1, l2, l3⟩ : a.length = 64 ∧ b.length = 64 ∧ c.length = 64)
  have HN := Lib.hid (rowL_length l1 l2 l3)
  have EA := Lib.hid ea
  have EB := Lib.hid eb
  have EC := Lib.hid ec
  have EF := Lib.hid ef
  clear ea eb ec ef l1 l2 l3
  go_enter Try.func3, Try.ntmps3
  go_wp2_with (first | ((with_reducible refine gate_dst (N := 12) rfl ?_); go_must (obtain ⟨q0_, q1_, nb_⟩ := Wk.blks2 w (Obj.cells (bys (rowL p q o)) 25 (0, 0)) (Obj.cells (bys d) 23 (0, 0)); obtain ⟨W1, hW_⟩ : ∃ W, W = ((w.alloc (Obj.cells (bys (rowL p q o)) 25 (0, 0))).alloc (Obj.cells (bys d) 23 (0, 0))) := ⟨_, rfl⟩; rw [← hW_]; rw [← hW_] at q0_; rw [← hW_] at q1_; rw [← hW_] at nb_; have sz_ := below_size HB.out; have hb2_ := Aside0.mk (below_step HB.out nb_); obtain ⟨g3, hgg3_⟩ : ∃ g, g = w.heap.size := ⟨_, rfl⟩; obtain ⟨g5, hgg5_⟩ : ∃ g, g = w.heap.size + 1 := ⟨_, rfl⟩; rw [← hgg5_]; rw [← hgg5_] at q1_; rw [← hgg3_]; rw [← hgg3_] at q0_; have hge_ : w.heap.size ≤ g3 := (by omega); have GEg3 := Aside0.mk hge_; clear hge_; have hge_ : w.heap.size ≤ g5 := (by omega); have GEg5 := Aside0.mk hge_; clear hge_; have Dg3g5 : g3 ≠ g5 := (by omega); have Dg5g3 : g5 ≠ g3 := (by omega); have BKg3 := Aside0.mk q0_; have BKg5 := Aside0.mk q1_; clear HB; have HB := hb2_; clear hb2_ sz_ hW_ nb_ hgg3_ hgg5_ q0_ q1_); ((with_reducible refine gate_dst (N := 12) rfl ?_); go_must (refine Kd.event_run rfl (exec_row_all agg25 (by rw [bys_size, HR.out]; exact size25) rfl rfl (by (with_reducible repeat (first | refine blk_drewN ?_ _ | refine blk_drew ?_ | refine blk_alloc ?_ _)); exact BKg3.out)) ?_))) | ((with_reducible refine gate_dst (N := 14) rfl ?_); go_must (refine Kd.event_run rfl (exec_row_all agg23 (by rw [bys_size, HDD.out.len]; exact T23.hi) rfl rfl (by (with_reducible repeat (first | refine blk_drewN ?_ _ | refine blk_drew ?_ | refine blk_alloc ?_ _)); exact BKg5.out)) ?_)) | (go_at_call 10; go_must (with_reducible refine (change_calls p q o i d _ HP.out HQ.out HO.out HDD.out).mono ?_); rintro e W2 ⟨rfl, hb⟩; rw [← EA.out, ← EB.out, ← EC.out, ← EF.out]; have NBKg3_ := Aside0.mk (blk_below (o := (Obj.cells (bys (rowL p q o)) 25 (0, 0))) (by (with_reducible repeat (first | refine blk_drewN ?_ _ | refine blk_drew ?_ | refine blk_alloc ?_ _)); exact BKg3.out) hb); have NBKg5_ := Aside0.mk (blk_below (o := (Obj.cells (bys d) 23 (0, 0))) (by (with_reducible repeat (first | refine blk_drewN ?_ _ | refine blk_drew ?_ | refine blk_alloc ?_ _)); exact BKg5.out) hb); have NHB_ := Aside0.mk (below_step (by repeat (first | (with_reducible first | exact HB.out | apply below_alloc | apply pw_below_drewN | apply below_drew1) | exact HB.out)) hb); clear BKg3 BKg5 HB; have BKg3 := NBKg3_; have BKg5 := NBKg5_; have HB := NHB_; clear NBKg3_ NBKg5_ NHB_; clear hb) | ((with_reducible refine gate_store (t := 25) (p := 7) rfl ?_); go_must (rw [zlit25]; obtain ⟨q0_, nb_⟩ := Wk.blks1 W2 (Obj.cells (bys (rowL zeros zeros zeros)) 25 (0, 0)); obtain ⟨W3, hW_⟩ : ∃ W, W = (W2.alloc (Obj.cells (bys (rowL zeros zeros zeros)) 25 (0, 0))) := ⟨_, rfl⟩; rw [← hW_]; rw [← hW_] at q0_; rw [← hW_] at nb_; have mg3_ := blk_below BKg3.out nb_; have mg5_ := blk_below BKg5.out nb_; have sz_ := below_size HB.out; have ltg3_ := blk_lt BKg3.out; have ltg5_ := blk_lt BKg5.out; have hb2_ := Aside0.mk (below_step HB.out nb_); obtain ⟨g7, hgg7_⟩ : ∃ g, g = W2.heap.size := ⟨_, rfl⟩; rw [← hgg7_]; rw [← hgg7_] at q0_; have hge_ : w.heap.size ≤ g7 := (by omega); have GEg7 := Aside0.mk hge_; clear hge_; have Dg3g7 : g3 ≠ g7 := (by omega); have Dg7g3 : g7 ≠ g3 := (by omega); have Dg5g7 : g5 ≠ g7 := (by omega); have Dg7g5 : g7 ≠ g5 := (by omega); have BNg3 := Aside0.mk mg3_; clear BKg3; have BKg3 := BNg3; clear BNg3 ltg3_ mg3_; have BNg5 := Aside0.mk mg5_; clear BKg5; have BKg5 := BNg5; clear BNg5 ltg5_ mg5_; have BKg7 := Aside0.mk q0_; clear HB; have HB := hb2_; clear hb2_ sz_ hW_ nb_ hgg7_ q0_); ((with_reducible refine gate_store (t := 25) (p := 7) rfl ?_); go_must (refine store_event rfl rfl rfl (exec_put (cs' := bys (rowL a b c)) size25 rfl rfl rfl (by show (bys (rowL a b c)).size = 192; rw [bys_size, HN.out]) one_agg (by (with_reducible repeat (first | refine blk_drewN ?_ _ | refine blk_drew ?_ | refine blk_alloc ?_ _)); exact BKg7.out) (by rw [bys_size, (rowL_length zeros_length zeros_length zeros_length)]; decide) (putc_all ((bys_size _).trans (((rowL_length zeros_length zeros_length zeros_length)).trans ((HN.out).symm.trans (bys_size _).symm))))) ?_); intro W4 hW_; have NBKg3_ := Aside0.mk ((by rw [hW_]; exact setRow_far (by (with_reducible repeat (first | refine blk_drewN ?_ _ | refine blk_drew ?_ | refine blk_alloc ?_ _)); exact BKg3.out) Dg3g7 : W4.heap[g3]? = some (Obj.cells (bys (rowL p q o)) 25 (0, 0)))); have NBKg5_ := Aside0.mk ((by rw [hW_]; exact setRow_far (by (with_reducible repeat (first | refine blk_drewN ?_ _ | refine blk_drew ?_ | refine blk_alloc ?_ _)); exact BKg5.out) Dg5g7 : W4.heap[g5]? = some (Obj.cells (bys d) 23 (0, 0)))); have NBKg7_ := Aside0.mk ((by rw [hW_]; exact setRow_blk (by (with_reducible repeat (first | refine blk_drewN ?_ _ | refine blk_drew ?_ | refine blk_alloc ?_ _)); exact BKg7.out) : W4.heap[g7]? = some (Obj.cells (bys (rowL a b c)) 25 (0, 0)))); have NHB_ := Aside0.mk ((by rw [hW_]; exact setRow_below (by repeat (first | (with_reducible first | exact HB.out | apply below_alloc | apply pw_below_drewN | apply below_drew1) | exact HB.out)) GEg7.out : Below w.heap.size w W4)); clear BKg3 BKg5 BKg7 HB; have BKg3 := NBKg3_; have BKg5 := NBKg5_; have BKg7 := NBKg7_; have HB := NHB_; clear NBKg3_ NBKg5_ NBKg7_ NHB_; clear hW_)) | ((with_reducible refine gate_dst (N := 19) rfl ?_); go_must (refine Kd.event_run rfl (exec_row_all agg25 (by rw [bys_size, HR.out]; exact size25) rfl rfl (by (with_reducible repeat (first | refine blk_drewN ?_ _ | refine blk_drew ?_ | refine blk_alloc ?_ _)); exact BKg3.out)) ?_)) | ((with_reducible refine gate_dst (N := 21) rfl ?_); go_must (refine Kd.event_run rfl (exec_row_all agg23 (by rw [bys_size, HDD.out.len]; exact T23.hi) rfl rfl (by (with_reducible repeat (first | refine blk_drewN ?_ _ | refine blk_drew ?_ | refine blk_alloc ?_ _)); exact BKg5.out)) ?_)) | (go_at_call 11; go_must (with_reducible refine (refchange_calls p q o i d _ HP.out HQ.out HO.out HDD.out).mono ?_); rintro e W5 ⟨rfl, hb⟩; rw [← EA.out, ← EB.out, ← EC.out, ← EF.out]; have NBKg3_ := Aside0.mk (blk_below (o := (Obj.cells (bys (rowL p q o)) 25 (0, 0))) (by (with_reducible repeat (first | refine blk_drewN ?_ _ | refine blk_drew ?_ | refine blk_alloc ?_ _)); exact BKg3.out) hb); have NBKg5_ := Aside0.mk (blk_below (o := (Obj.cells (bys d) 23 (0, 0))) (by (with_reducible repeat (first | refine blk_drewN ?_ _ | refine blk_drew ?_ | refine blk_alloc ?_ _)); exact BKg5.out) hb); have NBKg7_ := Aside0.mk (blk_below (o := (Obj.cells (bys (rowL a b c)) 25 (0, 0))) (by (with_reducible repeat (first | refine blk_drewN ?_ _ | refine blk_drew ?_ | refine blk_alloc ?_ _)); exact BKg7.out) hb); have NHB_ := Aside0.mk (below_step (by repeat (first | (with_reducible first | exact HB.out | apply below_alloc | apply pw_below_drewN | apply below_drew1) | exact HB.out)) hb); clear BKg3 BKg5 BKg7 HB; have BKg3 := NBKg3_; have BKg5 := NBKg5_; have BKg7 := NBKg7_; have HB := NHB_; clear NBKg3_ NBKg5_ NBKg7_ NHB_; clear hb) | ((with_reducible refine gate_store (t := 25) (p := 9) rfl ?_); go_must (rw [zlit25]; obtain ⟨q0_, nb_⟩ := Wk.blks1 W5 (Obj.cells (bys (rowL zeros zeros zeros)) 25 (0, 0)); obtain ⟨W6, hW_⟩ : ∃ W, W = (W5.alloc (Obj.cells (bys (rowL zeros zeros zeros)) 25 (0, 0))) := ⟨_, rfl⟩; rw [← hW_]; rw [← hW_] at q0_; rw [← hW_] at nb_; have mg3_ := blk_below BKg3.out nb_; have mg5_ := blk_below BKg5.out nb_; have mg7_ := blk_below BKg7.out nb_; have sz_ := below_size HB.out; have ltg3_ := blk_lt BKg3.out; have ltg5_ := blk_lt BKg5.out; have ltg7_ := blk_lt BKg7.out; have hb2_ := Aside0.mk (below_step HB.out nb_); obtain ⟨g9, hgg9_⟩ : ∃ g, g = W5.heap.size := ⟨_, rfl⟩; rw [← hgg9_]; rw [← hgg9_] at q0_; have hge_ : w.heap.size ≤ g9 := (by omega); have GEg9 := Aside0.mk hge_; clear hge_; have Dg3g9 : g3 ≠ g9 := (by omega); have Dg9g3 : g9 ≠ g3 := (by omega); have Dg5g9 : g5 ≠ g9 := (by omega); have Dg9g5 : g9 ≠ g5 := (by omega); have Dg7g9 : g7 ≠ g9 := (by omega); have Dg9g7 : g9 ≠ g7 := (by omega); have BNg3 := Aside0.mk mg3_; clear BKg3; have BKg3 := BNg3; clear BNg3 ltg3_ mg3_; have BNg5 := Aside0.mk mg5_; clear BKg5; have BKg5 := BNg5; clear BNg5 ltg5_ mg5_; have BNg7 := Aside0.mk mg7_; clear BKg7; have BKg7 := BNg7; clear BNg7 ltg7_ mg7_; have BKg9 := Aside0.mk q0_; clear HB; have HB := hb2_; clear hb2_ sz_ hW_ nb_ hgg9_ q0_); ((with_reducible refine gate_store (t := 25) (p := 9) rfl ?_); go_must (refine store_event rfl rfl rfl (exec_put (cs' := bys (rowL a b c)) size25 rfl rfl rfl (by show (bys (rowL a b c)).size = 192; rw [bys_size, HN.out]) one_agg (by (with_reducible repeat (first | refine blk_drewN ?_ _ | refine blk_drew ?_ | refine blk_alloc ?_ _)); exact BKg9.out) (by rw [bys_size, (rowL_length zeros_length zeros_length zeros_length)]; decide) (putc_all ((bys_size _).trans (((rowL_length zeros_length zeros_length zeros_length)).trans ((HN.out).symm.trans (bys_size _).symm))))) ?_); intro W7 hW_; have NBKg3_ := Aside0.mk ((by rw [hW_]; exact setRow_far (by (with_reducible repeat (first | refine blk_drewN ?_ _ | refine blk_drew ?_ | refine blk_alloc ?_ _)); exact BKg3.out) Dg3g9 : W7.heap[g3]? = some (Obj.cells (bys (rowL p q o)) 25 (0, 0)))); have NBKg5_ := Aside0.mk ((by rw [hW_]; exact setRow_far (by (with_reducible repeat (first | refine blk_drewN ?_ _ | refine blk_drew ?_ | refine blk_alloc ?_ _)); exact BKg5.out) Dg5g9 : W7.heap[g5]? = some (Obj.cells (bys d) 23 (0, 0)))); have NBKg7_ := Aside0.mk ((by rw [hW_]; exact setRow_far (by (with_reducible repeat (first | refine blk_drewN ?_ _ | refine blk_drew ?_ | refine blk_alloc ?_ _)); exact BKg7.out) Dg7g9 : W7.heap[g7]? = some (Obj.cells (bys (rowL a b c)) 25 (0, 0)))); have NBKg9_ := Aside0.mk ((by rw [hW_]; exact setRow_blk (by (with_reducible repeat (first | refine blk_drewN ?_ _ | refine blk_drew ?_ | refine blk_alloc ?_ _)); exact BKg9.out) : W7.heap[g9]? = some (Obj.cells (bys (rowL a b c)) 25 (0, 0)))); have NHB_ := Aside0.mk ((by rw [hW_]; exact setRow_below (by repeat (first | (with_reducible first | exact HB.out | apply below_alloc | apply pw_below_drewN | apply below_drew1) | exact HB.out)) GEg9.out : Below w.heap.size w W7)); clear BKg3 BKg5 BKg7 BKg9 HB; have BKg3 := NBKg3_; have BKg5 := NBKg5_; have BKg7 := NBKg7_; have BKg9 := NBKg9_; have HB := NHB_; clear NBKg3_ NBKg5_ NBKg7_ NBKg9_ NHB_; clear hW_)) | ((with_reducible refine gate_dst (N := 25) rfl ?_); go_must (refine Kd.event_run rfl (exec_row_all agg25 (by rw [bys_size, HN.out]; exact size25) rfl rfl (by (with_reducible repeat (first | refine blk_drewN ?_ _ | refine blk_drew ?_ | refine blk_alloc ?_ _)); exact BKg7.out)) ?_)) | ((with_reducible refine gate_dst (N := 26) rfl ?_); go_must (refine Kd.event_run rfl (exec_row_all agg25 (by rw [bys_size, HN.out]; exact size25) rfl rfl (by (with_reducible repeat (first | refine blk_drewN ?_ _ | refine blk_drew ?_ | refine blk_alloc ?_ _)); exact BKg9.out)) ?_)) | ((with_reducible refine gate_dst (N := 27) rfl ?_); go_must (refine Kd.event_run rfl (exec_eq25 rfl rfl rfl L.out L.out (decide_eq_true ⟨rfl, rfl, rfl⟩)) ?_)) | (go_at_call 12; go_must (with_reducible refine (works_calls _).mono ?_); rintro e W8 ⟨rfl, hb⟩; have NBKg3_ := Aside0.mk (blk_below (o := (Obj.cells (bys (rowL p q o)) 25 (0, 0))) (by (with_reducible repeat (first | refine blk_drewN ?_ _ | refine blk_drew ?_ | refine blk_alloc ?_ _)); exact BKg3.out) hb); have NBKg5_ := Aside0.mk (blk_below (o := (Obj.cells (bys d) 23 (0, 0))) (by (with_reducible repeat (first | refine blk_drewN ?_ _ | refine blk_drew ?_ | refine blk_alloc ?_ _)); exact BKg5.out) hb); have NBKg7_ := Aside0.mk (blk_below (o := (Obj.cells (bys (rowL a b c)) 25 (0, 0))) (by (with_reducible repeat (first | refine blk_drewN ?_ _ | refine blk_drew ?_ | refine blk_alloc ?_ _)); exact BKg7.out) hb); have NBKg9_ := Aside0.mk (blk_below (o := (Obj.cells (bys (rowL a b c)) 25 (0, 0))) (by (with_reducible repeat (first | refine blk_drewN ?_ _ | refine blk_drew ?_ | refine blk_alloc ?_ _)); exact BKg9.out) hb); have NHB_ := Aside0.mk (below_step (by repeat (first | (with_reducible first | exact HB.out | apply below_alloc | apply pw_below_drewN | apply below_drew1) | exact HB.out)) hb); clear BKg3 BKg5 BKg7 BKg9 HB; have BKg3 := NBKg3_; have BKg5 := NBKg5_; have BKg7 := NBKg7_; have BKg9 := NBKg9_; have HB := NHB_; clear NBKg3_ NBKg5_ NBKg7_ NBKg9_ NHB_; clear hb))
  exact bodyPost_ret (v := .bool true) (results_single rfl (.tmp .nil)) rfl ⟨rfl, HB.out⟩

end Go.Proofs.Ytonjgbcibjnpoaa.Pw
