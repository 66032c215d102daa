import Derived.Test.YtonjgbcibjnpoaaPb
import Derived.Test.YtonjgbcibjnpoaaSd
import Derived.Test.YtonjgbcibjnpoaaSs
import Derived.Test.YtonjgbcibjnpoaaSr
import Derived.Test.YtonjgbcibjnpoaaPw
import Derived.Test.YtonjgbcibjnpoaaPx
import Derived.Test.YtonjgbcibjnpoaaPc
import Derived.Test.YtonjgbcibjnpoaaPo
import Derived.Test.YtonjgbcibjnpoaaPz
import Derived.WalkSpells
import Derived.OpenShut
import Derived.Outline
import Derived.Lib.Hide
namespace Go.Proofs.Ytonjgbcibjnpoaa.Pw
open Go.RowKit Go.Proofs.YtonjgbcibjnpoaaW.PrintWords Go.Proofs.YtonjgbcibjnpoaaW.PrintLast Go.Proofs.YtonjgbcibjnpoaaW.PrintMore Go.Proofs.Ytonjgbcibjnpoaa.Gf Go.Proofs.Ytonjgbcibjnpoaa.Sc Go.Proofs.Ytonjgbcibjnpoaa.Pb Go.Proofs.Ytonjgbcibjnpoaa.Sd Go.Proofs.Ytonjgbcibjnpoaa.Ss Go.Proofs.Ytonjgbcibjnpoaa.Sr
set_option linter.unusedVariables false
set_option linter.unusedSimpArgs false


theorem own_later {W w1 : World} {base : Nat} {v : Value} {L : List (List Nat)} (h : Own W base v L) (hb : Below W.heap.size W w1) : Own w1 base v L := ⟨h.1, pw_own_below h.2 hb⟩
theorem own_grown {w W w1 : World} {v : Value} {L : List (List Nat)} (h : Own W w.heap.size v L) (hB : Below w.heap.size w W) (hg : W.grownBy w1 v.ownBlock) : Below w.heap.size w w1 :=
  hB.grown hg (below_size hB) (fun k hk => own_base h.2 k hk)
theorem two_secs {a b : List Nat} (ha : a.length = 64) (hb : b.length = 64) : (∀ l ∈ [a, b], l.length = 64) ∧ [a, b].length = 2 ∧ 2 ≤ 9223372036854775807 := by
  refine ⟨fun l hl => ?_, rfl, by decide⟩
  simp only [List.mem_cons, List.not_mem_nil, or_false] at hl
  rcases hl with h | h
  · rw [h]; exact ha
  · rw [h]; exact hb
/-- The row of some data. -/
def rowOf (T : List (List Nat)) : List (List Nat) := T ++ [psum T T.length, qsum T T.length]
set_option maxHeartbeats 4000000 in
set_option maxRecDepth 100000 in
theorem row_calls (A : Option Addr) (n c : Nat) (L : List (List Nat)) (w : World) (hC : Kd.C seK w A n L) (hS : Secs L) (hc : n ≤ c) (hcm : c ≤ 9223372036854775807) : Calls Try.prog 19 #[.slice A n c] w fun e w' => ∃ v, e = .returned v ∧ Below w.heap.size w w' ∧ (n = 0 → v = .slice none 0 0) ∧ (0 < n → Own w' w.heap.size v (rowOf (L.take (min n 62)))) := by
  obtain ⟨m, hm⟩ : ∃ m, m = min n 62 := ⟨_, rfl⟩
  have hLn := len_C hC
  have hle := le_C hC
  have hmn : m ≤ n := by omega
  have hm70 : m ≤ 62 := by omega
  have hmi : (if (62 : Int) < (n : Int) then (62 : Int) else (n : Int)) = (m : Int) := by split <;> omega
  have h0m : (0 : Int) ≤ (m : Int) := by omega
  have hmc : (m : Int) ≤ (c : Int) := by omega
  obtain ⟨T, eT⟩ : ∃ T, T = L.take m := ⟨_, rfl⟩
  have hTl : m = T.length := by rw [eT, List.length_take]; omega
  have hT : Secs T := by rw [eT]; exact secs_take hS _
  obtain ⟨a, ea⟩ : ∃ x, x = ofP T m := ⟨_, rfl⟩
  obtain ⟨b, eb⟩ : ∃ x, x = ofQ T m := ⟨_, rfl⟩
  have l1 : a.length = 64 := by rw [ea]; exact (ofP_sec hT (by omega)).len
  have l2 : b.length = 64 := by rw [eb]; exact (ofQ_sec hT (by omega)).len
  rw [← hm, ← eT]
  have HA := Lib.hid l1
  have HBB := Lib.hid l2
  have ET := Lib.hid eT
  have EM := Lib.hid hTl
  have EA := Lib.hid ea
  have EB := Lib.hid eb
  have HT := Lib.hid hT
  have HM := Lib.hid hm
  clear eT hTl ea eb l1 l2 hT hm hLn
  by_cases hm0 : m = 0
  · have hn0 : n = 0 := by rw [HM.out] at hm0; omega
    have EE := Lib.hid (show ofE m = 2 by simp [ofE, hm0])
    have HN0 := Lib.hid hn0
    clear hm0 hn0
    have HB := Aside0.mk (Below.refl w.heap.size w)
    go_enter Try.func19, Try.ntmps19
    go_wp2_with (first | ((with_reducible refine gate_dst (N := 7) rfl ?_); go_must (refine lit_event rfl rfl (cs := bys ([] : List (List Nat)).flatten) (t := 23) (exec_lit0 rfl) ?_); intro g3 hg_ wg3 BK_ hb_; have GEg3 := Aside0.mk (show w.heap.size ≤ g3 by rw [hg_]; exact below_size (by repeat (first | (with_reducible first | exact HB.out | apply below_alloc | apply pw_below_drewN | apply below_drew1) | exact HB.out))); have NHB_ := Aside0.mk (below_step (by repeat (first | (with_reducible first | exact HB.out | apply below_alloc | apply pw_below_drewN | apply below_drew1) | exact HB.out)) hb_); clear HB; have HB := NHB_; clear NHB_; have BKg3 := Aside0.mk BK_; clear BK_ hb_ hg_) | ((with_reducible refine gate_dst (N := 13) rfl ?_); go_must (refine append_event w.heap.size rfl rfl rfl rfl rfl (Own0 GEg3.out (by (with_reducible repeat (first | refine blk_drewN ?_ _ | refine blk_drew ?_ | refine blk_alloc ?_ _)); exact BKg3.out)) (C_take (Kd.C_below hC (by repeat (first | (with_reducible first | exact HB.out | apply below_alloc | apply pw_below_drewN | apply below_drew1) | exact HB.out))) hmn) (below_size (by repeat (first | (with_reducible first | exact HB.out | apply below_alloc | apply pw_below_drewN | apply below_drew1) | exact HB.out))) (by simp; omega) ?_); intro v1 W1 OW_ hg_ hat_; rw [List.nil_append, ← ET.out] at OW_; have HB2 := Aside0.mk (grown_below (by repeat (first | (with_reducible first | exact HB.out | apply below_alloc | apply pw_below_drewN | apply below_drew1) | exact HB.out)) hg_ GEg3.out); clear hg_ hat_ HB BKg3; have HB := HB2; clear HB2; have OWa := Lib.hid OW_; obtain ⟨A1, c1, rfl, hc1, hcm1, hC1⟩ := Own.reads OW_; rw [← EM.out] at hc1 hC1 ⊢; rw [← EM.out] at OWa; clear OW_; have HBa := Aside0.mk (Below.refl W1.heap.size W1)) | (go_at_call 13; go_must (with_reducible refine (of_calls A1 m c1 T _ (Kd.C_below hC1 (by repeat (first | (with_reducible first | exact HBa.out | apply below_alloc | apply pw_below_drewN | apply below_drew1) | exact HBa.out))) HT.out).mono ?_); rintro e W2 ⟨rfl, hb⟩; rw [← EA.out, ← EB.out, EE.out]; have NHB_ := Aside0.mk (below_step (by repeat (first | (with_reducible first | exact HB.out | apply below_alloc | apply pw_below_drewN | apply below_drew1) | exact HB.out)) hb); have NHBa_ := Aside0.mk (below_step (by repeat (first | (with_reducible first | exact HBa.out | apply below_alloc | apply pw_below_drewN | apply below_drew1) | exact HBa.out)) hb); clear HB HBa; have HB := NHB_; have HBa := NHBa_; clear NHB_ NHBa_; clear hb) | ((with_reducible refine gate_store (t := 23) (p := 4) rfl ?_); go_must (rw [zlit]; obtain ⟨q0_, q1_, nb_⟩ := Wk.blks2 W2 (Obj.cells (bys zeros) 23 (0, 0)) (Obj.cells (bys zeros) 23 (0, 0)); obtain ⟨W3, hW_⟩ : ∃ W, W = ((W2.alloc (Obj.cells (bys zeros) 23 (0, 0))).alloc (Obj.cells (bys zeros) 23 (0, 0))) := ⟨_, rfl⟩; rw [← hW_]; rw [← hW_] at q0_; rw [← hW_] at q1_; rw [← hW_] at nb_; have sz_ := below_size HB.out; have sza_ := below_size HBa.out; have hb2_ := Aside0.mk (below_step HB.out nb_); have hb2a_ := Aside0.mk (below_step HBa.out nb_); obtain ⟨g4, hgg4_⟩ : ∃ g, g = W2.heap.size := ⟨_, rfl⟩; obtain ⟨g5, hgg5_⟩ : ∃ g, g = W2.heap.size + 1 := ⟨_, rfl⟩; rw [← hgg5_]; rw [← hgg5_] at q1_; rw [← hgg4_]; rw [← hgg4_] at q0_; have hge_ : w.heap.size ≤ g4 := (by omega); have GEg4 := Aside0.mk hge_; clear hge_; have hge_ : W1.heap.size ≤ g4 := (by omega); have GEag4 := Aside0.mk hge_; clear hge_; have hge_ : w.heap.size ≤ g5 := (by omega); have GEg5 := Aside0.mk hge_; clear hge_; have hge_ : W1.heap.size ≤ g5 := (by omega); have GEag5 := Aside0.mk hge_; clear hge_; have Dg4g5 : g4 ≠ g5 := (by omega); have Dg5g4 : g5 ≠ g4 := (by omega); have BKg4 := Aside0.mk q0_; have BKg5 := Aside0.mk q1_; clear HB HBa; have HB := hb2_; have HBa := hb2a_; clear hb2_ hb2a_ sz_ sza_ hW_ nb_ hgg4_ hgg5_ q0_ q1_); ((with_reducible refine gate_store (t := 23) (p := 4) rfl ?_); go_must (refine store_event rfl rfl rfl (exec_put (cs' := bys a) T23.hi rfl rfl rfl (by show (bys a).size = 64; rw [bys_size]; exact HA.out) one_agg (by (with_reducible repeat (first | refine blk_drewN ?_ _ | refine blk_drew ?_ | refine blk_alloc ?_ _)); exact BKg4.out) (by rw [bys_size, zeros_length]; omega) (putc_all ((bys_size _).trans ((zeros_length).trans ((HA.out).symm.trans (bys_size _).symm))))) ?_); intro W4 hW_; have NBKg4_ := Aside0.mk ((by rw [hW_]; exact setRow_blk (by (with_reducible repeat (first | refine blk_drewN ?_ _ | refine blk_drew ?_ | refine blk_alloc ?_ _)); exact BKg4.out) : W4.heap[g4]? = some (Obj.cells (bys a) 23 (0, 0)))); have NBKg5_ := Aside0.mk ((by rw [hW_]; exact setRow_far (by (with_reducible repeat (first | refine blk_drewN ?_ _ | refine blk_drew ?_ | refine blk_alloc ?_ _)); exact BKg5.out) Dg5g4 : W4.heap[g5]? = some (Obj.cells (bys zeros) 23 (0, 0)))); have NHB_ := Aside0.mk ((by rw [hW_]; exact setRow_below (by repeat (first | (with_reducible first | exact HB.out | apply below_alloc | apply pw_below_drewN | apply below_drew1) | exact HB.out)) GEg4.out : Below w.heap.size w W4)); have NHBa_ := Aside0.mk ((by rw [hW_]; exact setRow_below (by repeat (first | (with_reducible first | exact HBa.out | apply below_alloc | apply pw_below_drewN | apply below_drew1) | exact HBa.out)) GEag4.out : Below W1.heap.size W1 W4)); clear BKg4 BKg5 HB HBa; have BKg4 := NBKg4_; have BKg5 := NBKg5_; have HB := NHB_; have HBa := NHBa_; clear NBKg4_ NBKg5_ NHB_ NHBa_; clear hW_)) | ((with_reducible refine gate_store (t := 23) (p := 5) rfl ?_); go_must (refine store_event rfl rfl rfl (exec_put (cs' := bys b) T23.hi rfl rfl rfl (by show (bys b).size = 64; rw [bys_size]; exact HBB.out) one_agg (by (with_reducible repeat (first | refine blk_drewN ?_ _ | refine blk_drew ?_ | refine blk_alloc ?_ _)); exact BKg5.out) (by rw [bys_size, zeros_length]; omega) (putc_all ((bys_size _).trans ((zeros_length).trans ((HBB.out).symm.trans (bys_size _).symm))))) ?_); intro W5 hW_; have NBKg4_ := Aside0.mk ((by rw [hW_]; exact setRow_far (by (with_reducible repeat (first | refine blk_drewN ?_ _ | refine blk_drew ?_ | refine blk_alloc ?_ _)); exact BKg4.out) Dg4g5 : W5.heap[g4]? = some (Obj.cells (bys a) 23 (0, 0)))); have NBKg5_ := Aside0.mk ((by rw [hW_]; exact setRow_blk (by (with_reducible repeat (first | refine blk_drewN ?_ _ | refine blk_drew ?_ | refine blk_alloc ?_ _)); exact BKg5.out) : W5.heap[g5]? = some (Obj.cells (bys b) 23 (0, 0)))); have NHB_ := Aside0.mk ((by rw [hW_]; exact setRow_below (by repeat (first | (with_reducible first | exact HB.out | apply below_alloc | apply pw_below_drewN | apply below_drew1) | exact HB.out)) GEg5.out : Below w.heap.size w W5)); have NHBa_ := Aside0.mk ((by rw [hW_]; exact setRow_below (by repeat (first | (with_reducible first | exact HBa.out | apply below_alloc | apply pw_below_drewN | apply below_drew1) | exact HBa.out)) GEag5.out : Below W1.heap.size W1 W5)); clear BKg4 BKg5 HB HBa; have BKg4 := NBKg4_; have BKg5 := NBKg5_; have HB := NHB_; have HBa := NHBa_; clear NBKg4_ NBKg5_ NHB_ NHBa_; clear hW_))
    exact bodyPost_ret (v := .slice none 0 0) (results_single rfl (.tmp .nil)) rfl ⟨_, rfl, HB.out, fun _ => rfl, fun h => by have := HN0.out; omega⟩
  · have EE := Lib.hid (show ofE m = 0 by simp [ofE, hm0]; omega)
    have HM0 := Lib.hid hm0
    clear hm0
    have HL := Lib.hid (two_secs HA.out HBB.out)
    have HB := Aside0.mk (Below.refl w.heap.size w)
    go_enter Try.func19, Try.ntmps19
    go_wp2_with (first | ((with_reducible refine gate_dst (N := 7) rfl ?_); go_must (refine lit_event rfl rfl (cs := bys ([] : List (List Nat)).flatten) (t := 23) (exec_lit0 rfl) ?_); intro g3 hg_ wg3 BK_ hb_; have GEg3 := Aside0.mk (show w.heap.size ≤ g3 by rw [hg_]; exact below_size (by repeat (first | (with_reducible first | exact HB.out | apply below_alloc | apply pw_below_drewN | apply below_drew1) | exact HB.out))); have NHB_ := Aside0.mk (below_step (by repeat (first | (with_reducible first | exact HB.out | apply below_alloc | apply pw_below_drewN | apply below_drew1) | exact HB.out)) hb_); clear HB; have HB := NHB_; clear NHB_; have BKg3 := Aside0.mk BK_; clear BK_ hb_ hg_) | ((with_reducible refine gate_dst (N := 13) rfl ?_); go_must (refine append_event w.heap.size rfl rfl rfl rfl rfl (Own0 GEg3.out (by (with_reducible repeat (first | refine blk_drewN ?_ _ | refine blk_drew ?_ | refine blk_alloc ?_ _)); exact BKg3.out)) (C_take (Kd.C_below hC (by repeat (first | (with_reducible first | exact HB.out | apply below_alloc | apply pw_below_drewN | apply below_drew1) | exact HB.out))) hmn) (below_size (by repeat (first | (with_reducible first | exact HB.out | apply below_alloc | apply pw_below_drewN | apply below_drew1) | exact HB.out))) (by simp; omega) ?_); intro v1 W1 OW_ hg_ hat_; rw [List.nil_append, ← ET.out] at OW_; have HB2 := Aside0.mk (grown_below (by repeat (first | (with_reducible first | exact HB.out | apply below_alloc | apply pw_below_drewN | apply below_drew1) | exact HB.out)) hg_ GEg3.out); clear hg_ hat_ HB BKg3; have HB := HB2; clear HB2; have OWa := Lib.hid OW_; obtain ⟨A1, c1, rfl, hc1, hcm1, hC1⟩ := Own.reads OW_; rw [← EM.out] at hc1 hC1 ⊢; rw [← EM.out] at OWa; clear OW_; have HBa := Aside0.mk (Below.refl W1.heap.size W1)) | (go_at_call 13; go_must (with_reducible refine (of_calls A1 m c1 T _ (Kd.C_below hC1 (by repeat (first | (with_reducible first | exact HBa.out | apply below_alloc | apply pw_below_drewN | apply below_drew1) | exact HBa.out))) HT.out).mono ?_); rintro e W2 ⟨rfl, hb⟩; rw [← EA.out, ← EB.out, EE.out]; have NHB_ := Aside0.mk (below_step (by repeat (first | (with_reducible first | exact HB.out | apply below_alloc | apply pw_below_drewN | apply below_drew1) | exact HB.out)) hb); have NHBa_ := Aside0.mk (below_step (by repeat (first | (with_reducible first | exact HBa.out | apply below_alloc | apply pw_below_drewN | apply below_drew1) | exact HBa.out)) hb); clear HB HBa; have HB := NHB_; have HBa := NHBa_; clear NHB_ NHBa_; clear hb) | ((with_reducible refine gate_store (t := 23) (p := 4) rfl ?_); go_must (rw [zlit]; obtain ⟨q0_, q1_, nb_⟩ := Wk.blks2 W2 (Obj.cells (bys zeros) 23 (0, 0)) (Obj.cells (bys zeros) 23 (0, 0)); obtain ⟨W3, hW_⟩ : ∃ W, W = ((W2.alloc (Obj.cells (bys zeros) 23 (0, 0))).alloc (Obj.cells (bys zeros) 23 (0, 0))) := ⟨_, rfl⟩; rw [← hW_]; rw [← hW_] at q0_; rw [← hW_] at q1_; rw [← hW_] at nb_; have sz_ := below_size HB.out; have sza_ := below_size HBa.out; have hb2_ := Aside0.mk (below_step HB.out nb_); have hb2a_ := Aside0.mk (below_step HBa.out nb_); obtain ⟨g4, hgg4_⟩ : ∃ g, g = W2.heap.size := ⟨_, rfl⟩; obtain ⟨g5, hgg5_⟩ : ∃ g, g = W2.heap.size + 1 := ⟨_, rfl⟩; rw [← hgg5_]; rw [← hgg5_] at q1_; rw [← hgg4_]; rw [← hgg4_] at q0_; have hge_ : w.heap.size ≤ g4 := (by omega); have GEg4 := Aside0.mk hge_; clear hge_; have hge_ : W1.heap.size ≤ g4 := (by omega); have GEag4 := Aside0.mk hge_; clear hge_; have hge_ : w.heap.size ≤ g5 := (by omega); have GEg5 := Aside0.mk hge_; clear hge_; have hge_ : W1.heap.size ≤ g5 := (by omega); have GEag5 := Aside0.mk hge_; clear hge_; have Dg4g5 : g4 ≠ g5 := (by omega); have Dg5g4 : g5 ≠ g4 := (by omega); have BKg4 := Aside0.mk q0_; have BKg5 := Aside0.mk q1_; clear HB HBa; have HB := hb2_; have HBa := hb2a_; clear hb2_ hb2a_ sz_ sza_ hW_ nb_ hgg4_ hgg5_ q0_ q1_); ((with_reducible refine gate_store (t := 23) (p := 4) rfl ?_); go_must (refine store_event rfl rfl rfl (exec_put (cs' := bys a) T23.hi rfl rfl rfl (by show (bys a).size = 64; rw [bys_size]; exact HA.out) one_agg (by (with_reducible repeat (first | refine blk_drewN ?_ _ | refine blk_drew ?_ | refine blk_alloc ?_ _)); exact BKg4.out) (by rw [bys_size, zeros_length]; omega) (putc_all ((bys_size _).trans ((zeros_length).trans ((HA.out).symm.trans (bys_size _).symm))))) ?_); intro W4 hW_; have NBKg4_ := Aside0.mk ((by rw [hW_]; exact setRow_blk (by (with_reducible repeat (first | refine blk_drewN ?_ _ | refine blk_drew ?_ | refine blk_alloc ?_ _)); exact BKg4.out) : W4.heap[g4]? = some (Obj.cells (bys a) 23 (0, 0)))); have NBKg5_ := Aside0.mk ((by rw [hW_]; exact setRow_far (by (with_reducible repeat (first | refine blk_drewN ?_ _ | refine blk_drew ?_ | refine blk_alloc ?_ _)); exact BKg5.out) Dg5g4 : W4.heap[g5]? = some (Obj.cells (bys zeros) 23 (0, 0)))); have NHB_ := Aside0.mk ((by rw [hW_]; exact setRow_below (by repeat (first | (with_reducible first | exact HB.out | apply below_alloc | apply pw_below_drewN | apply below_drew1) | exact HB.out)) GEg4.out : Below w.heap.size w W4)); have NHBa_ := Aside0.mk ((by rw [hW_]; exact setRow_below (by repeat (first | (with_reducible first | exact HBa.out | apply below_alloc | apply pw_below_drewN | apply below_drew1) | exact HBa.out)) GEag4.out : Below W1.heap.size W1 W4)); clear BKg4 BKg5 HB HBa; have BKg4 := NBKg4_; have BKg5 := NBKg5_; have HB := NHB_; have HBa := NHBa_; clear NBKg4_ NBKg5_ NHB_ NHBa_; clear hW_)) | ((with_reducible refine gate_store (t := 23) (p := 5) rfl ?_); go_must (refine store_event rfl rfl rfl (exec_put (cs' := bys b) T23.hi rfl rfl rfl (by show (bys b).size = 64; rw [bys_size]; exact HBB.out) one_agg (by (with_reducible repeat (first | refine blk_drewN ?_ _ | refine blk_drew ?_ | refine blk_alloc ?_ _)); exact BKg5.out) (by rw [bys_size, zeros_length]; omega) (putc_all ((bys_size _).trans ((zeros_length).trans ((HBB.out).symm.trans (bys_size _).symm))))) ?_); intro W5 hW_; have NBKg4_ := Aside0.mk ((by rw [hW_]; exact setRow_far (by (with_reducible repeat (first | refine blk_drewN ?_ _ | refine blk_drew ?_ | refine blk_alloc ?_ _)); exact BKg4.out) Dg4g5 : W5.heap[g4]? = some (Obj.cells (bys a) 23 (0, 0)))); have NBKg5_ := Aside0.mk ((by rw [hW_]; exact setRow_blk (by (with_reducible repeat (first | refine blk_drewN ?_ _ | refine blk_drew ?_ | refine blk_alloc ?_ _)); exact BKg5.out) : W5.heap[g5]? = some (Obj.cells (bys b) 23 (0, 0)))); have NHB_ := Aside0.mk ((by rw [hW_]; exact setRow_below (by repeat (first | (with_reducible first | exact HB.out | apply below_alloc | apply pw_below_drewN | apply below_drew1) | exact HB.out)) GEg5.out : Below w.heap.size w W5)); have NHBa_ := Aside0.mk ((by rw [hW_]; exact setRow_below (by repeat (first | (with_reducible first | exact HBa.out | apply below_alloc | apply pw_below_drewN | apply below_drew1) | exact HBa.out)) GEag5.out : Below W1.heap.size W1 W5)); clear BKg4 BKg5 HB HBa; have BKg4 := NBKg4_; have BKg5 := NBKg5_; have HB := NHB_; have HBa := NHBa_; clear NBKg4_ NBKg5_ NHB_ NHBa_; clear hW_) | ((with_reducible refine gate_dst (N := 23) rfl ?_); go_must (refine Kd.event_run rfl (exec_row_all agg23 (by rw [bys_size, HA.out]; exact T23.hi) rfl rfl (by (with_reducible repeat (first | refine blk_drewN ?_ _ | refine blk_drew ?_ | refine blk_alloc ?_ _)); exact BKg4.out)) ?_)) | ((with_reducible refine gate_dst (N := 24) rfl ?_); go_must (refine Kd.event_run rfl (exec_row_all agg23 (by rw [bys_size, HBB.out]; exact T23.hi) rfl rfl (by (with_reducible repeat (first | refine blk_drewN ?_ _ | refine blk_drew ?_ | refine blk_alloc ?_ _)); exact BKg5.out)) ?_)) | ((with_reducible refine gate_dst (N := 25) rfl ?_); go_must (refine lit_event rfl rfl (cs := bys [a, b].flatten) (t := 23) (exec_lit [a, b] HL.out.1 rfl rfl (by decide) (by decide) rfl) ?_); intro gl hg_ wgl BK_ hb_; have ltg4_ := blk_lt ((by (with_reducible repeat (first | refine blk_drewN ?_ _ | refine blk_drew ?_ | refine blk_alloc ?_ _)); exact BKg4.out) : _ = some (Obj.cells (bys a) 23 (0, 0))); have ltg5_ := blk_lt ((by (with_reducible repeat (first | refine blk_drewN ?_ _ | refine blk_drew ?_ | refine blk_alloc ?_ _)); exact BKg5.out) : _ = some (Obj.cells (bys b) 23 (0, 0))); have GEgl := Aside0.mk (show w.heap.size ≤ gl by rw [hg_]; exact below_size (by repeat (first | (with_reducible first | exact HB.out | apply below_alloc | apply pw_below_drewN | apply below_drew1) | exact HB.out))); have GEagl := Aside0.mk (show W1.heap.size ≤ gl by rw [hg_]; exact below_size (by repeat (first | (with_reducible first | exact HBa.out | apply below_alloc | apply pw_below_drewN | apply below_drew1) | exact HBa.out))); have Dg4gl : g4 ≠ gl := (by omega); have Dglg4 : gl ≠ g4 := (by omega); have Dg5gl : g5 ≠ gl := (by omega); have Dglg5 : gl ≠ g5 := (by omega); have NBKg4_ := Aside0.mk (blk_below (o := (Obj.cells (bys a) 23 (0, 0))) (by (with_reducible repeat (first | refine blk_drewN ?_ _ | refine blk_drew ?_ | refine blk_alloc ?_ _)); exact BKg4.out) hb_); have NBKg5_ := Aside0.mk (blk_below (o := (Obj.cells (bys b) 23 (0, 0))) (by (with_reducible repeat (first | refine blk_drewN ?_ _ | refine blk_drew ?_ | refine blk_alloc ?_ _)); exact BKg5.out) hb_); have NHB_ := Aside0.mk (below_step (by repeat (first | (with_reducible first | exact HB.out | apply below_alloc | apply pw_below_drewN | apply below_drew1) | exact HB.out)) hb_); have NHBa_ := Aside0.mk (below_step (by repeat (first | (with_reducible first | exact HBa.out | apply below_alloc | apply pw_below_drewN | apply below_drew1) | exact HBa.out)) hb_); clear BKg4 BKg5 HB HBa; have BKg4 := NBKg4_; have BKg5 := NBKg5_; have HB := NHB_; have HBa := NHBa_; clear NBKg4_ NBKg5_ NHB_ NHBa_; have BKgl := Aside0.mk BK_; clear BK_ hb_ hg_ ltg4_ ltg5_) | ((with_reducible refine gate_dst (N := 26) rfl ?_); go_must (refine append_event w.heap.size rfl rfl rfl rfl rfl (own_later OWa.out (by repeat (first | (with_reducible first | exact HBa.out | apply below_alloc | apply pw_below_drewN | apply below_drew1) | exact HBa.out))) (C_lit (by (with_reducible repeat (first | refine blk_drewN ?_ _ | refine blk_drew ?_ | refine blk_alloc ?_ _)); exact BKgl.out) HL.out) (below_size (by repeat (first | (with_reducible first | exact HB.out | apply below_alloc | apply pw_below_drewN | apply below_drew1) | exact HB.out))) (by rw [← EM.out]; omega) ?_); intro v2 W9 OW_ hg_ hat_; have HB2 := Aside0.mk (own_grown (own_later OWa.out (by repeat (first | (with_reducible first | exact HBa.out | apply below_alloc | apply pw_below_drewN | apply below_drew1) | exact HBa.out))) (by repeat (first | (with_reducible first | exact HB.out | apply below_alloc | apply pw_below_drewN | apply below_drew1) | exact HB.out)) hg_)))
    have e9 : rowOf T = T ++ [a, b] := by
      have h9 : ¬ T.length = 0 := by rw [← EM.out]; exact HM0.out
      have h8 : ¬ 62 < T.length := by rw [← EM.out]; omega
      rw [EA.out, EB.out, EM.out]
      simp only [rowOf, ofP, ofQ, if_neg h9, if_neg h8]
    exact bodyPost_ret (v := v2) (results_single rfl (.tmp .nil)) rfl ⟨_, rfl, HB2.out, fun h => absurd HM.out (by have := HM0.out; omega), fun _ => by rw [e9]; exact OW_⟩
set_option maxHeartbeats 4000000 in
set_option maxRecDepth 100000 in
theorem at_calls (i n : Int) (hn : 0 < n) (hn2 : n ≤ 100) (w : World) : Calls Try.prog 20 #[.int .i64 i, .int .i64 n] w fun e w' => e = .returned (.int .i64 (i % n)) ∧ Below w.heap.size w w' := by
  have HB := Aside0.mk (Below.refl w.heap.size w)
  have hz : ¬ n = 0 := by omega
  have hz2 : (n == 0) = false := by simp; omega
  have hb1 : -n < Int.tmod i n := by
    have h1 := Int.tmod_eq_emod (a := i) (b := n)
    have h2 := Int.emod_nonneg i hz
    have h3 := Int.emod_lt_of_pos i hn
    have h4 : (n.natAbs : Int) = n := by omega
    split at h1 <;> omega
  have hb2 : Int.tmod i n < n := by
    have h1 := Int.tmod_eq_emod (a := i) (b := n)
    have h2 := Int.emod_nonneg i hz
    have h3 := Int.emod_lt_of_pos i hn
    have h4 : (n.natAbs : Int) = n := by omega
    split at h1 <;> omega
  have hw : wrap64 (Int.tmod i n) = Int.tmod i n := by unfold wrap64; omega
  obtain ⟨t, et⟩ : ∃ t, t = Int.tmod i n := ⟨_, rfl⟩
  have hw2 : wrap64 (t + n) = t + n := by rw [et]; unfold wrap64; omega
  by_cases hneg : t < 0
  · have e1 : i % n = t + n := by
      have h1 := Int.tmod_eq_emod (a := i) (b := n)
      have h2 := Int.emod_nonneg i hz
      have h3 := Int.emod_lt_of_pos i hn
      have h4 : (n.natAbs : Int) = n := by omega
      split at h1 <;> omega
    have d1 : decide (t < 0) = true := by simpa using hneg
    rw [← et] at hw hb1 hb2
    have ET : Int.tmod i n = t := et.symm
    have E1 := Lib.hid e1
    clear et e1
    go_enter Try.func20, Try.ntmps20
    go_wp2
    exact bodyPost_ret (v := .int .i64 (t + n)) (results_single rfl (.tmp .nil)) rfl ⟨by rw [E1.out], HB.out⟩
  · have e1 : i % n = t := by
      have h1 := Int.tmod_eq_emod (a := i) (b := n)
      have h2 := Int.emod_nonneg i hz
      have h3 := Int.emod_lt_of_pos i hn
      have h4 : (n.natAbs : Int) = n := by omega
      split at h1 <;> omega
    have d1 : decide (t < 0) = false := by simpa using hneg
    rw [← et] at hw hb1 hb2
    have ET : Int.tmod i n = t := et.symm
    have E1 := Lib.hid e1
    clear et e1
    go_enter Try.func20, Try.ntmps20
    go_wp2
    exact bodyPost_ret (v := .int .i64 t) (results_single rfl (.tmp .nil)) rfl ⟨by rw [E1.out], HB.out⟩

end Go.Proofs.Ytonjgbcibjnpoaa.Pw
