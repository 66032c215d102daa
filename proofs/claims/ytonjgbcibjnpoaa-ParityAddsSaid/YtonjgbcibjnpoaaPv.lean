import Derived.Test.YtonjgbcibjnpoaaPb
import Derived.Test.YtonjgbcibjnpoaaSd
import Derived.Test.YtonjgbcibjnpoaaSs
import Derived.Test.YtonjgbcibjnpoaaSr
import Derived.Laws.Cover1
import Derived.Test.YtonjgbcibjnpoaaPw
import Derived.Test.YtonjgbcibjnpoaaPu
import Derived.Test.YtonjgbcibjnpoaaPe
import Derived.WalkSpells
import Derived.OpenShut
import Derived.Outline
import Derived.Lib.Hide
namespace Go.Proofs.Ytonjgbcibjnpoaa.Pw
open Go.RowKit Go.Proofs.YtonjgbcibjnpoaaW.PrintWords Go.Proofs.YtonjgbcibjnpoaaW.PrintLast Go.Proofs.YtonjgbcibjnpoaaW.PrintMore Go.Proofs.Ytonjgbcibjnpoaa.Gf Go.Proofs.Ytonjgbcibjnpoaa.Sc Go.Proofs.Ytonjgbcibjnpoaa.Pb Go.Proofs.Ytonjgbcibjnpoaa.Sd Go.Proofs.Ytonjgbcibjnpoaa.Ss Go.Proofs.Ytonjgbcibjnpoaa.Sr Go.Proofs.Ytonjgbcibjnpoaa.Pd
set_option linter.unusedVariables false
set_option linter.unusedSimpArgs false


theorem one_sec {a : List Nat} (ha : a.length = 64) : (∀ l ∈ [a], l.length = 64) ∧ [a].length = 1 ∧ 1 ≤ 9223372036854775807 := by
  refine ⟨fun l hl => ?_, rfl, by decide⟩
  simp only [List.mem_cons, List.not_mem_nil, or_false] at hl
  rw [hl]; exact ha

theorem alloc25 {o : Oper} {a : Act} {w : World} (ho : o.op = .alloc 25) : (execOp a.eval o).run Try.prog w = .ok (.value (.pointer (some ⟨w.heap.size, 0, none⟩))) (w.alloc (.cells (bys (rowL zeros zeros zeros)) 25 (0, 0))) := Sc.exec_alloc ho zero25
theorem ofP_in {L : List (List Nat)} {N : Nat} (h1 : 1 ≤ N) (h2 : N ≤ 62) : ofP L N = psum L N := by simp only [ofP, if_neg (show ¬ N = 0 by omega), if_neg (show ¬ 62 < N by omega)]
theorem ofQ_in {L : List (List Nat)} {N : Nat} (h1 : 1 ≤ N) (h2 : N ≤ 62) : ofQ L N = qsum L N := by simp only [ofQ, if_neg (show ¬ N = 0 by omega), if_neg (show ¬ 62 < N by omega)]
theorem ofE_in {N : Nat} (h1 : 1 ≤ N) (h2 : N ≤ 62) : ofE N = 0 := by simp only [ofE, if_neg (show ¬ N = 0 by omega), if_neg (show ¬ 62 < N by omega)]
set_option maxHeartbeats 4000000 in
set_option maxRecDepth 100000 in
theorem adds_walk (A B : Option Addr) (n m c c2 : Nat) (L M : List (List Nat)) (w : World) (hC : Kd.C seK w A n L) (hS : Secs L) (hc : n ≤ c) (hcm : c ≤ 9223372036854775807) (hD : Kd.C seK w B m M) (hT : Secs M) (hd : m ≤ c2) (hdm : c2 ≤ 9223372036854775807) : Calls Try.prog 4 #[.slice A n c, .slice B m c2] w fun e w' => e = .returned (.bool true) ∧ Below w.heap.size w w' := by
  have hLn := len_C hC
  have hMn := len_C hD
  have hle := le_C hC
  have hle2 := le_C hD
  by_cases hn : 0 < min n m
  · skip
    obtain ⟨N, hN⟩ : ∃ N, N = min (min n m) 62 := ⟨_, rfl⟩
    have hN1 : 1 ≤ N := by omega
    have hN2 : N ≤ 62 := by omega
    have hNn : N ≤ n := by omega
    have hNm : N ≤ m := by omega
    have hmi : (if (62 : Int) < (if m < n then (m : Int) else (n : Int)) then (62 : Int) else (if m < n then (m : Int) else (n : Int))) = (N : Int) := by
      by_cases h1 : m < n
      · rw [if_pos h1]; split <;> omega
      · rw [if_neg h1]; split <;> omega
    have h0N : (0 : Int) ≤ (N : Int) := by omega
    have hNc : (N : Int) ≤ (c : Int) := by omega
    have hNc2 : (N : Int) ≤ (c2 : Int) := by omega
    have hNz : decide ((N : Int) = 0) = false := by simp; omega
    have hNz2 : ((N : Int) == 0) = false := by simp; omega
    have hNw : wrap64 ((N : Int) - 1) = (N : Int) - 1 := by unfold wrap64; omega
    obtain ⟨ad, rfl⟩ := sec_head hC (by omega)
    obtain ⟨bd, rfl⟩ := sec_head hD (by omega)
    have HN1 := Lib.hid hN1
    have HN2 := Lib.hid hN2
    have HNn := Lib.hid hNn
    have HNm := Lib.hid hNm
    have HS := Lib.hid hS
    have HT := Lib.hid hT
    have LL := Lib.hid hLn
    have LM := Lib.hid hMn
    clear hN hN1 hN2 hNn hNm hS hT hLn hMn hle hle2
    have HB := Aside0.mk (Below.refl w.heap.size w)
    go_enter Try.func4, Try.ntmps4
    go_wp2_with fail
    go_loopw [6, 7] (fun v i wr => ∃ a : Nat, a ≤ N ∧ i = .int .i64 a ∧ Aside0 (Own wr w.heap.size v (sumL L M a)) ∧ Aside0 (Below w.heap.size w wr)) (fun _ i _ => N - (intOf i).toNat)
    case atStart => exact ⟨0, by omega, rfl, ⟨Own.nil _ _⟩, HB⟩
    case round =>
      clear HB
      obtain ⟨a, ha, rfl, OW, HB⟩ := hrel
      obtain ⟨wo, rfl⟩ : ∃ W, W = wr := ⟨_, rfl⟩
      by_cases hlt : a < N
      · skip
        have h1 : decide ((a : Int) < (N : Int)) = true := by simp; omega
        have h0 : (0 : Int) ≤ (a : Int) := by omega
        have hn9 : (a : Int) < (n : Int) := by have := HNn.out; omega
        have hm9 : (a : Int) < (m : Int) := by have := HNm.out; omega
        obtain ⟨d, ed_⟩ : ∃ d, d = L.getD a [] := ⟨_, rfl⟩
        obtain ⟨f, ef_⟩ : ∃ d, d = M.getD a [] := ⟨_, rfl⟩
        have sd : Sec d := by rw [ed_]; exact HS.out.at (by rw [LL.out]; have := HNn.out; omega)
        have sf : Sec f := by rw [ef_]; exact HT.out.at (by rw [LM.out]; have := HNm.out; omega)
        have SD := Lib.hid sd
        have SF := Lib.hid sf
        have ED := Lib.hid ed_
        have EF := Lib.hid ef_
        have HAN := Lib.hid (show a < n by have := HNn.out; omega)
        have HAM := Lib.hid (show a < m by have := HNm.out; omega)
        have LX := Lib.hid (xorL_length sd.len sf.len)
        clear ed_ ef_ sd sf
        have HBb := Aside0.mk (Below.refl wo.heap.size wo); have SVbHB := HB
        go_wp2_with (first | ((with_reducible refine gate_dst (N := 40) rfl ?_); go_must (refine Kd.event_run rfl (exec_sec (Kd.C_below hC HB.out) HAN.out ED.out rfl rfl) ?_)) | ((with_reducible refine gate_store (t := 23) (p := 8) rfl ?_); go_must (rw [zlit]; obtain ⟨q0_, nb_⟩ := Wk.blks1 wo (Obj.cells (bys zeros) 23 (0, 0)); obtain ⟨w1, hW_⟩ : ∃ W, W = (wo.alloc (Obj.cells (bys zeros) 23 (0, 0))) := ⟨_, rfl⟩; rw [← hW_]; rw [← hW_] at q0_; rw [← hW_] at nb_; have sz_ := below_size HB.out; have szb_ := below_size HBb.out; have hb2_ := Aside0.mk (below_step HB.out nb_); have hb2b_ := Aside0.mk (below_step HBb.out nb_); obtain ⟨g8, hgg8_⟩ : ∃ g, g = wo.heap.size := ⟨_, rfl⟩; rw [← hgg8_]; rw [← hgg8_] at q0_; have hge_ : w.heap.size ≤ g8 := (by omega); have GEg8 := Aside0.mk hge_; clear hge_; have hge_ : wo.heap.size ≤ g8 := (by omega); have GEbg8 := Aside0.mk hge_; clear hge_; have BKg8 := Aside0.mk q0_; clear HB HBb; have HB := hb2_; have HBb := hb2b_; clear hb2_ hb2b_ sz_ szb_ hW_ nb_ hgg8_ q0_); ((with_reducible refine gate_store (t := 23) (p := 8) rfl ?_); go_must (refine store_event rfl rfl rfl (exec_put (cs' := bys d) T23.hi rfl rfl rfl (by show (bys d).size = 64; rw [bys_size]; exact SD.out.len) one_agg (by (with_reducible repeat (first | refine blk_drewN ?_ _ | refine blk_drew ?_ | refine blk_alloc ?_ _)); exact BKg8.out) (by rw [bys_size, zeros_length]; omega) (putc_all ((bys_size _).trans ((zeros_length).trans ((SD.out.len).symm.trans (bys_size _).symm))))) ?_); intro w2 hW_; have NBKg8_ := Aside0.mk ((by rw [hW_]; exact setRow_blk (by (with_reducible repeat (first | refine blk_drewN ?_ _ | refine blk_drew ?_ | refine blk_alloc ?_ _)); exact BKg8.out) : w2.heap[g8]? = some (Obj.cells (bys d) 23 (0, 0)))); have NHB_ := Aside0.mk ((by rw [hW_]; exact setRow_below (by repeat (first | (with_reducible first | exact HB.out | apply below_alloc | apply pw_below_drewN | apply below_drew1) | exact HB.out)) GEg8.out : Below w.heap.size w w2)); have NHBb_ := Aside0.mk ((by rw [hW_]; exact setRow_below (by repeat (first | (with_reducible first | exact HBb.out | apply below_alloc | apply pw_below_drewN | apply below_drew1) | exact HBb.out)) GEbg8.out : Below wo.heap.size wo w2)); clear BKg8 HB HBb; have BKg8 := NBKg8_; have HB := NHB_; have HBb := NHBb_; clear NBKg8_ NHB_ NHBb_; clear hW_)))
        go_loopw [9] (fun i wr => ∃ k : Nat, k ≤ 64 ∧ i = .int .i64 k ∧ Aside0 (wr.heap[g8]? = some (.cells (bys (mix (xorL d f) d k)) 23 (0, 0))) ∧ Aside0 (Below w.heap.size w wr) ∧ Aside0 (Below wo.heap.size wo wr)) (fun i _ => 64 - (intOf i).toNat)
        case atStart => exact ⟨0, by omega, rfl, ⟨by rw [mix_zero]; exact BKg8.out⟩, HB, HBb⟩
        case round =>
          clear BKg8 HB HBb
          obtain ⟨k, hk, rfl, BKg8, HB, HBb⟩ := hrel
          by_cases hkt : k < 64
          · skip
            have h2 : decide ((k : Int) < 64) = true := by simp; omega
            have hk0 : (0 : Int) ≤ (k : Int) := by omega
            have hk9 : (k : Int) < 64 := by omega
            obtain ⟨x, ex_⟩ : ∃ x, x = d.getD k 0 := ⟨_, rfl⟩
            obtain ⟨y, ey_⟩ : ∃ y, y = f.getD k 0 := ⟨_, rfl⟩
            have hxl : x < 256 := by rw [ex_]; exact SD.out.get k
            have hyl : y < 256 := by rw [ey_]; exact SF.out.get k
            have hxx := xor8 hxl hyl
            have EX := Lib.hid ex_
            have EY := Lib.hid ey_
            have HKT := Lib.hid hkt
            have ml := mix_length (r := xorL d f) (a := d) (k := k) (by rw [LX.out, SD.out.len]) (by rw [SD.out.len]; omega)
            rw [SD.out.len] at ml
            have ML := Lib.hid ml
            have s1 := mix_set (r := xorL d f) (a := d) (k := k) (by rw [LX.out, SD.out.len]) (by rw [SD.out.len]; exact hkt)
            rw [xorL_get (by rw [SD.out.len]; exact hkt) (by rw [SF.out.len]; exact hkt), ← ex_, ← ey_] at s1
            have S1 := Lib.hid s1
            have s2 := mix_get (r := xorL d f) (a := d) (k := k) (by rw [LX.out, SD.out.len]) (by rw [SD.out.len]; exact hkt)
            rw [← ex_] at s2
            have S2 := Lib.hid s2
            clear ex_ ey_ ml s1 s2 hxl hyl
            go_wp2_with fail
            have NBKg8_ := Aside0.mk (blk_drew BKg8.out)
            have NHB_ := Aside0.mk (below_drew1 HB.out)
            have NHBb_ := Aside0.mk (below_drew1 HBb.out)
            clear BKg8 HB HBb
            have BKg8 := NBKg8_
            have HB := NHB_
            have HBb := NHBb_
            clear NBKg8_ NHB_ NHBb_
            refine start_ (n := 12) (S := fun w' => (w'.heap[g8]? = some (Obj.cells (bys (mix (xorL d f) d k)) 23 (0, 0))) ∧ (Below w.heap.size w w') ∧ (Below wo.heap.size wo w')) (ds := [11]) #[false, false, false, false, false, false, false, false, false, false, false, false] (by kernel_rfl) rfl rfl (⟨BKg8.out, HB.out, HBb.out⟩) (fun hHeld => ?_)
            generalize wr.drew = V0 at BKg8 HB HBb hHeld ⊢
            refine pure_ (i := 0) (N := some 45) (v := ?_) (a' := ?_) #[true, false, false, false, false, false, false, false, false, false, false, false] rfl rfl (by kernel_rfl) (fun _ _ _ h => h) (Or.inl ⟨by rfl, ?_⟩) ?_ ?_
            rotate_left
            · intro w'
              go_simp
              with_reducible rfl
            rotate_left
            · simp only [Act.put, List.setIfInBounds_toArray, List.set_cons_zero, List.set_cons_succ, i64_w, i32_w]
              rfl
            refine pure_ (i := 1) (N := some 46) (v := ?_) (a' := ?_) #[true, true, false, false, false, false, false, false, false, false, false, false] rfl rfl (by kernel_rfl) (fun _ _ _ h => h) (Or.inl ⟨by rfl, ?_⟩) ?_ ?_
            rotate_left
            · intro w'
              go_simp
              with_reducible rfl
            rotate_left
            · simp only [Act.put, List.setIfInBounds_toArray, List.set_cons_zero, List.set_cons_succ, i64_w, i32_w]
              rfl
            refine take_ (i := 2) (N := some 47) (v := .int .u8 (x : Int)) (a' := ?_) #[true, true, true, false, false, false, false, false, false, false, false, false] rfl rfl (by kernel_rfl) (fun _ _ _ h => h) (Or.inl ⟨by rfl, ?_⟩) hHeld ?_ ?_
            · rintro w' ⟨k_g8, kb_, kbb_⟩
              exact exec_one (v := .int .u8 (x : Int)) agg5 rfl rfl (by rw [← S2.out]; exact cell_bys k_g8 (by rw [ML.out]; exact HKT.out))
            rotate_left
            · simp only [Act.put, List.setIfInBounds_toArray, List.set_cons_zero, List.set_cons_succ, i64_w, i32_w]
              rfl
            refine pure_ (i := 3) (N := some 48) (v := ?_) (a' := ?_) #[true, true, true, true, false, false, false, false, false, false, false, false] rfl rfl (by kernel_rfl) (fun _ _ _ h => h) (Or.inl ⟨by rfl, ?_⟩) ?_ ?_
            rotate_left
            · intro w'
              go_simp
              with_reducible rfl
            rotate_left
            · simp only [Act.put, List.setIfInBounds_toArray, List.set_cons_zero, List.set_cons_succ, i64_w, i32_w]
              rfl
            refine pure_ (i := 4) (N := some 49) (v := ?_) (a' := ?_) #[true, true, true, true, true, false, false, false, false, false, false, false] rfl rfl (by kernel_rfl) (fun _ _ _ h => h) (Or.inl ⟨by rfl, ?_⟩) ?_ ?_
            rotate_left
            · intro w'
              go_simp
              with_reducible rfl
            rotate_left
            · simp only [Act.put, List.setIfInBounds_toArray, List.set_cons_zero, List.set_cons_succ, i64_w, i32_w]
              rfl
            refine pure_ (i := 5) (N := some 50) (v := ?_) (a' := ?_) #[true, true, true, true, true, true, false, false, false, false, false, false] rfl rfl (by kernel_rfl) (fun _ _ _ h => h) (Or.inl ⟨by rfl, ?_⟩) ?_ ?_
            rotate_left
            · intro w'
              go_simp
              with_reducible rfl
            rotate_left
            · simp only [Act.put, List.setIfInBounds_toArray, List.set_cons_zero, List.set_cons_succ, i64_w, i32_w]
              rfl
            refine pure_ (i := 6) (N := some 51) (v := ?_) (a' := ?_) #[true, true, true, true, true, true, true, false, false, false, false, false] rfl rfl (by kernel_rfl) (fun _ _ _ h => h) (Or.inl ⟨by rfl, ?_⟩) ?_ ?_
            rotate_left
            · intro w'
              go_simp
              with_reducible rfl
            rotate_left
            · simp only [Act.put, List.setIfInBounds_toArray, List.set_cons_zero, List.set_cons_succ, i64_w, i32_w]
              rfl
            refine pure_ (i := 7) (N := some 52) (v := ?_) (a' := ?_) #[true, true, true, true, true, true, true, true, false, false, false, false] rfl rfl (by kernel_rfl) (fun _ _ _ h => h) (Or.inl ⟨by rfl, ?_⟩) ?_ ?_
            rotate_left
            · intro w'
              go_simp
              with_reducible rfl
            rotate_left
            · simp only [Act.put, List.setIfInBounds_toArray, List.set_cons_zero, List.set_cons_succ, i64_w, i32_w]
              rfl
            refine take_ (i := 8) (N := some 53) (v := .int .u8 (y : Int)) (a' := ?_) #[true, true, true, true, true, true, true, true, true, false, false, false] rfl rfl (by kernel_rfl) (fun _ _ _ h => h) (Or.inl ⟨by rfl, ?_⟩) hHeld ?_ ?_
            · rintro w' ⟨k_g8, kb_, kbb_⟩
              exact exec_one (v := .int .u8 (y : Int)) agg5 rfl rfl (by have hq_ := byte_C (Kd.C_below hD kb_) HAM.out HKT.out; rw [← EF.out, ← EY.out] at hq_; exact hq_)
            rotate_left
            · simp only [Act.put, List.setIfInBounds_toArray, List.set_cons_zero, List.set_cons_succ, i64_w, i32_w]
              rfl
            refine pure_ (i := 9) (N := some 54) (v := ?_) (a' := ?_) #[true, true, true, true, true, true, true, true, true, true, false, false] rfl rfl (by kernel_rfl) (fun _ _ _ h => h) (Or.inl ⟨by rfl, ?_⟩) ?_ ?_
            rotate_left
            · intro w'
              go_simp
              with_reducible rfl
            rotate_left
            · simp only [Act.put, List.setIfInBounds_toArray, List.set_cons_zero, List.set_cons_succ, i64_w, i32_w]
              rfl
            refine pure_ (i := 10) (N := some 55) (v := ?_) (a' := ?_) #[true, true, true, true, true, true, true, true, true, true, true, false] rfl rfl (by kernel_rfl) (fun _ _ _ h => h) (Or.inl ⟨by rfl, ?_⟩) ?_ ?_
            rotate_left
            · intro w'
              go_simp
              with_reducible rfl
            rotate_left
            · simp only [Act.put, List.setIfInBounds_toArray, List.set_cons_zero, List.set_cons_succ, i64_w, i32_w]
              rfl
            refine last_ (i := 11) (N := none) #[true, true, true, true, true, true, true, true, true, true, true, true] rfl rfl (by kernel_rfl) (by decide) (fun K hK => ?_)
            refine skip_ (by rfl) rfl (exec_put (cs' := bys (mix (xorL d f) d (k + 1))) (off := k) (v := .int .u8 ((x ^^^ y : Nat) : Int)) size5 rfl rfl rfl rfl one_int BKg8.out (by rw [bys_size, ML.out]; have := HKT.out; omega) ((putc_byte (by rw [ML.out]; exact HKT.out)).trans (by rw [S1.out]))) ?_
            obtain ⟨V1, hW_⟩ : ∃ W, W = V0.setRow g8 (bys (mix (xorL d f) d (k + 1))) := ⟨_, rfl⟩
            rw [← hW_]
            have NBKg8_ := Aside0.mk ((by rw [hW_]; exact setRow_blk BKg8.out : V1.heap[g8]? = some (Obj.cells (bys (mix (xorL d f) d (k + 1))) 23 (0, 0))))
            have NHB_ := Aside0.mk ((by rw [hW_]; exact setRow_below (HB.out) GEg8.out : Below w.heap.size w V1))
            have NHBb_ := Aside0.mk ((by rw [hW_]; exact setRow_below (HBb.out) GEbg8.out : Below wo.heap.size wo V1))
            clear BKg8 HB HBb
            have BKg8 := NBKg8_
            have HB := NHB_
            have HBb := NHBb_
            clear NBKg8_ NHB_ NHBb_
            clear hW_
            refine hK.out _ _ ?_
            clear hK K
            refine done_ (by kernel_rfl) ?_
            go_wp2
            go_roundw
            case rel => exact ⟨k + 1, by omega, by go_num, BKg8, HB, HBb⟩
            case measure => simp [intOf] <;> omega
          · skip
            obtain rfl : k = 64 := by omega
            clear hkt hk
            have e1 := mix_full (r := xorL d f) (a := d) LX.out SD.out.len
            have N_ := Aside0.mk (show wr.heap[g8]? = some (.cells (bys (xorL d f)) 23 (0, 0)) by rw [← e1]; exact BKg8.out)
            clear BKg8 e1
            have BKg8 := N_
            clear N_
            have HL := Lib.hid (one_sec LX.out)
            go_wp2_with (first | ((with_reducible refine gate_dst (N := 57) rfl ?_); go_must (refine Kd.event_run rfl (exec_row_all agg23 (by rw [bys_size, LX.out]; exact T23.hi) rfl rfl (by (with_reducible repeat (first | refine blk_drewN ?_ _ | refine blk_drew ?_ | refine blk_alloc ?_ _)); exact BKg8.out)) ?_)) | ((with_reducible refine gate_dst (N := 58) rfl ?_); go_must (refine lit_event rfl rfl (cs := bys [xorL d f].flatten) (t := 23) (exec_lit [xorL d f] HL.out.1 rfl rfl (by decide) (by decide) rfl) ?_); intro gl hg_ wgl BK_ hb_; have ltg8_ := blk_lt ((by (with_reducible repeat (first | refine blk_drewN ?_ _ | refine blk_drew ?_ | refine blk_alloc ?_ _)); exact BKg8.out) : _ = some (Obj.cells (bys (xorL d f)) 23 (0, 0))); have GEgl := Aside0.mk (show w.heap.size ≤ gl by rw [hg_]; exact below_size (by repeat (first | (with_reducible first | exact HB.out | apply below_alloc | apply pw_below_drewN | apply below_drew1) | exact HB.out))); have GEbgl := Aside0.mk (show wo.heap.size ≤ gl by rw [hg_]; exact below_size (by repeat (first | (with_reducible first | exact HBb.out | apply below_alloc | apply pw_below_drewN | apply below_drew1) | exact HBb.out))); have Dg8gl : g8 ≠ gl := (by omega); have Dglg8 : gl ≠ g8 := (by omega); have NBKg8_ := Aside0.mk (blk_below (o := (Obj.cells (bys (xorL d f)) 23 (0, 0))) (by (with_reducible repeat (first | refine blk_drewN ?_ _ | refine blk_drew ?_ | refine blk_alloc ?_ _)); exact BKg8.out) hb_); have NHB_ := Aside0.mk (below_step (by repeat (first | (with_reducible first | exact HB.out | apply below_alloc | apply pw_below_drewN | apply below_drew1) | exact HB.out)) hb_); have NHBb_ := Aside0.mk (below_step (by repeat (first | (with_reducible first | exact HBb.out | apply below_alloc | apply pw_below_drewN | apply below_drew1) | exact HBb.out)) hb_); clear BKg8 HB HBb; have BKg8 := NBKg8_; have HB := NHB_; have HBb := NHBb_; clear NBKg8_ NHB_ NHBb_; have BKgl := Aside0.mk BK_; clear BK_ hb_ hg_ ltg8_) | ((with_reducible refine gate_dst (N := 59) rfl ?_); go_must (refine append_event w.heap.size rfl rfl rfl rfl rfl (own_later OW.out (by repeat (first | (with_reducible first | exact HBb.out | apply below_alloc | apply pw_below_drewN | apply below_drew1) | exact HBb.out))) (C_lit (by (with_reducible repeat (first | refine blk_drewN ?_ _ | refine blk_drew ?_ | refine blk_alloc ?_ _)); exact BKgl.out) HL.out) (below_size (by repeat (first | (with_reducible first | exact HB.out | apply below_alloc | apply pw_below_drewN | apply below_drew1) | exact HB.out))) (by rw [sumL_length]; have := HN2.out; omega) ?_); intro v2 W9 OW_ hg_ hat_; have HB2 := Aside0.mk (own_grown (own_later OW.out (by repeat (first | (with_reducible first | exact HBb.out | apply below_alloc | apply pw_below_drewN | apply below_drew1) | exact HBb.out))) (by repeat (first | (with_reducible first | exact HB.out | apply below_alloc | apply pw_below_drewN | apply below_drew1) | exact HB.out)) hg_)))
            go_roundw
            case rel => exact ⟨a + 1, by omega, by go_num, ⟨by rw [sumL_succ, ← ED.out, ← EF.out]; exact OW_⟩, HB2⟩
            case measure => simp [intOf] <;> omega
      · skip
        obtain rfl : N = a := by omega
        clear hlt ha
        obtain ⟨A1, c1, rfl, hc1, hcm1, hC1⟩ := Own.reads OW.out
        rw [sumL_length] at hc1 hC1 ⊢
        clear OW
        have HBf := Aside0.mk (Below.refl wo.heap.size wo)
        have hL1 : N ≤ L.length := by rw [LL.out]; exact HNn.out
        have hM1 : N ≤ M.length := by rw [LM.out]; exact HNm.out
        have hUs := sumL_secs HS.out HT.out hL1 hM1
        obtain ⟨P, eP⟩ : ∃ x, x = psum L N := ⟨_, rfl⟩
        obtain ⟨Q, eQ⟩ : ∃ x, x = qsum L N := ⟨_, rfl⟩
        have sP : Sec P := by rw [eP]; exact psum_sec HS.out N hL1
        have sQ : Sec Q := by rw [eQ]; exact qsum_sec HS.out N hL1
        have OP := Lib.hid (show ofP (L.take N) N = P by rw [ofP_in HN1.out HN2.out, psum_take N (Nat.le_refl _), eP])
        have OQ := Lib.hid (show ofQ (L.take N) N = Q by rw [ofQ_in HN1.out HN2.out, qsum_take N (Nat.le_refl _), eQ])
        obtain ⟨P2, eP2⟩ : ∃ x, x = psum M N := ⟨_, rfl⟩
        obtain ⟨Q2, eQ2⟩ : ∃ x, x = qsum M N := ⟨_, rfl⟩
        have sP2 : Sec P2 := by rw [eP2]; exact psum_sec HT.out N hM1
        have sQ2 : Sec Q2 := by rw [eQ2]; exact qsum_sec HT.out N hM1
        have OP2 := Lib.hid (show ofP (M.take N) N = P2 by rw [ofP_in HN1.out HN2.out, psum_take N (Nat.le_refl _), eP2])
        have OQ2 := Lib.hid (show ofQ (M.take N) N = Q2 by rw [ofQ_in HN1.out HN2.out, qsum_take N (Nat.le_refl _), eQ2])
        obtain ⟨P3, eP3⟩ : ∃ x, x = psum (sumL L M N) N := ⟨_, rfl⟩
        obtain ⟨Q3, eQ3⟩ : ∃ x, x = qsum (sumL L M N) N := ⟨_, rfl⟩
        have sP3 : Sec P3 := by rw [eP3]; exact psum_sec hUs N (by rw [sumL_length]; omega)
        have sQ3 : Sec Q3 := by rw [eQ3]; exact qsum_sec hUs N (by rw [sumL_length]; omega)
        have OP3 := Lib.hid (show ofP (sumL L M N) N = P3 by rw [ofP_in HN1.out HN2.out, eP3])
        have OQ3 := Lib.hid (show ofQ (sumL L M N) N = Q3 by rw [ofQ_in HN1.out HN2.out, eQ3])
        have OE := Lib.hid (ofE_in HN1.out HN2.out)
        have HUS := Lib.hid hUs
        have XP := Lib.hid (fun q (hq : q < 64) => show P.getD q 0 ^^^ P2.getD q 0 = P3.getD q 0 by rw [eP, eP2, eP3]; exact psum_sum HS.out HT.out hL1 hM1 hq)
        have XQ := Lib.hid (fun q (hq : q < 64) => show Q.getD q 0 ^^^ Q2.getD q 0 = Q3.getD q 0 by rw [eQ, eQ2, eQ3]; exact qsum_sum HS.out HT.out hL1 hM1 hq)
        have SP := Lib.hid sP
        have SQ := Lib.hid sQ
        have SP2 := Lib.hid sP2
        have SQ2 := Lib.hid sQ2
        have SP3 := Lib.hid sP3
        have SQ3 := Lib.hid sQ3
        have EP := Lib.hid eP
        have EQ := Lib.hid eQ
        have EP2 := Lib.hid eP2
        have EQ2 := Lib.hid eQ2
        have HL1 := Lib.hid hL1
        have HM1 := Lib.hid hM1
        clear eP eQ eP2 eQ2 eP3 eQ3 sP sQ sP2 sQ2 sP3 sQ3 hL1 hM1 hUs
        have tok1 := Lib.hid trivial
        have tok2 := Lib.hid trivial
        have tok3 := Lib.hid trivial
        have hend : decide ((N : Int) < (N : Int)) = false := by simp
        go_wp2_with (first | (go_at_call 13; have tk_ := tok1; clear tk_ tok1; go_must (with_reducible refine (of_calls (some ad) N c (L.take N) _ (C_take (Kd.C_below hC (by repeat (first | (with_reducible first | exact HB.out | apply below_alloc | apply pw_below_drewN | apply below_drew1) | exact HB.out))) HNn.out) (secs_take HS.out N)).mono ?_); rintro e Y1 ⟨rfl, hb⟩; rw [OP.out, OQ.out, OE.out]; have NHB_ := Aside0.mk (below_step (by repeat (first | (with_reducible first | exact HB.out | apply below_alloc | apply pw_below_drewN | apply below_drew1) | exact HB.out)) hb); have NHBf_ := Aside0.mk (below_step (by repeat (first | (with_reducible first | exact HBf.out | apply below_alloc | apply pw_below_drewN | apply below_drew1) | exact HBf.out)) hb); clear HB HBf; have HB := NHB_; have HBf := NHBf_; clear NHB_ NHBf_; clear hb) | ((with_reducible refine gate_store (t := 23) (p := 10) rfl ?_); go_must (rw [zlit]; obtain ⟨q0_, q1_, nb_⟩ := Wk.blks2 Y1 (Obj.cells (bys zeros) 23 (0, 0)) (Obj.cells (bys zeros) 23 (0, 0)); obtain ⟨Y11, hW_⟩ : ∃ W, W = ((Y1.alloc (Obj.cells (bys zeros) 23 (0, 0))).alloc (Obj.cells (bys zeros) 23 (0, 0))) := ⟨_, rfl⟩; rw [← hW_]; rw [← hW_] at q0_; rw [← hW_] at q1_; rw [← hW_] at nb_; have sz_ := below_size HB.out; have szf_ := below_size HBf.out; have hb2_ := Aside0.mk (below_step HB.out nb_); have hb2f_ := Aside0.mk (below_step HBf.out nb_); obtain ⟨g10, hgg10_⟩ : ∃ g, g = Y1.heap.size := ⟨_, rfl⟩; obtain ⟨g11, hgg11_⟩ : ∃ g, g = Y1.heap.size + 1 := ⟨_, rfl⟩; rw [← hgg11_]; rw [← hgg11_] at q1_; rw [← hgg10_]; rw [← hgg10_] at q0_; have hge_ : w.heap.size ≤ g10 := (by omega); have GEg10 := Aside0.mk hge_; clear hge_; have hge_ : wo.heap.size ≤ g10 := (by omega); have GEfg10 := Aside0.mk hge_; clear hge_; have hge_ : w.heap.size ≤ g11 := (by omega); have GEg11 := Aside0.mk hge_; clear hge_; have hge_ : wo.heap.size ≤ g11 := (by omega); have GEfg11 := Aside0.mk hge_; clear hge_; have Dg10g11 : g10 ≠ g11 := (by omega); have Dg11g10 : g11 ≠ g10 := (by omega); have BKg10 := Aside0.mk q0_; have BKg11 := Aside0.mk q1_; clear HB HBf; have HB := hb2_; have HBf := hb2f_; clear hb2_ hb2f_ sz_ szf_ hW_ nb_ hgg10_ hgg11_ q0_ q1_); ((with_reducible refine gate_store (t := 23) (p := 10) rfl ?_); go_must (refine store_event rfl rfl rfl (exec_put (cs' := bys P) T23.hi rfl rfl rfl (by show (bys P).size = 64; rw [bys_size]; exact SP.out.len) one_agg (by (with_reducible repeat (first | refine blk_drewN ?_ _ | refine blk_drew ?_ | refine blk_alloc ?_ _)); exact BKg10.out) (by rw [bys_size, zeros_length]; omega) (putc_all ((bys_size _).trans ((zeros_length).trans ((SP.out.len).symm.trans (bys_size _).symm))))) ?_); intro Y12 hW_; have NBKg10_ := Aside0.mk ((by rw [hW_]; exact setRow_blk (by (with_reducible repeat (first | refine blk_drewN ?_ _ | refine blk_drew ?_ | refine blk_alloc ?_ _)); exact BKg10.out) : Y12.heap[g10]? = some (Obj.cells (bys P) 23 (0, 0)))); have NBKg11_ := Aside0.mk ((by rw [hW_]; exact setRow_far (by (with_reducible repeat (first | refine blk_drewN ?_ _ | refine blk_drew ?_ | refine blk_alloc ?_ _)); exact BKg11.out) Dg11g10 : Y12.heap[g11]? = some (Obj.cells (bys zeros) 23 (0, 0)))); have NHB_ := Aside0.mk ((by rw [hW_]; exact setRow_below (by repeat (first | (with_reducible first | exact HB.out | apply below_alloc | apply pw_below_drewN | apply below_drew1) | exact HB.out)) GEg10.out : Below w.heap.size w Y12)); have NHBf_ := Aside0.mk ((by rw [hW_]; exact setRow_below (by repeat (first | (with_reducible first | exact HBf.out | apply below_alloc | apply pw_below_drewN | apply below_drew1) | exact HBf.out)) GEfg10.out : Below wo.heap.size wo Y12)); clear BKg10 BKg11 HB HBf; have BKg10 := NBKg10_; have BKg11 := NBKg11_; have HB := NHB_; have HBf := NHBf_; clear NBKg10_ NBKg11_ NHB_ NHBf_; clear hW_)) | ((with_reducible refine gate_store (t := 23) (p := 11) rfl ?_); go_must (refine store_event rfl rfl rfl (exec_put (cs' := bys Q) T23.hi rfl rfl rfl (by show (bys Q).size = 64; rw [bys_size]; exact SQ.out.len) one_agg (by (with_reducible repeat (first | refine blk_drewN ?_ _ | refine blk_drew ?_ | refine blk_alloc ?_ _)); exact BKg11.out) (by rw [bys_size, zeros_length]; omega) (putc_all ((bys_size _).trans ((zeros_length).trans ((SQ.out.len).symm.trans (bys_size _).symm))))) ?_); intro Y13 hW_; have NBKg10_ := Aside0.mk ((by rw [hW_]; exact setRow_far (by (with_reducible repeat (first | refine blk_drewN ?_ _ | refine blk_drew ?_ | refine blk_alloc ?_ _)); exact BKg10.out) Dg10g11 : Y13.heap[g10]? = some (Obj.cells (bys P) 23 (0, 0)))); have NBKg11_ := Aside0.mk ((by rw [hW_]; exact setRow_blk (by (with_reducible repeat (first | refine blk_drewN ?_ _ | refine blk_drew ?_ | refine blk_alloc ?_ _)); exact BKg11.out) : Y13.heap[g11]? = some (Obj.cells (bys Q) 23 (0, 0)))); have NHB_ := Aside0.mk ((by rw [hW_]; exact setRow_below (by repeat (first | (with_reducible first | exact HB.out | apply below_alloc | apply pw_below_drewN | apply below_drew1) | exact HB.out)) GEg11.out : Below w.heap.size w Y13)); have NHBf_ := Aside0.mk ((by rw [hW_]; exact setRow_below (by repeat (first | (with_reducible first | exact HBf.out | apply below_alloc | apply pw_below_drewN | apply below_drew1) | exact HBf.out)) GEfg11.out : Below wo.heap.size wo Y13)); clear BKg10 BKg11 HB HBf; have BKg10 := NBKg10_; have BKg11 := NBKg11_; have HB := NHB_; have HBf := NHBf_; clear NBKg10_ NBKg11_ NHB_ NHBf_; clear hW_) | (go_at_call 13; have tk_ := tok2; clear tk_ tok2; go_must (with_reducible refine (of_calls (some bd) N c2 (M.take N) _ (C_take (Kd.C_below hD (by repeat (first | (with_reducible first | exact HB.out | apply below_alloc | apply pw_below_drewN | apply below_drew1) | exact HB.out))) HNm.out) (secs_take HT.out N)).mono ?_); rintro e Y2 ⟨rfl, hb⟩; rw [OP2.out, OQ2.out, OE.out]; have NBKg10_ := Aside0.mk (blk_below (o := (Obj.cells (bys P) 23 (0, 0))) (by (with_reducible repeat (first | refine blk_drewN ?_ _ | refine blk_drew ?_ | refine blk_alloc ?_ _)); exact BKg10.out) hb); have NBKg11_ := Aside0.mk (blk_below (o := (Obj.cells (bys Q) 23 (0, 0))) (by (with_reducible repeat (first | refine blk_drewN ?_ _ | refine blk_drew ?_ | refine blk_alloc ?_ _)); exact BKg11.out) hb); have NHB_ := Aside0.mk (below_step (by repeat (first | (with_reducible first | exact HB.out | apply below_alloc | apply pw_below_drewN | apply below_drew1) | exact HB.out)) hb); have NHBf_ := Aside0.mk (below_step (by repeat (first | (with_reducible first | exact HBf.out | apply below_alloc | apply pw_below_drewN | apply below_drew1) | exact HBf.out)) hb); clear BKg10 BKg11 HB HBf; have BKg10 := NBKg10_; have BKg11 := NBKg11_; have HB := NHB_; have HBf := NHBf_; clear NBKg10_ NBKg11_ NHB_ NHBf_; clear hb) | ((with_reducible refine gate_store (t := 23) (p := 13) rfl ?_); go_must (rw [zlit]; obtain ⟨q0_, q1_, nb_⟩ := Wk.blks2 Y2 (Obj.cells (bys zeros) 23 (0, 0)) (Obj.cells (bys zeros) 23 (0, 0)); obtain ⟨Y21, hW_⟩ : ∃ W, W = ((Y2.alloc (Obj.cells (bys zeros) 23 (0, 0))).alloc (Obj.cells (bys zeros) 23 (0, 0))) := ⟨_, rfl⟩; rw [← hW_]; rw [← hW_] at q0_; rw [← hW_] at q1_; rw [← hW_] at nb_; have mg10_ := blk_below BKg10.out nb_; have mg11_ := blk_below BKg11.out nb_; have sz_ := below_size HB.out; have szf_ := below_size HBf.out; have ltg10_ := blk_lt BKg10.out; have ltg11_ := blk_lt BKg11.out; have hb2_ := Aside0.mk (below_step HB.out nb_); have hb2f_ := Aside0.mk (below_step HBf.out nb_); obtain ⟨g13, hgg13_⟩ : ∃ g, g = Y2.heap.size := ⟨_, rfl⟩; obtain ⟨g14, hgg14_⟩ : ∃ g, g = Y2.heap.size + 1 := ⟨_, rfl⟩; rw [← hgg14_]; rw [← hgg14_] at q1_; rw [← hgg13_]; rw [← hgg13_] at q0_; have hge_ : w.heap.size ≤ g13 := (by omega); have GEg13 := Aside0.mk hge_; clear hge_; have hge_ : wo.heap.size ≤ g13 := (by omega); have GEfg13 := Aside0.mk hge_; clear hge_; have Dg10g13 : g10 ≠ g13 := (by omega); have Dg13g10 : g13 ≠ g10 := (by omega); have Dg11g13 : g11 ≠ g13 := (by omega); have Dg13g11 : g13 ≠ g11 := (by omega); have hge_ : w.heap.size ≤ g14 := (by omega); have GEg14 := Aside0.mk hge_; clear hge_; have hge_ : wo.heap.size ≤ g14 := (by omega); have GEfg14 := Aside0.mk hge_; clear hge_; have Dg10g14 : g10 ≠ g14 := (by omega); have Dg14g10 : g14 ≠ g10 := (by omega); have Dg11g14 : g11 ≠ g14 := (by omega); have Dg14g11 : g14 ≠ g11 := (by omega); have Dg13g14 : g13 ≠ g14 := (by omega); have Dg14g13 : g14 ≠ g13 := (by omega); have BNg10 := Aside0.mk mg10_; clear BKg10; have BKg10 := BNg10; clear BNg10 ltg10_ mg10_; have BNg11 := Aside0.mk mg11_; clear BKg11; have BKg11 := BNg11; clear BNg11 ltg11_ mg11_; have BKg13 := Aside0.mk q0_; have BKg14 := Aside0.mk q1_; clear HB HBf; have HB := hb2_; have HBf := hb2f_; clear hb2_ hb2f_ sz_ szf_ hW_ nb_ hgg13_ hgg14_ q0_ q1_); ((with_reducible refine gate_store (t := 23) (p := 13) rfl ?_); go_must (refine store_event rfl rfl rfl (exec_put (cs' := bys P2) T23.hi rfl rfl rfl (by show (bys P2).size = 64; rw [bys_size]; exact SP2.out.len) one_agg (by (with_reducible repeat (first | refine blk_drewN ?_ _ | refine blk_drew ?_ | refine blk_alloc ?_ _)); exact BKg13.out) (by rw [bys_size, zeros_length]; omega) (putc_all ((bys_size _).trans ((zeros_length).trans ((SP2.out.len).symm.trans (bys_size _).symm))))) ?_); intro Y22 hW_; have NBKg10_ := Aside0.mk ((by rw [hW_]; exact setRow_far (by (with_reducible repeat (first | refine blk_drewN ?_ _ | refine blk_drew ?_ | refine blk_alloc ?_ _)); exact BKg10.out) Dg10g13 : Y22.heap[g10]? = some (Obj.cells (bys P) 23 (0, 0)))); have NBKg11_ := Aside0.mk ((by rw [hW_]; exact setRow_far (by (with_reducible repeat (first | refine blk_drewN ?_ _ | refine blk_drew ?_ | refine blk_alloc ?_ _)); exact BKg11.out) Dg11g13 : Y22.heap[g11]? = some (Obj.cells (bys Q) 23 (0, 0)))); have NBKg13_ := Aside0.mk ((by rw [hW_]; exact setRow_blk (by (with_reducible repeat (first | refine blk_drewN ?_ _ | refine blk_drew ?_ | refine blk_alloc ?_ _)); exact BKg13.out) : Y22.heap[g13]? = some (Obj.cells (bys P2) 23 (0, 0)))); have NBKg14_ := Aside0.mk ((by rw [hW_]; exact setRow_far (by (with_reducible repeat (first | refine blk_drewN ?_ _ | refine blk_drew ?_ | refine blk_alloc ?_ _)); exact BKg14.out) Dg14g13 : Y22.heap[g14]? = some (Obj.cells (bys zeros) 23 (0, 0)))); have NHB_ := Aside0.mk ((by rw [hW_]; exact setRow_below (by repeat (first | (with_reducible first | exact HB.out | apply below_alloc | apply pw_below_drewN | apply below_drew1) | exact HB.out)) GEg13.out : Below w.heap.size w Y22)); have NHBf_ := Aside0.mk ((by rw [hW_]; exact setRow_below (by repeat (first | (with_reducible first | exact HBf.out | apply below_alloc | apply pw_below_drewN | apply below_drew1) | exact HBf.out)) GEfg13.out : Below wo.heap.size wo Y22)); clear BKg10 BKg11 BKg13 BKg14 HB HBf; have BKg10 := NBKg10_; have BKg11 := NBKg11_; have BKg13 := NBKg13_; have BKg14 := NBKg14_; have HB := NHB_; have HBf := NHBf_; clear NBKg10_ NBKg11_ NBKg13_ NBKg14_ NHB_ NHBf_; clear hW_)) | ((with_reducible refine gate_store (t := 23) (p := 14) rfl ?_); go_must (refine store_event rfl rfl rfl (exec_put (cs' := bys Q2) T23.hi rfl rfl rfl (by show (bys Q2).size = 64; rw [bys_size]; exact SQ2.out.len) one_agg (by (with_reducible repeat (first | refine blk_drewN ?_ _ | refine blk_drew ?_ | refine blk_alloc ?_ _)); exact BKg14.out) (by rw [bys_size, zeros_length]; omega) (putc_all ((bys_size _).trans ((zeros_length).trans ((SQ2.out.len).symm.trans (bys_size _).symm))))) ?_); intro Y23 hW_; have NBKg10_ := Aside0.mk ((by rw [hW_]; exact setRow_far (by (with_reducible repeat (first | refine blk_drewN ?_ _ | refine blk_drew ?_ | refine blk_alloc ?_ _)); exact BKg10.out) Dg10g14 : Y23.heap[g10]? = some (Obj.cells (bys P) 23 (0, 0)))); have NBKg11_ := Aside0.mk ((by rw [hW_]; exact setRow_far (by (with_reducible repeat (first | refine blk_drewN ?_ _ | refine blk_drew ?_ | refine blk_alloc ?_ _)); exact BKg11.out) Dg11g14 : Y23.heap[g11]? = some (Obj.cells (bys Q) 23 (0, 0)))); have NBKg13_ := Aside0.mk ((by rw [hW_]; exact setRow_far (by (with_reducible repeat (first | refine blk_drewN ?_ _ | refine blk_drew ?_ | refine blk_alloc ?_ _)); exact BKg13.out) Dg13g14 : Y23.heap[g13]? = some (Obj.cells (bys P2) 23 (0, 0)))); have NBKg14_ := Aside0.mk ((by rw [hW_]; exact setRow_blk (by (with_reducible repeat (first | refine blk_drewN ?_ _ | refine blk_drew ?_ | refine blk_alloc ?_ _)); exact BKg14.out) : Y23.heap[g14]? = some (Obj.cells (bys Q2) 23 (0, 0)))); have NHB_ := Aside0.mk ((by rw [hW_]; exact setRow_below (by repeat (first | (with_reducible first | exact HB.out | apply below_alloc | apply pw_below_drewN | apply below_drew1) | exact HB.out)) GEg14.out : Below w.heap.size w Y23)); have NHBf_ := Aside0.mk ((by rw [hW_]; exact setRow_below (by repeat (first | (with_reducible first | exact HBf.out | apply below_alloc | apply pw_below_drewN | apply below_drew1) | exact HBf.out)) GEfg14.out : Below wo.heap.size wo Y23)); clear BKg10 BKg11 BKg13 BKg14 HB HBf; have BKg10 := NBKg10_; have BKg11 := NBKg11_; have BKg13 := NBKg13_; have BKg14 := NBKg14_; have HB := NHB_; have HBf := NHBf_; clear NBKg10_ NBKg11_ NBKg13_ NBKg14_ NHB_ NHBf_; clear hW_) | (go_at_call 13; have tk_ := tok3; clear tk_ tok3; go_must (with_reducible refine (of_calls A1 N c1 (sumL L M N) _ (Kd.C_below hC1 (by repeat (first | (with_reducible first | exact HBf.out | apply below_alloc | apply pw_below_drewN | apply below_drew1) | exact HBf.out))) HUS.out).mono ?_); rintro e Y3 ⟨rfl, hb⟩; rw [OP3.out, OQ3.out, OE.out]; have NBKg10_ := Aside0.mk (blk_below (o := (Obj.cells (bys P) 23 (0, 0))) (by (with_reducible repeat (first | refine blk_drewN ?_ _ | refine blk_drew ?_ | refine blk_alloc ?_ _)); exact BKg10.out) hb); have NBKg11_ := Aside0.mk (blk_below (o := (Obj.cells (bys Q) 23 (0, 0))) (by (with_reducible repeat (first | refine blk_drewN ?_ _ | refine blk_drew ?_ | refine blk_alloc ?_ _)); exact BKg11.out) hb); have NBKg13_ := Aside0.mk (blk_below (o := (Obj.cells (bys P2) 23 (0, 0))) (by (with_reducible repeat (first | refine blk_drewN ?_ _ | refine blk_drew ?_ | refine blk_alloc ?_ _)); exact BKg13.out) hb); have NBKg14_ := Aside0.mk (blk_below (o := (Obj.cells (bys Q2) 23 (0, 0))) (by (with_reducible repeat (first | refine blk_drewN ?_ _ | refine blk_drew ?_ | refine blk_alloc ?_ _)); exact BKg14.out) hb); have NHB_ := Aside0.mk (below_step (by repeat (first | (with_reducible first | exact HB.out | apply below_alloc | apply pw_below_drewN | apply below_drew1) | exact HB.out)) hb); have NHBf_ := Aside0.mk (below_step (by repeat (first | (with_reducible first | exact HBf.out | apply below_alloc | apply pw_below_drewN | apply below_drew1) | exact HBf.out)) hb); clear BKg10 BKg11 BKg13 BKg14 HB HBf; have BKg10 := NBKg10_; have BKg11 := NBKg11_; have BKg13 := NBKg13_; have BKg14 := NBKg14_; have HB := NHB_; have HBf := NHBf_; clear NBKg10_ NBKg11_ NBKg13_ NBKg14_ NHB_ NHBf_; clear hb) | ((with_reducible refine gate_store (t := 23) (p := 16) rfl ?_); go_must (rw [zlit]; obtain ⟨q0_, q1_, nb_⟩ := Wk.blks2 Y3 (Obj.cells (bys zeros) 23 (0, 0)) (Obj.cells (bys zeros) 23 (0, 0)); obtain ⟨Y31, hW_⟩ : ∃ W, W = ((Y3.alloc (Obj.cells (bys zeros) 23 (0, 0))).alloc (Obj.cells (bys zeros) 23 (0, 0))) := ⟨_, rfl⟩; rw [← hW_]; rw [← hW_] at q0_; rw [← hW_] at q1_; rw [← hW_] at nb_; have mg10_ := blk_below BKg10.out nb_; have mg11_ := blk_below BKg11.out nb_; have mg13_ := blk_below BKg13.out nb_; have mg14_ := blk_below BKg14.out nb_; have sz_ := below_size HB.out; have szf_ := below_size HBf.out; have ltg10_ := blk_lt BKg10.out; have ltg11_ := blk_lt BKg11.out; have ltg13_ := blk_lt BKg13.out; have ltg14_ := blk_lt BKg14.out; have hb2_ := Aside0.mk (below_step HB.out nb_); have hb2f_ := Aside0.mk (below_step HBf.out nb_); obtain ⟨g16, hgg16_⟩ : ∃ g, g = Y3.heap.size := ⟨_, rfl⟩; obtain ⟨g17, hgg17_⟩ : ∃ g, g = Y3.heap.size + 1 := ⟨_, rfl⟩; rw [← hgg17_]; rw [← hgg17_] at q1_; rw [← hgg16_]; rw [← hgg16_] at q0_; have hge_ : w.heap.size ≤ g16 := (by omega); have GEg16 := Aside0.mk hge_; clear hge_; have hge_ : wo.heap.size ≤ g16 := (by omega); have GEfg16 := Aside0.mk hge_; clear hge_; have Dg10g16 : g10 ≠ g16 := (by omega); have Dg16g10 : g16 ≠ g10 := (by omega); have Dg11g16 : g11 ≠ g16 := (by omega); have Dg16g11 : g16 ≠ g11 := (by omega); have Dg13g16 : g13 ≠ g16 := (by omega); have Dg16g13 : g16 ≠ g13 := (by omega); have Dg14g16 : g14 ≠ g16 := (by omega); have Dg16g14 : g16 ≠ g14 := (by omega); have hge_ : w.heap.size ≤ g17 := (by omega); have GEg17 := Aside0.mk hge_; clear hge_; have hge_ : wo.heap.size ≤ g17 := (by omega); have GEfg17 := Aside0.mk hge_; clear hge_; have Dg10g17 : g10 ≠ g17 := (by omega); have Dg17g10 : g17 ≠ g10 := (by omega); have Dg11g17 : g11 ≠ g17 := (by omega); have Dg17g11 : g17 ≠ g11 := (by omega); have Dg13g17 : g13 ≠ g17 := (by omega); have Dg17g13 : g17 ≠ g13 := (by omega); have Dg14g17 : g14 ≠ g17 := (by omega); have Dg17g14 : g17 ≠ g14 := (by omega); have Dg16g17 : g16 ≠ g17 := (by omega); have Dg17g16 : g17 ≠ g16 := (by omega); have BNg10 := Aside0.mk mg10_; clear BKg10; have BKg10 := BNg10; clear BNg10 ltg10_ mg10_; have BNg11 := Aside0.mk mg11_; clear BKg11; have BKg11 := BNg11; clear BNg11 ltg11_ mg11_; have BNg13 := Aside0.mk mg13_; clear BKg13; have BKg13 := BNg13; clear BNg13 ltg13_ mg13_; have BNg14 := Aside0.mk mg14_; clear BKg14; have BKg14 := BNg14; clear BNg14 ltg14_ mg14_; have BKg16 := Aside0.mk q0_; have BKg17 := Aside0.mk q1_; clear HB HBf; have HB := hb2_; have HBf := hb2f_; clear hb2_ hb2f_ sz_ szf_ hW_ nb_ hgg16_ hgg17_ q0_ q1_); ((with_reducible refine gate_store (t := 23) (p := 16) rfl ?_); go_must (refine store_event rfl rfl rfl (exec_put (cs' := bys P3) T23.hi rfl rfl rfl (by show (bys P3).size = 64; rw [bys_size]; exact SP3.out.len) one_agg (by (with_reducible repeat (first | refine blk_drewN ?_ _ | refine blk_drew ?_ | refine blk_alloc ?_ _)); exact BKg16.out) (by rw [bys_size, zeros_length]; omega) (putc_all ((bys_size _).trans ((zeros_length).trans ((SP3.out.len).symm.trans (bys_size _).symm))))) ?_); intro Y32 hW_; have NBKg10_ := Aside0.mk ((by rw [hW_]; exact setRow_far (by (with_reducible repeat (first | refine blk_drewN ?_ _ | refine blk_drew ?_ | refine blk_alloc ?_ _)); exact BKg10.out) Dg10g16 : Y32.heap[g10]? = some (Obj.cells (bys P) 23 (0, 0)))); have NBKg11_ := Aside0.mk ((by rw [hW_]; exact setRow_far (by (with_reducible repeat (first | refine blk_drewN ?_ _ | refine blk_drew ?_ | refine blk_alloc ?_ _)); exact BKg11.out) Dg11g16 : Y32.heap[g11]? = some (Obj.cells (bys Q) 23 (0, 0)))); have NBKg13_ := Aside0.mk ((by rw [hW_]; exact setRow_far (by (with_reducible repeat (first | refine blk_drewN ?_ _ | refine blk_drew ?_ | refine blk_alloc ?_ _)); exact BKg13.out) Dg13g16 : Y32.heap[g13]? = some (Obj.cells (bys P2) 23 (0, 0)))); have NBKg14_ := Aside0.mk ((by rw [hW_]; exact setRow_far (by (with_reducible repeat (first | refine blk_drewN ?_ _ | refine blk_drew ?_ | refine blk_alloc ?_ _)); exact BKg14.out) Dg14g16 : Y32.heap[g14]? = some (Obj.cells (bys Q2) 23 (0, 0)))); have NBKg16_ := Aside0.mk ((by rw [hW_]; exact setRow_blk (by (with_reducible repeat (first | refine blk_drewN ?_ _ | refine blk_drew ?_ | refine blk_alloc ?_ _)); exact BKg16.out) : Y32.heap[g16]? = some (Obj.cells (bys P3) 23 (0, 0)))); have NBKg17_ := Aside0.mk ((by rw [hW_]; exact setRow_far (by (with_reducible repeat (first | refine blk_drewN ?_ _ | refine blk_drew ?_ | refine blk_alloc ?_ _)); exact BKg17.out) Dg17g16 : Y32.heap[g17]? = some (Obj.cells (bys zeros) 23 (0, 0)))); have NHB_ := Aside0.mk ((by rw [hW_]; exact setRow_below (by repeat (first | (with_reducible first | exact HB.out | apply below_alloc | apply pw_below_drewN | apply below_drew1) | exact HB.out)) GEg16.out : Below w.heap.size w Y32)); have NHBf_ := Aside0.mk ((by rw [hW_]; exact setRow_below (by repeat (first | (with_reducible first | exact HBf.out | apply below_alloc | apply pw_below_drewN | apply below_drew1) | exact HBf.out)) GEfg16.out : Below wo.heap.size wo Y32)); clear BKg10 BKg11 BKg13 BKg14 BKg16 BKg17 HB HBf; have BKg10 := NBKg10_; have BKg11 := NBKg11_; have BKg13 := NBKg13_; have BKg14 := NBKg14_; have BKg16 := NBKg16_; have BKg17 := NBKg17_; have HB := NHB_; have HBf := NHBf_; clear NBKg10_ NBKg11_ NBKg13_ NBKg14_ NBKg16_ NBKg17_ NHB_ NHBf_; clear hW_)) | ((with_reducible refine gate_store (t := 23) (p := 17) rfl ?_); go_must (refine store_event rfl rfl rfl (exec_put (cs' := bys Q3) T23.hi rfl rfl rfl (by show (bys Q3).size = 64; rw [bys_size]; exact SQ3.out.len) one_agg (by (with_reducible repeat (first | refine blk_drewN ?_ _ | refine blk_drew ?_ | refine blk_alloc ?_ _)); exact BKg17.out) (by rw [bys_size, zeros_length]; omega) (putc_all ((bys_size _).trans ((zeros_length).trans ((SQ3.out.len).symm.trans (bys_size _).symm))))) ?_); intro Y33 hW_; have NBKg10_ := Aside0.mk ((by rw [hW_]; exact setRow_far (by (with_reducible repeat (first | refine blk_drewN ?_ _ | refine blk_drew ?_ | refine blk_alloc ?_ _)); exact BKg10.out) Dg10g17 : Y33.heap[g10]? = some (Obj.cells (bys P) 23 (0, 0)))); have NBKg11_ := Aside0.mk ((by rw [hW_]; exact setRow_far (by (with_reducible repeat (first | refine blk_drewN ?_ _ | refine blk_drew ?_ | refine blk_alloc ?_ _)); exact BKg11.out) Dg11g17 : Y33.heap[g11]? = some (Obj.cells (bys Q) 23 (0, 0)))); have NBKg13_ := Aside0.mk ((by rw [hW_]; exact setRow_far (by (with_reducible repeat (first | refine blk_drewN ?_ _ | refine blk_drew ?_ | refine blk_alloc ?_ _)); exact BKg13.out) Dg13g17 : Y33.heap[g13]? = some (Obj.cells (bys P2) 23 (0, 0)))); have NBKg14_ := Aside0.mk ((by rw [hW_]; exact setRow_far (by (with_reducible repeat (first | refine blk_drewN ?_ _ | refine blk_drew ?_ | refine blk_alloc ?_ _)); exact BKg14.out) Dg14g17 : Y33.heap[g14]? = some (Obj.cells (bys Q2) 23 (0, 0)))); have NBKg16_ := Aside0.mk ((by rw [hW_]; exact setRow_far (by (with_reducible repeat (first | refine blk_drewN ?_ _ | refine blk_drew ?_ | refine blk_alloc ?_ _)); exact BKg16.out) Dg16g17 : Y33.heap[g16]? = some (Obj.cells (bys P3) 23 (0, 0)))); have NBKg17_ := Aside0.mk ((by rw [hW_]; exact setRow_blk (by (with_reducible repeat (first | refine blk_drewN ?_ _ | refine blk_drew ?_ | refine blk_alloc ?_ _)); exact BKg17.out) : Y33.heap[g17]? = some (Obj.cells (bys Q3) 23 (0, 0)))); have NHB_ := Aside0.mk ((by rw [hW_]; exact setRow_below (by repeat (first | (with_reducible first | exact HB.out | apply below_alloc | apply pw_below_drewN | apply below_drew1) | exact HB.out)) GEg17.out : Below w.heap.size w Y33)); have NHBf_ := Aside0.mk ((by rw [hW_]; exact setRow_below (by repeat (first | (with_reducible first | exact HBf.out | apply below_alloc | apply pw_below_drewN | apply below_drew1) | exact HBf.out)) GEfg17.out : Below wo.heap.size wo Y33)); clear BKg10 BKg11 BKg13 BKg14 BKg16 BKg17 HB HBf; have BKg10 := NBKg10_; have BKg11 := NBKg11_; have BKg13 := NBKg13_; have BKg14 := NBKg14_; have BKg16 := NBKg16_; have BKg17 := NBKg17_; have HB := NHB_; have HBf := NHBf_; clear NBKg10_ NBKg11_ NBKg13_ NBKg14_ NBKg16_ NBKg17_ NHB_ NHBf_; clear hW_))
        clear HBf
        go_loopw [19] (fun i wr => ∃ k : Nat, k ≤ 64 ∧ i = .int .i64 k ∧ Aside0 (wr.heap[g10]? = some (.cells (bys P) 23 (0, 0))) ∧ Aside0 (wr.heap[g11]? = some (.cells (bys Q) 23 (0, 0))) ∧ Aside0 (wr.heap[g13]? = some (.cells (bys P2) 23 (0, 0))) ∧ Aside0 (wr.heap[g14]? = some (.cells (bys Q2) 23 (0, 0))) ∧ Aside0 (wr.heap[g16]? = some (.cells (bys P3) 23 (0, 0))) ∧ Aside0 (wr.heap[g17]? = some (.cells (bys Q3) 23 (0, 0))) ∧ Aside0 (Below w.heap.size w wr)) (fun i _ => 64 - (intOf i).toNat)
        case atStart => exact ⟨0, by omega, rfl, BKg10, BKg11, BKg13, BKg14, BKg16, BKg17, HB⟩
        case round =>
          clear BKg10 BKg11 BKg13 BKg14 BKg16 BKg17 HB
          obtain ⟨k, hk, rfl, BKg10, BKg11, BKg13, BKg14, BKg16, BKg17, HB⟩ := hrel
          by_cases hkt : k < 64
          · skip
            have h2 : decide ((k : Int) < 64) = true := by simp; omega
            have hk0 : (0 : Int) ≤ (k : Int) := by omega
            have hk9 : (k : Int) < 64 := by omega
            have HKT := Lib.hid hkt
            obtain ⟨xP, exP_⟩ : ∃ x, x = P.getD k 0 := ⟨_, rfl⟩
            have lP : xP < 256 := by rw [exP_]; exact SP.out.get k
            have EXP := Lib.hid exP_
            obtain ⟨xQ, exQ_⟩ : ∃ x, x = Q.getD k 0 := ⟨_, rfl⟩
            have lQ : xQ < 256 := by rw [exQ_]; exact SQ.out.get k
            have EXQ := Lib.hid exQ_
            obtain ⟨xP2, exP2_⟩ : ∃ x, x = P2.getD k 0 := ⟨_, rfl⟩
            have lP2 : xP2 < 256 := by rw [exP2_]; exact SP2.out.get k
            have EXP2 := Lib.hid exP2_
            obtain ⟨xQ2, exQ2_⟩ : ∃ x, x = Q2.getD k 0 := ⟨_, rfl⟩
            have lQ2 : xQ2 < 256 := by rw [exQ2_]; exact SQ2.out.get k
            have EXQ2 := Lib.hid exQ2_
            obtain ⟨xP3, exP3_⟩ : ∃ x, x = P3.getD k 0 := ⟨_, rfl⟩
            have lP3 : xP3 < 256 := by rw [exP3_]; exact SP3.out.get k
            have EXP3 := Lib.hid exP3_
            obtain ⟨xQ3, exQ3_⟩ : ∃ x, x = Q3.getD k 0 := ⟨_, rfl⟩
            have lQ3 : xQ3 < 256 := by rw [exQ3_]; exact SQ3.out.get k
            have EXQ3 := Lib.hid exQ3_
            have y1 := xor8 lP lP2
            have y2 := xor8 lQ lQ2
            have z1 := XP.out k hkt
            have z2 := XQ.out k hkt
            rw [← exP_, ← exP2_, ← exP3_] at z1
            rw [← exQ_, ← exQ2_, ← exQ3_] at z2
            rw [z1] at y1
            rw [z2] at y2
            clear z1 z2 exP_ lP exQ_ lQ exP2_ lP2 exQ2_ lQ2 exP3_ lP3 exQ3_ lQ3
            go_wp2_with fail
            have NBKg10_ := Aside0.mk (blk_drew BKg10.out)
            have NBKg11_ := Aside0.mk (blk_drew BKg11.out)
            have NBKg13_ := Aside0.mk (blk_drew BKg13.out)
            have NBKg14_ := Aside0.mk (blk_drew BKg14.out)
            have NBKg16_ := Aside0.mk (blk_drew BKg16.out)
            have NBKg17_ := Aside0.mk (blk_drew BKg17.out)
            have NHB_ := Aside0.mk (below_drew1 HB.out)
            clear BKg10 BKg11 BKg13 BKg14 BKg16 BKg17 HB
            have BKg10 := NBKg10_
            have BKg11 := NBKg11_
            have BKg13 := NBKg13_
            have BKg14 := NBKg14_
            have BKg16 := NBKg16_
            have BKg17 := NBKg17_
            have HB := NHB_
            clear NBKg10_ NBKg11_ NBKg13_ NBKg14_ NBKg16_ NBKg17_ NHB_
            refine start_ (n := 24) (S := fun w' => (w'.heap[g10]? = some (Obj.cells (bys P) 23 (0, 0))) ∧ (w'.heap[g11]? = some (Obj.cells (bys Q) 23 (0, 0))) ∧ (w'.heap[g13]? = some (Obj.cells (bys P2) 23 (0, 0))) ∧ (w'.heap[g14]? = some (Obj.cells (bys Q2) 23 (0, 0))) ∧ (w'.heap[g16]? = some (Obj.cells (bys P3) 23 (0, 0))) ∧ (w'.heap[g17]? = some (Obj.cells (bys Q3) 23 (0, 0)))) (ds := []) #[false, false, false, false, false, false, false, false, false, false, false, false, false, false, false, false, false, false, false, false, false, false, false, false] (by kernel_rfl) rfl rfl (⟨BKg10.out, BKg11.out, BKg13.out, BKg14.out, BKg16.out, BKg17.out⟩) (fun hHeld => ?_)
            generalize wr.drew = V0 at BKg10 BKg11 BKg13 BKg14 BKg16 BKg17 HB hHeld ⊢
            refine pure_ (i := 0) (N := some 96) (v := ?_) (a' := ?_) #[true, false, false, false, false, false, false, false, false, false, false, false, false, false, false, false, false, false, false, false, false, false, false, false] rfl rfl (by kernel_rfl) (fun _ _ _ h => h) (Or.inl ⟨by rfl, ?_⟩) ?_ ?_
            rotate_left
            · intro w'
              go_simp
              with_reducible rfl
            rotate_left
            · simp only [Act.put, List.setIfInBounds_toArray, List.set_cons_zero, List.set_cons_succ, i64_w, i32_w]
              rfl
            refine pure_ (i := 1) (N := some 97) (v := ?_) (a' := ?_) #[true, true, false, false, false, false, false, false, false, false, false, false, false, false, false, false, false, false, false, false, false, false, false, false] rfl rfl (by kernel_rfl) (fun _ _ _ h => h) (Or.inl ⟨by rfl, ?_⟩) ?_ ?_
            rotate_left
            · intro w'
              go_simp
              with_reducible rfl
            rotate_left
            · simp only [Act.put, List.setIfInBounds_toArray, List.set_cons_zero, List.set_cons_succ, i64_w, i32_w]
              rfl
            refine take_ (i := 2) (N := some 98) (v := .int .u8 (xP : Int)) (a' := ?_) #[true, true, true, false, false, false, false, false, false, false, false, false, false, false, false, false, false, false, false, false, false, false, false, false] rfl rfl (by kernel_rfl) (fun _ _ _ h => h) (Or.inl ⟨by rfl, ?_⟩) hHeld ?_ ?_
            · rintro w' ⟨k_g10, k_g11, k_g13, k_g14, k_g16, k_g17⟩
              exact exec_one (v := .int .u8 (xP : Int)) agg5 rfl rfl (by rw [EXP.out]; exact cell_bys k_g10 (by rw [SP.out.len]; exact HKT.out))
            rotate_left
            · simp only [Act.put, List.setIfInBounds_toArray, List.set_cons_zero, List.set_cons_succ, i64_w, i32_w]
              rfl
            refine pure_ (i := 3) (N := some 99) (v := ?_) (a' := ?_) #[true, true, true, true, false, false, false, false, false, false, false, false, false, false, false, false, false, false, false, false, false, false, false, false] rfl rfl (by kernel_rfl) (fun _ _ _ h => h) (Or.inl ⟨by rfl, ?_⟩) ?_ ?_
            rotate_left
            · intro w'
              go_simp
              with_reducible rfl
            rotate_left
            · simp only [Act.put, List.setIfInBounds_toArray, List.set_cons_zero, List.set_cons_succ, i64_w, i32_w]
              rfl
            refine pure_ (i := 4) (N := some 100) (v := ?_) (a' := ?_) #[true, true, true, true, true, false, false, false, false, false, false, false, false, false, false, false, false, false, false, false, false, false, false, false] rfl rfl (by kernel_rfl) (fun _ _ _ h => h) (Or.inl ⟨by rfl, ?_⟩) ?_ ?_
            rotate_left
            · intro w'
              go_simp
              with_reducible rfl
            rotate_left
            · simp only [Act.put, List.setIfInBounds_toArray, List.set_cons_zero, List.set_cons_succ, i64_w, i32_w]
              rfl
            refine take_ (i := 5) (N := some 101) (v := .int .u8 (xP2 : Int)) (a' := ?_) #[true, true, true, true, true, true, false, false, false, false, false, false, false, false, false, false, false, false, false, false, false, false, false, false] rfl rfl (by kernel_rfl) (fun _ _ _ h => h) (Or.inl ⟨by rfl, ?_⟩) hHeld ?_ ?_
            · rintro w' ⟨k_g10, k_g11, k_g13, k_g14, k_g16, k_g17⟩
              exact exec_one (v := .int .u8 (xP2 : Int)) agg5 rfl rfl (by rw [EXP2.out]; exact cell_bys k_g13 (by rw [SP2.out.len]; exact HKT.out))
            rotate_left
            · simp only [Act.put, List.setIfInBounds_toArray, List.set_cons_zero, List.set_cons_succ, i64_w, i32_w]
              rfl
            refine pure_ (i := 6) (N := some 102) (v := ?_) (a' := ?_) #[true, true, true, true, true, true, true, false, false, false, false, false, false, false, false, false, false, false, false, false, false, false, false, false] rfl rfl (by kernel_rfl) (fun _ _ _ h => h) (Or.inl ⟨by rfl, ?_⟩) ?_ ?_
            rotate_left
            · intro w'
              go_simp
              with_reducible rfl
            rotate_left
            · simp only [Act.put, List.setIfInBounds_toArray, List.set_cons_zero, List.set_cons_succ, i64_w, i32_w]
              rfl
            refine pure_ (i := 7) (N := some 103) (v := ?_) (a' := ?_) #[true, true, true, true, true, true, true, true, false, false, false, false, false, false, false, false, false, false, false, false, false, false, false, false] rfl rfl (by kernel_rfl) (fun _ _ _ h => h) (Or.inl ⟨by rfl, ?_⟩) ?_ ?_
            rotate_left
            · intro w'
              go_simp
              with_reducible rfl
            rotate_left
            · simp only [Act.put, List.setIfInBounds_toArray, List.set_cons_zero, List.set_cons_succ, i64_w, i32_w]
              rfl
            refine pure_ (i := 8) (N := some 104) (v := ?_) (a' := ?_) #[true, true, true, true, true, true, true, true, true, false, false, false, false, false, false, false, false, false, false, false, false, false, false, false] rfl rfl (by kernel_rfl) (fun _ _ _ h => h) (Or.inl ⟨by rfl, ?_⟩) ?_ ?_
            rotate_left
            · intro w'
              go_simp
              with_reducible rfl
            rotate_left
            · simp only [Act.put, List.setIfInBounds_toArray, List.set_cons_zero, List.set_cons_succ, i64_w, i32_w]
              rfl
            refine take_ (i := 9) (N := some 105) (v := .int .u8 (xP3 : Int)) (a' := ?_) #[true, true, true, true, true, true, true, true, true, true, false, false, false, false, false, false, false, false, false, false, false, false, false, false] rfl rfl (by kernel_rfl) (fun _ _ _ h => h) (Or.inl ⟨by rfl, ?_⟩) hHeld ?_ ?_
            · rintro w' ⟨k_g10, k_g11, k_g13, k_g14, k_g16, k_g17⟩
              exact exec_one (v := .int .u8 (xP3 : Int)) agg5 rfl rfl (by rw [EXP3.out]; exact cell_bys k_g16 (by rw [SP3.out.len]; exact HKT.out))
            rotate_left
            · simp only [Act.put, List.setIfInBounds_toArray, List.set_cons_zero, List.set_cons_succ, i64_w, i32_w]
              rfl
            refine pure_ (i := 10) (N := some 106) (v := ?_) (a' := ?_) #[true, true, true, true, true, true, true, true, true, true, true, false, false, false, false, false, false, false, false, false, false, false, false, false] rfl rfl (by kernel_rfl) (fun _ _ _ h => h) (Or.inl ⟨by rfl, ?_⟩) ?_ ?_
            rotate_left
            · intro w'
              go_simp
              with_reducible rfl
            rotate_left
            · simp only [Act.put, List.setIfInBounds_toArray, List.set_cons_zero, List.set_cons_succ, i64_w, i32_w]
              rfl
            refine pure_ (i := 11) (N := some 107) (v := ?_) (a' := ?_) #[true, true, true, true, true, true, true, true, true, true, true, true, false, false, false, false, false, false, false, false, false, false, false, false] rfl rfl (by kernel_rfl) (fun _ _ _ h => h) (Or.inl ⟨by rfl, ?_⟩) ?_ ?_
            rotate_left
            · intro w'
              go_simp
              with_reducible rfl
            rotate_left
            · simp only [Act.put, List.setIfInBounds_toArray, List.set_cons_zero, List.set_cons_succ, i64_w, i32_w]
              rfl
            refine pure_ (i := 12) (N := some 108) (v := ?_) (a' := ?_) #[true, true, true, true, true, true, true, true, true, true, true, true, true, false, false, false, false, false, false, false, false, false, false, false] rfl rfl (by kernel_rfl) (fun _ _ _ h => h) (Or.inl ⟨by rfl, ?_⟩) ?_ ?_
            rotate_left
            · intro w'
              go_simp
              with_reducible rfl
            rotate_left
            · simp only [Act.put, List.setIfInBounds_toArray, List.set_cons_zero, List.set_cons_succ, i64_w, i32_w]
              rfl
            refine pure_ (i := 13) (N := some 109) (v := ?_) (a' := ?_) #[true, true, true, true, true, true, true, true, true, true, true, true, true, true, false, false, false, false, false, false, false, false, false, false] rfl rfl (by kernel_rfl) (fun _ _ _ h => h) (Or.inl ⟨by rfl, ?_⟩) ?_ ?_
            rotate_left
            · intro w'
              go_simp
              with_reducible rfl
            rotate_left
            · simp only [Act.put, List.setIfInBounds_toArray, List.set_cons_zero, List.set_cons_succ, i64_w, i32_w]
              rfl
            refine take_ (i := 14) (N := some 110) (v := .int .u8 (xQ : Int)) (a' := ?_) #[true, true, true, true, true, true, true, true, true, true, true, true, true, true, true, false, false, false, false, false, false, false, false, false] rfl rfl (by kernel_rfl) (fun _ _ _ h => h) (Or.inl ⟨by rfl, ?_⟩) hHeld ?_ ?_
            · rintro w' ⟨k_g10, k_g11, k_g13, k_g14, k_g16, k_g17⟩
              exact exec_one (v := .int .u8 (xQ : Int)) agg5 rfl rfl (by rw [EXQ.out]; exact cell_bys k_g11 (by rw [SQ.out.len]; exact HKT.out))
            rotate_left
            · simp only [Act.put, List.setIfInBounds_toArray, List.set_cons_zero, List.set_cons_succ, i64_w, i32_w]
              rfl
            refine pure_ (i := 15) (N := some 111) (v := ?_) (a' := ?_) #[true, true, true, true, true, true, true, true, true, true, true, true, true, true, true, true, false, false, false, false, false, false, false, false] rfl rfl (by kernel_rfl) (fun _ _ _ h => h) (Or.inl ⟨by rfl, ?_⟩) ?_ ?_
            rotate_left
            · intro w'
              go_simp
              with_reducible rfl
            rotate_left
            · simp only [Act.put, List.setIfInBounds_toArray, List.set_cons_zero, List.set_cons_succ, i64_w, i32_w]
              rfl
            refine pure_ (i := 16) (N := some 112) (v := ?_) (a' := ?_) #[true, true, true, true, true, true, true, true, true, true, true, true, true, true, true, true, true, false, false, false, false, false, false, false] rfl rfl (by kernel_rfl) (fun _ _ _ h => h) (Or.inl ⟨by rfl, ?_⟩) ?_ ?_
            rotate_left
            · intro w'
              go_simp
              with_reducible rfl
            rotate_left
            · simp only [Act.put, List.setIfInBounds_toArray, List.set_cons_zero, List.set_cons_succ, i64_w, i32_w]
              rfl
            refine take_ (i := 17) (N := some 113) (v := .int .u8 (xQ2 : Int)) (a' := ?_) #[true, true, true, true, true, true, true, true, true, true, true, true, true, true, true, true, true, true, false, false, false, false, false, false] rfl rfl (by kernel_rfl) (fun _ _ _ h => h) (Or.inl ⟨by rfl, ?_⟩) hHeld ?_ ?_
            · rintro w' ⟨k_g10, k_g11, k_g13, k_g14, k_g16, k_g17⟩
              exact exec_one (v := .int .u8 (xQ2 : Int)) agg5 rfl rfl (by rw [EXQ2.out]; exact cell_bys k_g14 (by rw [SQ2.out.len]; exact HKT.out))
            rotate_left
            · simp only [Act.put, List.setIfInBounds_toArray, List.set_cons_zero, List.set_cons_succ, i64_w, i32_w]
              rfl
            refine pure_ (i := 18) (N := some 114) (v := ?_) (a' := ?_) #[true, true, true, true, true, true, true, true, true, true, true, true, true, true, true, true, true, true, true, false, false, false, false, false] rfl rfl (by kernel_rfl) (fun _ _ _ h => h) (Or.inl ⟨by rfl, ?_⟩) ?_ ?_
            rotate_left
            · intro w'
              go_simp
              with_reducible rfl
            rotate_left
            · simp only [Act.put, List.setIfInBounds_toArray, List.set_cons_zero, List.set_cons_succ, i64_w, i32_w]
              rfl
            refine pure_ (i := 19) (N := some 115) (v := ?_) (a' := ?_) #[true, true, true, true, true, true, true, true, true, true, true, true, true, true, true, true, true, true, true, true, false, false, false, false] rfl rfl (by kernel_rfl) (fun _ _ _ h => h) (Or.inl ⟨by rfl, ?_⟩) ?_ ?_
            rotate_left
            · intro w'
              go_simp
              with_reducible rfl
            rotate_left
            · simp only [Act.put, List.setIfInBounds_toArray, List.set_cons_zero, List.set_cons_succ, i64_w, i32_w]
              rfl
            refine pure_ (i := 20) (N := some 116) (v := ?_) (a' := ?_) #[true, true, true, true, true, true, true, true, true, true, true, true, true, true, true, true, true, true, true, true, true, false, false, false] rfl rfl (by kernel_rfl) (fun _ _ _ h => h) (Or.inl ⟨by rfl, ?_⟩) ?_ ?_
            rotate_left
            · intro w'
              go_simp
              with_reducible rfl
            rotate_left
            · simp only [Act.put, List.setIfInBounds_toArray, List.set_cons_zero, List.set_cons_succ, i64_w, i32_w]
              rfl
            refine take_ (i := 21) (N := some 117) (v := .int .u8 (xQ3 : Int)) (a' := ?_) #[true, true, true, true, true, true, true, true, true, true, true, true, true, true, true, true, true, true, true, true, true, true, false, false] rfl rfl (by kernel_rfl) (fun _ _ _ h => h) (Or.inl ⟨by rfl, ?_⟩) hHeld ?_ ?_
            · rintro w' ⟨k_g10, k_g11, k_g13, k_g14, k_g16, k_g17⟩
              exact exec_one (v := .int .u8 (xQ3 : Int)) agg5 rfl rfl (by rw [EXQ3.out]; exact cell_bys k_g17 (by rw [SQ3.out.len]; exact HKT.out))
            rotate_left
            · simp only [Act.put, List.setIfInBounds_toArray, List.set_cons_zero, List.set_cons_succ, i64_w, i32_w]
              rfl
            refine pure_ (i := 22) (N := some 118) (v := ?_) (a' := ?_) #[true, true, true, true, true, true, true, true, true, true, true, true, true, true, true, true, true, true, true, true, true, true, true, false] rfl rfl (by kernel_rfl) (fun _ _ _ h => h) (Or.inl ⟨by rfl, ?_⟩) ?_ ?_
            rotate_left
            · intro w'
              go_simp
              with_reducible rfl
            rotate_left
            · simp only [Act.put, List.setIfInBounds_toArray, List.set_cons_zero, List.set_cons_succ, i64_w, i32_w]
              rfl
            refine pure_ (i := 23) (N := some 119) (v := ?_) (a' := ?_) #[true, true, true, true, true, true, true, true, true, true, true, true, true, true, true, true, true, true, true, true, true, true, true, true] rfl rfl (by kernel_rfl) (fun _ _ _ h => h) (Or.inl ⟨by rfl, ?_⟩) ?_ ?_
            rotate_left
            · intro w'
              go_simp
              with_reducible rfl
            rotate_left
            · simp only [Act.put, List.setIfInBounds_toArray, List.set_cons_zero, List.set_cons_succ, i64_w, i32_w]
              rfl
            refine done_ (by kernel_rfl) ?_
            go_wp2
            go_roundw
            case rel => exact ⟨k + 1, by omega, by go_num, BKg10, BKg11, BKg13, BKg14, BKg16, BKg17, HB⟩
            case measure => simp [intOf] <;> omega
          · skip
            obtain rfl : k = 64 := by omega
            clear hkt hk 
            go_wp2_with (first | ((with_reducible refine gate_dst (N := 120) rfl ?_); go_must (refine Kd.event_run rfl (exec_row_all agg23 (by rw [bys_size, SP.out.len]; exact T23.hi) rfl rfl (by (with_reducible repeat (first | refine blk_drewN ?_ _ | refine blk_drew ?_ | refine blk_alloc ?_ _)); exact BKg10.out)) ?_)) | ((with_reducible refine gate_dst (N := 121) rfl ?_); go_must (refine Kd.event_run rfl (exec_row_all agg23 (by rw [bys_size, SQ.out.len]; exact T23.hi) rfl rfl (by (with_reducible repeat (first | refine blk_drewN ?_ _ | refine blk_drew ?_ | refine blk_alloc ?_ _)); exact BKg11.out)) ?_)) | ((with_reducible refine gate_dst (N := 122) rfl ?_); go_must (refine Kd.event_run rfl (exec_build25 rfl rfl (fillpq SP.out.len SQ.out.len)) ?_)) | ((with_reducible refine gate_store (t := 25) (p := 20) rfl ?_); go_must (rw [zlit25]; obtain ⟨q0_, nb_⟩ := Wk.blks1 wr (Obj.cells (bys (rowL zeros zeros zeros)) 25 (0, 0)); obtain ⟨U1, hW_⟩ : ∃ W, W = (wr.alloc (Obj.cells (bys (rowL zeros zeros zeros)) 25 (0, 0))) := ⟨_, rfl⟩; rw [← hW_]; rw [← hW_] at q0_; rw [← hW_] at nb_; have mg10_ := blk_below BKg10.out nb_; have mg11_ := blk_below BKg11.out nb_; have mg13_ := blk_below BKg13.out nb_; have mg14_ := blk_below BKg14.out nb_; have mg16_ := blk_below BKg16.out nb_; have mg17_ := blk_below BKg17.out nb_; have sz_ := below_size HB.out; have ltg10_ := blk_lt BKg10.out; have ltg11_ := blk_lt BKg11.out; have ltg13_ := blk_lt BKg13.out; have ltg14_ := blk_lt BKg14.out; have ltg16_ := blk_lt BKg16.out; have ltg17_ := blk_lt BKg17.out; have hb2_ := Aside0.mk (below_step HB.out nb_); obtain ⟨g20, hgg20_⟩ : ∃ g, g = wr.heap.size := ⟨_, rfl⟩; rw [← hgg20_]; rw [← hgg20_] at q0_; have hge_ : w.heap.size ≤ g20 := (by omega); have GEg20 := Aside0.mk hge_; clear hge_; have Dg10g20 : g10 ≠ g20 := (by omega); have Dg20g10 : g20 ≠ g10 := (by omega); have Dg11g20 : g11 ≠ g20 := (by omega); have Dg20g11 : g20 ≠ g11 := (by omega); have Dg13g20 : g13 ≠ g20 := (by omega); have Dg20g13 : g20 ≠ g13 := (by omega); have Dg14g20 : g14 ≠ g20 := (by omega); have Dg20g14 : g20 ≠ g14 := (by omega); have Dg16g20 : g16 ≠ g20 := (by omega); have Dg20g16 : g20 ≠ g16 := (by omega); have Dg17g20 : g17 ≠ g20 := (by omega); have Dg20g17 : g20 ≠ g17 := (by omega); have BNg10 := Aside0.mk mg10_; clear BKg10; have BKg10 := BNg10; clear BNg10 ltg10_ mg10_; have BNg11 := Aside0.mk mg11_; clear BKg11; have BKg11 := BNg11; clear BNg11 ltg11_ mg11_; have BNg13 := Aside0.mk mg13_; clear BKg13; have BKg13 := BNg13; clear BNg13 ltg13_ mg13_; have BNg14 := Aside0.mk mg14_; clear BKg14; have BKg14 := BNg14; clear BNg14 ltg14_ mg14_; have BNg16 := Aside0.mk mg16_; clear BKg16; have BKg16 := BNg16; clear BNg16 ltg16_ mg16_; have BNg17 := Aside0.mk mg17_; clear BKg17; have BKg17 := BNg17; clear BNg17 ltg17_ mg17_; have BKg20 := Aside0.mk q0_; clear HB; have HB := hb2_; clear hb2_ sz_ hW_ nb_ hgg20_ q0_); ((with_reducible refine gate_store (t := 25) (p := 20) rfl ?_); go_must (refine store_event rfl rfl rfl (exec_put (cs' := bys (rowL P Q zeros)) size25 rfl rfl rfl (by show (bys (rowL P Q zeros)).size = 192; rw [bys_size, (rowL_length SP.out.len SQ.out.len zeros_length)]) one_agg (by (with_reducible repeat (first | refine blk_drewN ?_ _ | refine blk_drew ?_ | refine blk_alloc ?_ _)); exact BKg20.out) (by rw [bys_size, (rowL_length zeros_length zeros_length zeros_length)]; decide) (putc_all ((bys_size _).trans (((rowL_length zeros_length zeros_length zeros_length)).trans (((rowL_length SP.out.len SQ.out.len zeros_length)).symm.trans (bys_size _).symm))))) ?_); intro U2 hW_; have NBKg10_ := Aside0.mk ((by rw [hW_]; exact setRow_far (by (with_reducible repeat (first | refine blk_drewN ?_ _ | refine blk_drew ?_ | refine blk_alloc ?_ _)); exact BKg10.out) Dg10g20 : U2.heap[g10]? = some (Obj.cells (bys P) 23 (0, 0)))); have NBKg11_ := Aside0.mk ((by rw [hW_]; exact setRow_far (by (with_reducible repeat (first | refine blk_drewN ?_ _ | refine blk_drew ?_ | refine blk_alloc ?_ _)); exact BKg11.out) Dg11g20 : U2.heap[g11]? = some (Obj.cells (bys Q) 23 (0, 0)))); have NBKg13_ := Aside0.mk ((by rw [hW_]; exact setRow_far (by (with_reducible repeat (first | refine blk_drewN ?_ _ | refine blk_drew ?_ | refine blk_alloc ?_ _)); exact BKg13.out) Dg13g20 : U2.heap[g13]? = some (Obj.cells (bys P2) 23 (0, 0)))); have NBKg14_ := Aside0.mk ((by rw [hW_]; exact setRow_far (by (with_reducible repeat (first | refine blk_drewN ?_ _ | refine blk_drew ?_ | refine blk_alloc ?_ _)); exact BKg14.out) Dg14g20 : U2.heap[g14]? = some (Obj.cells (bys Q2) 23 (0, 0)))); have NBKg16_ := Aside0.mk ((by rw [hW_]; exact setRow_far (by (with_reducible repeat (first | refine blk_drewN ?_ _ | refine blk_drew ?_ | refine blk_alloc ?_ _)); exact BKg16.out) Dg16g20 : U2.heap[g16]? = some (Obj.cells (bys P3) 23 (0, 0)))); have NBKg17_ := Aside0.mk ((by rw [hW_]; exact setRow_far (by (with_reducible repeat (first | refine blk_drewN ?_ _ | refine blk_drew ?_ | refine blk_alloc ?_ _)); exact BKg17.out) Dg17g20 : U2.heap[g17]? = some (Obj.cells (bys Q3) 23 (0, 0)))); have NBKg20_ := Aside0.mk ((by rw [hW_]; exact setRow_blk (by (with_reducible repeat (first | refine blk_drewN ?_ _ | refine blk_drew ?_ | refine blk_alloc ?_ _)); exact BKg20.out) : U2.heap[g20]? = some (Obj.cells (bys (rowL P Q zeros)) 25 (0, 0)))); have NHB_ := Aside0.mk ((by rw [hW_]; exact setRow_below (by repeat (first | (with_reducible first | exact HB.out | apply below_alloc | apply pw_below_drewN | apply below_drew1) | exact HB.out)) GEg20.out : Below w.heap.size w U2)); clear BKg10 BKg11 BKg13 BKg14 BKg16 BKg17 BKg20 HB; have BKg10 := NBKg10_; have BKg11 := NBKg11_; have BKg13 := NBKg13_; have BKg14 := NBKg14_; have BKg16 := NBKg16_; have BKg17 := NBKg17_; have BKg20 := NBKg20_; have HB := NHB_; clear NBKg10_ NBKg11_ NBKg13_ NBKg14_ NBKg16_ NBKg17_ NBKg20_ NHB_; clear hW_)))
            clear BKg10 GEg10
            clear BKg11 GEg11
            clear BKg16 GEg16
            clear BKg17 GEg17
            go_loopw [21] (fun i wr => ∃ (k : Nat) (o : List Nat), k ≤ N ∧ i = .int .i64 ((k : Int) - 1) ∧ Aside0 (Sec o) ∧ Aside0 (wr.heap[g20]? = some (.cells (bys (rowL (psum (mixed L M N k) N) (qsum (mixed L M N k) N) o)) 25 (0, 0))) ∧ Aside0 (wr.heap[g13]? = some (.cells (bys P2) 23 (0, 0))) ∧ Aside0 (wr.heap[g14]? = some (.cells (bys Q2) 23 (0, 0))) ∧ Aside0 (Below w.heap.size w wr)) (fun i _ => (intOf i + 1).toNat)
            case atStart => exact ⟨N, zeros, Nat.le_refl _, rfl, ⟨zeros_sec⟩, ⟨by rw [psum_first, qsum_first, ← EP.out, ← EQ.out]; exact BKg20.out⟩, BKg13, BKg14, HB⟩
            case round =>
              clear BKg20 BKg13 BKg14 HB
              obtain ⟨k, o, hk, rfl, SO, BKg20, BKg13, BKg14, HB⟩ := hrel
              by_cases hk0 : 0 < k
              · skip
                obtain ⟨j, rfl⟩ : ∃ j, k = j + 1 := ⟨k - 1, by omega⟩
                have hji : (((j + 1 : Nat) : Int) - 1) = (j : Int) := by omega
                rw [hji]
                clear hji
                have hge : decide ((0 : Int) ≤ (j : Int)) = true := by simp
                have h0 : (0 : Int) ≤ (j : Int) := by omega
                have hjn : (j : Int) < (n : Int) := by have := HNn.out; omega
                have hjm : (j : Int) < (m : Int) := by have := HNm.out; omega
                have hjw : wrap64 ((j : Int) - 1) = (j : Int) - 1 := by unfold wrap64; omega
                obtain ⟨d, ed_⟩ : ∃ d, d = L.getD j [] := ⟨_, rfl⟩
                obtain ⟨f, ef_⟩ : ∃ d, d = M.getD j [] := ⟨_, rfl⟩
                have sd : Sec d := by rw [ed_]; exact HS.out.at (by have := HL1.out; omega)
                have sf : Sec f := by rw [ef_]; exact HT.out.at (by have := HM1.out; omega)
                obtain ⟨Pk, ePk⟩ : ∃ x, x = psum (mixed L M N (j + 1)) N := ⟨_, rfl⟩
                obtain ⟨Qk, eQk⟩ : ∃ x, x = qsum (mixed L M N (j + 1)) N := ⟨_, rfl⟩
                obtain ⟨Pj, ePj⟩ : ∃ x, x = psum (mixed L M N j) N := ⟨_, rfl⟩
                obtain ⟨Qj, eQj⟩ : ∃ x, x = qsum (mixed L M N j) N := ⟨_, rfl⟩
                have hms := fun i => mixed_secs (i := i) HS.out HT.out HL1.out HM1.out
                have sPk : Sec Pk := by rw [ePk]; exact psum_sec (hms _) N (by rw [mixed_length]; omega)
                have sQk : Sec Qk := by rw [eQk]; exact qsum_sec (hms _) N (by rw [mixed_length]; omega)
                have sPj : Sec Pj := by rw [ePj]; exact psum_sec (hms _) N (by rw [mixed_length]; omega)
                have sQj : Sec Qj := by rw [eQj]; exact qsum_sec (hms _) N (by rw [mixed_length]; omega)
                have cP := psum_change HS.out HT.out HL1.out HM1.out (i := j) (by omega)
                have cQ := qsum_change HS.out HT.out HL1.out HM1.out (i := j) (by omega)
                rw [← ed_, ← ef_, ← ePk, ← ePj] at cP
                rw [← ed_, ← ef_, ← eQk, ← eQj] at cQ
                have i1 : ¬ (j : Int) < 0 := by omega
                have i2 : ¬ 62 ≤ (j : Int) := by have := HN2.out; omega
                have CP := Lib.hid (show chP Pk d f (j : Int) = Pj by rw [← cP]; simp only [chP, if_neg i1, if_neg i2])
                have CQ := Lib.hid (show chQ Qk d f (j : Int) = Qj by rw [← cQ]; simp only [chQ, if_neg i1, if_neg i2])
                have CO := Lib.hid (show chO f (j : Int) = f by simp only [chO, if_neg i1, if_neg i2])
                have CE := Lib.hid (show chE (j : Int) = 0 by simp only [chE, if_neg i1, if_neg i2])
                have N_ := Aside0.mk (show wr.heap[g20]? = some (.cells (bys (rowL Pk Qk o)) 25 (0, 0)) by rw [ePk, eQk]; exact BKg20.out)
                clear BKg20
                have BKg20 := N_
                clear N_
                have SPk := Lib.hid sPk
                have SQk := Lib.hid sQk
                have SPj := Lib.hid sPj
                have SQj := Lib.hid sQj
                have SD := Lib.hid sd
                have SF := Lib.hid sf
                have ED := Lib.hid ed_
                have EF := Lib.hid ef_
                have EPj := Lib.hid ePj
                have EQj := Lib.hid eQj
                have HJN := Lib.hid (show j < n by have := HNn.out; omega)
                have HJM := Lib.hid (show j < m by have := HNm.out; omega)
                have HJ1 := Lib.hid (show j ≤ N by omega)
                have LO := Lib.hid (rowL_length sPk.len sQk.len SO.out.len)
                have LD := Lib.hid (rowL_length sPk.len sQk.len sd.len)
                have LJ := Lib.hid (rowL_length sPj.len sQj.len sf.len)
                clear sPk sQk sPj sQj sd sf ed_ ef_ ePk eQk ePj eQj cP cQ i1 i2 hms hk hk0
                go_wp2_with (first | ((with_reducible refine gate_dst (N := 132) rfl ?_); go_must (refine Kd.event_run rfl (exec_sec (Kd.C_below hC (by repeat (first | (with_reducible first | exact HB.out | apply below_alloc | apply pw_below_drewN | apply below_drew1) | exact HB.out))) HJN.out ED.out rfl rfl) ?_)) | ((with_reducible refine gate_store (t := 23) (p := 133) rfl ?_); go_must (refine store_event rfl rfl rfl (exec_put (cs' := bys (rowL Pk Qk d)) T23.hi rfl rfl rfl (by show (bys d).size = 64; rw [bys_size]; exact SD.out.len) one_agg (by (with_reducible repeat (first | refine blk_drewN ?_ _ | refine blk_drew ?_ | refine blk_alloc ?_ _)); exact BKg20.out) (by rw [bys_size, LO.out]; decide) (put_o SPk.out.len SQk.out.len SO.out.len SD.out.len)) ?_); intro G1 hW_; have NBKg20_ := Aside0.mk ((by rw [hW_]; exact setRow_blk (by (with_reducible repeat (first | refine blk_drewN ?_ _ | refine blk_drew ?_ | refine blk_alloc ?_ _)); exact BKg20.out) : G1.heap[g20]? = some (Obj.cells (bys (rowL Pk Qk d)) 25 (0, 0)))); have NBKg13_ := Aside0.mk ((by rw [hW_]; exact setRow_far (by (with_reducible repeat (first | refine blk_drewN ?_ _ | refine blk_drew ?_ | refine blk_alloc ?_ _)); exact BKg13.out) Dg13g20 : G1.heap[g13]? = some (Obj.cells (bys P2) 23 (0, 0)))); have NBKg14_ := Aside0.mk ((by rw [hW_]; exact setRow_far (by (with_reducible repeat (first | refine blk_drewN ?_ _ | refine blk_drew ?_ | refine blk_alloc ?_ _)); exact BKg14.out) Dg14g20 : G1.heap[g14]? = some (Obj.cells (bys Q2) 23 (0, 0)))); have NHB_ := Aside0.mk ((by rw [hW_]; exact setRow_below (by repeat (first | (with_reducible first | exact HB.out | apply below_alloc | apply pw_below_drewN | apply below_drew1) | exact HB.out)) GEg20.out : Below w.heap.size w G1)); clear BKg20 BKg13 BKg14 HB; have BKg20 := NBKg20_; have BKg13 := NBKg13_; have BKg14 := NBKg14_; have HB := NHB_; clear NBKg20_ NBKg13_ NBKg14_ NHB_; clear hW_))
                have NBKg20_ := Aside0.mk (blk_drew BKg20.out)
                have NBKg13_ := Aside0.mk (blk_drew BKg13.out)
                have NBKg14_ := Aside0.mk (blk_drew BKg14.out)
                have NHB_ := Aside0.mk (below_drew1 HB.out)
                clear BKg20 BKg13 BKg14 HB
                have BKg20 := NBKg20_
                have BKg13 := NBKg13_
                have BKg14 := NBKg14_
                have HB := NHB_
                clear NBKg20_ NBKg13_ NBKg14_ NHB_
                refine start_ (n := 13) (S := fun w' => (w'.heap[g20]? = some (Obj.cells (bys (rowL Pk Qk d)) 25 (0, 0))) ∧ (Below w.heap.size w w')) (ds := [11]) #[false, false, false, false, false, false, false, false, false, false, false, false, false] (by kernel_rfl) rfl rfl (⟨BKg20.out, HB.out⟩) (fun hHeld => ?_)
                generalize G1.drew = V0 at BKg20 BKg13 BKg14 HB hHeld ⊢
                refine take_ (i := 0) (N := some 135) (v := .agg (bys (rowL Pk Qk d))) (a' := ?_) #[true, false, false, false, false, false, false, false, false, false, false, false, false] rfl rfl (by kernel_rfl) (fun _ _ _ h => h) (Or.inl ⟨by rfl, ?_⟩) hHeld ?_ ?_
                · rintro w' ⟨k_g20, kb_⟩
                  exact exec_row_all agg25 (by rw [bys_size, LD.out]; exact size25) rfl rfl k_g20
                rotate_left
                · simp only [Act.put, List.setIfInBounds_toArray, List.set_cons_zero, List.set_cons_succ, i64_w, i32_w]
                  rfl
                refine pure_ (i := 1) (N := some 136) (v := ?_) (a' := ?_) #[true, true, false, false, false, false, false, false, false, false, false, false, false] rfl rfl (by kernel_rfl) (fun _ _ _ h => h) (Or.inl ⟨by rfl, ?_⟩) ?_ ?_
                rotate_left
                · intro w'
                  go_simp
                  with_reducible rfl
                rotate_left
                · simp only [Act.put, List.setIfInBounds_toArray, List.set_cons_zero, List.set_cons_succ, i64_w, i32_w]
                  rfl
                refine pure_ (i := 2) (N := some 137) (v := ?_) (a' := ?_) #[true, true, true, false, false, false, false, false, false, false, false, false, false] rfl rfl (by kernel_rfl) (fun _ _ _ h => h) (Or.inl ⟨by rfl, ?_⟩) ?_ ?_
                rotate_left
                · intro w'
                  go_simp
                  with_reducible rfl
                rotate_left
                · simp only [Act.put, List.setIfInBounds_toArray, List.set_cons_zero, List.set_cons_succ, i64_w, i32_w]
                  rfl
                refine pure_ (i := 3) (N := some 138) (v := ?_) (a' := ?_) #[true, true, true, true, false, false, false, false, false, false, false, false, false] rfl rfl (by kernel_rfl) (fun _ _ _ h => h) (Or.inl ⟨by rfl, ?_⟩) ?_ ?_
                rotate_left
                · intro w'
                  go_simp
                  with_reducible rfl
                rotate_left
                · simp only [Act.put, List.setIfInBounds_toArray, List.set_cons_zero, List.set_cons_succ, i64_w, i32_w]
                  rfl
                refine pure_ (i := 4) (N := some 139) (v := ?_) (a' := ?_) #[true, true, true, true, true, false, false, false, false, false, false, false, false] rfl rfl (by kernel_rfl) (fun _ _ _ h => h) (Or.inl ⟨by rfl, ?_⟩) ?_ ?_
                rotate_left
                · intro w'
                  go_simp
                  with_reducible rfl
                rotate_left
                · simp only [Act.put, List.setIfInBounds_toArray, List.set_cons_zero, List.set_cons_succ, i64_w, i32_w]
                  rfl
                refine take_ (i := 5) (N := some 140) (v := .agg (bys f)) (a' := ?_) #[true, true, true, true, true, true, false, false, false, false, false, false, false] rfl rfl (by kernel_rfl) (fun _ _ _ h => h) (Or.inl ⟨by rfl, ?_⟩) hHeld ?_ ?_
                · rintro w' ⟨k_g20, kb_⟩
                  exact exec_sec (Kd.C_below hD kb_) HJM.out EF.out rfl rfl
                rotate_left
                · simp only [Act.put, List.setIfInBounds_toArray, List.set_cons_zero, List.set_cons_succ, i64_w, i32_w]
                  rfl
                refine join_ (σ := Nat) 2 #[true, true, true, true, true, true, true, true, true, true, true, false, false] (fun g_ => [(141, .tuple #[.agg (bys (rowL Pj Qj f)), .int .i64 0]), (134, .tuple #[.agg (bys (rowL Pj Qj f)), .int .i64 0]), (142, .agg (bys (rowL Pj Qj f))), (143, .int .i64 0), (22, .pointer (some ⟨g_, 0, none⟩))]) (fun g_ w' => (w'.heap[g_]? = some (Obj.cells (bys (rowL zeros zeros zeros)) 25 (0, 0))) ∧ (w.heap.size ≤ g_) ∧ (Below w.heap.size w w') ∧ (w'.heap[g20]? = some (Obj.cells (bys (rowL Pk Qk d)) 25 (0, 0))) ∧ (g20 ≠ g_) ∧ (w'.heap[g13]? = some (Obj.cells (bys P2) 23 (0, 0))) ∧ (g13 ≠ g_) ∧ (w'.heap[g14]? = some (Obj.cells (bys Q2) 23 (0, 0))) ∧ (g14 ≠ g_)) ?hcont ?hord
                case hord =>
                  intro hcont
                  refine two_ (i := 6) (j := 10) (Ni := some 141) (Nj := some 22) #[true, true, true, true, true, true, true, false, false, false, false, false, false] #[true, true, true, true, true, true, false, false, false, false, true, false, false] rfl rfl rfl rfl (by kernel_rfl) (by decide) (by decide) (fun K hK => ?_) (fun K hK => ?_)
                  · skip
                    refine goes_ Try.func10 (by kernel_rfl) rfl #[.agg (bys (rowL Pk Qk d)), .int .i64 (j : Int), .agg (bys f)] (by rfl) rfl rfl (by (try simp only [List.map_toArray, List.map_cons, List.map_nil]); first | done | rfl) ?_
                    with_reducible refine ((by have h_ := change_calls Pk Qk d (j : Int) f V0 SPk.out SQk.out SD.out SF.out; rw [CP.out, CQ.out, CO.out, CE.out] at h_; exact h_ : Calls Try.prog 10 #[.agg (bys (rowL Pk Qk d)), .int .i64 (j : Int), .agg (bys f)] V0 _)).mono ?_
                    rintro e WA_ ⟨rfl, hb⟩
                    refine ⟨_, rfl, ?_⟩
                    have NBKg20_ := Aside0.mk (blk_below BKg20.out hb)
                    have NBKg13_ := Aside0.mk (blk_below BKg13.out hb)
                    have NBKg14_ := Aside0.mk (blk_below BKg14.out hb)
                    have NHB_ := Aside0.mk (below_step HB.out hb)
                    clear BKg20 BKg13 BKg14 HB
                    have BKg20 := NBKg20_
                    have BKg13 := NBKg13_
                    have BKg14 := NBKg14_
                    have HB := NHB_
                    clear NBKg20_ NBKg13_ NBKg14_ NHB_
                    clear hb
                    refine hK.out _ _ (⟨BKg20.out, HB.out⟩) (fun hHeld => ?_)
                    clear hK K
                    refine norm_ (a' := ?_) ?_ ?_
                    rotate_left
                    · show Act.put _ (some 141) _ = _
                      simp only [Act.put, List.setIfInBounds_toArray, List.set_cons_zero, List.set_cons_succ, i64_w, i32_w]
                      rfl
                    refine pure_ (i := 7) (N := some 134) (v := ?_) (a' := ?_) #[true, true, true, true, true, true, true, true, false, false, false, false, false] rfl rfl (by kernel_rfl) (fun _ _ _ h => h) (Or.inl ⟨by rfl, ?_⟩) ?_ ?_
                    rotate_left
                    · intro w'
                      go_simp
                      with_reducible rfl
                    rotate_left
                    · simp only [Act.put, List.setIfInBounds_toArray, List.set_cons_zero, List.set_cons_succ, i64_w, i32_w]
                      rfl
                    refine pure_ (i := 8) (N := some 142) (v := ?_) (a' := ?_) #[true, true, true, true, true, true, true, true, true, false, false, false, false] rfl rfl (by kernel_rfl) (fun _ _ _ h => h) (Or.inl ⟨by rfl, ?_⟩) ?_ ?_
                    rotate_left
                    · intro w'
                      go_simp
                      with_reducible rfl
                    rotate_left
                    · simp only [Act.put, List.setIfInBounds_toArray, List.set_cons_zero, List.set_cons_succ, i64_w, i32_w]
                      rfl
                    refine pure_ (i := 9) (N := some 143) (v := ?_) (a' := ?_) #[true, true, true, true, true, true, true, true, true, true, false, false, false] rfl rfl (by kernel_rfl) (fun _ _ _ h => h) (Or.inl ⟨by rfl, ?_⟩) ?_ ?_
                    rotate_left
                    · intro w'
                      go_simp
                      with_reducible rfl
                    rotate_left
                    · simp only [Act.put, List.setIfInBounds_toArray, List.set_cons_zero, List.set_cons_succ, i64_w, i32_w]
                      rfl
                    refine one_ (i := 10) (N := some 22) #[true, true, true, true, true, true, true, true, true, true, true, false, false] rfl rfl (by kernel_rfl) (by decide) (fun K hK => ?_)
                    refine value_ (by rfl) rfl (alloc25 rfl) ?_
                    obtain ⟨q0_, nb_⟩ := Wk.blks1 WA_ (Obj.cells (bys (rowL zeros zeros zeros)) 25 (0, 0))
                    obtain ⟨WB_, hW_⟩ : ∃ W, W = (WA_.alloc (Obj.cells (bys (rowL zeros zeros zeros)) 25 (0, 0))) := ⟨_, rfl⟩
                    rw [← hW_]
                    rw [← hW_] at q0_
                    rw [← hW_] at nb_
                    have mg20_ := blk_below BKg20.out nb_
                    have mg13_ := blk_below BKg13.out nb_
                    have mg14_ := blk_below BKg14.out nb_
                    have sz_ := below_size HB.out
                    have ltg20_ := blk_lt BKg20.out
                    have ltg13_ := blk_lt BKg13.out
                    have ltg14_ := blk_lt BKg14.out
                    have hb2_ := Aside0.mk (below_step HB.out nb_)
                    obtain ⟨g22, hgg22_⟩ : ∃ g, g = WA_.heap.size := ⟨_, rfl⟩
                    rw [← hgg22_]
                    rw [← hgg22_] at q0_
                    have hge_ : w.heap.size ≤ g22 := (by omega)
                    have GEg22 := Aside0.mk hge_
                    clear hge_
                    have Dg20g22 : g20 ≠ g22 := (by omega)
                    have Dg22g20 : g22 ≠ g20 := (by omega)
                    have Dg13g22 : g13 ≠ g22 := (by omega)
                    have Dg22g13 : g22 ≠ g13 := (by omega)
                    have Dg14g22 : g14 ≠ g22 := (by omega)
                    have Dg22g14 : g22 ≠ g14 := (by omega)
                    have BNg20 := Aside0.mk mg20_
                    clear BKg20
                    have BKg20 := BNg20
                    clear BNg20 ltg20_ mg20_
                    have BNg13 := Aside0.mk mg13_
                    clear BKg13
                    have BKg13 := BNg13
                    clear BNg13 ltg13_ mg13_
                    have BNg14 := Aside0.mk mg14_
                    clear BKg14
                    have BKg14 := BNg14
                    clear BNg14 ltg14_ mg14_
                    have BKg22 := Aside0.mk q0_
                    clear HB
                    have HB := hb2_
                    clear hb2_ sz_ hW_ nb_ hgg22_ q0_
                    refine hK.out _ _ (⟨BKg20.out, HB.out⟩) (fun hHeld => ?_)
                    clear hK K
                    refine norm_ (a' := ?_) ?_ ?_
                    rotate_left
                    · show Act.put _ (some 22) _ = _
                      simp only [Act.put, List.setIfInBounds_toArray, List.set_cons_zero, List.set_cons_succ, i64_w, i32_w]
                      rfl
                    exact hcont g22 _ ⟨BKg22.out, GEg22.out, HB.out, BKg20.out, Dg20g22, BKg13.out, Dg13g22, BKg14.out, Dg14g22⟩
                  · skip
                    refine value_ (by rfl) rfl (alloc25 rfl) ?_
                    obtain ⟨q0_, nb_⟩ := Wk.blks1 V0 (Obj.cells (bys (rowL zeros zeros zeros)) 25 (0, 0))
                    obtain ⟨WB_, hW_⟩ : ∃ W, W = (V0.alloc (Obj.cells (bys (rowL zeros zeros zeros)) 25 (0, 0))) := ⟨_, rfl⟩
                    rw [← hW_]
                    rw [← hW_] at q0_
                    rw [← hW_] at nb_
                    have mg20_ := blk_below BKg20.out nb_
                    have mg13_ := blk_below BKg13.out nb_
                    have mg14_ := blk_below BKg14.out nb_
                    have sz_ := below_size HB.out
                    have ltg20_ := blk_lt BKg20.out
                    have ltg13_ := blk_lt BKg13.out
                    have ltg14_ := blk_lt BKg14.out
                    have hb2_ := Aside0.mk (below_step HB.out nb_)
                    obtain ⟨g22, hgg22_⟩ : ∃ g, g = V0.heap.size := ⟨_, rfl⟩
                    rw [← hgg22_]
                    rw [← hgg22_] at q0_
                    have hge_ : w.heap.size ≤ g22 := (by omega)
                    have GEg22 := Aside0.mk hge_
                    clear hge_
                    have Dg20g22 : g20 ≠ g22 := (by omega)
                    have Dg22g20 : g22 ≠ g20 := (by omega)
                    have Dg13g22 : g13 ≠ g22 := (by omega)
                    have Dg22g13 : g22 ≠ g13 := (by omega)
                    have Dg14g22 : g14 ≠ g22 := (by omega)
                    have Dg22g14 : g22 ≠ g14 := (by omega)
                    have BNg20 := Aside0.mk mg20_
                    clear BKg20
                    have BKg20 := BNg20
                    clear BNg20 ltg20_ mg20_
                    have BNg13 := Aside0.mk mg13_
                    clear BKg13
                    have BKg13 := BNg13
                    clear BNg13 ltg13_ mg13_
                    have BNg14 := Aside0.mk mg14_
                    clear BKg14
                    have BKg14 := BNg14
                    clear BNg14 ltg14_ mg14_
                    have BKg22 := Aside0.mk q0_
                    clear HB
                    have HB := hb2_
                    clear hb2_ sz_ hW_ nb_ hgg22_ q0_
                    refine hK.out _ _ (⟨BKg20.out, HB.out⟩) (fun hHeld => ?_)
                    clear hK K
                    refine norm_ (a' := ?_) ?_ ?_
                    rotate_left
                    · show Act.put _ (some 22) _ = _
                      simp only [Act.put, List.setIfInBounds_toArray, List.set_cons_zero, List.set_cons_succ, i64_w, i32_w]
                      rfl
                    refine one_ (i := 6) (N := some 141) #[true, true, true, true, true, true, true, false, false, false, true, false, false] rfl rfl (by kernel_rfl) (by decide) (fun K hK => ?_)
                    refine goes_ Try.func10 (by kernel_rfl) rfl #[.agg (bys (rowL Pk Qk d)), .int .i64 (j : Int), .agg (bys f)] (by rfl) rfl rfl (by (try simp only [List.map_toArray, List.map_cons, List.map_nil]); first | done | rfl) ?_
                    with_reducible refine ((by have h_ := change_calls Pk Qk d (j : Int) f WB_ SPk.out SQk.out SD.out SF.out; rw [CP.out, CQ.out, CO.out, CE.out] at h_; exact h_ : Calls Try.prog 10 #[.agg (bys (rowL Pk Qk d)), .int .i64 (j : Int), .agg (bys f)] WB_ _)).mono ?_
                    rintro e WA_ ⟨rfl, hb⟩
                    refine ⟨_, rfl, ?_⟩
                    have NBKg20_ := Aside0.mk (blk_below BKg20.out hb)
                    have NBKg13_ := Aside0.mk (blk_below BKg13.out hb)
                    have NBKg14_ := Aside0.mk (blk_below BKg14.out hb)
                    have NBKg22_ := Aside0.mk (blk_below BKg22.out hb)
                    have NHB_ := Aside0.mk (below_step HB.out hb)
                    clear BKg20 BKg13 BKg14 BKg22 HB
                    have BKg20 := NBKg20_
                    have BKg13 := NBKg13_
                    have BKg14 := NBKg14_
                    have BKg22 := NBKg22_
                    have HB := NHB_
                    clear NBKg20_ NBKg13_ NBKg14_ NBKg22_ NHB_
                    clear hb
                    refine hK.out _ _ (⟨BKg20.out, HB.out⟩) (fun hHeld => ?_)
                    clear hK K
                    refine norm_ (a' := ?_) ?_ ?_
                    rotate_left
                    · show Act.put _ (some 141) _ = _
                      simp only [Act.put, List.setIfInBounds_toArray, List.set_cons_zero, List.set_cons_succ, i64_w, i32_w]
                      rfl
                    refine pure_ (i := 7) (N := some 134) (v := ?_) (a' := ?_) #[true, true, true, true, true, true, true, true, false, false, true, false, false] rfl rfl (by kernel_rfl) (fun _ _ _ h => h) (Or.inl ⟨by rfl, ?_⟩) ?_ ?_
                    rotate_left
                    · intro w'
                      go_simp
                      with_reducible rfl
                    rotate_left
                    · simp only [Act.put, List.setIfInBounds_toArray, List.set_cons_zero, List.set_cons_succ, i64_w, i32_w]
                      rfl
                    refine pure_ (i := 8) (N := some 142) (v := ?_) (a' := ?_) #[true, true, true, true, true, true, true, true, true, false, true, false, false] rfl rfl (by kernel_rfl) (fun _ _ _ h => h) (Or.inl ⟨by rfl, ?_⟩) ?_ ?_
                    rotate_left
                    · intro w'
                      go_simp
                      with_reducible rfl
                    rotate_left
                    · simp only [Act.put, List.setIfInBounds_toArray, List.set_cons_zero, List.set_cons_succ, i64_w, i32_w]
                      rfl
                    refine pure_ (i := 9) (N := some 143) (v := ?_) (a' := ?_) #[true, true, true, true, true, true, true, true, true, true, true, false, false] rfl rfl (by kernel_rfl) (fun _ _ _ h => h) (Or.inl ⟨by rfl, ?_⟩) ?_ ?_
                    rotate_left
                    · intro w'
                      go_simp
                      with_reducible rfl
                    rotate_left
                    · simp only [Act.put, List.setIfInBounds_toArray, List.set_cons_zero, List.set_cons_succ, i64_w, i32_w]
                      rfl
                    exact hcont g22 _ ⟨BKg22.out, GEg22.out, HB.out, BKg20.out, Dg20g22, BKg13.out, Dg13g22, BKg14.out, Dg14g22⟩
                intro g22 V5 hF_
                obtain ⟨BK_, ge_, hb_, bkg20_, dg20_, bkg13_, dg13_, bkg14_, dg14_⟩ := hF_
                clear BKg20
                have BKg20 := Aside0.mk bkg20_
                clear bkg20_
                have Dg20g22 := dg20_
                have Dg22g20 : g22 ≠ g20 := fun e_ => Dg20g22 e_.symm
                clear dg20_
                clear BKg13
                have BKg13 := Aside0.mk bkg13_
                clear bkg13_
                have Dg13g22 := dg13_
                have Dg22g13 : g22 ≠ g13 := fun e_ => Dg13g22 e_.symm
                clear dg13_
                clear BKg14
                have BKg14 := Aside0.mk bkg14_
                clear bkg14_
                have Dg14g22 := dg14_
                have Dg22g14 : g22 ≠ g14 := fun e_ => Dg14g22 e_.symm
                clear dg14_
                clear HB
                have HB := Aside0.mk hb_
                have GEg22 := Aside0.mk ge_
                clear hb_ ge_
                have BKg22 := Aside0.mk BK_
                clear BK_
                refine norm_ (a' := ?_) ?_ ?_
                rotate_left
                · simp only [putAll, Act.put, List.setIfInBounds_toArray, List.set_cons_zero, List.set_cons_succ, i64_w, i32_w]
                  rfl
                refine last_ (i := 11) (N := none) #[true, true, true, true, true, true, true, true, true, true, true, true, false] rfl rfl (by kernel_rfl) (by decide) (fun K hK => ?_)
                refine skip_ (by rfl) rfl (exec_put (cs' := bys (rowL Pj Qj f)) size25 rfl rfl rfl (by show (bys (rowL Pj Qj f)).size = 192; rw [bys_size, LJ.out]) one_agg BKg22.out (by rw [bys_size, (rowL_length zeros_length zeros_length zeros_length)]; decide) (putc_all ((bys_size _).trans (((rowL_length zeros_length zeros_length zeros_length)).trans ((LJ.out).symm.trans (bys_size _).symm))))) ?_
                obtain ⟨V6, hW_⟩ : ∃ W, W = V5.setRow g22 (bys (rowL Pj Qj f)) := ⟨_, rfl⟩
                rw [← hW_]
                have NBKg20_ := Aside0.mk ((by rw [hW_]; exact setRow_far BKg20.out Dg20g22 : V6.heap[g20]? = some (Obj.cells (bys (rowL Pk Qk d)) 25 (0, 0))))
                have NBKg13_ := Aside0.mk ((by rw [hW_]; exact setRow_far BKg13.out Dg13g22 : V6.heap[g13]? = some (Obj.cells (bys P2) 23 (0, 0))))
                have NBKg14_ := Aside0.mk ((by rw [hW_]; exact setRow_far BKg14.out Dg14g22 : V6.heap[g14]? = some (Obj.cells (bys Q2) 23 (0, 0))))
                have NBKg22_ := Aside0.mk ((by rw [hW_]; exact setRow_blk BKg22.out : V6.heap[g22]? = some (Obj.cells (bys (rowL Pj Qj f)) 25 (0, 0))))
                have NHB_ := Aside0.mk ((by rw [hW_]; exact setRow_below (HB.out) GEg22.out : Below w.heap.size w V6))
                clear BKg20 BKg13 BKg14 BKg22 HB
                have BKg20 := NBKg20_
                have BKg13 := NBKg13_
                have BKg14 := NBKg14_
                have BKg22 := NBKg22_
                have HB := NHB_
                clear NBKg20_ NBKg13_ NBKg14_ NBKg22_ NHB_
                clear hW_
                refine hK.out _ _ ?_
                clear hK K
                refine pure_ (i := 12) (N := some 23) (v := ?_) (a' := ?_) #[true, true, true, true, true, true, true, true, true, true, true, true, true] rfl rfl (by kernel_rfl) (fun _ _ _ h => h) (Or.inl ⟨by rfl, ?_⟩) ?_ ?_
                rotate_left
                · intro w'
                  go_simp
                  with_reducible rfl
                rotate_left
                · simp only [Act.put, List.setIfInBounds_toArray, List.set_cons_zero, List.set_cons_succ, i64_w, i32_w]
                  rfl
                refine done_ (by kernel_rfl) ?_
                go_wp2_with fail
                have NBKg20_ := Aside0.mk (blk_drew BKg20.out)
                have NBKg13_ := Aside0.mk (blk_drew BKg13.out)
                have NBKg14_ := Aside0.mk (blk_drew BKg14.out)
                have NBKg22_ := Aside0.mk (blk_drew BKg22.out)
                have NHB_ := Aside0.mk (below_drew1 HB.out)
                clear BKg20 BKg13 BKg14 BKg22 HB
                have BKg20 := NBKg20_
                have BKg13 := NBKg13_
                have BKg14 := NBKg14_
                have BKg22 := NBKg22_
                have HB := NHB_
                clear NBKg20_ NBKg13_ NBKg14_ NBKg22_ NHB_
                refine start_ (n := 11) (S := fun w' => (w'.heap[g22]? = some (Obj.cells (bys (rowL Pj Qj f)) 25 (0, 0))) ∧ (Below w.heap.size w w')) (ds := []) #[false, false, false, false, false, false, false, false, false, false, false] (by kernel_rfl) rfl rfl (⟨BKg22.out, HB.out⟩) (fun hHeld => ?_)
                generalize V6.drew = V7 at BKg20 BKg13 BKg14 BKg22 HB hHeld ⊢
                refine pure_ (i := 0) (N := some 144) (v := ?_) (a' := ?_) #[true, false, false, false, false, false, false, false, false, false, false] rfl rfl (by kernel_rfl) (fun _ _ _ h => h) (Or.inl ⟨by rfl, ?_⟩) ?_ ?_
                rotate_left
                · intro w'
                  go_simp
                  with_reducible rfl
                rotate_left
                · simp only [Act.put, List.setIfInBounds_toArray, List.set_cons_zero, List.set_cons_succ, i64_w, i32_w]
                  rfl
                refine pure_ (i := 1) (N := some 145) (v := ?_) (a' := ?_) #[true, true, false, false, false, false, false, false, false, false, false] rfl rfl (by kernel_rfl) (fun _ _ _ h => h) (Or.inl ⟨by rfl, ?_⟩) ?_ ?_
                rotate_left
                · intro w'
                  go_simp
                  with_reducible rfl
                rotate_left
                · simp only [Act.put, List.setIfInBounds_toArray, List.set_cons_zero, List.set_cons_succ, i64_w, i32_w]
                  rfl
                refine pure_ (i := 2) (N := some 146) (v := ?_) (a' := ?_) #[true, true, true, false, false, false, false, false, false, false, false] rfl rfl (by kernel_rfl) (fun _ _ _ h => h) (Or.inl ⟨by rfl, ?_⟩) ?_ ?_
                rotate_left
                · intro w'
                  go_simp
                  with_reducible rfl
                rotate_left
                · simp only [Act.put, List.setIfInBounds_toArray, List.set_cons_zero, List.set_cons_succ, i64_w, i32_w]
                  rfl
                refine pure_ (i := 3) (N := some 147) (v := ?_) (a' := ?_) #[true, true, true, true, false, false, false, false, false, false, false] rfl rfl (by kernel_rfl) (fun _ _ _ h => h) (Or.inl ⟨by rfl, ?_⟩) ?_ ?_
                rotate_left
                · intro w'
                  go_simp
                  with_reducible rfl
                rotate_left
                · simp only [Act.put, List.setIfInBounds_toArray, List.set_cons_zero, List.set_cons_succ, i64_w, i32_w]
                  rfl
                refine take_ (i := 4) (N := some 148) (v := .agg (bys f)) (a' := ?_) #[true, true, true, true, true, false, false, false, false, false, false] rfl rfl (by kernel_rfl) (fun _ _ _ h => h) (Or.inl ⟨by rfl, ?_⟩) hHeld ?_ ?_
                · rintro w' ⟨k_g22, kb_⟩
                  exact exec_row_at agg23 T23.hi rfl rfl k_g22 (by rw [bys_size, LJ.out]; decide) (row_o SPj.out.len SQj.out.len SF.out.len)
                rotate_left
                · simp only [Act.put, List.setIfInBounds_toArray, List.set_cons_zero, List.set_cons_succ, i64_w, i32_w]
                  rfl
                refine pure_ (i := 5) (N := some 149) (v := ?_) (a' := ?_) #[true, true, true, true, true, true, false, false, false, false, false] rfl rfl (by kernel_rfl) (fun _ _ _ h => h) (Or.inl ⟨by rfl, ?_⟩) ?_ ?_
                rotate_left
                · intro w'
                  go_simp
                  with_reducible rfl
                rotate_left
                · simp only [Act.put, List.setIfInBounds_toArray, List.set_cons_zero, List.set_cons_succ, i64_w, i32_w]
                  rfl
                refine pure_ (i := 6) (N := some 150) (v := ?_) (a' := ?_) #[true, true, true, true, true, true, true, false, false, false, false] rfl rfl (by kernel_rfl) (fun _ _ _ h => h) (Or.inl ⟨by rfl, ?_⟩) ?_ ?_
                rotate_left
                · intro w'
                  go_simp
                  with_reducible rfl
                rotate_left
                · simp only [Act.put, List.setIfInBounds_toArray, List.set_cons_zero, List.set_cons_succ, i64_w, i32_w]
                  rfl
                refine pure_ (i := 7) (N := some 151) (v := ?_) (a' := ?_) #[true, true, true, true, true, true, true, true, false, false, false] rfl rfl (by kernel_rfl) (fun _ _ _ h => h) (Or.inl ⟨by rfl, ?_⟩) ?_ ?_
                rotate_left
                · intro w'
                  go_simp
                  with_reducible rfl
                rotate_left
                · simp only [Act.put, List.setIfInBounds_toArray, List.set_cons_zero, List.set_cons_succ, i64_w, i32_w]
                  rfl
                refine take_ (i := 8) (N := some 152) (v := .agg (bys f)) (a' := ?_) #[true, true, true, true, true, true, true, true, true, false, false] rfl rfl (by kernel_rfl) (fun _ _ _ h => h) (Or.inl ⟨by rfl, ?_⟩) hHeld ?_ ?_
                · rintro w' ⟨k_g22, kb_⟩
                  exact exec_sec (Kd.C_below hD kb_) HJM.out EF.out rfl rfl
                rotate_left
                · simp only [Act.put, List.setIfInBounds_toArray, List.set_cons_zero, List.set_cons_succ, i64_w, i32_w]
                  rfl
                refine pure_ (i := 9) (N := some 153) (v := .bool false) (a' := ?_) #[true, true, true, true, true, true, true, true, true, true, false] rfl rfl (by kernel_rfl) (fun _ _ _ h => h) (Or.inl ⟨by rfl, ?_⟩) ?_ ?_
                · intro w'
                  exact exec_ne23 rfl rfl rfl SF.out.len SF.out.len (by rw [decide_eq_true rfl]; rfl)
                rotate_left
                · simp only [Act.put, List.setIfInBounds_toArray, List.set_cons_zero, List.set_cons_succ, i64_w, i32_w]
                  rfl
                refine pure_ (i := 10) (N := some 154) (v := ?_) (a' := ?_) #[true, true, true, true, true, true, true, true, true, true, true] rfl rfl (by kernel_rfl) (fun _ _ _ h => h) (Or.inl ⟨by rfl, ?_⟩) ?_ ?_
                rotate_left
                · intro w'
                  go_simp
                  with_reducible rfl
                rotate_left
                · simp only [Act.put, List.setIfInBounds_toArray, List.set_cons_zero, List.set_cons_succ, i64_w, i32_w]
                  rfl
                refine done_ (by kernel_rfl) ?_
                go_wp2_with (first | ((with_reducible refine gate_dst (N := 155) rfl ?_); go_must (refine Kd.event_run rfl (exec_row_all agg25 (by rw [bys_size, LJ.out]; exact size25) rfl rfl (by (with_reducible repeat (first | refine blk_drewN ?_ _ | refine blk_drew ?_ | refine blk_alloc ?_ _)); exact BKg22.out)) ?_)) | ((with_reducible refine gate_store (t := 25) (p := 20) rfl ?_); go_must (refine store_event rfl rfl rfl (exec_put (cs' := bys (rowL Pj Qj f)) size25 rfl rfl rfl (by show (bys (rowL Pj Qj f)).size = 192; rw [bys_size, LJ.out]) one_agg (by (with_reducible repeat (first | refine blk_drewN ?_ _ | refine blk_drew ?_ | refine blk_alloc ?_ _)); exact BKg20.out) (by rw [bys_size, LD.out]; decide) (putc_all ((bys_size _).trans ((LD.out).trans ((LJ.out).symm.trans (bys_size _).symm))))) ?_); intro V8 hW_; have NBKg20_ := Aside0.mk ((by rw [hW_]; exact setRow_blk (by (with_reducible repeat (first | refine blk_drewN ?_ _ | refine blk_drew ?_ | refine blk_alloc ?_ _)); exact BKg20.out) : V8.heap[g20]? = some (Obj.cells (bys (rowL Pj Qj f)) 25 (0, 0)))); have NBKg13_ := Aside0.mk ((by rw [hW_]; exact setRow_far (by (with_reducible repeat (first | refine blk_drewN ?_ _ | refine blk_drew ?_ | refine blk_alloc ?_ _)); exact BKg13.out) Dg13g20 : V8.heap[g13]? = some (Obj.cells (bys P2) 23 (0, 0)))); have NBKg14_ := Aside0.mk ((by rw [hW_]; exact setRow_far (by (with_reducible repeat (first | refine blk_drewN ?_ _ | refine blk_drew ?_ | refine blk_alloc ?_ _)); exact BKg14.out) Dg14g20 : V8.heap[g14]? = some (Obj.cells (bys Q2) 23 (0, 0)))); have NBKg22_ := Aside0.mk ((by rw [hW_]; exact setRow_far (by (with_reducible repeat (first | refine blk_drewN ?_ _ | refine blk_drew ?_ | refine blk_alloc ?_ _)); exact BKg22.out) Dg22g20 : V8.heap[g22]? = some (Obj.cells (bys (rowL Pj Qj f)) 25 (0, 0)))); have NHB_ := Aside0.mk ((by rw [hW_]; exact setRow_below (by repeat (first | (with_reducible first | exact HB.out | apply below_alloc | apply pw_below_drewN | apply below_drew1) | exact HB.out)) GEg20.out : Below w.heap.size w V8)); clear BKg20 BKg13 BKg14 BKg22 HB; have BKg20 := NBKg20_; have BKg13 := NBKg13_; have BKg14 := NBKg14_; have BKg22 := NBKg22_; have HB := NHB_; clear NBKg20_ NBKg13_ NBKg14_ NBKg22_ NHB_; clear hW_))
                go_roundw
                case rel => exact ⟨j, f, HJ1.out, rfl, ⟨SF.out⟩, ⟨by rw [← EPj.out, ← EQj.out]; exact BKg20.out⟩, BKg13, BKg14, HB⟩
                case measure => first | (show ((j : Int) - 1 + 1).toNat < ((j : Int) + 1).toNat; omega) | (show ((j : Int) - 1 + 1).toNat < ((((j + 1 : Nat) : Int) - 1) + 1).toNat; omega)
              · skip
                obtain rfl : k = 0 := by omega
                clear hk hk0
                have N_ := Aside0.mk (show wr.heap[g20]? = some (.cells (bys (rowL P2 Q2 o)) 25 (0, 0)) by
                  have h := BKg20.out
                  rw [psum_last, qsum_last, ← EP2.out, ← EQ2.out] at h
                  exact h)
                clear BKg20
                have BKg20 := N_
                clear N_
                have LO := Lib.hid (rowL_length SP2.out.len SQ2.out.len SO.out.len)
                have hji : (((0 : Nat) : Int) - 1) = -1 := by omega
                rw [hji]
                clear hji
                go_wp2_with (first | ((with_reducible refine gate_dst (N := 157) rfl ?_); go_must (refine Kd.event_run rfl (exec_row_at agg23 T23.hi rfl rfl (by (with_reducible repeat (first | refine blk_drewN ?_ _ | refine blk_drew ?_ | refine blk_alloc ?_ _)); exact BKg20.out) (by rw [bys_size, LO.out]; decide) (row_p SP2.out.len)) ?_)) | ((with_reducible refine gate_dst (N := 158) rfl ?_); go_must (refine Kd.event_run rfl (exec_row_all agg23 (by rw [bys_size, SP2.out.len]; exact T23.hi) rfl rfl (by (with_reducible repeat (first | refine blk_drewN ?_ _ | refine blk_drew ?_ | refine blk_alloc ?_ _)); exact BKg13.out)) ?_)) | ((with_reducible refine gate_dst (N := 159) rfl ?_); go_must (refine Kd.event_run rfl (exec_eq23 rfl rfl rfl SP2.out.len SP2.out.len (decide_eq_true rfl)) ?_)) | ((with_reducible refine gate_dst (N := 162) rfl ?_); go_must (refine event_run_g (by rfl) (exec_row_at agg23 T23.hi rfl rfl (by (with_reducible repeat (first | refine blk_drewN ?_ _ | refine blk_drew ?_ | refine blk_alloc ?_ _)); exact BKg20.out) (by rw [bys_size, LO.out]; decide) (row_q SP2.out.len SQ2.out.len)) ?_)) | ((with_reducible refine gate_dst (N := 163) rfl ?_); go_must (refine event_run_g (by rfl) (exec_row_all agg23 (by rw [bys_size, SQ2.out.len]; exact T23.hi) rfl rfl (by (with_reducible repeat (first | refine blk_drewN ?_ _ | refine blk_drew ?_ | refine blk_alloc ?_ _)); exact BKg14.out)) ?_)) | ((with_reducible refine gate_dst (N := 164) rfl ?_); go_must (refine event_run_g (by rfl) (exec_eq23 rfl rfl rfl SQ2.out.len SQ2.out.len (decide_eq_true rfl)) ?_)) | (go_at_call 12; go_must (with_reducible refine (works_calls _).mono ?_); rintro e Z1 ⟨rfl, hb⟩; have NBKg20_ := Aside0.mk (blk_below (o := (Obj.cells (bys (rowL P2 Q2 o)) 25 (0, 0))) (by (with_reducible repeat (first | refine blk_drewN ?_ _ | refine blk_drew ?_ | refine blk_alloc ?_ _)); exact BKg20.out) hb); have NBKg13_ := Aside0.mk (blk_below (o := (Obj.cells (bys P2) 23 (0, 0))) (by (with_reducible repeat (first | refine blk_drewN ?_ _ | refine blk_drew ?_ | refine blk_alloc ?_ _)); exact BKg13.out) hb); have NBKg14_ := Aside0.mk (blk_below (o := (Obj.cells (bys Q2) 23 (0, 0))) (by (with_reducible repeat (first | refine blk_drewN ?_ _ | refine blk_drew ?_ | refine blk_alloc ?_ _)); exact BKg14.out) hb); have NHB_ := Aside0.mk (below_step (by repeat (first | (with_reducible first | exact HB.out | apply below_alloc | apply pw_below_drewN | apply below_drew1) | exact HB.out)) hb); clear BKg20 BKg13 BKg14 HB; have BKg20 := NBKg20_; have BKg13 := NBKg13_; have BKg14 := NBKg14_; have HB := NHB_; clear NBKg20_ NBKg13_ NBKg14_ NHB_; clear hb))
                exact bodyPost_ret (v := .bool true) (results_single rfl (.tmp .nil)) rfl ⟨rfl, HB.out⟩
  · skip
    by_cases hn0 : n = 0
    · subst hn0
      have HB := Aside0.mk (Below.refl w.heap.size w)
      go_enter Try.func4, Try.ntmps4
      go_wp2_with (first | (go_at_call 12; go_must (with_reducible refine (works_calls _).mono ?_); rintro e W1 ⟨rfl, hb⟩; have NHB_ := Aside0.mk (below_step (by repeat (first | (with_reducible first | exact HB.out | apply below_alloc | apply pw_below_drewN | apply below_drew1) | exact HB.out)) hb); clear HB; have HB := NHB_; clear NHB_; clear hb))
      exact bodyPost_ret (v := .bool true) (results_single rfl (.tmp .nil)) rfl ⟨rfl, HB.out⟩
    · obtain rfl : m = 0 := by omega
      have hpos : 0 < n := by omega
      clear hn
      have HB := Aside0.mk (Below.refl w.heap.size w)
      go_enter Try.func4, Try.ntmps4
      go_wp2_with (first | (go_at_call 12; go_must (with_reducible refine (works_calls _).mono ?_); rintro e W1 ⟨rfl, hb⟩; have NHB_ := Aside0.mk (below_step (by repeat (first | (with_reducible first | exact HB.out | apply below_alloc | apply pw_below_drewN | apply below_drew1) | exact HB.out)) hb); clear HB; have HB := NHB_; clear NHB_; clear hb))
      exact bodyPost_ret (v := .bool true) (results_single rfl (.tmp .nil)) rfl ⟨rfl, HB.out⟩
  
end Go.Proofs.Ytonjgbcibjnpoaa.Pw
