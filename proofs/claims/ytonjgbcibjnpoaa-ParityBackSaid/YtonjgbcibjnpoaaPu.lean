import Derived.Test.YtonjgbcibjnpoaaPb
import Derived.Test.YtonjgbcibjnpoaaSd
import Derived.Test.YtonjgbcibjnpoaaSs
import Derived.Test.YtonjgbcibjnpoaaSr
import Derived.Test.YtonjgbcibjnpoaaPw
import Derived.Test.YtonjgbcibjnpoaaPd
import Derived.WalkSpells
import Derived.OpenShut
import Derived.Outline
import Derived.Lib.Hide
namespace Go.Proofs.Ytonjgbcibjnpoaa.Pw
open Go.RowKit Go.Proofs.YtonjgbcibjnpoaaW.PrintWords Go.Proofs.YtonjgbcibjnpoaaW.PrintLast Go.Proofs.YtonjgbcibjnpoaaW.PrintMore Go.Proofs.Ytonjgbcibjnpoaa.Gf Go.Proofs.Ytonjgbcibjnpoaa.Sc Go.Proofs.Ytonjgbcibjnpoaa.Pb Go.Proofs.Ytonjgbcibjnpoaa.Sd Go.Proofs.Ytonjgbcibjnpoaa.Ss Go.Proofs.Ytonjgbcibjnpoaa.Sr Go.Proofs.Ytonjgbcibjnpoaa.Pd
set_option linter.unusedVariables false
set_option linter.unusedSimpArgs false


theorem Own.read1 {W : World} {base : Nat} {v : Value} {L : List (List Nat)} (h : Own W base v L) (hl : 0 < L.length) :
    ∃ ad c, v = .slice (some ad) L.length c ∧ L.length ≤ c ∧ c ≤ 9223372036854775807 ∧ Kd.C seK W (some ad) L.length L := by
  obtain ⟨A, c, hv, hc, hm, hC⟩ := Own.reads h
  obtain ⟨ad, rfl⟩ := sec_head hC hl
  exact ⟨ad, c, hv, hc, hm, hC⟩
theorem Own.block1 {W : World} {base : Nat} {v : Value} {L : List (List Nat)} (h : Own W base v L) (hl : 0 < L.length) :
    ∃ g cap sp, v = .slice (some ⟨g, 0, none⟩) L.length cap ∧ base ≤ g ∧ W.heap[g]? = some (.cells (bys L.flatten ++ sp) 23 (0, 0)) ∧ L.length ≤ cap ∧ cap ≤ 9223372036854775807 ∧ sp.size = (cap - L.length) * 64 := by
  rcases Own.form h with ⟨_, rfl⟩ | h1
  · exact absurd hl (by simp)
  · exact h1
/-- Bytes at the front of a block. -/
theorem cell_app {w : World} {g off : Nat} {l : List Nat} {sp : Array Value} {tt : TypeId} (hb : w.heap[g]? = some (.cells (bys l ++ sp) tt (0, 0))) (h : off < l.length) : w.cell? ⟨g, off, none⟩ = some (.int .u8 ((l.getD off 0 : Nat) : Int)) := by
  rw [cell_of_row w g off (bys l ++ sp) tt (0, 0) hb, Array.getElem?_append_left (by rw [bys_size]; exact h), bys_get h]
theorem putc_app {l : List Nat} {sp : Array Value} {k x : Nat} (h : k < l.length) : putc (bys l ++ sp) k #[.int .u8 (x : Int)] = bys (l.set k x) ++ sp := by
  apply Array.ext'
  have e : ((#[Value.int .u8 (x : Int)] : Array Value)).size = 1 := rfl
  unfold putc
  rw [e]
  have hl : (bys l).toList.length = l.length := bys_len l
  have h2 := congrArg Array.toList (putc_byte (x := x) h)
  unfold putc at h2
  rw [e] at h2
  simp only [Array.toList_append] at h2 ⊢
  rw [← h2, List.take_append_of_le_length (by omega), List.drop_append_of_le_length (by omega)]
  simp only [List.append_assoc]
theorem guard33 : Try.prog.eqGuardType Try.prog.depth 33 = false := by kernel_rfl
theorem exec_nil33 {o : Oper} {a : Act} {x y : Operand} {w : World} {A : Option Addr} {n c : Nat} {tt : TypeId} (ho : o.op = .binOp .eql 33 x y tt) (hx : a.eval x = .slice A n c) (hy : a.eval y = .slice none 0 0) : (execOp a.eval o).run Try.prog w = .ok (.value (.bool A.isNone)) w := by
  have h1 := Lib.run_eql_slice_nil (P := Try.prog) w 33 23 A n c 0 0 under33
  unfold execOp
  simp [ho, hx, hy, eqGuard, guard33, h1]
theorem tf_lt {F X Y : List Nat} {i k a b p : Nat} (hF : ∀ x ∈ F, x < 256) (hX : Sec X) (hY : Sec Y) : tf F X Y i k a b p < 256 := by
  have h1 : F.getD p 0 < 256 := by
    rw [List.getD_eq_getElem?_getD]
    cases h : F[p]? with
    | none => simp
    | some x => simpa using hF x (List.mem_of_getElem? h)
  have t : ∀ {c : Prop} [Decidable c] {v : Nat}, v < 256 → (if c then v else 0) < 256 := fun {c} _ {v} h => by
    split
    · exact h
    · decide
  exact xor_lt (xor_lt h1 (t (hX.get _))) (t (hY.get _))
theorem flatten_lt {R : List (List Nat)} (h : Secs R) : ∀ x ∈ R.flatten, x < 256 := fun x hx => by
  obtain ⟨l, hl, hx⟩ := List.mem_flatten.1 hx
  exact (h l hl).byte x hx
theorem size5 : (Try.prog.info? 5).map (·.size) = some 1 := by kernel_rfl
theorem getD_app1 {X Y : List Nat} {a : Nat} (hX : X.length = 64) (h : a < 64) : (X ++ Y).getD a 0 = X.getD a 0 := by
  rw [List.getD_eq_getElem?_getD, List.getElem?_append_left (by omega), ← List.getD_eq_getElem?_getD]
theorem getD_app2 {X Y : List Nat} {a : Nat} (hX : X.length = 64) : (X ++ Y).getD (64 + a) 0 = Y.getD a 0 := by
  rw [List.getD_eq_getElem?_getD, List.getElem?_append_right (by omega), hX, show 64 + a - 64 = a by omega, ← List.getD_eq_getElem?_getD]
theorem agg3 (w : World) : (isAgg 3).run Try.prog w = .ok false w := agg_not Try.underlying3 rfl w
set_option maxHeartbeats 4000000 in
set_option maxRecDepth 100000 in
theorem told_walk (A : Option Addr) (n c : Nat) (L : List (List Nat)) (x y : Int) (X Y : List Nat) (w : World) (hC : Kd.C seK w A n L) (hS : Secs L) (hc : n ≤ c) (hcm : c ≤ 9223372036854775807) (hX : Sec X) (hY : Sec Y) : Calls Try.prog 6 #[.slice A n c, .agg #[.int .i64 x, .int .i64 y], .agg (bys (X ++ Y))] w fun e w' => e = .returned (.bool true) ∧ Below w.heap.size w w' := by
  have hLn := len_C hC
  have hle := le_C hC
  obtain ⟨T, eT⟩ : ∃ T, T = L.take (min n 62) := ⟨_, rfl⟩
  have hTl : T.length = min n 62 := by rw [eT, List.length_take]; omega
  have hT : Secs T := by rw [eT]; exact secs_take hS _
  obtain ⟨R, eR⟩ : ∃ R, R = rowOf T := ⟨_, rfl⟩
  have hRl : R.length = min n 62 + 2 := by rw [eR, rowOf_length, hTl]
  have hR : Secs R := by rw [eR]; exact rowOf_secs hT
  by_cases hn : 0 < n
  · skip
    have HB := Aside0.mk (Below.refl w.heap.size w)
    have hcn := Lib.hid hn
    clear hn
    have hr : rightB R = true := by rw [eR]; exact rowOf_right (by have := hcn.out; omega) (by omega)
    obtain ⟨m, em⟩ : ∃ m, m = min n 62 := ⟨_, rfl⟩
    rw [← em] at hRl hTl
    have hm1 : 1 ≤ m := by have := hcn.out; omega
    have hm2 : m ≤ 62 := by omega
    obtain ⟨N, eN⟩ : ∃ N, N = m + 2 := ⟨_, rfl⟩
    rw [← eN] at hRl
    have hN0 : (0 : Int) < (N : Int) := by omega
    have hN1 : (N : Int) ≤ 100 := by omega
    obtain ⟨i, hi⟩ : ∃ i : Nat, x % (N : Int) = (i : Int) := ⟨(x % (N : Int)).toNat, by have := Int.emod_nonneg x (show (N : Int) ≠ 0 by omega); omega⟩
    obtain ⟨j, hj⟩ : ∃ j : Nat, y % (N : Int) = (j : Int) := ⟨(y % (N : Int)).toNat, by have := Int.emod_nonneg y (show (N : Int) ≠ 0 by omega); omega⟩
    have hiN : i < N := by have := Int.emod_lt_of_pos x hN0; omega
    have hjN : j < N := by have := Int.emod_lt_of_pos y hN0; omega
    have hlaw := told_law (i := i) (k := j) hR hX hY (hRl.trans eN) hm1 hm2 hr (by omega) (by omega)
    obtain ⟨F, eF⟩ : ∃ F, F = R.flatten := ⟨_, rfl⟩
    obtain ⟨M, eM⟩ : ∃ M, M = N * 64 := ⟨_, rfl⟩
    have hFl : F.length = M := by rw [eF, flatten_size (fun l hl => (hR l hl).len), hRl, eM]
    have hFb : ∀ x ∈ F, x < 256 := by rw [eF]; exact flatten_lt hR
    have HFB := Lib.hid hFb
    clear hFb
    obtain ⟨bb, ebb⟩ : ∃ b, b = decide (told R X Y i j = R) := ⟨_, rfl⟩
    rw [← ebb] at hlaw
    have hend := tf_end (i := i) (k := j) hR hX hY
    rw [hRl, ← eF, ← eM] at hend
    obtain ⟨U, eU⟩ : ∃ U, U = told R X Y i j := ⟨_, rfl⟩
    have hU : Secs U := by rw [eU]; exact told_secs hR hX hY
    have hUl : U.length = N := by rw [eU, told_length, hRl]
    rw [← eU] at hlaw hend ebb
    have EBB := Lib.hid ebb
    clear ebb
    have hRpos : 0 < R.length := by omega
    have ER := Lib.hid eR
    have ET := Lib.hid eT
    have EM := Lib.hid eM
    have EF := Lib.hid eF
    have EN := Lib.hid eN
    have LR := Lib.hid hRl
    have LU := Lib.hid hUl
    have LF := Lib.hid hFl
    have HRR := Lib.hid hR
    have HUU := Lib.hid hU
    have HEND := Lib.hid hend
    have HLAW := Lib.hid hlaw
    have HI := Lib.hid hi
    have HJ := Lib.hid hj
    have HIN := Lib.hid hiN
    have HJN := Lib.hid hjN
    have HX := Lib.hid hX
    have HY := Lib.hid hY
    have HN0 := Lib.hid hN0
    have HN1 := Lib.hid hN1
    have HP := Lib.hid hRpos
    have HM1 := Lib.hid hm1
    have HM2 := Lib.hid hm2
    have EMM := Lib.hid em
    clear eR eT eM eF eN hRl hUl hFl hR hU hend hlaw hi hj hiN hjN hX hY hN0 hN1 hRpos hm1 hm2 em hr hLn hle hTl hT eU
    go_enter Try.func6, Try.ntmps6
    go_wp2_with fail
    obtain ⟨q0_, q1_, nb_⟩ := Wk.blks2 w (Obj.cells (#[.int .i64 x, .int .i64 y]) 41 (0, 0)) (Obj.cells (bys (X ++ Y)) 42 (0, 0))
    obtain ⟨W0, hW_⟩ : ∃ W, W = ((w.alloc (Obj.cells (#[.int .i64 x, .int .i64 y]) 41 (0, 0))).alloc (Obj.cells (bys (X ++ Y)) 42 (0, 0))) := ⟨_, rfl⟩
    rw [← hW_]
    rw [← hW_] at q0_
    rw [← hW_] at q1_
    rw [← hW_] at nb_
    have sz_ := below_size HB.out
    have hb2_ := Aside0.mk (below_step HB.out nb_)
    obtain ⟨gp, hggp_⟩ : ∃ g, g = w.heap.size := ⟨_, rfl⟩
    obtain ⟨gm, hggm_⟩ : ∃ g, g = w.heap.size + 1 := ⟨_, rfl⟩
    rw [← hggm_]
    rw [← hggm_] at q1_
    rw [← hggp_]
    rw [← hggp_] at q0_
    have hge_ : w.heap.size ≤ gp := (by omega)
    have GEgp := Aside0.mk hge_
    clear hge_
    have hge_ : w.heap.size ≤ gm := (by omega)
    have GEgm := Aside0.mk hge_
    clear hge_
    have Dgpgm : gp ≠ gm := (by omega)
    have Dgmgp : gm ≠ gp := (by omega)
    have BKgp := Aside0.mk q0_
    have BKgm := Aside0.mk q1_
    clear HB
    have HB := hb2_
    clear hb2_ sz_ hW_ nb_ hggp_ hggm_ q0_ q1_
    go_wp2_with (first | ((go_at_call 19; go_must (with_reducible refine (row_calls A n c L _ (Kd.C_below hC (by repeat (first | (with_reducible first | exact HB.out | apply below_alloc | apply pw_below_drewN | apply below_drew1) | exact HB.out))) hS hc hcm).mono ?_); rintro e W1 ⟨v7, rfl, hb, hz_, hv_⟩; have OW_ := hv_ hcn.out; clear hv_ hz_; rw [← ET.out, ← ER.out] at OW_; obtain ⟨ad, c7, rfl, hc7, hcm7, hC7⟩ := Own.read1 OW_ HP.out; clear OW_; rw [LR.out] at hc7 hC7 ⊢; have NBKgp_ := Aside0.mk (blk_below (o := (Obj.cells (#[.int .i64 x, .int .i64 y]) 41 (0, 0))) (by (with_reducible repeat (first | refine blk_drewN ?_ _ | refine blk_drew ?_ | refine blk_alloc ?_ _)); exact BKgp.out) hb); have NBKgm_ := Aside0.mk (blk_below (o := (Obj.cells (bys (X ++ Y)) 42 (0, 0))) (by (with_reducible repeat (first | refine blk_drewN ?_ _ | refine blk_drew ?_ | refine blk_alloc ?_ _)); exact BKgm.out) hb); have NHB_ := Aside0.mk (below_step (by repeat (first | (with_reducible first | exact HB.out | apply below_alloc | apply pw_below_drewN | apply below_drew1) | exact HB.out)) hb); clear BKgp BKgm HB; have BKgp := NBKgp_; have BKgm := NBKgm_; have HB := NHB_; clear NBKgp_ NBKgm_ NHB_; clear hb); have HBa := Aside0.mk (Below.refl W1.heap.size W1)) | ((with_reducible refine gate_dst (N := 15) rfl ?_); go_must (refine Kd.event_run rfl (exec_nil33 (A := some ad) rfl rfl rfl) ?_)))
    have NBKgp_ := Aside0.mk (blk_drew BKgp.out)
    have NBKgm_ := Aside0.mk (blk_drew BKgm.out)
    have NHB_ := Aside0.mk (below_drew1 HB.out)
    have NHBa_ := Aside0.mk (below_drew1 HBa.out)
    clear BKgp BKgm HB HBa
    have BKgp := NBKgp_
    have BKgm := NBKgm_
    have HB := NHB_
    have HBa := NHBa_
    clear NBKgp_ NBKgm_ NHB_ NHBa_
    refine start_ (n := 12) (S := fun w' => (w'.heap[gp]? = some (Obj.cells (#[.int .i64 x, .int .i64 y]) 41 (0, 0)))) (ds := []) #[false, false, false, false, false, false, false, false, false, false, false, false] (by kernel_rfl) rfl rfl (BKgp.out) (fun hHeld => ?_)
    generalize W1.drew = W2 at BKgp BKgm HB HBa hHeld ⊢
    refine pure_ (i := 0) (N := some 17) (v := ?_) (a' := ?_) #[true, false, false, false, false, false, false, false, false, false, false, false] rfl rfl (by kernel_rfl) (fun _ _ _ h => h) (Or.inl ⟨by rfl, ?_⟩) ?_ ?_
    rotate_left
    · intro w'
      go_simp
      with_reducible rfl
    rotate_left
    · simp only [Act.put, List.setIfInBounds_toArray, List.set_cons_zero, List.set_cons_succ, i64_w, i32_w]
      rfl
    refine take_ (i := 1) (N := some 18) (v := .int .i64 x) (a' := ?_) #[true, true, false, false, false, false, false, false, false, false, false, false] rfl rfl (by kernel_rfl) (fun _ _ _ h => h) (Or.inl ⟨by rfl, ?_⟩) hHeld ?_ ?_
    · rintro w' k_gp
      exact exec_one (v := .int .i64 x) agg3 rfl rfl (Wk.cells2 k_gp).1
    rotate_left
    · simp only [Act.put, List.setIfInBounds_toArray, List.set_cons_zero, List.set_cons_succ, i64_w, i32_w]
      rfl
    refine pure_ (i := 2) (N := some 19) (v := ?_) (a' := ?_) #[true, true, true, false, false, false, false, false, false, false, false, false] rfl rfl (by kernel_rfl) (fun _ _ _ h => h) (Or.inl ⟨by rfl, ?_⟩) ?_ ?_
    rotate_left
    · intro w'
      go_simp
      with_reducible rfl
    rotate_left
    · simp only [Act.put, List.setIfInBounds_toArray, List.set_cons_zero, List.set_cons_succ, i64_w, i32_w]
      rfl
    refine pure_ (i := 3) (N := some 20) (v := ?_) (a' := ?_) #[true, true, true, true, false, false, false, false, false, false, false, false] rfl rfl (by kernel_rfl) (fun _ _ _ h => h) (Or.inl ⟨by rfl, ?_⟩) ?_ ?_
    rotate_left
    · intro w'
      go_simp
      with_reducible rfl
    rotate_left
    · simp only [Act.put, List.setIfInBounds_toArray, List.set_cons_zero, List.set_cons_succ, i64_w, i32_w]
      rfl
    refine pure_ (i := 5) (N := some 22) (v := ?_) (a' := ?_) #[true, true, true, true, false, true, false, false, false, false, false, false] rfl rfl (by kernel_rfl) (fun _ _ _ h => h) (Or.inl ⟨by rfl, ?_⟩) ?_ ?_
    rotate_left
    · intro w'
      go_simp
      with_reducible rfl
    rotate_left
    · simp only [Act.put, List.setIfInBounds_toArray, List.set_cons_zero, List.set_cons_succ, i64_w, i32_w]
      rfl
    refine take_ (i := 6) (N := some 23) (v := .int .i64 y) (a' := ?_) #[true, true, true, true, false, true, true, false, false, false, false, false] rfl rfl (by kernel_rfl) (fun _ _ _ h => h) (Or.inl ⟨by rfl, ?_⟩) hHeld ?_ ?_
    · rintro w' k_gp
      exact exec_one (v := .int .i64 y) agg3 rfl rfl (Wk.cells2 k_gp).2
    rotate_left
    · simp only [Act.put, List.setIfInBounds_toArray, List.set_cons_zero, List.set_cons_succ, i64_w, i32_w]
      rfl
    refine pure_ (i := 7) (N := some 24) (v := ?_) (a' := ?_) #[true, true, true, true, false, true, true, true, false, false, false, false] rfl rfl (by kernel_rfl) (fun _ _ _ h => h) (Or.inl ⟨by rfl, ?_⟩) ?_ ?_
    rotate_left
    · intro w'
      go_simp
      with_reducible rfl
    rotate_left
    · simp only [Act.put, List.setIfInBounds_toArray, List.set_cons_zero, List.set_cons_succ, i64_w, i32_w]
      rfl
    refine pure_ (i := 8) (N := some 25) (v := ?_) (a' := ?_) #[true, true, true, true, false, true, true, true, true, false, false, false] rfl rfl (by kernel_rfl) (fun _ _ _ h => h) (Or.inl ⟨by rfl, ?_⟩) ?_ ?_
    rotate_left
    · intro w'
      go_simp
      with_reducible rfl
    rotate_left
    · simp only [Act.put, List.setIfInBounds_toArray, List.set_cons_zero, List.set_cons_succ, i64_w, i32_w]
      rfl
    refine one_ (i := 4) (N := some 21) #[true, true, true, true, true, true, true, true, true, false, false, false] rfl rfl (by kernel_rfl) (by decide) (fun K hK => ?_)
    refine goes_ Try.func20 (by kernel_rfl) rfl #[.int .i64 x, .int .i64 (N : Int)] (by rfl) rfl rfl (by (try simp only [List.map_toArray, List.map_cons, List.map_nil]); first | done | rfl) ?_
    with_reducible refine ((by have h_ := at_calls x (N : Int) HN0.out HN1.out W2; rw [HI.out] at h_; exact h_ : Calls Try.prog 20 #[.int .i64 x, .int .i64 (N : Int)] W2 _)).mono ?_
    rintro e W3 ⟨rfl, hb⟩
    refine ⟨_, rfl, ?_⟩
    have NBKgp_ := Aside0.mk (blk_below BKgp.out hb)
    have NBKgm_ := Aside0.mk (blk_below BKgm.out hb)
    have NHB_ := Aside0.mk (below_step HB.out hb)
    have NHBa_ := Aside0.mk (below_step HBa.out hb)
    clear BKgp BKgm HB HBa
    have BKgp := NBKgp_
    have BKgm := NBKgm_
    have HB := NHB_
    have HBa := NHBa_
    clear NBKgp_ NBKgm_ NHB_ NHBa_
    clear hb
    refine hK.out _ _ (BKgp.out) (fun hHeld => ?_)
    clear hK K
    refine norm_ (a' := ?_) ?_ ?_
    rotate_left
    · show Act.put _ (some 21) _ = _
      simp only [Act.put, List.setIfInBounds_toArray, List.set_cons_zero, List.set_cons_succ, i64_w, i32_w]
      rfl
    refine one_ (i := 9) (N := some 26) #[true, true, true, true, true, true, true, true, true, true, false, false] rfl rfl (by kernel_rfl) (by decide) (fun K hK => ?_)
    refine goes_ Try.func20 (by kernel_rfl) rfl #[.int .i64 y, .int .i64 (N : Int)] (by rfl) rfl rfl (by (try simp only [List.map_toArray, List.map_cons, List.map_nil]); first | done | rfl) ?_
    with_reducible refine ((by have h_ := at_calls y (N : Int) HN0.out HN1.out W3; rw [HJ.out] at h_; exact h_ : Calls Try.prog 20 #[.int .i64 y, .int .i64 (N : Int)] W3 _)).mono ?_
    rintro e W4 ⟨rfl, hb⟩
    refine ⟨_, rfl, ?_⟩
    have NBKgp_ := Aside0.mk (blk_below BKgp.out hb)
    have NBKgm_ := Aside0.mk (blk_below BKgm.out hb)
    have NHB_ := Aside0.mk (below_step HB.out hb)
    have NHBa_ := Aside0.mk (below_step HBa.out hb)
    clear BKgp BKgm HB HBa
    have BKgp := NBKgp_
    have BKgm := NBKgm_
    have HB := NHB_
    have HBa := NHBa_
    clear NBKgp_ NBKgm_ NHB_ NHBa_
    clear hb
    refine hK.out _ _ (BKgp.out) (fun hHeld => ?_)
    clear hK K
    refine norm_ (a' := ?_) ?_ ?_
    rotate_left
    · show Act.put _ (some 26) _ = _
      simp only [Act.put, List.setIfInBounds_toArray, List.set_cons_zero, List.set_cons_succ, i64_w, i32_w]
      rfl
    refine pure_ (i := 10) (N := some 8) (v := ?_) (a' := ?_) #[true, true, true, true, true, true, true, true, true, true, true, false] rfl rfl (by kernel_rfl) (fun _ _ _ h => h) (Or.inl ⟨by rfl, ?_⟩) ?_ ?_
    rotate_left
    · intro w'
      go_simp
      with_reducible rfl
    rotate_left
    · simp only [Act.put, List.setIfInBounds_toArray, List.set_cons_zero, List.set_cons_succ, i64_w, i32_w]
      rfl
    refine pure_ (i := 11) (N := some 9) (v := ?_) (a' := ?_) #[true, true, true, true, true, true, true, true, true, true, true, true] rfl rfl (by kernel_rfl) (fun _ _ _ h => h) (Or.inl ⟨by rfl, ?_⟩) ?_ ?_
    rotate_left
    · intro w'
      go_simp
      with_reducible rfl
    rotate_left
    · simp only [Act.put, List.setIfInBounds_toArray, List.set_cons_zero, List.set_cons_succ, i64_w, i32_w]
      rfl
    refine done_ (by kernel_rfl) ?_
    have HBb := Aside0.mk (Below.refl W4.heap.size W4); have SVbHB := HB; have SVbHBa := HBa; have SVbgp := BKgp; have SVbgm := BKgm
    go_wp2_with (first | ((with_reducible refine gate_dst (N := 27) rfl ?_); go_must (refine lit_event rfl rfl (cs := bys ([] : List (List Nat)).flatten) (t := 23) (exec_lit0 rfl) ?_); intro gl hg_ wgl BK_ hb_; have ltgp_ := blk_lt ((by (with_reducible repeat (first | refine blk_drewN ?_ _ | refine blk_drew ?_ | refine blk_alloc ?_ _)); exact BKgp.out) : _ = some (Obj.cells (#[.int .i64 x, .int .i64 y]) 41 (0, 0))); have ltgm_ := blk_lt ((by (with_reducible repeat (first | refine blk_drewN ?_ _ | refine blk_drew ?_ | refine blk_alloc ?_ _)); exact BKgm.out) : _ = some (Obj.cells (bys (X ++ Y)) 42 (0, 0))); have GEgl := Aside0.mk (show w.heap.size ≤ gl by rw [hg_]; exact below_size (by repeat (first | (with_reducible first | exact HB.out | apply below_alloc | apply pw_below_drewN | apply below_drew1) | exact HB.out))); have GEagl := Aside0.mk (show W1.heap.size ≤ gl by rw [hg_]; exact below_size (by repeat (first | (with_reducible first | exact HBa.out | apply below_alloc | apply pw_below_drewN | apply below_drew1) | exact HBa.out))); have GEbgl := Aside0.mk (show W4.heap.size ≤ gl by rw [hg_]; exact below_size (by repeat (first | (with_reducible first | exact HBb.out | apply below_alloc | apply pw_below_drewN | apply below_drew1) | exact HBb.out))); have Dgpgl : gp ≠ gl := (by omega); have Dglgp : gl ≠ gp := (by omega); have Dgmgl : gm ≠ gl := (by omega); have Dglgm : gl ≠ gm := (by omega); have NBKgp_ := Aside0.mk (blk_below (o := (Obj.cells (#[.int .i64 x, .int .i64 y]) 41 (0, 0))) (by (with_reducible repeat (first | refine blk_drewN ?_ _ | refine blk_drew ?_ | refine blk_alloc ?_ _)); exact BKgp.out) hb_); have NBKgm_ := Aside0.mk (blk_below (o := (Obj.cells (bys (X ++ Y)) 42 (0, 0))) (by (with_reducible repeat (first | refine blk_drewN ?_ _ | refine blk_drew ?_ | refine blk_alloc ?_ _)); exact BKgm.out) hb_); have NHB_ := Aside0.mk (below_step (by repeat (first | (with_reducible first | exact HB.out | apply below_alloc | apply pw_below_drewN | apply below_drew1) | exact HB.out)) hb_); have NHBa_ := Aside0.mk (below_step (by repeat (first | (with_reducible first | exact HBa.out | apply below_alloc | apply pw_below_drewN | apply below_drew1) | exact HBa.out)) hb_); have NHBb_ := Aside0.mk (below_step (by repeat (first | (with_reducible first | exact HBb.out | apply below_alloc | apply pw_below_drewN | apply below_drew1) | exact HBb.out)) hb_); clear BKgp BKgm HB HBa HBb; have BKgp := NBKgp_; have BKgm := NBKgm_; have HB := NHB_; have HBa := NHBa_; have HBb := NHBb_; clear NBKgp_ NBKgm_ NHB_ NHBa_ NHBb_; have BKgl := Aside0.mk BK_; clear BK_ hb_ hg_ ltgp_ ltgm_) | (((with_reducible refine gate_dst (N := 29) rfl ?_); go_must (refine append_event W4.heap.size rfl rfl rfl rfl rfl (Own0 GEbgl.out (by (with_reducible repeat (first | refine blk_drewN ?_ _ | refine blk_drew ?_ | refine blk_alloc ?_ _)); exact BKgl.out)) (Kd.C_below hC7 (by repeat (first | (with_reducible first | exact HBa.out | apply below_alloc | apply pw_below_drewN | apply below_drew1) | exact HBa.out))) (below_size (by repeat (first | (with_reducible first | exact HBb.out | apply below_alloc | apply pw_below_drewN | apply below_drew1) | exact HBb.out))) (by have := HN1.out; simp; omega) ?_); intro v10 W5 OW_ hg_ hat_; rw [List.nil_append] at OW_; have N_ := Aside0.mk (grown_below (by repeat (first | (with_reducible first | exact HBb.out | apply below_alloc | apply pw_below_drewN | apply below_drew1) | exact HBb.out)) hg_ GEbgl.out); clear hg_ hat_ HBb; have HBb := N_; clear N_; clear BKgp; clear BKgm; clear BKgl; clear HB; have HB := Aside0.mk (below_step SVbHB.out HBb.out); clear HBa; have HBa := Aside0.mk (below_step SVbHBa.out HBb.out); have BKgp := Aside0.mk (blk_below SVbgp.out HBb.out); have BKgm := Aside0.mk (blk_below SVbgm.out HBb.out); obtain ⟨gt, ct, sp, rfl, hge_, hbk_, hcgt, hcmgt, hspgt⟩ := Own.block1 OW_ HP.out; clear OW_; rw [← EF.out] at hbk_; rw [LR.out] at hcgt hspgt ⊢; have ltgp_ := blk_lt SVbgp.out; have ltgm_ := blk_lt SVbgm.out; have GEgt := Aside0.mk (Nat.le_trans (below_size SVbHB.out) hge_); have GEagt := Aside0.mk (Nat.le_trans (below_size SVbHBa.out) hge_); have GEbgt := Aside0.mk hge_; have Dgpgt : gp ≠ gt := (by omega); have Dgtgp : gt ≠ gp := (by omega); clear ltgp_; have Dgmgt : gm ≠ gt := (by omega); have Dgtgm : gt ≠ gm := (by omega); clear ltgm_; have BKgt := Aside0.mk hbk_; clear hge_ hbk_); have HBc := Aside0.mk (Below.refl W5.heap.size W5)))
    clear HBb HBc
    have hst := tf_start (X := X) (Y := Y) (i := i) (k := j) LF.out
    have HST := Lib.hid hst
    clear hst
    go_loopw [11] (fun v wr => ∃ a : Nat, a ≤ 64 ∧ v = .int .i64 a ∧ Aside0 (wr.heap[gm]? = some (.cells (bys (X ++ Y)) 42 (0, 0))) ∧ Aside0 (wr.heap[gt]? = some (.cells (bys (flat M (tf F X Y i j a a)) ++ sp) 23 (0, 0))) ∧ Aside0 (Below w.heap.size w wr) ∧ Aside0 (Below W1.heap.size W1 wr)) (fun v _ => 64 - (intOf v).toNat)
    case atStart => exact ⟨0, by omega, rfl, BKgm, ⟨by rw [HST.out]; exact BKgt.out⟩, HB, HBa⟩
    case round =>
      clear BKgp BKgm BKgt HB HBa
      obtain ⟨a, ha, rfl, BKgm, BKgt, HB, HBa⟩ := hrel
      by_cases hlt : a < 64
      · skip
        have h1 : decide ((a : Int) < 64) = true := by simp; omega
        have h0 : (0 : Int) ≤ (a : Int) := by omega
        have h9 : (a : Int) < 64 := by omega
        have hi0 : (0 : Int) ≤ (i : Int) := by omega
        have hi1 : (i : Int) < (N : Int) := by have := HIN.out; omega
        have hj0 : (0 : Int) ≤ (j : Int) := by omega
        have hj1 : (j : Int) < (N : Int) := by have := HJN.out; omega
        go_wp2_with fail
        obtain ⟨z, ez⟩ : ∃ z, z = tf F X Y i j a a (i * 64 + a) := ⟨_, rfl⟩
        obtain ⟨z2, ez2⟩ : ∃ z, z = tf F X Y i j (a + 1) a (j * 64 + a) := ⟨_, rfl⟩
        obtain ⟨u, eu⟩ : ∃ z, z = X.getD a 0 := ⟨_, rfl⟩
        obtain ⟨u2, eu2⟩ : ∃ z, z = Y.getD a 0 := ⟨_, rfl⟩
        have hz : z < 256 := by rw [ez]; exact tf_lt HFB.out HX.out HY.out
        have hz2 : z2 < 256 := by rw [ez2]; exact tf_lt HFB.out HX.out HY.out
        have hu : u < 256 := by rw [eu]; exact HX.out.get a
        have hu2 : u2 < 256 := by rw [eu2]; exact HY.out.get a
        have hxz := xor8 hz hu
        have hxz2 := xor8 hz2 hu2
        have hia : i * 64 + a < M := by have := EM.out; have := HIN.out; omega
        have hja : j * 64 + a < M := by have := EM.out; have := HJN.out; omega
        have HIA := Lib.hid hia
        have HJA := Lib.hid hja
        have EZ := Lib.hid ez
        have EZ2 := Lib.hid ez2
        have EU_ := Lib.hid eu
        have EU2 := Lib.hid eu2
        have HLT := Lib.hid hlt
        have s1 := tf_one (F := F) (X := X) (Y := Y) (k := j) (b := a) hlt hia
        have s2 := tf_two (F := F) (X := X) (Y := Y) (i := i) (a := a + 1) hlt hja
        rw [← ez, ← eu] at s1
        rw [← ez2, ← eu2] at s2
        have S1 := Lib.hid s1
        have S2 := Lib.hid s2
        clear s1 s2 ez ez2 eu eu2 hia hja hz hz2 hu hu2
        have NBKgm_ := Aside0.mk (blk_drew BKgm.out)
        have NBKgt_ := Aside0.mk (blk_drew BKgt.out)
        have NHB_ := Aside0.mk (below_drew1 HB.out)
        have NHBa_ := Aside0.mk (below_drew1 HBa.out)
        clear BKgm BKgt HB HBa
        have BKgm := NBKgm_
        have BKgt := NBKgt_
        have HB := NHB_
        have HBa := NHBa_
        clear NBKgm_ NBKgt_ NHB_ NHBa_
        refine start_ (n := 14) (S := fun w' => (w'.heap[gm]? = some (Obj.cells (bys (X ++ Y)) 42 (0, 0))) ∧ (w'.heap[gt]? = some (Obj.cells (bys (flat M (tf F X Y i j a a)) ++ sp) 23 (0, 0)))) (ds := [13]) #[false, false, false, false, false, false, false, false, false, false, false, false, false, false] (by kernel_rfl) rfl rfl (⟨BKgm.out, BKgt.out⟩) (fun hHeld => ?_)
        generalize wr.drew = V0 at BKgm BKgt HB HBa hHeld ⊢
        refine pure_ (i := 0) (N := some 34) (v := ?_) (a' := ?_) #[true, false, false, false, false, false, false, false, false, false, false, false, false, false] rfl rfl (by kernel_rfl) (fun _ _ _ h => h) (Or.inl ⟨by rfl, ?_⟩) ?_ ?_
        rotate_left
        · intro w'
          go_simp
          with_reducible rfl
        rotate_left
        · simp only [Act.put, List.setIfInBounds_toArray, List.set_cons_zero, List.set_cons_succ, i64_w, i32_w]
          rfl
        refine pure_ (i := 1) (N := some 35) (v := ?_) (a' := ?_) #[true, true, false, false, false, false, false, false, false, false, false, false, false, false] rfl rfl (by kernel_rfl) (fun _ _ _ h => h) (Or.inl ⟨by rfl, ?_⟩) ?_ ?_
        rotate_left
        · intro w'
          go_simp
          with_reducible rfl
        rotate_left
        · simp only [Act.put, List.setIfInBounds_toArray, List.set_cons_zero, List.set_cons_succ, i64_w, i32_w]
          rfl
        refine pure_ (i := 2) (N := some 36) (v := ?_) (a' := ?_) #[true, true, true, false, false, false, false, false, false, false, false, false, false, false] rfl rfl (by kernel_rfl) (fun _ _ _ h => h) (Or.inl ⟨by rfl, ?_⟩) ?_ ?_
        rotate_left
        · intro w'
          go_simp
          with_reducible rfl
        rotate_left
        · simp only [Act.put, List.setIfInBounds_toArray, List.set_cons_zero, List.set_cons_succ, i64_w, i32_w]
          rfl
        refine pure_ (i := 3) (N := some 37) (v := ?_) (a' := ?_) #[true, true, true, true, false, false, false, false, false, false, false, false, false, false] rfl rfl (by kernel_rfl) (fun _ _ _ h => h) (Or.inl ⟨by rfl, ?_⟩) ?_ ?_
        rotate_left
        · intro w'
          go_simp
          with_reducible rfl
        rotate_left
        · simp only [Act.put, List.setIfInBounds_toArray, List.set_cons_zero, List.set_cons_succ, i64_w, i32_w]
          rfl
        refine pure_ (i := 4) (N := some 38) (v := ?_) (a' := ?_) #[true, true, true, true, true, false, false, false, false, false, false, false, false, false] rfl rfl (by kernel_rfl) (fun _ _ _ h => h) (Or.inl ⟨by rfl, ?_⟩) ?_ ?_
        rotate_left
        · intro w'
          go_simp
          with_reducible rfl
        rotate_left
        · simp only [Act.put, List.setIfInBounds_toArray, List.set_cons_zero, List.set_cons_succ, i64_w, i32_w]
          rfl
        refine take_ (i := 5) (N := some 39) (v := .int .u8 (z : Int)) (a' := ?_) #[true, true, true, true, true, true, false, false, false, false, false, false, false, false] rfl rfl (by kernel_rfl) (fun _ _ _ h => h) (Or.inl ⟨by rfl, ?_⟩) hHeld ?_ ?_
        · rintro w' ⟨k_gm, k_gt⟩
          exact exec_one (v := .int .u8 (z : Int)) agg5 rfl rfl (by rw [EZ.out, ← flat_get (n := M) (tf F X Y i j a a) HIA.out]; exact cell_app k_gt (by rw [flat_length]; exact HIA.out))
        rotate_left
        · simp only [Act.put, List.setIfInBounds_toArray, List.set_cons_zero, List.set_cons_succ, i64_w, i32_w]
          rfl
        refine pure_ (i := 6) (N := some 40) (v := ?_) (a' := ?_) #[true, true, true, true, true, true, true, false, false, false, false, false, false, false] rfl rfl (by kernel_rfl) (fun _ _ _ h => h) (Or.inl ⟨by rfl, ?_⟩) ?_ ?_
        rotate_left
        · intro w'
          go_simp
          with_reducible rfl
        rotate_left
        · simp only [Act.put, List.setIfInBounds_toArray, List.set_cons_zero, List.set_cons_succ, i64_w, i32_w]
          rfl
        refine pure_ (i := 7) (N := some 41) (v := ?_) (a' := ?_) #[true, true, true, true, true, true, true, true, false, false, false, false, false, false] rfl rfl (by kernel_rfl) (fun _ _ _ h => h) (Or.inl ⟨by rfl, ?_⟩) ?_ ?_
        rotate_left
        · intro w'
          go_simp
          with_reducible rfl
        rotate_left
        · simp only [Act.put, List.setIfInBounds_toArray, List.set_cons_zero, List.set_cons_succ, i64_w, i32_w]
          rfl
        refine pure_ (i := 8) (N := some 42) (v := ?_) (a' := ?_) #[true, true, true, true, true, true, true, true, true, false, false, false, false, false] rfl rfl (by kernel_rfl) (fun _ _ _ h => h) (Or.inl ⟨by rfl, ?_⟩) ?_ ?_
        rotate_left
        · intro w'
          go_simp
          with_reducible rfl
        rotate_left
        · simp only [Act.put, List.setIfInBounds_toArray, List.set_cons_zero, List.set_cons_succ, i64_w, i32_w]
          rfl
        refine take_ (i := 9) (N := some 43) (v := .int .u8 (u : Int)) (a' := ?_) #[true, true, true, true, true, true, true, true, true, true, false, false, false, false] rfl rfl (by kernel_rfl) (fun _ _ _ h => h) (Or.inl ⟨by rfl, ?_⟩) hHeld ?_ ?_
        · rintro w' ⟨k_gm, k_gt⟩
          exact exec_one (v := .int .u8 (u : Int)) agg5 rfl rfl (by rw [EU_.out, ← getD_app1 (Y := Y) HX.out.len HLT.out]; exact cell_bys k_gm (by rw [List.length_append, HX.out.len]; have := HLT.out; omega))
        rotate_left
        · simp only [Act.put, List.setIfInBounds_toArray, List.set_cons_zero, List.set_cons_succ, i64_w, i32_w]
          rfl
        refine pure_ (i := 10) (N := some 44) (v := ?_) (a' := ?_) #[true, true, true, true, true, true, true, true, true, true, true, false, false, false] rfl rfl (by kernel_rfl) (fun _ _ _ h => h) (Or.inl ⟨by rfl, ?_⟩) ?_ ?_
        rotate_left
        · intro w'
          go_simp
          with_reducible rfl
        rotate_left
        · simp only [Act.put, List.setIfInBounds_toArray, List.set_cons_zero, List.set_cons_succ, i64_w, i32_w]
          rfl
        refine pure_ (i := 11) (N := some 45) (v := ?_) (a' := ?_) #[true, true, true, true, true, true, true, true, true, true, true, true, false, false] rfl rfl (by kernel_rfl) (fun _ _ _ h => h) (Or.inl ⟨by rfl, ?_⟩) ?_ ?_
        rotate_left
        · intro w'
          go_simp
          with_reducible rfl
        rotate_left
        · simp only [Act.put, List.setIfInBounds_toArray, List.set_cons_zero, List.set_cons_succ, i64_w, i32_w]
          rfl
        refine pure_ (i := 12) (N := some 46) (v := ?_) (a' := ?_) #[true, true, true, true, true, true, true, true, true, true, true, true, true, false] rfl rfl (by kernel_rfl) (fun _ _ _ h => h) (Or.inl ⟨by rfl, ?_⟩) ?_ ?_
        rotate_left
        · intro w'
          go_simp
          with_reducible rfl
        rotate_left
        · simp only [Act.put, List.setIfInBounds_toArray, List.set_cons_zero, List.set_cons_succ, i64_w, i32_w]
          rfl
        refine last_ (i := 13) (N := none) #[true, true, true, true, true, true, true, true, true, true, true, true, true, true] rfl rfl (by kernel_rfl) (by decide) (fun K hK => ?_)
        refine skip_ (by rfl) rfl (exec_put (cs' := bys (flat M (tf F X Y i j (a + 1) a)) ++ sp) (off := i * 64 + a) (v := .int .u8 (((z ^^^ u : Nat) : Int))) size5 rfl rfl rfl rfl one_int BKgt.out (by rw [Array.size_append, bys_size, flat_length]; have := HIA.out; omega) ((putc_app (by rw [flat_length]; exact HIA.out)).trans (by rw [S1.out]))) ?_
        obtain ⟨V1, hW_⟩ : ∃ W, W = V0.setRow gt (bys (flat M (tf F X Y i j (a + 1) a)) ++ sp) := ⟨_, rfl⟩
        rw [← hW_]
        have NBKgm_ := Aside0.mk ((by rw [hW_]; exact setRow_far BKgm.out Dgmgt : V1.heap[gm]? = some (Obj.cells (bys (X ++ Y)) 42 (0, 0))))
        have NBKgt_ := Aside0.mk ((by rw [hW_]; exact setRow_blk BKgt.out : V1.heap[gt]? = some (Obj.cells (bys (flat M (tf F X Y i j (a + 1) a)) ++ sp) 23 (0, 0))))
        have NHB_ := Aside0.mk ((by rw [hW_]; exact setRow_below (HB.out) GEgt.out : Below w.heap.size w V1))
        have NHBa_ := Aside0.mk ((by rw [hW_]; exact setRow_below (HBa.out) GEagt.out : Below W1.heap.size W1 V1))
        clear BKgm BKgt HB HBa
        have BKgm := NBKgm_
        have BKgt := NBKgt_
        have HB := NHB_
        have HBa := NHBa_
        clear NBKgm_ NBKgt_ NHB_ NHBa_
        clear hW_
        refine hK.out _ _ ?_
        clear hK K
        refine done_ (by kernel_rfl) ?_
        go_wp2_with fail
        have NBKgm_ := Aside0.mk (blk_drew BKgm.out)
        have NBKgt_ := Aside0.mk (blk_drew BKgt.out)
        have NHB_ := Aside0.mk (below_drew1 HB.out)
        have NHBa_ := Aside0.mk (below_drew1 HBa.out)
        clear BKgm BKgt HB HBa
        have BKgm := NBKgm_
        have BKgt := NBKgt_
        have HB := NHB_
        have HBa := NHBa_
        clear NBKgm_ NBKgt_ NHB_ NHBa_
        refine start_ (n := 14) (S := fun w' => (w'.heap[gm]? = some (Obj.cells (bys (X ++ Y)) 42 (0, 0))) ∧ (w'.heap[gt]? = some (Obj.cells (bys (flat M (tf F X Y i j (a + 1) a)) ++ sp) 23 (0, 0)))) (ds := [13]) #[false, false, false, false, false, false, false, false, false, false, false, false, false, false] (by kernel_rfl) rfl rfl (⟨BKgm.out, BKgt.out⟩) (fun hHeld => ?_)
        generalize V1.drew = V2 at BKgm BKgt HB HBa hHeld ⊢
        refine pure_ (i := 0) (N := some 47) (v := ?_) (a' := ?_) #[true, false, false, false, false, false, false, false, false, false, false, false, false, false] rfl rfl (by kernel_rfl) (fun _ _ _ h => h) (Or.inl ⟨by rfl, ?_⟩) ?_ ?_
        rotate_left
        · intro w'
          go_simp
          with_reducible rfl
        rotate_left
        · simp only [Act.put, List.setIfInBounds_toArray, List.set_cons_zero, List.set_cons_succ, i64_w, i32_w]
          rfl
        refine pure_ (i := 1) (N := some 48) (v := ?_) (a' := ?_) #[true, true, false, false, false, false, false, false, false, false, false, false, false, false] rfl rfl (by kernel_rfl) (fun _ _ _ h => h) (Or.inl ⟨by rfl, ?_⟩) ?_ ?_
        rotate_left
        · intro w'
          go_simp
          with_reducible rfl
        rotate_left
        · simp only [Act.put, List.setIfInBounds_toArray, List.set_cons_zero, List.set_cons_succ, i64_w, i32_w]
          rfl
        refine pure_ (i := 2) (N := some 49) (v := ?_) (a' := ?_) #[true, true, true, false, false, false, false, false, false, false, false, false, false, false] rfl rfl (by kernel_rfl) (fun _ _ _ h => h) (Or.inl ⟨by rfl, ?_⟩) ?_ ?_
        rotate_left
        · intro w'
          go_simp
          with_reducible rfl
        rotate_left
        · simp only [Act.put, List.setIfInBounds_toArray, List.set_cons_zero, List.set_cons_succ, i64_w, i32_w]
          rfl
        refine pure_ (i := 3) (N := some 50) (v := ?_) (a' := ?_) #[true, true, true, true, false, false, false, false, false, false, false, false, false, false] rfl rfl (by kernel_rfl) (fun _ _ _ h => h) (Or.inl ⟨by rfl, ?_⟩) ?_ ?_
        rotate_left
        · intro w'
          go_simp
          with_reducible rfl
        rotate_left
        · simp only [Act.put, List.setIfInBounds_toArray, List.set_cons_zero, List.set_cons_succ, i64_w, i32_w]
          rfl
        refine pure_ (i := 4) (N := some 51) (v := ?_) (a' := ?_) #[true, true, true, true, true, false, false, false, false, false, false, false, false, false] rfl rfl (by kernel_rfl) (fun _ _ _ h => h) (Or.inl ⟨by rfl, ?_⟩) ?_ ?_
        rotate_left
        · intro w'
          go_simp
          with_reducible rfl
        rotate_left
        · simp only [Act.put, List.setIfInBounds_toArray, List.set_cons_zero, List.set_cons_succ, i64_w, i32_w]
          rfl
        refine take_ (i := 5) (N := some 52) (v := .int .u8 (z2 : Int)) (a' := ?_) #[true, true, true, true, true, true, false, false, false, false, false, false, false, false] rfl rfl (by kernel_rfl) (fun _ _ _ h => h) (Or.inl ⟨by rfl, ?_⟩) hHeld ?_ ?_
        · rintro w' ⟨k_gm, k_gt⟩
          exact exec_one (v := .int .u8 (z2 : Int)) agg5 rfl rfl (by rw [EZ2.out, ← flat_get (n := M) (tf F X Y i j (a + 1) a) HJA.out]; exact cell_app k_gt (by rw [flat_length]; exact HJA.out))
        rotate_left
        · simp only [Act.put, List.setIfInBounds_toArray, List.set_cons_zero, List.set_cons_succ, i64_w, i32_w]
          rfl
        refine pure_ (i := 6) (N := some 53) (v := ?_) (a' := ?_) #[true, true, true, true, true, true, true, false, false, false, false, false, false, false] rfl rfl (by kernel_rfl) (fun _ _ _ h => h) (Or.inl ⟨by rfl, ?_⟩) ?_ ?_
        rotate_left
        · intro w'
          go_simp
          with_reducible rfl
        rotate_left
        · simp only [Act.put, List.setIfInBounds_toArray, List.set_cons_zero, List.set_cons_succ, i64_w, i32_w]
          rfl
        refine pure_ (i := 7) (N := some 54) (v := ?_) (a' := ?_) #[true, true, true, true, true, true, true, true, false, false, false, false, false, false] rfl rfl (by kernel_rfl) (fun _ _ _ h => h) (Or.inl ⟨by rfl, ?_⟩) ?_ ?_
        rotate_left
        · intro w'
          go_simp
          with_reducible rfl
        rotate_left
        · simp only [Act.put, List.setIfInBounds_toArray, List.set_cons_zero, List.set_cons_succ, i64_w, i32_w]
          rfl
        refine pure_ (i := 8) (N := some 55) (v := ?_) (a' := ?_) #[true, true, true, true, true, true, true, true, true, false, false, false, false, false] rfl rfl (by kernel_rfl) (fun _ _ _ h => h) (Or.inl ⟨by rfl, ?_⟩) ?_ ?_
        rotate_left
        · intro w'
          go_simp
          with_reducible rfl
        rotate_left
        · simp only [Act.put, List.setIfInBounds_toArray, List.set_cons_zero, List.set_cons_succ, i64_w, i32_w]
          rfl
        refine take_ (i := 9) (N := some 56) (v := .int .u8 (u2 : Int)) (a' := ?_) #[true, true, true, true, true, true, true, true, true, true, false, false, false, false] rfl rfl (by kernel_rfl) (fun _ _ _ h => h) (Or.inl ⟨by rfl, ?_⟩) hHeld ?_ ?_
        · rintro w' ⟨k_gm, k_gt⟩
          exact exec_one (v := .int .u8 (u2 : Int)) agg5 rfl rfl (by rw [EU2.out, ← getD_app2 (X := X) HX.out.len]; exact cell_bys k_gm (by rw [List.length_append, HX.out.len, HY.out.len]; have := HLT.out; omega))
        rotate_left
        · simp only [Act.put, List.setIfInBounds_toArray, List.set_cons_zero, List.set_cons_succ, i64_w, i32_w]
          rfl
        refine pure_ (i := 10) (N := some 57) (v := ?_) (a' := ?_) #[true, true, true, true, true, true, true, true, true, true, true, false, false, false] rfl rfl (by kernel_rfl) (fun _ _ _ h => h) (Or.inl ⟨by rfl, ?_⟩) ?_ ?_
        rotate_left
        · intro w'
          go_simp
          with_reducible rfl
        rotate_left
        · simp only [Act.put, List.setIfInBounds_toArray, List.set_cons_zero, List.set_cons_succ, i64_w, i32_w]
          rfl
        refine pure_ (i := 11) (N := some 58) (v := ?_) (a' := ?_) #[true, true, true, true, true, true, true, true, true, true, true, true, false, false] rfl rfl (by kernel_rfl) (fun _ _ _ h => h) (Or.inl ⟨by rfl, ?_⟩) ?_ ?_
        rotate_left
        · intro w'
          go_simp
          with_reducible rfl
        rotate_left
        · simp only [Act.put, List.setIfInBounds_toArray, List.set_cons_zero, List.set_cons_succ, i64_w, i32_w]
          rfl
        refine pure_ (i := 12) (N := some 59) (v := ?_) (a' := ?_) #[true, true, true, true, true, true, true, true, true, true, true, true, true, false] rfl rfl (by kernel_rfl) (fun _ _ _ h => h) (Or.inl ⟨by rfl, ?_⟩) ?_ ?_
        rotate_left
        · intro w'
          go_simp
          with_reducible rfl
        rotate_left
        · simp only [Act.put, List.setIfInBounds_toArray, List.set_cons_zero, List.set_cons_succ, i64_w, i32_w]
          rfl
        refine last_ (i := 13) (N := none) #[true, true, true, true, true, true, true, true, true, true, true, true, true, true] rfl rfl (by kernel_rfl) (by decide) (fun K hK => ?_)
        refine skip_ (by rfl) rfl (exec_put (cs' := bys (flat M (tf F X Y i j (a + 1) (a + 1))) ++ sp) (off := j * 64 + a) (v := .int .u8 (((z2 ^^^ u2 : Nat) : Int))) size5 rfl rfl rfl rfl one_int BKgt.out (by rw [Array.size_append, bys_size, flat_length]; have := HJA.out; omega) ((putc_app (by rw [flat_length]; exact HJA.out)).trans (by rw [S2.out]))) ?_
        obtain ⟨V3, hW_⟩ : ∃ W, W = V2.setRow gt (bys (flat M (tf F X Y i j (a + 1) (a + 1))) ++ sp) := ⟨_, rfl⟩
        rw [← hW_]
        have NBKgm_ := Aside0.mk ((by rw [hW_]; exact setRow_far BKgm.out Dgmgt : V3.heap[gm]? = some (Obj.cells (bys (X ++ Y)) 42 (0, 0))))
        have NBKgt_ := Aside0.mk ((by rw [hW_]; exact setRow_blk BKgt.out : V3.heap[gt]? = some (Obj.cells (bys (flat M (tf F X Y i j (a + 1) (a + 1))) ++ sp) 23 (0, 0))))
        have NHB_ := Aside0.mk ((by rw [hW_]; exact setRow_below (HB.out) GEgt.out : Below w.heap.size w V3))
        have NHBa_ := Aside0.mk ((by rw [hW_]; exact setRow_below (HBa.out) GEagt.out : Below W1.heap.size W1 V3))
        clear BKgm BKgt HB HBa
        have BKgm := NBKgm_
        have BKgt := NBKgt_
        have HB := NHB_
        have HBa := NHBa_
        clear NBKgm_ NBKgt_ NHB_ NHBa_
        clear hW_
        refine hK.out _ _ ?_
        clear hK K
        refine done_ (by kernel_rfl) ?_
        go_wp2
        go_roundw
        case rel => exact ⟨a + 1, by omega, by go_num, BKgm, BKgt, HB, HBa⟩
        case measure => simp [intOf] <;> omega
      · skip
        obtain rfl : a = 64 := by omega
        clear hlt ha
        have HCU := Lib.hid (show Kd.C seK wr (some ⟨gt, 0, none⟩) N U by
          have h := BKgt.out
          rw [HEND.out] at h
          have h2 := C_block h (fun l hl => (HUU.out l hl).len) (by rw [LU.out]; have := HN1.out; omega)
          rwa [LU.out] at h2)
        clear BKgm BKgt
        have HBd := Aside0.mk (Below.refl wr.heap.size wr)
        go_wp2_with (first | (go_at_call 16; go_must (with_reducible refine (right_calls _ N ct U _ (Kd.C_below HCU.out (by repeat (first | (with_reducible first | exact HBd.out | apply below_alloc | apply pw_below_drewN | apply below_drew1) | exact HBd.out))) HUU.out hcgt hcmgt).mono ?_); rintro e Z1 ⟨rfl, hb⟩; rw [HLAW.out]; have NHB_ := Aside0.mk (below_step (by repeat (first | (with_reducible first | exact HB.out | apply below_alloc | apply pw_below_drewN | apply below_drew1) | exact HB.out)) hb); have NHBa_ := Aside0.mk (below_step (by repeat (first | (with_reducible first | exact HBa.out | apply below_alloc | apply pw_below_drewN | apply below_drew1) | exact HBa.out)) hb); have NHBd_ := Aside0.mk (below_step (by repeat (first | (with_reducible first | exact HBd.out | apply below_alloc | apply pw_below_drewN | apply below_drew1) | exact HBd.out)) hb); clear HB HBa HBd; have HB := NHB_; have HBa := NHBa_; have HBd := NHBd_; clear NHB_ NHBa_ NHBd_; clear hb) | (go_at_call 21; go_must (with_reducible refine (same_calls _ _ N N ct c7 U R _ (Kd.C_below HCU.out (by repeat (first | (with_reducible first | exact HBd.out | apply below_alloc | apply pw_below_drewN | apply below_drew1) | exact HBd.out))) (Kd.C_below hC7 (by repeat (first | (with_reducible first | exact HBa.out | apply below_alloc | apply pw_below_drewN | apply below_drew1) | exact HBa.out)))).mono ?_); rintro e Z2 ⟨rfl, hb⟩; rw [← EBB.out]; have NHB_ := Aside0.mk (below_step (by repeat (first | (with_reducible first | exact HB.out | apply below_alloc | apply pw_below_drewN | apply below_drew1) | exact HB.out)) hb); have NHBa_ := Aside0.mk (below_step (by repeat (first | (with_reducible first | exact HBa.out | apply below_alloc | apply pw_below_drewN | apply below_drew1) | exact HBa.out)) hb); have NHBd_ := Aside0.mk (below_step (by repeat (first | (with_reducible first | exact HBd.out | apply below_alloc | apply pw_below_drewN | apply below_drew1) | exact HBd.out)) hb); clear HB HBa HBd; have HB := NHB_; have HBa := NHBa_; have HBd := NHBd_; clear NHB_ NHBa_ NHBd_; clear hb) | (go_at_call 12; go_must (with_reducible refine (works_calls _).mono ?_); rintro e Z3 ⟨rfl, hb⟩; have NHB_ := Aside0.mk (below_step (by repeat (first | (with_reducible first | exact HB.out | apply below_alloc | apply pw_below_drewN | apply below_drew1) | exact HB.out)) hb); have NHBa_ := Aside0.mk (below_step (by repeat (first | (with_reducible first | exact HBa.out | apply below_alloc | apply pw_below_drewN | apply below_drew1) | exact HBa.out)) hb); have NHBd_ := Aside0.mk (below_step (by repeat (first | (with_reducible first | exact HBd.out | apply below_alloc | apply pw_below_drewN | apply below_drew1) | exact HBd.out)) hb); clear HB HBa HBd; have HB := NHB_; have HBa := NHBa_; have HBd := NHBd_; clear NHB_ NHBa_ NHBd_; clear hb))
        exact bodyPost_ret (v := .bool true) (results_single rfl (.tmp .nil)) rfl ⟨rfl, HB.out⟩
  · skip
    have HB := Aside0.mk (Below.refl w.heap.size w)
    obtain rfl : n = 0 := by omega
    clear T eT hTl hT R eR hRl hR hn
    go_enter Try.func6, Try.ntmps6
    go_wp2_with fail
    obtain ⟨q0_, q1_, nb_⟩ := Wk.blks2 w (Obj.cells (#[.int .i64 x, .int .i64 y]) 41 (0, 0)) (Obj.cells (bys (X ++ Y)) 42 (0, 0))
    obtain ⟨W0, hW_⟩ : ∃ W, W = ((w.alloc (Obj.cells (#[.int .i64 x, .int .i64 y]) 41 (0, 0))).alloc (Obj.cells (bys (X ++ Y)) 42 (0, 0))) := ⟨_, rfl⟩
    rw [← hW_]
    rw [← hW_] at q0_
    rw [← hW_] at q1_
    rw [← hW_] at nb_
    have sz_ := below_size HB.out
    have hb2_ := Aside0.mk (below_step HB.out nb_)
    obtain ⟨gp, hggp_⟩ : ∃ g, g = w.heap.size := ⟨_, rfl⟩
    obtain ⟨gm, hggm_⟩ : ∃ g, g = w.heap.size + 1 := ⟨_, rfl⟩
    rw [← hggm_]
    rw [← hggm_] at q1_
    rw [← hggp_]
    rw [← hggp_] at q0_
    have hge_ : w.heap.size ≤ gp := (by omega)
    have GEgp := Aside0.mk hge_
    clear hge_
    have hge_ : w.heap.size ≤ gm := (by omega)
    have GEgm := Aside0.mk hge_
    clear hge_
    have Dgpgm : gp ≠ gm := (by omega)
    have Dgmgp : gm ≠ gp := (by omega)
    have BKgp := Aside0.mk q0_
    have BKgm := Aside0.mk q1_
    clear HB
    have HB := hb2_
    clear hb2_ sz_ hW_ nb_ hggp_ hggm_ q0_ q1_
    go_wp2_with (first | (go_at_call 19; go_must (with_reducible refine (row_calls A 0 c L _ (Kd.C_below hC (by repeat (first | (with_reducible first | exact HB.out | apply below_alloc | apply pw_below_drewN | apply below_drew1) | exact HB.out))) hS hc hcm).mono ?_); rintro e W1 ⟨v7, rfl, hb, hv_, hz_⟩; obtain rfl := hv_ rfl; clear hv_ hz_; have NBKgp_ := Aside0.mk (blk_below (o := (Obj.cells (#[.int .i64 x, .int .i64 y]) 41 (0, 0))) (by (with_reducible repeat (first | refine blk_drewN ?_ _ | refine blk_drew ?_ | refine blk_alloc ?_ _)); exact BKgp.out) hb); have NBKgm_ := Aside0.mk (blk_below (o := (Obj.cells (bys (X ++ Y)) 42 (0, 0))) (by (with_reducible repeat (first | refine blk_drewN ?_ _ | refine blk_drew ?_ | refine blk_alloc ?_ _)); exact BKgm.out) hb); have NHB_ := Aside0.mk (below_step (by repeat (first | (with_reducible first | exact HB.out | apply below_alloc | apply pw_below_drewN | apply below_drew1) | exact HB.out)) hb); clear BKgp BKgm HB; have BKgp := NBKgp_; have BKgm := NBKgm_; have HB := NHB_; clear NBKgp_ NBKgm_ NHB_; clear hb) | ((with_reducible refine gate_dst (N := 15) rfl ?_); go_must (refine Kd.event_run rfl (exec_nil33 (A := none) rfl rfl rfl) ?_)) | (go_at_call 12; go_must (with_reducible refine (works_calls _).mono ?_); rintro e W2 ⟨rfl, hb⟩; have NBKgp_ := Aside0.mk (blk_below (o := (Obj.cells (#[.int .i64 x, .int .i64 y]) 41 (0, 0))) (by (with_reducible repeat (first | refine blk_drewN ?_ _ | refine blk_drew ?_ | refine blk_alloc ?_ _)); exact BKgp.out) hb); have NBKgm_ := Aside0.mk (blk_below (o := (Obj.cells (bys (X ++ Y)) 42 (0, 0))) (by (with_reducible repeat (first | refine blk_drewN ?_ _ | refine blk_drew ?_ | refine blk_alloc ?_ _)); exact BKgm.out) hb); have NHB_ := Aside0.mk (below_step (by repeat (first | (with_reducible first | exact HB.out | apply below_alloc | apply pw_below_drewN | apply below_drew1) | exact HB.out)) hb); clear BKgp BKgm HB; have BKgp := NBKgp_; have BKgm := NBKgm_; have HB := NHB_; clear NBKgp_ NBKgm_ NHB_; clear hb))
    exact bodyPost_ret (v := .bool true) (results_single rfl (.tmp .nil)) rfl ⟨rfl, HB.out⟩

end Go.Proofs.Ytonjgbcibjnpoaa.Pw
