import Derived.Test.YtonjgbcibjnpoaaPb
import Derived.Test.YtonjgbcibjnpoaaSd
import Derived.Test.YtonjgbcibjnpoaaSs
import Derived.Test.YtonjgbcibjnpoaaSr
import Derived.Test.YtonjgbcibjnpoaaPw
import Derived.Test.YtonjgbcibjnpoaaPu
import Derived.Test.YtonjgbcibjnpoaaDv
import Derived.Test.YtonjgbcibjnpoaaSq
import Derived.WalkSpells
import Derived.OpenShut
import Derived.Outline
import Derived.Lib.Hide
namespace Go.Proofs.Ytonjgbcibjnpoaa.Pw
open Go.RowKit Go.Shelf Go.Proofs.YtonjgbcibjnpoaaW.PrintWords Go.Proofs.YtonjgbcibjnpoaaW.PrintLast Go.Proofs.YtonjgbcibjnpoaaW.PrintMore Go.Proofs.Ytonjgbcibjnpoaa.Gf Go.Proofs.Ytonjgbcibjnpoaa.Sc Go.Proofs.Ytonjgbcibjnpoaa.Pb Go.Proofs.Ytonjgbcibjnpoaa.Sd Go.Proofs.Ytonjgbcibjnpoaa.Ss Go.Proofs.Ytonjgbcibjnpoaa.Sr Go.Proofs.Ytonjgbcibjnpoaa.Pd Go.Proofs.Ytonjgbcibjnpoaa.Dv Go.Proofs.Ytonjgbcibjnpoaa.Sq
set_option linter.unusedVariables false
set_option linter.unusedSimpArgs false


theorem mix_last {r a : List Nat} {k : Nat} (h : k < r.length) : (mix r a (k + 1)).getD k 0 = r.getD k 0 := by
  unfold mix
  rw [List.getD_eq_getElem?_getD, List.getElem?_append_left (by rw [List.length_take]; omega), List.getElem?_take_of_lt (by omega), ← List.getD_eq_getElem?_getD]
/-- Both of two data columns, of what the parities of the others leave: factors u and v. -/
def twoA (p q : List Nat) (u v : Nat) : List Nat := mulL (xorL q (mulL p v)) (ginv (u ^^^ v))
def twoB (p q : List Nat) (u v : Nat) : List Nat := xorL p (twoA p q u v)
theorem twoA_sec {p q : List Nat} {u v : Nat} (hp : Sec p) (hq : Sec q) : Sec (twoA p q u v) := mulL_sec (xorL_sec hq (mulL_sec hp))
theorem twoB_sec {p q : List Nat} {u v : Nat} (hp : Sec p) (hq : Sec q) : Sec (twoB p q u v) := xorL_sec hp (twoA_sec hp hq)
theorem twoA_get {p q : List Nat} {u v k : Nat} (hp : Sec p) (hq : Sec q) (hv : v < 256) (hk : k < 64) : (twoA p q u v).getD k 0 = gmul (q.getD k 0 ^^^ gmul v (p.getD k 0)) (ginv (u ^^^ v)) := by
  unfold twoA
  have h1 := xorL_sec hq (mulL_sec (f := v) hp)
  rw [mulL_get (by rw [h1.len]; exact hk), xorL_get (by rw [hq.len]; exact hk) (by rw [mulL_length hp.len]; exact hk), mulL_get (by rw [hp.len]; exact hk), gmul_comm (hp.get k) hv]
theorem twoB_get {p q : List Nat} {u v k : Nat} (hp : Sec p) (hq : Sec q) (hk : k < 64) : (twoB p q u v).getD k 0 = p.getD k 0 ^^^ (twoA p q u v).getD k 0 := by
  unfold twoB
  rw [xorL_get (by rw [hp.len]; exact hk) (by rw [(twoA_sec hp hq).len]; exact hk)]
set_option maxHeartbeats 4000000 in
set_option maxRecDepth 100000 in
theorem two_calls (p q : List Nat) (x y : Int) (w : World) (hp : Sec p) (hq : Sec q) (huv : pwZ x ^^^ pwZ y ≠ 0) : Calls Try.prog 37 #[.agg (bys p), .agg (bys q), .int .i64 x, .int .i64 y] w fun e w' => e = .returned (.tuple #[.agg (bys (twoA p q (pwZ x) (pwZ y))), .agg (bys (twoB p q (pwZ x) (pwZ y)))]) ∧ Below w.heap.size w w' := by
  have HB := Aside0.mk (Below.refl w.heap.size w)
  obtain ⟨u, eu⟩ : ∃ u, u = pwZ x := ⟨_, rfl⟩
  obtain ⟨v, ev⟩ : ∃ v, v = pwZ y := ⟨_, rfl⟩
  have hu : u < 256 := by rw [eu]; exact pwZ_lt _
  have hv : v < 256 := by rw [ev]; exact pwZ_lt _
  rw [← eu, ← ev] at huv
  rw [← eu, ← ev]
  obtain ⟨a, ea⟩ : ∃ a, a = twoA p q u v := ⟨_, rfl⟩
  obtain ⟨b, eb⟩ : ∃ b, b = twoB p q u v := ⟨_, rfl⟩
  have sa : Sec a := by rw [ea]; exact twoA_sec hp hq
  have sb : Sec b := by rw [eb]; exact twoB_sec hp hq
  rw [← ea, ← eb]
  obtain ⟨g, eg⟩ : ∃ g, g = u ^^^ v := ⟨_, rfl⟩
  have hg : g < 256 := by rw [eg]; exact xor_lt hu hv
  have hg0 : g ≠ 0 := by rw [eg]; exact huv
  have hgx := xor8 hu hv
  rw [← eg] at hgx
  have EU := Lib.hid eu
  have EV := Lib.hid ev
  have EA := Lib.hid ea
  have EB := Lib.hid eb
  have EG := Lib.hid eg
  have SA := Lib.hid sa
  have SB := Lib.hid sb
  have SP := Lib.hid hp
  have SQ := Lib.hid hq
  have HU := Lib.hid hu
  have HV := Lib.hid hv
  have HG := Lib.hid hg
  have HG0 := Lib.hid hg0
  clear eu ev ea eb eg sa sb hp hq hu hv hg hg0 huv
  go_enter Try.func37, Try.ntmps37
  go_wp2_with fail
  rw [zlit]
  obtain ⟨q0_, q1_, q2_, q3_, nb_⟩ := Wk.blks4 w (Obj.cells (bys p) 23 (0, 0)) (Obj.cells (bys q) 23 (0, 0)) (Obj.cells (bys zeros) 23 (0, 0)) (Obj.cells (bys zeros) 23 (0, 0))
  obtain ⟨W1, hW_⟩ : ∃ W, W = ((((w.alloc (Obj.cells (bys p) 23 (0, 0))).alloc (Obj.cells (bys q) 23 (0, 0))).alloc (Obj.cells (bys zeros) 23 (0, 0))).alloc (Obj.cells (bys zeros) 23 (0, 0))) := ⟨_, rfl⟩
  rw [← hW_]
  rw [← hW_] at q0_
  rw [← hW_] at q1_
  rw [← hW_] at q2_
  rw [← hW_] at q3_
  rw [← hW_] at nb_
  have sz_ := below_size HB.out
  have hb2_ := Aside0.mk (below_step HB.out nb_)
  obtain ⟨g4, hgg4_⟩ : ∃ g, g = w.heap.size := ⟨_, rfl⟩
  obtain ⟨g5, hgg5_⟩ : ∃ g, g = w.heap.size + 1 := ⟨_, rfl⟩
  obtain ⟨g8, hgg8_⟩ : ∃ g, g = w.heap.size + 1 + 1 := ⟨_, rfl⟩
  obtain ⟨g9, hgg9_⟩ : ∃ g, g = w.heap.size + 1 + 1 + 1 := ⟨_, rfl⟩
  rw [← hgg9_]
  rw [← hgg9_] at q3_
  rw [← hgg8_]
  rw [← hgg8_] at q2_
  rw [← hgg5_]
  rw [← hgg5_] at q1_
  rw [← hgg4_]
  rw [← hgg4_] at q0_
  have hge_ : w.heap.size ≤ g4 := (by omega)
  have GEg4 := Aside0.mk hge_
  clear hge_
  have hge_ : w.heap.size ≤ g5 := (by omega)
  have GEg5 := Aside0.mk hge_
  clear hge_
  have Dg4g5 : g4 ≠ g5 := (by omega)
  have Dg5g4 : g5 ≠ g4 := (by omega)
  have hge_ : w.heap.size ≤ g8 := (by omega)
  have GEg8 := Aside0.mk hge_
  clear hge_
  have Dg4g8 : g4 ≠ g8 := (by omega)
  have Dg8g4 : g8 ≠ g4 := (by omega)
  have Dg5g8 : g5 ≠ g8 := (by omega)
  have Dg8g5 : g8 ≠ g5 := (by omega)
  have hge_ : w.heap.size ≤ g9 := (by omega)
  have GEg9 := Aside0.mk hge_
  clear hge_
  have Dg4g9 : g4 ≠ g9 := (by omega)
  have Dg9g4 : g9 ≠ g4 := (by omega)
  have Dg5g9 : g5 ≠ g9 := (by omega)
  have Dg9g5 : g9 ≠ g5 := (by omega)
  have Dg8g9 : g8 ≠ g9 := (by omega)
  have Dg9g8 : g9 ≠ g8 := (by omega)
  have BKg4 := Aside0.mk q0_
  have BKg5 := Aside0.mk q1_
  have BKg8 := Aside0.mk q2_
  have BKg9 := Aside0.mk q3_
  clear HB
  have HB := hb2_
  clear hb2_ sz_ hW_ nb_ hgg4_ hgg5_ hgg8_ hgg9_ q0_ q1_ q2_ q3_
  have tokx := Lib.hid trivial
  have toky := Lib.hid trivial
  go_wp2_with (first | (go_at_call 27; have tk_ := tokx; clear tk_ tokx; go_must (with_reducible refine (pow_calls x _).mono ?_); rintro e W2 ⟨rfl, hq_⟩; rw [← EU.out]; obtain ⟨nd_, hq_⟩ := hq_.out; have NBKg4_ := Aside0.mk ((by rw [hq_]; exact blk_drewN (by (with_reducible repeat (first | refine blk_drewN ?_ _ | refine blk_drew ?_ | refine blk_alloc ?_ _)); exact BKg4.out) nd_ : W2.heap[g4]? = some (Obj.cells (bys p) 23 (0, 0)))); have NBKg5_ := Aside0.mk ((by rw [hq_]; exact blk_drewN (by (with_reducible repeat (first | refine blk_drewN ?_ _ | refine blk_drew ?_ | refine blk_alloc ?_ _)); exact BKg5.out) nd_ : W2.heap[g5]? = some (Obj.cells (bys q) 23 (0, 0)))); have NBKg8_ := Aside0.mk ((by rw [hq_]; exact blk_drewN (by (with_reducible repeat (first | refine blk_drewN ?_ _ | refine blk_drew ?_ | refine blk_alloc ?_ _)); exact BKg8.out) nd_ : W2.heap[g8]? = some (Obj.cells (bys zeros) 23 (0, 0)))); have NBKg9_ := Aside0.mk ((by rw [hq_]; exact blk_drewN (by (with_reducible repeat (first | refine blk_drewN ?_ _ | refine blk_drew ?_ | refine blk_alloc ?_ _)); exact BKg9.out) nd_ : W2.heap[g9]? = some (Obj.cells (bys zeros) 23 (0, 0)))); have NHB_ := Aside0.mk ((by rw [hq_]; exact pw_below_drewN (by repeat (first | (with_reducible first | exact HB.out | apply below_alloc | apply pw_below_drewN | apply below_drew1) | exact HB.out)) nd_ : Below w.heap.size w W2)); clear BKg4 BKg5 BKg8 BKg9 HB; have BKg4 := NBKg4_; have BKg5 := NBKg5_; have BKg8 := NBKg8_; have BKg9 := NBKg9_; have HB := NHB_; clear NBKg4_ NBKg5_ NBKg8_ NBKg9_ NHB_; clear hq_ nd_) | (go_at_call 27; have tk_ := toky; clear tk_ toky; go_must (with_reducible refine (pow_calls y _).mono ?_); rintro e W3 ⟨rfl, hq_⟩; rw [← EV.out]; obtain ⟨nd_, hq_⟩ := hq_.out; have NBKg4_ := Aside0.mk ((by rw [hq_]; exact blk_drewN (by (with_reducible repeat (first | refine blk_drewN ?_ _ | refine blk_drew ?_ | refine blk_alloc ?_ _)); exact BKg4.out) nd_ : W3.heap[g4]? = some (Obj.cells (bys p) 23 (0, 0)))); have NBKg5_ := Aside0.mk ((by rw [hq_]; exact blk_drewN (by (with_reducible repeat (first | refine blk_drewN ?_ _ | refine blk_drew ?_ | refine blk_alloc ?_ _)); exact BKg5.out) nd_ : W3.heap[g5]? = some (Obj.cells (bys q) 23 (0, 0)))); have NBKg8_ := Aside0.mk ((by rw [hq_]; exact blk_drewN (by (with_reducible repeat (first | refine blk_drewN ?_ _ | refine blk_drew ?_ | refine blk_alloc ?_ _)); exact BKg8.out) nd_ : W3.heap[g8]? = some (Obj.cells (bys zeros) 23 (0, 0)))); have NBKg9_ := Aside0.mk ((by rw [hq_]; exact blk_drewN (by (with_reducible repeat (first | refine blk_drewN ?_ _ | refine blk_drew ?_ | refine blk_alloc ?_ _)); exact BKg9.out) nd_ : W3.heap[g9]? = some (Obj.cells (bys zeros) 23 (0, 0)))); have NHB_ := Aside0.mk ((by rw [hq_]; exact pw_below_drewN (by repeat (first | (with_reducible first | exact HB.out | apply below_alloc | apply pw_below_drewN | apply below_drew1) | exact HB.out)) nd_ : Below w.heap.size w W3)); clear BKg4 BKg5 BKg8 BKg9 HB; have BKg4 := NBKg4_; have BKg5 := NBKg5_; have BKg8 := NBKg8_; have BKg9 := NBKg9_; have HB := NHB_; clear NBKg4_ NBKg5_ NBKg8_ NBKg9_ NHB_; clear hq_ nd_))
  go_loopw [12, 17] (fun kk i wr => ∃ k : Nat, k ≤ 64 ∧ i = .int .i64 k ∧ Aside0 (wr.heap[g4]? = some (.cells (bys p) 23 (0, 0))) ∧ Aside0 (wr.heap[g5]? = some (.cells (bys q) 23 (0, 0))) ∧ Aside0 (wr.heap[g8]? = some (.cells (bys (mix a zeros k)) 23 (0, 0))) ∧ Aside0 (wr.heap[g9]? = some (.cells (bys (mix b zeros k)) 23 (0, 0))) ∧ Aside0 (Below w.heap.size w wr)) (fun _ i _ => 64 - (intOf i).toNat)
  case atStart => exact ⟨0, by omega, rfl, BKg4, BKg5, ⟨by rw [mix_zero]; exact BKg8.out⟩, ⟨by rw [mix_zero]; exact BKg9.out⟩, HB⟩
  case round =>
    clear BKg4 BKg5 BKg8 BKg9 HB
    obtain ⟨k, hk, rfl, BKg4, BKg5, BKg8, BKg9, HB⟩ := hrel
    by_cases hkt : k < 64
    · skip
      have h2 : decide ((k : Int) < 64) = true := by simp; omega
      have hk0 : (0 : Int) ≤ (k : Int) := by omega
      have hk9 : (k : Int) < 64 := by omega
      have HKT := Lib.hid hkt
      obtain ⟨xp, ep_⟩ : ∃ x, x = p.getD k 0 := ⟨_, rfl⟩
      obtain ⟨xq, eq_⟩ : ∃ x, x = q.getD k 0 := ⟨_, rfl⟩
      obtain ⟨xa, ea_⟩ : ∃ x, x = a.getD k 0 := ⟨_, rfl⟩
      have lp : xp < 256 := by rw [ep_]; exact SP.out.get k
      have lq : xq < 256 := by rw [eq_]; exact SQ.out.get k
      have la : xa < 256 := by rw [ea_]; exact SA.out.get k
      obtain ⟨t, et⟩ : ∃ t, t = gmul v xp := ⟨_, rfl⟩
      have lt_ : t < 256 := by rw [et]; exact gmul_lt HV.out
      have y1 := xor8 lq lt_
      obtain ⟨r, er⟩ : ∃ r, r = xq ^^^ t := ⟨_, rfl⟩
      rw [← er] at y1
      have lr : r < 256 := by rw [er]; exact xor_lt lq lt_
      have y2 := xor8 lp la
      have hxa : gmul r (ginv g) = xa := by rw [er, et, EG.out, eq_, ep_, ea_, EA.out, twoA_get SP.out SQ.out HV.out hkt]
      have hxb : xp ^^^ xa = b.getD k 0 := by rw [ep_, ea_, EB.out, EA.out, twoB_get SP.out SQ.out hkt]
      have n1 := mix_set (r := a) (a := zeros) (k := k) (by rw [SA.out.len, zeros_length]) (by rw [zeros_length]; exact hkt)
      rw [← ea_] at n1
      have n2 := mix_set (r := b) (a := zeros) (k := k) (by rw [SB.out.len, zeros_length]) (by rw [zeros_length]; exact hkt)
      rw [← hxb] at n2
      have m1 := mix_length (r := a) (a := zeros) (k := k) (by rw [SA.out.len, zeros_length]) (by rw [zeros_length]; omega)
      have m2 := mix_length (r := b) (a := zeros) (k := k) (by rw [SB.out.len, zeros_length]) (by rw [zeros_length]; omega)
      have m3 := mix_length (r := a) (a := zeros) (k := k + 1) (by rw [SA.out.len, zeros_length]) (by rw [zeros_length]; omega)
      rw [zeros_length] at m1 m2 m3
      have n3 := mix_last (r := a) (a := zeros) (k := k) (by rw [SA.out.len]; exact hkt)
      rw [← ea_] at n3
      have HN1 := Lib.hid n1
      have HN2 := Lib.hid n2
      have HN3 := Lib.hid n3
      have HM1 := Lib.hid m1
      have HM2 := Lib.hid m2
      have HM3 := Lib.hid m3
      have HLP := Lib.hid lp
      have HLR := Lib.hid lr
      have HHXA := Lib.hid hxa
      have ET := Lib.hid et
      have EP_ := Lib.hid ep_
      have EQ_ := Lib.hid eq_
      clear ep_ eq_ ea_ lp lq la et lt_ er lr hxa hxb n1 n2 n3 m1 m2 m3
      go_wp2_with fail
      have NBKg4_ := Aside0.mk (blk_drew BKg4.out)
      have NBKg5_ := Aside0.mk (blk_drew BKg5.out)
      have NBKg8_ := Aside0.mk (blk_drew BKg8.out)
      have NBKg9_ := Aside0.mk (blk_drew BKg9.out)
      have NHB_ := Aside0.mk (below_drew1 HB.out)
      clear BKg4 BKg5 BKg8 BKg9 HB
      have BKg4 := NBKg4_
      have BKg5 := NBKg5_
      have BKg8 := NBKg8_
      have BKg9 := NBKg9_
      have HB := NHB_
      clear NBKg4_ NBKg5_ NBKg8_ NBKg9_ NHB_
      refine start_ (n := 19) (S := fun w' => (w'.heap[g4]? = some (Obj.cells (bys p) 23 (0, 0))) ∧ (w'.heap[g5]? = some (Obj.cells (bys q) 23 (0, 0)))) (ds := [18]) #[false, false, false, false, false, false, false, false, false, false, false, false, false, false, false, false, false, false, false] (by kernel_rfl) rfl rfl (⟨BKg4.out, BKg5.out⟩) (fun hHeld => ?_)
      generalize wr.drew = V0 at BKg4 BKg5 BKg8 BKg9 HB hHeld ⊢
      refine pure_ (i := 0) (N := some 21) (v := ?_) (a' := ?_) #[true, false, false, false, false, false, false, false, false, false, false, false, false, false, false, false, false, false, false] rfl rfl (by kernel_rfl) (fun _ _ _ h => h) (Or.inl ⟨by rfl, ?_⟩) ?_ ?_
      rotate_left
      · intro w'
        go_simp
        with_reducible rfl
      rotate_left
      · simp only [Act.put, List.setIfInBounds_toArray, List.set_cons_zero, List.set_cons_succ, i64_w, i32_w]
        rfl
      refine pure_ (i := 1) (N := some 22) (v := ?_) (a' := ?_) #[true, true, false, false, false, false, false, false, false, false, false, false, false, false, false, false, false, false, false] rfl rfl (by kernel_rfl) (fun _ _ _ h => h) (Or.inl ⟨by rfl, ?_⟩) ?_ ?_
      rotate_left
      · intro w'
        go_simp
        with_reducible rfl
      rotate_left
      · simp only [Act.put, List.setIfInBounds_toArray, List.set_cons_zero, List.set_cons_succ, i64_w, i32_w]
        rfl
      refine pure_ (i := 2) (N := some 23) (v := ?_) (a' := ?_) #[true, true, true, false, false, false, false, false, false, false, false, false, false, false, false, false, false, false, false] rfl rfl (by kernel_rfl) (fun _ _ _ h => h) (Or.inl ⟨by rfl, ?_⟩) ?_ ?_
      rotate_left
      · intro w'
        go_simp
        with_reducible rfl
      rotate_left
      · simp only [Act.put, List.setIfInBounds_toArray, List.set_cons_zero, List.set_cons_succ, i64_w, i32_w]
        rfl
      refine take_ (i := 3) (N := some 24) (v := .int .u8 (xq : Int)) (a' := ?_) #[true, true, true, true, false, false, false, false, false, false, false, false, false, false, false, false, false, false, false] rfl rfl (by kernel_rfl) (fun _ _ _ h => h) (Or.inl ⟨by rfl, ?_⟩) hHeld ?_ ?_
      · rintro w' ⟨k_g4, k_g5⟩
        exact exec_one (v := .int .u8 (xq : Int)) agg5 rfl rfl (by rw [EQ_.out]; exact cell_bys k_g5 (by rw [SQ.out.len]; exact HKT.out))
      rotate_left
      · simp only [Act.put, List.setIfInBounds_toArray, List.set_cons_zero, List.set_cons_succ, i64_w, i32_w]
        rfl
      refine pure_ (i := 4) (N := some 25) (v := ?_) (a' := ?_) #[true, true, true, true, true, false, false, false, false, false, false, false, false, false, false, false, false, false, false] rfl rfl (by kernel_rfl) (fun _ _ _ h => h) (Or.inl ⟨by rfl, ?_⟩) ?_ ?_
      rotate_left
      · intro w'
        go_simp
        with_reducible rfl
      rotate_left
      · simp only [Act.put, List.setIfInBounds_toArray, List.set_cons_zero, List.set_cons_succ, i64_w, i32_w]
        rfl
      refine pure_ (i := 5) (N := some 26) (v := ?_) (a' := ?_) #[true, true, true, true, true, true, false, false, false, false, false, false, false, false, false, false, false, false, false] rfl rfl (by kernel_rfl) (fun _ _ _ h => h) (Or.inl ⟨by rfl, ?_⟩) ?_ ?_
      rotate_left
      · intro w'
        go_simp
        with_reducible rfl
      rotate_left
      · simp only [Act.put, List.setIfInBounds_toArray, List.set_cons_zero, List.set_cons_succ, i64_w, i32_w]
        rfl
      refine pure_ (i := 6) (N := some 27) (v := ?_) (a' := ?_) #[true, true, true, true, true, true, true, false, false, false, false, false, false, false, false, false, false, false, false] rfl rfl (by kernel_rfl) (fun _ _ _ h => h) (Or.inl ⟨by rfl, ?_⟩) ?_ ?_
      rotate_left
      · intro w'
        go_simp
        with_reducible rfl
      rotate_left
      · simp only [Act.put, List.setIfInBounds_toArray, List.set_cons_zero, List.set_cons_succ, i64_w, i32_w]
        rfl
      refine take_ (i := 7) (N := some 28) (v := .int .u8 (xp : Int)) (a' := ?_) #[true, true, true, true, true, true, true, true, false, false, false, false, false, false, false, false, false, false, false] rfl rfl (by kernel_rfl) (fun _ _ _ h => h) (Or.inl ⟨by rfl, ?_⟩) hHeld ?_ ?_
      · rintro w' ⟨k_g4, k_g5⟩
        exact exec_one (v := .int .u8 (xp : Int)) agg5 rfl rfl (by rw [EP_.out]; exact cell_bys k_g4 (by rw [SP.out.len]; exact HKT.out))
      rotate_left
      · simp only [Act.put, List.setIfInBounds_toArray, List.set_cons_zero, List.set_cons_succ, i64_w, i32_w]
        rfl
      refine pure_ (i := 10) (N := some 31) (v := ?_) (a' := ?_) #[true, true, true, true, true, true, true, true, false, false, true, false, false, false, false, false, false, false, false] rfl rfl (by kernel_rfl) (fun _ _ _ h => h) (Or.inl ⟨by rfl, ?_⟩) ?_ ?_
      rotate_left
      · intro w'
        go_simp
        with_reducible rfl
      rotate_left
      · simp only [Act.put, List.setIfInBounds_toArray, List.set_cons_zero, List.set_cons_succ, i64_w, i32_w]
        rfl
      refine pure_ (i := 11) (N := some 32) (v := ?_) (a' := ?_) #[true, true, true, true, true, true, true, true, false, false, true, true, false, false, false, false, false, false, false] rfl rfl (by kernel_rfl) (fun _ _ _ h => h) (Or.inl ⟨by rfl, ?_⟩) ?_ ?_
      rotate_left
      · intro w'
        go_simp
        with_reducible rfl
      rotate_left
      · simp only [Act.put, List.setIfInBounds_toArray, List.set_cons_zero, List.set_cons_succ, i64_w, i32_w]
        rfl
      refine pure_ (i := 12) (N := some 33) (v := ?_) (a' := ?_) #[true, true, true, true, true, true, true, true, false, false, true, true, true, false, false, false, false, false, false] rfl rfl (by kernel_rfl) (fun _ _ _ h => h) (Or.inl ⟨by rfl, ?_⟩) ?_ ?_
      rotate_left
      · intro w'
        go_simp
        with_reducible rfl
      rotate_left
      · simp only [Act.put, List.setIfInBounds_toArray, List.set_cons_zero, List.set_cons_succ, i64_w, i32_w]
        rfl
      refine one_ (i := 8) (N := some 29) #[true, true, true, true, true, true, true, true, true, false, true, true, true, false, false, false, false, false, false] rfl rfl (by kernel_rfl) (by decide) (fun K hK => ?_)
      refine goes_ Try.func42 (by kernel_rfl) rfl #[.int .u8 (v : Int), .int .u8 (xp : Int)] (by rfl) rfl rfl (by (try simp only [List.map_toArray, List.map_cons, List.map_nil]); first | done | rfl) ?_
      with_reducible refine ((by have h_ := mul_calls HV.out HLP.out V0; rw [← ET.out] at h_; exact h_ : Calls Try.prog 42 #[.int .u8 (v : Int), .int .u8 (xp : Int)] V0 _)).mono ?_
      rintro e w_ ⟨rfl, ⟨nd_, rfl⟩⟩
      refine ⟨_, rfl, ?_⟩
      have NBKg4_ := Aside0.mk (blk_drewN BKg4.out nd_)
      have NBKg5_ := Aside0.mk (blk_drewN BKg5.out nd_)
      have NBKg8_ := Aside0.mk (blk_drewN BKg8.out nd_)
      have NBKg9_ := Aside0.mk (blk_drewN BKg9.out nd_)
      have NHB_ := Aside0.mk (pw_below_drewN HB.out nd_)
      clear BKg4 BKg5 BKg8 BKg9 HB
      have BKg4 := NBKg4_
      have BKg5 := NBKg5_
      have BKg8 := NBKg8_
      have BKg9 := NBKg9_
      have HB := NHB_
      clear NBKg4_ NBKg5_ NBKg8_ NBKg9_ NHB_
      refine hK.out _ _ (⟨BKg4.out, BKg5.out⟩) (fun hHeld => ?_)
      clear hK K
      refine norm_ (a' := ?_) ?_ ?_
      rotate_left
      · show Act.put _ (some 29) _ = _
        simp only [Act.put, List.setIfInBounds_toArray, List.set_cons_zero, List.set_cons_succ, i64_w, i32_w]
        rfl
      generalize V0.drewN nd_ = V1 at BKg4 BKg5 BKg8 BKg9 HB hHeld ⊢
      refine pure_ (i := 9) (N := some 30) (v := ?_) (a' := ?_) #[true, true, true, true, true, true, true, true, true, true, true, true, true, false, false, false, false, false, false] rfl rfl (by kernel_rfl) (fun _ _ _ h => h) (Or.inl ⟨by rfl, ?_⟩) ?_ ?_
      rotate_left
      · intro w'
        go_simp
        with_reducible rfl
      rotate_left
      · simp only [Act.put, List.setIfInBounds_toArray, List.set_cons_zero, List.set_cons_succ, i64_w, i32_w]
        rfl
      refine one_ (i := 13) (N := some 34) #[true, true, true, true, true, true, true, true, true, true, true, true, true, true, false, false, false, false, false] rfl rfl (by kernel_rfl) (by decide) (fun K hK => ?_)
      refine goes_ Try.func46 (by kernel_rfl) rfl #[.int .u8 (r : Int), .int .u8 (g : Int)] (by rfl) rfl rfl (by (try simp only [List.map_toArray, List.map_cons, List.map_nil]); first | done | rfl) ?_
      with_reducible refine ((by have h_ := div_calls HLR.out HG.out HG0.out V1; rw [HHXA.out] at h_; exact h_ : Calls Try.prog 46 #[.int .u8 (r : Int), .int .u8 (g : Int)] V1 _)).mono ?_
      rintro e w_ ⟨rfl, ⟨nd_, rfl⟩⟩
      refine ⟨_, rfl, ?_⟩
      have NBKg4_ := Aside0.mk (blk_drewN BKg4.out nd_)
      have NBKg5_ := Aside0.mk (blk_drewN BKg5.out nd_)
      have NBKg8_ := Aside0.mk (blk_drewN BKg8.out nd_)
      have NBKg9_ := Aside0.mk (blk_drewN BKg9.out nd_)
      have NHB_ := Aside0.mk (pw_below_drewN HB.out nd_)
      clear BKg4 BKg5 BKg8 BKg9 HB
      have BKg4 := NBKg4_
      have BKg5 := NBKg5_
      have BKg8 := NBKg8_
      have BKg9 := NBKg9_
      have HB := NHB_
      clear NBKg4_ NBKg5_ NBKg8_ NBKg9_ NHB_
      refine hK.out _ _ (⟨BKg4.out, BKg5.out⟩) (fun hHeld => ?_)
      clear hK K
      refine norm_ (a' := ?_) ?_ ?_
      rotate_left
      · show Act.put _ (some 34) _ = _
        simp only [Act.put, List.setIfInBounds_toArray, List.set_cons_zero, List.set_cons_succ, i64_w, i32_w]
        rfl
      generalize V1.drewN nd_ = V2 at BKg4 BKg5 BKg8 BKg9 HB hHeld ⊢
      refine pure_ (i := 14) (N := some 20) (v := ?_) (a' := ?_) #[true, true, true, true, true, true, true, true, true, true, true, true, true, true, true, false, false, false, false] rfl rfl (by kernel_rfl) (fun _ _ _ h => h) (Or.inl ⟨by rfl, ?_⟩) ?_ ?_
      rotate_left
      · intro w'
        go_simp
        with_reducible rfl
      rotate_left
      · simp only [Act.put, List.setIfInBounds_toArray, List.set_cons_zero, List.set_cons_succ, i64_w, i32_w]
        rfl
      refine pure_ (i := 15) (N := some 35) (v := ?_) (a' := ?_) #[true, true, true, true, true, true, true, true, true, true, true, true, true, true, true, true, false, false, false] rfl rfl (by kernel_rfl) (fun _ _ _ h => h) (Or.inl ⟨by rfl, ?_⟩) ?_ ?_
      rotate_left
      · intro w'
        go_simp
        with_reducible rfl
      rotate_left
      · simp only [Act.put, List.setIfInBounds_toArray, List.set_cons_zero, List.set_cons_succ, i64_w, i32_w]
        rfl
      refine pure_ (i := 16) (N := some 36) (v := ?_) (a' := ?_) #[true, true, true, true, true, true, true, true, true, true, true, true, true, true, true, true, true, false, false] rfl rfl (by kernel_rfl) (fun _ _ _ h => h) (Or.inl ⟨by rfl, ?_⟩) ?_ ?_
      rotate_left
      · intro w'
        go_simp
        with_reducible rfl
      rotate_left
      · simp only [Act.put, List.setIfInBounds_toArray, List.set_cons_zero, List.set_cons_succ, i64_w, i32_w]
        rfl
      refine pure_ (i := 17) (N := some 37) (v := ?_) (a' := ?_) #[true, true, true, true, true, true, true, true, true, true, true, true, true, true, true, true, true, true, false] rfl rfl (by kernel_rfl) (fun _ _ _ h => h) (Or.inl ⟨by rfl, ?_⟩) ?_ ?_
      rotate_left
      · intro w'
        go_simp
        with_reducible rfl
      rotate_left
      · simp only [Act.put, List.setIfInBounds_toArray, List.set_cons_zero, List.set_cons_succ, i64_w, i32_w]
        rfl
      refine last_ (i := 18) (N := none) #[true, true, true, true, true, true, true, true, true, true, true, true, true, true, true, true, true, true, true] rfl rfl (by kernel_rfl) (by decide) (fun K hK => ?_)
      refine skip_ (by rfl) rfl (exec_put (cs' := bys (mix a zeros (k + 1))) (off := k) (v := .int .u8 ((xa : Int))) size5 rfl rfl rfl rfl one_int BKg8.out (by rw [bys_size, HM1.out]; have := HKT.out; omega) ((putc_byte (by rw [HM1.out]; exact HKT.out)).trans (by rw [HN1.out]))) ?_
      obtain ⟨V3, hW_⟩ : ∃ W, W = V2.setRow g8 (bys (mix a zeros (k + 1))) := ⟨_, rfl⟩
      rw [← hW_]
      have NBKg4_ := Aside0.mk ((by rw [hW_]; exact setRow_far BKg4.out Dg4g8 : V3.heap[g4]? = some (Obj.cells (bys p) 23 (0, 0))))
      have NBKg5_ := Aside0.mk ((by rw [hW_]; exact setRow_far BKg5.out Dg5g8 : V3.heap[g5]? = some (Obj.cells (bys q) 23 (0, 0))))
      have NBKg8_ := Aside0.mk ((by rw [hW_]; exact setRow_blk BKg8.out : V3.heap[g8]? = some (Obj.cells (bys (mix a zeros (k + 1))) 23 (0, 0))))
      have NBKg9_ := Aside0.mk ((by rw [hW_]; exact setRow_far BKg9.out Dg9g8 : V3.heap[g9]? = some (Obj.cells (bys (mix b zeros k)) 23 (0, 0))))
      have NHB_ := Aside0.mk ((by rw [hW_]; exact setRow_below (HB.out) GEg8.out : Below w.heap.size w V3))
      clear BKg4 BKg5 BKg8 BKg9 HB
      have BKg4 := NBKg4_
      have BKg5 := NBKg5_
      have BKg8 := NBKg8_
      have BKg9 := NBKg9_
      have HB := NHB_
      clear NBKg4_ NBKg5_ NBKg8_ NBKg9_ NHB_
      clear hW_
      refine hK.out _ _ ?_
      clear hK K
      refine done_ (by kernel_rfl) ?_
      go_wp2_with fail
      have NBKg4_ := Aside0.mk (blk_drew BKg4.out)
      have NBKg5_ := Aside0.mk (blk_drew BKg5.out)
      have NBKg8_ := Aside0.mk (blk_drew BKg8.out)
      have NBKg9_ := Aside0.mk (blk_drew BKg9.out)
      have NHB_ := Aside0.mk (below_drew1 HB.out)
      clear BKg4 BKg5 BKg8 BKg9 HB
      have BKg4 := NBKg4_
      have BKg5 := NBKg5_
      have BKg8 := NBKg8_
      have BKg9 := NBKg9_
      have HB := NHB_
      clear NBKg4_ NBKg5_ NBKg8_ NBKg9_ NHB_
      refine start_ (n := 10) (S := fun w' => (w'.heap[g4]? = some (Obj.cells (bys p) 23 (0, 0))) ∧ (w'.heap[g8]? = some (Obj.cells (bys (mix a zeros (k + 1))) 23 (0, 0)))) (ds := [9]) #[false, false, false, false, false, false, false, false, false, false] (by kernel_rfl) rfl rfl (⟨BKg4.out, BKg8.out⟩) (fun hHeld => ?_)
      generalize V3.drew = V4 at BKg4 BKg5 BKg8 BKg9 HB hHeld ⊢
      refine pure_ (i := 0) (N := some 38) (v := ?_) (a' := ?_) #[true, false, false, false, false, false, false, false, false, false] rfl rfl (by kernel_rfl) (fun _ _ _ h => h) (Or.inl ⟨by rfl, ?_⟩) ?_ ?_
      rotate_left
      · intro w'
        go_simp
        with_reducible rfl
      rotate_left
      · simp only [Act.put, List.setIfInBounds_toArray, List.set_cons_zero, List.set_cons_succ, i64_w, i32_w]
        rfl
      refine pure_ (i := 1) (N := some 39) (v := ?_) (a' := ?_) #[true, true, false, false, false, false, false, false, false, false] rfl rfl (by kernel_rfl) (fun _ _ _ h => h) (Or.inl ⟨by rfl, ?_⟩) ?_ ?_
      rotate_left
      · intro w'
        go_simp
        with_reducible rfl
      rotate_left
      · simp only [Act.put, List.setIfInBounds_toArray, List.set_cons_zero, List.set_cons_succ, i64_w, i32_w]
        rfl
      refine pure_ (i := 2) (N := some 40) (v := ?_) (a' := ?_) #[true, true, true, false, false, false, false, false, false, false] rfl rfl (by kernel_rfl) (fun _ _ _ h => h) (Or.inl ⟨by rfl, ?_⟩) ?_ ?_
      rotate_left
      · intro w'
        go_simp
        with_reducible rfl
      rotate_left
      · simp only [Act.put, List.setIfInBounds_toArray, List.set_cons_zero, List.set_cons_succ, i64_w, i32_w]
        rfl
      refine take_ (i := 3) (N := some 41) (v := .int .u8 (xp : Int)) (a' := ?_) #[true, true, true, true, false, false, false, false, false, false] rfl rfl (by kernel_rfl) (fun _ _ _ h => h) (Or.inl ⟨by rfl, ?_⟩) hHeld ?_ ?_
      · rintro w' ⟨k_g4, k_g8⟩
        exact exec_one (v := .int .u8 (xp : Int)) agg5 rfl rfl (by rw [EP_.out]; exact cell_bys k_g4 (by rw [SP.out.len]; exact HKT.out))
      rotate_left
      · simp only [Act.put, List.setIfInBounds_toArray, List.set_cons_zero, List.set_cons_succ, i64_w, i32_w]
        rfl
      refine pure_ (i := 4) (N := some 42) (v := ?_) (a' := ?_) #[true, true, true, true, true, false, false, false, false, false] rfl rfl (by kernel_rfl) (fun _ _ _ h => h) (Or.inl ⟨by rfl, ?_⟩) ?_ ?_
      rotate_left
      · intro w'
        go_simp
        with_reducible rfl
      rotate_left
      · simp only [Act.put, List.setIfInBounds_toArray, List.set_cons_zero, List.set_cons_succ, i64_w, i32_w]
        rfl
      refine pure_ (i := 5) (N := some 43) (v := ?_) (a' := ?_) #[true, true, true, true, true, true, false, false, false, false] rfl rfl (by kernel_rfl) (fun _ _ _ h => h) (Or.inl ⟨by rfl, ?_⟩) ?_ ?_
      rotate_left
      · intro w'
        go_simp
        with_reducible rfl
      rotate_left
      · simp only [Act.put, List.setIfInBounds_toArray, List.set_cons_zero, List.set_cons_succ, i64_w, i32_w]
        rfl
      refine take_ (i := 6) (N := some 44) (v := .int .u8 (xa : Int)) (a' := ?_) #[true, true, true, true, true, true, true, false, false, false] rfl rfl (by kernel_rfl) (fun _ _ _ h => h) (Or.inl ⟨by rfl, ?_⟩) hHeld ?_ ?_
      · rintro w' ⟨k_g4, k_g8⟩
        exact exec_one (v := .int .u8 (xa : Int)) agg5 rfl rfl (by rw [← HN3.out]; exact cell_bys k_g8 (by rw [HM3.out]; exact HKT.out))
      rotate_left
      · simp only [Act.put, List.setIfInBounds_toArray, List.set_cons_zero, List.set_cons_succ, i64_w, i32_w]
        rfl
      refine pure_ (i := 7) (N := some 45) (v := ?_) (a' := ?_) #[true, true, true, true, true, true, true, true, false, false] rfl rfl (by kernel_rfl) (fun _ _ _ h => h) (Or.inl ⟨by rfl, ?_⟩) ?_ ?_
      rotate_left
      · intro w'
        go_simp
        with_reducible rfl
      rotate_left
      · simp only [Act.put, List.setIfInBounds_toArray, List.set_cons_zero, List.set_cons_succ, i64_w, i32_w]
        rfl
      refine pure_ (i := 8) (N := some 46) (v := ?_) (a' := ?_) #[true, true, true, true, true, true, true, true, true, false] rfl rfl (by kernel_rfl) (fun _ _ _ h => h) (Or.inl ⟨by rfl, ?_⟩) ?_ ?_
      rotate_left
      · intro w'
        go_simp
        with_reducible rfl
      rotate_left
      · simp only [Act.put, List.setIfInBounds_toArray, List.set_cons_zero, List.set_cons_succ, i64_w, i32_w]
        rfl
      refine last_ (i := 9) (N := none) #[true, true, true, true, true, true, true, true, true, true] rfl rfl (by kernel_rfl) (by decide) (fun K hK => ?_)
      refine skip_ (by rfl) rfl (exec_put (cs' := bys (mix b zeros (k + 1))) (off := k) (v := .int .u8 (((xp ^^^ xa : Nat) : Int))) size5 rfl rfl rfl rfl one_int BKg9.out (by rw [bys_size, HM2.out]; have := HKT.out; omega) ((putc_byte (by rw [HM2.out]; exact HKT.out)).trans (by rw [HN2.out]))) ?_
      obtain ⟨V5, hW_⟩ : ∃ W, W = V4.setRow g9 (bys (mix b zeros (k + 1))) := ⟨_, rfl⟩
      rw [← hW_]
      have NBKg4_ := Aside0.mk ((by rw [hW_]; exact setRow_far BKg4.out Dg4g9 : V5.heap[g4]? = some (Obj.cells (bys p) 23 (0, 0))))
      have NBKg5_ := Aside0.mk ((by rw [hW_]; exact setRow_far BKg5.out Dg5g9 : V5.heap[g5]? = some (Obj.cells (bys q) 23 (0, 0))))
      have NBKg8_ := Aside0.mk ((by rw [hW_]; exact setRow_far BKg8.out Dg8g9 : V5.heap[g8]? = some (Obj.cells (bys (mix a zeros (k + 1))) 23 (0, 0))))
      have NBKg9_ := Aside0.mk ((by rw [hW_]; exact setRow_blk BKg9.out : V5.heap[g9]? = some (Obj.cells (bys (mix b zeros (k + 1))) 23 (0, 0))))
      have NHB_ := Aside0.mk ((by rw [hW_]; exact setRow_below (HB.out) GEg9.out : Below w.heap.size w V5))
      clear BKg4 BKg5 BKg8 BKg9 HB
      have BKg4 := NBKg4_
      have BKg5 := NBKg5_
      have BKg8 := NBKg8_
      have BKg9 := NBKg9_
      have HB := NHB_
      clear NBKg4_ NBKg5_ NBKg8_ NBKg9_ NHB_
      clear hW_
      refine hK.out _ _ ?_
      clear hK K
      refine done_ (by kernel_rfl) ?_
      go_wp2
      go_roundw
      case rel => exact ⟨k + 1, by omega, by go_num, BKg4, BKg5, BKg8, BKg9, HB⟩
      case measure => simp [intOf] <;> omega
    · skip
      obtain rfl : k = 64 := by omega
      clear hkt hk BKg4 BKg5
      have e1 := mix_full SA.out.len zeros_length
      have e2 := mix_full SB.out.len zeros_length
      have N1_ := Aside0.mk (show wr.heap[g8]? = some (.cells (bys a) 23 (0, 0)) by rw [← e1]; exact BKg8.out)
      have N2_ := Aside0.mk (show wr.heap[g9]? = some (.cells (bys b) 23 (0, 0)) by rw [← e2]; exact BKg9.out)
      clear BKg8 BKg9 e1 e2
      have BKg8 := N1_
      have BKg9 := N2_
      clear N1_ N2_
      go_wp2_with fail
      have NBKg8_ := Aside0.mk (((by (with_reducible repeat (first | refine blk_drewN ?_ _ | refine blk_drew ?_ | refine blk_alloc ?_ _)); exact BKg8.out) : wr.drew.heap[g8]? = some (Obj.cells (bys a) 23 (0, 0))))
      have NBKg9_ := Aside0.mk (((by (with_reducible repeat (first | refine blk_drewN ?_ _ | refine blk_drew ?_ | refine blk_alloc ?_ _)); exact BKg9.out) : wr.drew.heap[g9]? = some (Obj.cells (bys b) 23 (0, 0))))
      have NHB_ := Aside0.mk ((by repeat (first | (with_reducible first | exact HB.out | apply below_alloc | apply pw_below_drewN | apply below_drew1) | exact HB.out) : Below w.heap.size w wr.drew))
      clear BKg8 BKg9 HB
      have BKg8 := NBKg8_
      have BKg9 := NBKg9_
      have HB := NHB_
      clear NBKg8_ NBKg9_ NHB_
      refine start_ (n := 4) (S := fun w' => (w'.heap[g8]? = some (Obj.cells (bys a) 23 (0, 0))) ∧ (w'.heap[g9]? = some (Obj.cells (bys b) 23 (0, 0)))) (ds := []) #[false, false, false, false] (by kernel_rfl) rfl rfl (⟨BKg8.out, BKg9.out⟩) (fun hHeld => ?_)
      generalize wr.drew = X0 at BKg8 BKg9 HB hHeld ⊢
      refine take_ (i := 0) (N := some 48) (v := .agg (bys a)) (a' := ?_) #[true, false, false, false] rfl rfl (by kernel_rfl) (fun _ _ _ h => h) (Or.inl ⟨by rfl, ?_⟩) hHeld ?_ ?_
      · rintro w' ⟨k_g8, k_g9⟩
        exact exec_row_all agg23 (by rw [bys_size, SA.out.len]; exact T23.hi) rfl rfl k_g8
      rotate_left
      · simp only [Act.put, List.setIfInBounds_toArray, List.set_cons_zero, List.set_cons_succ, i64_w, i32_w]
        rfl
      refine take_ (i := 1) (N := some 49) (v := .agg (bys b)) (a' := ?_) #[true, true, false, false] rfl rfl (by kernel_rfl) (fun _ _ _ h => h) (Or.inl ⟨by rfl, ?_⟩) hHeld ?_ ?_
      · rintro w' ⟨k_g8, k_g9⟩
        exact exec_row_all agg23 (by rw [bys_size, SB.out.len]; exact T23.hi) rfl rfl k_g9
      rotate_left
      · simp only [Act.put, List.setIfInBounds_toArray, List.set_cons_zero, List.set_cons_succ, i64_w, i32_w]
        rfl
      refine one_ (i := 2) (N := none) #[true, true, true, false] rfl rfl (by kernel_rfl) (by decide) (fun K hK => ?_)
      refine skip_ (by rfl) rfl (exec_put (cs' := bys a) T23.hi rfl rfl rfl (by show (bys a).size = 64; rw [bys_size]; exact SA.out.len) one_agg BKg8.out (by rw [bys_size, SA.out.len]; omega) (putc_all ((bys_size _).trans ((SA.out.len).trans ((SA.out.len).symm.trans (bys_size _).symm))))) ?_
      obtain ⟨X1, hW_⟩ : ∃ W, W = X0.setRow g8 (bys a) := ⟨_, rfl⟩
      rw [← hW_]
      have NBKg8_ := Aside0.mk ((by rw [hW_]; exact setRow_blk BKg8.out : X1.heap[g8]? = some (Obj.cells (bys a) 23 (0, 0))))
      have NBKg9_ := Aside0.mk ((by rw [hW_]; exact setRow_far BKg9.out Dg9g8 : X1.heap[g9]? = some (Obj.cells (bys b) 23 (0, 0))))
      have NHB_ := Aside0.mk ((by rw [hW_]; exact setRow_below (HB.out) GEg8.out : Below w.heap.size w X1))
      clear BKg8 BKg9 HB
      have BKg8 := NBKg8_
      have BKg9 := NBKg9_
      have HB := NHB_
      clear NBKg8_ NBKg9_ NHB_
      clear hW_
      refine hK.out _ _ (⟨BKg8.out, BKg9.out⟩) (fun hHeld => ?_)
      clear hK K
      refine one_ (i := 3) (N := none) #[true, true, true, true] rfl rfl (by kernel_rfl) (by decide) (fun K hK => ?_)
      refine skip_ (by rfl) rfl (exec_put (cs' := bys b) T23.hi rfl rfl rfl (by show (bys b).size = 64; rw [bys_size]; exact SB.out.len) one_agg BKg9.out (by rw [bys_size, SB.out.len]; omega) (putc_all ((bys_size _).trans ((SB.out.len).trans ((SB.out.len).symm.trans (bys_size _).symm))))) ?_
      obtain ⟨X2, hW_⟩ : ∃ W, W = X1.setRow g9 (bys b) := ⟨_, rfl⟩
      rw [← hW_]
      have NBKg8_ := Aside0.mk ((by rw [hW_]; exact setRow_far BKg8.out Dg8g9 : X2.heap[g8]? = some (Obj.cells (bys a) 23 (0, 0))))
      have NBKg9_ := Aside0.mk ((by rw [hW_]; exact setRow_blk BKg9.out : X2.heap[g9]? = some (Obj.cells (bys b) 23 (0, 0))))
      have NHB_ := Aside0.mk ((by rw [hW_]; exact setRow_below (HB.out) GEg9.out : Below w.heap.size w X2))
      clear BKg8 BKg9 HB
      have BKg8 := NBKg8_
      have BKg9 := NBKg9_
      have HB := NHB_
      clear NBKg8_ NBKg9_ NHB_
      clear hW_
      refine hK.out _ _ (⟨BKg8.out, BKg9.out⟩) (fun hHeld => ?_)
      clear hK K
      refine done_ (by kernel_rfl) ?_
      go_wp2
      exact bodyPost_ret (v := .tuple #[.agg (bys a), .agg (bys b)]) (results_list (rs := [.cell 8 23, .cell 9 23]) rfl (by simp) (.cell g8 23 _ (0, 0) _ rfl BKg8.out T23.hu rfl (by rw [bys_size, SA.out.len]; exact T23.hi) (.cell g9 23 _ (0, 0) _ rfl BKg9.out T23.hu rfl (by rw [bys_size, SB.out.len]; exact T23.hi) .nil))) rfl ⟨rfl, HB.out⟩
set_option maxHeartbeats 4000000 in
set_option maxRecDepth 100000 in
theorem cloneS_calls (A : Option Addr) (n c : Nat) (L : List (List Nat)) (w : World) (hC : Kd.C seK w A n L) (hn : 0 < n) (hn2 : n ≤ 64) : Calls Try.prog 34 #[.slice A n c] w fun e w' => ∃ v, e = .returned v ∧ Own w' w.heap.size v L ∧ Below w.heap.size w w' := by
  have HB := Aside0.mk (Below.refl w.heap.size w)
  obtain ⟨ad, rfl⟩ := sec_head hC hn
  go_enter Try.func34, Try.ntmps34
  go_wp2_with (first | ((with_reducible refine gate_dst (N := 4) rfl ?_); go_must (refine Kd.event_run rfl (exec_nil33 (A := some ad) rfl rfl rfl) ?_)) | ((with_reducible refine gate_dst (N := 5) rfl ?_); go_must (refine lit_event rfl rfl (cs := bys ([] : List (List Nat)).flatten) (t := 23) (exec_lit0 rfl) ?_); intro g3 hg_ wg3 BK_ hb_; have GEg3 := Aside0.mk (show w.heap.size ≤ g3 by rw [hg_]; exact below_size (by repeat (first | (with_reducible first | exact HB.out | apply below_alloc | apply pw_below_drewN | apply below_drew1) | exact HB.out))); have NHB_ := Aside0.mk (below_step (by repeat (first | (with_reducible first | exact HB.out | apply below_alloc | apply pw_below_drewN | apply below_drew1) | exact HB.out)) hb_); clear HB; have HB := NHB_; clear NHB_; have BKg3 := Aside0.mk BK_; clear BK_ hb_ hg_) | ((with_reducible refine gate_dst (N := 7) rfl ?_); go_must (refine append_event w.heap.size rfl rfl rfl rfl rfl (Own0 GEg3.out (by (with_reducible repeat (first | refine blk_drewN ?_ _ | refine blk_drew ?_ | refine blk_alloc ?_ _)); exact BKg3.out)) (Kd.C_below hC (by repeat (first | (with_reducible first | exact HB.out | apply below_alloc | apply pw_below_drewN | apply below_drew1) | exact HB.out))) (below_size (by repeat (first | (with_reducible first | exact HB.out | apply below_alloc | apply pw_below_drewN | apply below_drew1) | exact HB.out))) (by simp; omega) ?_); intro v1 W1 OW_ hg_ hat_))
  have HB2 := grown_below HB.out (show wg3.grownBy W1 (some g3) from hg_) GEg3.out
  rw [List.nil_append] at OW_
  exact bodyPost_ret (v := v1) (results_single rfl (.tmp .nil)) rfl ⟨v1, rfl, OW_, HB2⟩

theorem pred36 (m : Nat) (g : Nat) (w : World) (hg : g < w.heap.size) (hc : w.cell? ⟨g, 0, none⟩ = some (.int .i64 (m : Int))) :
    PredAt Try.prog 36 #[.pointer (some ⟨g, 0, none⟩)] (Value.int .i64) (fun y => decide (y < (m : Int))) w := fun W x hb => by
  have hc2 : W.cell? ⟨g, 0, none⟩ = some (.int .i64 (m : Int)) := (hb.cell (p := ⟨g, 0, none⟩) hg).trans hc
  show Calls Try.prog 36 #[.int .i64 x, .pointer (some ⟨g, 0, none⟩)] W _
  go_enter Try.func36, Try.ntmps36
  go_wp2
  all_goals (go_ret; exact ⟨by simp_all, 0, rfl⟩)
theorem first_calls (A : Option Addr) (c m g : Nat) (l : List Int) (w : World) (hR : ReadsInt w .i64 A l.length l) (hg : w.heap[g]? = some (.cells #[.int .i64 (m : Int)] 3 (0, 0))) :
    Calls Try.prog 35 #[.slice A l.length c, .func (.func 36) #[] #[.pointer (some ⟨g, 0, none⟩)]] w fun e w' => e = .returned (.int .i64 (Lib.idxBy (fun _ y => decide (y < (m : Int))) l default)) ∧ Below w.heap.size w w' := by
  have hlt : g < w.heap.size := blk_lt hg
  have hcell : w.cell? ⟨g, 0, none⟩ = some (.int .i64 (m : Int)) := Wk.cells1 hg
  have eg : ∀ args w, (callFunc 36 args).run Try.prog w = .ok (.enter 36 args) w := enters_of Try.func36 (by kernel_rfl) rfl
  by_cases h0 : 0 < l.length
  · obtain ⟨ad, rfl, hd⟩ := hR.2.2 h0
    obtain ⟨b, off, rfl⟩ := addr_none (hd 0 h0)
    have hcon := AnyE.slices_IndexFunc Try.layIndexFunc (Value.int .i64) (fun y => decide (y < (m : Int))) 36 #[.pointer (some ⟨g, 0, none⟩)] eg b off l.length c l w (pred36 m g w hlt hcell) (Nat.le_refl _) hR.2.1
      (fun j hj => by
        have := hd j hj
        rw [Sq.add_at] at this
        rw [this]
        simp [getElem!_pos, hj, List.getD_eq_getElem?_getD])
    change Calls Try.prog 35 _ _ _ at hcon
    rw [List.take_length] at hcon
    refine hcon.mono ?_
    rintro e w' ⟨rfl, q, rfl⟩
    exact ⟨rfl, below_drewN' (Below.refl _ _) q⟩
  · obtain rfl : l = [] := List.eq_nil_of_length_eq_zero (by omega)
    have hcon := AnyE.slices_IndexFunc_empty Try.layIndexFunc A c (.func (.func 36) #[] #[.pointer (some ⟨g, 0, none⟩)]) w
    change Calls Try.prog 35 _ _ _ at hcon
    refine hcon.mono ?_
    rintro e w' ⟨rfl, rfl⟩
    exact ⟨rfl, Below.refl _ _⟩
theorem contains_calls (A : Option Addr) (c : Nat) (l : List Int) (x : Int) (w : World) (hR : ReadsInt w .i64 A l.length l) : Calls Try.prog 38 #[.slice A l.length c, .int .i64 x] w fun e w' => e = .returned (.bool (l.contains x)) ∧ Below w.heap.size w w' := by
  by_cases h0 : 0 < l.length
  · obtain ⟨ad, rfl, hd⟩ := hR.2.2 h0
    obtain ⟨b, off, rfl⟩ := addr_none (hd 0 h0)
    have hcon := Any.slices_Contains_int Try.layContains b off l.length c l x w (Nat.le_refl _) hR.2.1 (fun j hj => by rw [← Sq.add_at]; exact hd j hj)
    change Calls Try.prog 38 _ _ _ at hcon
    rw [List.take_length] at hcon
    refine hcon.mono ?_
    rintro e w' ⟨rfl, rfl⟩
    exact ⟨rfl, Below.refl _ _⟩
  · obtain rfl : l = [] := List.eq_nil_of_length_eq_zero (by omega)
    have hcon := Any.slices_Contains_int_empty Try.layContains A c x w
    change Calls Try.prog 38 _ _ _ at hcon
    refine hcon.mono ?_
    rintro e w' ⟨rfl, rfl⟩
    exact ⟨rfl, Below.refl _ _⟩

end Go.Proofs.Ytonjgbcibjnpoaa.Pw
