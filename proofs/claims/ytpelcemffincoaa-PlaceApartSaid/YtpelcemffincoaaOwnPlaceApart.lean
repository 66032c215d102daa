/- Unlike logical sectors lie in unlike leaves, of one row on unlike members, none of them that of P or Q: of all geometries and sectors, no condition. -/
import Derived.Test.YtpelcemffincoaaRows
import Derived.Test.YtpelcemffincoaaPPlaceApartx2
import Derived.Test.YtpelcemffincoaaPl
import Derived.WalkKit
import Derived.WalkSpells
import Derived.OpenShut
import Derived.WalkKit
import Derived.ProofKit
import Derived.OpenShut
import Derived.ShutString
import Derived.ChangeOld
import Derived.Below
import Derived.Carry
import Derived.SizedLaws
import Derived.Lib.SmallJoins
import Derived.Test.YtpelcemffincoaaOp
import Derived.Lib.Hide
namespace Go.Proofs.Ytpelcemffincoaa.BrPlaceApart
open Go.RowKit Go.Proofs.Ytpelcemffincoaa.PPlaceApart Go.Proofs.YtpelcemffincoaaW.PrintWords Go.Proofs.YtpelcemffincoaaW.PrintLast Go.Proofs.YtpelcemffincoaaW.PrintMore Go.Proofs.Ytpelcemffincoaa.Pl

theorem check_yes {M R : Int} (g : Geo M R) : geom_Check.f M R = some 0 := by
  obtain ⟨h1, h2, h3, h4⟩ := g
  unfold geom_Check.f
  rw [if_neg (by omega), if_neg (by omega), if_neg (by omega), if_neg (by omega)]
theorem check_no {M R : Int} (g : ¬ Geo M R) : geom_Check.f M R = some 2 := by
  unfold geom_Check.f
  by_cases h1 : M < 4
  · rw [if_pos h1]
  by_cases h2 : M > 64
  · rw [if_neg h1, if_pos h2]
  by_cases h3 : R < 1
  · rw [if_neg h1, if_neg h2, if_pos h3]
  by_cases h4 : R > 64
  · rw [if_neg h1, if_neg h2, if_neg h3, if_pos h4]
  exact absurd ⟨by omega, by omega, by omega, by omega⟩ g
theorem may4_l (k : Nat) (a b c d : Int) : place_may.l0 (k + 3) [a, b, c, d] 0 = if 0 ≤ a ∧ a < b ∧ 0 ≤ c ∧ c < d then some 0 else some 2 := by
  have e1 : wrap64 1 = 1 := wr (by omega) (by omega)
  have e2 : wrap64 2 = 2 := wr (by omega) (by omega)
  have e3 : wrap64 3 = 3 := wr (by omega) (by omega)
  have e4 : wrap64 4 = 4 := wr (by omega) (by omega)
  have e5 : wrap64 5 = 5 := wr (by omega) (by omega)
  simp [place_may.l0, rd, e1, e2, e3, e4, e5]
  by_cases h1 : a < 0
  · rw [if_pos h1, if_neg (by omega)]
  by_cases h2 : b ≤ a
  · rw [if_neg h1, if_pos h2, if_neg (by omega)]
  by_cases h3 : c < 0
  · rw [if_neg h1, if_neg h2, if_pos h3, if_neg (by omega)]
  by_cases h4 : d ≤ c
  · rw [if_neg h1, if_neg h2, if_neg h3, if_pos h4, if_neg (by omega)]
  rw [if_neg h1, if_neg h2, if_neg h3, if_neg h4, if_pos (by omega)]
theorem may4_yes {k : Nat} {M R a b c d : Int} (hk : 5 < k) (g : Geo M R) (h : 0 ≤ a ∧ a < b ∧ 0 ≤ c ∧ c < d) : place_may.f k M R [a, b, c, d] = some 0 := by
  obtain ⟨k, rfl⟩ : ∃ m, k = m + 3 := ⟨k - 3, by omega⟩
  unfold place_may.f
  rw [check_yes g]
  simp only [Option.bind_some, if_true]
  rw [may4_l, if_pos h]
theorem may4_no {k : Nat} {M R a b c d : Int} (hk : 5 < k) (h : ¬ (Geo M R ∧ 0 ≤ a ∧ a < b ∧ 0 ≤ c ∧ c < d)) : place_may.f k M R [a, b, c, d] = some 2 := by
  obtain ⟨k, rfl⟩ : ∃ m, k = m + 3 := ⟨k - 3, by omega⟩
  unfold place_may.f
  by_cases g : Geo M R
  · rw [check_yes g]
    simp only [Option.bind_some, if_true]
    rw [may4_l, if_neg (fun h' => h ⟨g, h'⟩)]
  · rw [check_no g]
    rfl

theorem column_yes {k : Nat} {M R row n : Int} (hk : 5 < k) (g : Geo M R) (h : 0 ≤ row ∧ row < R ∧ 0 ≤ n ∧ n < M) : place_Column.f k M R row n = some (colv M row n, 0) := by
  have := g.m0; have := g.m1; have := g.r1
  unfold place_Column.f colv
  rw [may4_yes hk g h]
  simp only [Option.bind_some, if_true]
  rw [if_neg (by omega), wr (by omega) (by omega), tmod_pos (by omega)]
theorem column_no {k : Nat} {M R row n : Int} (hk : 5 < k) (h : ¬ (Geo M R ∧ 0 ≤ row ∧ row < R ∧ 0 ≤ n ∧ n < M)) : place_Column.f k M R row n = some (0, 2) := by
  unfold place_Column.f
  rw [may4_no hk h]
  rfl
theorem member_yes {k : Nat} {M R row n : Int} (hk : 5 < k) (g : Geo M R) (h : 0 ≤ row ∧ row < R ∧ 0 ≤ n ∧ n < M) : place_Member.f k M R row n = some (memv M row n, 0) := by
  have := g.m0; have := g.m1; have := g.r1
  unfold place_Member.f memv
  rw [may4_yes hk g h]
  simp only [Option.bind_some, if_true]
  have h1 : 0 ≤ row % M := Int.emod_nonneg _ (by omega)
  have h2 : row % M < M := Int.emod_lt_of_pos _ (by omega)
  rw [if_neg (by omega), wr (x := n + M) (by omega) (by omega), tmod_pos h.1, wr (by omega) (by omega), tmod_pos (by omega)]
theorem member_no {k : Nat} {M R row n : Int} (hk : 5 < k) (h : ¬ (Geo M R ∧ 0 ≤ row ∧ row < R ∧ 0 ≤ n ∧ n < M)) : place_Member.f k M R row n = some (0, 2) := by
  unfold place_Member.f
  rw [may4_no hk h]
  rfl
theorem leaf_yes {k : Nat} {M R row n : Int} (hk : 5 < k) (g : Geo M R) (h : 0 ≤ row ∧ row < R ∧ 0 ≤ n ∧ n < M) : place_Leaf.f k M R row n = some (row * M + n, 0) := by
  have := g.m0; have := g.m1; have := g.r1
  unfold place_Leaf.f
  rw [may4_yes hk g h]
  simp only [Option.bind_some, if_true]
  have h1 := mul_rng (A := 64) (B := 64) h.1 (by omega) (show 0 ≤ M by omega) g.m1
  rw [wr (x := row * M) (by omega) (by omega), wr (by omega) (by omega)]
theorem leaf_no {k : Nat} {M R row n : Int} (hk : 5 < k) (h : ¬ (Geo M R ∧ 0 ≤ row ∧ row < R ∧ 0 ≤ n ∧ n < M)) : place_Leaf.f k M R row n = some (0, 2) := by
  unfold place_Leaf.f
  rw [may4_no hk h]
  rfl
theorem awake_f {k : Nat} (hk : 5 < k) : casematelaw15_awake.f k = some true := by
  have g : Geo 4 3 := ⟨by omega, by omega, by omega, by omega⟩
  have h1 := column_yes (k := k) (row := 1) (n := 2) hk g (by omega)
  have h2 := member_yes (k := k) (row := 1) (n := 0) hk g (by omega)
  have h3 := leaf_yes (k := k) (row := 2) (n := 1) hk g (by omega)
  unfold casematelaw15_awake.f casematelaw15_given.f casematelaw15_is.f
  simp only [Option.bind_some]
  rw [h1, h2, h3]
  rfl

theorem may2_l (k : Nat) (a b : Int) : place_may.l0 (k + 2) [a, b] 0 = if 0 ≤ a ∧ a < b then some 0 else some 2 := by
  have e1 : wrap64 1 = 1 := wr (by omega) (by omega)
  have e2 : wrap64 2 = 2 := wr (by omega) (by omega)
  have e3 : wrap64 3 = 3 := wr (by omega) (by omega)
  simp [place_may.l0, rd, e1, e2, e3]
  by_cases h1 : a < 0
  · rw [if_pos h1, if_neg (by omega)]
  by_cases h2 : b ≤ a
  · rw [if_neg h1, if_pos h2, if_neg (by omega)]
  rw [if_neg h1, if_neg h2, if_pos (by omega)]
theorem may2_yes {k : Nat} {M R a b : Int} (hk : 5 < k) (g : Geo M R) (h : 0 ≤ a ∧ a < b) : place_may.f k M R [a, b] = some 0 := by
  obtain ⟨k, rfl⟩ : ∃ m, k = m + 2 := ⟨k - 2, by omega⟩
  unfold place_may.f
  rw [check_yes g]
  simp only [Option.bind_some, if_true]
  rw [may2_l, if_pos h]
theorem may2_no {k : Nat} {M R a b : Int} (hk : 5 < k) (h : ¬ (Geo M R ∧ 0 ≤ a ∧ a < b)) : place_may.f k M R [a, b] = some 2 := by
  obtain ⟨k, rfl⟩ : ∃ m, k = m + 2 := ⟨k - 2, by omega⟩
  unfold place_may.f
  by_cases g : Geo M R
  · rw [check_yes g]
    simp only [Option.bind_some, if_true]
    rw [may2_l, if_neg (fun h' => h ⟨g, h'⟩)]
  · rw [check_no g]
    rfl
theorem logical_yes {M R : Int} (g : Geo M R) : geom_Logical.f M R = some (R * (M - 2)) := by
  have := g.m0; have := g.m1; have := g.r1; have := g.r0
  unfold geom_Logical.f geom_is.f
  rw [check_yes g]
  have h1 := mul_rng (A := 64) (B := 64) (show 0 ≤ R by omega) g.r1 (show 0 ≤ M - 2 by omega) (by omega)
  have e : wrap64 (M - 2) = M - 2 := wr (by omega) (by omega)
  have e2 : wrap64 (R * (M - 2)) = R * (M - 2) := wr (by omega) (by omega)
  simp [e, e2]
theorem logical_no {M R : Int} (g : ¬ Geo M R) : geom_Logical.f M R = some 0 := by
  unfold geom_Logical.f geom_is.f
  rw [check_no g]
  rfl
theorem of_yes {k : Nat} {M R n : Int} (hk : 5 < k) (g : Geo M R) (h : 0 ≤ n ∧ n < R * (M - 2)) : place_Of.f k M R n = some (n / (M - 2), n % (M - 2), 0) := by
  have := g.m0; have := g.m1; have := g.r1; have := g.r0
  have h1 := mul_rng (A := 64) (B := 64) (show 0 ≤ R by omega) g.r1 (show 0 ≤ M - 2 by omega) (by omega)
  have e : wrap64 (M - 2) = M - 2 := wr (by omega) (by omega)
  have h2 := div_rng (show 0 < M - 2 by omega) h.1 h.2
  have e2 : wrap64 (n / (M - 2)) = n / (M - 2) := wr (by omega) (by omega)
  unfold place_Of.f
  rw [logical_yes g]
  simp only [Option.bind_some]
  rw [may2_yes hk g h]
  simp only [Option.bind_some, if_true]
  rw [e, if_neg (by omega), tmod_pos h.1, tdiv_pos h.1, e2]
theorem of_no {k : Nat} {M R n : Int} (hk : 5 < k) (h : ¬ (Geo M R ∧ 0 ≤ n ∧ n < R * (M - 2))) : place_Of.f k M R n = some (0, 0, 2) := by
  unfold place_Of.f
  by_cases g : Geo M R
  · rw [logical_yes g]
    simp only [Option.bind_some]
    rw [may2_no hk h]
    rfl
  · rw [logical_no g]
    simp only [Option.bind_some]
    rw [may2_no hk (fun h' => g h'.1)]
    rfl
end Go.Proofs.Ytpelcemffincoaa.BrPlaceApart
namespace Go.Proofs.Ytpelcemffincoaa.OwnPlaceApart
open Go.RowKit Go.Proofs.Ytpelcemffincoaa.PPlaceApart Go.Proofs.YtpelcemffincoaaW.PrintWords Go.Proofs.YtpelcemffincoaaW.PrintLast Go.Proofs.YtpelcemffincoaaW.PrintMore Go.Proofs.Ytpelcemffincoaa.Pl
set_option linter.unusedVariables false
set_option linter.unusedSimpArgs false
theorem cells_of {w : World} {g : Nat} {x y : Value} {t : TypeId} (h : w.heap[g]? = some (.cells #[x, y] t (0, 0))) : w.cell? ⟨g, 0, none⟩ = some x ∧ w.cell? ⟨g, 1, none⟩ = some y :=
  ⟨(blk_cell h 0).trans rfl, (blk_cell h 1).trans rfl⟩

set_option maxHeartbeats 8000000 in
set_option maxRecDepth 100000 in
theorem walk0 (x y M R u v L a b r c s d m n xx yy p q : Int) (w : World) (h1 : casematelaw15_small.f x y = some (M, R)) (h2 : geom_Logical.f M R = some L) (h3 : decide (L < 1) = false) (h3' : ¬ L = 0)
    (wu : wrap64 u = u) (wv : wrap64 v = v) (ha : Int.tmod u L = a) (hb : Int.tmod v L = b)
    (k : Nat) (o1 : place_Of.f k M R a = some (r, c, 0)) (o2 : place_Of.f k M R b = some (s, d, 0))
    (m1 : place_Member.f k M R r c = some (m, 0)) (m2 : place_Member.f k M R s d = some (n, 0))
    (l1 : place_Leaf.f k M R r m = some (xx, 0)) (l2 : place_Leaf.f k M R s n = some (yy, 0))
    (q1 : place_Member.f k M R r (wrap64 (M - 2)) = some (p, 0)) (q2 : place_Member.f k M R r (wrap64 (M - 1)) = some (q, 0)) 
    (e1 : ((xx == yy) == (a == b)) = true) (e2 : ((a == b) || (r != s) || (m != n)) = true) (e3 : (m != p) = true) (e4 : (m != q) = true) (e5 : (p != q) = true) (aw : casematelaw15_awake.f k = some true) :
    Calls Try.prog 6 #[.int .u8 x, .int .u8 y, .agg #[.int .u16 u, .int .u16 v]] w fun e w' => e = .returned (.bool true) ∧ Below w.heap.size w w' := by
  have H1 := Aside0.mk h1
  clear h1
  have H2 := Aside0.mk h2
  clear h2
  have O1 := Aside0.mk o1
  clear o1
  have O2 := Aside0.mk o2
  clear o2
  have M1 := Aside0.mk m1
  clear m1
  have M2 := Aside0.mk m2
  clear m2
  have L1 := Aside0.mk l1
  clear l1
  have L2 := Aside0.mk l2
  clear l2
  have Q1 := Aside0.mk q1
  clear q1
  have Q2 := Aside0.mk q2
  clear q2
  have AW := Aside0.mk aw
  clear aw
  have HMA := Lib.hid ha
  clear ha
  have HMB := Lib.hid hb
  clear hb
  have HB := Aside0.mk (Below.refl w.heap.size w)
  go_enter Try.func6, Try.ntmps6
  go_wp2_with (first | ((with_reducible refine gate_dst (N := 5) rfl ?_); refine box_event ?hg (N := 5) ?hd (cs := #[.int .u16 u, .int .u16 v]) (t := 35) ?hr ?_; (case hd => rfl); (case hg => rfl); (case hr => first | (go_simp; done) | (go_simp; rfl)); intro g1 hg w1 BK hb_; have n0_ := Aside0.mk (below_step (by repeat (first | (with_reducible first | exact HB.out | apply below_alloc | apply pw_below_drewN | apply below_drew1 | refine below_set ?_ GE2.out) | exact HB.out)) hb_); have BK1 := Aside0.mk BK; have GE1 := Aside0.mk ((by rw [hg]; exact (below_size (by repeat (first | (with_reducible first | exact HB.out | apply below_alloc | apply pw_below_drewN | apply below_drew1 | refine below_set ?_ GE2.out) | exact HB.out)))) : w.heap.size ≤ g1); clear HB; have HB := n0_; clear n0_; clear BK hb_ hg))
  with_reducible refine (casematelaw15_small.calls x y M R _ H1.out).mono ?_
  rintro e w2 ⟨rfl, hb⟩
  have n1_ := Aside0.mk (blk_below (g := g1) (o := .cells #[.int .u16 u, .int .u16 v] 35 (0, 0)) (by (with_reducible repeat (first | refine blk_drewN ?_ _ | refine blk_drew ?_ | refine blk_alloc ?_ _)); exact BK1.out) hb)
  have nb_ := Aside0.mk (below_step (by repeat (first | (with_reducible first | exact HB.out | apply below_alloc | apply pw_below_drewN | apply below_drew1 | refine below_set ?_ GE2.out) | exact HB.out)) hb)
  clear BK1
  have BK1 := n1_
  clear n1_
  clear HB
  have HB := nb_
  clear nb_ hb
  (try clear c1_0 c1_1)
  (try clear f1_0 f1_1)
  obtain ⟨c1_0, c1_1⟩ := cells_of BK1.out
  have f1_0 := blk_frozen BK1.out 0
  have f1_1 := blk_frozen BK1.out 1
  go_wp2_with fail
  with_reducible refine (geom_Logical.calls M R L _ H2.out).mono ?_
  rintro e w3 ⟨rfl, hb⟩
  have n1_ := Aside0.mk (blk_below (g := g1) (o := .cells #[.int .u16 u, .int .u16 v] 35 (0, 0)) (by (with_reducible repeat (first | refine blk_drewN ?_ _ | refine blk_drew ?_ | refine blk_alloc ?_ _)); exact BK1.out) hb)
  have n2_ := Aside0.mk (blk_below (blk_new w2 _) hb)
  have GE2 := Aside0.mk (below_size HB.out)
  have nb_ := Aside0.mk (below_step (by repeat (first | (with_reducible first | exact HB.out | apply below_alloc | apply pw_below_drewN | apply below_drew1) | exact HB.out)) hb)
  clear BK1 HB hb c1_0 c1_1 f1_0 f1_1
  have BK1 := n1_
  have BK2 := n2_
  have HB := nb_
  clear n1_ n2_ nb_
  generalize w2.heap.size = g2 at BK2 GE2 ⊢
  go_wp2_with fail
  have n1_ := Aside0.mk (blk_drew BK1.out)
  have n2_ := Aside0.mk (blk_drew BK2.out)
  have n3_ := Aside0.mk (below_drew1 HB.out)
  clear BK1 BK2 HB
  have BK1 := n1_
  have BK2 := n2_
  have HB := n3_
  clear n1_ n2_ n3_
  refine start_ (n := 14) (S := fun w' => (w'.cell? ⟨g1, 0, none⟩ = some (.int .u16 u) ∧ w'.cell? ⟨g1, 1, none⟩ = some (.int .u16 v)) ∧ w'.cell? ⟨g2, 0, none⟩ = some (.int .i64 M) ∧ w'.cell? ⟨g2, 1, none⟩ = some (.int .i64 R)) (ds := []) #[false, false, false, false, false, false, false, false, false, false, false, false, false, false] (by kernel_rfl) rfl rfl ⟨cells_of BK1.out, cells_of BK2.out⟩ (fun hHeld => ?_)
  generalize w3.drew = w4 at BK1 BK2 HB hHeld ⊢
  refine pure_ (i := 0) (N := some 34) (v := ?_) (a' := ?_) #[true, false, false, false, false, false, false, false, false, false, false, false, false, false] rfl rfl (by kernel_rfl) (fun _ _ _ h => h) (Or.inl ⟨by rfl, ?_⟩) ?_ ?_
  rotate_left
  · intro w'
    go_simp
    with_reducible rfl
  rotate_left
  · simp only [Act.put, List.setIfInBounds_toArray, List.set_cons_zero, List.set_cons_succ, i64_w, i32_w]
    rfl
  refine take_ (i := 1) (N := some 35) (v := ?_) (a' := ?_) #[true, true, false, false, false, false, false, false, false, false, false, false, false, false] rfl rfl (by kernel_rfl) (fun _ _ _ h => h) (Or.inl ⟨by rfl, ?_⟩) hHeld ?_ ?_
  rotate_left
  · rintro w' ⟨⟨s0, s1⟩, s2, s3⟩
    go_simp
    with_reducible rfl
  rotate_left
  · simp only [Act.put, List.setIfInBounds_toArray, List.set_cons_zero, List.set_cons_succ, i64_w, i32_w]
    rfl
  refine pure_ (i := 2) (N := some 36) (v := ?_) (a' := ?_) #[true, true, true, false, false, false, false, false, false, false, false, false, false, false] rfl rfl (by kernel_rfl) (fun _ _ _ h => h) (Or.inl ⟨by rfl, ?_⟩) ?_ ?_
  rotate_left
  · intro w'
    go_simp
    with_reducible rfl
  rotate_left
  · simp only [Act.put, List.setIfInBounds_toArray, List.set_cons_zero, List.set_cons_succ, i64_w, i32_w]
    rfl
  refine take_ (i := 3) (N := some 37) (v := ?_) (a' := ?_) #[true, true, true, true, false, false, false, false, false, false, false, false, false, false] rfl rfl (by kernel_rfl) (fun _ _ _ h => h) (Or.inl ⟨by rfl, ?_⟩) hHeld ?_ ?_
  rotate_left
  · rintro w' ⟨⟨s0, s1⟩, s2, s3⟩
    go_simp
    with_reducible rfl
  rotate_left
  · simp only [Act.put, List.setIfInBounds_toArray, List.set_cons_zero, List.set_cons_succ, i64_w, i32_w]
    rfl
  refine pure_ (i := 6) (N := some 40) (v := ?_) (a' := ?_) #[true, true, true, true, false, false, true, false, false, false, false, false, false, false] rfl rfl (by kernel_rfl) (fun _ _ _ h => h) (Or.inl ⟨by rfl, ?_⟩) ?_ ?_
  rotate_left
  · intro w'
    go_simp
    with_reducible rfl
  rotate_left
  · simp only [Act.put, List.setIfInBounds_toArray, List.set_cons_zero, List.set_cons_succ, i64_w, i32_w]
    rfl
  refine take_ (i := 7) (N := some 41) (v := ?_) (a' := ?_) #[true, true, true, true, false, false, true, true, false, false, false, false, false, false] rfl rfl (by kernel_rfl) (fun _ _ _ h => h) (Or.inl ⟨by rfl, ?_⟩) hHeld ?_ ?_
  rotate_left
  · rintro w' ⟨⟨s0, s1⟩, s2, s3⟩
    go_simp
    with_reducible rfl
  rotate_left
  · simp only [Act.put, List.setIfInBounds_toArray, List.set_cons_zero, List.set_cons_succ, i64_w, i32_w]
    rfl
  refine pure_ (i := 8) (N := some 42) (v := ?_) (a' := ?_) #[true, true, true, true, false, false, true, true, true, false, false, false, false, false] rfl rfl (by kernel_rfl) (fun _ _ _ h => h) (Or.inl ⟨by rfl, ?_⟩) ?_ ?_
  rotate_left
  · intro w'
    go_simp
    with_reducible rfl
  rotate_left
  · simp only [Act.put, List.setIfInBounds_toArray, List.set_cons_zero, List.set_cons_succ, i64_w, i32_w]
    rfl
  refine take_ (i := 9) (N := some 43) (v := ?_) (a' := ?_) #[true, true, true, true, false, false, true, true, true, true, false, false, false, false] rfl rfl (by kernel_rfl) (fun _ _ _ h => h) (Or.inl ⟨by rfl, ?_⟩) hHeld ?_ ?_
  rotate_left
  · rintro w' ⟨⟨s0, s1⟩, s2, s3⟩
    go_simp
    with_reducible rfl
  rotate_left
  · simp only [Act.put, List.setIfInBounds_toArray, List.set_cons_zero, List.set_cons_succ, i64_w, i32_w]
    rfl
  refine one_ (i := 4) (N := some 38) #[true, true, true, true, true, false, true, true, true, true, false, false, false, false] rfl rfl (by kernel_rfl) (by decide) (fun K hK => ?_)
  refine goes_ Try.func20 (by kernel_rfl) rfl #[.agg #[.int .i64 M, .int .i64 R]] (by rfl) rfl rfl (by (try simp only [List.map_toArray, List.map_cons, List.map_nil]); first | done | rfl | (simp only [List.length_drop, List.length_take]; rfl)) ?_
  with_reducible refine (geom_Logical.calls M R L _ H2.out).mono ?_
  rintro e w5 ⟨rfl, hb⟩
  refine ⟨_, rfl, ?_⟩
  have n1_ := Aside0.mk (blk_below (g := g1) (o := .cells #[.int .u16 u, .int .u16 v] 35 (0, 0)) (by (with_reducible repeat (first | refine blk_drewN ?_ _ | refine blk_drew ?_ | refine blk_alloc ?_ _)); exact BK1.out) hb)
  have n2_ := Aside0.mk (blk_below (g := g2) (o := .cells #[.int .i64 M, .int .i64 R] 23 (0, 0)) (by (with_reducible repeat (first | refine blk_drewN ?_ _ | refine blk_drew ?_ | refine blk_alloc ?_ _)); exact BK2.out) hb)
  have n3_ := Aside0.mk (below_step (by repeat (first | (with_reducible first | exact HB.out | apply below_alloc | apply pw_below_drewN | apply below_drew1 | refine below_set ?_ GE2.out) | exact HB.out)) hb)
  clear BK1 BK2 HB hb
  have BK1 := n1_
  have BK2 := n2_
  have HB := n3_
  clear n1_ n2_ n3_
  refine hK.out _ _ ⟨cells_of BK1.out, cells_of BK2.out⟩ (fun hHeld => ?_)
  clear hK K
  refine norm_ (a' := ?_) ?_ ?_
  rotate_left
  · show Act.put _ (some 38) _ = _
    simp only [Act.put, List.setIfInBounds_toArray, List.set_cons_zero, List.set_cons_succ, i64_w, i32_w]
    rfl
  refine pure_ (i := 5) (N := some 39) (v := ?_) (a' := ?_) #[true, true, true, true, true, true, true, true, true, true, false, false, false, false] rfl rfl (by kernel_rfl) (fun _ _ _ h => h) (Or.inl ⟨by rfl, ?_⟩) ?_ ?_
  rotate_left
  · intro w'
    go_simp
    with_reducible rfl
  rotate_left
  · simp only [Act.put, List.setIfInBounds_toArray, List.set_cons_zero, List.set_cons_succ, i64_w, i32_w]
    rfl
  refine one_ (i := 10) (N := some 44) #[true, true, true, true, true, true, true, true, true, true, true, false, false, false] rfl rfl (by kernel_rfl) (by decide) (fun K hK => ?_)
  refine goes_ Try.func20 (by kernel_rfl) rfl #[.agg #[.int .i64 M, .int .i64 R]] (by rfl) rfl rfl (by (try simp only [List.map_toArray, List.map_cons, List.map_nil]); first | done | rfl | (simp only [List.length_drop, List.length_take]; rfl)) ?_
  with_reducible refine (geom_Logical.calls M R L _ H2.out).mono ?_
  rintro e w6 ⟨rfl, hb⟩
  refine ⟨_, rfl, ?_⟩
  have n1_ := Aside0.mk (blk_below (g := g1) (o := .cells #[.int .u16 u, .int .u16 v] 35 (0, 0)) (by (with_reducible repeat (first | refine blk_drewN ?_ _ | refine blk_drew ?_ | refine blk_alloc ?_ _)); exact BK1.out) hb)
  have n2_ := Aside0.mk (blk_below (g := g2) (o := .cells #[.int .i64 M, .int .i64 R] 23 (0, 0)) (by (with_reducible repeat (first | refine blk_drewN ?_ _ | refine blk_drew ?_ | refine blk_alloc ?_ _)); exact BK2.out) hb)
  have n3_ := Aside0.mk (below_step (by repeat (first | (with_reducible first | exact HB.out | apply below_alloc | apply pw_below_drewN | apply below_drew1 | refine below_set ?_ GE2.out) | exact HB.out)) hb)
  clear BK1 BK2 HB hb
  have BK1 := n1_
  have BK2 := n2_
  have HB := n3_
  clear n1_ n2_ n3_
  refine hK.out _ _ ⟨cells_of BK1.out, cells_of BK2.out⟩ (fun hHeld => ?_)
  clear hK K
  refine norm_ (a' := ?_) ?_ ?_
  rotate_left
  · show Act.put _ (some 44) _ = _
    simp only [Act.put, List.setIfInBounds_toArray, List.set_cons_zero, List.set_cons_succ, i64_w, i32_w]
    rfl
  refine pure_ (i := 11) (N := some 45) (v := ?_) (a' := ?_) #[true, true, true, true, true, true, true, true, true, true, true, true, false, false] rfl rfl (by kernel_rfl) (fun _ _ _ h => h) (Or.inl ⟨by rfl, ?_⟩) ?_ ?_
  rotate_left
  · intro w'
    go_simp
    with_reducible rfl
  rotate_left
  · simp only [Act.put, List.setIfInBounds_toArray, List.set_cons_zero, List.set_cons_succ, i64_w, i32_w]
    rfl
  refine pure_ (i := 12) (N := some 8) (v := ?_) (a' := ?_) #[true, true, true, true, true, true, true, true, true, true, true, true, true, false] rfl rfl (by kernel_rfl) (fun _ _ _ h => h) (Or.inl ⟨by rfl, ?_⟩) ?_ ?_
  rotate_left
  · intro w'
    go_simp
    with_reducible rfl
  rotate_left
  · simp only [Act.put, List.setIfInBounds_toArray, List.set_cons_zero, List.set_cons_succ, i64_w, i32_w]
    rfl
  refine pure_ (i := 13) (N := some 9) (v := ?_) (a' := ?_) #[true, true, true, true, true, true, true, true, true, true, true, true, true, true] rfl rfl (by kernel_rfl) (fun _ _ _ h => h) (Or.inl ⟨by rfl, ?_⟩) ?_ ?_
  rotate_left
  · intro w'
    go_simp
    with_reducible rfl
  rotate_left
  · simp only [Act.put, List.setIfInBounds_toArray, List.set_cons_zero, List.set_cons_succ, i64_w, i32_w]
    rfl
  rw [HMA.out, HMB.out]
  refine done_ (by kernel_rfl) ?_
  have KB1 := BK1
  have KB2 := BK2
  obtain ⟨c1_0, c1_1⟩ := cells_of BK1.out
  have f1_0 := blk_frozen BK1.out 0
  have f1_1 := blk_frozen BK1.out 1
  obtain ⟨c2_0, c2_1⟩ := cells_of BK2.out
  have f2_0 := blk_frozen BK2.out 0
  have f2_1 := blk_frozen BK2.out 1
  clear KB1 KB2
  go_wp2_with (first | (go_at_call 21; (with_reducible refine (place_Of.calls k M R a r c 0 _ O1.out).mono ?_); rintro e w' ⟨rfl, hb⟩; have n1_ := Aside0.mk (blk_below (g := g1) (o := .cells #[.int .u16 u, .int .u16 v] 35 (0, 0)) (by (with_reducible repeat (first | refine blk_drewN ?_ _ | refine blk_drew ?_ | refine blk_alloc ?_ _)); exact BK1.out) hb); have n2_ := Aside0.mk (blk_below (g := g2) (o := .cells #[.int .i64 M, .int .i64 R] 23 (0, 0)) (by (with_reducible repeat (first | refine blk_drewN ?_ _ | refine blk_drew ?_ | refine blk_alloc ?_ _)); exact BK2.out) hb); have n3_ := Aside0.mk (below_step (by repeat (first | (with_reducible first | exact HB.out | apply below_alloc | apply pw_below_drewN | apply below_drew1 | refine below_set ?_ GE2.out) | exact HB.out)) hb); clear BK1 BK2 HB hb c1_0 c1_1 f1_0 f1_1 c2_0 c2_1 f2_0 f2_1; have BK1 := n1_; have BK2 := n2_; have HB := n3_; clear n1_ n2_ n3_; obtain ⟨c1_0, c1_1⟩ := cells_of BK1.out; have f1_0 := blk_frozen BK1.out 0; have f1_1 := blk_frozen BK1.out 1; obtain ⟨c2_0, c2_1⟩ := cells_of BK2.out; have f2_0 := blk_frozen BK2.out 0; have f2_1 := blk_frozen BK2.out 1) | (go_at_call 21; (with_reducible refine (place_Of.calls k M R b s d 0 _ O2.out).mono ?_); rintro e w' ⟨rfl, hb⟩; have n1_ := Aside0.mk (blk_below (g := g1) (o := .cells #[.int .u16 u, .int .u16 v] 35 (0, 0)) (by (with_reducible repeat (first | refine blk_drewN ?_ _ | refine blk_drew ?_ | refine blk_alloc ?_ _)); exact BK1.out) hb); have n2_ := Aside0.mk (blk_below (g := g2) (o := .cells #[.int .i64 M, .int .i64 R] 23 (0, 0)) (by (with_reducible repeat (first | refine blk_drewN ?_ _ | refine blk_drew ?_ | refine blk_alloc ?_ _)); exact BK2.out) hb); have n3_ := Aside0.mk (below_step (by repeat (first | (with_reducible first | exact HB.out | apply below_alloc | apply pw_below_drewN | apply below_drew1 | refine below_set ?_ GE2.out) | exact HB.out)) hb); clear BK1 BK2 HB hb c1_0 c1_1 f1_0 f1_1 c2_0 c2_1 f2_0 f2_1; have BK1 := n1_; have BK2 := n2_; have HB := n3_; clear n1_ n2_ n3_; obtain ⟨c1_0, c1_1⟩ := cells_of BK1.out; have f1_0 := blk_frozen BK1.out 0; have f1_1 := blk_frozen BK1.out 1; obtain ⟨c2_0, c2_1⟩ := cells_of BK2.out; have f2_0 := blk_frozen BK2.out 0; have f2_1 := blk_frozen BK2.out 1) | (go_at_call 12; (with_reducible refine (place_Member.calls k M R r c m 0 _ M1.out).mono ?_); rintro e w' ⟨rfl, hb⟩; have n1_ := Aside0.mk (blk_below (g := g1) (o := .cells #[.int .u16 u, .int .u16 v] 35 (0, 0)) (by (with_reducible repeat (first | refine blk_drewN ?_ _ | refine blk_drew ?_ | refine blk_alloc ?_ _)); exact BK1.out) hb); have n2_ := Aside0.mk (blk_below (g := g2) (o := .cells #[.int .i64 M, .int .i64 R] 23 (0, 0)) (by (with_reducible repeat (first | refine blk_drewN ?_ _ | refine blk_drew ?_ | refine blk_alloc ?_ _)); exact BK2.out) hb); have n3_ := Aside0.mk (below_step (by repeat (first | (with_reducible first | exact HB.out | apply below_alloc | apply pw_below_drewN | apply below_drew1 | refine below_set ?_ GE2.out) | exact HB.out)) hb); clear BK1 BK2 HB hb c1_0 c1_1 f1_0 f1_1 c2_0 c2_1 f2_0 f2_1; have BK1 := n1_; have BK2 := n2_; have HB := n3_; clear n1_ n2_ n3_; obtain ⟨c1_0, c1_1⟩ := cells_of BK1.out; have f1_0 := blk_frozen BK1.out 0; have f1_1 := blk_frozen BK1.out 1; obtain ⟨c2_0, c2_1⟩ := cells_of BK2.out; have f2_0 := blk_frozen BK2.out 0; have f2_1 := blk_frozen BK2.out 1) | (go_at_call 12; (with_reducible refine (place_Member.calls k M R s d n 0 _ M2.out).mono ?_); rintro e w' ⟨rfl, hb⟩; have n1_ := Aside0.mk (blk_below (g := g1) (o := .cells #[.int .u16 u, .int .u16 v] 35 (0, 0)) (by (with_reducible repeat (first | refine blk_drewN ?_ _ | refine blk_drew ?_ | refine blk_alloc ?_ _)); exact BK1.out) hb); have n2_ := Aside0.mk (blk_below (g := g2) (o := .cells #[.int .i64 M, .int .i64 R] 23 (0, 0)) (by (with_reducible repeat (first | refine blk_drewN ?_ _ | refine blk_drew ?_ | refine blk_alloc ?_ _)); exact BK2.out) hb); have n3_ := Aside0.mk (below_step (by repeat (first | (with_reducible first | exact HB.out | apply below_alloc | apply pw_below_drewN | apply below_drew1 | refine below_set ?_ GE2.out) | exact HB.out)) hb); clear BK1 BK2 HB hb c1_0 c1_1 f1_0 f1_1 c2_0 c2_1 f2_0 f2_1; have BK1 := n1_; have BK2 := n2_; have HB := n3_; clear n1_ n2_ n3_; obtain ⟨c1_0, c1_1⟩ := cells_of BK1.out; have f1_0 := blk_frozen BK1.out 0; have f1_1 := blk_frozen BK1.out 1; obtain ⟨c2_0, c2_1⟩ := cells_of BK2.out; have f2_0 := blk_frozen BK2.out 0; have f2_1 := blk_frozen BK2.out 1) | (go_at_call 18; (with_reducible refine (place_Leaf.calls k M R r m xx 0 _ L1.out).mono ?_); rintro e w' ⟨rfl, hb⟩; have n1_ := Aside0.mk (blk_below (g := g1) (o := .cells #[.int .u16 u, .int .u16 v] 35 (0, 0)) (by (with_reducible repeat (first | refine blk_drewN ?_ _ | refine blk_drew ?_ | refine blk_alloc ?_ _)); exact BK1.out) hb); have n2_ := Aside0.mk (blk_below (g := g2) (o := .cells #[.int .i64 M, .int .i64 R] 23 (0, 0)) (by (with_reducible repeat (first | refine blk_drewN ?_ _ | refine blk_drew ?_ | refine blk_alloc ?_ _)); exact BK2.out) hb); have n3_ := Aside0.mk (below_step (by repeat (first | (with_reducible first | exact HB.out | apply below_alloc | apply pw_below_drewN | apply below_drew1 | refine below_set ?_ GE2.out) | exact HB.out)) hb); clear BK1 BK2 HB hb c1_0 c1_1 f1_0 f1_1 c2_0 c2_1 f2_0 f2_1; have BK1 := n1_; have BK2 := n2_; have HB := n3_; clear n1_ n2_ n3_; obtain ⟨c1_0, c1_1⟩ := cells_of BK1.out; have f1_0 := blk_frozen BK1.out 0; have f1_1 := blk_frozen BK1.out 1; obtain ⟨c2_0, c2_1⟩ := cells_of BK2.out; have f2_0 := blk_frozen BK2.out 0; have f2_1 := blk_frozen BK2.out 1) | (go_at_call 18; (with_reducible refine (place_Leaf.calls k M R s n yy 0 _ L2.out).mono ?_); rintro e w' ⟨rfl, hb⟩; have n1_ := Aside0.mk (blk_below (g := g1) (o := .cells #[.int .u16 u, .int .u16 v] 35 (0, 0)) (by (with_reducible repeat (first | refine blk_drewN ?_ _ | refine blk_drew ?_ | refine blk_alloc ?_ _)); exact BK1.out) hb); have n2_ := Aside0.mk (blk_below (g := g2) (o := .cells #[.int .i64 M, .int .i64 R] 23 (0, 0)) (by (with_reducible repeat (first | refine blk_drewN ?_ _ | refine blk_drew ?_ | refine blk_alloc ?_ _)); exact BK2.out) hb); have n3_ := Aside0.mk (below_step (by repeat (first | (with_reducible first | exact HB.out | apply below_alloc | apply pw_below_drewN | apply below_drew1 | refine below_set ?_ GE2.out) | exact HB.out)) hb); clear BK1 BK2 HB hb c1_0 c1_1 f1_0 f1_1 c2_0 c2_1 f2_0 f2_1; have BK1 := n1_; have BK2 := n2_; have HB := n3_; clear n1_ n2_ n3_; obtain ⟨c1_0, c1_1⟩ := cells_of BK1.out; have f1_0 := blk_frozen BK1.out 0; have f1_1 := blk_frozen BK1.out 1; obtain ⟨c2_0, c2_1⟩ := cells_of BK2.out; have f2_0 := blk_frozen BK2.out 0; have f2_1 := blk_frozen BK2.out 1) | (go_at_call 12; (with_reducible refine (place_Member.calls k M R r (wrap64 (M - 2)) p 0 _ Q1.out).mono ?_); rintro e w' ⟨rfl, hb⟩; have n1_ := Aside0.mk (blk_below (g := g1) (o := .cells #[.int .u16 u, .int .u16 v] 35 (0, 0)) (by (with_reducible repeat (first | refine blk_drewN ?_ _ | refine blk_drew ?_ | refine blk_alloc ?_ _)); exact BK1.out) hb); have n2_ := Aside0.mk (blk_below (g := g2) (o := .cells #[.int .i64 M, .int .i64 R] 23 (0, 0)) (by (with_reducible repeat (first | refine blk_drewN ?_ _ | refine blk_drew ?_ | refine blk_alloc ?_ _)); exact BK2.out) hb); have n3_ := Aside0.mk (below_step (by repeat (first | (with_reducible first | exact HB.out | apply below_alloc | apply pw_below_drewN | apply below_drew1 | refine below_set ?_ GE2.out) | exact HB.out)) hb); clear BK1 BK2 HB hb c1_0 c1_1 f1_0 f1_1 c2_0 c2_1 f2_0 f2_1; have BK1 := n1_; have BK2 := n2_; have HB := n3_; clear n1_ n2_ n3_; obtain ⟨c1_0, c1_1⟩ := cells_of BK1.out; have f1_0 := blk_frozen BK1.out 0; have f1_1 := blk_frozen BK1.out 1; obtain ⟨c2_0, c2_1⟩ := cells_of BK2.out; have f2_0 := blk_frozen BK2.out 0; have f2_1 := blk_frozen BK2.out 1) | (go_at_call 12; (with_reducible refine (place_Member.calls k M R r (wrap64 (M - 1)) q 0 _ Q2.out).mono ?_); rintro e w' ⟨rfl, hb⟩; have n1_ := Aside0.mk (blk_below (g := g1) (o := .cells #[.int .u16 u, .int .u16 v] 35 (0, 0)) (by (with_reducible repeat (first | refine blk_drewN ?_ _ | refine blk_drew ?_ | refine blk_alloc ?_ _)); exact BK1.out) hb); have n2_ := Aside0.mk (blk_below (g := g2) (o := .cells #[.int .i64 M, .int .i64 R] 23 (0, 0)) (by (with_reducible repeat (first | refine blk_drewN ?_ _ | refine blk_drew ?_ | refine blk_alloc ?_ _)); exact BK2.out) hb); have n3_ := Aside0.mk (below_step (by repeat (first | (with_reducible first | exact HB.out | apply below_alloc | apply pw_below_drewN | apply below_drew1 | refine below_set ?_ GE2.out) | exact HB.out)) hb); clear BK1 BK2 HB hb c1_0 c1_1 f1_0 f1_1 c2_0 c2_1 f2_0 f2_1; have BK1 := n1_; have BK2 := n2_; have HB := n3_; clear n1_ n2_ n3_; obtain ⟨c1_0, c1_1⟩ := cells_of BK1.out; have f1_0 := blk_frozen BK1.out 0; have f1_1 := blk_frozen BK1.out 1; obtain ⟨c2_0, c2_1⟩ := cells_of BK2.out; have f2_0 := blk_frozen BK2.out 0; have f2_1 := blk_frozen BK2.out 1) | (go_at_call 14; (with_reducible refine (casematelaw15_awake.calls k true _ AW.out).mono ?_); rintro e w' ⟨rfl, hb⟩; have n1_ := Aside0.mk (blk_below (g := g1) (o := .cells #[.int .u16 u, .int .u16 v] 35 (0, 0)) (by (with_reducible repeat (first | refine blk_drewN ?_ _ | refine blk_drew ?_ | refine blk_alloc ?_ _)); exact BK1.out) hb); have n2_ := Aside0.mk (blk_below (g := g2) (o := .cells #[.int .i64 M, .int .i64 R] 23 (0, 0)) (by (with_reducible repeat (first | refine blk_drewN ?_ _ | refine blk_drew ?_ | refine blk_alloc ?_ _)); exact BK2.out) hb); have n3_ := Aside0.mk (below_step (by repeat (first | (with_reducible first | exact HB.out | apply below_alloc | apply pw_below_drewN | apply below_drew1 | refine below_set ?_ GE2.out) | exact HB.out)) hb); clear BK1 BK2 HB hb c1_0 c1_1 f1_0 f1_1 c2_0 c2_1 f2_0 f2_1; have BK1 := n1_; have BK2 := n2_; have HB := n3_; clear n1_ n2_ n3_; obtain ⟨c1_0, c1_1⟩ := cells_of BK1.out; have f1_0 := blk_frozen BK1.out 0; have f1_1 := blk_frozen BK1.out 1; obtain ⟨c2_0, c2_1⟩ := cells_of BK2.out; have f2_0 := blk_frozen BK2.out 0; have f2_1 := blk_frozen BK2.out 1))
  all_goals first
    | (exfalso; revert e2; simp [*]; done)
    | (go_ret; exact ⟨by first | rfl | (simp; done) | (simp [*]; done), HB.out⟩)


open Go.Proofs.Ytpelcemffincoaa.BrPlaceApart
theorem walk (x y : Int) (l : List Int) (w : World) (wx : (Lit.int .u8 x).wf = true) (wy : (Lit.int .u8 y).wf = true) (hl : l.length = 2) (wl : ∀ z ∈ l, (Lit.int .u16 z).wf = true) :
    Calls Try.prog 6 #[.int .u8 x, .int .u8 y, .agg (l.map (Value.int .u16)).toArray] w fun e w' => e = .returned (.bool true) ∧ Below w.heap.size w w' := by
  obtain ⟨u, v, rfl⟩ : ∃ u v, l = [u, v] := by
    match l, hl with
    | [u, v], _ => exact ⟨u, v, rfl⟩
  have hx := bounds_u8 wx
  have hy := bounds_u8 wy
  have hu := bounds_u16 (wl u (by simp))
  have hv := bounds_u16 (wl v (by simp))
  have ex : Int.tmod x 61 = x % 61 := tmod_pos (by omega)
  have ey : Int.tmod y 64 = y % 64 := tmod_pos (by omega)
  have hs : casematelaw15_small.f x y = some (4 + x % 61, 1 + y % 64) := by
    unfold casematelaw15_small.f
    rw [wr (x := x) (by omega) (by omega), wr (x := y) (by omega) (by omega), ex, ey, wr (x := 4 + x % 61) (by omega) (by omega), wr (x := 1 + y % 64) (by omega) (by omega)]
  have g : Geo (4 + x % 61) (1 + y % 64) := ⟨by omega, by omega, by omega, by omega⟩
  generalize 4 + x % 61 = M at hs g
  generalize 1 + y % 64 = R at hs g
  have h1 := g.m0; have h2 := g.m1; have h3 := g.r1; have h4 := g.r0
  have hN := mul_rng (a := R) (b := M - 2) (A := 64) (B := 64) (by omega) g.r1 (by omega) (by omega)
  have hN1 : 1 * 1 ≤ R * (M - 2) := Int.mul_le_mul (by omega) (by omega) (by omega) (by omega)
  have b1 : 0 ≤ u % (R * (M - 2)) ∧ u % (R * (M - 2)) < R * (M - 2) := ⟨Int.emod_nonneg _ (by omega), Int.emod_lt_of_pos _ (by omega)⟩
  have b2 : 0 ≤ v % (R * (M - 2)) ∧ v % (R * (M - 2)) < R * (M - 2) := ⟨Int.emod_nonneg _ (by omega), Int.emod_lt_of_pos _ (by omega)⟩
  have ta : Int.tmod u (R * (M - 2)) = u % (R * (M - 2)) := tmod_pos hu.1
  have tb : Int.tmod v (R * (M - 2)) = v % (R * (M - 2)) := tmod_pos hv.1
  generalize u % (R * (M - 2)) = a at b1 ta
  generalize v % (R * (M - 2)) = b at b2 tb
  have d1 := div_rng (show 0 < M - 2 by omega) b1.1 b1.2
  have d2 := div_rng (show 0 < M - 2 by omega) b2.1 b2.2
  have m1 := memv_rng (M := M) (row := a / (M - 2)) (n := a % (M - 2)) (by omega)
  have m2 := memv_rng (M := M) (row := b / (M - 2)) (n := b % (M - 2)) (by omega)
  have c1 := colv_memv (M := M) (row := a / (M - 2)) (c := a % (M - 2)) d1.2.2.1 (by omega)
  have c2 := colv_memv (M := M) (row := b / (M - 2)) (c := b % (M - 2)) d2.2.2.1 (by omega)
  have c3 := colv_memv (M := M) (row := a / (M - 2)) (c := M - 2) (by omega) (by omega)
  have c4 := colv_memv (M := M) (row := a / (M - 2)) (c := M - 1) (by omega) (by omega)
  have w1 : wrap64 (M - 2) = M - 2 := wr (by omega) (by omega)
  have w2 : wrap64 (M - 1) = M - 1 := wr (by omega) (by omega)
  have o1 := of_yes (k := 10) (by decide) g b1
  have o2 := of_yes (k := 10) (by decide) g b2
  have q1 := member_yes (k := 10) (row := a / (M - 2)) (n := a % (M - 2)) (by decide) g ⟨d1.1, d1.2.1, d1.2.2.1, by omega⟩
  have q2 := member_yes (k := 10) (row := b / (M - 2)) (n := b % (M - 2)) (by decide) g ⟨d2.1, d2.2.1, d2.2.2.1, by omega⟩
  have q3 := member_yes (k := 10) (row := a / (M - 2)) (n := M - 2) (by decide) g ⟨d1.1, d1.2.1, by omega, by omega⟩
  have q4 := member_yes (k := 10) (row := a / (M - 2)) (n := M - 1) (by decide) g ⟨d1.1, d1.2.1, by omega, by omega⟩
  have l1 := leaf_yes (k := 10) (row := a / (M - 2)) (n := memv M (a / (M - 2)) (a % (M - 2))) (by decide) g ⟨d1.1, d1.2.1, m1.1, m1.2⟩
  have l2 := leaf_yes (k := 10) (row := b / (M - 2)) (n := memv M (b / (M - 2)) (b % (M - 2))) (by decide) g ⟨d2.1, d2.2.1, m2.1, m2.2⟩
  have e0 : a / (M - 2) = b / (M - 2) → memv M (a / (M - 2)) (a % (M - 2)) = memv M (b / (M - 2)) (b % (M - 2)) → a = b := by
    intro i1 i2
    rw [i2, i1, c2] at c1
    rw [d1.2.2.2.2, d2.2.2.2.2, i1, c1]
  have e1 : ((a / (M - 2) * M + memv M (a / (M - 2)) (a % (M - 2)) == b / (M - 2) * M + memv M (b / (M - 2)) (b % (M - 2))) == (a == b)) = true := by
    by_cases hab : a = b
    · rw [hab]; simp
    · have : ¬ (a / (M - 2) * M + memv M (a / (M - 2)) (a % (M - 2)) = b / (M - 2) * M + memv M (b / (M - 2)) (b % (M - 2))) := by
        intro hx
        have j1 := div_is (n := a / (M - 2) * M + memv M (a / (M - 2)) (a % (M - 2))) (w := M) rfl m1.1 m1.2
        have j2 := div_is (n := b / (M - 2) * M + memv M (b / (M - 2)) (b % (M - 2))) (w := M) rfl m2.1 m2.2
        rw [hx] at j1
        exact hab (e0 (j1.1.symm.trans j2.1) (j1.2.symm.trans j2.2))
      rw [beq_eq_false_iff_ne.2 this, beq_eq_false_iff_ne.2 hab]; rfl
  have e2 : ((a == b) || (a / (M - 2) != b / (M - 2)) || (memv M (a / (M - 2)) (a % (M - 2)) != memv M (b / (M - 2)) (b % (M - 2)))) = true := by
    by_cases i1 : a / (M - 2) = b / (M - 2)
    · by_cases i2 : memv M (a / (M - 2)) (a % (M - 2)) = memv M (b / (M - 2)) (b % (M - 2))
      · rw [e0 i1 i2]; simp
      · rw [bne_iff_ne.2 i2]; simp
    · rw [bne_iff_ne.2 i1]; simp
  have e3 : (memv M (a / (M - 2)) (a % (M - 2)) != memv M (a / (M - 2)) (M - 2)) = true := by
    rw [bne_iff_ne]; intro hx; rw [hx, c3] at c1; omega
  have e4 : (memv M (a / (M - 2)) (a % (M - 2)) != memv M (a / (M - 2)) (M - 1)) = true := by
    rw [bne_iff_ne]; intro hx; rw [hx, c4] at c1; omega
  have e5 : (memv M (a / (M - 2)) (M - 2) != memv M (a / (M - 2)) (M - 1)) = true := by
    rw [bne_iff_ne]; intro hx; rw [hx, c4] at c3; omega
  exact walk0 x y M R u v (R * (M - 2)) a b _ _ _ _ _ _ _ _ _ _ w hs (logical_yes g) (decide_eq_false (by omega)) (by omega) (wr (by omega) (by omega)) (wr (by omega) (by omega)) ta tb 10 o1 o2 q1 q2 l1 l2 (by rw [w1]; exact q3) (by rw [w2]; exact q4) e1 e2 e3 e4 e5 (awake_f (by decide))
end Go.Proofs.Ytpelcemffincoaa.OwnPlaceApart
namespace Go.Proofs.Ytpelcemffincoaa.placeApart
open Go.ChangeShapes Go.WideShapes Go.ChangeAt Go.RowKit
open Go.ChangeMaps (open_string shut_string)
set_option linter.unusedVariables false
theorem own : ownKnob Try.prog.godebug = none := by kernel_rfl
theorem Try.laidOut : laidOutB Try.prog = true := by kernel_rfl
theorem cells35 : Try.prog.cellsOf 35 = 2 := by kernel_rfl
theorem cells34 : Try.prog.cellsOf 34 = 1 := by kernel_rfl
set_option maxRecDepth 100000 in
theorem lifted (os : Os) (started : os.Started) (H : Type) (enc : TypeId × Value → H) :
    ReturnsInHanded {} Try.checked os 6 .any (Rows.placeApartSpec.pre6 enc Try.prog Try.f6 Rows.placeApartRow.domain false) (Rows.placeApartSpec.post enc Try.prog Try.f6 false true false false) := by
  refine returnsInHanded_of_change_sized (C := Try.checked) own started (by kernel_rfl) Try.func6
    (ChangeSpec.witness6 (enc := enc) (C := Try.checked) false ⟨#[], #[.int .u8 0, .int .u8 0, .agg #[.int .u16 0, .int .u16 0]], []⟩ 8 (by kernel_rfl) (by kernel_rfl) (by kernel_rfl) (by kernel_rfl)) ?_
  intro W base args ds gs before hval0 hW hcnd hsz0 _
  have hval : ∀ (j : Nat) t v, Try.f6.params[j]? = some t → args[j]? = some v → Value.okWide Try.prog W .any base t v := hval0
  have hW' := hW
  have hWlt := hW.lt
  obtain ⟨p, q, hA0, hV, rfl, hfz, hnd⟩ := hW
  have hA : DataW.TrodAll enc Try.prog W 0 (fun _ => true) true Try.f6.params.toList args.toList ds p := hA0
  rw [Try.params6] at hA hval
  obtain ⟨v0, vs0, d0, ds0, p0, q0, hargs, rfl, rfl, h0, r0⟩ := trodAll_cons hA
  obtain ⟨v1, vs1, d1, ds1, p1, q1, rfl, rfl, rfl, h1, r1⟩ := trodAll_cons r0
  obtain ⟨v2, vs2, d2, ds2, p2, q2, rfl, rfl, rfl, h2, r2⟩ := trodAll_cons r1
  obtain ⟨rfl, rfl, rfl⟩ := trodAll_nil r2
  obtain rfl : args = #[v0, v1, v2] := by cases args; simp_all
  obtain ⟨rfl, rfl⟩ := trodVars_none hV
  have k0 := h0
  have l0 : ∀ x ∈ p0, x.block < W.heap.size := fun x hx => hWlt x (by simp [hx])
  have k1 := h1
  have l1 : ∀ x ∈ p1, x.block < W.heap.size := fun x hx => hWlt x (by simp [hx])
  have k2 := h2
  have l2 : ∀ x ∈ p2, x.block < W.heap.size := fun x hx => hWlt x (by simp [hx])
  obtain ⟨a0, rfl, rfl, rfl, w0⟩ := open_int Try.underlying5 (hval 0 5 v0 rfl rfl) h0
  obtain ⟨a1, rfl, rfl, rfl, w1⟩ := open_int Try.underlying5 (hval 1 5 v1 rfl rfl) h1
  obtain ⟨c2, rfl, e2, w2⟩ := Op.open_row Try.underlying35 Try.underlying34 cells35 cells34 (hval 2 35 v2 rfl rfl) h2
  refine (OwnPlaceApart.walk a0 a1 c2 W w0 w1 e2 w2).mono fun e W' ⟨he, bel⟩ => ?_
  subst he
  exact ⟨_, rfl, _, _, _, [], _, [], hW', trodAll_mk1 (shut_bool Try.underlying4 _), (trodAll_cons_mk (Below.trod Try.laidOut (by kernel_rfl) (of_decide_eq_true (by kernel_rfl)) k0 bel l0) (trodAll_cons_mk (Below.trod Try.laidOut (by kernel_rfl) (of_decide_eq_true (by kernel_rfl)) k1 bel l1) (trodAll_cons_mk (Below.trod Try.laidOut (by kernel_rfl) (of_decide_eq_true (by kernel_rfl)) k2 bel l2) trodAll_mk0))), rfl, bel.frame _, fun h => by cases h⟩
theorem over : Rows.placeApartRow.holds Try.pinned (OpenSpec.ofChange Rows.placeApartSpec) :=
  OpenClaim.holds_of_wide 6 Try.f6 rfl rfl rfl rfl rfl rfl rfl ⟨rfl, rfl, rfl, rfl, rfl⟩ rfl rfl rfl rfl rfl (by kernel_rfl) Try.func6 (by kernel_rfl)
    (of_decide_eq_true (by kernel_rfl)) (by unfold Func.isWrapper; first | (rw [if_pos (by decide +kernel)]; kernel_rfl) | (rw [if_neg (by decide +kernel)]; exact ⟨rfl, rfl⟩))
    (fun os started H enc _ => lifted os started H enc)
theorem proved : Rows.PlaceApartSaid := over
#print axioms proved
end Go.Proofs.Ytpelcemffincoaa.placeApart
namespace Go.Proofs.Ytpelcemffincoaa
/-- The row, under a short name, for the claim. -/
theorem placeApart_holds : Rows.PlaceApartSaid := placeApart.proved
end Go.Proofs.Ytpelcemffincoaa
