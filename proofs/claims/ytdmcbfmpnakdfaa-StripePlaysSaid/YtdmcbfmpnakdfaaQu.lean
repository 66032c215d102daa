/- The document's Fix: its loop over the places. -/
import Derived.Test.YtdmcbfmpnakdfaaQt
namespace Go.Proofs.Ytdmcbfmpnakdfaa.Eng
open Go Go.Proofs Go.Proofs.Ytdmcbfmpnakdfaa.Gf
set_option maxRecDepth 20000
set_option maxHeartbeats 4000000
theorem psum_byte {L M : List (List Nat)} (k : Nat) (hk : k < 64) (hL : Secs L) (hM : Secs M) : ∀ n, n ≤ L.length → n ≤ M.length → (∀ i, i < n → (L.getD i []).getD k 0 = (M.getD i []).getD k 0) → (psum L n).getD k 0 = (psum M n).getD k 0
  | 0, _, _, _ => rfl
  | n + 1, h1, h2, h => by
    show (xorL (psum L n) (L.getD n [])).getD k 0 = (xorL (psum M n) (M.getD n [])).getD k 0
    rw [xorL_get (by rw [(psum_sec hL n (by omega)).len]; exact hk) (by rw [(hL.at (by omega)).len]; exact hk), xorL_get (by rw [(psum_sec hM n (by omega)).len]; exact hk) (by rw [(hM.at (by omega)).len]; exact hk),
      psum_byte k hk hL hM n (by omega) (by omega) (fun i hi => h i (by omega)), h n (by omega)]
theorem qsum_byte {L M : List (List Nat)} (k : Nat) (hk : k < 64) (hL : Secs L) (hM : Secs M) : ∀ n, n ≤ L.length → n ≤ M.length → (∀ i, i < n → (L.getD i []).getD k 0 = (M.getD i []).getD k 0) → (qsum L n).getD k 0 = (qsum M n).getD k 0
  | 0, _, _, _ => rfl
  | n + 1, h1, h2, h => by
    show (xorL (qsum L n) (mulL (L.getD n []) _)).getD k 0 = (xorL (qsum M n) (mulL (M.getD n []) _)).getD k 0
    rw [xorL_get (by rw [(qsum_sec hL n (by omega)).len]; exact hk) (by rw [mulL_length (hL.at (by omega)).len]; exact hk), xorL_get (by rw [(qsum_sec hM n (by omega)).len]; exact hk) (by rw [mulL_length (hM.at (by omega)).len]; exact hk),
      mulL_get (by rw [(hL.at (by omega)).len]; exact hk), mulL_get (by rw [(hM.at (by omega)).len]; exact hk),
      qsum_byte k hk hL hM n (by omega) (by omega) (fun i hi => h i (by omega)), h n (by omega)]
theorem getD_set_get {Z : List (List Nat)} {a i : Nat} {S : List Nat} {k : Nat} (ha : a < Z.length) (h : S.getD k 0 = (Z.getD a []).getD k 0) : ((Z.set a S).getD i []).getD k 0 = (Z.getD i []).getD k 0 := by
  by_cases e : a = i
  · subst e; rw [getD_set_eq ha, h]
  · rw [getD_set_ne e]
/-- What is seen at a place k of a row that is as Z is there. -/
structure SeeAt (Z F : List (List Nat)) (m k : Nat) : Prop where
  len : F.length = m + 2
  secs : Secs F
  at_m : F.getD m [] = Z.getD m []
  at_m1 : F.getD (m + 1) [] = Z.getD (m + 1) []
  low : ∀ i, i < m → (F.getD i []).getD k 0 = (Z.getD i []).getD k 0
def pB (Z : List (List Nat)) (m k : Nat) : Nat := (Z.getD m []).getD k 0 ^^^ (psum Z m).getD k 0
def qB (Z : List (List Nat)) (m k : Nat) : Nat := (Z.getD (m + 1) []).getD k 0 ^^^ (qsum Z m).getD k 0
theorem pB_xor {Z : List (List Nat)} {m k : Nat} (hZ : Z.length = m + 2) (hS : Secs Z) (hk : k < 64) : (xorL (Z.getD m []) (psum Z m)).getD k 0 = pB Z m k :=
  xorL_get (by rw [(hS.at (by omega)).len]; exact hk) (by rw [(psum_sec hS m (by omega)).len]; exact hk)
theorem qB_xor {Z : List (List Nat)} {m k : Nat} (hZ : Z.length = m + 2) (hS : Secs Z) (hk : k < 64) : (xorL (Z.getD (m + 1) []) (qsum Z m)).getD k 0 = qB Z m k :=
  xorL_get (by rw [(hS.at (by omega)).len]; exact hk) (by rw [(qsum_sec hS m (by omega)).len]; exact hk)
theorem seen {Z F : List (List Nat)} {m k : Nat} (h : SeeAt Z F m k) (hZ : Z.length = m + 2) (hS : Secs Z) (hm : m ≤ 62) (hk : k < 64) :
    FunT Try.prog 82 [.sc (.sl 0 0 64 m none), iv (-1), iv (k : Nat)] [rowS F] (ub ((psum Z m).getD k 0)) [rowS F] ∧
    FunT Try.prog 83 [.sc (.sl 0 0 64 m none), iv (-1), iv (k : Nat)] [rowS F] (ub ((qsum Z m).getD k 0)) [rowS F] ∧
    (F.map secS)[0 + (m : Int).toNat]? = some (secS (Z.getD m [])) ∧ (F.map secS)[0 + ((m + 1 : Nat) : Int).toNat]? = some (secS (Z.getD (m + 1) [])) ∧
    arithI .xor .u8 ((Z.getD m []).getD k 0 : Nat) ((psum Z m).getD k 0 : Nat) = some (pB Z m k : Nat) ∧
    arithI .xor .u8 ((Z.getD (m + 1) []).getD k 0 : Nat) ((qsum Z m).getD k 0 : Nat) = some (qB Z m k : Nat) ∧ pB Z m k < 256 ∧ qB Z m k < 256 ∧ (F.map secS).length = m + 2 := by
  have hF := h.len
  have sF := h.secs
  have gP := refP_ok F m none k sF (by omega) (by omega) hk
  have gQ := refQ_ok F m none k sF (by omega) (by omega) hk
  rw [psum_byte k hk sF hS m (by omega) (by omega) h.low] at gP
  rw [qsum_byte k hk sF hS m (by omega) (by omega) h.low] at gQ
  have h1 := row_at (S := F) (k := m) (by omega)
  have h2 := row_at (S := F) (k := m + 1) (by omega)
  rw [h.at_m] at h1
  rw [h.at_m1] at h2
  have b1 := (hS.at (i := m) (by omega)).get k
  have b2 := (hS.at (i := m + 1) (by omega)).get k
  have b3 := (psum_sec hS m (by omega)).get k
  have b4 := (qsum_sec hS m (by omega)).get k
  exact ⟨gP, gQ, h1, h2, xor8 b1 b3, xor8 b2 b4, xor_lt b1 b3, xor_lt b2 b4, by simp [hF]⟩
theorem see_self {Z : List (List Nat)} {m k : Nat} (hZ : Z.length = m + 2) (hS : Secs Z) : SeeAt Z Z m k := ⟨hZ, hS, rfl, rfl, fun _ _ => rfl⟩
theorem see_one {Z F : List (List Nat)} {m k i : Nat} {V : List Nat} (h : SeeAt Z F m k) (hV : Sec V) (him : i < m) (hz : Z.getD i [] = zeros) (_hk : k < 64) (hkV : V.getD k 0 = 0) : SeeAt Z (F.set i V) m k :=
  have hF := h.len
  ⟨by simp [hF], set_secs h.secs hV, by rw [getD_set_ne (by omega), h.at_m], by rw [getD_set_ne (by omega), h.at_m1], fun j hj => by
    rw [getD_set_get (by omega) (by rw [h.low i him, hz, zeros_get, hkV]), h.low j hj]⟩
abbrev rmH (L F : List (List Nat)) (X lb db : Option ABlk) : LHp := [rowS L, X, lb, rowX F, db]
def rmI (L : List (List Nat)) (X : Option ABlk) (m : Nat) (lv : SV) (lb : Option ABlk) (dv : SV) (db : Option ABlk) (w : Bool) (F : Nat → List (List Nat)) (k : Nat) : LTm × LHp :=
  ([.junk, .junk, .junk, .junk, .junk, .junk, iv (m : Nat), .sc lv, .sc (.sl 3 0 64 (m + 2) none), .sc dv, bv w, .junk, iv (k : Nat), .junk, .junk, .junk, .junk, .junk, .junk, .junk, .junk, .junk, .junk, .junk, .junk, .junk, .junk, .junk, .junk, .junk, .junk, .junk, .junk, .junk, .junk, .junk, .junk, .junk, .junk, .junk, .junk, .junk, .junk, .junk, .junk, .junk, .junk, .junk, .junk, .junk, .junk, .junk, .junk, .junk, .junk, .junk, .junk, .junk, .junk, .junk, .junk, .junk, .junk, .junk, .junk, .junk, .junk, .junk, .junk, .junk, .junk, .junk, .junk, .junk, .junk, .junk, .junk, .junk, .junk, .junk, .junk, .junk, .junk, .junk, .junk, .junk, .junk, .junk, .junk, .junk, .junk, .junk, .junk, .junk, .junk, .junk, .junk, .junk, .junk, .junk, .junk, .junk, .junk, .junk, .junk, .junk, .junk, .junk, .junk, .junk, .junk, .junk, .junk, .junk, .junk, .junk, .junk, .junk, .junk, .junk, .junk, .junk, .junk, .junk, .junk, .junk, .junk, .junk, .junk, .junk, .junk, .junk, .junk, .junk, .junk, .junk, .junk, .junk, .junk, .junk, .junk, .junk, .junk, .junk, .junk, .junk, .junk, .junk, .junk, .junk, .junk, .junk, .junk, .junk, .junk, .junk, .junk, .junk, .junk, .junk, .junk, .junk, .junk, .junk, .junk, .junk, .junk, .junk, .junk, .junk, .junk, .junk, .junk, .junk, .junk, .junk, .junk, .junk, .junk, .junk, .junk, .junk, .junk, .junk, .junk, .junk, .junk, .junk, .junk, .junk, .junk, .junk, .junk, .junk, .junk, .junk, .junk, .junk, .junk, .junk, .junk, .junk, .junk, .junk, .junk, .junk, .junk, .junk, .junk, .junk, .junk, .junk, .junk, .junk, .junk, .junk, .junk, .junk, .junk, .junk, .junk, .junk, .junk, .junk, .junk], rmH L (F k) X lb db)
/-- The end of Fix from the last loop on. -/
def RefEnd (L R : List (List Nat)) (X : Option ABlk) (m : Nat) (ks : List Nat) : Prop :=
    CodeT Try.prog 2 (suf 12 (bodyC Try.f18)) ([.junk, .junk, .junk, .junk, .junk, .junk, iv (m : Nat), .sc (nrS (kz ks) 2), .sc (.sl 3 0 64 (m + 2) none), .junk, .junk, .junk, .junk, .junk, .junk, .junk, .junk, .junk, .junk, .junk, .junk, .junk, .junk, .junk, .junk, .junk, .junk, .junk, .junk, .junk, .junk, .junk, .junk, .junk, .junk, .junk, .junk, .junk, .junk, .junk, .junk, .junk, .junk, .junk, .junk, .junk, .junk, .junk, .junk, .junk, .junk, .junk, .junk, .junk, .junk, .junk, .junk, .junk, .junk, .junk, .junk, .junk, .junk, .junk, .junk, .junk, .junk, .junk, .junk, .junk, .junk, .junk, .junk, .junk, .junk, .junk, .junk, .junk, .junk, .junk, .junk, .junk, .junk, .junk, .junk, .junk, .junk, .junk, .junk, .junk, .junk, .junk, .junk, .junk, .junk, .junk, .junk, .junk, .junk, .junk, .junk, .junk, .junk, .junk, .junk, .junk, .junk, .junk, .junk, .junk, .junk, .junk, .junk, .junk, .junk, .junk, .junk, .junk, .junk, .junk, .junk, .junk, .junk, .junk, .junk, .junk, .junk, .junk, .junk, .junk, .junk, .junk, .junk, .junk, .junk, .junk, .junk, .junk, .junk, .junk, .junk, .junk, .junk, .junk, .junk, .junk, .junk, .junk, .junk, .junk, .junk, .junk, .junk, .junk, .junk, .junk, .junk, .junk, .junk, .junk, .junk, .junk, .junk, .junk, .junk, .junk, .junk, .junk, .junk, .junk, .junk, .junk, .junk, .junk, .junk, .junk, .junk, .junk, .junk, .junk, .junk, .junk, .junk, .junk, .junk, .junk, .junk, .junk, .junk, .junk, .junk, .junk, .junk, .junk, .junk, .junk, .junk, .junk, .junk, .junk, .junk, .junk, .junk, .junk, .junk, .junk, .junk, .junk, .junk, .junk, .junk, .junk, .junk, .junk, .junk, .junk, .junk, .junk, .junk, .junk, .junk, .junk, .junk, .junk, .junk]) [rowS L, X, nrB (kz ks), rowX R]
      (retQ Try.prog Try.f18 2 (.tup [.sc (.sl 2 0 64 (m + 2) none), iv 0]) [rowS L, X, rowX (fixEnd R m ks)])
theorem refEnd (L R : List (List Nat)) (X : Option ABlk) (m : Nat) (ks : List Nat) (hX : X = none ∨ ∃ zs, X = rowRI zs) (hk : Two ks (m + 2)) (hR : R.length = m + 2) (hS : Secs R) (hm : m ≤ 62) : RefEnd L R X m ks := by
  unfold RefEnd
  have hlt := hk.lt
  have hl := hk.len
  cases ks with
  | nil =>
    rcases hX with rfl | ⟨zs, rfl⟩ <;>
    · refine evC_sound tabOk mixed _ _ _ _ ?_
      conv => whnf
      repeat (first | (refine ⟨(by kernel_rfl : chkR _ _ _ _ = true), ?_⟩; conv => whnf) | (refine EvOr.go ?_; conv => whnf))
      refine CodeS.loop0 tabOk mixed (Nat.le_of_ble_eq_true rfl) ?_
      conv => whnf
      repeat (first | (refine ⟨(by kernel_rfl : chkR _ _ _ _ = true), ?_⟩; conv => whnf) | (refine EvOr.go ?_; conv => whnf))
      intro c hc
      obtain rfl : c = false := by rw [hc]; rfl
      conv => whnf
      repeat (first | (refine ⟨(by kernel_rfl : chkR _ _ _ _ = true), ?_⟩; conv => whnf) | (refine EvOr.go ?_; conv => whnf))
      exact retQ.allS tabOk [0, 1, 3] _ [.sc (.sl 3 0 64 (m + 2) none), iv 0] rfl (by first | exact .inr rfl | exact .inl rfl) (by repeat' (first | exact trivial | rfl | (intro h; cases h; done) | (refine ⟨?_, ?_⟩))) rfl (by rfl) (by kernel_rfl) (by first | rfl | kernel_rfl)
  | cons a r =>
    have hn := nr_row (T := kz (a :: r)) 2 (by simp)
    rw [hn.1, hn.2, show (kz (a :: r)).length = (a :: r).length by simp]
    exact refE L R X m (a :: r) hX hlt (by simp) hl hR hS hm
theorem refM0n (L Z : List (List Nat)) (X : Option ABlk) (m : Nat) (w : Bool) (hX : X = none ∨ ∃ zs, X = rowRI zs) (hZ : Z.length = m + 2) (hS : Secs Z) (hm : m ≤ 62) (gS : RefEnd L Z X m []) :
    CodeT Try.prog 2 (suf 11 (bodyC Try.f18)) ([.junk, .junk, .junk, .junk, .junk, .junk, iv (m : Nat), .sc (nilS), .sc (.sl 3 0 64 (m + 2) none), .sc (nilS), bv w, .junk, .junk, .junk, .junk, .junk, .junk, .junk, .junk, .junk, .junk, .junk, .junk, .junk, .junk, .junk, .junk, .junk, .junk, .junk, .junk, .junk, .junk, .junk, .junk, .junk, .junk, .junk, .junk, .junk, .junk, .junk, .junk, .junk, .junk, .junk, .junk, .junk, .junk, .junk, .junk, .junk, .junk, .junk, .junk, .junk, .junk, .junk, .junk, .junk, .junk, .junk, .junk, .junk, .junk, .junk, .junk, .junk, .junk, .junk, .junk, .junk, .junk, .junk, .junk, .junk, .junk, .junk, .junk, .junk, .junk, .junk, .junk, .junk, .junk, .junk, .junk, .junk, .junk, .junk, .junk, .junk, .junk, .junk, .junk, .junk, .junk, .junk, .junk, .junk, .junk, .junk, .junk, .junk, .junk, .junk, .junk, .junk, .junk, .junk, .junk, .junk, .junk, .junk, .junk, .junk, .junk, .junk, .junk, .junk, .junk, .junk, .junk, .junk, .junk, .junk, .junk, .junk, .junk, .junk, .junk, .junk, .junk, .junk, .junk, .junk, .junk, .junk, .junk, .junk, .junk, .junk, .junk, .junk, .junk, .junk, .junk, .junk, .junk, .junk, .junk, .junk, .junk, .junk, .junk, .junk, .junk, .junk, .junk, .junk, .junk, .junk, .junk, .junk, .junk, .junk, .junk, .junk, .junk, .junk, .junk, .junk, .junk, .junk, .junk, .junk, .junk, .junk, .junk, .junk, .junk, .junk, .junk, .junk, .junk, .junk, .junk, .junk, .junk, .junk, .junk, .junk, .junk, .junk, .junk, .junk, .junk, .junk, .junk, .junk, .junk, .junk, .junk, .junk, .junk, .junk, .junk, .junk, .junk, .junk, .junk, .junk, .junk, .junk, .junk, .junk, .junk, .junk, .junk, .junk, .junk, .junk, .junk, .junk, .junk]) (rmH L Z X (none) (none))
      (retQ Try.prog Try.f18 2 (.tup [.sc (.sl 2 0 64 (m + 2) none), iv 0]) [rowS L, X, rowX (fixEnd (Z) m [])]) := by
  have hmi : arithI .add .i64 (m : Nat) 1 = some ((m + 1 : Nat) : Int) := inc_nat (by omega)
  unfold RefEnd at gS
  obtain ⟨I, hI⟩ : ∃ I, I = rmI L X m (nilS) (none) (nilS) (none) w (fun _ => Z) := ⟨_, rfl⟩
  rcases hX with rfl | ⟨zs, rfl⟩ <;>
  · refine evC_sound tabOk mixed _ _ _ _ ?_
    conv => whnf
    repeat (first | (refine ⟨(by kernel_rfl : chkR _ _ _ _ = true), ?_⟩; conv => whnf) | (refine EvOr.go ?_; conv => whnf))
    refine CodeT.loopN tabOk mixed I 64 _ (StW.ofP [0, 1, 2, 3, 4] ?_ ?_ ?_) (fun k => by subst hI; rfl) ?_
    · subst hI; kernel_rfl
    · subst hI; rfl
    · subst hI; rfl
    intro k hkl
    subst hI
    show evC Try.prog tab _ _ (rmI L _ m (nilS) (none) (nilS) (none) w (fun _ => Z) k).1 (rmH L (Z) _ (none) (none)) _
    by_cases hk : k < 64
    · obtain ⟨gP, gQ, hrm, hrm1, hxp, hxq, hp8, hq8, hz2⟩ := seen (see_self (k := k) hZ hS) hZ hS hm hk
      conv => whnf
      repeat (first | (refine ⟨(by kernel_rfl : chkR _ _ _ _ = true), ?_⟩; conv => whnf) | (refine EvOr.go ?_; conv => whnf))
      intro c hc
      obtain rfl : c = true := by rw [hc]; exact decide_eq_true (by omega)
      conv => whnf
      repeat (first | (refine ⟨(by kernel_rfl : chkR _ _ _ _ = true), ?_⟩; conv => whnf) | (refine EvOr.go ?_; conv => whnf))
      refine ⟨⟨by omega, by show (m : Int) < ((m + 2 : Nat) : Int); omega⟩, ?_⟩
      conv => whnf
      repeat (first | (refine ⟨(by kernel_rfl : chkR _ _ _ _ = true), ?_⟩; conv => whnf) | (refine EvOr.go ?_; conv => whnf))
      refine ⟨⟨by omega, by show (k : Int) < 64; omega⟩, ?_⟩
      conv => whnf
      repeat (first | (refine ⟨(by kernel_rfl : chkR _ _ _ _ = true), ?_⟩; conv => whnf) | (refine EvOr.go ?_; conv => whnf))
      refine ⟨_, hrm, by show k < 64; omega, ?_⟩
      conv => whnf
      repeat (first | (refine ⟨(by kernel_rfl : chkR _ _ _ _ = true), ?_⟩; conv => whnf) | (refine EvOr.go ?_; conv => whnf))
      refine ⟨⟨by decide, by omega, by show (m : Int) ≤ ((m + 2 : Nat) : Int); omega, fun _ => ⟨_, _, _, _, _, rfl, by rw [hz2]; omega⟩⟩, fun _ => ?_, fun _ h => absurd h (by decide)⟩
      conv => whnf
      repeat (first | (refine ⟨(by kernel_rfl : chkR _ _ _ _ = true), ?_⟩; conv => whnf) | (refine EvOr.go ?_; conv => whnf))
      refine CallG.use gP c82 [3] [] ?_ ?_ ?_ ?_ ?_ ?_; rfl; rfl; kernel_rfl; rfl; rfl
      conv => whnf
      repeat (first | (refine ⟨(by kernel_rfl : chkR _ _ _ _ = true), ?_⟩; conv => whnf) | (refine EvOr.go ?_; conv => whnf))
      refine ⟨_, hxp, ?_⟩
      conv => whnf
      repeat (first | (refine ⟨(by kernel_rfl : chkR _ _ _ _ = true), ?_⟩; conv => whnf) | (refine EvOr.go ?_; conv => whnf))
      refine ⟨_, hmi, ?_⟩
      conv => whnf
      repeat (first | (refine ⟨(by kernel_rfl : chkR _ _ _ _ = true), ?_⟩; conv => whnf) | (refine EvOr.go ?_; conv => whnf))
      refine ⟨⟨by omega, by show ((m + 1 : Nat) : Int) < ((m + 2 : Nat) : Int); omega⟩, ?_⟩
      conv => whnf
      repeat (first | (refine ⟨(by kernel_rfl : chkR _ _ _ _ = true), ?_⟩; conv => whnf) | (refine EvOr.go ?_; conv => whnf))
      refine ⟨⟨by omega, by show (k : Int) < 64; omega⟩, ?_⟩
      conv => whnf
      repeat (first | (refine ⟨(by kernel_rfl : chkR _ _ _ _ = true), ?_⟩; conv => whnf) | (refine EvOr.go ?_; conv => whnf))
      refine ⟨_, hrm1, by show k < 64; omega, ?_⟩
      conv => whnf
      repeat (first | (refine ⟨(by kernel_rfl : chkR _ _ _ _ = true), ?_⟩; conv => whnf) | (refine EvOr.go ?_; conv => whnf))
      refine ⟨⟨by decide, by omega, by show (m : Int) ≤ ((m + 2 : Nat) : Int); omega, fun _ => ⟨_, _, _, _, _, rfl, by rw [hz2]; omega⟩⟩, fun _ => ?_, fun _ h => absurd h (by decide)⟩
      conv => whnf
      repeat (first | (refine ⟨(by kernel_rfl : chkR _ _ _ _ = true), ?_⟩; conv => whnf) | (refine EvOr.go ?_; conv => whnf))
      refine CallG.use gQ c83 [3] [] ?_ ?_ ?_ ?_ ?_ ?_; rfl; rfl; kernel_rfl; rfl; rfl
      conv => whnf
      repeat (first | (refine ⟨(by kernel_rfl : chkR _ _ _ _ = true), ?_⟩; conv => whnf) | (refine EvOr.go ?_; conv => whnf))
      refine ⟨_, hxq, ?_⟩
      conv => whnf
      repeat (first | (refine ⟨(by kernel_rfl : chkR _ _ _ _ = true), ?_⟩; conv => whnf) | (refine EvOr.go ?_; conv => whnf))
      repeat (intro c hc; simp [] at hc; subst hc; (conv => whnf); repeat (first | (refine ⟨(by kernel_rfl : chkR _ _ _ _ = true), ?_⟩; (conv => whnf)) | (refine EvOr.go ?_; (conv => whnf))))
      refine ⟨_, inc_nat (by omega), ?_⟩
      conv => whnf
      repeat (first | (refine ⟨(by kernel_rfl : chkR _ _ _ _ = true), ?_⟩; conv => whnf) | (refine EvOr.go ?_; conv => whnf))
      refine ⟨by first | exact hk | omega, _, StW.ofP [0, 1, 2, 3, 4] ?_ ?_ ?_⟩
      · kernel_rfl
      · rfl
      · rfl
    · obtain rfl : k = 64 := by omega
      conv => whnf
      repeat (first | (refine ⟨(by kernel_rfl : chkR _ _ _ _ = true), ?_⟩; conv => whnf) | (refine EvOr.go ?_; conv => whnf))
      intro c hc
      obtain rfl : c = false := by rw [hc]; rfl
      conv => whnf
      refine ⟨(by kernel_rfl : chkR _ _ _ _ = true), ?_⟩
      conv => whnf
      refine EvOr.go ?_
      conv => whnf
      refine EvOr.cut (CodeT.weaken _ (StW.ofP [0, 1, 2, 3] ?_ ?_ ?_) (gS))
      · kernel_rfl
      · rfl
      · rfl
theorem refM0 (L Z : List (List Nat)) (X : Option ABlk) (m : Nat) (w : Bool) (ks : List Nat) (hX : X = none ∨ ∃ zs, X = rowRI zs) (hZ : Z.length = m + 2) (hS : Secs Z) (hm : m ≤ 62) (h0 : 0 < ks.length) (gS : RefEnd L Z X m ks) :
    CodeT Try.prog 2 (suf 11 (bodyC Try.f18)) ([.junk, .junk, .junk, .junk, .junk, .junk, iv (m : Nat), .sc (.sl 2 0 1 ks.length none), .sc (.sl 3 0 64 (m + 2) none), .sc (nilS), bv w, .junk, .junk, .junk, .junk, .junk, .junk, .junk, .junk, .junk, .junk, .junk, .junk, .junk, .junk, .junk, .junk, .junk, .junk, .junk, .junk, .junk, .junk, .junk, .junk, .junk, .junk, .junk, .junk, .junk, .junk, .junk, .junk, .junk, .junk, .junk, .junk, .junk, .junk, .junk, .junk, .junk, .junk, .junk, .junk, .junk, .junk, .junk, .junk, .junk, .junk, .junk, .junk, .junk, .junk, .junk, .junk, .junk, .junk, .junk, .junk, .junk, .junk, .junk, .junk, .junk, .junk, .junk, .junk, .junk, .junk, .junk, .junk, .junk, .junk, .junk, .junk, .junk, .junk, .junk, .junk, .junk, .junk, .junk, .junk, .junk, .junk, .junk, .junk, .junk, .junk, .junk, .junk, .junk, .junk, .junk, .junk, .junk, .junk, .junk, .junk, .junk, .junk, .junk, .junk, .junk, .junk, .junk, .junk, .junk, .junk, .junk, .junk, .junk, .junk, .junk, .junk, .junk, .junk, .junk, .junk, .junk, .junk, .junk, .junk, .junk, .junk, .junk, .junk, .junk, .junk, .junk, .junk, .junk, .junk, .junk, .junk, .junk, .junk, .junk, .junk, .junk, .junk, .junk, .junk, .junk, .junk, .junk, .junk, .junk, .junk, .junk, .junk, .junk, .junk, .junk, .junk, .junk, .junk, .junk, .junk, .junk, .junk, .junk, .junk, .junk, .junk, .junk, .junk, .junk, .junk, .junk, .junk, .junk, .junk, .junk, .junk, .junk, .junk, .junk, .junk, .junk, .junk, .junk, .junk, .junk, .junk, .junk, .junk, .junk, .junk, .junk, .junk, .junk, .junk, .junk, .junk, .junk, .junk, .junk, .junk, .junk, .junk, .junk, .junk, .junk, .junk, .junk, .junk, .junk, .junk, .junk, .junk, .junk, .junk]) (rmH L Z X (rowI (kz ks)) (none))
      (retQ Try.prog Try.f18 2 (.tup [.sc (.sl 2 0 64 (m + 2) none), iv 0]) [rowS L, X, rowX (fixEnd (Z) m ks)]) := by
  have hmi : arithI .add .i64 (m : Nat) 1 = some ((m + 1 : Nat) : Int) := inc_nat (by omega)
  unfold RefEnd at gS
  have hn := nr_row (T := kz ks) 2 (by simpa using h0)
  rw [hn.1, hn.2, show (kz ks).length = ks.length by simp] at gS
  obtain ⟨I, hI⟩ : ∃ I, I = rmI L X m (.sl 2 0 1 ks.length none) (rowI (kz ks)) (nilS) (none) w (fun _ => Z) := ⟨_, rfl⟩
  rcases hX with rfl | ⟨zs, rfl⟩ <;>
  · refine evC_sound tabOk mixed _ _ _ _ ?_
    conv => whnf
    repeat (first | (refine ⟨(by kernel_rfl : chkR _ _ _ _ = true), ?_⟩; conv => whnf) | (refine EvOr.go ?_; conv => whnf))
    refine CodeT.loopN tabOk mixed I 64 _ (StW.ofP [0, 1, 2, 3, 4] ?_ ?_ ?_) (fun k => by subst hI; rfl) ?_
    · subst hI; kernel_rfl
    · subst hI; rfl
    · subst hI; rfl
    intro k hkl
    subst hI
    show evC Try.prog tab _ _ (rmI L _ m (.sl 2 0 1 ks.length none) (rowI (kz ks)) (nilS) (none) w (fun _ => Z) k).1 (rmH L (Z) _ (rowI (kz ks)) (none)) _
    by_cases hk : k < 64
    · obtain ⟨gP, gQ, hrm, hrm1, hxp, hxq, hp8, hq8, hz2⟩ := seen (see_self (k := k) hZ hS) hZ hS hm hk
      conv => whnf
      repeat (first | (refine ⟨(by kernel_rfl : chkR _ _ _ _ = true), ?_⟩; conv => whnf) | (refine EvOr.go ?_; conv => whnf))
      intro c hc
      obtain rfl : c = true := by rw [hc]; exact decide_eq_true (by omega)
      conv => whnf
      repeat (first | (refine ⟨(by kernel_rfl : chkR _ _ _ _ = true), ?_⟩; conv => whnf) | (refine EvOr.go ?_; conv => whnf))
      refine ⟨⟨by omega, by show (m : Int) < ((m + 2 : Nat) : Int); omega⟩, ?_⟩
      conv => whnf
      repeat (first | (refine ⟨(by kernel_rfl : chkR _ _ _ _ = true), ?_⟩; conv => whnf) | (refine EvOr.go ?_; conv => whnf))
      refine ⟨⟨by omega, by show (k : Int) < 64; omega⟩, ?_⟩
      conv => whnf
      repeat (first | (refine ⟨(by kernel_rfl : chkR _ _ _ _ = true), ?_⟩; conv => whnf) | (refine EvOr.go ?_; conv => whnf))
      refine ⟨_, hrm, by show k < 64; omega, ?_⟩
      conv => whnf
      repeat (first | (refine ⟨(by kernel_rfl : chkR _ _ _ _ = true), ?_⟩; conv => whnf) | (refine EvOr.go ?_; conv => whnf))
      refine ⟨⟨by decide, by omega, by show (m : Int) ≤ ((m + 2 : Nat) : Int); omega, fun _ => ⟨_, _, _, _, _, rfl, by rw [hz2]; omega⟩⟩, fun _ => ?_, fun _ h => absurd h (by decide)⟩
      conv => whnf
      repeat (first | (refine ⟨(by kernel_rfl : chkR _ _ _ _ = true), ?_⟩; conv => whnf) | (refine EvOr.go ?_; conv => whnf))
      refine CallG.use gP c82 [3] [] ?_ ?_ ?_ ?_ ?_ ?_; rfl; rfl; kernel_rfl; rfl; rfl
      conv => whnf
      repeat (first | (refine ⟨(by kernel_rfl : chkR _ _ _ _ = true), ?_⟩; conv => whnf) | (refine EvOr.go ?_; conv => whnf))
      refine ⟨_, hxp, ?_⟩
      conv => whnf
      repeat (first | (refine ⟨(by kernel_rfl : chkR _ _ _ _ = true), ?_⟩; conv => whnf) | (refine EvOr.go ?_; conv => whnf))
      refine ⟨_, hmi, ?_⟩
      conv => whnf
      repeat (first | (refine ⟨(by kernel_rfl : chkR _ _ _ _ = true), ?_⟩; conv => whnf) | (refine EvOr.go ?_; conv => whnf))
      refine ⟨⟨by omega, by show ((m + 1 : Nat) : Int) < ((m + 2 : Nat) : Int); omega⟩, ?_⟩
      conv => whnf
      repeat (first | (refine ⟨(by kernel_rfl : chkR _ _ _ _ = true), ?_⟩; conv => whnf) | (refine EvOr.go ?_; conv => whnf))
      refine ⟨⟨by omega, by show (k : Int) < 64; omega⟩, ?_⟩
      conv => whnf
      repeat (first | (refine ⟨(by kernel_rfl : chkR _ _ _ _ = true), ?_⟩; conv => whnf) | (refine EvOr.go ?_; conv => whnf))
      refine ⟨_, hrm1, by show k < 64; omega, ?_⟩
      conv => whnf
      repeat (first | (refine ⟨(by kernel_rfl : chkR _ _ _ _ = true), ?_⟩; conv => whnf) | (refine EvOr.go ?_; conv => whnf))
      refine ⟨⟨by decide, by omega, by show (m : Int) ≤ ((m + 2 : Nat) : Int); omega, fun _ => ⟨_, _, _, _, _, rfl, by rw [hz2]; omega⟩⟩, fun _ => ?_, fun _ h => absurd h (by decide)⟩
      conv => whnf
      repeat (first | (refine ⟨(by kernel_rfl : chkR _ _ _ _ = true), ?_⟩; conv => whnf) | (refine EvOr.go ?_; conv => whnf))
      refine CallG.use gQ c83 [3] [] ?_ ?_ ?_ ?_ ?_ ?_; rfl; rfl; kernel_rfl; rfl; rfl
      conv => whnf
      repeat (first | (refine ⟨(by kernel_rfl : chkR _ _ _ _ = true), ?_⟩; conv => whnf) | (refine EvOr.go ?_; conv => whnf))
      refine ⟨_, hxq, ?_⟩
      conv => whnf
      repeat (first | (refine ⟨(by kernel_rfl : chkR _ _ _ _ = true), ?_⟩; conv => whnf) | (refine EvOr.go ?_; conv => whnf))
      repeat (intro c hc; simp [] at hc; subst hc; (conv => whnf); repeat (first | (refine ⟨(by kernel_rfl : chkR _ _ _ _ = true), ?_⟩; (conv => whnf)) | (refine EvOr.go ?_; (conv => whnf))))
      refine ⟨_, inc_nat (by omega), ?_⟩
      conv => whnf
      repeat (first | (refine ⟨(by kernel_rfl : chkR _ _ _ _ = true), ?_⟩; conv => whnf) | (refine EvOr.go ?_; conv => whnf))
      refine ⟨by first | exact hk | omega, _, StW.ofP [0, 1, 2, 3, 4] ?_ ?_ ?_⟩
      · kernel_rfl
      · rfl
      · rfl
    · obtain rfl : k = 64 := by omega
      conv => whnf
      repeat (first | (refine ⟨(by kernel_rfl : chkR _ _ _ _ = true), ?_⟩; conv => whnf) | (refine EvOr.go ?_; conv => whnf))
      intro c hc
      obtain rfl : c = false := by rw [hc]; rfl
      conv => whnf
      refine ⟨(by kernel_rfl : chkR _ _ _ _ = true), ?_⟩
      conv => whnf
      refine EvOr.go ?_
      conv => whnf
      refine EvOr.cut (CodeT.weaken _ (StW.ofP [0, 1, 2, 3] ?_ ?_ ?_) (gS))
      · kernel_rfl
      · rfl
      · rfl
theorem refM1s (L Z : List (List Nat)) (X : Option ABlk) (m : Nat) (ks : List Nat) (i : Nat) (hX : X = none ∨ ∃ zs, X = rowRI zs) (hZ : Z.length = m + 2) (hS : Secs Z) (hm : m ≤ 62) (h0 : 0 < ks.length) (him : i < m) (hz : Z.getD i [] = zeros) (gS : RefEnd L (Z.set i (mulL (xorL (Z.getD (m + 1) []) (qsum Z m)) (pwZ (-(i : Int))))) X m ks) :
    CodeT Try.prog 2 (suf 11 (bodyC Try.f18)) ([.junk, .junk, .junk, .junk, .junk, .junk, iv (m : Nat), .sc (.sl 2 0 1 ks.length none), .sc (.sl 3 0 64 (m + 2) none), .sc (.sl 4 0 1 1 none), bv true, .junk, .junk, .junk, .junk, .junk, .junk, .junk, .junk, .junk, .junk, .junk, .junk, .junk, .junk, .junk, .junk, .junk, .junk, .junk, .junk, .junk, .junk, .junk, .junk, .junk, .junk, .junk, .junk, .junk, .junk, .junk, .junk, .junk, .junk, .junk, .junk, .junk, .junk, .junk, .junk, .junk, .junk, .junk, .junk, .junk, .junk, .junk, .junk, .junk, .junk, .junk, .junk, .junk, .junk, .junk, .junk, .junk, .junk, .junk, .junk, .junk, .junk, .junk, .junk, .junk, .junk, .junk, .junk, .junk, .junk, .junk, .junk, .junk, .junk, .junk, .junk, .junk, .junk, .junk, .junk, .junk, .junk, .junk, .junk, .junk, .junk, .junk, .junk, .junk, .junk, .junk, .junk, .junk, .junk, .junk, .junk, .junk, .junk, .junk, .junk, .junk, .junk, .junk, .junk, .junk, .junk, .junk, .junk, .junk, .junk, .junk, .junk, .junk, .junk, .junk, .junk, .junk, .junk, .junk, .junk, .junk, .junk, .junk, .junk, .junk, .junk, .junk, .junk, .junk, .junk, .junk, .junk, .junk, .junk, .junk, .junk, .junk, .junk, .junk, .junk, .junk, .junk, .junk, .junk, .junk, .junk, .junk, .junk, .junk, .junk, .junk, .junk, .junk, .junk, .junk, .junk, .junk, .junk, .junk, .junk, .junk, .junk, .junk, .junk, .junk, .junk, .junk, .junk, .junk, .junk, .junk, .junk, .junk, .junk, .junk, .junk, .junk, .junk, .junk, .junk, .junk, .junk, .junk, .junk, .junk, .junk, .junk, .junk, .junk, .junk, .junk, .junk, .junk, .junk, .junk, .junk, .junk, .junk, .junk, .junk, .junk, .junk, .junk, .junk, .junk, .junk, .junk, .junk, .junk, .junk, .junk, .junk, .junk, .junk]) (rmH L Z X (rowI (kz ks)) (rowI [(i : Int)]))
      (retQ Try.prog Try.f18 2 (.tup [.sc (.sl 2 0 64 (m + 2) none), iv 0]) [rowS L, X, rowX (fixEnd (Z.set i (mulL (xorL (Z.getD (m + 1) []) (qsum Z m)) (pwZ (-(i : Int))))) m ks)]) := by
  have hmi : arithI .add .i64 (m : Nat) 1 = some ((m + 1 : Nat) : Int) := inc_nat (by omega)
  unfold RefEnd at gS
  have hn := nr_row (T := kz ks) 2 (by simpa using h0)
  rw [hn.1, hn.2, show (kz ks).length = ks.length by simp] at gS
  have x1 := xorL_sec (hS.at (i := m + 1) (by omega)) (qsum_sec hS m (by omega))
  have sV := mulL_sec (f := pwZ (-(i : Int))) x1
  have hV : ∀ k, k < 64 → (mulL (xorL (Z.getD (m + 1) []) (qsum Z m)) (pwZ (-(i : Int)))).getD k 0 = gmul (qB Z m k) (pwZ (-(i : Int))) := fun k hk => by
    rw [mulL_get (by rw [x1.len]; exact hk), qB_xor hZ hS hk]
  obtain ⟨V, eV⟩ : ∃ V, V = mulL (xorL (Z.getD (m + 1) []) (qsum Z m)) (pwZ (-(i : Int))) := ⟨_, rfl⟩
  rw [← eV] at gS hV sV ⊢
  have e0 : Z.set i (mix V zeros 0) = Z := by rw [mix_zero, ← hz]; exact set_self' (by omega)
  obtain ⟨I, hI⟩ : ∃ I, I = rmI L X m (.sl 2 0 1 ks.length none) (rowI (kz ks)) (.sl 4 0 1 1 none) (rowI [(i : Int)]) true (fun k => Z.set i (mix V zeros k)) := ⟨_, rfl⟩
  rcases hX with rfl | ⟨zs, rfl⟩ <;>
  · refine evC_sound tabOk mixed _ _ _ _ ?_
    conv => whnf
    repeat (first | (refine ⟨(by kernel_rfl : chkR _ _ _ _ = true), ?_⟩; conv => whnf) | (refine EvOr.go ?_; conv => whnf))
    refine CodeT.loopN tabOk mixed I 64 _ (StW.ofP [0, 1, 2, 3, 4] ?_ ?_ ?_) (fun k => by subst hI; rfl) ?_
    · subst hI; simp only [rmI, rmH, e0]; kernel_rfl
    · subst hI; rfl
    · subst hI; simp only [rmI, rmH, e0]; rfl
    intro k hkl
    subst hI
    show evC Try.prog tab _ _ (rmI L _ m (.sl 2 0 1 ks.length none) (rowI (kz ks)) (.sl 4 0 1 1 none) (rowI [(i : Int)]) true (fun k => Z.set i (mix V zeros k)) k).1 (rmH L (Z.set i (mix V zeros k)) _ (rowI (kz ks)) (rowI [(i : Int)])) _
    by_cases hk : k < 64
    · obtain ⟨gP, gQ, hrm, hrm1, hxp, hxq, hp8, hq8, hz2⟩ := seen (see_one (k := k) (see_self hZ hS) (mix_sec sV zeros_sec hkl) him hz hk (by rw [mix_get sV.len hk, zeros_get])) hZ hS hm hk
      have hmx := mix_set (r := V) (a := zeros) sV.len zeros_sec.len hk
      have hml := mix_length (r := V) (a := zeros) sV.len zeros_sec.len hkl
      have hbV := hV k hk
      have hst : (Z.set i (mix V zeros (k + 1))).map secS = ((Z.set i (mix V zeros k)).map secS).set (0 + (i : Int).toNat) (secS ((mix V zeros k).set k (V.getD k 0))) := by rw [hmx]; exact set_row
      have hrow := row_at (S := Z.set i (mix V zeros k)) (k := i) (by simp; omega)
      rw [getD_set_eq (by omega)] at hrow
      rw [hbV] at hst
      have gs := single_ok (qB Z m k) (i : Int) hq8 (by omega)
      have hg8 : gmul (qB Z m k) (pwZ (-(i : Int))) < 256 := gmul_lt hq8
      clear hmx hbV
      generalize mix V zeros k = S at *
      generalize pB Z m k = p at *
      generalize qB Z m k = q at *
      conv => whnf
      repeat (first | (refine ⟨(by kernel_rfl : chkR _ _ _ _ = true), ?_⟩; conv => whnf) | (refine EvOr.go ?_; conv => whnf))
      intro c hc
      obtain rfl : c = true := by rw [hc]; exact decide_eq_true (by omega)
      conv => whnf
      repeat (first | (refine ⟨(by kernel_rfl : chkR _ _ _ _ = true), ?_⟩; conv => whnf) | (refine EvOr.go ?_; conv => whnf))
      refine ⟨⟨by omega, by show (m : Int) < ((m + 2 : Nat) : Int); omega⟩, ?_⟩
      conv => whnf
      repeat (first | (refine ⟨(by kernel_rfl : chkR _ _ _ _ = true), ?_⟩; conv => whnf) | (refine EvOr.go ?_; conv => whnf))
      refine ⟨⟨by omega, by show (k : Int) < 64; omega⟩, ?_⟩
      conv => whnf
      repeat (first | (refine ⟨(by kernel_rfl : chkR _ _ _ _ = true), ?_⟩; conv => whnf) | (refine EvOr.go ?_; conv => whnf))
      refine ⟨_, hrm, by show k < 64; omega, ?_⟩
      conv => whnf
      repeat (first | (refine ⟨(by kernel_rfl : chkR _ _ _ _ = true), ?_⟩; conv => whnf) | (refine EvOr.go ?_; conv => whnf))
      refine ⟨⟨by decide, by omega, by show (m : Int) ≤ ((m + 2 : Nat) : Int); omega, fun _ => ⟨_, _, _, _, _, rfl, by rw [hz2]; omega⟩⟩, fun _ => ?_, fun _ h => absurd h (by decide)⟩
      conv => whnf
      repeat (first | (refine ⟨(by kernel_rfl : chkR _ _ _ _ = true), ?_⟩; conv => whnf) | (refine EvOr.go ?_; conv => whnf))
      refine CallG.use gP c82 [3] [] ?_ ?_ ?_ ?_ ?_ ?_; rfl; rfl; kernel_rfl; rfl; rfl
      conv => whnf
      repeat (first | (refine ⟨(by kernel_rfl : chkR _ _ _ _ = true), ?_⟩; conv => whnf) | (refine EvOr.go ?_; conv => whnf))
      refine ⟨_, hxp, ?_⟩
      conv => whnf
      repeat (first | (refine ⟨(by kernel_rfl : chkR _ _ _ _ = true), ?_⟩; conv => whnf) | (refine EvOr.go ?_; conv => whnf))
      refine ⟨_, hmi, ?_⟩
      conv => whnf
      repeat (first | (refine ⟨(by kernel_rfl : chkR _ _ _ _ = true), ?_⟩; conv => whnf) | (refine EvOr.go ?_; conv => whnf))
      refine ⟨⟨by omega, by show ((m + 1 : Nat) : Int) < ((m + 2 : Nat) : Int); omega⟩, ?_⟩
      conv => whnf
      repeat (first | (refine ⟨(by kernel_rfl : chkR _ _ _ _ = true), ?_⟩; conv => whnf) | (refine EvOr.go ?_; conv => whnf))
      refine ⟨⟨by omega, by show (k : Int) < 64; omega⟩, ?_⟩
      conv => whnf
      repeat (first | (refine ⟨(by kernel_rfl : chkR _ _ _ _ = true), ?_⟩; conv => whnf) | (refine EvOr.go ?_; conv => whnf))
      refine ⟨_, hrm1, by show k < 64; omega, ?_⟩
      conv => whnf
      repeat (first | (refine ⟨(by kernel_rfl : chkR _ _ _ _ = true), ?_⟩; conv => whnf) | (refine EvOr.go ?_; conv => whnf))
      refine ⟨⟨by decide, by omega, by show (m : Int) ≤ ((m + 2 : Nat) : Int); omega, fun _ => ⟨_, _, _, _, _, rfl, by rw [hz2]; omega⟩⟩, fun _ => ?_, fun _ h => absurd h (by decide)⟩
      conv => whnf
      repeat (first | (refine ⟨(by kernel_rfl : chkR _ _ _ _ = true), ?_⟩; conv => whnf) | (refine EvOr.go ?_; conv => whnf))
      refine CallG.use gQ c83 [3] [] ?_ ?_ ?_ ?_ ?_ ?_; rfl; rfl; kernel_rfl; rfl; rfl
      conv => whnf
      repeat (first | (refine ⟨(by kernel_rfl : chkR _ _ _ _ = true), ?_⟩; conv => whnf) | (refine EvOr.go ?_; conv => whnf))
      refine ⟨_, hxq, ?_⟩
      conv => whnf
      repeat (first | (refine ⟨(by kernel_rfl : chkR _ _ _ _ = true), ?_⟩; conv => whnf) | (refine EvOr.go ?_; conv => whnf))
      intro c hc
      obtain rfl : c = false := by rw [hc]; rfl
      conv => whnf
      repeat (first | (refine ⟨(by kernel_rfl : chkR _ _ _ _ = true), ?_⟩; conv => whnf) | (refine EvOr.go ?_; conv => whnf))
      intro c hc
      obtain rfl : c = true := by rw [hc]; rfl
      conv => whnf
      repeat (first | (refine ⟨(by kernel_rfl : chkR _ _ _ _ = true), ?_⟩; conv => whnf) | (refine EvOr.go ?_; conv => whnf))
      refine ⟨⟨by decide, by show (0 : Int) < 1; decide⟩, ?_⟩
      conv => whnf
      repeat (first | (refine ⟨(by kernel_rfl : chkR _ _ _ _ = true), ?_⟩; conv => whnf) | (refine EvOr.go ?_; conv => whnf))
      refine ⟨_, rfl, ?_⟩
      conv => whnf
      repeat (first | (refine ⟨(by kernel_rfl : chkR _ _ _ _ = true), ?_⟩; conv => whnf) | (refine EvOr.go ?_; conv => whnf))
      refine ⟨⟨by decide, by show (0 : Int) < 1; decide⟩, ?_⟩
      conv => whnf
      repeat (first | (refine ⟨(by kernel_rfl : chkR _ _ _ _ = true), ?_⟩; conv => whnf) | (refine EvOr.go ?_; conv => whnf))
      refine ⟨_, rfl, ?_⟩
      conv => whnf
      repeat (first | (refine ⟨(by kernel_rfl : chkR _ _ _ _ = true), ?_⟩; conv => whnf) | (refine EvOr.go ?_; conv => whnf))
      refine CallG.use gs c85 [] [] ?_ ?_ ?_ ?_ ?_ ?_; rfl; rfl; kernel_rfl; rfl; rfl
      conv => whnf
      repeat (first | (refine ⟨(by kernel_rfl : chkR _ _ _ _ = true), ?_⟩; conv => whnf) | (refine EvOr.go ?_; conv => whnf))
      refine ⟨⟨by show (0 : Int) ≤ (i : Int); omega, by show (i : Int) < ((m + 2 : Nat) : Int); omega⟩, ?_⟩
      conv => whnf
      repeat (first | (refine ⟨(by kernel_rfl : chkR _ _ _ _ = true), ?_⟩; conv => whnf) | (refine EvOr.go ?_; conv => whnf))
      refine ⟨⟨by omega, by show (k : Int) < 64; omega⟩, ?_⟩
      conv => whnf
      repeat (first | (refine ⟨(by kernel_rfl : chkR _ _ _ _ = true), ?_⟩; conv => whnf) | (refine EvOr.go ?_; conv => whnf))
      refine ⟨_, hrow, ⟨by show k < 64; omega, by omega, by omega, rfl⟩, ?_⟩
      conv => whnf
      repeat (first | (refine ⟨(by kernel_rfl : chkR _ _ _ _ = true), ?_⟩; conv => whnf) | (refine EvOr.go ?_; conv => whnf))
      refine ⟨_, inc_nat (by omega), ?_⟩
      conv => whnf
      repeat (first | (refine ⟨(by kernel_rfl : chkR _ _ _ _ = true), ?_⟩; conv => whnf) | (refine EvOr.go ?_; conv => whnf))
      refine ⟨by omega, _, StW.ofP [0, 1, 2, 3, 4] ?_ ?_ ?_⟩
      · kernel_rfl
      · rfl
      · simp only [rmI, rmH, rowX, hst]; rfl
    · obtain rfl : k = 64 := by omega
      have e64 : Z.set i (mix V zeros 64) = Z.set i V := by rw [mix_full sV.len zeros_sec.len]
      simp only [e64]
      conv => whnf
      repeat (first | (refine ⟨(by kernel_rfl : chkR _ _ _ _ = true), ?_⟩; conv => whnf) | (refine EvOr.go ?_; conv => whnf))
      intro c hc
      obtain rfl : c = false := by rw [hc]; rfl
      conv => whnf
      refine ⟨(by kernel_rfl : chkR _ _ _ _ = true), ?_⟩
      conv => whnf
      refine EvOr.go ?_
      conv => whnf
      refine EvOr.cut (CodeT.weaken _ (StW.ofP [0, 1, 2, 3] ?_ ?_ ?_) (gS))
      · kernel_rfl
      · rfl
      · rfl
theorem refM1p (L Z : List (List Nat)) (X : Option ABlk) (m : Nat) (ks : List Nat) (i : Nat) (hX : X = none ∨ ∃ zs, X = rowRI zs) (hZ : Z.length = m + 2) (hS : Secs Z) (hm : m ≤ 62) (h0 : 0 < ks.length) (him : i < m) (hz : Z.getD i [] = zeros) (gS : RefEnd L (Z.set i (xorL (Z.getD m []) (psum Z m))) X m ks) :
    CodeT Try.prog 2 (suf 11 (bodyC Try.f18)) ([.junk, .junk, .junk, .junk, .junk, .junk, iv (m : Nat), .sc (.sl 2 0 1 ks.length none), .sc (.sl 3 0 64 (m + 2) none), .sc (.sl 4 0 1 1 none), bv false, .junk, .junk, .junk, .junk, .junk, .junk, .junk, .junk, .junk, .junk, .junk, .junk, .junk, .junk, .junk, .junk, .junk, .junk, .junk, .junk, .junk, .junk, .junk, .junk, .junk, .junk, .junk, .junk, .junk, .junk, .junk, .junk, .junk, .junk, .junk, .junk, .junk, .junk, .junk, .junk, .junk, .junk, .junk, .junk, .junk, .junk, .junk, .junk, .junk, .junk, .junk, .junk, .junk, .junk, .junk, .junk, .junk, .junk, .junk, .junk, .junk, .junk, .junk, .junk, .junk, .junk, .junk, .junk, .junk, .junk, .junk, .junk, .junk, .junk, .junk, .junk, .junk, .junk, .junk, .junk, .junk, .junk, .junk, .junk, .junk, .junk, .junk, .junk, .junk, .junk, .junk, .junk, .junk, .junk, .junk, .junk, .junk, .junk, .junk, .junk, .junk, .junk, .junk, .junk, .junk, .junk, .junk, .junk, .junk, .junk, .junk, .junk, .junk, .junk, .junk, .junk, .junk, .junk, .junk, .junk, .junk, .junk, .junk, .junk, .junk, .junk, .junk, .junk, .junk, .junk, .junk, .junk, .junk, .junk, .junk, .junk, .junk, .junk, .junk, .junk, .junk, .junk, .junk, .junk, .junk, .junk, .junk, .junk, .junk, .junk, .junk, .junk, .junk, .junk, .junk, .junk, .junk, .junk, .junk, .junk, .junk, .junk, .junk, .junk, .junk, .junk, .junk, .junk, .junk, .junk, .junk, .junk, .junk, .junk, .junk, .junk, .junk, .junk, .junk, .junk, .junk, .junk, .junk, .junk, .junk, .junk, .junk, .junk, .junk, .junk, .junk, .junk, .junk, .junk, .junk, .junk, .junk, .junk, .junk, .junk, .junk, .junk, .junk, .junk, .junk, .junk, .junk, .junk, .junk, .junk, .junk, .junk, .junk, .junk]) (rmH L Z X (rowI (kz ks)) (rowI [(i : Int)]))
      (retQ Try.prog Try.f18 2 (.tup [.sc (.sl 2 0 64 (m + 2) none), iv 0]) [rowS L, X, rowX (fixEnd (Z.set i (xorL (Z.getD m []) (psum Z m))) m ks)]) := by
  have hmi : arithI .add .i64 (m : Nat) 1 = some ((m + 1 : Nat) : Int) := inc_nat (by omega)
  unfold RefEnd at gS
  have hn := nr_row (T := kz ks) 2 (by simpa using h0)
  rw [hn.1, hn.2, show (kz ks).length = ks.length by simp] at gS
  have x1 := xorL_sec (hS.at (i := m) (by omega)) (psum_sec hS m (by omega))
  have sV := x1
  have hV : ∀ k, k < 64 → (xorL (Z.getD m []) (psum Z m)).getD k 0 = pB Z m k := fun k hk => pB_xor hZ hS hk
  obtain ⟨V, eV⟩ : ∃ V, V = xorL (Z.getD m []) (psum Z m) := ⟨_, rfl⟩
  rw [← eV] at gS hV sV ⊢
  have e0 : Z.set i (mix V zeros 0) = Z := by rw [mix_zero, ← hz]; exact set_self' (by omega)
  obtain ⟨I, hI⟩ : ∃ I, I = rmI L X m (.sl 2 0 1 ks.length none) (rowI (kz ks)) (.sl 4 0 1 1 none) (rowI [(i : Int)]) false (fun k => Z.set i (mix V zeros k)) := ⟨_, rfl⟩
  rcases hX with rfl | ⟨zs, rfl⟩ <;>
  · refine evC_sound tabOk mixed _ _ _ _ ?_
    conv => whnf
    repeat (first | (refine ⟨(by kernel_rfl : chkR _ _ _ _ = true), ?_⟩; conv => whnf) | (refine EvOr.go ?_; conv => whnf))
    refine CodeT.loopN tabOk mixed I 64 _ (StW.ofP [0, 1, 2, 3, 4] ?_ ?_ ?_) (fun k => by subst hI; rfl) ?_
    · subst hI; simp only [rmI, rmH, e0]; kernel_rfl
    · subst hI; rfl
    · subst hI; simp only [rmI, rmH, e0]; rfl
    intro k hkl
    subst hI
    show evC Try.prog tab _ _ (rmI L _ m (.sl 2 0 1 ks.length none) (rowI (kz ks)) (.sl 4 0 1 1 none) (rowI [(i : Int)]) false (fun k => Z.set i (mix V zeros k)) k).1 (rmH L (Z.set i (mix V zeros k)) _ (rowI (kz ks)) (rowI [(i : Int)])) _
    by_cases hk : k < 64
    · obtain ⟨gP, gQ, hrm, hrm1, hxp, hxq, hp8, hq8, hz2⟩ := seen (see_one (k := k) (see_self hZ hS) (mix_sec sV zeros_sec hkl) him hz hk (by rw [mix_get sV.len hk, zeros_get])) hZ hS hm hk
      have hmx := mix_set (r := V) (a := zeros) sV.len zeros_sec.len hk
      have hml := mix_length (r := V) (a := zeros) sV.len zeros_sec.len hkl
      have hbV := hV k hk
      have hst : (Z.set i (mix V zeros (k + 1))).map secS = ((Z.set i (mix V zeros k)).map secS).set (0 + (i : Int).toNat) (secS ((mix V zeros k).set k (V.getD k 0))) := by rw [hmx]; exact set_row
      have hrow := row_at (S := Z.set i (mix V zeros k)) (k := i) (by simp; omega)
      rw [getD_set_eq (by omega)] at hrow
      rw [hbV] at hst
      clear hmx hbV
      generalize mix V zeros k = S at *
      generalize pB Z m k = p at *
      generalize qB Z m k = q at *
      conv => whnf
      repeat (first | (refine ⟨(by kernel_rfl : chkR _ _ _ _ = true), ?_⟩; conv => whnf) | (refine EvOr.go ?_; conv => whnf))
      intro c hc
      obtain rfl : c = true := by rw [hc]; exact decide_eq_true (by omega)
      conv => whnf
      repeat (first | (refine ⟨(by kernel_rfl : chkR _ _ _ _ = true), ?_⟩; conv => whnf) | (refine EvOr.go ?_; conv => whnf))
      refine ⟨⟨by omega, by show (m : Int) < ((m + 2 : Nat) : Int); omega⟩, ?_⟩
      conv => whnf
      repeat (first | (refine ⟨(by kernel_rfl : chkR _ _ _ _ = true), ?_⟩; conv => whnf) | (refine EvOr.go ?_; conv => whnf))
      refine ⟨⟨by omega, by show (k : Int) < 64; omega⟩, ?_⟩
      conv => whnf
      repeat (first | (refine ⟨(by kernel_rfl : chkR _ _ _ _ = true), ?_⟩; conv => whnf) | (refine EvOr.go ?_; conv => whnf))
      refine ⟨_, hrm, by show k < 64; omega, ?_⟩
      conv => whnf
      repeat (first | (refine ⟨(by kernel_rfl : chkR _ _ _ _ = true), ?_⟩; conv => whnf) | (refine EvOr.go ?_; conv => whnf))
      refine ⟨⟨by decide, by omega, by show (m : Int) ≤ ((m + 2 : Nat) : Int); omega, fun _ => ⟨_, _, _, _, _, rfl, by rw [hz2]; omega⟩⟩, fun _ => ?_, fun _ h => absurd h (by decide)⟩
      conv => whnf
      repeat (first | (refine ⟨(by kernel_rfl : chkR _ _ _ _ = true), ?_⟩; conv => whnf) | (refine EvOr.go ?_; conv => whnf))
      refine CallG.use gP c82 [3] [] ?_ ?_ ?_ ?_ ?_ ?_; rfl; rfl; kernel_rfl; rfl; rfl
      conv => whnf
      repeat (first | (refine ⟨(by kernel_rfl : chkR _ _ _ _ = true), ?_⟩; conv => whnf) | (refine EvOr.go ?_; conv => whnf))
      refine ⟨_, hxp, ?_⟩
      conv => whnf
      repeat (first | (refine ⟨(by kernel_rfl : chkR _ _ _ _ = true), ?_⟩; conv => whnf) | (refine EvOr.go ?_; conv => whnf))
      refine ⟨_, hmi, ?_⟩
      conv => whnf
      repeat (first | (refine ⟨(by kernel_rfl : chkR _ _ _ _ = true), ?_⟩; conv => whnf) | (refine EvOr.go ?_; conv => whnf))
      refine ⟨⟨by omega, by show ((m + 1 : Nat) : Int) < ((m + 2 : Nat) : Int); omega⟩, ?_⟩
      conv => whnf
      repeat (first | (refine ⟨(by kernel_rfl : chkR _ _ _ _ = true), ?_⟩; conv => whnf) | (refine EvOr.go ?_; conv => whnf))
      refine ⟨⟨by omega, by show (k : Int) < 64; omega⟩, ?_⟩
      conv => whnf
      repeat (first | (refine ⟨(by kernel_rfl : chkR _ _ _ _ = true), ?_⟩; conv => whnf) | (refine EvOr.go ?_; conv => whnf))
      refine ⟨_, hrm1, by show k < 64; omega, ?_⟩
      conv => whnf
      repeat (first | (refine ⟨(by kernel_rfl : chkR _ _ _ _ = true), ?_⟩; conv => whnf) | (refine EvOr.go ?_; conv => whnf))
      refine ⟨⟨by decide, by omega, by show (m : Int) ≤ ((m + 2 : Nat) : Int); omega, fun _ => ⟨_, _, _, _, _, rfl, by rw [hz2]; omega⟩⟩, fun _ => ?_, fun _ h => absurd h (by decide)⟩
      conv => whnf
      repeat (first | (refine ⟨(by kernel_rfl : chkR _ _ _ _ = true), ?_⟩; conv => whnf) | (refine EvOr.go ?_; conv => whnf))
      refine CallG.use gQ c83 [3] [] ?_ ?_ ?_ ?_ ?_ ?_; rfl; rfl; kernel_rfl; rfl; rfl
      conv => whnf
      repeat (first | (refine ⟨(by kernel_rfl : chkR _ _ _ _ = true), ?_⟩; conv => whnf) | (refine EvOr.go ?_; conv => whnf))
      refine ⟨_, hxq, ?_⟩
      conv => whnf
      repeat (first | (refine ⟨(by kernel_rfl : chkR _ _ _ _ = true), ?_⟩; conv => whnf) | (refine EvOr.go ?_; conv => whnf))
      intro c hc
      obtain rfl : c = false := by rw [hc]; rfl
      conv => whnf
      repeat (first | (refine ⟨(by kernel_rfl : chkR _ _ _ _ = true), ?_⟩; conv => whnf) | (refine EvOr.go ?_; conv => whnf))
      intro c hc
      obtain rfl : c = true := by rw [hc]; rfl
      conv => whnf
      repeat (first | (refine ⟨(by kernel_rfl : chkR _ _ _ _ = true), ?_⟩; conv => whnf) | (refine EvOr.go ?_; conv => whnf))
      intro c hc
      obtain rfl : c = true := by rw [hc]; rfl
      conv => whnf
      repeat (first | (refine ⟨(by kernel_rfl : chkR _ _ _ _ = true), ?_⟩; conv => whnf) | (refine EvOr.go ?_; conv => whnf))
      refine ⟨⟨by decide, by show (0 : Int) < 1; decide⟩, ?_⟩
      conv => whnf
      repeat (first | (refine ⟨(by kernel_rfl : chkR _ _ _ _ = true), ?_⟩; conv => whnf) | (refine EvOr.go ?_; conv => whnf))
      refine ⟨_, rfl, ?_⟩
      conv => whnf
      repeat (first | (refine ⟨(by kernel_rfl : chkR _ _ _ _ = true), ?_⟩; conv => whnf) | (refine EvOr.go ?_; conv => whnf))
      refine ⟨⟨by show (0 : Int) ≤ (i : Int); omega, by show (i : Int) < ((m + 2 : Nat) : Int); omega⟩, ?_⟩
      conv => whnf
      repeat (first | (refine ⟨(by kernel_rfl : chkR _ _ _ _ = true), ?_⟩; conv => whnf) | (refine EvOr.go ?_; conv => whnf))
      refine ⟨⟨by omega, by show (k : Int) < 64; omega⟩, ?_⟩
      conv => whnf
      repeat (first | (refine ⟨(by kernel_rfl : chkR _ _ _ _ = true), ?_⟩; conv => whnf) | (refine EvOr.go ?_; conv => whnf))
      refine ⟨_, hrow, ⟨by show k < 64; omega, by omega, by omega, rfl⟩, ?_⟩
      conv => whnf
      repeat (first | (refine ⟨(by kernel_rfl : chkR _ _ _ _ = true), ?_⟩; conv => whnf) | (refine EvOr.go ?_; conv => whnf))
      refine ⟨_, inc_nat (by omega), ?_⟩
      conv => whnf
      repeat (first | (refine ⟨(by kernel_rfl : chkR _ _ _ _ = true), ?_⟩; conv => whnf) | (refine EvOr.go ?_; conv => whnf))
      refine ⟨by omega, _, StW.ofP [0, 1, 2, 3, 4] ?_ ?_ ?_⟩
      · kernel_rfl
      · rfl
      · simp only [rmI, rmH, rowX, hst]; rfl
    · obtain rfl : k = 64 := by omega
      have e64 : Z.set i (mix V zeros 64) = Z.set i V := by rw [mix_full sV.len zeros_sec.len]
      simp only [e64]
      conv => whnf
      repeat (first | (refine ⟨(by kernel_rfl : chkR _ _ _ _ = true), ?_⟩; conv => whnf) | (refine EvOr.go ?_; conv => whnf))
      intro c hc
      obtain rfl : c = false := by rw [hc]; rfl
      conv => whnf
      refine ⟨(by kernel_rfl : chkR _ _ _ _ = true), ?_⟩
      conv => whnf
      refine EvOr.go ?_
      conv => whnf
      refine EvOr.cut (CodeT.weaken _ (StW.ofP [0, 1, 2, 3] ?_ ?_ ?_) (gS))
      · kernel_rfl
      · rfl
      · rfl
end Go.Proofs.Ytdmcbfmpnakdfaa.Eng
