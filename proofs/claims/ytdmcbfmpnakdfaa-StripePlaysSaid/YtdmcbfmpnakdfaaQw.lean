/- The document's Fix: its first loop, its errors. -/
import Derived.Test.YtdmcbfmpnakdfaaQv
namespace Go.Proofs.Ytdmcbfmpnakdfaa.Eng
open Go Go.Proofs Go.Proofs.Ytdmcbfmpnakdfaa.Gf
set_option maxRecDepth 20000
set_option maxHeartbeats 4000000
theorem c18 : Callable Try.prog 18 := ⟨⟨_, Try.func18, by kernel_rfl, by kernel_rfl⟩⟩
def dat (m : Nat) (ks : List Nat) : List Nat := ks.filter fun i => decide (i < m)
def wp (m : Nat) (ks : List Nat) : Bool := ks.any fun i => decide (i = m)
theorem zeroed_two {L : List (List Nat)} {ks : List Nat} {n : Nat} (h : Two ks n) (hL : L.length = n) : ∀ i ∈ ks, (zeroed L ks).getD i [] = zeros := by
  rcases h with rfl | ⟨i, rfl, h⟩ | ⟨i, j, rfl, h1, h2⟩
  · simp
  · intro k hk
    obtain rfl := List.mem_singleton.1 hk
    exact getD_set_eq (by omega)
  · intro k hk
    have hk : k = i ∨ k = j := by simpa using hk
    show ((L.set i zeros).set j zeros).getD k [] = zeros
    rcases hk with rfl | rfl
    · rw [getD_set_ne (by omega)]; exact getD_set_eq (by omega)
    · exact getD_set_eq (by simp; omega)
theorem refM (L Z : List (List Nat)) (X : Option ABlk) (m : Nat) (ks : List Nat) (hX : X = none ∨ ∃ zs, X = rowRI zs) (hk : Two ks (m + 2)) (hZ : Z.length = m + 2) (hS : Secs Z) (hm : m ≤ 62) (hz : ∀ i ∈ ks, Z.getD i [] = zeros) :
    CodeT Try.prog 2 (suf 11 (bodyC Try.f18)) ([.junk, .junk, .junk, .junk, .junk, .junk, iv (m : Nat), .sc (nrS (kz ks) 2), .sc (.sl 3 0 64 (m + 2) none), .sc (nrS (kz (dat m ks)) 4), bv (wp m ks), .junk, .junk, .junk, .junk, .junk, .junk, .junk, .junk, .junk, .junk, .junk, .junk, .junk, .junk, .junk, .junk, .junk, .junk, .junk, .junk, .junk, .junk, .junk, .junk, .junk, .junk, .junk, .junk, .junk, .junk, .junk, .junk, .junk, .junk, .junk, .junk, .junk, .junk, .junk, .junk, .junk, .junk, .junk, .junk, .junk, .junk, .junk, .junk, .junk, .junk, .junk, .junk, .junk, .junk, .junk, .junk, .junk, .junk, .junk, .junk, .junk, .junk, .junk, .junk, .junk, .junk, .junk, .junk, .junk, .junk, .junk, .junk, .junk, .junk, .junk, .junk, .junk, .junk, .junk, .junk, .junk, .junk, .junk, .junk, .junk, .junk, .junk, .junk, .junk, .junk, .junk, .junk, .junk, .junk, .junk, .junk, .junk, .junk, .junk, .junk, .junk, .junk, .junk, .junk, .junk, .junk, .junk, .junk, .junk, .junk, .junk, .junk, .junk, .junk, .junk, .junk, .junk, .junk, .junk, .junk, .junk, .junk, .junk, .junk, .junk, .junk, .junk, .junk, .junk, .junk, .junk, .junk, .junk, .junk, .junk, .junk, .junk, .junk, .junk, .junk, .junk, .junk, .junk, .junk, .junk, .junk, .junk, .junk, .junk, .junk, .junk, .junk, .junk, .junk, .junk, .junk, .junk, .junk, .junk, .junk, .junk, .junk, .junk, .junk, .junk, .junk, .junk, .junk, .junk, .junk, .junk, .junk, .junk, .junk, .junk, .junk, .junk, .junk, .junk, .junk, .junk, .junk, .junk, .junk, .junk, .junk, .junk, .junk, .junk, .junk, .junk, .junk, .junk, .junk, .junk, .junk, .junk, .junk, .junk, .junk, .junk, .junk, .junk, .junk, .junk, .junk, .junk, .junk, .junk, .junk, .junk, .junk, .junk, .junk]) (rmH L Z X (nrB (kz ks)) (nrB (kz (dat m ks))))
      (retQ Try.prog Try.f18 2 (.tup [.sc (.sl 2 0 64 (m + 2) none), iv 0]) [rowS L, X, rowX (fixEnd (fixMid Z m ks) m ks)]) := by
  have x1 := xorL_sec (hS.at (i := m) (by omega)) (psum_sec hS m (by omega))
  have x2 := xorL_sec (hS.at (i := m + 1) (by omega)) (qsum_sec hS m (by omega))
  have gE := fun R (hR : R.length = m + 2) (hSR : Secs R) => refEnd L R X m ks hX hk hR hSR hm
  rcases hk with rfl | ⟨i, rfl, h⟩ | ⟨i, j, rfl, h1, h2⟩
  · exact refM0n L Z X m false hX hZ hS hm (gE Z hZ hS)
  · by_cases him : i < m
    · have e1 : dat m [i] = [i] := by simp [dat, him]
      have e2 : wp m [i] = false := by simp [wp]; omega
      have e3 : fixMid Z m [i] = Z.set i (xorL (Z.getD m []) (psum Z m)) := by simp only [fixMid, if_pos him]
      rw [e1, e2, e3]
      exact refM1p L Z X m [i] i hX hZ hS hm (by simp) him (hz i (by simp)) (gE _ (by simpa using hZ) (set_secs hS x1))
    · have e1 : dat m [i] = [] := by simp [dat]; omega
      have e3 : fixMid Z m [i] = Z := by simp only [fixMid, if_neg him]
      rw [e1, e3]
      exact refM0 L Z X m (wp m [i]) [i] hX hZ hS hm (by simp) (gE Z hZ hS)
  · by_cases hjm : j < m
    · have e1 : dat m [i, j] = [i, j] := by simp [dat]; omega
      have e2 : wp m [i, j] = false := by simp [wp]; omega
      rw [e1, e2, show fixMid Z m [i, j] = (Z.set i (twoA (xorL (Z.getD m []) (psum Z m)) (xorL (Z.getD (m + 1) []) (qsum Z m)) (pwZ (i : Int)) (pwZ (j : Int)))).set j (twoB (xorL (Z.getD m []) (psum Z m)) (xorL (Z.getD (m + 1) []) (qsum Z m)) (pwZ (i : Int)) (pwZ (j : Int))) by simp only [fixMid, if_pos hjm]]
      exact refM2 L Z X m [i, j] i j hX hZ hS hm (by simp) h1 hjm (hz i (by simp)) (hz j (by simp)) (gE _ (by simpa using hZ) (set_secs (set_secs hS (twoA_sec x1 x2)) (twoB_sec x1 x2)))
    · by_cases him : i < m
      · have e1 : dat m [i, j] = [i] := by simp [dat, him]; omega
        rw [e1]
        by_cases hj : j = m
        · have e2 : wp m [i, j] = true := by simp [wp, hj]
          have e3 : fixMid Z m [i, j] = Z.set i (mulL (xorL (Z.getD (m + 1) []) (qsum Z m)) (pwZ (-(i : Int)))) := by simp only [fixMid, if_neg hjm, if_pos him, if_pos hj]
          rw [e2, e3]
          exact refM1s L Z X m [i, j] i hX hZ hS hm (by simp) him (hz i (by simp)) (gE _ (by simpa using hZ) (set_secs hS (mulL_sec x2)))
        · have e2 : wp m [i, j] = false := by simp [wp, hj]; omega
          have e3 : fixMid Z m [i, j] = Z.set i (xorL (Z.getD m []) (psum Z m)) := by simp only [fixMid, if_neg hjm, if_pos him, if_neg hj]
          rw [e2, e3]
          exact refM1p L Z X m [i, j] i hX hZ hS hm (by simp) him (hz i (by simp)) (gE _ (by simpa using hZ) (set_secs hS x1))
      · have e1 : dat m [i, j] = [] := by simp [dat]; omega
        have e3 : fixMid Z m [i, j] = Z := by simp only [fixMid, if_neg hjm, if_neg him]
        rw [e1, e3]
        exact refM0 L Z X m (wp m [i, j]) [i, j] hX hZ hS hm (by simp) (gE Z hZ hS)
theorem kz_append (a b : List Nat) : kz (a ++ b) = kz a ++ kz b := List.map_append
theorem dat_step {m : Nat} {ks : List Nat} {k : Nat} (h : k < ks.length) : dat m (ks.take (k + 1)) = dat m (ks.take k) ++ (if ks[k] < m then [ks[k]] else []) := by
  unfold dat
  rw [List.take_add_one, List.filter_append, List.getElem?_eq_getElem h]
  congr 1
  by_cases hk : ks[k] < m <;> simp [hk]
theorem wp_step {m : Nat} {ks : List Nat} {k : Nat} (h : k < ks.length) : wp m (ks.take (k + 1)) = (wp m (ks.take k) || decide (ks[k] = m)) := by
  unfold wp
  rw [List.take_add_one, List.any_append, List.getElem?_eq_getElem h]
  simp
def rzI (L : List (List Nat)) (X : Option ABlk) (m : Nat) (ks : List Nat) (k : Nat) : LTm × LHp :=
  ([.junk, .junk, .junk, .junk, .junk, .junk, iv (m : Nat), .sc (.sl 2 0 1 ks.length none), .sc (.sl 3 0 64 (m + 2) none), .sc (nrS (kz (dat m (ks.take k))) 4), bv (wp m (ks.take k)), iv (k : Nat), .junk, .junk, .junk, .junk, .junk, .junk, .junk, .junk, .junk, .junk, .junk, .junk, .junk, .junk, .junk, .junk, .junk, .junk, .junk, .junk, .junk, .junk, .junk, .junk, .junk, .junk, .junk, .junk, .junk, .junk, .junk, .junk, .junk, .junk, .junk, .junk, .junk, .junk, .junk, .junk, .junk, .junk, .junk, .junk, .junk, .junk, .junk, .junk, .junk, .junk, .junk, .junk, .junk, .junk, .junk, .junk, .junk, .junk, .junk, .junk, .junk, .junk, .junk, .junk, .junk, .junk, .junk, .junk, .junk, .junk, .junk, .junk, .junk, .junk, .junk, .junk, .junk, .junk, .junk, .junk, .junk, .junk, .junk, .junk, .junk, .junk, .junk, .junk, .junk, .junk, .junk, .junk, .junk, .junk, .junk, .junk, .junk, .junk, .junk, .junk, .junk, .junk, .junk, .junk, .junk, .junk, .junk, .junk, .junk, .junk, .junk, .junk, .junk, .junk, .junk, .junk, .junk, .junk, .junk, .junk, .junk, .junk, .junk, .junk, .junk, .junk, .junk, .junk, .junk, .junk, .junk, .junk, .junk, .junk, .junk, .junk, .junk, .junk, .junk, .junk, .junk, .junk, .junk, .junk, .junk, .junk, .junk, .junk, .junk, .junk, .junk, .junk, .junk, .junk, .junk, .junk, .junk, .junk, .junk, .junk, .junk, .junk, .junk, .junk, .junk, .junk, .junk, .junk, .junk, .junk, .junk, .junk, .junk, .junk, .junk, .junk, .junk, .junk, .junk, .junk, .junk, .junk, .junk, .junk, .junk, .junk, .junk, .junk, .junk, .junk, .junk, .junk, .junk, .junk, .junk, .junk, .junk, .junk, .junk, .junk, .junk, .junk, .junk, .junk, .junk, .junk, .junk, .junk, .junk, .junk, .junk, .junk, .junk],
   rmH L (zeroed L (ks.take k)) X (rowI (kz ks)) (nrB (kz (dat m (ks.take k)))))
theorem refZ (L : List (List Nat)) (X : Option ABlk) (m : Nat) (ks : List Nat) (hX : X = none ∨ ∃ zs, X = rowRI zs) (hk : Two ks (m + 2)) (hL : L.length = m + 2) (hS : Secs L) (hm : m ≤ 62) :
    CodeT Try.prog 2 (suf 10 (bodyC Try.f18)) ([.junk, .junk, .junk, .junk, .junk, .junk, iv (m : Nat), .sc (nrS (kz ks) 2), .sc (.sl 3 0 64 (m + 2) none), .sc nilS, bv false, .junk, .junk, .junk, .junk, .junk, .junk, .junk, .junk, .junk, .junk, .junk, .junk, .junk, .junk, .junk, .junk, .junk, .junk, .junk, .junk, .junk, .junk, .junk, .junk, .junk, .junk, .junk, .junk, .junk, .junk, .junk, .junk, .junk, .junk, .junk, .junk, .junk, .junk, .junk, .junk, .junk, .junk, .junk, .junk, .junk, .junk, .junk, .junk, .junk, .junk, .junk, .junk, .junk, .junk, .junk, .junk, .junk, .junk, .junk, .junk, .junk, .junk, .junk, .junk, .junk, .junk, .junk, .junk, .junk, .junk, .junk, .junk, .junk, .junk, .junk, .junk, .junk, .junk, .junk, .junk, .junk, .junk, .junk, .junk, .junk, .junk, .junk, .junk, .junk, .junk, .junk, .junk, .junk, .junk, .junk, .junk, .junk, .junk, .junk, .junk, .junk, .junk, .junk, .junk, .junk, .junk, .junk, .junk, .junk, .junk, .junk, .junk, .junk, .junk, .junk, .junk, .junk, .junk, .junk, .junk, .junk, .junk, .junk, .junk, .junk, .junk, .junk, .junk, .junk, .junk, .junk, .junk, .junk, .junk, .junk, .junk, .junk, .junk, .junk, .junk, .junk, .junk, .junk, .junk, .junk, .junk, .junk, .junk, .junk, .junk, .junk, .junk, .junk, .junk, .junk, .junk, .junk, .junk, .junk, .junk, .junk, .junk, .junk, .junk, .junk, .junk, .junk, .junk, .junk, .junk, .junk, .junk, .junk, .junk, .junk, .junk, .junk, .junk, .junk, .junk, .junk, .junk, .junk, .junk, .junk, .junk, .junk, .junk, .junk, .junk, .junk, .junk, .junk, .junk, .junk, .junk, .junk, .junk, .junk, .junk, .junk, .junk, .junk, .junk, .junk, .junk, .junk, .junk, .junk, .junk, .junk, .junk, .junk, .junk]) [rowS L, X, nrB (kz ks), rowX L]
      (retQ Try.prog Try.f18 2 (.tup [.sc (.sl 2 0 64 (m + 2) none), iv 0]) [rowS L, X, rowX (fixR L m ks)]) := by
  have gM := refM L (zeroed L ks) X m ks hX hk (by rw [zeroed_length, hL]) (zeroed_secs hS) hm (zeroed_two hk hL)
  have hlt := hk.lt
  have hl2 := hk.len
  unfold fixR
  by_cases h0 : ks = []
  · subst h0
    rcases hX with rfl | ⟨zs, rfl⟩ <;>
    · refine evC_sound tabOk mixed _ _ _ _ ?_
      conv => whnf
      repeat (first | (refine ⟨(by kernel_rfl : chkR _ _ _ _ = true), ?_⟩; conv => whnf) | (refine EvOr.go ?_; conv => whnf))
      refine CodeS.loop0 tabOk mixed (Nat.le_of_ble_eq_true rfl) ?_
      conv => whnf
      repeat (first | (refine ⟨(by kernel_rfl : chkR _ _ _ _ = true), ?_⟩; conv => whnf) | (refine EvOr.go ?_; conv => whnf))
      intro c hc
      obtain rfl : c = false := by rw [hc]; rfl
      conv => whnf
      refine ⟨(by kernel_rfl : chkR _ _ _ _ = true), ?_⟩
      conv => whnf
      refine EvOr.go ?_
      conv => whnf
      refine EvOr.cut (CodeT.weaken _ (StW.ofP [0, 1, 2, 3, 4] ?_ ?_ ?_) (gM))
      · kernel_rfl
      · rfl
      · rfl
  have h1 : 0 < ks.length := List.length_pos_iff.2 h0
  have hn := nr_row (T := kz ks) 2 (by simpa using h1)
  rw [hn.1, hn.2, show (kz ks).length = ks.length by simp] at gM ⊢
  clear hn hk h0
  obtain ⟨I, hI⟩ : ∃ I, I = rzI L X m ks := ⟨_, rfl⟩
  rcases hX with rfl | ⟨zs, rfl⟩ <;>
  · refine evC_sound tabOk mixed _ _ _ _ ?_
    conv => whnf
    repeat (first | (refine ⟨(by kernel_rfl : chkR _ _ _ _ = true), ?_⟩; conv => whnf) | (refine EvOr.go ?_; conv => whnf))
    refine CodeT.loopN tabOk mixed I ks.length _ (StW.ofP [0, 1, 2, 3, 4] ?_ ?_ ?_) (fun k => by subst hI; rfl) ?_
    · subst hI; kernel_rfl
    · subst hI; rfl
    · subst hI; rfl
    intro k hkl
    subst hI
    have hSk : (zeroed L (ks.take k)).length = m + 2 := by rw [zeroed_length, hL]
    show evC Try.prog tab _ _ ([.junk, .junk, .junk, .junk, .junk, .junk, iv (m : Nat), .sc (.sl 2 0 1 ks.length none), .sc (.sl 3 0 64 (m + 2) none), .sc (nrS (kz (dat m (ks.take k))) 4), bv (wp m (ks.take k)), iv (k : Nat), .junk, .junk, .junk, .junk, .junk, .junk, .junk, .junk, .junk, .junk, .junk, .junk, .junk, .junk, .junk, .junk, .junk, .junk, .junk, .junk, .junk, .junk, .junk, .junk, .junk, .junk, .junk, .junk, .junk, .junk, .junk, .junk, .junk, .junk, .junk, .junk, .junk, .junk, .junk, .junk, .junk, .junk, .junk, .junk, .junk, .junk, .junk, .junk, .junk, .junk, .junk, .junk, .junk, .junk, .junk, .junk, .junk, .junk, .junk, .junk, .junk, .junk, .junk, .junk, .junk, .junk, .junk, .junk, .junk, .junk, .junk, .junk, .junk, .junk, .junk, .junk, .junk, .junk, .junk, .junk, .junk, .junk, .junk, .junk, .junk, .junk, .junk, .junk, .junk, .junk, .junk, .junk, .junk, .junk, .junk, .junk, .junk, .junk, .junk, .junk, .junk, .junk, .junk, .junk, .junk, .junk, .junk, .junk, .junk, .junk, .junk, .junk, .junk, .junk, .junk, .junk, .junk, .junk, .junk, .junk, .junk, .junk, .junk, .junk, .junk, .junk, .junk, .junk, .junk, .junk, .junk, .junk, .junk, .junk, .junk, .junk, .junk, .junk, .junk, .junk, .junk, .junk, .junk, .junk, .junk, .junk, .junk, .junk, .junk, .junk, .junk, .junk, .junk, .junk, .junk, .junk, .junk, .junk, .junk, .junk, .junk, .junk, .junk, .junk, .junk, .junk, .junk, .junk, .junk, .junk, .junk, .junk, .junk, .junk, .junk, .junk, .junk, .junk, .junk, .junk, .junk, .junk, .junk, .junk, .junk, .junk, .junk, .junk, .junk, .junk, .junk, .junk, .junk, .junk, .junk, .junk, .junk, .junk, .junk, .junk, .junk, .junk, .junk, .junk, .junk, .junk, .junk, .junk, .junk, .junk, .junk, .junk, .junk]) (rmH L (zeroed L (ks.take k)) _ (rowI (kz ks)) (nrB (kz (dat m (ks.take k))))) _
    have hD : (dat m (ks.take k)).length ≤ 2 := by
      have h1 : (dat m (ks.take k)).length ≤ (ks.take k).length := List.length_filter_le _ _
      have h2 : (ks.take k).length ≤ ks.length := by rw [List.length_take]; omega
      omega
    by_cases hk : k < ks.length
    · have hs : zeroed L (ks.take (k + 1)) = (zeroed L (ks.take k)).set ks[k] zeros := take_succ_foldl (f := fun R i => R.set i zeros) hk
      have hds := dat_step (m := m) hk
      have hws := wp_step (m := m) hk
      have hkm := hlt ks[k] (List.getElem_mem _)
      have hg : ((kz ks).map intS)[0 + (k : Int).toNat]? = some (intS (ks[k] : Nat)) := by
        have := kz_get (J := []) hk
        rwa [List.append_nil] at this
      have hlz : (kz (dat m (ks.take k))).length ≤ 2 := by simpa using hD
      have hds2 : kz (dat m (ks.take (k + 1))) = kz (dat m (ks.take k)) ++ (if ks[k] < m then [(ks[k] : Int)] else []) := by
        rw [hds, kz_append]; congr 1; split <;> rfl
      generalize zeroed L (ks.take k) = T at *
      generalize dat m (ks.take k) = D at *
      generalize wp m (ks.take k) = w at *
      generalize ks[k] = i at *
      generalize kz D = Dz at *
      have hrow := row_at (S := T) (k := i) (by omega)
      cases Dz with
      | nil =>
        by_cases him : i < m
        · rw [if_pos him] at hds2
          have hwi : decide (i = m) = false := decide_eq_false (by omega)
          rw [hwi, Bool.or_false] at hws
          cases w
          · conv => whnf
            repeat (first | (refine ⟨(by kernel_rfl : chkR _ _ _ _ = true), ?_⟩; conv => whnf) | (refine EvOr.go ?_; conv => whnf))
            intro c hc
            obtain rfl : c = true := by rw [hc]; exact decide_eq_true (by omega)
            conv => whnf
            repeat (first | (refine ⟨(by kernel_rfl : chkR _ _ _ _ = true), ?_⟩; conv => whnf) | (refine EvOr.go ?_; conv => whnf))
            refine ⟨⟨by omega, by omega⟩, ?_⟩
            conv => whnf
            repeat (first | (refine ⟨(by kernel_rfl : chkR _ _ _ _ = true), ?_⟩; conv => whnf) | (refine EvOr.go ?_; conv => whnf))
            refine ⟨_, hg, ?_⟩
            conv => whnf
            repeat (first | (refine ⟨(by kernel_rfl : chkR _ _ _ _ = true), ?_⟩; conv => whnf) | (refine EvOr.go ?_; conv => whnf))
            refine ⟨⟨by omega, by show (i : Int) < ((m + 2 : Nat) : Int); omega⟩, ?_⟩
            conv => whnf
            repeat (first | (refine ⟨(by kernel_rfl : chkR _ _ _ _ = true), ?_⟩; conv => whnf) | (refine EvOr.go ?_; conv => whnf))
            refine ⟨_, hrow, ?_⟩
            conv => whnf
            repeat (first | (refine ⟨(by kernel_rfl : chkR _ _ _ _ = true), ?_⟩; conv => whnf) | (refine EvOr.go ?_; conv => whnf))
            refine ⟨⟨by omega, by omega⟩, ?_⟩
            conv => whnf
            repeat (first | (refine ⟨(by kernel_rfl : chkR _ _ _ _ = true), ?_⟩; conv => whnf) | (refine EvOr.go ?_; conv => whnf))
            refine ⟨_, hg, ?_⟩
            conv => whnf
            repeat (first | (refine ⟨(by kernel_rfl : chkR _ _ _ _ = true), ?_⟩; conv => whnf) | (refine EvOr.go ?_; conv => whnf))
            intro c hc
            obtain rfl : c = true := by rw [hc]; exact decide_eq_true (by omega)
            conv => whnf
            repeat (first | (refine ⟨(by kernel_rfl : chkR _ _ _ _ = true), ?_⟩; conv => whnf) | (refine EvOr.go ?_; conv => whnf))
            refine ⟨⟨by omega, by omega⟩, ?_⟩
            conv => whnf
            repeat (first | (refine ⟨(by kernel_rfl : chkR _ _ _ _ = true), ?_⟩; conv => whnf) | (refine EvOr.go ?_; conv => whnf))
            refine ⟨_, hg, ?_⟩
            conv => whnf
            repeat (first | (refine ⟨(by kernel_rfl : chkR _ _ _ _ = true), ?_⟩; conv => whnf) | (refine EvOr.go ?_; conv => whnf))
            refine ⟨Nat.le_refl _, ?_⟩
            conv => whnf
            repeat (first | (refine ⟨(by kernel_rfl : chkR _ _ _ _ = true), ?_⟩; conv => whnf) | (refine EvOr.go ?_; conv => whnf))
            refine ⟨fun h => absurd h (by decide), fun _ => ⟨by decide, ?_⟩⟩
            conv => whnf
            repeat (first | (refine ⟨(by kernel_rfl : chkR _ _ _ _ = true), ?_⟩; conv => whnf) | (refine EvOr.go ?_; conv => whnf))
            refine ⟨⟨by omega, by omega⟩, ?_⟩
            conv => whnf
            repeat (first | (refine ⟨(by kernel_rfl : chkR _ _ _ _ = true), ?_⟩; conv => whnf) | (refine EvOr.go ?_; conv => whnf))
            refine ⟨_, hg, ?_⟩
            conv => whnf
            repeat (first | (refine ⟨(by kernel_rfl : chkR _ _ _ _ = true), ?_⟩; conv => whnf) | (refine EvOr.go ?_; conv => whnf))
            intro c hc
            obtain rfl : c = false := by rw [hc]; simp <;> omega
            conv => whnf
            repeat (first | (refine ⟨(by kernel_rfl : chkR _ _ _ _ = true), ?_⟩; conv => whnf) | (refine EvOr.go ?_; conv => whnf))
            refine ⟨_, inc_nat (by omega), ?_⟩
            conv => whnf
            repeat (first | (refine ⟨(by kernel_rfl : chkR _ _ _ _ = true), ?_⟩; conv => whnf) | (refine EvOr.go ?_; conv => whnf))
            refine ⟨by omega, _, StW.ofP [0, 1, 2, 3, 6] ?_ ?_ ?_⟩
            · show stP _ _ (rmH L (zeroed L (ks.take (k + 1))) _ (rowI (kz ks)) (nrB (kz (dat m (ks.take (k + 1)))))) = true
              rw [hds2]; kernel_rfl
            · show maskT _ (rzI L _ m ks (k + 1)).1 = renT _ (rzI L _ m ks (k + 1)).1
              simp only [rzI, hds2, hws]; rfl
            · show pickH _ _ 0 (rzI L _ m ks (k + 1)).2 = renH _ (rzI L _ m ks (k + 1)).2
              simp only [rzI, hds2, rmH, rowX, hs, row_setS]; rfl
          · conv => whnf
            repeat (first | (refine ⟨(by kernel_rfl : chkR _ _ _ _ = true), ?_⟩; conv => whnf) | (refine EvOr.go ?_; conv => whnf))
            intro c hc
            obtain rfl : c = true := by rw [hc]; exact decide_eq_true (by omega)
            conv => whnf
            repeat (first | (refine ⟨(by kernel_rfl : chkR _ _ _ _ = true), ?_⟩; conv => whnf) | (refine EvOr.go ?_; conv => whnf))
            refine ⟨⟨by omega, by omega⟩, ?_⟩
            conv => whnf
            repeat (first | (refine ⟨(by kernel_rfl : chkR _ _ _ _ = true), ?_⟩; conv => whnf) | (refine EvOr.go ?_; conv => whnf))
            refine ⟨_, hg, ?_⟩
            conv => whnf
            repeat (first | (refine ⟨(by kernel_rfl : chkR _ _ _ _ = true), ?_⟩; conv => whnf) | (refine EvOr.go ?_; conv => whnf))
            refine ⟨⟨by omega, by show (i : Int) < ((m + 2 : Nat) : Int); omega⟩, ?_⟩
            conv => whnf
            repeat (first | (refine ⟨(by kernel_rfl : chkR _ _ _ _ = true), ?_⟩; conv => whnf) | (refine EvOr.go ?_; conv => whnf))
            refine ⟨_, hrow, ?_⟩
            conv => whnf
            repeat (first | (refine ⟨(by kernel_rfl : chkR _ _ _ _ = true), ?_⟩; conv => whnf) | (refine EvOr.go ?_; conv => whnf))
            refine ⟨⟨by omega, by omega⟩, ?_⟩
            conv => whnf
            repeat (first | (refine ⟨(by kernel_rfl : chkR _ _ _ _ = true), ?_⟩; conv => whnf) | (refine EvOr.go ?_; conv => whnf))
            refine ⟨_, hg, ?_⟩
            conv => whnf
            repeat (first | (refine ⟨(by kernel_rfl : chkR _ _ _ _ = true), ?_⟩; conv => whnf) | (refine EvOr.go ?_; conv => whnf))
            intro c hc
            obtain rfl : c = true := by rw [hc]; exact decide_eq_true (by omega)
            conv => whnf
            repeat (first | (refine ⟨(by kernel_rfl : chkR _ _ _ _ = true), ?_⟩; conv => whnf) | (refine EvOr.go ?_; conv => whnf))
            refine ⟨⟨by omega, by omega⟩, ?_⟩
            conv => whnf
            repeat (first | (refine ⟨(by kernel_rfl : chkR _ _ _ _ = true), ?_⟩; conv => whnf) | (refine EvOr.go ?_; conv => whnf))
            refine ⟨_, hg, ?_⟩
            conv => whnf
            repeat (first | (refine ⟨(by kernel_rfl : chkR _ _ _ _ = true), ?_⟩; conv => whnf) | (refine EvOr.go ?_; conv => whnf))
            refine ⟨Nat.le_refl _, ?_⟩
            conv => whnf
            repeat (first | (refine ⟨(by kernel_rfl : chkR _ _ _ _ = true), ?_⟩; conv => whnf) | (refine EvOr.go ?_; conv => whnf))
            refine ⟨fun h => absurd h (by decide), fun _ => ⟨by decide, ?_⟩⟩
            conv => whnf
            repeat (first | (refine ⟨(by kernel_rfl : chkR _ _ _ _ = true), ?_⟩; conv => whnf) | (refine EvOr.go ?_; conv => whnf))
            refine ⟨_, inc_nat (by omega), ?_⟩
            conv => whnf
            repeat (first | (refine ⟨(by kernel_rfl : chkR _ _ _ _ = true), ?_⟩; conv => whnf) | (refine EvOr.go ?_; conv => whnf))
            refine ⟨by omega, _, StW.ofP [0, 1, 2, 3, 6] ?_ ?_ ?_⟩
            · show stP _ _ (rmH L (zeroed L (ks.take (k + 1))) _ (rowI (kz ks)) (nrB (kz (dat m (ks.take (k + 1)))))) = true
              rw [hds2]; kernel_rfl
            · show maskT _ (rzI L _ m ks (k + 1)).1 = renT _ (rzI L _ m ks (k + 1)).1
              simp only [rzI, hds2, hws]; rfl
            · show pickH _ _ 0 (rzI L _ m ks (k + 1)).2 = renH _ (rzI L _ m ks (k + 1)).2
              simp only [rzI, hds2, rmH, rowX, hs, row_setS]; rfl
        · rw [if_neg him, List.append_nil] at hds2
          cases w
          · by_cases hi : i = m
            · rw [decide_eq_true hi, Bool.or_true] at hws
              conv => whnf
              repeat (first | (refine ⟨(by kernel_rfl : chkR _ _ _ _ = true), ?_⟩; conv => whnf) | (refine EvOr.go ?_; conv => whnf))
              intro c hc
              obtain rfl : c = true := by rw [hc]; exact decide_eq_true (by omega)
              conv => whnf
              repeat (first | (refine ⟨(by kernel_rfl : chkR _ _ _ _ = true), ?_⟩; conv => whnf) | (refine EvOr.go ?_; conv => whnf))
              refine ⟨⟨by omega, by omega⟩, ?_⟩
              conv => whnf
              repeat (first | (refine ⟨(by kernel_rfl : chkR _ _ _ _ = true), ?_⟩; conv => whnf) | (refine EvOr.go ?_; conv => whnf))
              refine ⟨_, hg, ?_⟩
              conv => whnf
              repeat (first | (refine ⟨(by kernel_rfl : chkR _ _ _ _ = true), ?_⟩; conv => whnf) | (refine EvOr.go ?_; conv => whnf))
              refine ⟨⟨by omega, by show (i : Int) < ((m + 2 : Nat) : Int); omega⟩, ?_⟩
              conv => whnf
              repeat (first | (refine ⟨(by kernel_rfl : chkR _ _ _ _ = true), ?_⟩; conv => whnf) | (refine EvOr.go ?_; conv => whnf))
              refine ⟨_, hrow, ?_⟩
              conv => whnf
              repeat (first | (refine ⟨(by kernel_rfl : chkR _ _ _ _ = true), ?_⟩; conv => whnf) | (refine EvOr.go ?_; conv => whnf))
              refine ⟨⟨by omega, by omega⟩, ?_⟩
              conv => whnf
              repeat (first | (refine ⟨(by kernel_rfl : chkR _ _ _ _ = true), ?_⟩; conv => whnf) | (refine EvOr.go ?_; conv => whnf))
              refine ⟨_, hg, ?_⟩
              conv => whnf
              repeat (first | (refine ⟨(by kernel_rfl : chkR _ _ _ _ = true), ?_⟩; conv => whnf) | (refine EvOr.go ?_; conv => whnf))
              intro c hc
              obtain rfl : c = false := by rw [hc]; exact decide_eq_false (by omega)
              conv => whnf
              repeat (first | (refine ⟨(by kernel_rfl : chkR _ _ _ _ = true), ?_⟩; conv => whnf) | (refine EvOr.go ?_; conv => whnf))
              refine ⟨⟨by omega, by omega⟩, ?_⟩
              conv => whnf
              repeat (first | (refine ⟨(by kernel_rfl : chkR _ _ _ _ = true), ?_⟩; conv => whnf) | (refine EvOr.go ?_; conv => whnf))
              refine ⟨_, hg, ?_⟩
              conv => whnf
              repeat (first | (refine ⟨(by kernel_rfl : chkR _ _ _ _ = true), ?_⟩; conv => whnf) | (refine EvOr.go ?_; conv => whnf))
              intro c hc
              obtain rfl : c = true := by rw [hc]; simp <;> omega
              conv => whnf
              repeat (first | (refine ⟨(by kernel_rfl : chkR _ _ _ _ = true), ?_⟩; conv => whnf) | (refine EvOr.go ?_; conv => whnf))
              refine ⟨_, inc_nat (by omega), ?_⟩
              conv => whnf
              repeat (first | (refine ⟨(by kernel_rfl : chkR _ _ _ _ = true), ?_⟩; conv => whnf) | (refine EvOr.go ?_; conv => whnf))
              refine ⟨by omega, _, StW.ofP [0, 1, 2, 3, 4] ?_ ?_ ?_⟩
              · show stP _ _ (rmH L (zeroed L (ks.take (k + 1))) _ (rowI (kz ks)) (nrB (kz (dat m (ks.take (k + 1)))))) = true
                rw [hds2]; kernel_rfl
              · show maskT _ (rzI L _ m ks (k + 1)).1 = renT _ (rzI L _ m ks (k + 1)).1
                simp only [rzI, hds2, hws]; rfl
              · show pickH _ _ 0 (rzI L _ m ks (k + 1)).2 = renH _ (rzI L _ m ks (k + 1)).2
                simp only [rzI, hds2, rmH, rowX, hs, row_setS]; rfl
            · rw [decide_eq_false hi, Bool.or_false] at hws
              conv => whnf
              repeat (first | (refine ⟨(by kernel_rfl : chkR _ _ _ _ = true), ?_⟩; conv => whnf) | (refine EvOr.go ?_; conv => whnf))
              intro c hc
              obtain rfl : c = true := by rw [hc]; exact decide_eq_true (by omega)
              conv => whnf
              repeat (first | (refine ⟨(by kernel_rfl : chkR _ _ _ _ = true), ?_⟩; conv => whnf) | (refine EvOr.go ?_; conv => whnf))
              refine ⟨⟨by omega, by omega⟩, ?_⟩
              conv => whnf
              repeat (first | (refine ⟨(by kernel_rfl : chkR _ _ _ _ = true), ?_⟩; conv => whnf) | (refine EvOr.go ?_; conv => whnf))
              refine ⟨_, hg, ?_⟩
              conv => whnf
              repeat (first | (refine ⟨(by kernel_rfl : chkR _ _ _ _ = true), ?_⟩; conv => whnf) | (refine EvOr.go ?_; conv => whnf))
              refine ⟨⟨by omega, by show (i : Int) < ((m + 2 : Nat) : Int); omega⟩, ?_⟩
              conv => whnf
              repeat (first | (refine ⟨(by kernel_rfl : chkR _ _ _ _ = true), ?_⟩; conv => whnf) | (refine EvOr.go ?_; conv => whnf))
              refine ⟨_, hrow, ?_⟩
              conv => whnf
              repeat (first | (refine ⟨(by kernel_rfl : chkR _ _ _ _ = true), ?_⟩; conv => whnf) | (refine EvOr.go ?_; conv => whnf))
              refine ⟨⟨by omega, by omega⟩, ?_⟩
              conv => whnf
              repeat (first | (refine ⟨(by kernel_rfl : chkR _ _ _ _ = true), ?_⟩; conv => whnf) | (refine EvOr.go ?_; conv => whnf))
              refine ⟨_, hg, ?_⟩
              conv => whnf
              repeat (first | (refine ⟨(by kernel_rfl : chkR _ _ _ _ = true), ?_⟩; conv => whnf) | (refine EvOr.go ?_; conv => whnf))
              intro c hc
              obtain rfl : c = false := by rw [hc]; exact decide_eq_false (by omega)
              conv => whnf
              repeat (first | (refine ⟨(by kernel_rfl : chkR _ _ _ _ = true), ?_⟩; conv => whnf) | (refine EvOr.go ?_; conv => whnf))
              refine ⟨⟨by omega, by omega⟩, ?_⟩
              conv => whnf
              repeat (first | (refine ⟨(by kernel_rfl : chkR _ _ _ _ = true), ?_⟩; conv => whnf) | (refine EvOr.go ?_; conv => whnf))
              refine ⟨_, hg, ?_⟩
              conv => whnf
              repeat (first | (refine ⟨(by kernel_rfl : chkR _ _ _ _ = true), ?_⟩; conv => whnf) | (refine EvOr.go ?_; conv => whnf))
              intro c hc
              obtain rfl : c = false := by rw [hc]; simp <;> omega
              conv => whnf
              repeat (first | (refine ⟨(by kernel_rfl : chkR _ _ _ _ = true), ?_⟩; conv => whnf) | (refine EvOr.go ?_; conv => whnf))
              refine ⟨_, inc_nat (by omega), ?_⟩
              conv => whnf
              repeat (first | (refine ⟨(by kernel_rfl : chkR _ _ _ _ = true), ?_⟩; conv => whnf) | (refine EvOr.go ?_; conv => whnf))
              refine ⟨by omega, _, StW.ofP [0, 1, 2, 3, 4] ?_ ?_ ?_⟩
              · show stP _ _ (rmH L (zeroed L (ks.take (k + 1))) _ (rowI (kz ks)) (nrB (kz (dat m (ks.take (k + 1)))))) = true
                rw [hds2]; kernel_rfl
              · show maskT _ (rzI L _ m ks (k + 1)).1 = renT _ (rzI L _ m ks (k + 1)).1
                simp only [rzI, hds2, hws]; rfl
              · show pickH _ _ 0 (rzI L _ m ks (k + 1)).2 = renH _ (rzI L _ m ks (k + 1)).2
                simp only [rzI, hds2, rmH, rowX, hs, row_setS]; rfl
          · rw [Bool.true_or] at hws
            conv => whnf
            repeat (first | (refine ⟨(by kernel_rfl : chkR _ _ _ _ = true), ?_⟩; conv => whnf) | (refine EvOr.go ?_; conv => whnf))
            intro c hc
            obtain rfl : c = true := by rw [hc]; exact decide_eq_true (by omega)
            conv => whnf
            repeat (first | (refine ⟨(by kernel_rfl : chkR _ _ _ _ = true), ?_⟩; conv => whnf) | (refine EvOr.go ?_; conv => whnf))
            refine ⟨⟨by omega, by omega⟩, ?_⟩
            conv => whnf
            repeat (first | (refine ⟨(by kernel_rfl : chkR _ _ _ _ = true), ?_⟩; conv => whnf) | (refine EvOr.go ?_; conv => whnf))
            refine ⟨_, hg, ?_⟩
            conv => whnf
            repeat (first | (refine ⟨(by kernel_rfl : chkR _ _ _ _ = true), ?_⟩; conv => whnf) | (refine EvOr.go ?_; conv => whnf))
            refine ⟨⟨by omega, by show (i : Int) < ((m + 2 : Nat) : Int); omega⟩, ?_⟩
            conv => whnf
            repeat (first | (refine ⟨(by kernel_rfl : chkR _ _ _ _ = true), ?_⟩; conv => whnf) | (refine EvOr.go ?_; conv => whnf))
            refine ⟨_, hrow, ?_⟩
            conv => whnf
            repeat (first | (refine ⟨(by kernel_rfl : chkR _ _ _ _ = true), ?_⟩; conv => whnf) | (refine EvOr.go ?_; conv => whnf))
            refine ⟨⟨by omega, by omega⟩, ?_⟩
            conv => whnf
            repeat (first | (refine ⟨(by kernel_rfl : chkR _ _ _ _ = true), ?_⟩; conv => whnf) | (refine EvOr.go ?_; conv => whnf))
            refine ⟨_, hg, ?_⟩
            conv => whnf
            repeat (first | (refine ⟨(by kernel_rfl : chkR _ _ _ _ = true), ?_⟩; conv => whnf) | (refine EvOr.go ?_; conv => whnf))
            intro c hc
            obtain rfl : c = false := by rw [hc]; exact decide_eq_false (by omega)
            conv => whnf
            repeat (first | (refine ⟨(by kernel_rfl : chkR _ _ _ _ = true), ?_⟩; conv => whnf) | (refine EvOr.go ?_; conv => whnf))
            refine ⟨_, inc_nat (by omega), ?_⟩
            conv => whnf
            repeat (first | (refine ⟨(by kernel_rfl : chkR _ _ _ _ = true), ?_⟩; conv => whnf) | (refine EvOr.go ?_; conv => whnf))
            refine ⟨by omega, _, StW.ofP [0, 1, 2, 3, 4] ?_ ?_ ?_⟩
            · show stP _ _ (rmH L (zeroed L (ks.take (k + 1))) _ (rowI (kz ks)) (nrB (kz (dat m (ks.take (k + 1)))))) = true
              rw [hds2]; kernel_rfl
            · show maskT _ (rzI L _ m ks (k + 1)).1 = renT _ (rzI L _ m ks (k + 1)).1
              simp only [rzI, hds2, hws]; rfl
            · show pickH _ _ 0 (rzI L _ m ks (k + 1)).2 = renH _ (rzI L _ m ks (k + 1)).2
              simp only [rzI, hds2, rmH, rowX, hs, row_setS]; rfl
      | cons a r =>
        obtain ⟨O, hO⟩ : ∃ O, O = a :: r := ⟨_, rfl⟩
        have e1 : nrS (a :: r) 4 = .sl 4 0 1 O.length none := by rw [hO]; rfl
        have e2 : nrB (a :: r) = rowI O := by rw [hO]; rfl
        have hO0 : 0 < O.length := by rw [hO]; simp
        rw [e1, e2]
        rw [← hO] at hlz hds2 e1 e2
        clear hO
        by_cases him : i < m
        · rw [if_pos him] at hds2
          have hwi : decide (i = m) = false := decide_eq_false (by omega)
          rw [hwi, Bool.or_false] at hws
          cases w
          · conv => whnf
            repeat (first | (refine ⟨(by kernel_rfl : chkR _ _ _ _ = true), ?_⟩; conv => whnf) | (refine EvOr.go ?_; conv => whnf))
            intro c hc
            obtain rfl : c = true := by rw [hc]; exact decide_eq_true (by omega)
            conv => whnf
            repeat (first | (refine ⟨(by kernel_rfl : chkR _ _ _ _ = true), ?_⟩; conv => whnf) | (refine EvOr.go ?_; conv => whnf))
            refine ⟨⟨by omega, by omega⟩, ?_⟩
            conv => whnf
            repeat (first | (refine ⟨(by kernel_rfl : chkR _ _ _ _ = true), ?_⟩; conv => whnf) | (refine EvOr.go ?_; conv => whnf))
            refine ⟨_, hg, ?_⟩
            conv => whnf
            repeat (first | (refine ⟨(by kernel_rfl : chkR _ _ _ _ = true), ?_⟩; conv => whnf) | (refine EvOr.go ?_; conv => whnf))
            refine ⟨⟨by omega, by show (i : Int) < ((m + 2 : Nat) : Int); omega⟩, ?_⟩
            conv => whnf
            repeat (first | (refine ⟨(by kernel_rfl : chkR _ _ _ _ = true), ?_⟩; conv => whnf) | (refine EvOr.go ?_; conv => whnf))
            refine ⟨_, hrow, ?_⟩
            conv => whnf
            repeat (first | (refine ⟨(by kernel_rfl : chkR _ _ _ _ = true), ?_⟩; conv => whnf) | (refine EvOr.go ?_; conv => whnf))
            refine ⟨⟨by omega, by omega⟩, ?_⟩
            conv => whnf
            repeat (first | (refine ⟨(by kernel_rfl : chkR _ _ _ _ = true), ?_⟩; conv => whnf) | (refine EvOr.go ?_; conv => whnf))
            refine ⟨_, hg, ?_⟩
            conv => whnf
            repeat (first | (refine ⟨(by kernel_rfl : chkR _ _ _ _ = true), ?_⟩; conv => whnf) | (refine EvOr.go ?_; conv => whnf))
            intro c hc
            obtain rfl : c = true := by rw [hc]; exact decide_eq_true (by omega)
            conv => whnf
            repeat (first | (refine ⟨(by kernel_rfl : chkR _ _ _ _ = true), ?_⟩; conv => whnf) | (refine EvOr.go ?_; conv => whnf))
            refine ⟨⟨by omega, by omega⟩, ?_⟩
            conv => whnf
            repeat (first | (refine ⟨(by kernel_rfl : chkR _ _ _ _ = true), ?_⟩; conv => whnf) | (refine EvOr.go ?_; conv => whnf))
            refine ⟨_, hg, ?_⟩
            conv => whnf
            repeat (first | (refine ⟨(by kernel_rfl : chkR _ _ _ _ = true), ?_⟩; conv => whnf) | (refine EvOr.go ?_; conv => whnf))
            refine ⟨Nat.le_refl _, ?_⟩
            conv => whnf
            repeat (first | (refine ⟨(by kernel_rfl : chkR _ _ _ _ = true), ?_⟩; conv => whnf) | (refine EvOr.go ?_; conv => whnf))
            refine ⟨by simp, fun h => absurd h (by decide), fun _ => ⟨by show (2 * (O.length + (0 + 1)) + 192) * 8 ≤ _; omega, ?_⟩⟩
            conv => whnf
            repeat (first | (refine ⟨(by kernel_rfl : chkR _ _ _ _ = true), ?_⟩; conv => whnf) | (refine EvOr.go ?_; conv => whnf))
            refine ⟨⟨by omega, by omega⟩, ?_⟩
            conv => whnf
            repeat (first | (refine ⟨(by kernel_rfl : chkR _ _ _ _ = true), ?_⟩; conv => whnf) | (refine EvOr.go ?_; conv => whnf))
            refine ⟨_, hg, ?_⟩
            conv => whnf
            repeat (first | (refine ⟨(by kernel_rfl : chkR _ _ _ _ = true), ?_⟩; conv => whnf) | (refine EvOr.go ?_; conv => whnf))
            intro c hc
            obtain rfl : c = false := by rw [hc]; simp <;> omega
            conv => whnf
            repeat (first | (refine ⟨(by kernel_rfl : chkR _ _ _ _ = true), ?_⟩; conv => whnf) | (refine EvOr.go ?_; conv => whnf))
            refine ⟨_, inc_nat (by omega), ?_⟩
            conv => whnf
            repeat (first | (refine ⟨(by kernel_rfl : chkR _ _ _ _ = true), ?_⟩; conv => whnf) | (refine EvOr.go ?_; conv => whnf))
            have hn := nr_row (T := O ++ [(i : Int)]) 4 (by simp)
            have hrw : (O ++ [(i : Int)]).map intS = List.take O.length (List.drop 0 (O.map intS)) ++ [intS (i : Int)] := by
              have t : List.take O.length (List.drop 0 (O.map intS)) = O.map intS := by rw [List.drop_zero]; exact List.take_of_length_le (by simp)
              rw [t]; simp
            have hln : (O ++ [(i : Int)]).length = O.length + 1 := by simp
            refine ⟨by omega, _, StW.ofP [0, 1, 2, 3, 6] ?_ ?_ ?_⟩
            · show stP _ _ (rmH L (zeroed L (ks.take (k + 1))) _ (rowI (kz ks)) (nrB (kz (dat m (ks.take (k + 1)))))) = true
              rw [hds2, hn.2]; kernel_rfl
            · show maskT _ (rzI L _ m ks (k + 1)).1 = renT _ (rzI L _ m ks (k + 1)).1
              simp only [rzI, hds2, hws, hn.1, hln]; rfl
            · show pickH _ _ 0 (rzI L _ m ks (k + 1)).2 = renH _ (rzI L _ m ks (k + 1)).2
              simp only [rzI, hds2, rmH, rowX, hs, row_setS, hn.2, rowI, hrw]; rfl
          · conv => whnf
            repeat (first | (refine ⟨(by kernel_rfl : chkR _ _ _ _ = true), ?_⟩; conv => whnf) | (refine EvOr.go ?_; conv => whnf))
            intro c hc
            obtain rfl : c = true := by rw [hc]; exact decide_eq_true (by omega)
            conv => whnf
            repeat (first | (refine ⟨(by kernel_rfl : chkR _ _ _ _ = true), ?_⟩; conv => whnf) | (refine EvOr.go ?_; conv => whnf))
            refine ⟨⟨by omega, by omega⟩, ?_⟩
            conv => whnf
            repeat (first | (refine ⟨(by kernel_rfl : chkR _ _ _ _ = true), ?_⟩; conv => whnf) | (refine EvOr.go ?_; conv => whnf))
            refine ⟨_, hg, ?_⟩
            conv => whnf
            repeat (first | (refine ⟨(by kernel_rfl : chkR _ _ _ _ = true), ?_⟩; conv => whnf) | (refine EvOr.go ?_; conv => whnf))
            refine ⟨⟨by omega, by show (i : Int) < ((m + 2 : Nat) : Int); omega⟩, ?_⟩
            conv => whnf
            repeat (first | (refine ⟨(by kernel_rfl : chkR _ _ _ _ = true), ?_⟩; conv => whnf) | (refine EvOr.go ?_; conv => whnf))
            refine ⟨_, hrow, ?_⟩
            conv => whnf
            repeat (first | (refine ⟨(by kernel_rfl : chkR _ _ _ _ = true), ?_⟩; conv => whnf) | (refine EvOr.go ?_; conv => whnf))
            refine ⟨⟨by omega, by omega⟩, ?_⟩
            conv => whnf
            repeat (first | (refine ⟨(by kernel_rfl : chkR _ _ _ _ = true), ?_⟩; conv => whnf) | (refine EvOr.go ?_; conv => whnf))
            refine ⟨_, hg, ?_⟩
            conv => whnf
            repeat (first | (refine ⟨(by kernel_rfl : chkR _ _ _ _ = true), ?_⟩; conv => whnf) | (refine EvOr.go ?_; conv => whnf))
            intro c hc
            obtain rfl : c = true := by rw [hc]; exact decide_eq_true (by omega)
            conv => whnf
            repeat (first | (refine ⟨(by kernel_rfl : chkR _ _ _ _ = true), ?_⟩; conv => whnf) | (refine EvOr.go ?_; conv => whnf))
            refine ⟨⟨by omega, by omega⟩, ?_⟩
            conv => whnf
            repeat (first | (refine ⟨(by kernel_rfl : chkR _ _ _ _ = true), ?_⟩; conv => whnf) | (refine EvOr.go ?_; conv => whnf))
            refine ⟨_, hg, ?_⟩
            conv => whnf
            repeat (first | (refine ⟨(by kernel_rfl : chkR _ _ _ _ = true), ?_⟩; conv => whnf) | (refine EvOr.go ?_; conv => whnf))
            refine ⟨Nat.le_refl _, ?_⟩
            conv => whnf
            repeat (first | (refine ⟨(by kernel_rfl : chkR _ _ _ _ = true), ?_⟩; conv => whnf) | (refine EvOr.go ?_; conv => whnf))
            refine ⟨by simp, fun h => absurd h (by decide), fun _ => ⟨by show (2 * (O.length + (0 + 1)) + 192) * 8 ≤ _; omega, ?_⟩⟩
            conv => whnf
            repeat (first | (refine ⟨(by kernel_rfl : chkR _ _ _ _ = true), ?_⟩; conv => whnf) | (refine EvOr.go ?_; conv => whnf))
            refine ⟨_, inc_nat (by omega), ?_⟩
            conv => whnf
            repeat (first | (refine ⟨(by kernel_rfl : chkR _ _ _ _ = true), ?_⟩; conv => whnf) | (refine EvOr.go ?_; conv => whnf))
            have hn := nr_row (T := O ++ [(i : Int)]) 4 (by simp)
            have hrw : (O ++ [(i : Int)]).map intS = List.take O.length (List.drop 0 (O.map intS)) ++ [intS (i : Int)] := by
              have t : List.take O.length (List.drop 0 (O.map intS)) = O.map intS := by rw [List.drop_zero]; exact List.take_of_length_le (by simp)
              rw [t]; simp
            have hln : (O ++ [(i : Int)]).length = O.length + 1 := by simp
            refine ⟨by omega, _, StW.ofP [0, 1, 2, 3, 6] ?_ ?_ ?_⟩
            · show stP _ _ (rmH L (zeroed L (ks.take (k + 1))) _ (rowI (kz ks)) (nrB (kz (dat m (ks.take (k + 1)))))) = true
              rw [hds2, hn.2]; kernel_rfl
            · show maskT _ (rzI L _ m ks (k + 1)).1 = renT _ (rzI L _ m ks (k + 1)).1
              simp only [rzI, hds2, hws, hn.1, hln]; rfl
            · show pickH _ _ 0 (rzI L _ m ks (k + 1)).2 = renH _ (rzI L _ m ks (k + 1)).2
              simp only [rzI, hds2, rmH, rowX, hs, row_setS, hn.2, rowI, hrw]; rfl
        · rw [if_neg him, List.append_nil] at hds2
          cases w
          · by_cases hi : i = m
            · rw [decide_eq_true hi, Bool.or_true] at hws
              conv => whnf
              repeat (first | (refine ⟨(by kernel_rfl : chkR _ _ _ _ = true), ?_⟩; conv => whnf) | (refine EvOr.go ?_; conv => whnf))
              intro c hc
              obtain rfl : c = true := by rw [hc]; exact decide_eq_true (by omega)
              conv => whnf
              repeat (first | (refine ⟨(by kernel_rfl : chkR _ _ _ _ = true), ?_⟩; conv => whnf) | (refine EvOr.go ?_; conv => whnf))
              refine ⟨⟨by omega, by omega⟩, ?_⟩
              conv => whnf
              repeat (first | (refine ⟨(by kernel_rfl : chkR _ _ _ _ = true), ?_⟩; conv => whnf) | (refine EvOr.go ?_; conv => whnf))
              refine ⟨_, hg, ?_⟩
              conv => whnf
              repeat (first | (refine ⟨(by kernel_rfl : chkR _ _ _ _ = true), ?_⟩; conv => whnf) | (refine EvOr.go ?_; conv => whnf))
              refine ⟨⟨by omega, by show (i : Int) < ((m + 2 : Nat) : Int); omega⟩, ?_⟩
              conv => whnf
              repeat (first | (refine ⟨(by kernel_rfl : chkR _ _ _ _ = true), ?_⟩; conv => whnf) | (refine EvOr.go ?_; conv => whnf))
              refine ⟨_, hrow, ?_⟩
              conv => whnf
              repeat (first | (refine ⟨(by kernel_rfl : chkR _ _ _ _ = true), ?_⟩; conv => whnf) | (refine EvOr.go ?_; conv => whnf))
              refine ⟨⟨by omega, by omega⟩, ?_⟩
              conv => whnf
              repeat (first | (refine ⟨(by kernel_rfl : chkR _ _ _ _ = true), ?_⟩; conv => whnf) | (refine EvOr.go ?_; conv => whnf))
              refine ⟨_, hg, ?_⟩
              conv => whnf
              repeat (first | (refine ⟨(by kernel_rfl : chkR _ _ _ _ = true), ?_⟩; conv => whnf) | (refine EvOr.go ?_; conv => whnf))
              intro c hc
              obtain rfl : c = false := by rw [hc]; exact decide_eq_false (by omega)
              conv => whnf
              repeat (first | (refine ⟨(by kernel_rfl : chkR _ _ _ _ = true), ?_⟩; conv => whnf) | (refine EvOr.go ?_; conv => whnf))
              refine ⟨⟨by omega, by omega⟩, ?_⟩
              conv => whnf
              repeat (first | (refine ⟨(by kernel_rfl : chkR _ _ _ _ = true), ?_⟩; conv => whnf) | (refine EvOr.go ?_; conv => whnf))
              refine ⟨_, hg, ?_⟩
              conv => whnf
              repeat (first | (refine ⟨(by kernel_rfl : chkR _ _ _ _ = true), ?_⟩; conv => whnf) | (refine EvOr.go ?_; conv => whnf))
              intro c hc
              obtain rfl : c = true := by rw [hc]; simp <;> omega
              conv => whnf
              repeat (first | (refine ⟨(by kernel_rfl : chkR _ _ _ _ = true), ?_⟩; conv => whnf) | (refine EvOr.go ?_; conv => whnf))
              refine ⟨_, inc_nat (by omega), ?_⟩
              conv => whnf
              repeat (first | (refine ⟨(by kernel_rfl : chkR _ _ _ _ = true), ?_⟩; conv => whnf) | (refine EvOr.go ?_; conv => whnf))
              refine ⟨by omega, _, StW.ofP [0, 1, 2, 3, 4] ?_ ?_ ?_⟩
              · show stP _ _ (rmH L (zeroed L (ks.take (k + 1))) _ (rowI (kz ks)) (nrB (kz (dat m (ks.take (k + 1)))))) = true
                rw [hds2, e2]; kernel_rfl
              · show maskT _ (rzI L _ m ks (k + 1)).1 = renT _ (rzI L _ m ks (k + 1)).1
                simp only [rzI, hds2, hws, e1]; rfl
              · show pickH _ _ 0 (rzI L _ m ks (k + 1)).2 = renH _ (rzI L _ m ks (k + 1)).2
                simp only [rzI, hds2, rmH, rowX, hs, row_setS, e2]; rfl
            · rw [decide_eq_false hi, Bool.or_false] at hws
              conv => whnf
              repeat (first | (refine ⟨(by kernel_rfl : chkR _ _ _ _ = true), ?_⟩; conv => whnf) | (refine EvOr.go ?_; conv => whnf))
              intro c hc
              obtain rfl : c = true := by rw [hc]; exact decide_eq_true (by omega)
              conv => whnf
              repeat (first | (refine ⟨(by kernel_rfl : chkR _ _ _ _ = true), ?_⟩; conv => whnf) | (refine EvOr.go ?_; conv => whnf))
              refine ⟨⟨by omega, by omega⟩, ?_⟩
              conv => whnf
              repeat (first | (refine ⟨(by kernel_rfl : chkR _ _ _ _ = true), ?_⟩; conv => whnf) | (refine EvOr.go ?_; conv => whnf))
              refine ⟨_, hg, ?_⟩
              conv => whnf
              repeat (first | (refine ⟨(by kernel_rfl : chkR _ _ _ _ = true), ?_⟩; conv => whnf) | (refine EvOr.go ?_; conv => whnf))
              refine ⟨⟨by omega, by show (i : Int) < ((m + 2 : Nat) : Int); omega⟩, ?_⟩
              conv => whnf
              repeat (first | (refine ⟨(by kernel_rfl : chkR _ _ _ _ = true), ?_⟩; conv => whnf) | (refine EvOr.go ?_; conv => whnf))
              refine ⟨_, hrow, ?_⟩
              conv => whnf
              repeat (first | (refine ⟨(by kernel_rfl : chkR _ _ _ _ = true), ?_⟩; conv => whnf) | (refine EvOr.go ?_; conv => whnf))
              refine ⟨⟨by omega, by omega⟩, ?_⟩
              conv => whnf
              repeat (first | (refine ⟨(by kernel_rfl : chkR _ _ _ _ = true), ?_⟩; conv => whnf) | (refine EvOr.go ?_; conv => whnf))
              refine ⟨_, hg, ?_⟩
              conv => whnf
              repeat (first | (refine ⟨(by kernel_rfl : chkR _ _ _ _ = true), ?_⟩; conv => whnf) | (refine EvOr.go ?_; conv => whnf))
              intro c hc
              obtain rfl : c = false := by rw [hc]; exact decide_eq_false (by omega)
              conv => whnf
              repeat (first | (refine ⟨(by kernel_rfl : chkR _ _ _ _ = true), ?_⟩; conv => whnf) | (refine EvOr.go ?_; conv => whnf))
              refine ⟨⟨by omega, by omega⟩, ?_⟩
              conv => whnf
              repeat (first | (refine ⟨(by kernel_rfl : chkR _ _ _ _ = true), ?_⟩; conv => whnf) | (refine EvOr.go ?_; conv => whnf))
              refine ⟨_, hg, ?_⟩
              conv => whnf
              repeat (first | (refine ⟨(by kernel_rfl : chkR _ _ _ _ = true), ?_⟩; conv => whnf) | (refine EvOr.go ?_; conv => whnf))
              intro c hc
              obtain rfl : c = false := by rw [hc]; simp <;> omega
              conv => whnf
              repeat (first | (refine ⟨(by kernel_rfl : chkR _ _ _ _ = true), ?_⟩; conv => whnf) | (refine EvOr.go ?_; conv => whnf))
              refine ⟨_, inc_nat (by omega), ?_⟩
              conv => whnf
              repeat (first | (refine ⟨(by kernel_rfl : chkR _ _ _ _ = true), ?_⟩; conv => whnf) | (refine EvOr.go ?_; conv => whnf))
              refine ⟨by omega, _, StW.ofP [0, 1, 2, 3, 4] ?_ ?_ ?_⟩
              · show stP _ _ (rmH L (zeroed L (ks.take (k + 1))) _ (rowI (kz ks)) (nrB (kz (dat m (ks.take (k + 1)))))) = true
                rw [hds2, e2]; kernel_rfl
              · show maskT _ (rzI L _ m ks (k + 1)).1 = renT _ (rzI L _ m ks (k + 1)).1
                simp only [rzI, hds2, hws, e1]; rfl
              · show pickH _ _ 0 (rzI L _ m ks (k + 1)).2 = renH _ (rzI L _ m ks (k + 1)).2
                simp only [rzI, hds2, rmH, rowX, hs, row_setS, e2]; rfl
          · rw [Bool.true_or] at hws
            conv => whnf
            repeat (first | (refine ⟨(by kernel_rfl : chkR _ _ _ _ = true), ?_⟩; conv => whnf) | (refine EvOr.go ?_; conv => whnf))
            intro c hc
            obtain rfl : c = true := by rw [hc]; exact decide_eq_true (by omega)
            conv => whnf
            repeat (first | (refine ⟨(by kernel_rfl : chkR _ _ _ _ = true), ?_⟩; conv => whnf) | (refine EvOr.go ?_; conv => whnf))
            refine ⟨⟨by omega, by omega⟩, ?_⟩
            conv => whnf
            repeat (first | (refine ⟨(by kernel_rfl : chkR _ _ _ _ = true), ?_⟩; conv => whnf) | (refine EvOr.go ?_; conv => whnf))
            refine ⟨_, hg, ?_⟩
            conv => whnf
            repeat (first | (refine ⟨(by kernel_rfl : chkR _ _ _ _ = true), ?_⟩; conv => whnf) | (refine EvOr.go ?_; conv => whnf))
            refine ⟨⟨by omega, by show (i : Int) < ((m + 2 : Nat) : Int); omega⟩, ?_⟩
            conv => whnf
            repeat (first | (refine ⟨(by kernel_rfl : chkR _ _ _ _ = true), ?_⟩; conv => whnf) | (refine EvOr.go ?_; conv => whnf))
            refine ⟨_, hrow, ?_⟩
            conv => whnf
            repeat (first | (refine ⟨(by kernel_rfl : chkR _ _ _ _ = true), ?_⟩; conv => whnf) | (refine EvOr.go ?_; conv => whnf))
            refine ⟨⟨by omega, by omega⟩, ?_⟩
            conv => whnf
            repeat (first | (refine ⟨(by kernel_rfl : chkR _ _ _ _ = true), ?_⟩; conv => whnf) | (refine EvOr.go ?_; conv => whnf))
            refine ⟨_, hg, ?_⟩
            conv => whnf
            repeat (first | (refine ⟨(by kernel_rfl : chkR _ _ _ _ = true), ?_⟩; conv => whnf) | (refine EvOr.go ?_; conv => whnf))
            intro c hc
            obtain rfl : c = false := by rw [hc]; exact decide_eq_false (by omega)
            conv => whnf
            repeat (first | (refine ⟨(by kernel_rfl : chkR _ _ _ _ = true), ?_⟩; conv => whnf) | (refine EvOr.go ?_; conv => whnf))
            refine ⟨_, inc_nat (by omega), ?_⟩
            conv => whnf
            repeat (first | (refine ⟨(by kernel_rfl : chkR _ _ _ _ = true), ?_⟩; conv => whnf) | (refine EvOr.go ?_; conv => whnf))
            refine ⟨by omega, _, StW.ofP [0, 1, 2, 3, 4] ?_ ?_ ?_⟩
            · show stP _ _ (rmH L (zeroed L (ks.take (k + 1))) _ (rowI (kz ks)) (nrB (kz (dat m (ks.take (k + 1)))))) = true
              rw [hds2, e2]; kernel_rfl
            · show maskT _ (rzI L _ m ks (k + 1)).1 = renT _ (rzI L _ m ks (k + 1)).1
              simp only [rzI, hds2, hws, e1]; rfl
            · show pickH _ _ 0 (rzI L _ m ks (k + 1)).2 = renH _ (rzI L _ m ks (k + 1)).2
              simp only [rzI, hds2, rmH, rowX, hs, row_setS, e2]; rfl
    · obtain rfl : k = ks.length := by omega
      simp only [List.take_length]
      generalize kz (dat m ks) = Dz at *
      cases Dz <;>
      · conv => whnf
        repeat (first | (refine ⟨(by kernel_rfl : chkR _ _ _ _ = true), ?_⟩; conv => whnf) | (refine EvOr.go ?_; conv => whnf))
        intro c hc
        obtain rfl : c = false := by rw [hc]; exact decide_eq_false (by omega)
        conv => whnf
        refine ⟨(by kernel_rfl : chkR _ _ _ _ = true), ?_⟩
        conv => whnf
        refine EvOr.go ?_
        conv => whnf
        refine EvOr.cut (CodeT.weaken _ (StW.ofP [0, 1, 2, 3, 4] ?_ ?_ ?_) (gM))
        · kernel_rfl
        · rfl
        · rfl
end Go.Proofs.Ytdmcbfmpnakdfaa.Eng
