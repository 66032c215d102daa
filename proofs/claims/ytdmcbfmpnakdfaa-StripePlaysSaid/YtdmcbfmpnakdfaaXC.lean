/- The document's row: what its small functions do. -/
import Derived.Test.YtdmcbfmpnakdfaaXB
import Derived.Test.YtdmcbfmpnakdfaaQx
namespace Go.Proofs.Ytdmcbfmpnakdfaa.Eng.St
open Go Go.RowKit Go.Shelf Go.Proofs Go.Proofs.Ytdmcbfmpnakdfaa.Gf Go.Proofs.Ytdmcbfmpnakdfaa.Rf Go.Proofs.Ytdmcbfmpnakdfaa.Oa
set_option maxRecDepth 20000
set_option maxHeartbeats 8000000
theorem c61 : Callable Try.prog 61 := ⟨⟨_, Try.func61, by kernel_rfl, by kernel_rfl⟩⟩
theorem c62 : Callable Try.prog 62 := ⟨⟨_, Try.func62, by kernel_rfl, by kernel_rfl⟩⟩
theorem c63 : Callable Try.prog 63 := ⟨⟨_, Try.func63, by kernel_rfl, by kernel_rfl⟩⟩
theorem c64 : Callable Try.prog 64 := ⟨⟨_, Try.func64, by kernel_rfl, by kernel_rfl⟩⟩
theorem c65 : Callable Try.prog 65 := ⟨⟨_, Try.func65, by kernel_rfl, by kernel_rfl⟩⟩
theorem c66 : Callable Try.prog 66 := ⟨⟨_, Try.func66, by kernel_rfl, by kernel_rfl⟩⟩
theorem c67 : Callable Try.prog 67 := ⟨⟨_, Try.func67, by kernel_rfl, by kernel_rfl⟩⟩
theorem c68 : Callable Try.prog 68 := ⟨⟨_, Try.func68, by kernel_rfl, by kernel_rfl⟩⟩
theorem c69 : Callable Try.prog 69 := ⟨⟨_, Try.func69, by kernel_rfl, by kernel_rfl⟩⟩
theorem c114 : Callable Try.prog 114 := ⟨⟨_, Try.func114, by kernel_rfl, by kernel_rfl⟩⟩
theorem c115 : Callable Try.prog 115 := ⟨⟨_, Try.func115, by kernel_rfl, by kernel_rfl⟩⟩
theorem c116 : Callable Try.prog 116 := ⟨⟨_, Try.func116, by kernel_rfl, by kernel_rfl⟩⟩
def booS (b : Bool) : Segs := [.one (.raw (.bool b))]
def goB (k : Nat) : Bool := decide (k = 0)
abbrev gonB (K : List Nat) : Option ABlk := some (.row .inx 4 1 ((K.map goB).map booS) [])
abbrev refP (n : Nat) : Option ABlk := some (.row .one 105 2 [[.one (.sl 1 0 64 n none), .one (.sl 2 0 1 n none)]] [1, 2])
abbrev rf3 (n : Nat) (L : List (List Nat)) (K : List Nat) : LHp := [refP n, rowX L, gonB K]
theorem gon_get {K : List Nat} {k : Nat} (hk : k < K.length) : ((K.map goB).map booS)[0 + (k : Int).toNat]? = some (booS (goB (K.getD k 0))) := by
  rw [List.getD_eq_getElem?_getD, List.getElem?_eq_getElem hk]
  simp [hk]
theorem gon_set {K : List Nat} {k v : Nat} : ((K.set k v).map goB).map booS = ((K.map goB).map booS).set (0 + (k : Int).toNat) (booS (goB v)) := by
  simp [List.map_set]
theorem rhas_in (n : Nat) (L : List (List Nat)) (K : List Nat) (k : Nat) (hk : k < n) : FunT Try.prog 114 [rpV, iv (k : Nat)] (rf3 n L K) (bv true) (rf3 n L K) := by
  refine FunT.ev tabOk mixed Try.func114 rfl ?_
  conv => whnf
  repeat (first | (refine ⟨(by kernel_rfl : chkR _ _ _ _ = true), ?_⟩; conv => whnf) | (refine EvOr.go ?_; conv => whnf))
  intro c hc
  obtain rfl : c = true := by rw [hc]; exact decide_eq_true (by omega)
  conv => whnf
  repeat (first | (refine ⟨(by kernel_rfl : chkR _ _ _ _ = true), ?_⟩; conv => whnf) | (refine EvOr.go ?_; conv => whnf))
  intro c hc
  obtain rfl : c = true := by rw [hc]; exact decide_eq_true (by omega)
  conv => whnf
  repeat (first | (refine ⟨(by kernel_rfl : chkR _ _ _ _ = true), ?_⟩; conv => whnf) | (refine EvOr.go ?_; conv => whnf))
  exact retQ.one rfl (.inr rfl) rfl (Nat.le_of_ble_eq_true rfl) rfl
theorem rhas_out (n : Nat) (L : List (List Nat)) (K : List Nat) (c : Int) (hc : ¬ (0 ≤ c ∧ c < n)) : FunT Try.prog 114 [rpV, iv c] (rf3 n L K) (bv false) (rf3 n L K) := by
  by_cases h : c < 0
  · refine FunT.ev tabOk mixed Try.func114 rfl ?_
    conv => whnf
    repeat (first | (refine ⟨(by kernel_rfl : chkR _ _ _ _ = true), ?_⟩; conv => whnf) | (refine EvOr.go ?_; conv => whnf))
    intro c hc
    obtain rfl : c = false := by rw [hc]; exact decide_eq_false (by omega)
    conv => whnf
    repeat (first | (refine ⟨(by kernel_rfl : chkR _ _ _ _ = true), ?_⟩; conv => whnf) | (refine EvOr.go ?_; conv => whnf))
    exact retQ.one rfl (.inr rfl) rfl (Nat.le_of_ble_eq_true rfl) rfl
  · refine FunT.ev tabOk mixed Try.func114 rfl ?_
    conv => whnf
    repeat (first | (refine ⟨(by kernel_rfl : chkR _ _ _ _ = true), ?_⟩; conv => whnf) | (refine EvOr.go ?_; conv => whnf))
    intro c hc
    obtain rfl : c = true := by rw [hc]; exact decide_eq_true (by omega)
    conv => whnf
    repeat (first | (refine ⟨(by kernel_rfl : chkR _ _ _ _ = true), ?_⟩; conv => whnf) | (refine EvOr.go ?_; conv => whnf))
    intro c hc
    obtain rfl : c = false := by rw [hc]; exact decide_eq_false (by omega)
    conv => whnf
    repeat (first | (refine ⟨(by kernel_rfl : chkR _ _ _ _ = true), ?_⟩; conv => whnf) | (refine EvOr.go ?_; conv => whnf))
    exact retQ.one rfl (.inr rfl) rfl (Nat.le_of_ble_eq_true rfl) rfl
theorem rput_out (n : Nat) (L : List (List Nat)) (K : List Nat) (c : Int) (s : List Nat) (hc : ¬ (0 ≤ c ∧ c < n)) : FunT Try.prog 62 [rpV, iv c, secV s] (rf3 n L K) (iv 2) (rf3 n L K) := by
  have i1 := rhas_out n L K c hc
  refine FunT.ev tabOk mixed Try.func62 rfl ?_
  conv => whnf
  repeat (first | (refine ⟨(by kernel_rfl : chkR _ _ _ _ = true), ?_⟩; conv => whnf) | (refine EvOr.go ?_; conv => whnf))
  refine CallG.use i1 c114 [0, 1, 2] [] ?_ ?_ ?_ ?_ ?_ ?_; rfl; rfl; kernel_rfl; rfl; rfl
  conv => whnf
  repeat (first | (refine ⟨(by kernel_rfl : chkR _ _ _ _ = true), ?_⟩; conv => whnf) | (refine EvOr.go ?_; conv => whnf))
  exact retQ.one rfl (.inr rfl) rfl (Nat.le_of_ble_eq_true rfl) rfl
theorem rput_in (n : Nat) (L : List (List Nat)) (K : List Nat) (k v : Nat) (s : List Nat) (hk : k < n) (hL : L.length = n) (hK : K.length = n) (hv : v ≠ 0) :
    FunT Try.prog 62 [rpV, iv (k : Nat), secV s] (rf3 n L K) (iv 0) (rf3 n (L.set k s) (K.set k v)) := by
  have i1 := rhas_in n L K k hk
  have g1 := row_at (S := L) (k := k) (by omega)
  have g2 := gon_get (K := K) (k := k) (by omega)
  have e1 : (L.set k s).map secS = (L.map secS).set (0 + (k : Int).toNat) (secS s) := row_setS
  have e2 : ((K.set k v).map goB).map booS = ((K.map goB).map booS).set (0 + (k : Int).toNat) [.one (.raw (.bool false))] := by
    rw [gon_set, show goB v = false from decide_eq_false hv]; rfl
  show FunT _ _ _ _ _ [_, some (.row _ 34 64 ((L.set k s).map secS) []), some (.row _ 4 1 (((K.set k v).map goB).map booS) [])]
  rw [e1, e2]
  generalize goB (K.getD k 0) = b at *
  refine FunT.ev tabOk mixed Try.func62 rfl ?_
  conv => whnf
  repeat (first | (refine ⟨(by kernel_rfl : chkR _ _ _ _ = true), ?_⟩; conv => whnf) | (refine EvOr.go ?_; conv => whnf))
  refine CallG.use i1 c114 [0, 1, 2] [] ?_ ?_ ?_ ?_ ?_ ?_; rfl; rfl; kernel_rfl; rfl; rfl
  conv => whnf
  repeat (first | (refine ⟨(by kernel_rfl : chkR _ _ _ _ = true), ?_⟩; conv => whnf) | (refine EvOr.go ?_; conv => whnf))
  refine ⟨⟨by omega, by omega⟩, ?_⟩
  conv => whnf
  repeat (first | (refine ⟨(by kernel_rfl : chkR _ _ _ _ = true), ?_⟩; conv => whnf) | (refine EvOr.go ?_; conv => whnf))
  refine ⟨_, g1, ?_⟩
  conv => whnf
  repeat (first | (refine ⟨(by kernel_rfl : chkR _ _ _ _ = true), ?_⟩; conv => whnf) | (refine EvOr.go ?_; conv => whnf))
  refine ⟨⟨by omega, by omega⟩, ?_⟩
  conv => whnf
  repeat (first | (refine ⟨(by kernel_rfl : chkR _ _ _ _ = true), ?_⟩; conv => whnf) | (refine EvOr.go ?_; conv => whnf))
  refine ⟨_, g2, ?_⟩
  conv => whnf
  repeat (first | (refine ⟨(by kernel_rfl : chkR _ _ _ _ = true), ?_⟩; conv => whnf) | (refine EvOr.go ?_; conv => whnf))
  exact retQ.one rfl (.inr rfl) rfl (Nat.le_of_ble_eq_true rfl) rfl
theorem rlose_out (n : Nat) (L : List (List Nat)) (K : List Nat) (c : Int) (hc : ¬ (0 ≤ c ∧ c < n)) : FunT Try.prog 63 [rpV, iv c] (rf3 n L K) (iv 2) (rf3 n L K) := by
  have i1 := rhas_out n L K c hc
  refine FunT.ev tabOk mixed Try.func63 rfl ?_
  conv => whnf
  repeat (first | (refine ⟨(by kernel_rfl : chkR _ _ _ _ = true), ?_⟩; conv => whnf) | (refine EvOr.go ?_; conv => whnf))
  refine CallG.use i1 c114 [0, 1, 2] [] ?_ ?_ ?_ ?_ ?_ ?_; rfl; rfl; kernel_rfl; rfl; rfl
  conv => whnf
  repeat (first | (refine ⟨(by kernel_rfl : chkR _ _ _ _ = true), ?_⟩; conv => whnf) | (refine EvOr.go ?_; conv => whnf))
  exact retQ.one rfl (.inr rfl) rfl (Nat.le_of_ble_eq_true rfl) rfl
theorem rlose_in (n : Nat) (L : List (List Nat)) (K : List Nat) (k : Nat) (hk : k < n) (hK : K.length = n) :
    FunT Try.prog 63 [rpV, iv (k : Nat)] (rf3 n L K) (iv 0) (rf3 n L (K.set k 0)) := by
  have i1 := rhas_in n L K k hk
  have g2 := gon_get (K := K) (k := k) (by omega)
  have e2 : ((K.set k 0).map goB).map booS = ((K.map goB).map booS).set (0 + (k : Int).toNat) [.one (.raw (.bool true))] := by
    rw [gon_set]; rfl
  show FunT _ _ _ _ _ [_, _, some (.row _ 4 1 (((K.set k 0).map goB).map booS) [])]
  rw [e2]
  generalize goB (K.getD k 0) = b at *
  refine FunT.ev tabOk mixed Try.func63 rfl ?_
  conv => whnf
  repeat (first | (refine ⟨(by kernel_rfl : chkR _ _ _ _ = true), ?_⟩; conv => whnf) | (refine EvOr.go ?_; conv => whnf))
  refine CallG.use i1 c114 [0, 1, 2] [] ?_ ?_ ?_ ?_ ?_ ?_; rfl; rfl; kernel_rfl; rfl; rfl
  conv => whnf
  repeat (first | (refine ⟨(by kernel_rfl : chkR _ _ _ _ = true), ?_⟩; conv => whnf) | (refine EvOr.go ?_; conv => whnf))
  refine ⟨⟨by omega, by omega⟩, ?_⟩
  conv => whnf
  repeat (first | (refine ⟨(by kernel_rfl : chkR _ _ _ _ = true), ?_⟩; conv => whnf) | (refine EvOr.go ?_; conv => whnf))
  refine ⟨_, g2, ?_⟩
  conv => whnf
  repeat (first | (refine ⟨(by kernel_rfl : chkR _ _ _ _ = true), ?_⟩; conv => whnf) | (refine EvOr.go ?_; conv => whnf))
  exact retQ.one rfl (.inr rfl) rfl (Nat.le_of_ble_eq_true rfl) rfl
theorem rget_out (n : Nat) (L : List (List Nat)) (K : List Nat) (c : Int) (hc : ¬ (0 ≤ c ∧ c < n)) : FunT Try.prog 67 [rpV, iv c] (rf3 n L K) (.tup [secV (zs 64), iv 2]) (rf3 n L K) := by
  have i1 := rhas_out n L K c hc
  refine FunT.ev tabOk mixed Try.func67 rfl ?_
  conv => whnf
  repeat (first | (refine ⟨(by kernel_rfl : chkR _ _ _ _ = true), ?_⟩; conv => whnf) | (refine EvOr.go ?_; conv => whnf))
  refine CallG.use i1 c114 [0, 1, 2] [] ?_ ?_ ?_ ?_ ?_ ?_; rfl; rfl; kernel_rfl; rfl; rfl
  conv => whnf
  repeat (first | (refine ⟨(by kernel_rfl : chkR _ _ _ _ = true), ?_⟩; conv => whnf) | (refine EvOr.go ?_; conv => whnf))
  exact retQ.all tabOk _ [secV (zs 64), iv 2] rfl (by first | exact .inr rfl | exact .inl rfl) (by repeat' (first | exact trivial | rfl | (intro h; cases h; done) | (refine ⟨?_, ?_⟩))) rfl (by rfl) (Nat.le_of_ble_eq_true rfl) (by rfl)
theorem rget_in (n : Nat) (L : List (List Nat)) (K : List Nat) (k : Nat) (hk : k < n) (hL : L.length = n) (hK : K.length = n) :
    FunT Try.prog 67 [rpV, iv (k : Nat)] (rf3 n L K) (.tup [secV (getS L K k), iv (getE K k)]) (rf3 n L K) := by
  have i1 := rhas_in n L K k hk
  have g1 := row_at (S := L) (k := k) (by omega)
  have g2 := gon_get (K := K) (k := k) (by omega)
  unfold getS getE
  by_cases hv : K.getD k 0 = 0
  · rw [if_pos hv, if_pos hv]
    rw [hv, show booS (goB 0) = [.one (.raw (.bool true))] from rfl] at g2
    refine FunT.ev tabOk mixed Try.func67 rfl ?_
    conv => whnf
    repeat (first | (refine ⟨(by kernel_rfl : chkR _ _ _ _ = true), ?_⟩; conv => whnf) | (refine EvOr.go ?_; conv => whnf))
    refine CallG.use i1 c114 [0, 1, 2] [] ?_ ?_ ?_ ?_ ?_ ?_; rfl; rfl; kernel_rfl; rfl; rfl
    conv => whnf
    repeat (first | (refine ⟨(by kernel_rfl : chkR _ _ _ _ = true), ?_⟩; conv => whnf) | (refine EvOr.go ?_; conv => whnf))
    refine ⟨⟨by omega, by omega⟩, ?_⟩
    conv => whnf
    repeat (first | (refine ⟨(by kernel_rfl : chkR _ _ _ _ = true), ?_⟩; conv => whnf) | (refine EvOr.go ?_; conv => whnf))
    refine ⟨_, g2, ?_⟩
    conv => whnf
    repeat (first | (refine ⟨(by kernel_rfl : chkR _ _ _ _ = true), ?_⟩; conv => whnf) | (refine EvOr.go ?_; conv => whnf))
    exact retQ.all tabOk _ [secV (zs 64), iv 5] rfl (by first | exact .inr rfl | exact .inl rfl) (by repeat' (first | exact trivial | rfl | (intro h; cases h; done) | (refine ⟨?_, ?_⟩))) rfl (by rfl) (Nat.le_of_ble_eq_true rfl) (by rfl)
  · rw [if_neg hv, if_neg hv]
    rw [show booS (goB (K.getD k 0)) = [.one (.raw (.bool false))] by rw [show goB (K.getD k 0) = false from decide_eq_false hv]; rfl] at g2
    generalize L.getD k [] = S at *
    refine FunT.ev tabOk mixed Try.func67 rfl ?_
    conv => whnf
    repeat (first | (refine ⟨(by kernel_rfl : chkR _ _ _ _ = true), ?_⟩; conv => whnf) | (refine EvOr.go ?_; conv => whnf))
    refine CallG.use i1 c114 [0, 1, 2] [] ?_ ?_ ?_ ?_ ?_ ?_; rfl; rfl; kernel_rfl; rfl; rfl
    conv => whnf
    repeat (first | (refine ⟨(by kernel_rfl : chkR _ _ _ _ = true), ?_⟩; conv => whnf) | (refine EvOr.go ?_; conv => whnf))
    refine ⟨⟨by omega, by omega⟩, ?_⟩
    conv => whnf
    repeat (first | (refine ⟨(by kernel_rfl : chkR _ _ _ _ = true), ?_⟩; conv => whnf) | (refine EvOr.go ?_; conv => whnf))
    refine ⟨_, g2, ?_⟩
    conv => whnf
    repeat (first | (refine ⟨(by kernel_rfl : chkR _ _ _ _ = true), ?_⟩; conv => whnf) | (refine EvOr.go ?_; conv => whnf))
    refine ⟨⟨by omega, by omega⟩, ?_⟩
    conv => whnf
    repeat (first | (refine ⟨(by kernel_rfl : chkR _ _ _ _ = true), ?_⟩; conv => whnf) | (refine EvOr.go ?_; conv => whnf))
    refine ⟨_, g1, ?_⟩
    conv => whnf
    repeat (first | (refine ⟨(by kernel_rfl : chkR _ _ _ _ = true), ?_⟩; conv => whnf) | (refine EvOr.go ?_; conv => whnf))
    exact retQ.all tabOk _ [secV S, iv 0] rfl (by first | exact .inr rfl | exact .inl rfl) (by repeat' (first | exact trivial | rfl | (intro h; cases h; done) | (refine ⟨?_, ?_⟩))) rfl (by rfl) (Nat.le_of_ble_eq_true rfl) (by rfl)
theorem rnew_bad (c : Int) (hc : ¬ (4 ≤ c ∧ c ≤ 64)) : FunT Try.prog 61 [iv c] [] (.tup [nilP, iv 2]) [] := by
  by_cases h1 : c < 4
  · refine FunT.ev tabOk mixed Try.func61 rfl ?_
    conv => whnf
    repeat (first | (refine ⟨(by kernel_rfl : chkR _ _ _ _ = true), ?_⟩; conv => whnf) | (refine EvOr.go ?_; conv => whnf))
    intro c hc
    obtain rfl : c = true := by rw [hc]; exact decide_eq_true (by omega)
    conv => whnf
    repeat (first | (refine ⟨(by kernel_rfl : chkR _ _ _ _ = true), ?_⟩; conv => whnf) | (refine EvOr.go ?_; conv => whnf))
    exact retQ.all tabOk _ [nilP, iv 2] rfl (by first | exact .inr rfl | exact .inl rfl) (by repeat' (first | exact trivial | rfl | (intro h; cases h; done) | (refine ⟨?_, ?_⟩))) rfl (by rfl) (Nat.le_of_ble_eq_true rfl) (by rfl)
  · refine FunT.ev tabOk mixed Try.func61 rfl ?_
    conv => whnf
    repeat (first | (refine ⟨(by kernel_rfl : chkR _ _ _ _ = true), ?_⟩; conv => whnf) | (refine EvOr.go ?_; conv => whnf))
    intro c hc
    obtain rfl : c = false := by rw [hc]; exact decide_eq_false (by omega)
    conv => whnf
    repeat (first | (refine ⟨(by kernel_rfl : chkR _ _ _ _ = true), ?_⟩; conv => whnf) | (refine EvOr.go ?_; conv => whnf))
    intro c hc
    obtain rfl : c = true := by rw [hc]; exact decide_eq_true (by omega)
    conv => whnf
    repeat (first | (refine ⟨(by kernel_rfl : chkR _ _ _ _ = true), ?_⟩; conv => whnf) | (refine EvOr.go ?_; conv => whnf))
    exact retQ.all tabOk _ [nilP, iv 2] rfl (by first | exact .inr rfl | exact .inl rfl) (by repeat' (first | exact trivial | rfl | (intro h; cases h; done) | (refine ⟨?_, ?_⟩))) rfl (by rfl) (Nat.le_of_ble_eq_true rfl) (by rfl)
/-- Two lists of numbers that are the same. -/
theorem ints_nil : FunT Try.prog 65 [.sc nilS, .sc nilS] [] (bv true) [] := by
  refine FunT.ev tabOk mixed Try.func65 rfl ?_
  conv => whnf
  repeat (first | (refine ⟨(by kernel_rfl : chkR _ _ _ _ = true), ?_⟩; conv => whnf) | (refine EvOr.go ?_; conv => whnf))
  intro c hc
  obtain rfl : c = false := by rw [hc]; rfl
  conv => whnf
  repeat (first | (refine ⟨(by kernel_rfl : chkR _ _ _ _ = true), ?_⟩; conv => whnf) | (refine EvOr.go ?_; conv => whnf))
  refine CodeS.loop0 tabOk mixed (Nat.le_of_ble_eq_true rfl) ?_
  conv => whnf
  repeat (first | (refine ⟨(by kernel_rfl : chkR _ _ _ _ = true), ?_⟩; conv => whnf) | (refine EvOr.go ?_; conv => whnf))
  intro c hc
  obtain rfl : c = false := by rw [hc]; rfl
  conv => whnf
  repeat (first | (refine ⟨(by kernel_rfl : chkR _ _ _ _ = true), ?_⟩; conv => whnf) | (refine EvOr.go ?_; conv => whnf))
  exact retQ.one rfl (.inr rfl) rfl (Nat.le_of_ble_eq_true rfl) rfl
def intI (O : List Int) (k : Nat) : LTm × LHp := ([.sc (.sl 0 0 1 O.length none), .sc (.sl 1 0 1 O.length none), .junk, .junk, .junk, iv (k : Nat), .junk, .junk, .junk, .junk, .junk, .junk, .junk, .junk, .junk, .junk, .junk, .junk, .junk, .junk, .junk, .junk, .junk, .junk, .junk, .junk], [rowRI O, rowRI O])
theorem ints_ok (O : List Int) (hb : O.length < 2 ^ 32) : FunT Try.prog 65 [.sc (.sl 0 0 1 O.length none), .sc (.sl 1 0 1 O.length none)] [rowRI O, rowRI O] (bv true) [rowRI O, rowRI O] := by
  obtain ⟨I, hI⟩ : ∃ I, I = intI O := ⟨_, rfl⟩
  refine FunT.ev tabOk mixed Try.func65 rfl ?_
  conv => whnf
  repeat (first | (refine ⟨(by kernel_rfl : chkR _ _ _ _ = true), ?_⟩; conv => whnf) | (refine EvOr.go ?_; conv => whnf))
  intro c hc
  obtain rfl : c = false := by rw [hc]; simp
  conv => whnf
  repeat (first | (refine ⟨(by kernel_rfl : chkR _ _ _ _ = true), ?_⟩; conv => whnf) | (refine EvOr.go ?_; conv => whnf))
  refine CodeT.loopN tabOk mixed I O.length _ (StW.ofP [0, 1] ?_ ?_ ?_) (fun k => by subst hI; rfl) ?_
  · subst hI; kernel_rfl
  · subst hI; rfl
  · subst hI; rfl
  intro k hkl
  subst hI
  by_cases hk : k < O.length
  · have g := int_get (l := O) (J := []) hk
    rw [List.append_nil] at g
    generalize O[k] = z at *
    conv => whnf
    repeat (first | (refine ⟨(by kernel_rfl : chkR _ _ _ _ = true), ?_⟩; conv => whnf) | (refine EvOr.go ?_; conv => whnf))
    intro c hc
    obtain rfl : c = true := by rw [hc]; exact decide_eq_true (by omega)
    conv => whnf
    repeat (first | (refine ⟨(by kernel_rfl : chkR _ _ _ _ = true), ?_⟩; conv => whnf) | (refine EvOr.go ?_; conv => whnf))
    refine ⟨⟨by omega, by omega⟩, ?_⟩
    conv => whnf
    repeat (first | (refine ⟨(by kernel_rfl : chkR _ _ _ _ = true), ?_⟩; conv => whnf) | (refine EvOr.go ?_; conv => whnf))
    refine ⟨_, g, ?_⟩
    conv => whnf
    repeat (first | (refine ⟨(by kernel_rfl : chkR _ _ _ _ = true), ?_⟩; conv => whnf) | (refine EvOr.go ?_; conv => whnf))
    refine ⟨⟨by omega, by omega⟩, ?_⟩
    conv => whnf
    repeat (first | (refine ⟨(by kernel_rfl : chkR _ _ _ _ = true), ?_⟩; conv => whnf) | (refine EvOr.go ?_; conv => whnf))
    refine ⟨_, g, ?_⟩
    conv => whnf
    repeat (first | (refine ⟨(by kernel_rfl : chkR _ _ _ _ = true), ?_⟩; conv => whnf) | (refine EvOr.go ?_; conv => whnf))
    intro c hc
    obtain rfl : c = false := by rw [hc]; simp
    conv => whnf
    repeat (first | (refine ⟨(by kernel_rfl : chkR _ _ _ _ = true), ?_⟩; conv => whnf) | (refine EvOr.go ?_; conv => whnf))
    refine ⟨_, inc_nat (by omega), ?_⟩
    conv => whnf
    repeat (first | (refine ⟨(by kernel_rfl : chkR _ _ _ _ = true), ?_⟩; conv => whnf) | (refine EvOr.go ?_; conv => whnf))
    refine ⟨by first | exact hk | omega, _, StW.ofP [0, 1] ?_ ?_ ?_⟩
    · kernel_rfl
    · rfl
    · rfl
  · obtain rfl : k = O.length := by omega
    conv => whnf
    repeat (first | (refine ⟨(by kernel_rfl : chkR _ _ _ _ = true), ?_⟩; conv => whnf) | (refine EvOr.go ?_; conv => whnf))
    intro c hc
    obtain rfl : c = false := by rw [hc]; exact decide_eq_false (by omega)
    conv => whnf
    repeat (first | (refine ⟨(by kernel_rfl : chkR _ _ _ _ = true), ?_⟩; conv => whnf) | (refine EvOr.go ?_; conv => whnf))
    exact retQ.one rfl (.inr rfl) rfl (Nat.le_of_ble_eq_true rfl) rfl
/-- What is lost, found by the document. -/
def rloI (n : Nat) (L : List (List Nat)) (K : List Nat) (k : Nat) : LTm × LHp :=
  ([rpV, .junk, .junk, .sc (nrS (lostL k K) 3), iv (k : Nat), .junk, .junk, .junk, .junk, .junk, .junk, .junk, .junk, .junk, .junk, .junk, .junk, .junk, .junk, .junk, .junk, .junk, .junk, .junk, .junk, .junk], [refP n, rowX L, gonB K, nrB (lostL k K)])
theorem rlost_ok (n : Nat) (L : List (List Nat)) (K : List Nat) (hn : n ≤ 64) (hK : K.length = n) : FunT Try.prog 68 [rpV] (rf3 n L K) (.sc (nrS (lostL n K) 3)) (rf3 n L K ++ [nrB (lostL n K)]) := by
  obtain ⟨I, hI⟩ : ∃ I, I = rloI n L K := ⟨_, rfl⟩
  refine FunT.ev tabOk mixed Try.func68 rfl ?_
  conv => whnf
  repeat (first | (refine ⟨(by kernel_rfl : chkR _ _ _ _ = true), ?_⟩; conv => whnf) | (refine EvOr.go ?_; conv => whnf))
  refine CodeT.loopN tabOk mixed I n _ (StW.ofP [0, 1, 2, 3] ?_ ?_ ?_) (fun k => by subst hI; rfl) ?_
  · subst hI; kernel_rfl
  · subst hI; rfl
  · subst hI; rfl
  intro k hkn
  subst hI
  have hlen : (lostL k K).length ≤ k := hold_len (gone K) k
  by_cases hk : k < n
  · have g2 := gon_get (K := K) (k := k) (by omega)
    by_cases hg : K.getD k 0 = 0
    · have hs : lostL (k + 1) K = lostL k K ++ [(k : Int)] := hold_t (decide_eq_true hg)
      rw [hg, show booS (goB 0) = [.one (.raw (.bool true))] from rfl] at g2
      by_cases h0 : lostL k K = []
      · rw [h0] at hs
        show evC Try.prog tab _ _ ([rpV, .junk, .junk, .sc (nrS (lostL k K) 3), iv (k : Nat), .junk, .junk, .junk, .junk, .junk, .junk, .junk, .junk, .junk, .junk, .junk, .junk, .junk, .junk, .junk, .junk, .junk, .junk, .junk, .junk, .junk]) [refP n, rowX L, gonB K, nrB (lostL k K)] _
        rw [h0]
        conv => whnf
        repeat (first | (refine ⟨(by kernel_rfl : chkR _ _ _ _ = true), ?_⟩; conv => whnf) | (refine EvOr.go ?_; conv => whnf))
        intro c hc
        obtain rfl : c = true := by rw [hc]; exact decide_eq_true (by omega)
        conv => whnf
        repeat (first | (refine ⟨(by kernel_rfl : chkR _ _ _ _ = true), ?_⟩; conv => whnf) | (refine EvOr.go ?_; conv => whnf))
        refine ⟨⟨by omega, by omega⟩, ?_⟩
        conv => whnf
        repeat (first | (refine ⟨(by kernel_rfl : chkR _ _ _ _ = true), ?_⟩; conv => whnf) | (refine EvOr.go ?_; conv => whnf))
        refine ⟨_, g2, ?_⟩
        conv => whnf
        repeat (first | (refine ⟨(by kernel_rfl : chkR _ _ _ _ = true), ?_⟩; conv => whnf) | (refine EvOr.go ?_; conv => whnf))
        refine ⟨by simp, ?_⟩
        conv => whnf
        repeat (first | (refine ⟨(by kernel_rfl : chkR _ _ _ _ = true), ?_⟩; conv => whnf) | (refine EvOr.go ?_; conv => whnf))
        refine ⟨fun h => absurd h (by decide), fun _ => ⟨by decide, ?_⟩⟩
        conv => whnf
        repeat (first | (refine ⟨(by kernel_rfl : chkR _ _ _ _ = true), ?_⟩; conv => whnf) | (refine EvOr.go ?_; conv => whnf))
        refine ⟨_, inc_nat (by omega), ?_⟩
        conv => whnf
        repeat (first | (refine ⟨(by kernel_rfl : chkR _ _ _ _ = true), ?_⟩; conv => whnf) | (refine EvOr.go ?_; conv => whnf))
        refine ⟨by omega, _, StW.ofP [0, 1, 2, 5] ?_ ?_ ?_⟩
        · show stP _ _ (rloI n L K (k + 1)).2 = true
          simp only [rloI, hs]; kernel_rfl
        · show maskT _ (rloI n L K (k + 1)).1 = renT _ (rloI n L K (k + 1)).1
          simp only [rloI, hs]; rfl
        · show pickH _ _ 0 (rloI n L K (k + 1)).2 = renH _ (rloI n L K (k + 1)).2
          simp only [rloI, hs]; rfl
      · have hpos := List.length_pos_iff.2 h0
        obtain ⟨q1, q2⟩ := nr_row 3 hpos
        obtain ⟨q3, q4⟩ := nr_row 3 (T := lostL k K ++ [(k : Int)]) (by simp)
        rw [List.length_append, show [(k : Int)].length = 1 from rfl] at q3
        have em : (lostL k K ++ [(k : Int)]).map intS = List.take (lostL k K).length (List.drop 0 ((lostL k K).map intS)) ++ [[.one (.raw (.int .i64 (k : Nat)))]] := by
          have e9 : List.take (lostL k K).length ((lostL k K).map intS) = (lostL k K).map intS := List.take_of_length_le (by rw [List.length_map]; exact Nat.le_refl _)
          rw [List.map_append, List.drop_zero, e9]; rfl
        show evC Try.prog tab _ _ ([rpV, .junk, .junk, .sc (nrS (lostL k K) 3), iv (k : Nat), .junk, .junk, .junk, .junk, .junk, .junk, .junk, .junk, .junk, .junk, .junk, .junk, .junk, .junk, .junk, .junk, .junk, .junk, .junk, .junk, .junk]) [refP n, rowX L, gonB K, nrB (lostL k K)] _
        rw [q1, q2]
        generalize lostL k K = O at *
        conv => whnf
        repeat (first | (refine ⟨(by kernel_rfl : chkR _ _ _ _ = true), ?_⟩; conv => whnf) | (refine EvOr.go ?_; conv => whnf))
        intro c hc
        obtain rfl : c = true := by rw [hc]; exact decide_eq_true (by omega)
        conv => whnf
        repeat (first | (refine ⟨(by kernel_rfl : chkR _ _ _ _ = true), ?_⟩; conv => whnf) | (refine EvOr.go ?_; conv => whnf))
        refine ⟨⟨by omega, by omega⟩, ?_⟩
        conv => whnf
        repeat (first | (refine ⟨(by kernel_rfl : chkR _ _ _ _ = true), ?_⟩; conv => whnf) | (refine EvOr.go ?_; conv => whnf))
        refine ⟨_, g2, ?_⟩
        conv => whnf
        repeat (first | (refine ⟨(by kernel_rfl : chkR _ _ _ _ = true), ?_⟩; conv => whnf) | (refine EvOr.go ?_; conv => whnf))
        refine ⟨by simp, ?_⟩
        conv => whnf
        repeat (first | (refine ⟨(by kernel_rfl : chkR _ _ _ _ = true), ?_⟩; conv => whnf) | (refine EvOr.go ?_; conv => whnf))
        refine ⟨by rw [List.length_map]; omega, fun h => absurd h (by decide), fun _ => ⟨by show (2 * (O.length + 1) + 192) * 8 ≤ 2 ^ 48; omega, ?_⟩⟩
        conv => whnf
        repeat (first | (refine ⟨(by kernel_rfl : chkR _ _ _ _ = true), ?_⟩; conv => whnf) | (refine EvOr.go ?_; conv => whnf))
        refine ⟨_, inc_nat (by omega), ?_⟩
        conv => whnf
        repeat (first | (refine ⟨(by kernel_rfl : chkR _ _ _ _ = true), ?_⟩; conv => whnf) | (refine EvOr.go ?_; conv => whnf))
        refine ⟨by omega, _, StW.ofP [0, 1, 2, 5] ?_ ?_ ?_⟩
        · show stP _ _ (rloI n L K (k + 1)).2 = true
          simp only [rloI, hs, q4]; kernel_rfl
        · show maskT _ (rloI n L K (k + 1)).1 = renT _ (rloI n L K (k + 1)).1
          simp only [rloI, hs, q3]; rfl
        · show pickH _ _ 0 (rloI n L K (k + 1)).2 = renH _ (rloI n L K (k + 1)).2
          simp only [rloI, hs, q4, rowI, em]; rfl
    · have hs : lostL (k + 1) K = lostL k K := hold_f (decide_eq_false hg)
      rw [show booS (goB (K.getD k 0)) = [.one (.raw (.bool false))] by rw [show goB (K.getD k 0) = false from decide_eq_false hg]; rfl] at g2
      show evC Try.prog tab _ _ ([rpV, .junk, .junk, .sc (nrS (lostL k K) 3), iv (k : Nat), .junk, .junk, .junk, .junk, .junk, .junk, .junk, .junk, .junk, .junk, .junk, .junk, .junk, .junk, .junk, .junk, .junk, .junk, .junk, .junk, .junk]) [refP n, rowX L, gonB K, nrB (lostL k K)] _
      have key : ∀ O : List Int, lostL k K = O → O = [] ∨ O ≠ [] := fun O _ => Classical.em _
      by_cases h0 : lostL k K = []
      · rw [h0] at hs ⊢
        conv => whnf
        repeat (first | (refine ⟨(by kernel_rfl : chkR _ _ _ _ = true), ?_⟩; conv => whnf) | (refine EvOr.go ?_; conv => whnf))
        intro c hc
        obtain rfl : c = true := by rw [hc]; exact decide_eq_true (by omega)
        conv => whnf
        repeat (first | (refine ⟨(by kernel_rfl : chkR _ _ _ _ = true), ?_⟩; conv => whnf) | (refine EvOr.go ?_; conv => whnf))
        refine ⟨⟨by omega, by omega⟩, ?_⟩
        conv => whnf
        repeat (first | (refine ⟨(by kernel_rfl : chkR _ _ _ _ = true), ?_⟩; conv => whnf) | (refine EvOr.go ?_; conv => whnf))
        refine ⟨_, g2, ?_⟩
        conv => whnf
        repeat (first | (refine ⟨(by kernel_rfl : chkR _ _ _ _ = true), ?_⟩; conv => whnf) | (refine EvOr.go ?_; conv => whnf))
        refine ⟨_, inc_nat (by omega), ?_⟩
        conv => whnf
        repeat (first | (refine ⟨(by kernel_rfl : chkR _ _ _ _ = true), ?_⟩; conv => whnf) | (refine EvOr.go ?_; conv => whnf))
        refine ⟨by omega, _, StW.ofP [0, 1, 2, 3] ?_ ?_ ?_⟩
        · show stP _ _ (rloI n L K (k + 1)).2 = true
          simp only [rloI, hs]; kernel_rfl
        · show maskT _ (rloI n L K (k + 1)).1 = renT _ (rloI n L K (k + 1)).1
          simp only [rloI, hs]; rfl
        · show pickH _ _ 0 (rloI n L K (k + 1)).2 = renH _ (rloI n L K (k + 1)).2
          simp only [rloI, hs]; rfl
      · obtain ⟨q1, q2⟩ := nr_row 3 (List.length_pos_iff.2 h0)
        rw [q1, q2]
        conv => whnf
        repeat (first | (refine ⟨(by kernel_rfl : chkR _ _ _ _ = true), ?_⟩; conv => whnf) | (refine EvOr.go ?_; conv => whnf))
        intro c hc
        obtain rfl : c = true := by rw [hc]; exact decide_eq_true (by omega)
        conv => whnf
        repeat (first | (refine ⟨(by kernel_rfl : chkR _ _ _ _ = true), ?_⟩; conv => whnf) | (refine EvOr.go ?_; conv => whnf))
        refine ⟨⟨by omega, by omega⟩, ?_⟩
        conv => whnf
        repeat (first | (refine ⟨(by kernel_rfl : chkR _ _ _ _ = true), ?_⟩; conv => whnf) | (refine EvOr.go ?_; conv => whnf))
        refine ⟨_, g2, ?_⟩
        conv => whnf
        repeat (first | (refine ⟨(by kernel_rfl : chkR _ _ _ _ = true), ?_⟩; conv => whnf) | (refine EvOr.go ?_; conv => whnf))
        refine ⟨_, inc_nat (by omega), ?_⟩
        conv => whnf
        repeat (first | (refine ⟨(by kernel_rfl : chkR _ _ _ _ = true), ?_⟩; conv => whnf) | (refine EvOr.go ?_; conv => whnf))
        refine ⟨by omega, _, StW.ofP [0, 1, 2, 3] ?_ ?_ ?_⟩
        · show stP _ _ (rloI n L K (k + 1)).2 = true
          simp only [rloI, hs, q2]; kernel_rfl
        · show maskT _ (rloI n L K (k + 1)).1 = renT _ (rloI n L K (k + 1)).1
          simp only [rloI, hs, q1]; rfl
        · show pickH _ _ 0 (rloI n L K (k + 1)).2 = renH _ (rloI n L K (k + 1)).2
          simp only [rloI, hs, q2]; rfl
  · obtain rfl : k = n := by omega
    show evC Try.prog tab _ _ ([rpV, .junk, .junk, .sc (nrS (lostL k K) 3), iv (k : Nat), .junk, .junk, .junk, .junk, .junk, .junk, .junk, .junk, .junk, .junk, .junk, .junk, .junk, .junk, .junk, .junk, .junk, .junk, .junk, .junk, .junk]) [refP k, rowX L, gonB K, nrB (lostL k K)] _
    by_cases h0 : lostL k K = []
    · rw [h0]
      conv => whnf
      repeat (first | (refine ⟨(by kernel_rfl : chkR _ _ _ _ = true), ?_⟩; conv => whnf) | (refine EvOr.go ?_; conv => whnf))
      intro c hc
      obtain rfl : c = false := by rw [hc]; exact decide_eq_false (by omega)
      conv => whnf
      repeat (first | (refine ⟨(by kernel_rfl : chkR _ _ _ _ = true), ?_⟩; conv => whnf) | (refine EvOr.go ?_; conv => whnf))
      exact retQ.one rfl (.inr rfl) rfl (Nat.le_of_ble_eq_true rfl) rfl
    · obtain ⟨q1, q2⟩ := nr_row 3 (List.length_pos_iff.2 h0)
      rw [q1, q2]
      conv => whnf
      repeat (first | (refine ⟨(by kernel_rfl : chkR _ _ _ _ = true), ?_⟩; conv => whnf) | (refine EvOr.go ?_; conv => whnf))
      intro c hc
      obtain rfl : c = false := by rw [hc]; exact decide_eq_false (by omega)
      conv => whnf
      repeat (first | (refine ⟨(by kernel_rfl : chkR _ _ _ _ = true), ?_⟩; conv => whnf) | (refine EvOr.go ?_; conv => whnf))
      exact retQ.one rfl (.inr rfl) rfl (Nat.le_of_ble_eq_true rfl) rfl
end Go.Proofs.Ytdmcbfmpnakdfaa.Eng.St
/- The document's row: made, right, mended. -/
namespace Go.Proofs.Ytdmcbfmpnakdfaa.Eng.St
open Go Go.RowKit Go.Shelf Go.Proofs Go.Proofs.Ytdmcbfmpnakdfaa.Gf Go.Proofs.Ytdmcbfmpnakdfaa.Rf Go.Proofs.Ytdmcbfmpnakdfaa.Oa
set_option maxRecDepth 20000
set_option maxHeartbeats 8000000
abbrev zrS (k : Nat) : List (List Nat) := List.replicate k (zs 64)
abbrev zrK (k : Nat) : List Nat := List.replicate k 0
def rneI (n k : Nat) : LTm × LHp :=
  match k with
  | 0 => ([iv (n : Nat), .junk, .junk, .junk, rpV, iv ((0 : Nat) : Int), .junk, .junk, .junk, .junk, .junk, .junk, .junk, .junk, .junk, .junk, .junk, .junk, .junk, .junk, .junk, .junk, .junk, .junk, .junk, .junk, .junk, .junk, .junk, .junk, .junk, .junk, .junk, .junk, .junk, .junk, .junk, .junk, .junk], [some (.row .one 105 2 [[.one nilS, .one nilS]] []), none, none])
  | k + 1 => ([iv (n : Nat), .junk, .junk, .junk, rpV, iv ((k + 1 : Nat) : Int), .junk, .junk, .junk, .junk, .junk, .junk, .junk, .junk, .junk, .junk, .junk, .junk, .junk, .junk, .junk, .junk, .junk, .junk, .junk, .junk, .junk, .junk, .junk, .junk, .junk, .junk, .junk, .junk, .junk, .junk, .junk, .junk, .junk], [refP (k + 1), rowX (zrS (k + 1)), gonB (zrK (k + 1))])
theorem rnew_ok (n : Nat) (h4 : 4 ≤ n) (h64 : n ≤ 64) : FunT Try.prog 61 [iv (n : Nat)] [] (.tup [rpV, iv 0]) (rf3 n (zrS n) (zrK n)) := by
  obtain ⟨I, hI⟩ : ∃ I, I = rneI n := ⟨_, rfl⟩
  refine FunT.ev tabOk mixed Try.func61 rfl ?_
  conv => whnf
  repeat (first | (refine ⟨(by kernel_rfl : chkR _ _ _ _ = true), ?_⟩; conv => whnf) | (refine EvOr.go ?_; conv => whnf))
  intro c hc
  obtain rfl : c = false := by rw [hc]; exact decide_eq_false (by omega)
  conv => whnf
  repeat (first | (refine ⟨(by kernel_rfl : chkR _ _ _ _ = true), ?_⟩; conv => whnf) | (refine EvOr.go ?_; conv => whnf))
  intro c hc
  obtain rfl : c = false := by rw [hc]; exact decide_eq_false (by omega)
  conv => whnf
  repeat (first | (refine ⟨(by kernel_rfl : chkR _ _ _ _ = true), ?_⟩; conv => whnf) | (refine EvOr.go ?_; conv => whnf))
  refine CodeT.loopN tabOk mixed I n _ (StW.ofP [0, 1, 2] ?_ ?_ ?_) (fun k => by subst hI; cases k <;> rfl) ?_
  · subst hI; kernel_rfl
  · subst hI; rfl
  · subst hI; rfl
  intro k hkn
  subst hI
  by_cases hk : k < n
  · cases k with
    | zero =>
      show evC Try.prog tab _ _ ([iv (n : Nat), .junk, .junk, .junk, rpV, iv ((0 : Nat) : Int), .junk, .junk, .junk, .junk, .junk, .junk, .junk, .junk, .junk, .junk, .junk, .junk, .junk, .junk, .junk, .junk, .junk, .junk, .junk, .junk, .junk, .junk, .junk, .junk, .junk, .junk, .junk, .junk, .junk, .junk, .junk, .junk, .junk]) [some (.row .one 105 2 [[.one nilS, .one nilS]] []), none, none] _
      conv => whnf
      repeat (first | (refine ⟨(by kernel_rfl : chkR _ _ _ _ = true), ?_⟩; conv => whnf) | (refine EvOr.go ?_; conv => whnf))
      intro c hc
      obtain rfl : c = true := by rw [hc]; exact decide_eq_true (by omega)
      conv => whnf
      repeat (first | (refine ⟨(by kernel_rfl : chkR _ _ _ _ = true), ?_⟩; conv => whnf) | (refine EvOr.go ?_; conv => whnf))
      refine ⟨by simp, ?_⟩
      conv => whnf
      repeat (first | (refine ⟨(by kernel_rfl : chkR _ _ _ _ = true), ?_⟩; conv => whnf) | (refine EvOr.go ?_; conv => whnf))
      refine ⟨fun h => absurd h (by decide), fun _ => ⟨by decide, ?_⟩⟩
      conv => whnf
      repeat (first | (refine ⟨(by kernel_rfl : chkR _ _ _ _ = true), ?_⟩; conv => whnf) | (refine EvOr.go ?_; conv => whnf))
      refine ⟨by simp, ?_⟩
      conv => whnf
      repeat (first | (refine ⟨(by kernel_rfl : chkR _ _ _ _ = true), ?_⟩; conv => whnf) | (refine EvOr.go ?_; conv => whnf))
      refine ⟨fun h => absurd h (by decide), fun _ => ⟨by decide, ?_⟩⟩
      conv => whnf
      repeat (first | (refine ⟨(by kernel_rfl : chkR _ _ _ _ = true), ?_⟩; conv => whnf) | (refine EvOr.go ?_; conv => whnf))
      refine ⟨_, inc_nat (by omega), ?_⟩
      conv => whnf
      repeat (first | (refine ⟨(by kernel_rfl : chkR _ _ _ _ = true), ?_⟩; conv => whnf) | (refine EvOr.go ?_; conv => whnf))
      refine ⟨hk, _, StW.ofP [0, 4, 6] ?_ ?_ ?_⟩
      · kernel_rfl
      · rfl
      · rfl
    | succ k =>
      show evC Try.prog tab _ _ ([iv (n : Nat), .junk, .junk, .junk, rpV, iv ((k + 1 : Nat) : Int), .junk, .junk, .junk, .junk, .junk, .junk, .junk, .junk, .junk, .junk, .junk, .junk, .junk, .junk, .junk, .junk, .junk, .junk, .junk, .junk, .junk, .junk, .junk, .junk, .junk, .junk, .junk, .junk, .junk, .junk, .junk, .junk, .junk]) [refP (k + 1), rowX (zrS (k + 1)), gonB (zrK (k + 1))] _
      conv => whnf
      repeat (first | (refine ⟨(by kernel_rfl : chkR _ _ _ _ = true), ?_⟩; conv => whnf) | (refine EvOr.go ?_; conv => whnf))
      intro c hc
      obtain rfl : c = true := by rw [hc]; exact decide_eq_true (by omega)
      conv => whnf
      repeat (first | (refine ⟨(by kernel_rfl : chkR _ _ _ _ = true), ?_⟩; conv => whnf) | (refine EvOr.go ?_; conv => whnf))
      refine ⟨by simp, ?_⟩
      conv => whnf
      repeat (first | (refine ⟨(by kernel_rfl : chkR _ _ _ _ = true), ?_⟩; conv => whnf) | (refine EvOr.go ?_; conv => whnf))
      refine ⟨by simp, fun h => absurd h (by decide), fun _ => ⟨by show (2 * (k + 1 + 1) + 192) * 64 ≤ 2 ^ 48; omega, ?_⟩⟩
      conv => whnf
      repeat (first | (refine ⟨(by kernel_rfl : chkR _ _ _ _ = true), ?_⟩; conv => whnf) | (refine EvOr.go ?_; conv => whnf))
      refine ⟨by simp, ?_⟩
      conv => whnf
      repeat (first | (refine ⟨(by kernel_rfl : chkR _ _ _ _ = true), ?_⟩; conv => whnf) | (refine EvOr.go ?_; conv => whnf))
      refine ⟨by simp, fun h => absurd h (by decide), fun _ => ⟨by show (2 * (k + 1 + 1) + 192) * 1 ≤ 2 ^ 48; omega, ?_⟩⟩
      conv => whnf
      repeat (first | (refine ⟨(by kernel_rfl : chkR _ _ _ _ = true), ?_⟩; conv => whnf) | (refine EvOr.go ?_; conv => whnf))
      refine ⟨_, inc_nat (by omega), ?_⟩
      conv => whnf
      repeat (first | (refine ⟨(by kernel_rfl : chkR _ _ _ _ = true), ?_⟩; conv => whnf) | (refine EvOr.go ?_; conv => whnf))
      have e1 : (zrS (k + 1 + 1)).map secS = List.take (k + 1) (List.drop 0 ((zrS (k + 1)).map secS)) ++ [[.byt 64 (zs 64)]] := by
        rw [List.drop_zero, List.take_of_length_le (by simp), zrS, List.replicate_succ', List.map_append]; rfl
      have e2 : ((zrK (k + 1 + 1)).map goB).map booS = List.take (k + 1) (List.drop 0 (((zrK (k + 1)).map goB).map booS)) ++ [[.one (.raw (.bool true))]] := by
        rw [List.drop_zero, List.take_of_length_le (by simp), zrK, List.replicate_succ', List.map_append, List.map_append]; rfl
      refine ⟨hk, _, StW.ofP [0, 4, 6] ?_ ?_ ?_⟩
      · kernel_rfl
      · rfl
      · show pickH _ _ 0 [refP (k + 1 + 1), some (.row .inx 34 64 ((zrS (k + 1 + 1)).map secS) []), some (.row .inx 4 1 (((zrK (k + 1 + 1)).map goB).map booS) [])] = renH _ [refP (k + 1 + 1), some (.row .inx 34 64 ((zrS (k + 1 + 1)).map secS) []), some (.row .inx 4 1 (((zrK (k + 1 + 1)).map goB).map booS) [])]
        rw [e1, e2]; rfl
  · obtain rfl : k = n := by omega
    obtain ⟨m, rfl⟩ : ∃ m, k = m + 1 := ⟨k - 1, by omega⟩
    show evC Try.prog tab _ _ ([iv ((m + 1 : Nat) : Int), .junk, .junk, .junk, rpV, iv ((m + 1 : Nat) : Int), .junk, .junk, .junk, .junk, .junk, .junk, .junk, .junk, .junk, .junk, .junk, .junk, .junk, .junk, .junk, .junk, .junk, .junk, .junk, .junk, .junk, .junk, .junk, .junk, .junk, .junk, .junk, .junk, .junk, .junk, .junk, .junk, .junk]) [refP (m + 1), rowX (zrS (m + 1)), gonB (zrK (m + 1))] _
    conv => whnf
    repeat (first | (refine ⟨(by kernel_rfl : chkR _ _ _ _ = true), ?_⟩; conv => whnf) | (refine EvOr.go ?_; conv => whnf))
    intro c hc
    obtain rfl : c = false := by rw [hc]; exact decide_eq_false (by omega)
    conv => whnf
    repeat (first | (refine ⟨(by kernel_rfl : chkR _ _ _ _ = true), ?_⟩; conv => whnf) | (refine EvOr.go ?_; conv => whnf))
    exact retQ.all tabOk _ [rpV, iv 0] rfl (by first | exact .inr rfl | exact .inl rfl) (by repeat' (first | exact trivial | rfl | (intro h; cases h; done) | (refine ⟨?_, ?_⟩))) rfl (by rfl) (Nat.le_of_ble_eq_true rfl) (by rfl)
def rriI (m : Nat) (L : List (List Nat)) (k : Nat) : LTm × LHp := ([.sc (.sl 0 0 64 (m + 2) none), .junk, .junk, iv (m : Nat), iv (k : Nat), .junk, .junk, .junk, .junk, .junk, .junk, .junk, .junk, .junk, .junk, .junk, .junk, .junk, .junk, .junk, .junk, .junk, .junk, .junk, .junk, .junk, .junk, .junk, .junk, .junk, .junk, .junk, .junk, .junk, .junk, .junk, .junk, .junk, .junk, .junk, .junk, .junk, .junk, .junk, .junk], [rowS L])
/-- A byte in which a row is not right. -/
def badB (L : List (List Nat)) (m k : Nat) : Bool := decide (¬ ((L.getD m []).getD k 0 = (psum L m).getD k 0 ∧ (L.getD (m + 1) []).getD k 0 = (qsum L m).getD k 0))
theorem rrp_ok (L : List (List Nat)) (m : Nat) (h1 : 1 ≤ m) (h62 : m ≤ 62) (hL : L.length = m + 2) (hS : Secs L) : FunT Try.prog 116 [.sc (.sl 0 0 64 (m + 2) none)] [rowS L] (bv (rightB L)) [rowS L] := by
  have e0 : arithI .sub .i64 ((m + 2 : Nat) : Int) 2 = some ((m : Nat) : Int) := subn (a := m + 2) (b := 2) (by omega) (by omega)
  have e1 : arithI .add .i64 (m : Nat) 1 = some ((m + 1 : Nat) : Int) := inc_nat (by omega)
  have gP := fun k (hk : k < 64) => refP_ok L m none k hS (by omega) (by omega) hk
  have gQ := fun k (hk : k < 64) => refQ_ok L m none k hS (by omega) (by omega) hk
  have s1 := sec_get (L := L) (k := m) (by omega)
  have s2 := sec_get (L := L) (k := m + 1) (by omega)
  have sm := hS.at (i := m) (by omega)
  have sn := hS.at (i := m + 1) (by omega)
  have hr := right_iff hL h1 h62
  have sp := psum_sec hS m (by omega)
  have sq := qsum_sec hS m (by omega)
  have hr2 : rightB L = true ↔ ∀ k, k < 64 → badB L m k = false := by
    rw [hr]
    constructor
    · rintro ⟨a, b⟩ k _
      unfold badB
      rw [a, b]; simp
    · intro h
      have h' := fun k hk => h k hk
      unfold badB at h'
      simp only [decide_eq_false_iff_not, Decidable.not_not] at h'
      exact ⟨(sec_ext sm sp fun q hq => (h' q hq).1).symm, (sec_ext sn sq fun q hq => (h' q hq).2).symm⟩
  obtain ⟨N, hN, hN1, hN2⟩ : ∃ N, N ≤ 64 ∧ (∀ k, k < N → badB L m k = false) ∧ (N < 64 → badB L m N = true) := by
    refine ⟨(List.range 64).findIdx (badB L m), by have := List.findIdx_le_length (xs := List.range 64) (p := badB L m); simpa using this, fun k hk => ?_, fun h => ?_⟩
    · have := List.not_of_lt_findIdx hk
      simpa using this
    · have := List.findIdx_getElem (xs := List.range 64) (p := badB L m) (w := by simpa using h)
      simpa using this
  have hres : rightB L = decide (N = 64) := by
    rw [Bool.eq_iff_iff, hr2, decide_eq_true_iff]
    constructor
    · intro h
      rcases Nat.lt_or_ge N 64 with h9 | h9
      · have := h N h9
        rw [hN2 h9] at this; cases this
      · omega
    · rintro rfl
      exact hN1
  rw [hres]
  obtain ⟨I, hI⟩ : ∃ I, I = rriI m L := ⟨_, rfl⟩
  refine FunT.ev tabOk mixed Try.func116 rfl ?_
  conv => whnf
  repeat (first | (refine ⟨(by kernel_rfl : chkR _ _ _ _ = true), ?_⟩; conv => whnf) | (refine EvOr.go ?_; conv => whnf))
  refine ⟨_, e0, ?_⟩
  conv => whnf
  repeat (first | (refine ⟨(by kernel_rfl : chkR _ _ _ _ = true), ?_⟩; conv => whnf) | (refine EvOr.go ?_; conv => whnf))
  intro c hc
  obtain rfl : c = false := by rw [hc]; exact decide_eq_false (by omega)
  conv => whnf
  repeat (first | (refine ⟨(by kernel_rfl : chkR _ _ _ _ = true), ?_⟩; conv => whnf) | (refine EvOr.go ?_; conv => whnf))
  intro c hc
  obtain rfl : c = false := by rw [hc]; exact decide_eq_false (by omega)
  conv => whnf
  repeat (first | (refine ⟨(by kernel_rfl : chkR _ _ _ _ = true), ?_⟩; conv => whnf) | (refine EvOr.go ?_; conv => whnf))
  refine CodeT.loopN tabOk mixed I N _ (StW.ofP [0] ?_ ?_ ?_) (fun k => by subst hI; rfl) ?_
  · subst hI; kernel_rfl
  · subst hI; rfl
  · subst hI; rfl
  intro k hkl
  subst hI
  unfold badB at hN1 hN2
  by_cases h64 : k < 64
  · have gP := gP k h64
    have gQ := gQ k h64
    by_cases hk : k < N
    · have hb := hN1 k hk
      rw [decide_eq_false_iff_not, Decidable.not_not] at hb
      obtain ⟨b1, b2⟩ := hb
      conv => whnf
      repeat (first | (refine ⟨(by kernel_rfl : chkR _ _ _ _ = true), ?_⟩; conv => whnf) | (refine EvOr.go ?_; conv => whnf))
      intro c hc
      obtain rfl : c = true := by rw [hc]; exact decide_eq_true (by omega)
      conv => whnf
      repeat (first | (refine ⟨(by kernel_rfl : chkR _ _ _ _ = true), ?_⟩; conv => whnf) | (refine EvOr.go ?_; conv => whnf))
      refine ⟨⟨by omega, by omega⟩, ?_⟩
      conv => whnf
      repeat (first | (refine ⟨(by kernel_rfl : chkR _ _ _ _ = true), ?_⟩; conv => whnf) | (refine EvOr.go ?_; conv => whnf))
      refine ⟨⟨by omega, by show (k : Int) < 64; omega⟩, ?_⟩
      conv => whnf
      repeat (first | (refine ⟨(by kernel_rfl : chkR _ _ _ _ = true), ?_⟩; conv => whnf) | (refine EvOr.go ?_; conv => whnf))
      refine ⟨_, s1, ?_⟩
      conv => whnf
      repeat (first | (refine ⟨(by kernel_rfl : chkR _ _ _ _ = true), ?_⟩; conv => whnf) | (refine EvOr.go ?_; conv => whnf))
      refine ⟨h64, ?_⟩
      conv => whnf
      repeat (first | (refine ⟨(by kernel_rfl : chkR _ _ _ _ = true), ?_⟩; conv => whnf) | (refine EvOr.go ?_; conv => whnf))
      refine ⟨⟨Int.le_refl _, by omega, by show (m : Int) ≤ ((m + 2 : Nat) : Int); omega, fun h => by first | (cases h; done) | exact ⟨_, _, _, _, _, rfl, by rw [List.length_map]; omega⟩⟩, fun _ => ?_, fun _ h => absurd h (by decide)⟩
      conv => whnf
      repeat (first | (refine ⟨(by kernel_rfl : chkR _ _ _ _ = true), ?_⟩; conv => whnf) | (refine EvOr.go ?_; conv => whnf))
      refine CallG.use gP c82 [0] [] ?_ ?_ ?_ ?_ ?_ ?_; rfl; rfl; kernel_rfl; rfl; rfl
      conv => whnf
      repeat (first | (refine ⟨(by kernel_rfl : chkR _ _ _ _ = true), ?_⟩; conv => whnf) | (refine EvOr.go ?_; conv => whnf))
      intro c hc
      obtain rfl : c = false := by rw [hc, Int.toNat_natCast, b1]; simp
      conv => whnf
      repeat (first | (refine ⟨(by kernel_rfl : chkR _ _ _ _ = true), ?_⟩; conv => whnf) | (refine EvOr.go ?_; conv => whnf))
      refine ⟨_, e1, ?_⟩
      conv => whnf
      repeat (first | (refine ⟨(by kernel_rfl : chkR _ _ _ _ = true), ?_⟩; conv => whnf) | (refine EvOr.go ?_; conv => whnf))
      refine ⟨⟨by omega, by omega⟩, ?_⟩
      conv => whnf
      repeat (first | (refine ⟨(by kernel_rfl : chkR _ _ _ _ = true), ?_⟩; conv => whnf) | (refine EvOr.go ?_; conv => whnf))
      refine ⟨⟨by omega, by show (k : Int) < 64; omega⟩, ?_⟩
      conv => whnf
      repeat (first | (refine ⟨(by kernel_rfl : chkR _ _ _ _ = true), ?_⟩; conv => whnf) | (refine EvOr.go ?_; conv => whnf))
      refine ⟨_, s2, ?_⟩
      conv => whnf
      repeat (first | (refine ⟨(by kernel_rfl : chkR _ _ _ _ = true), ?_⟩; conv => whnf) | (refine EvOr.go ?_; conv => whnf))
      refine ⟨h64, ?_⟩
      conv => whnf
      repeat (first | (refine ⟨(by kernel_rfl : chkR _ _ _ _ = true), ?_⟩; conv => whnf) | (refine EvOr.go ?_; conv => whnf))
      refine ⟨⟨Int.le_refl _, by omega, by show (m : Int) ≤ ((m + 2 : Nat) : Int); omega, fun h => by first | (cases h; done) | exact ⟨_, _, _, _, _, rfl, by rw [List.length_map]; omega⟩⟩, fun _ => ?_, fun _ h => absurd h (by decide)⟩
      conv => whnf
      repeat (first | (refine ⟨(by kernel_rfl : chkR _ _ _ _ = true), ?_⟩; conv => whnf) | (refine EvOr.go ?_; conv => whnf))
      refine CallG.use gQ c83 [0] [] ?_ ?_ ?_ ?_ ?_ ?_; rfl; rfl; kernel_rfl; rfl; rfl
      conv => whnf
      repeat (first | (refine ⟨(by kernel_rfl : chkR _ _ _ _ = true), ?_⟩; conv => whnf) | (refine EvOr.go ?_; conv => whnf))
      intro c hc
      obtain rfl : c = false := by rw [hc, Int.toNat_natCast, b2]; simp
      conv => whnf
      repeat (first | (refine ⟨(by kernel_rfl : chkR _ _ _ _ = true), ?_⟩; conv => whnf) | (refine EvOr.go ?_; conv => whnf))
      refine ⟨_, inc_nat (by omega), ?_⟩
      conv => whnf
      repeat (first | (refine ⟨(by kernel_rfl : chkR _ _ _ _ = true), ?_⟩; conv => whnf) | (refine EvOr.go ?_; conv => whnf))
      refine ⟨by first | exact hk | omega, _, StW.ofP [0] ?_ ?_ ?_⟩
      · kernel_rfl
      · rfl
      · rfl
    · obtain rfl : k = N := by omega
      have hb := hN2 h64
      rw [decide_eq_true_iff] at hb
      rw [show decide (k = 64) = false from decide_eq_false (by omega)]
      conv => whnf
      repeat (first | (refine ⟨(by kernel_rfl : chkR _ _ _ _ = true), ?_⟩; conv => whnf) | (refine EvOr.go ?_; conv => whnf))
      intro c hc
      obtain rfl : c = true := by rw [hc]; exact decide_eq_true (by omega)
      conv => whnf
      repeat (first | (refine ⟨(by kernel_rfl : chkR _ _ _ _ = true), ?_⟩; conv => whnf) | (refine EvOr.go ?_; conv => whnf))
      refine ⟨⟨by omega, by omega⟩, ?_⟩
      conv => whnf
      repeat (first | (refine ⟨(by kernel_rfl : chkR _ _ _ _ = true), ?_⟩; conv => whnf) | (refine EvOr.go ?_; conv => whnf))
      refine ⟨⟨by omega, by show (k : Int) < 64; omega⟩, ?_⟩
      conv => whnf
      repeat (first | (refine ⟨(by kernel_rfl : chkR _ _ _ _ = true), ?_⟩; conv => whnf) | (refine EvOr.go ?_; conv => whnf))
      refine ⟨_, s1, ?_⟩
      conv => whnf
      repeat (first | (refine ⟨(by kernel_rfl : chkR _ _ _ _ = true), ?_⟩; conv => whnf) | (refine EvOr.go ?_; conv => whnf))
      refine ⟨h64, ?_⟩
      conv => whnf
      repeat (first | (refine ⟨(by kernel_rfl : chkR _ _ _ _ = true), ?_⟩; conv => whnf) | (refine EvOr.go ?_; conv => whnf))
      refine ⟨⟨Int.le_refl _, by omega, by show (m : Int) ≤ ((m + 2 : Nat) : Int); omega, fun h => by first | (cases h; done) | exact ⟨_, _, _, _, _, rfl, by rw [List.length_map]; omega⟩⟩, fun _ => ?_, fun _ h => absurd h (by decide)⟩
      conv => whnf
      repeat (first | (refine ⟨(by kernel_rfl : chkR _ _ _ _ = true), ?_⟩; conv => whnf) | (refine EvOr.go ?_; conv => whnf))
      refine CallG.use gP c82 [0] [] ?_ ?_ ?_ ?_ ?_ ?_; rfl; rfl; kernel_rfl; rfl; rfl
      conv => whnf
      repeat (first | (refine ⟨(by kernel_rfl : chkR _ _ _ _ = true), ?_⟩; conv => whnf) | (refine EvOr.go ?_; conv => whnf))
      by_cases b1 : (L.getD m []).getD k 0 = (psum L m).getD k 0
      · intro c hc
        obtain rfl : c = false := by rw [hc, Int.toNat_natCast, b1]; simp
        conv => whnf
        repeat (first | (refine ⟨(by kernel_rfl : chkR _ _ _ _ = true), ?_⟩; conv => whnf) | (refine EvOr.go ?_; conv => whnf))
        refine ⟨_, e1, ?_⟩
        conv => whnf
        repeat (first | (refine ⟨(by kernel_rfl : chkR _ _ _ _ = true), ?_⟩; conv => whnf) | (refine EvOr.go ?_; conv => whnf))
        refine ⟨⟨by omega, by omega⟩, ?_⟩
        conv => whnf
        repeat (first | (refine ⟨(by kernel_rfl : chkR _ _ _ _ = true), ?_⟩; conv => whnf) | (refine EvOr.go ?_; conv => whnf))
        refine ⟨⟨by omega, by show (k : Int) < 64; omega⟩, ?_⟩
        conv => whnf
        repeat (first | (refine ⟨(by kernel_rfl : chkR _ _ _ _ = true), ?_⟩; conv => whnf) | (refine EvOr.go ?_; conv => whnf))
        refine ⟨_, s2, ?_⟩
        conv => whnf
        repeat (first | (refine ⟨(by kernel_rfl : chkR _ _ _ _ = true), ?_⟩; conv => whnf) | (refine EvOr.go ?_; conv => whnf))
        refine ⟨h64, ?_⟩
        conv => whnf
        repeat (first | (refine ⟨(by kernel_rfl : chkR _ _ _ _ = true), ?_⟩; conv => whnf) | (refine EvOr.go ?_; conv => whnf))
        refine ⟨⟨Int.le_refl _, by omega, by show (m : Int) ≤ ((m + 2 : Nat) : Int); omega, fun h => by first | (cases h; done) | exact ⟨_, _, _, _, _, rfl, by rw [List.length_map]; omega⟩⟩, fun _ => ?_, fun _ h => absurd h (by decide)⟩
        conv => whnf
        repeat (first | (refine ⟨(by kernel_rfl : chkR _ _ _ _ = true), ?_⟩; conv => whnf) | (refine EvOr.go ?_; conv => whnf))
        refine CallG.use gQ c83 [0] [] ?_ ?_ ?_ ?_ ?_ ?_; rfl; rfl; kernel_rfl; rfl; rfl
        conv => whnf
        repeat (first | (refine ⟨(by kernel_rfl : chkR _ _ _ _ = true), ?_⟩; conv => whnf) | (refine EvOr.go ?_; conv => whnf))
        have b2 : ¬ (L.getD (m + 1) []).getD k 0 = (qsum L m).getD k 0 := fun h => hb ⟨b1, h⟩
        intro c hc
        obtain rfl : c = true := by rw [hc, Int.toNat_natCast, bne_iff_ne]; exact fun h => b2 (Int.ofNat_inj.1 h)
        conv => whnf
        repeat (first | (refine ⟨(by kernel_rfl : chkR _ _ _ _ = true), ?_⟩; conv => whnf) | (refine EvOr.go ?_; conv => whnf))
        exact retQ.one rfl (.inr rfl) rfl (Nat.le_of_ble_eq_true rfl) rfl
      · intro c hc
        obtain rfl : c = true := by rw [hc, Int.toNat_natCast, bne_iff_ne]; exact fun h => b1 (Int.ofNat_inj.1 h)
        conv => whnf
        repeat (first | (refine ⟨(by kernel_rfl : chkR _ _ _ _ = true), ?_⟩; conv => whnf) | (refine EvOr.go ?_; conv => whnf))
        exact retQ.one rfl (.inr rfl) rfl (Nat.le_of_ble_eq_true rfl) rfl
  · obtain rfl : k = 64 := by omega
    obtain rfl : N = 64 := by omega
    conv => whnf
    repeat (first | (refine ⟨(by kernel_rfl : chkR _ _ _ _ = true), ?_⟩; conv => whnf) | (refine EvOr.go ?_; conv => whnf))
    intro c hc
    obtain rfl : c = false := by rw [hc]; rfl
    conv => whnf
    repeat (first | (refine ⟨(by kernel_rfl : chkR _ _ _ _ = true), ?_⟩; conv => whnf) | (refine EvOr.go ?_; conv => whnf))
    exact retQ.one rfl (.inr rfl) rfl (Nat.le_of_ble_eq_true rfl) rfl
theorem rrr_ok (n : Nat) (L : List (List Nat)) (K : List Nat) (h4 : 4 ≤ n) (hn : n ≤ 64) (hL : L.length = n) (hK : K.length = n) (hS : Secs L) :
    FunT Try.prog 69 [rpV] (rf3 n L K) (bv (decide (lostL n K = []) && rightB L)) (rf3 n L K) := by
  have i1 := rlost_ok n L K hn hK
  have i2 := rrp_ok L (n - 2) (by omega) (by omega) (by omega) hS
  rw [show n - 2 + 2 = n by omega] at i2
  by_cases hO : lostL n K = []
  · rw [hO] at i1
    rw [decide_eq_true hO, Bool.true_and]
    generalize rightB L = b at *
    refine FunT.ev tabOk mixed Try.func69 rfl ?_
    conv => whnf
    repeat (first | (refine ⟨(by kernel_rfl : chkR _ _ _ _ = true), ?_⟩; conv => whnf) | (refine EvOr.go ?_; conv => whnf))
    refine CallG.use i1 c68 [0, 1, 2] [] ?_ ?_ ?_ ?_ ?_ ?_; rfl; rfl; kernel_rfl; rfl; rfl
    conv => whnf
    repeat (first | (refine ⟨(by kernel_rfl : chkR _ _ _ _ = true), ?_⟩; conv => whnf) | (refine EvOr.go ?_; conv => whnf))
    intro c hc
    obtain rfl : c = true := by rw [hc]; rfl
    conv => whnf
    repeat (first | (refine ⟨(by kernel_rfl : chkR _ _ _ _ = true), ?_⟩; conv => whnf) | (refine EvOr.go ?_; conv => whnf))
    refine CallG.use i2 c116 [1] [] ?_ ?_ ?_ ?_ ?_ ?_; rfl; rfl; kernel_rfl; rfl; rfl
    conv => whnf
    repeat (first | (refine ⟨(by kernel_rfl : chkR _ _ _ _ = true), ?_⟩; conv => whnf) | (refine EvOr.go ?_; conv => whnf))
    exact retQ.one rfl (.inr rfl) rfl (Nat.le_of_ble_eq_true rfl) rfl
  · obtain ⟨q1, q2⟩ := nr_row 3 (List.length_pos_iff.2 hO)
    have hp := List.length_pos_iff.2 hO
    rw [q1, q2] at i1
    rw [decide_eq_false hO, Bool.false_and]
    generalize lostL n K = O at *
    refine FunT.ev tabOk mixed Try.func69 rfl ?_
    conv => whnf
    repeat (first | (refine ⟨(by kernel_rfl : chkR _ _ _ _ = true), ?_⟩; conv => whnf) | (refine EvOr.go ?_; conv => whnf))
    refine CallG.use i1 c68 [0, 1, 2] [] ?_ ?_ ?_ ?_ ?_ ?_; rfl; rfl; kernel_rfl; rfl; rfl
    conv => whnf
    repeat (first | (refine ⟨(by kernel_rfl : chkR _ _ _ _ = true), ?_⟩; conv => whnf) | (refine EvOr.go ?_; conv => whnf))
    intro c hc
    obtain rfl : c = false := by rw [hc]; simp; omega
    conv => whnf
    repeat (first | (refine ⟨(by kernel_rfl : chkR _ _ _ _ = true), ?_⟩; conv => whnf) | (refine EvOr.go ?_; conv => whnf))
    exact retQ.one rfl (.inr rfl) rfl (Nat.le_of_ble_eq_true rfl) rfl
def chaI (p q o d : List Nat) (i : Nat) (P Q : List Nat) (k : Nat) : LTm × LHp :=
  ([.junk, iv (i : Nat), .junk, .sc (.ptr 0 0 192 0), .junk, .sc (.ptr 1 0 64 0), .sc (.ptr 2 0 192 0), .junk, .sc (.ptr 3 0 192 0), iv (k : Nat), .junk, .junk, .junk, .junk, .junk, .junk, .junk, .junk, .junk, .junk, .junk, .junk, .junk, .junk, .junk, .junk, .junk, .junk, .junk, .junk, .junk, .junk, .junk, .junk, .junk, .junk, .junk, .junk, .junk, .junk, .junk, .junk, .junk, .junk, .junk, .junk, .junk, .junk, .junk, .junk, .junk, .junk, .junk, .junk],
   [some (.row .one 39 192 [[.byt 64 p, .byt 64 q, .byt 64 o]] []), secB d, some (.row .one 39 192 [[.byt 64 (zs 64), .byt 64 (zs 64), .byt 64 (zs 64)]] []), some (.row .one 39 192 [[.byt 64 (mix P zeros k), .byt 64 (mix Q zeros k), .byt 64 d]] [])])
theorem rcha_ok (p q o d : List Nat) (i : Nat) (hp : Sec p) (hq : Sec q) (ho : Sec o) (hd : Sec d) (hi : i ≤ 61) :
    FunT Try.prog 115 [rowV3 p q o, iv (i : Nat), secV d] [] (.tup [rowV3 (xorL p (xorL o d)) (xorL q (mulL (xorL o d) (pwZ i))) d, iv 0]) [] := by
  have hx := xorL_sec ho hd
  have hm := mulL_sec (f := pwZ (i : Int)) hx
  have sP := xorL_sec hp hx
  have sQ := xorL_sec hq hm
  have gw := refpow_ok (i : Nat) ⟨by omega, by omega⟩
  have gm := fun a (ha : a < 256) => refmul_ok (pwZ (i : Int)) a (pwZ_lt _) ha
  have pb : ∀ k, k < 64 → (xorL p (xorL o d)).getD k 0 = p.getD k 0 ^^^ (o.getD k 0 ^^^ d.getD k 0) := fun k hk => by
    rw [xorL_get (by rw [hp.len]; exact hk) (by rw [hx.len]; exact hk), xorL_get (by rw [ho.len]; exact hk) (by rw [hd.len]; exact hk)]
  have qb : ∀ k, k < 64 → (xorL q (mulL (xorL o d) (pwZ i))).getD k 0 = q.getD k 0 ^^^ gmul (pwZ (i : Int)) (o.getD k 0 ^^^ d.getD k 0) := fun k hk => by
    rw [xorL_get (by rw [hq.len]; exact hk) (by rw [hm.len]; exact hk), mulL_get (by rw [hx.len]; exact hk), xorL_get (by rw [ho.len]; exact hk) (by rw [hd.len]; exact hk), gmul_comm (pwZ_lt _) (xor_lt (ho.get k) (hd.get k))]
  generalize xorL p (xorL o d) = P at *
  generalize xorL q (mulL (xorL o d) (pwZ i)) = Q at *
  have hgl := pwZ_lt (i : Int)
  generalize pwZ (i : Int) = g at *
  obtain ⟨I, hI⟩ : ∃ I, I = chaI p q o d i P Q := ⟨_, rfl⟩
  refine FunT.ev tabOk mixed Try.func115 rfl ?_
  conv => whnf
  repeat (first | (refine ⟨(by kernel_rfl : chkR _ _ _ _ = true), ?_⟩; conv => whnf) | (refine EvOr.go ?_; conv => whnf))
  intro c hc
  obtain rfl : c = false := by rw [hc]; exact decide_eq_false (by omega)
  conv => whnf
  repeat (first | (refine ⟨(by kernel_rfl : chkR _ _ _ _ = true), ?_⟩; conv => whnf) | (refine EvOr.go ?_; conv => whnf))
  intro c hc
  obtain rfl : c = false := by rw [hc]; exact decide_eq_false (by omega)
  conv => whnf
  repeat (first | (refine ⟨(by kernel_rfl : chkR _ _ _ _ = true), ?_⟩; conv => whnf) | (refine EvOr.go ?_; conv => whnf))
  refine CodeT.loopN tabOk mixed I 64 _ (StW.ofP [0, 1, 2, 3] ?_ ?_ ?_) (fun k => by subst hI; rfl) ?_
  · subst hI; kernel_rfl
  · subst hI; rfl
  · subst hI; rfl
  intro k hkl
  subst hI
  show evC Try.prog tab _ _ (chaI p q o d i P Q k).1 [some (.row .one 39 192 [[.byt 64 p, .byt 64 q, .byt 64 o]] []), secB d, some (.row .one 39 192 [[.byt 64 (zs 64), .byt 64 (zs 64), .byt 64 (zs 64)]] []), some (.row .one 39 192 [[.byt 64 (mix P zeros k), .byt 64 (mix Q zeros k), .byt 64 d]] [])] _
  by_cases hk : k < 64
  · have hlP := mix_length (r := P) (a := zeros) (k := k) sP.len zeros_sec.len (by omega)
    have hlQ := mix_length (r := Q) (a := zeros) (k := k) sQ.len zeros_sec.len (by omega)
    have hsP := mix_set (r := P) (a := zeros) sP.len zeros_sec.len hk
    have hsQ := mix_set (r := Q) (a := zeros) sQ.len zeros_sec.len hk
    rw [pb k hk] at hsP
    rw [qb k hk] at hsQ
    generalize mix P zeros k = SP at hsP hlP ⊢
    generalize mix Q zeros k = SQ at hsQ hlQ ⊢
    have bp := hp.get k
    have bq := hq.get k
    have bo := ho.get k
    have bd := hd.get k
    have bx := xor_lt bo bd
    have gm := gm _ bx
    have bm : gmul g (o.getD k 0 ^^^ d.getD k 0) < 256 := gmul_lt hgl
    conv => whnf
    repeat (first | (refine ⟨(by kernel_rfl : chkR _ _ _ _ = true), ?_⟩; conv => whnf) | (refine EvOr.go ?_; conv => whnf))
    intro c hc
    obtain rfl : c = true := by rw [hc]; exact decide_eq_true (by omega)
    conv => whnf
    repeat (first | (refine ⟨(by kernel_rfl : chkR _ _ _ _ = true), ?_⟩; conv => whnf) | (refine EvOr.go ?_; conv => whnf))
    refine ⟨⟨by omega, by show (k : Int) < 64; omega⟩, ?_⟩
    conv => whnf
    repeat (first | (refine ⟨(by kernel_rfl : chkR _ _ _ _ = true), ?_⟩; conv => whnf) | (refine EvOr.go ?_; conv => whnf))
    refine ⟨hk, ?_⟩
    conv => whnf
    repeat (first | (refine ⟨(by kernel_rfl : chkR _ _ _ _ = true), ?_⟩; conv => whnf) | (refine EvOr.go ?_; conv => whnf))
    refine ⟨⟨by omega, by show (k : Int) < 64; omega⟩, ?_⟩
    conv => whnf
    repeat (first | (refine ⟨(by kernel_rfl : chkR _ _ _ _ = true), ?_⟩; conv => whnf) | (refine EvOr.go ?_; conv => whnf))
    refine ⟨hk, ?_⟩
    conv => whnf
    repeat (first | (refine ⟨(by kernel_rfl : chkR _ _ _ _ = true), ?_⟩; conv => whnf) | (refine EvOr.go ?_; conv => whnf))
    refine ⟨_, xor8 bo bd, ?_⟩
    conv => whnf
    repeat (first | (refine ⟨(by kernel_rfl : chkR _ _ _ _ = true), ?_⟩; conv => whnf) | (refine EvOr.go ?_; conv => whnf))
    refine ⟨⟨by omega, by show (k : Int) < 64; omega⟩, ?_⟩
    conv => whnf
    repeat (first | (refine ⟨(by kernel_rfl : chkR _ _ _ _ = true), ?_⟩; conv => whnf) | (refine EvOr.go ?_; conv => whnf))
    refine ⟨hk, ?_⟩
    conv => whnf
    repeat (first | (refine ⟨(by kernel_rfl : chkR _ _ _ _ = true), ?_⟩; conv => whnf) | (refine EvOr.go ?_; conv => whnf))
    refine ⟨_, xor8 bp bx, ?_⟩
    conv => whnf
    repeat (first | (refine ⟨(by kernel_rfl : chkR _ _ _ _ = true), ?_⟩; conv => whnf) | (refine EvOr.go ?_; conv => whnf))
    refine ⟨⟨by omega, by show (k : Int) < 64; omega⟩, ?_⟩
    conv => whnf
    repeat (first | (refine ⟨(by kernel_rfl : chkR _ _ _ _ = true), ?_⟩; conv => whnf) | (refine EvOr.go ?_; conv => whnf))
    refine ⟨⟨hk, by omega, by omega, rfl⟩, ?_⟩
    conv => whnf
    repeat (first | (refine ⟨(by kernel_rfl : chkR _ _ _ _ = true), ?_⟩; conv => whnf) | (refine EvOr.go ?_; conv => whnf))
    refine ⟨⟨by omega, by show (k : Int) < 64; omega⟩, ?_⟩
    conv => whnf
    repeat (first | (refine ⟨(by kernel_rfl : chkR _ _ _ _ = true), ?_⟩; conv => whnf) | (refine EvOr.go ?_; conv => whnf))
    refine ⟨hk, ?_⟩
    conv => whnf
    repeat (first | (refine ⟨(by kernel_rfl : chkR _ _ _ _ = true), ?_⟩; conv => whnf) | (refine EvOr.go ?_; conv => whnf))
    refine CallG.use gw c124 [] [] ?_ ?_ ?_ ?_ ?_ ?_; rfl; rfl; kernel_rfl; rfl; rfl
    conv => whnf
    repeat (first | (refine ⟨(by kernel_rfl : chkR _ _ _ _ = true), ?_⟩; conv => whnf) | (refine EvOr.go ?_; conv => whnf))
    refine CallG.use gm c123 [] [] ?_ ?_ ?_ ?_ ?_ ?_; rfl; rfl; kernel_rfl; rfl; rfl
    conv => whnf
    repeat (first | (refine ⟨(by kernel_rfl : chkR _ _ _ _ = true), ?_⟩; conv => whnf) | (refine EvOr.go ?_; conv => whnf))
    refine ⟨_, xor8 bq bm, ?_⟩
    conv => whnf
    repeat (first | (refine ⟨(by kernel_rfl : chkR _ _ _ _ = true), ?_⟩; conv => whnf) | (refine EvOr.go ?_; conv => whnf))
    refine ⟨⟨by omega, by show (k : Int) < 64; omega⟩, ?_⟩
    conv => whnf
    repeat (first | (refine ⟨(by kernel_rfl : chkR _ _ _ _ = true), ?_⟩; conv => whnf) | (refine EvOr.go ?_; conv => whnf))
    refine ⟨⟨hk, by omega, by omega, rfl⟩, ?_⟩
    conv => whnf
    repeat (first | (refine ⟨(by kernel_rfl : chkR _ _ _ _ = true), ?_⟩; conv => whnf) | (refine EvOr.go ?_; conv => whnf))
    refine ⟨_, inc_nat (by omega), ?_⟩
    conv => whnf
    repeat (first | (refine ⟨(by kernel_rfl : chkR _ _ _ _ = true), ?_⟩; conv => whnf) | (refine EvOr.go ?_; conv => whnf))
    refine ⟨by omega, _, StW.ofP [0, 1, 2, 3] ?_ ?_ ?_⟩
    · kernel_rfl
    · rfl
    · simp only [chaI, ← hsP, ← hsQ]; rfl
  · obtain rfl : k = 64 := by omega
    rw [mix_full sP.len zeros_sec.len, mix_full sQ.len zeros_sec.len]
    conv => whnf
    repeat (first | (refine ⟨(by kernel_rfl : chkR _ _ _ _ = true), ?_⟩; conv => whnf) | (refine EvOr.go ?_; conv => whnf))
    intro c hc
    obtain rfl : c = false := by rw [hc]; rfl
    conv => whnf
    repeat (first | (refine ⟨(by kernel_rfl : chkR _ _ _ _ = true), ?_⟩; conv => whnf) | (refine EvOr.go ?_; conv => whnf))
    exact retQ.all tabOk _ [rowV3 P Q d, iv 0] rfl (by first | exact .inr rfl | exact .inl rfl) (by repeat' (first | exact trivial | rfl | (intro h; cases h; done) | (refine ⟨?_, ?_⟩))) rfl (by rfl) (Nat.le_of_ble_eq_true rfl) (by rfl)
end Go.Proofs.Ytdmcbfmpnakdfaa.Eng.St
/- The document's row: mended, written. -/
namespace Go.Proofs.Ytdmcbfmpnakdfaa.Eng.St
open Go Go.RowKit Go.Shelf Go.Proofs Go.Proofs.Ytdmcbfmpnakdfaa.Gf Go.Proofs.Ytdmcbfmpnakdfaa.Rf Go.Proofs.Ytdmcbfmpnakdfaa.Oa
set_option maxRecDepth 20000
set_option maxHeartbeats 8000000
theorem c18 : Callable Try.prog 18 := ⟨⟨_, Try.func18, by kernel_rfl, by kernel_rfl⟩⟩
abbrev refM (n : Nat) : Option ABlk := some (.row .one 105 2 [[.one (.sl 3 0 64 n none), .one (.sl 2 0 1 n none)]] [3, 2])
theorem rfixL (n : Nat) (L : List (List Nat)) (ks : List Nat) (hr : (kz ks).Pairwise (· < ·)) (hk : ∀ k ∈ ks, k < n) (h4 : 4 ≤ n) (h64 : n ≤ 64) (hL : L.length = n) (hS : Secs L) (hks : ks.length ≤ n) :
    (2 < ks.length → FunT Try.prog 18 [.sc (.sl 0 0 64 n none), .sc (.sl 1 0 1 ks.length none)] [rowS L, rowRI (kz ks)] (.tup [.sc nilS, iv 7]) [rowS L, rowRI (kz ks), none]) ∧
    (ks.length ≤ 2 → FunT Try.prog 18 [.sc (.sl 0 0 64 n none), .sc (.sl 1 0 1 ks.length none)] [rowS L, rowRI (kz ks)] (.tup [.sc (.sl 2 0 64 n none), iv 0]) [rowS L, rowRI (kz ks), rowX (fixR L (n - 2) ks)]) := by
  have hl := kz_len ks
  have hE := fixE_lost h4 h64 hk
  have gF := refFix_row L n none none (kz ks) hL hS (by omega) (by omega)
  rw [unl_self hr, fixV, fixB, kz_nat, hl] at gF
  refine ⟨fun h => ?_, fun h => ?_⟩
  · rw [if_pos h] at hE
    rw [if_neg (by omega), if_neg (by omega), hE] at gF
    exact gF
  · rw [if_neg (by omega)] at hE
    rw [if_pos hE, if_pos hE] at gF
    exact gF
theorem rfixLN (n : Nat) (L : List (List Nat)) (h4 : 4 ≤ n) (h64 : n ≤ 64) (hL : L.length = n) (hS : Secs L) :
    FunT Try.prog 18 [.sc (.sl 0 0 64 n none), .sc nilS] [rowS L, none] (.tup [.sc (.sl 2 0 64 n none), iv 0]) [rowS L, none, rowX (fixR L (n - 2) [])] := by
  have hE := fixE_lost (ks := []) h4 h64 (fun k h => by cases h)
  rw [if_neg (by decide)] at hE
  have hE' : fixE n [] = 0 := hE
  have gF := refFix_nil L n none hL hS (by omega)
  rw [fixV, fixB, if_pos hE', if_pos hE'] at gF
  exact gF
theorem rmend_full (n : Nat) (L : List (List Nat)) (K : List Nat) (h4 : 4 ≤ n) (h64 : n ≤ 64) (hL : L.length = n) (hK : K.length = n) (hS : Secs L) (h3 : 2 < (lostN n K).length) :
    FunT Try.prog 64 [rpV] (rf3 n L K) (.tup [.sc nilS, iv 7]) (rf3 n L K) := by
  have i2 := rlost_ok n L K h64 hK
  have i3 := (rfixL n L (lostN n K) (lostN_rise n K) lostN_lt h4 h64 hL hS (lostN_len n K)).1 h3
  rw [lost_kz] at i2
  generalize lostN n K = ks at *
  obtain ⟨q1, q2⟩ := nr_row 3 (T := kz ks) (by rw [kz_len]; omega)
  rw [q1, q2, kz_len] at i2
  refine FunT.ev tabOk mixed Try.func64 rfl ?_
  conv => whnf
  repeat (first | (refine ⟨(by kernel_rfl : chkR _ _ _ _ = true), ?_⟩; conv => whnf) | (refine EvOr.go ?_; conv => whnf))
  refine CallG.use i2 c68 [0, 1, 2] [] ?_ ?_ ?_ ?_ ?_ ?_; rfl; rfl; kernel_rfl; rfl; rfl
  conv => whnf
  repeat (first | (refine ⟨(by kernel_rfl : chkR _ _ _ _ = true), ?_⟩; conv => whnf) | (refine EvOr.go ?_; conv => whnf))
  refine CallG.use i3 c18 [1, 3] [] ?_ ?_ ?_ ?_ ?_ ?_; rfl; rfl; kernel_rfl; rfl; rfl
  conv => whnf
  repeat (first | (refine ⟨(by kernel_rfl : chkR _ _ _ _ = true), ?_⟩; conv => whnf) | (refine EvOr.go ?_; conv => whnf))
  intro c hc
  obtain rfl : c = true := by rw [hc]; rfl
  conv => whnf
  repeat (first | (refine ⟨(by kernel_rfl : chkR _ _ _ _ = true), ?_⟩; conv => whnf) | (refine EvOr.go ?_; conv => whnf))
  exact retQ.all tabOk _ [.sc nilS, iv 7] rfl (by first | exact .inr rfl | exact .inl rfl) (by repeat' (first | exact trivial | rfl | (intro h; cases h; done) | (refine ⟨?_, ?_⟩))) rfl (by rfl) (Nat.le_of_ble_eq_true rfl) (by rfl)
def oneK (K : List Nat) (k : Nat) : List Nat := List.replicate k 1 ++ K.drop k
theorem oneK_len {K : List Nat} {k : Nat} (h : k ≤ K.length) : (oneK K k).length = K.length := by simp [oneK]; omega
theorem oneK_set {K : List Nat} {k : Nat} (h : k < K.length) : (oneK K k).set k 1 = oneK K (k + 1) := by
  unfold oneK
  rw [List.set_append, if_neg (by simp), List.length_replicate, Nat.sub_self, List.drop_eq_getElem_cons h, List.set_cons_zero, List.replicate_succ', List.append_assoc]; rfl
theorem oneK_full {n : Nat} {K : List Nat} (hK : K.length = n) : gonB (oneK K n) = gonB (setK K (lostN n K)) := by
  have h : (oneK K n).map goB = (setK K (lostN n K)).map goB := by
    apply List.ext_getElem
    · rw [List.length_map, List.length_map, oneK_len (by omega), setK_len]
    · intro i h1 h2
      rw [List.length_map, oneK_len (by omega)] at h1
      have e1 : (oneK K n)[i]'(by rw [oneK_len (by omega)]; exact h1) = 1 := by
        unfold oneK
        rw [List.getElem_append_left (by simp; omega), List.getElem_replicate]
      have e2 := setK_some hK (j := i) (by omega)
      rw [List.getD_eq_getElem?_getD, List.getElem?_eq_getElem (by rw [setK_len]; exact h1)] at e2
      rw [List.getElem_map, List.getElem_map, e1]
      exact (decide_eq_false e2).symm
  unfold gonB
  rw [h]
def rmeI (n : Nat) (L R : List (List Nat)) (K : List Nat) (v : SV) (B : Option ABlk) (k : Nat) : LTm × LHp :=
  ([rpV, .junk, .junk, .junk, .sc v, .junk, .junk, iv (k : Nat), .junk, .junk, .junk, .junk, .junk, .junk, .junk, .junk, .junk, .junk, .junk, .junk, .junk, .junk, .junk, .junk, .junk, .junk, .junk, .junk, .junk, .junk, .junk, .junk, .junk, .junk, .junk, .junk, .junk, .junk, .junk, .junk, .junk, .junk], [some (.row .one 105 2 [[.one (.sl 4 0 64 n none), .one (.sl 2 0 1 n none)]] [4, 2]), rowX L, gonB (oneK K k), B, rowX R])
theorem rmend_ok (n : Nat) (L : List (List Nat)) (K : List Nat) (h4 : 4 ≤ n) (h64 : n ≤ 64) (hL : L.length = n) (hK : K.length = n) (hS : Secs L) (h3 : (lostN n K).length ≤ 2) :
    FunT Try.prog 64 [rpV] (rf3 n L K) (.tup [.sc (nrS (kz (lostN n K)) 4), iv 0]) [refM n, rowX L, gonB (setK K (lostN n K)), rowX (fixR L (n - 2) (lostN n K)), nrB (kz (lostN n K))] := by
  have i2 := rlost_ok n L K h64 hK
  have eK := oneK_full hK
  have z0 : oneK K 0 = K := by simp [oneK]
  rw [lost_kz] at i2
  rw [← eK]
  clear eK
  by_cases h0 : lostN n K = []
  · have i3 := rfixLN n L h4 h64 hL hS
    rw [h0] at i2 ⊢
    generalize fixR L (n - 2) [] = R at *
    obtain ⟨I, hI⟩ : ∃ I, I = rmeI n L R K nilS none := ⟨_, rfl⟩
    refine FunT.ev tabOk mixed Try.func64 rfl ?_
    conv => whnf
    repeat (first | (refine ⟨(by kernel_rfl : chkR _ _ _ _ = true), ?_⟩; conv => whnf) | (refine EvOr.go ?_; conv => whnf))
    refine CallG.use i2 c68 [0, 1, 2] [] ?_ ?_ ?_ ?_ ?_ ?_; rfl; rfl; kernel_rfl; rfl; rfl
    conv => whnf
    repeat (first | (refine ⟨(by kernel_rfl : chkR _ _ _ _ = true), ?_⟩; conv => whnf) | (refine EvOr.go ?_; conv => whnf))
    refine CallG.use i3 c18 [1, 3] [] ?_ ?_ ?_ ?_ ?_ ?_; rfl; rfl; kernel_rfl; rfl; rfl
    conv => whnf
    repeat (first | (refine ⟨(by kernel_rfl : chkR _ _ _ _ = true), ?_⟩; conv => whnf) | (refine EvOr.go ?_; conv => whnf))
    intro c hc
    obtain rfl : c = false := by rw [hc]; rfl
    conv => whnf
    repeat (first | (refine ⟨(by kernel_rfl : chkR _ _ _ _ = true), ?_⟩; conv => whnf) | (refine EvOr.go ?_; conv => whnf))
    refine CodeT.loopN tabOk mixed I n _ (StW.ofP [0, 1, 2, 3, 4] ?_ ?_ ?_) (fun k => by subst hI; rfl) ?_
    · subst hI; kernel_rfl
    · subst hI; rfl
    · subst hI; simp only [rmeI, z0]; rfl
    intro k hkn
    subst hI
    have hl := oneK_len (K := K) (k := k) (by omega)
    by_cases hk : k < n
    · have g2 := gon_get (K := oneK K k) (k := k) (by omega)
      have hs := oneK_set (K := K) (k := k) (by omega)
      have e2 : ((oneK K (k + 1)).map goB).map booS = (((oneK K k).map goB).map booS).set (0 + (k : Int).toNat) [.one (.raw (.bool false))] := by
        rw [← hs, gon_set]; rfl
      unfold rmeI
      generalize goB ((oneK K k).getD k 0) = b at *
      conv => whnf
      repeat (first | (refine ⟨(by kernel_rfl : chkR _ _ _ _ = true), ?_⟩; conv => whnf) | (refine EvOr.go ?_; conv => whnf))
      intro c hc
      obtain rfl : c = true := by rw [hc]; exact decide_eq_true (by omega)
      conv => whnf
      repeat (first | (refine ⟨(by kernel_rfl : chkR _ _ _ _ = true), ?_⟩; conv => whnf) | (refine EvOr.go ?_; conv => whnf))
      refine ⟨⟨by omega, by omega⟩, ?_⟩
      conv => whnf
      repeat (first | (refine ⟨(by kernel_rfl : chkR _ _ _ _ = true), ?_⟩; conv => whnf) | (refine EvOr.go ?_; conv => whnf))
      refine ⟨_, g2, ?_⟩
      conv => whnf
      repeat (first | (refine ⟨(by kernel_rfl : chkR _ _ _ _ = true), ?_⟩; conv => whnf) | (refine EvOr.go ?_; conv => whnf))
      refine ⟨_, inc_nat (by omega), ?_⟩
      conv => whnf
      repeat (first | (refine ⟨(by kernel_rfl : chkR _ _ _ _ = true), ?_⟩; conv => whnf) | (refine EvOr.go ?_; conv => whnf))
      refine ⟨by omega, _, StW.ofP [0, 1, 2, 3, 4] ?_ ?_ ?_⟩
      · kernel_rfl
      · rfl
      · simp only [gonB, e2]; rfl
    · obtain rfl : k = n := by omega
      unfold rmeI
      conv => whnf
      repeat (first | (refine ⟨(by kernel_rfl : chkR _ _ _ _ = true), ?_⟩; conv => whnf) | (refine EvOr.go ?_; conv => whnf))
      intro c hc
      obtain rfl : c = false := by rw [hc]; exact decide_eq_false (by omega)
      conv => whnf
      repeat (first | (refine ⟨(by kernel_rfl : chkR _ _ _ _ = true), ?_⟩; conv => whnf) | (refine EvOr.go ?_; conv => whnf))
      exact retQ.allS tabOk [0, 1, 2, 4, 3] _ [.sc nilS, iv 0] rfl (by first | exact .inr rfl | exact .inl rfl) (by repeat' (first | exact trivial | rfl | (intro h; cases h; done) | (refine ⟨?_, ?_⟩))) rfl (by rfl) (by kernel_rfl) (by first | rfl | kernel_rfl)
  · have i3 := (rfixL n L (lostN n K) (lostN_rise n K) lostN_lt h4 h64 hL hS (lostN_len n K)).2 h3
    generalize lostN n K = ks at *
    have hpos := List.length_pos_iff.2 h0
    obtain ⟨q1, q2⟩ := nr_row 3 (T := kz ks) (by rw [kz_len]; omega)
    obtain ⟨q3, _⟩ := nr_row 4 (T := kz ks) (by rw [kz_len]; omega)
    rw [q1, q2, kz_len] at i2
    rw [q2, q3, kz_len]
    generalize fixR L (n - 2) ks = R at *
    obtain ⟨I, hI⟩ : ∃ I, I = rmeI n L R K (.sl 3 0 1 ks.length none) (rowI (kz ks)) := ⟨_, rfl⟩
    refine FunT.ev tabOk mixed Try.func64 rfl ?_
    conv => whnf
    repeat (first | (refine ⟨(by kernel_rfl : chkR _ _ _ _ = true), ?_⟩; conv => whnf) | (refine EvOr.go ?_; conv => whnf))
    refine CallG.use i2 c68 [0, 1, 2] [] ?_ ?_ ?_ ?_ ?_ ?_; rfl; rfl; kernel_rfl; rfl; rfl
    conv => whnf
    repeat (first | (refine ⟨(by kernel_rfl : chkR _ _ _ _ = true), ?_⟩; conv => whnf) | (refine EvOr.go ?_; conv => whnf))
    refine CallG.use i3 c18 [1, 3] [] ?_ ?_ ?_ ?_ ?_ ?_; rfl; rfl; kernel_rfl; rfl; rfl
    conv => whnf
    repeat (first | (refine ⟨(by kernel_rfl : chkR _ _ _ _ = true), ?_⟩; conv => whnf) | (refine EvOr.go ?_; conv => whnf))
    intro c hc
    obtain rfl : c = false := by rw [hc]; rfl
    conv => whnf
    repeat (first | (refine ⟨(by kernel_rfl : chkR _ _ _ _ = true), ?_⟩; conv => whnf) | (refine EvOr.go ?_; conv => whnf))
    refine CodeT.loopN tabOk mixed I n _ (StW.ofP [0, 1, 2, 3, 4] ?_ ?_ ?_) (fun k => by subst hI; rfl) ?_
    · subst hI; kernel_rfl
    · subst hI; rfl
    · subst hI; simp only [rmeI, z0]; rfl
    intro k hkn
    subst hI
    have hl := oneK_len (K := K) (k := k) (by omega)
    by_cases hk : k < n
    · have g2 := gon_get (K := oneK K k) (k := k) (by omega)
      have hs := oneK_set (K := K) (k := k) (by omega)
      have e2 : ((oneK K (k + 1)).map goB).map booS = (((oneK K k).map goB).map booS).set (0 + (k : Int).toNat) [.one (.raw (.bool false))] := by
        rw [← hs, gon_set]; rfl
      unfold rmeI
      generalize goB ((oneK K k).getD k 0) = b at *
      conv => whnf
      repeat (first | (refine ⟨(by kernel_rfl : chkR _ _ _ _ = true), ?_⟩; conv => whnf) | (refine EvOr.go ?_; conv => whnf))
      intro c hc
      obtain rfl : c = true := by rw [hc]; exact decide_eq_true (by omega)
      conv => whnf
      repeat (first | (refine ⟨(by kernel_rfl : chkR _ _ _ _ = true), ?_⟩; conv => whnf) | (refine EvOr.go ?_; conv => whnf))
      refine ⟨⟨by omega, by omega⟩, ?_⟩
      conv => whnf
      repeat (first | (refine ⟨(by kernel_rfl : chkR _ _ _ _ = true), ?_⟩; conv => whnf) | (refine EvOr.go ?_; conv => whnf))
      refine ⟨_, g2, ?_⟩
      conv => whnf
      repeat (first | (refine ⟨(by kernel_rfl : chkR _ _ _ _ = true), ?_⟩; conv => whnf) | (refine EvOr.go ?_; conv => whnf))
      refine ⟨_, inc_nat (by omega), ?_⟩
      conv => whnf
      repeat (first | (refine ⟨(by kernel_rfl : chkR _ _ _ _ = true), ?_⟩; conv => whnf) | (refine EvOr.go ?_; conv => whnf))
      refine ⟨by omega, _, StW.ofP [0, 1, 2, 3, 4] ?_ ?_ ?_⟩
      · kernel_rfl
      · rfl
      · simp only [gonB, e2]; rfl
    · obtain rfl : k = n := by omega
      unfold rmeI
      conv => whnf
      repeat (first | (refine ⟨(by kernel_rfl : chkR _ _ _ _ = true), ?_⟩; conv => whnf) | (refine EvOr.go ?_; conv => whnf))
      intro c hc
      obtain rfl : c = false := by rw [hc]; exact decide_eq_false (by omega)
      conv => whnf
      repeat (first | (refine ⟨(by kernel_rfl : chkR _ _ _ _ = true), ?_⟩; conv => whnf) | (refine EvOr.go ?_; conv => whnf))
      exact retQ.allS tabOk [0, 1, 2, 4, 3] _ [.sc (.sl 3 0 1 ks.length none), iv 0] rfl (by first | exact .inr rfl | exact .inl rfl) (by repeat' (first | exact trivial | rfl | (intro h; cases h; done) | (refine ⟨?_, ?_⟩))) rfl (by rfl) (by kernel_rfl) (by first | rfl | kernel_rfl)
end Go.Proofs.Ytdmcbfmpnakdfaa.Eng.St
/- The document's row: written. -/
namespace Go.Proofs.Ytdmcbfmpnakdfaa.Eng.St
open Go Go.RowKit Go.Shelf Go.Proofs Go.Proofs.Ytdmcbfmpnakdfaa.Gf Go.Proofs.Ytdmcbfmpnakdfaa.Rf Go.Proofs.Ytdmcbfmpnakdfaa.Oa
set_option maxRecDepth 20000
set_option maxHeartbeats 8000000
theorem rwri_out (m : Nat) (L : List (List Nat)) (K : List Nat) (c : Int) (s : List Nat) (hm : m ≤ 62) (hc : ¬ (0 ≤ c ∧ c < m)) :
    FunT Try.prog 66 [rpV, iv c, secV s] (rf3 (m + 2) L K) (.tup [.sc nilS, iv 2]) (rf3 (m + 2) L K) := by
  have e0 : arithI .sub .i64 ((m + 2 : Nat) : Int) 2 = some ((m : Nat) : Int) := subn (a := m + 2) (b := 2) (by omega) (by omega)
  by_cases h : c < 0
  · refine FunT.ev tabOk mixed Try.func66 rfl ?_
    conv => whnf
    repeat (first | (refine ⟨(by kernel_rfl : chkR _ _ _ _ = true), ?_⟩; conv => whnf) | (refine EvOr.go ?_; conv => whnf))
    refine ⟨_, e0, ?_⟩
    conv => whnf
    repeat (first | (refine ⟨(by kernel_rfl : chkR _ _ _ _ = true), ?_⟩; conv => whnf) | (refine EvOr.go ?_; conv => whnf))
    intro c hc
    obtain rfl : c = true := by rw [hc]; exact decide_eq_true (by omega)
    conv => whnf
    repeat (first | (refine ⟨(by kernel_rfl : chkR _ _ _ _ = true), ?_⟩; conv => whnf) | (refine EvOr.go ?_; conv => whnf))
    exact retQ.all tabOk _ [.sc nilS, iv 2] rfl (by first | exact .inr rfl | exact .inl rfl) (by repeat' (first | exact trivial | rfl | (intro h; cases h; done) | (refine ⟨?_, ?_⟩))) rfl (by rfl) (Nat.le_of_ble_eq_true rfl) (by rfl)
  · refine FunT.ev tabOk mixed Try.func66 rfl ?_
    conv => whnf
    repeat (first | (refine ⟨(by kernel_rfl : chkR _ _ _ _ = true), ?_⟩; conv => whnf) | (refine EvOr.go ?_; conv => whnf))
    refine ⟨_, e0, ?_⟩
    conv => whnf
    repeat (first | (refine ⟨(by kernel_rfl : chkR _ _ _ _ = true), ?_⟩; conv => whnf) | (refine EvOr.go ?_; conv => whnf))
    intro c hc
    obtain rfl : c = false := by rw [hc]; exact decide_eq_false (by omega)
    conv => whnf
    repeat (first | (refine ⟨(by kernel_rfl : chkR _ _ _ _ = true), ?_⟩; conv => whnf) | (refine EvOr.go ?_; conv => whnf))
    intro c hc
    obtain rfl : c = true := by rw [hc]; exact decide_eq_true (by omega)
    conv => whnf
    repeat (first | (refine ⟨(by kernel_rfl : chkR _ _ _ _ = true), ?_⟩; conv => whnf) | (refine EvOr.go ?_; conv => whnf))
    exact retQ.all tabOk _ [.sc nilS, iv 2] rfl (by first | exact .inr rfl | exact .inl rfl) (by repeat' (first | exact trivial | rfl | (intro h; cases h; done) | (refine ⟨?_, ?_⟩))) rfl (by rfl) (Nat.le_of_ble_eq_true rfl) (by rfl)
theorem rwri_none (m : Nat) (L : List (List Nat)) (K : List Nat) (k : Nat) (s : List Nat) (hm : m ≤ 62) (hk : k < m) (hK : K.length = m + 2) (hO : lostL (m + 2) K ≠ []) :
    FunT Try.prog 66 [rpV, iv (k : Nat), secV s] (rf3 (m + 2) L K) (.tup [.sc nilS, iv 5]) (rf3 (m + 2) L K) := by
  have i1 := rlost_ok (m + 2) L K (by omega) hK
  have e0 : arithI .sub .i64 ((m + 2 : Nat) : Int) 2 = some ((m : Nat) : Int) := subn (a := m + 2) (b := 2) (by omega) (by omega)
  obtain ⟨q1, q2⟩ := nr_row 3 (List.length_pos_iff.2 hO)
  have hp := List.length_pos_iff.2 hO
  rw [q1, q2] at i1
  generalize lostL (m + 2) K = O at *
  refine FunT.ev tabOk mixed Try.func66 rfl ?_
  conv => whnf
  repeat (first | (refine ⟨(by kernel_rfl : chkR _ _ _ _ = true), ?_⟩; conv => whnf) | (refine EvOr.go ?_; conv => whnf))
  refine ⟨_, e0, ?_⟩
  conv => whnf
  repeat (first | (refine ⟨(by kernel_rfl : chkR _ _ _ _ = true), ?_⟩; conv => whnf) | (refine EvOr.go ?_; conv => whnf))
  intro c hc
  obtain rfl : c = false := by rw [hc]; exact decide_eq_false (by omega)
  conv => whnf
  repeat (first | (refine ⟨(by kernel_rfl : chkR _ _ _ _ = true), ?_⟩; conv => whnf) | (refine EvOr.go ?_; conv => whnf))
  intro c hc
  obtain rfl : c = false := by rw [hc]; exact decide_eq_false (by omega)
  conv => whnf
  repeat (first | (refine ⟨(by kernel_rfl : chkR _ _ _ _ = true), ?_⟩; conv => whnf) | (refine EvOr.go ?_; conv => whnf))
  refine CallG.use i1 c68 [0, 1, 2] [] ?_ ?_ ?_ ?_ ?_ ?_; rfl; rfl; kernel_rfl; rfl; rfl
  conv => whnf
  repeat (first | (refine ⟨(by kernel_rfl : chkR _ _ _ _ = true), ?_⟩; conv => whnf) | (refine EvOr.go ?_; conv => whnf))
  intro c hc
  obtain rfl : c = true := by rw [hc]; exact decide_eq_true (by omega)
  conv => whnf
  repeat (first | (refine ⟨(by kernel_rfl : chkR _ _ _ _ = true), ?_⟩; conv => whnf) | (refine EvOr.go ?_; conv => whnf))
  exact retQ.all tabOk _ [.sc nilS, iv 5] rfl (by first | exact .inr rfl | exact .inl rfl) (by repeat' (first | exact trivial | rfl | (intro h; cases h; done) | (refine ⟨?_, ?_⟩))) rfl (by rfl) (Nat.le_of_ble_eq_true rfl) (by rfl)
def rwrI (n : Nat) (L M : List (List Nat)) (K : List Nat) (k : Nat) : LTm × LHp :=
  ([rpV, .junk, .junk, .junk, .junk, .junk, .junk, .junk, .junk, .junk, .junk, .sc (.sl 3 0 64 n none), .sc (nrS (othL k L M) 4), iv (k : Nat), .junk, .junk, .junk, .junk, .junk, .junk, .junk, .junk, .junk, .junk, .junk, .junk, .junk, .junk, .junk, .junk, .junk, .junk, .junk, .junk, .junk, .junk, .junk, .junk, .junk, .junk, .junk, .junk, .junk, .junk, .junk, .junk, .junk, .junk, .junk, .junk, .junk, .junk, .junk, .junk, .junk, .junk, .junk, .junk, .junk, .junk, .junk, .junk, .junk, .junk, .junk, .junk, .junk, .junk, .junk, .junk, .junk, .junk, .junk, .junk, .junk, .junk, .junk, .junk, .junk, .junk, .junk, .junk, .junk, .junk, .junk, .junk, .junk, .junk, .junk, .junk, .junk, .junk, .junk, .junk, .junk, .junk, .junk, .junk, .junk, .junk, .junk, .junk, .junk, .junk, .junk, .junk, .junk, .junk], [refP n, rowX L, gonB K, rowX M, nrB (othL k L M)])
theorem rwri_ok (m : Nat) (L : List (List Nat)) (K : List Nat) (k : Nat) (s : List Nat) (hm : m ≤ 62) (hk : k < m) (hL : L.length = m + 2) (hK : K.length = m + 2) (hS : Secs L) (hs : Sec s) (hO : lostL (m + 2) K = []) :
    FunT Try.prog 66 [rpV, iv (k : Nat), secV s] (rf3 (m + 2) L K) (.tup [.sc (nrS (othL (m + 2) L (wri m L k s)) 4), iv 0]) [refM (m + 2), rowX L, gonB K, rowX (wri m L k s), nrB (othL (m + 2) L (wri m L k s))] := by
  have i1 := rlost_ok (m + 2) L K (by omega) hK
  rw [hO] at i1
  have e0 : arithI .sub .i64 ((m + 2 : Nat) : Int) 2 = some ((m : Nat) : Int) := subn (a := m + 2) (b := 2) (by omega) (by omega)
  have e1 : arithI .add .i64 (m : Nat) 1 = some ((m + 1 : Nat) : Int) := inc_nat (by omega)
  have i4 : FunT Try.prog 115 [rowV3 (L.getD m []) (L.getD (m + 1) []) (L.getD k []), iv (k : Nat), secV s] [] (.tup [rowV3 (wriP m L k s) (wriQ m L k s) s, iv 0]) [] := rcha_ok (L.getD m []) (L.getD (m + 1) []) (L.getD k []) s k (sec_at hS (by omega)) (sec_at hS (by omega)) (sec_at hS (by omega)) hs (by omega)
  have g1 := row_at (S := L) (k := k) (by omega)
  have g2 := row_at (S := L) (k := m) (by omega)
  have g3 := row_at (S := L) (k := m + 1) (by omega)
  have hMl : (wri m L k s).length = m + 2 := wri_len.trans hL
  have hMs := wri_secs hS hL hk hs
  have eA : List.take (m + 2) (List.drop 0 (L.map secS)) = L.map secS := by
    rw [List.drop_zero]; exact List.take_of_length_le (by rw [List.length_map]; omega)
  have e2 : (wri m L k s).map secS = (((L.map secS).set (0 + (k : Int).toNat) [.byt 64 s]).set (0 + (m : Int).toNat) [.byt 64 (wriP m L k s)]).set (0 + ((m + 1 : Nat) : Int).toNat) [.byt 64 (wriQ m L k s)] := by
    unfold wri
    rw [row_setS, row_setS, row_setS]; rfl
  have g4 : ((L.map secS).set (0 + (k : Int).toNat) [.byt 64 s])[0 + (m : Int).toNat]? = some (secS ((L.set k s).getD m [])) := by
    have := row_at (S := L.set k s) (k := m) (by rw [List.length_set]; omega)
    rwa [row_setS] at this
  have g5 : (((L.map secS).set (0 + (k : Int).toNat) [.byt 64 s]).set (0 + (m : Int).toNat) [.byt 64 (wriP m L k s)])[0 + ((m + 1 : Nat) : Int).toNat]? = some (secS (((L.set k s).set m (wriP m L k s)).getD (m + 1) [])) := by
    have := row_at (S := (L.set k s).set m (wriP m L k s)) (k := m + 1) (by rw [List.length_set, List.length_set]; omega)
    rwa [row_setS, row_setS] at this
  generalize ((L.set k s).set m (wriP m L k s)).getD (m + 1) [] = y5 at *
  generalize (L.set k s).getD m [] = y4 at *
  generalize wri m L k s = M at *
  generalize wriP m L k s = P at *
  generalize wriQ m L k s = Q at *
  generalize L.getD m [] = a1 at *
  generalize L.getD (m + 1) [] = a2 at *
  generalize L.getD k [] = a3 at *
  obtain ⟨I, hI⟩ : ∃ I, I = rwrI (m + 2) L M K := ⟨_, rfl⟩
  refine FunT.ev tabOk mixed Try.func66 rfl ?_
  conv => whnf
  repeat (first | (refine ⟨(by kernel_rfl : chkR _ _ _ _ = true), ?_⟩; conv => whnf) | (refine EvOr.go ?_; conv => whnf))
  refine ⟨_, e0, ?_⟩
  conv => whnf
  repeat (first | (refine ⟨(by kernel_rfl : chkR _ _ _ _ = true), ?_⟩; conv => whnf) | (refine EvOr.go ?_; conv => whnf))
  intro c hc
  obtain rfl : c = false := by rw [hc]; exact decide_eq_false (by omega)
  conv => whnf
  repeat (first | (refine ⟨(by kernel_rfl : chkR _ _ _ _ = true), ?_⟩; conv => whnf) | (refine EvOr.go ?_; conv => whnf))
  intro c hc
  obtain rfl : c = false := by rw [hc]; exact decide_eq_false (by omega)
  conv => whnf
  repeat (first | (refine ⟨(by kernel_rfl : chkR _ _ _ _ = true), ?_⟩; conv => whnf) | (refine EvOr.go ?_; conv => whnf))
  refine CallG.use i1 c68 [0, 1, 2] [] ?_ ?_ ?_ ?_ ?_ ?_; rfl; rfl; kernel_rfl; rfl; rfl
  conv => whnf
  repeat (first | (refine ⟨(by kernel_rfl : chkR _ _ _ _ = true), ?_⟩; conv => whnf) | (refine EvOr.go ?_; conv => whnf))
  intro c hc
  obtain rfl : c = false := by rw [hc]; rfl
  conv => whnf
  repeat (first | (refine ⟨(by kernel_rfl : chkR _ _ _ _ = true), ?_⟩; conv => whnf) | (refine EvOr.go ?_; conv => whnf))
  refine ⟨⟨by omega, by omega⟩, ?_⟩
  conv => whnf
  repeat (first | (refine ⟨(by kernel_rfl : chkR _ _ _ _ = true), ?_⟩; conv => whnf) | (refine EvOr.go ?_; conv => whnf))
  refine ⟨_, g2, ?_⟩
  conv => whnf
  repeat (first | (refine ⟨(by kernel_rfl : chkR _ _ _ _ = true), ?_⟩; conv => whnf) | (refine EvOr.go ?_; conv => whnf))
  refine ⟨_, e1, ?_⟩
  conv => whnf
  repeat (first | (refine ⟨(by kernel_rfl : chkR _ _ _ _ = true), ?_⟩; conv => whnf) | (refine EvOr.go ?_; conv => whnf))
  refine ⟨⟨by omega, by omega⟩, ?_⟩
  conv => whnf
  repeat (first | (refine ⟨(by kernel_rfl : chkR _ _ _ _ = true), ?_⟩; conv => whnf) | (refine EvOr.go ?_; conv => whnf))
  refine ⟨_, g3, ?_⟩
  conv => whnf
  repeat (first | (refine ⟨(by kernel_rfl : chkR _ _ _ _ = true), ?_⟩; conv => whnf) | (refine EvOr.go ?_; conv => whnf))
  refine ⟨⟨by omega, by omega⟩, ?_⟩
  conv => whnf
  repeat (first | (refine ⟨(by kernel_rfl : chkR _ _ _ _ = true), ?_⟩; conv => whnf) | (refine EvOr.go ?_; conv => whnf))
  refine ⟨_, g1, ?_⟩
  conv => whnf
  repeat (first | (refine ⟨(by kernel_rfl : chkR _ _ _ _ = true), ?_⟩; conv => whnf) | (refine EvOr.go ?_; conv => whnf))
  refine CallG.use i4 c115 [] [] ?_ ?_ ?_ ?_ ?_ ?_; rfl; rfl; kernel_rfl; rfl; rfl
  conv => whnf
  repeat (first | (refine ⟨(by kernel_rfl : chkR _ _ _ _ = true), ?_⟩; conv => whnf) | (refine EvOr.go ?_; conv => whnf))
  refine ⟨by rw [List.length_map]; omega, ?_⟩
  conv => whnf
  repeat (first | (refine ⟨(by kernel_rfl : chkR _ _ _ _ = true), ?_⟩; conv => whnf) | (refine EvOr.go ?_; conv => whnf))
  refine ⟨fun h => absurd h (by omega), fun _ => ⟨by show (2 * (m + 2) + 192) * 64 ≤ 2 ^ 48; omega, ?_⟩⟩
  rw [eA]
  conv => whnf
  repeat (first | (refine ⟨(by kernel_rfl : chkR _ _ _ _ = true), ?_⟩; conv => whnf) | (refine EvOr.go ?_; conv => whnf))
  refine ⟨⟨by omega, by omega⟩, ?_⟩
  conv => whnf
  repeat (first | (refine ⟨(by kernel_rfl : chkR _ _ _ _ = true), ?_⟩; conv => whnf) | (refine EvOr.go ?_; conv => whnf))
  refine ⟨_, g1, ?_⟩
  conv => whnf
  repeat (first | (refine ⟨(by kernel_rfl : chkR _ _ _ _ = true), ?_⟩; conv => whnf) | (refine EvOr.go ?_; conv => whnf))
  refine ⟨⟨by omega, by omega⟩, ?_⟩
  conv => whnf
  repeat (first | (refine ⟨(by kernel_rfl : chkR _ _ _ _ = true), ?_⟩; conv => whnf) | (refine EvOr.go ?_; conv => whnf))
  refine ⟨_, g4, ?_⟩
  conv => whnf
  repeat (first | (refine ⟨(by kernel_rfl : chkR _ _ _ _ = true), ?_⟩; conv => whnf) | (refine EvOr.go ?_; conv => whnf))
  refine ⟨_, e1, ?_⟩
  conv => whnf
  repeat (first | (refine ⟨(by kernel_rfl : chkR _ _ _ _ = true), ?_⟩; conv => whnf) | (refine EvOr.go ?_; conv => whnf))
  refine ⟨⟨by omega, by omega⟩, ?_⟩
  conv => whnf
  repeat (first | (refine ⟨(by kernel_rfl : chkR _ _ _ _ = true), ?_⟩; conv => whnf) | (refine EvOr.go ?_; conv => whnf))
  refine ⟨_, g5, ?_⟩
  conv => whnf
  repeat (first | (refine ⟨(by kernel_rfl : chkR _ _ _ _ = true), ?_⟩; conv => whnf) | (refine EvOr.go ?_; conv => whnf))
  refine CodeT.loopN tabOk mixed I (m + 2) _ (StW.ofP [0, 1, 2, 6, 4] ?_ ?_ ?_) (fun k => by subst hI; rfl) ?_
  · subst hI; kernel_rfl
  · subst hI; rfl
  · subst hI; simp only [rwrI, rowX, e2]; rfl
  intro i hin
  subst hI
  have hlen : (othL i L M).length ≤ i := hold_len (othr L M) i
  show evC Try.prog tab _ _ ([rpV, .junk, .junk, .junk, .junk, .junk, .junk, .junk, .junk, .junk, .junk, .sc (.sl 3 0 64 (m + 2) none), .sc (nrS (othL i L M) 4), iv (i : Nat), .junk, .junk, .junk, .junk, .junk, .junk, .junk, .junk, .junk, .junk, .junk, .junk, .junk, .junk, .junk, .junk, .junk, .junk, .junk, .junk, .junk, .junk, .junk, .junk, .junk, .junk, .junk, .junk, .junk, .junk, .junk, .junk, .junk, .junk, .junk, .junk, .junk, .junk, .junk, .junk, .junk, .junk, .junk, .junk, .junk, .junk, .junk, .junk, .junk, .junk, .junk, .junk, .junk, .junk, .junk, .junk, .junk, .junk, .junk, .junk, .junk, .junk, .junk, .junk, .junk, .junk, .junk, .junk, .junk, .junk, .junk, .junk, .junk, .junk, .junk, .junk, .junk, .junk, .junk, .junk, .junk, .junk, .junk, .junk, .junk, .junk, .junk, .junk, .junk, .junk, .junk, .junk, .junk, .junk]) [refP (m + 2), rowX L, gonB K, rowX M, nrB (othL i L M)] _
  by_cases hi : i < m + 2
  · have gL := row_at (S := L) (k := i) (by omega)
    have gM := row_at (S := M) (k := i) (by omega)
    have eq := bysN_inj (hMs.at (i := i) (by omega)) (hS.at (i := i) (by omega))
    by_cases hg : M.getD i [] = L.getD i []
    · have hs : othL (i + 1) L M = othL i L M := hold_f (decide_eq_false (fun h => h hg))
      generalize M.getD i [] = u at *
      generalize L.getD i [] = v at *
      by_cases h0 : othL i L M = []
      · rw [h0] at hs ⊢
        conv => whnf
        repeat (first | (refine ⟨(by kernel_rfl : chkR _ _ _ _ = true), ?_⟩; conv => whnf) | (refine EvOr.go ?_; conv => whnf))
        intro c hc
        obtain rfl : c = true := by rw [hc]; exact decide_eq_true (by omega)
        conv => whnf
        repeat (first | (refine ⟨(by kernel_rfl : chkR _ _ _ _ = true), ?_⟩; conv => whnf) | (refine EvOr.go ?_; conv => whnf))
        refine ⟨⟨by omega, by omega⟩, ?_⟩
        conv => whnf
        repeat (first | (refine ⟨(by kernel_rfl : chkR _ _ _ _ = true), ?_⟩; conv => whnf) | (refine EvOr.go ?_; conv => whnf))
        refine ⟨_, gM, ?_⟩
        conv => whnf
        repeat (first | (refine ⟨(by kernel_rfl : chkR _ _ _ _ = true), ?_⟩; conv => whnf) | (refine EvOr.go ?_; conv => whnf))
        refine ⟨⟨by omega, by omega⟩, ?_⟩
        conv => whnf
        repeat (first | (refine ⟨(by kernel_rfl : chkR _ _ _ _ = true), ?_⟩; conv => whnf) | (refine EvOr.go ?_; conv => whnf))
        refine ⟨_, gL, ?_⟩
        conv => whnf
        repeat (first | (refine ⟨(by kernel_rfl : chkR _ _ _ _ = true), ?_⟩; conv => whnf) | (refine EvOr.go ?_; conv => whnf))
        refine ⟨rfl, ?_⟩
        refine ⟨eq34, ?_⟩
        conv => whnf
        repeat (first | (refine ⟨(by kernel_rfl : chkR _ _ _ _ = true), ?_⟩; conv => whnf) | (refine EvOr.go ?_; conv => whnf))
        intro c hc
        obtain rfl : c = false := by
          cases c
          · rfl
          · exact absurd (eq.2 hg) (hc.1 rfl)
        conv => whnf
        repeat (first | (refine ⟨(by kernel_rfl : chkR _ _ _ _ = true), ?_⟩; conv => whnf) | (refine EvOr.go ?_; conv => whnf))
        refine ⟨_, inc_nat (by omega), ?_⟩
        conv => whnf
        repeat (first | (refine ⟨(by kernel_rfl : chkR _ _ _ _ = true), ?_⟩; conv => whnf) | (refine EvOr.go ?_; conv => whnf))
        refine ⟨by omega, _, StW.ofP [0, 1, 2, 3, 4] ?_ ?_ ?_⟩
        · show stP _ _ (rwrI (m + 2) L M K (i + 1)).2 = true
          simp only [rwrI, hs]; kernel_rfl
        · show maskT _ (rwrI (m + 2) L M K (i + 1)).1 = renT _ (rwrI (m + 2) L M K (i + 1)).1
          simp only [rwrI, hs]; rfl
        · show pickH _ _ 0 (rwrI (m + 2) L M K (i + 1)).2 = renH _ (rwrI (m + 2) L M K (i + 1)).2
          simp only [rwrI, hs]; rfl
      · obtain ⟨q1, q2⟩ := nr_row 4 (List.length_pos_iff.2 h0)
        rw [q1, q2]
        conv => whnf
        repeat (first | (refine ⟨(by kernel_rfl : chkR _ _ _ _ = true), ?_⟩; conv => whnf) | (refine EvOr.go ?_; conv => whnf))
        intro c hc
        obtain rfl : c = true := by rw [hc]; exact decide_eq_true (by omega)
        conv => whnf
        repeat (first | (refine ⟨(by kernel_rfl : chkR _ _ _ _ = true), ?_⟩; conv => whnf) | (refine EvOr.go ?_; conv => whnf))
        refine ⟨⟨by omega, by omega⟩, ?_⟩
        conv => whnf
        repeat (first | (refine ⟨(by kernel_rfl : chkR _ _ _ _ = true), ?_⟩; conv => whnf) | (refine EvOr.go ?_; conv => whnf))
        refine ⟨_, gM, ?_⟩
        conv => whnf
        repeat (first | (refine ⟨(by kernel_rfl : chkR _ _ _ _ = true), ?_⟩; conv => whnf) | (refine EvOr.go ?_; conv => whnf))
        refine ⟨⟨by omega, by omega⟩, ?_⟩
        conv => whnf
        repeat (first | (refine ⟨(by kernel_rfl : chkR _ _ _ _ = true), ?_⟩; conv => whnf) | (refine EvOr.go ?_; conv => whnf))
        refine ⟨_, gL, ?_⟩
        conv => whnf
        repeat (first | (refine ⟨(by kernel_rfl : chkR _ _ _ _ = true), ?_⟩; conv => whnf) | (refine EvOr.go ?_; conv => whnf))
        refine ⟨rfl, ?_⟩
        refine ⟨eq34, ?_⟩
        conv => whnf
        repeat (first | (refine ⟨(by kernel_rfl : chkR _ _ _ _ = true), ?_⟩; conv => whnf) | (refine EvOr.go ?_; conv => whnf))
        intro c hc
        obtain rfl : c = false := by
          cases c
          · rfl
          · exact absurd (eq.2 hg) (hc.1 rfl)
        conv => whnf
        repeat (first | (refine ⟨(by kernel_rfl : chkR _ _ _ _ = true), ?_⟩; conv => whnf) | (refine EvOr.go ?_; conv => whnf))
        refine ⟨_, inc_nat (by omega), ?_⟩
        conv => whnf
        repeat (first | (refine ⟨(by kernel_rfl : chkR _ _ _ _ = true), ?_⟩; conv => whnf) | (refine EvOr.go ?_; conv => whnf))
        refine ⟨by omega, _, StW.ofP [0, 1, 2, 3, 4] ?_ ?_ ?_⟩
        · show stP _ _ (rwrI (m + 2) L M K (i + 1)).2 = true
          simp only [rwrI, hs, q2]; kernel_rfl
        · show maskT _ (rwrI (m + 2) L M K (i + 1)).1 = renT _ (rwrI (m + 2) L M K (i + 1)).1
          simp only [rwrI, hs, q1]; rfl
        · show pickH _ _ 0 (rwrI (m + 2) L M K (i + 1)).2 = renH _ (rwrI (m + 2) L M K (i + 1)).2
          simp only [rwrI, hs, q2]; rfl
    · have hs : othL (i + 1) L M = othL i L M ++ [(i : Int)] := hold_t (decide_eq_true hg)
      generalize M.getD i [] = u at *
      generalize L.getD i [] = v at *
      by_cases h0 : othL i L M = []
      · rw [h0] at hs ⊢
        conv => whnf
        repeat (first | (refine ⟨(by kernel_rfl : chkR _ _ _ _ = true), ?_⟩; conv => whnf) | (refine EvOr.go ?_; conv => whnf))
        intro c hc
        obtain rfl : c = true := by rw [hc]; exact decide_eq_true (by omega)
        conv => whnf
        repeat (first | (refine ⟨(by kernel_rfl : chkR _ _ _ _ = true), ?_⟩; conv => whnf) | (refine EvOr.go ?_; conv => whnf))
        refine ⟨⟨by omega, by omega⟩, ?_⟩
        conv => whnf
        repeat (first | (refine ⟨(by kernel_rfl : chkR _ _ _ _ = true), ?_⟩; conv => whnf) | (refine EvOr.go ?_; conv => whnf))
        refine ⟨_, gM, ?_⟩
        conv => whnf
        repeat (first | (refine ⟨(by kernel_rfl : chkR _ _ _ _ = true), ?_⟩; conv => whnf) | (refine EvOr.go ?_; conv => whnf))
        refine ⟨⟨by omega, by omega⟩, ?_⟩
        conv => whnf
        repeat (first | (refine ⟨(by kernel_rfl : chkR _ _ _ _ = true), ?_⟩; conv => whnf) | (refine EvOr.go ?_; conv => whnf))
        refine ⟨_, gL, ?_⟩
        conv => whnf
        repeat (first | (refine ⟨(by kernel_rfl : chkR _ _ _ _ = true), ?_⟩; conv => whnf) | (refine EvOr.go ?_; conv => whnf))
        refine ⟨rfl, ?_⟩
        refine ⟨eq34, ?_⟩
        conv => whnf
        repeat (first | (refine ⟨(by kernel_rfl : chkR _ _ _ _ = true), ?_⟩; conv => whnf) | (refine EvOr.go ?_; conv => whnf))
        intro c hc
        obtain rfl : c = true := hc.2 (fun h => hg (eq.1 h))
        conv => whnf
        repeat (first | (refine ⟨(by kernel_rfl : chkR _ _ _ _ = true), ?_⟩; conv => whnf) | (refine EvOr.go ?_; conv => whnf))
        refine ⟨by simp, ?_⟩
        conv => whnf
        repeat (first | (refine ⟨(by kernel_rfl : chkR _ _ _ _ = true), ?_⟩; conv => whnf) | (refine EvOr.go ?_; conv => whnf))
        refine ⟨fun h => absurd h (by decide), fun _ => ⟨by decide, ?_⟩⟩
        conv => whnf
        repeat (first | (refine ⟨(by kernel_rfl : chkR _ _ _ _ = true), ?_⟩; conv => whnf) | (refine EvOr.go ?_; conv => whnf))
        refine ⟨_, inc_nat (by omega), ?_⟩
        conv => whnf
        repeat (first | (refine ⟨(by kernel_rfl : chkR _ _ _ _ = true), ?_⟩; conv => whnf) | (refine EvOr.go ?_; conv => whnf))
        refine ⟨by omega, _, StW.ofP [0, 1, 2, 3, 6] ?_ ?_ ?_⟩
        · show stP _ _ (rwrI (m + 2) L M K (i + 1)).2 = true
          simp only [rwrI, hs]; kernel_rfl
        · show maskT _ (rwrI (m + 2) L M K (i + 1)).1 = renT _ (rwrI (m + 2) L M K (i + 1)).1
          simp only [rwrI, hs]; rfl
        · show pickH _ _ 0 (rwrI (m + 2) L M K (i + 1)).2 = renH _ (rwrI (m + 2) L M K (i + 1)).2
          simp only [rwrI, hs]; rfl
      · obtain ⟨q1, q2⟩ := nr_row 4 (List.length_pos_iff.2 h0)
        obtain ⟨q3, q4⟩ := nr_row 4 (T := othL i L M ++ [(i : Int)]) (by simp)
        rw [List.length_append, show [(i : Int)].length = 1 from rfl] at q3
        have em : (othL i L M ++ [(i : Int)]).map intS = List.take (othL i L M).length (List.drop 0 ((othL i L M).map intS)) ++ [[.one (.raw (.int .i64 (i : Nat)))]] := by
          have e9 : List.take (othL i L M).length ((othL i L M).map intS) = (othL i L M).map intS := List.take_of_length_le (by rw [List.length_map]; exact Nat.le_refl _)
          rw [List.map_append, List.drop_zero, e9]; rfl
        rw [q1, q2]
        generalize othL i L M = O at *
        conv => whnf
        repeat (first | (refine ⟨(by kernel_rfl : chkR _ _ _ _ = true), ?_⟩; conv => whnf) | (refine EvOr.go ?_; conv => whnf))
        intro c hc
        obtain rfl : c = true := by rw [hc]; exact decide_eq_true (by omega)
        conv => whnf
        repeat (first | (refine ⟨(by kernel_rfl : chkR _ _ _ _ = true), ?_⟩; conv => whnf) | (refine EvOr.go ?_; conv => whnf))
        refine ⟨⟨by omega, by omega⟩, ?_⟩
        conv => whnf
        repeat (first | (refine ⟨(by kernel_rfl : chkR _ _ _ _ = true), ?_⟩; conv => whnf) | (refine EvOr.go ?_; conv => whnf))
        refine ⟨_, gM, ?_⟩
        conv => whnf
        repeat (first | (refine ⟨(by kernel_rfl : chkR _ _ _ _ = true), ?_⟩; conv => whnf) | (refine EvOr.go ?_; conv => whnf))
        refine ⟨⟨by omega, by omega⟩, ?_⟩
        conv => whnf
        repeat (first | (refine ⟨(by kernel_rfl : chkR _ _ _ _ = true), ?_⟩; conv => whnf) | (refine EvOr.go ?_; conv => whnf))
        refine ⟨_, gL, ?_⟩
        conv => whnf
        repeat (first | (refine ⟨(by kernel_rfl : chkR _ _ _ _ = true), ?_⟩; conv => whnf) | (refine EvOr.go ?_; conv => whnf))
        refine ⟨rfl, ?_⟩
        refine ⟨eq34, ?_⟩
        conv => whnf
        repeat (first | (refine ⟨(by kernel_rfl : chkR _ _ _ _ = true), ?_⟩; conv => whnf) | (refine EvOr.go ?_; conv => whnf))
        intro c hc
        obtain rfl : c = true := hc.2 (fun h => hg (eq.1 h))
        conv => whnf
        repeat (first | (refine ⟨(by kernel_rfl : chkR _ _ _ _ = true), ?_⟩; conv => whnf) | (refine EvOr.go ?_; conv => whnf))
        refine ⟨by simp, ?_⟩
        conv => whnf
        repeat (first | (refine ⟨(by kernel_rfl : chkR _ _ _ _ = true), ?_⟩; conv => whnf) | (refine EvOr.go ?_; conv => whnf))
        refine ⟨by rw [List.length_map]; omega, fun h => absurd h (by decide), fun _ => ⟨by show (2 * (O.length + 1) + 192) * 8 ≤ 2 ^ 48; omega, ?_⟩⟩
        conv => whnf
        repeat (first | (refine ⟨(by kernel_rfl : chkR _ _ _ _ = true), ?_⟩; conv => whnf) | (refine EvOr.go ?_; conv => whnf))
        refine ⟨_, inc_nat (by omega), ?_⟩
        conv => whnf
        repeat (first | (refine ⟨(by kernel_rfl : chkR _ _ _ _ = true), ?_⟩; conv => whnf) | (refine EvOr.go ?_; conv => whnf))
        refine ⟨by omega, _, StW.ofP [0, 1, 2, 3, 6] ?_ ?_ ?_⟩
        · show stP _ _ (rwrI (m + 2) L M K (i + 1)).2 = true
          simp only [rwrI, hs, q4]; kernel_rfl
        · show maskT _ (rwrI (m + 2) L M K (i + 1)).1 = renT _ (rwrI (m + 2) L M K (i + 1)).1
          simp only [rwrI, hs, q3]; rfl
        · show pickH _ _ 0 (rwrI (m + 2) L M K (i + 1)).2 = renH _ (rwrI (m + 2) L M K (i + 1)).2
          simp only [rwrI, hs, q4, rowI, em]; rfl
  · obtain rfl : i = m + 2 := by omega
    by_cases h0 : othL (m + 2) L M = []
    · rw [h0]
      conv => whnf
      repeat (first | (refine ⟨(by kernel_rfl : chkR _ _ _ _ = true), ?_⟩; conv => whnf) | (refine EvOr.go ?_; conv => whnf))
      intro c hc
      obtain rfl : c = false := by rw [hc]; exact decide_eq_false (by omega)
      conv => whnf
      repeat (first | (refine ⟨(by kernel_rfl : chkR _ _ _ _ = true), ?_⟩; conv => whnf) | (refine EvOr.go ?_; conv => whnf))
      exact retQ.allS tabOk [0, 1, 2, 3, 4] _ [.sc nilS, iv 0] rfl (by first | exact .inr rfl | exact .inl rfl) (by repeat' (first | exact trivial | rfl | (intro h; cases h; done) | (refine ⟨?_, ?_⟩))) rfl (by rfl) (by kernel_rfl) (by first | rfl | kernel_rfl)
    · obtain ⟨q1, q2⟩ := nr_row 4 (List.length_pos_iff.2 h0)
      rw [q1, q2]
      conv => whnf
      repeat (first | (refine ⟨(by kernel_rfl : chkR _ _ _ _ = true), ?_⟩; conv => whnf) | (refine EvOr.go ?_; conv => whnf))
      intro c hc
      obtain rfl : c = false := by rw [hc]; exact decide_eq_false (by omega)
      conv => whnf
      repeat (first | (refine ⟨(by kernel_rfl : chkR _ _ _ _ = true), ?_⟩; conv => whnf) | (refine EvOr.go ?_; conv => whnf))
      exact retQ.allS tabOk [0, 1, 2, 3, 4] _ [.sc (.sl 4 0 1 (othL (m + 2) L M).length none), iv 0] rfl (by first | exact .inr rfl | exact .inl rfl) (by repeat' (first | exact trivial | rfl | (intro h; cases h; done) | (refine ⟨?_, ?_⟩))) rfl (by rfl) (by kernel_rfl) (by first | rfl | kernel_rfl)
end Go.Proofs.Ytdmcbfmpnakdfaa.Eng.St
/- StripeOrder, walked whole. -/
namespace Go.Proofs.Ytdmcbfmpnakdfaa.Eng.St
open Go Go.RowKit Go.Shelf Go.Proofs Go.Proofs.Ytdmcbfmpnakdfaa.Gf Go.Proofs.Ytdmcbfmpnakdfaa.Rf Go.Proofs.Ytdmcbfmpnakdfaa.Oa
set_option maxRecDepth 20000
set_option maxHeartbeats 8000000
/-- A row's block whose columns and counts have the ids b and c. -/
abbrev rowAt (x : Bool) (n b c : Nat) : Option ABlk := some (.row .one 108 2 [[.one (.sl b 0 64 n (capX x n)), .one (.sl c 0 1 n (some n))]] [b, c])
def ordJ (x : Bool) (n : Nat) (D X : Option ABlk) (L M : List (List Nat)) (K H : List Nat) (j : Nat) : LTm × LHp :=
  ([.junk, .junk, .junk, .junk, .junk, iv (n : Nat), .sc (.ptr 2 0 2 0), .junk, .sc (.ptr 5 0 2 0), .junk, .junk, .junk, .junk, .junk, .junk, .junk, .junk, iv (j : Nat), .junk, .junk, .junk, .junk, .junk, .junk, .junk, .junk, .junk, .junk, .junk, .junk, .junk, .junk, .junk, .junk, .junk, .junk, .junk, .junk, .junk, .junk, .junk, .junk, .junk, .junk, .junk, .junk, .junk, .junk, .junk, .junk, .junk, .junk, .junk, .junk, .junk, .junk, .junk, .junk, .junk, .junk, .junk, .junk, .junk, .junk, .junk, .junk, .junk, .junk, .junk, .junk, .junk, .junk, .junk, .junk, .junk, .junk, .junk, .junk, .junk, .junk, .junk, .junk, .junk, .junk, .junk, .junk, .junk, .junk, .junk, .junk, .junk, .junk, .junk, .junk, .junk, .junk, .junk, .junk, .junk, .junk, .junk, .junk, .junk, .junk, .junk, .junk, .junk, .junk, .junk, .junk, .junk, .junk, .junk, .junk, .junk, .junk, .junk, .junk, .junk, .junk, .junk, .junk, .junk, .junk, .junk, .junk, .junk, .junk, .junk, .junk, .junk, .junk, .junk, .junk, .junk, .junk, .junk, .junk, .junk, .junk, .junk, .junk, .junk, .junk, .junk, .junk, .junk, .junk, .junk, .junk, .junk, .junk, .junk, .junk, .junk, .junk, .junk, .junk, .junk, .junk, .junk, .junk, .junk, .junk, .junk, .junk, .junk, .junk, .junk, .junk, .junk, .junk, .junk, .junk, .junk, .junk, .junk, .junk, .junk, .junk, .junk], [D, X, rowAt x n 3 4, colB x L, knB K, rowAt x n 6 7, colB x M, knB H])
theorem ordE (x : Bool) (n : Nat) (T : List (List Nat)) (X : Option ABlk) (hX : X = none ∨ ∃ l, X = rowA l) (L M : List (List Nat)) (K H : List Nat) (hn : n < 2 ^ 32)
    (hg : ∀ j : Nat, j < n → ∃ y e, FunT Try.prog 57 [rpV, iv (j : Nat)] (rw3 x n L K) (.tup [secV y, iv e]) (rw3 x n L K) ∧ FunT Try.prog 57 [rpV, iv (j : Nat)] (rw3 x n M H) (.tup [secV y, iv e]) (rw3 x n M H)) :
    CodeT Try.prog 2 (suf 11 (bodyC Try.f11)) ([.junk, .junk, .junk, .junk, .junk, iv (n : Nat), .sc (.ptr 2 0 2 0), .junk, .sc (.ptr 5 0 2 0), .junk, .junk, .junk, .junk, .junk, .junk, .junk, .junk, .junk, .junk, .junk, .junk, .junk, .junk, .junk, .junk, .junk, .junk, .junk, .junk, .junk, .junk, .junk, .junk, .junk, .junk, .junk, .junk, .junk, .junk, .junk, .junk, .junk, .junk, .junk, .junk, .junk, .junk, .junk, .junk, .junk, .junk, .junk, .junk, .junk, .junk, .junk, .junk, .junk, .junk, .junk, .junk, .junk, .junk, .junk, .junk, .junk, .junk, .junk, .junk, .junk, .junk, .junk, .junk, .junk, .junk, .junk, .junk, .junk, .junk, .junk, .junk, .junk, .junk, .junk, .junk, .junk, .junk, .junk, .junk, .junk, .junk, .junk, .junk, .junk, .junk, .junk, .junk, .junk, .junk, .junk, .junk, .junk, .junk, .junk, .junk, .junk, .junk, .junk, .junk, .junk, .junk, .junk, .junk, .junk, .junk, .junk, .junk, .junk, .junk, .junk, .junk, .junk, .junk, .junk, .junk, .junk, .junk, .junk, .junk, .junk, .junk, .junk, .junk, .junk, .junk, .junk, .junk, .junk, .junk, .junk, .junk, .junk, .junk, .junk, .junk, .junk, .junk, .junk, .junk, .junk, .junk, .junk, .junk, .junk, .junk, .junk, .junk, .junk, .junk, .junk, .junk, .junk, .junk, .junk, .junk, .junk, .junk, .junk, .junk, .junk, .junk, .junk, .junk, .junk, .junk, .junk, .junk, .junk, .junk, .junk, .junk]) [rowS T, X, rowAt x n 3 4, colB x L, knB K, rowAt x n 6 7, colB x M, knB H]
      (retQ Try.prog Try.f11 2 (bv true) [rowS T, X]) := by
  obtain ⟨I, hI⟩ : ∃ I, I = ordJ x n (rowS T) X L M K H := ⟨_, rfl⟩
  rcases hX with rfl | ⟨l, rfl⟩ <;> cases x <;>
  · refine evC_sound tabOk mixed _ _ _ _ ?_
    conv => whnf
    repeat (first | (refine ⟨(by kernel_rfl : chkR _ _ _ _ = true), ?_⟩; conv => whnf) | (refine EvOr.go ?_; conv => whnf))
    refine CodeT.loopN tabOk mixed I n _ (StW.ofP [0, 1, 2, 3, 4, 5, 6, 7] ?_ ?_ ?_) (fun k => by subst hI; rfl) ?_
    · subst hI; kernel_rfl
    · subst hI; rfl
    · subst hI; rfl
    intro k hkl
    subst hI
    show evC Try.prog tab _ _ (ordJ _ n (rowS T) _ L M K H k).1 (ordJ _ n (rowS T) _ L M K H k).2 _
    by_cases hk : k < n
    · obtain ⟨y, e, g1, g2⟩ := hg k hk
      unfold ordJ
      conv => whnf
      repeat (first | (refine ⟨(by kernel_rfl : chkR _ _ _ _ = true), ?_⟩; conv => whnf) | (refine EvOr.go ?_; conv => whnf))
      intro c hc
      obtain rfl : c = true := by rw [hc]; exact decide_eq_true (by omega)
      conv => whnf
      repeat (first | (refine ⟨(by kernel_rfl : chkR _ _ _ _ = true), ?_⟩; conv => whnf) | (refine EvOr.go ?_; conv => whnf))
      refine CallG.use g1 c57 [2, 3, 4] [] ?_ ?_ ?_ ?_ ?_ ?_; rfl; rfl; kernel_rfl; rfl; rfl
      conv => whnf
      repeat (first | (refine ⟨(by kernel_rfl : chkR _ _ _ _ = true), ?_⟩; conv => whnf) | (refine EvOr.go ?_; conv => whnf))
      refine CallG.use g2 c57 [5, 6, 7] [] ?_ ?_ ?_ ?_ ?_ ?_; rfl; rfl; kernel_rfl; rfl; rfl
      conv => whnf
      repeat (first | (refine ⟨(by kernel_rfl : chkR _ _ _ _ = true), ?_⟩; conv => whnf) | (refine EvOr.go ?_; conv => whnf))
      refine ⟨rfl, ?_⟩
      refine ⟨eq34, ?_⟩
      conv => whnf
      repeat (first | (refine ⟨(by kernel_rfl : chkR _ _ _ _ = true), ?_⟩; conv => whnf) | (refine EvOr.go ?_; conv => whnf))
      intro c hc
      obtain rfl : c = false := by
        cases c
        · rfl
        · exact absurd rfl (hc.1 rfl)
      conv => whnf
      repeat (first | (refine ⟨(by kernel_rfl : chkR _ _ _ _ = true), ?_⟩; conv => whnf) | (refine EvOr.go ?_; conv => whnf))
      conv => whnf
      repeat (first | (refine ⟨(by kernel_rfl : chkR _ _ _ _ = true), ?_⟩; conv => whnf) | (refine EvOr.go ?_; conv => whnf))
      intro c hc
      obtain rfl : c = false := by rw [hc]; simp
      conv => whnf
      repeat (first | (refine ⟨(by kernel_rfl : chkR _ _ _ _ = true), ?_⟩; conv => whnf) | (refine EvOr.go ?_; conv => whnf))
      refine ⟨_, inc_nat (by omega), ?_⟩
      conv => whnf
      repeat (first | (refine ⟨(by kernel_rfl : chkR _ _ _ _ = true), ?_⟩; conv => whnf) | (refine EvOr.go ?_; conv => whnf))
      refine ⟨by first | exact hk | omega, _, StW.ofP [0, 1, 2, 3, 4, 5, 6, 7] ?_ ?_ ?_⟩
      · kernel_rfl
      · rfl
      · rfl
    · obtain rfl : k = n := by omega
      unfold ordJ
      conv => whnf
      repeat (first | (refine ⟨(by kernel_rfl : chkR _ _ _ _ = true), ?_⟩; conv => whnf) | (refine EvOr.go ?_; conv => whnf))
      intro c hc
      obtain rfl : c = false := by rw [hc]; exact decide_eq_false (by omega)
      conv => whnf
      repeat (first | (refine ⟨(by kernel_rfl : chkR _ _ _ _ = true), ?_⟩; conv => whnf) | (refine EvOr.go ?_; conv => whnf))
      refine CallG.use works51 c51 [] [] ?_ ?_ ?_ ?_ ?_ ?_; rfl; rfl; kernel_rfl; rfl; rfl
      conv => whnf
      repeat (first | (refine ⟨(by kernel_rfl : chkR _ _ _ _ = true), ?_⟩; conv => whnf) | (refine EvOr.go ?_; conv => whnf))
      exact retQ.one rfl (.inr rfl) rfl (Nat.le_of_ble_eq_true rfl) rfl
theorem kz_pos {ks : List Nat} (h : 0 < ks.length) : 0 < (kz ks).length := by rw [kz_len]; exact h
theorem fixMid_len {Z : List (List Nat)} {m : Nat} {ks : List Nat} : (fixMid Z m ks).length = Z.length := by
  match ks with
  | [] => rfl
  | [i] =>
    simp only [fixMid]
    split
    · rw [List.length_set]
    · rfl
  | [i, j] =>
    simp only [fixMid]
    split
    · rw [List.length_set, List.length_set]
    · split
      · split <;> rw [List.length_set]
      · rfl
  | _ :: _ :: _ :: _ => rfl
theorem fixR_len {L : List (List Nat)} {m : Nat} {ks : List Nat} : (fixR L m ks).length = L.length := by
  unfold fixR fixEnd
  rw [foldl_len (fun _ _ => endOne_length), fixMid_len, zeroed_length]
theorem fixMid_secs {Z : List (List Nat)} {m : Nat} {ks : List Nat} (hZ : Secs Z) (hm : m + 2 ≤ Z.length) : Secs (fixMid Z m ks) := by
  have a := hZ.at (i := m) (by omega)
  have b := hZ.at (i := m + 1) (by omega)
  have c := psum_sec hZ m (by omega)
  have d := qsum_sec hZ m (by omega)
  match ks with
  | [] => exact hZ
  | [i] =>
    simp only [fixMid]
    split
    · exact set_secs hZ (xorL_sec a c)
    · exact hZ
  | [i, j] =>
    simp only [fixMid]
    split
    · exact set_secs (set_secs hZ (twoA_sec (xorL_sec a c) (xorL_sec b d))) (twoB_sec (xorL_sec a c) (xorL_sec b d))
    · split
      · split
        · exact set_secs hZ (mulL_sec (xorL_sec b d))
        · exact set_secs hZ (xorL_sec a c)
      · exact hZ
  | _ :: _ :: _ :: _ => exact hZ
theorem fixR_secs {L : List (List Nat)} {n : Nat} {ks : List Nat} (hL : Secs L) (hn : n - 2 + 2 ≤ L.length) : Secs (fixR L (n - 2) ks) := by
  have h1 := zeroed_secs (ks := ks) hL
  have h2 : Secs (fixMid (zeroed L ks) (n - 2) ks) := fixMid_secs h1 (by rw [zeroed_length]; exact hn)
  have hl : (fixMid (zeroed L ks) (n - 2) ks).length = L.length := by rw [fixMid_len, zeroed_length]
  unfold fixR fixEnd
  exact foldl_secs (fun _ _ h => endOne_secs (psum_sec h2 _ (by omega)) (qsum_sec h2 _ (by omega)) h) _ _ h2
/-- Both rows. -/
structure OS where
  lr : List (List Nat)
  kr : List Nat
  lq : List (List Nat)
  kq : List Nat
structure OInv (n : Nat) (σ : OS) (b : Nat) : Prop where
  l1 : σ.lr.length = n
  l2 : σ.kr.length = n
  l3 : σ.lq.length = n
  l4 : σ.kq.length = n
  s1 : Secs σ.lr
  s2 : Secs σ.lq
  bd : ∀ j, σ.kr.getD j 0 ≤ b ∧ σ.kq.getD j 0 ≤ b
  zr : ∀ j, j < n → (σ.kr.getD j 0 = 0 ↔ σ.kq.getD j 0 = 0)
  eq : ∀ j, j < n → σ.kr.getD j 0 ≠ 0 → σ.lr.getD j [] = σ.lq.getD j []
theorem ordM (n : Nat) (T : List (List Nat)) (X : Option ABlk) (hX : X = none ∨ ∃ l, X = rowA l) (h4 : 4 ≤ n) (h64 : n ≤ 64) (σ : OS) (b : Nat) (hσ : OInv n σ b) :
    CodeT Try.prog 2 (suf 8 (bodyC Try.f11)) ([.junk, .junk, .junk, .junk, .junk, iv (n : Nat), .sc (.ptr 2 0 2 0), .junk, .sc (.ptr 5 0 2 0), .junk, .junk, .junk, .junk, .junk, .junk, .junk, .junk, .junk, .junk, .junk, .junk, .junk, .junk, .junk, .junk, .junk, .junk, .junk, .junk, .junk, .junk, .junk, .junk, .junk, .junk, .junk, .junk, .junk, .junk, .junk, .junk, .junk, .junk, .junk, .junk, .junk, .junk, .junk, .junk, .junk, .junk, .junk, .junk, .junk, .junk, .junk, .junk, .junk, .junk, .junk, .junk, .junk, .junk, .junk, .junk, .junk, .junk, .junk, .junk, .junk, .junk, .junk, .junk, .junk, .junk, .junk, .junk, .junk, .junk, .junk, .junk, .junk, .junk, .junk, .junk, .junk, .junk, .junk, .junk, .junk, .junk, .junk, .junk, .junk, .junk, .junk, .junk, .junk, .junk, .junk, .junk, .junk, .junk, .junk, .junk, .junk, .junk, .junk, .junk, .junk, .junk, .junk, .junk, .junk, .junk, .junk, .junk, .junk, .junk, .junk, .junk, .junk, .junk, .junk, .junk, .junk, .junk, .junk, .junk, .junk, .junk, .junk, .junk, .junk, .junk, .junk, .junk, .junk, .junk, .junk, .junk, .junk, .junk, .junk, .junk, .junk, .junk, .junk, .junk, .junk, .junk, .junk, .junk, .junk, .junk, .junk, .junk, .junk, .junk, .junk, .junk, .junk, .junk, .junk, .junk, .junk, .junk, .junk, .junk, .junk, .junk, .junk, .junk, .junk, .junk, .junk, .junk, .junk, .junk, .junk, .junk]) [rowS T, X, rowAt false n 3 4, colB false σ.lr, knB σ.kr, rowAt false n 6 7, colB false σ.lq, knB σ.kq]
      (retQ Try.prog Try.f11 2 (bv true) [rowS T, X]) := by
  have hks : lostN n σ.kr = lostN n σ.kq := lostN_ext hσ.zr
  obtain ⟨L, K, M, H⟩ := σ
  obtain ⟨l1, l2, l3, l4, s1, s2, bd, zr, eq⟩ := hσ
  simp only at l1 l2 l3 l4 s1 s2 bd zr eq hks ⊢
  by_cases h3 : 2 < (lostN n K).length
  · have m1 := mend_full false n L K h4 h64 l1 l2 s1 h3
    have m2 := mend_full false n M H h4 h64 l3 l4 s2 (by rw [← hks]; exact h3)
    have r1 := rright_ok false n L K (by omega) h64 l1 l2 s1
    have r2 := rright_ok false n M H (by omega) h64 l3 l4 s2
    have ne : ∀ Z : List Nat, lostN n Z = lostN n K → lostL n Z ≠ [] := fun Z hZ e => by
      rw [lost_kz, kz_nil, hZ] at e
      rw [e] at h3
      exact absurd h3 (by decide)
    rw [decide_eq_false (ne K rfl), Bool.false_and] at r1
    rw [decide_eq_false (ne H hks.symm), Bool.false_and] at r2
    have gE := ordE false n T X hX L M K H (by omega) (fun j hj => by
      have e1 := get_in false n L K j hj l1 l2
      have e2 := get_in false n M H j hj l3 l4
      refine ⟨_, _, e1, ?_⟩
      have q1 : getS M H j = getS L K j := by
        unfold getS
        by_cases h : K.getD j 0 = 0
        · rw [if_pos h, if_pos ((zr j hj).1 h)]
        · rw [if_neg h, if_neg (fun e => h ((zr j hj).2 e)), eq j hj h]
      have q2 : getE H j = getE K j := by
        unfold getE
        by_cases h : K.getD j 0 = 0
        · rw [if_pos h, if_pos ((zr j hj).1 h)]
        · rw [if_neg h, if_neg (fun e => h ((zr j hj).2 e))]
      rw [q1, q2] at e2
      exact e2)
    rcases hX with rfl | ⟨l, rfl⟩ <;>
    · refine evC_sound tabOk mixed _ _ _ _ ?_
      conv => whnf
      repeat (first | (refine ⟨(by kernel_rfl : chkR _ _ _ _ = true), ?_⟩; conv => whnf) | (refine EvOr.go ?_; conv => whnf))
      refine CallG.use m1 c55 [2, 3, 4] [] ?_ ?_ ?_ ?_ ?_ ?_; rfl; rfl; kernel_rfl; rfl; rfl
      conv => whnf
      repeat (first | (refine ⟨(by kernel_rfl : chkR _ _ _ _ = true), ?_⟩; conv => whnf) | (refine EvOr.go ?_; conv => whnf))
      refine CallG.use m2 c55 [5, 6, 7] [] ?_ ?_ ?_ ?_ ?_ ?_; rfl; rfl; kernel_rfl; rfl; rfl
      conv => whnf
      repeat (first | (refine ⟨(by kernel_rfl : chkR _ _ _ _ = true), ?_⟩; conv => whnf) | (refine EvOr.go ?_; conv => whnf))
      intro c hc
      obtain rfl : c = false := by rw [hc]; rfl
      conv => whnf
      repeat (first | (refine ⟨(by kernel_rfl : chkR _ _ _ _ = true), ?_⟩; conv => whnf) | (refine EvOr.go ?_; conv => whnf))
      intro c hc
      obtain rfl : c = false := by rw [hc]; rfl
      conv => whnf
      repeat (first | (refine ⟨(by kernel_rfl : chkR _ _ _ _ = true), ?_⟩; conv => whnf) | (refine EvOr.go ?_; conv => whnf))
      refine CallG.use r1 c56 [2, 3, 4] [] ?_ ?_ ?_ ?_ ?_ ?_; rfl; rfl; kernel_rfl; rfl; rfl
      conv => whnf
      repeat (first | (refine ⟨(by kernel_rfl : chkR _ _ _ _ = true), ?_⟩; conv => whnf) | (refine EvOr.go ?_; conv => whnf))
      refine CallG.use r2 c56 [5, 6, 7] [] ?_ ?_ ?_ ?_ ?_ ?_; rfl; rfl; kernel_rfl; rfl; rfl
      conv => whnf
      repeat (refine ⟨(by kernel_rfl : chkR _ _ _ _ = true), ?_⟩; conv => whnf)
      refine EvOr.go ?_
      conv => whnf
      refine EvOr.cut (CodeT.weaken _ (StW.ofP [0, 1, 2, 3, 4, 5, 6, 7] ?_ ?_ ?_) gE)
      · kernel_rfl
      · rfl
      · rfl
  · have m1 := mend_ok false n L K h4 h64 l1 l2 s1 (by omega)
    have m2 := mend_ok false n M H h4 h64 l3 l4 s2 (by rw [← hks]; omega)
    have fs : fixR M (n - 2) (lostN n H) = fixR L (n - 2) (lostN n K) := by rw [← hks]; exact (fix_same l1 l3 eq).symm
    rw [fs] at m2
    have e1 := setK_lost l2
    have e2 := setK_lost l4
    have z1 := fun j (hj : j < n) => setK_some l2 hj
    have z2 := fun j (hj : j < n) => setK_some l4 hj
    have y1 : (setK K (lostN n K)).length = n := by rw [setK_len, l2]
    have y2 : (setK H (lostN n H)).length = n := by rw [setK_len, l4]
    rw [← hks] at m2 e2 z2 y2
    have sR : Secs (fixR L (n - 2) (lostN n K)) := fixR_secs s1 (by omega)
    have lR : (fixR L (n - 2) (lostN n K)).length = n := by rw [fixR_len, l1]
    generalize fixR L (n - 2) (lostN n K) = R at *
    generalize lostN n K = ks at *
    generalize setK K ks = K5 at *
    generalize setK H ks = H5 at *
    have r1 := rright_ok true n R K5 (by omega) h64 lR y1 sR
    have r2 := rright_ok true n R H5 (by omega) h64 lR y2 sR
    rw [lost_kz, e1] at r1
    rw [lost_kz, e2] at r2
    have r1 : FunT Try.prog 56 [rpV] (rw3 true n R K5) (bv (rightB R)) (rw3 true n R K5) := r1
    have r2 : FunT Try.prog 56 [rpV] (rw3 true n R H5) (bv (rightB R)) (rw3 true n R H5) := r2
    have gE := ordE true n T X hX R R K5 H5 (by omega) (fun j hj => by
      have g1 := get_in true n R K5 j hj lR y1
      have g2 := get_in true n R H5 j hj lR y2
      unfold getS getE at g1 g2
      rw [if_neg (z1 j hj), if_neg (z1 j hj)] at g1
      rw [if_neg (z2 j hj), if_neg (z2 j hj)] at g2
      exact ⟨_, _, g1, g2⟩)
    generalize rightB R = b at *
    by_cases h0 : ks = []
    · subst h0
      rcases hX with rfl | ⟨l, rfl⟩ <;>
      · refine evC_sound tabOk mixed _ _ _ _ ?_
        conv => whnf
        repeat (first | (refine ⟨(by kernel_rfl : chkR _ _ _ _ = true), ?_⟩; conv => whnf) | (refine EvOr.go ?_; conv => whnf))
        refine CallG.use m1 c55 [2, 3, 4] [0, 2] ?_ ?_ ?_ ?_ ?_ ?_; rfl; rfl; kernel_rfl; rfl; rfl
        conv => whnf
        repeat (first | (refine ⟨(by kernel_rfl : chkR _ _ _ _ = true), ?_⟩; conv => whnf) | (refine EvOr.go ?_; conv => whnf))
        refine CallG.use m2 c55 [5, 6, 7] [0, 2] ?_ ?_ ?_ ?_ ?_ ?_; rfl; rfl; kernel_rfl; rfl; rfl
        conv => whnf
        repeat (first | (refine ⟨(by kernel_rfl : chkR _ _ _ _ = true), ?_⟩; conv => whnf) | (refine EvOr.go ?_; conv => whnf))
        intro c hc
        obtain rfl : c = false := by rw [hc]; rfl
        conv => whnf
        repeat (first | (refine ⟨(by kernel_rfl : chkR _ _ _ _ = true), ?_⟩; conv => whnf) | (refine EvOr.go ?_; conv => whnf))
        intro c hc
        obtain rfl : c = false := by rw [hc]; rfl
        conv => whnf
        repeat (first | (refine ⟨(by kernel_rfl : chkR _ _ _ _ = true), ?_⟩; conv => whnf) | (refine EvOr.go ?_; conv => whnf))
        refine CallG.use r1 c56 [2, 8, 4] [] ?_ ?_ ?_ ?_ ?_ ?_; rfl; rfl; kernel_rfl; rfl; rfl
        conv => whnf
        repeat (first | (refine ⟨(by kernel_rfl : chkR _ _ _ _ = true), ?_⟩; conv => whnf) | (refine EvOr.go ?_; conv => whnf))
        refine CallG.use r2 c56 [5, 10, 7] [] ?_ ?_ ?_ ?_ ?_ ?_; rfl; rfl; kernel_rfl; rfl; rfl
        conv => whnf
        repeat (refine ⟨(by kernel_rfl : chkR _ _ _ _ = true), ?_⟩; conv => whnf)
        refine EvOr.go ?_
        conv => whnf
        rw [show (b != b) = false by simp]
        conv => whnf
        refine EvOr.cut (CodeT.weaken _ (StW.ofP [0, 1, 2, 8, 4, 5, 10, 7] ?_ ?_ ?_) gE)
        · kernel_rfl
        · rfl
        · rfl
    · have hpos := List.length_pos_iff.2 h0
      obtain ⟨q1, q2⟩ := nr_row 4 (T := kz ks) (kz_pos hpos)
      rw [q1, q2, kz_len] at m1 m2
      rcases hX with rfl | ⟨l, rfl⟩ <;>
      · refine evC_sound tabOk mixed _ _ _ _ ?_
        conv => whnf
        repeat (first | (refine ⟨(by kernel_rfl : chkR _ _ _ _ = true), ?_⟩; conv => whnf) | (refine EvOr.go ?_; conv => whnf))
        refine CallG.use m1 c55 [2, 3, 4] [0, 2] ?_ ?_ ?_ ?_ ?_ ?_; rfl; rfl; kernel_rfl; rfl; rfl
        conv => whnf
        repeat (first | (refine ⟨(by kernel_rfl : chkR _ _ _ _ = true), ?_⟩; conv => whnf) | (refine EvOr.go ?_; conv => whnf))
        refine CallG.use m2 c55 [5, 6, 7] [0, 2] ?_ ?_ ?_ ?_ ?_ ?_; rfl; rfl; kernel_rfl; rfl; rfl
        conv => whnf
        repeat (first | (refine ⟨(by kernel_rfl : chkR _ _ _ _ = true), ?_⟩; conv => whnf) | (refine EvOr.go ?_; conv => whnf))
        intro c hc
        obtain rfl : c = false := by rw [hc]; rfl
        conv => whnf
        repeat (first | (refine ⟨(by kernel_rfl : chkR _ _ _ _ = true), ?_⟩; conv => whnf) | (refine EvOr.go ?_; conv => whnf))
        intro c hc
        obtain rfl : c = false := by rw [hc]; simp
        conv => whnf
        repeat (first | (refine ⟨(by kernel_rfl : chkR _ _ _ _ = true), ?_⟩; conv => whnf) | (refine EvOr.go ?_; conv => whnf))
        refine CallG.use r1 c56 [2, 8, 4] [] ?_ ?_ ?_ ?_ ?_ ?_; rfl; rfl; kernel_rfl; rfl; rfl
        conv => whnf
        repeat (first | (refine ⟨(by kernel_rfl : chkR _ _ _ _ = true), ?_⟩; conv => whnf) | (refine EvOr.go ?_; conv => whnf))
        refine CallG.use r2 c56 [5, 10, 7] [] ?_ ?_ ?_ ?_ ?_ ?_; rfl; rfl; kernel_rfl; rfl; rfl
        conv => whnf
        repeat (refine ⟨(by kernel_rfl : chkR _ _ _ _ = true), ?_⟩; conv => whnf)
        refine EvOr.go ?_
        conv => whnf
        rw [show (b != b) = false by simp]
        conv => whnf
        refine EvOr.cut (CodeT.weaken _ (StW.ofP [0, 1, 2, 8, 4, 5, 10, 7] ?_ ?_ ?_) gE)
        · kernel_rfl
        · rfl
        · rfl
end Go.Proofs.Ytdmcbfmpnakdfaa.Eng.St
/- StripePlays, walked whole. -/
namespace Go.Proofs.Ytdmcbfmpnakdfaa.Eng.St
open Go Go.RowKit Go.Shelf Go.Proofs Go.Proofs.Ytdmcbfmpnakdfaa.Gf Go.Proofs.Ytdmcbfmpnakdfaa.Rf Go.Proofs.Ytdmcbfmpnakdfaa.Oa
set_option maxRecDepth 20000
set_option maxHeartbeats 16000000
abbrev refAt (n b c : Nat) : Option ABlk := some (.row .one 105 2 [[.one (.sl b 0 64 n none), .one (.sl c 0 1 n none)]] [b, c])
/-- What a row holds. -/
structure PS where
  x : Bool
  L : List (List Nat)
  K : List Nat
structure PInv (n : Nat) (σ : PS) (b : Nat) : Prop where
  l1 : σ.L.length = n
  l2 : σ.K.length = n
  s1 : Secs σ.L
  bd : ∀ j, σ.K.getD j 0 ≤ b
theorem get_any {n : Nat} {σ : PS} {b : Nat} (h : PInv n σ b) (h0 : 0 < n) (c : Int) : ∃ y e, FunT Try.prog 57 [rpV, iv c] (rw3 σ.x n σ.L σ.K) (.tup [secV y, iv e]) (rw3 σ.x n σ.L σ.K) ∧ FunT Try.prog 67 [rpV, iv c] (rf3 n σ.L σ.K) (.tup [secV y, iv e]) (rf3 n σ.L σ.K) := by
  by_cases hc : 0 ≤ c ∧ c < n
  · obtain ⟨k, rfl⟩ : ∃ k : Nat, c = k := ⟨c.toNat, by omega⟩
    exact ⟨_, _, get_in σ.x n σ.L σ.K k (by omega) h.l1 h.l2, rget_in n σ.L σ.K k (by omega) h.l1 h.l2⟩
  · exact ⟨_, _, get_out σ.x n σ.L σ.K h0 c hc, rget_out n σ.L σ.K c hc⟩
def putP (n : Nat) (σ : PS) (c : Int) (s : List Nat) : PS := if 0 ≤ c ∧ c < n then ⟨σ.x, σ.L.set c.toNat s, σ.K.set c.toNat (σ.K.getD c.toNat 0 + 1)⟩ else σ
def loseP (n : Nat) (σ : PS) (c : Int) : PS := if 0 ≤ c ∧ c < n then ⟨σ.x, σ.L, σ.K.set c.toNat 0⟩ else σ
theorem put_any {n : Nat} {σ : PS} {b : Nat} (h : PInv n σ b) (hb : b < 2 ^ 20) (h0 : 0 < n) (hn : n ≤ 64) (c : Int) (s : List Nat) (hs : Sec s) : ∃ e, FunT Try.prog 52 [rpV, iv c, secV s] (rw3 σ.x n σ.L σ.K) (iv e) (rw3 σ.x n (putP n σ c s).L (putP n σ c s).K) ∧ FunT Try.prog 62 [rpV, iv c, secV s] (rf3 n σ.L σ.K) (iv e) (rf3 n (putP n σ c s).L (putP n σ c s).K) ∧ PInv n (putP n σ c s) (b + 1) ∧ (putP n σ c s).x = σ.x := by
  unfold putP
  by_cases hc : 0 ≤ c ∧ c < n
  · rw [if_pos hc]
    obtain ⟨k, rfl⟩ : ∃ k : Nat, c = k := ⟨c.toNat, by omega⟩
    have hk : k < n := by omega
    have := h.bd k
    refine ⟨0, put_in σ.x n σ.L σ.K k s hk (by omega) h.l1 h.l2 (by omega), rput_in n σ.L σ.K k _ s hk h.l1 h.l2 (by omega), ⟨by simp [h.l1], by simp [h.l2], set_secs h.s1 hs, fun j => ?_⟩, rfl⟩
    show (σ.K.set k _).getD j 0 ≤ _
    rw [getD_setN (by rw [h.l2]; exact hk)]
    have := h.bd j
    have e : ((k : Int)).toNat = k := rfl
    rw [e]
    split <;> omega
  · rw [if_neg hc]
    exact ⟨2, put_out σ.x n σ.L σ.K h0 c s hc, rput_out n σ.L σ.K c s hc, ⟨h.l1, h.l2, h.s1, fun j => Nat.le_succ_of_le (h.bd j)⟩, rfl⟩
theorem lose_any {n : Nat} {σ : PS} {b : Nat} (h : PInv n σ b) (h0 : 0 < n) (hn : n ≤ 64) (c : Int) : ∃ e, FunT Try.prog 54 [rpV, iv c] (rw3 σ.x n σ.L σ.K) (iv e) (rw3 σ.x n (loseP n σ c).L (loseP n σ c).K) ∧ FunT Try.prog 63 [rpV, iv c] (rf3 n σ.L σ.K) (iv e) (rf3 n (loseP n σ c).L (loseP n σ c).K) ∧ PInv n (loseP n σ c) (b + 1) ∧ (loseP n σ c).x = σ.x := by
  unfold loseP
  by_cases hc : 0 ≤ c ∧ c < n
  · rw [if_pos hc]
    obtain ⟨k, rfl⟩ : ∃ k : Nat, c = k := ⟨c.toNat, by omega⟩
    have hk : k < n := by omega
    refine ⟨0, lose_in σ.x n σ.L σ.K k hk h.l2, rlose_in n σ.L σ.K k hk h.l2, ⟨h.l1, by simp [h.l2], h.s1, fun j => ?_⟩, rfl⟩
    show (σ.K.set k _).getD j 0 ≤ _
    rw [getD_setN (by rw [h.l2]; exact hk)]
    have := h.bd j
    split <;> omega
  · rw [if_neg hc]
    exact ⟨2, lose_out σ.x n σ.L σ.K h0 c hc, rlose_out n σ.L σ.K c hc, ⟨h.l1, h.l2, h.s1, fun j => Nat.le_succ_of_le (h.bd j)⟩, rfl⟩
/-- One act. -/
def plStep (n : Nat) (σ : PS) (a : ActS) : PS :=
  if a.w.tmod 4 = 0 then putP n σ a.c a.s
  else if a.w.tmod 4 = 1 then loseP n σ a.c
  else if a.w.tmod 4 = 2 then (if (lostN n σ.K).length ≤ 2 then ⟨true, fixR σ.L (n - 2) (lostN n σ.K), setK σ.K (lostN n σ.K)⟩ else σ)
  else (if (0 ≤ a.c ∧ a.c < (n - 2 : Nat)) ∧ lostN n σ.K = [] then ⟨σ.x, wri (n - 2) σ.L a.c.toNat a.s, σ.K⟩ else σ)
theorem mendP {n : Nat} {σ : PS} {b : Nat} (h : PInv n σ b) (h4 : 4 ≤ n) : PInv n ⟨true, fixR σ.L (n - 2) (lostN n σ.K), setK σ.K (lostN n σ.K)⟩ (b + 1) := by
  refine ⟨by show (fixR _ _ _).length = n; rw [fixR_len, h.l1], by show (setK _ _).length = n; rw [setK_len, h.l2], fixR_secs h.s1 (by rw [h.l1]; omega), fun j => ?_⟩
  show (setK _ _).getD j 0 ≤ _
  rw [setK_get (fun k hk => by rw [h.l2]; exact lostN_lt k hk)]
  have := h.bd j
  split <;> omega
theorem plStep_inv {n : Nat} {σ : PS} {b : Nat} {a : ActS} (h : PInv n σ b) (hb : b < 2 ^ 20) (h4 : 4 ≤ n) (h64 : n ≤ 64) (ha : a.Ok) : PInv n (plStep n σ a) (b + 1) := by
  have h' : PInv n σ (b + 1) := ⟨h.l1, h.l2, h.s1, fun j => Nat.le_succ_of_le (h.bd j)⟩
  unfold plStep
  split
  · obtain ⟨_, _, _, h1, _⟩ := put_any h hb (by omega) h64 a.c a.s ha.s
    exact h1
  · split
    · obtain ⟨_, _, _, h1, _⟩ := lose_any h (by omega) h64 a.c
      exact h1
    · split
      · split
        · exact mendP h h4
        · exact h'
      · split
        · rename_i hc
          have hk : a.c.toNat < n - 2 := by omega
          exact ⟨by show (wri _ _ _ _).length = n; rw [wri_len, h.l1], h.l2, wri_secs h.s1 (by rw [h.l1]; omega) hk ha.s, h'.bd⟩
        · exact h'
def plF (n : Nat) (l : List ActS) (k : Nat) : PS := (l.take k).foldl (plStep n) ⟨false, zrS n, zrK n⟩
theorem plF_succ {n : Nat} {l : List ActS} {k : Nat} (hk : k < l.length) : plF n l (k + 1) = plStep n (plF n l k) l[k] := by
  unfold plF
  rw [List.take_succ_eq_append_getElem hk, List.foldl_append]; rfl
theorem plF_inv {n : Nat} {l : List ActS} (h4 : 4 ≤ n) (h64 : n ≤ 64) (hl : ∀ a ∈ l, a.Ok) : ∀ k, k ≤ 60 → k ≤ l.length → PInv n (plF n l k) k
  | 0, _, _ => ⟨List.length_replicate, List.length_replicate, fun s hs => by rw [(List.mem_replicate.1 hs).2]; exact zeros_sec, fun j => by
      show (List.replicate n 0).getD j 0 ≤ 0
      rw [List.getD_eq_getElem?_getD, List.getElem?_replicate]
      split <;> simp⟩
  | k + 1, h1, h2 => by
    have hk : k < l.length := h2
    have := plStep_inv (plF_inv h4 h64 hl k (by omega) (by omega)) (by omega) h4 h64 (hl l[k] (List.getElem_mem hk))
    rw [plF_succ hk]
    exact this
def plJ (x : Bool) (n : Nat) (X : Option ABlk) (L : List (List Nat)) (K : List Nat) (j : Nat) : LTm × LHp :=
  ([.junk, .junk, .junk, .junk, .junk, .sc (.ptr 1 0 2 0), .junk, .sc (.ptr 4 0 2 0), .junk, .junk, .junk, .junk, .junk, .junk, .junk, .junk, .junk, .junk, .junk, .junk, .junk, .junk, .junk, iv (j : Nat), .junk, .junk, .junk, .junk, .junk, .junk, .junk, .junk, .junk, .junk, .junk, .junk, .junk, .junk, .junk, .junk, .junk, .junk, .junk, .junk, .junk, .junk, .junk, .junk, .junk, .junk, .junk, .junk, .junk, .junk, .junk, .junk, .junk, .junk, .junk, .junk, .junk, .junk, .junk, .junk, .junk, .junk, .junk, .junk, .junk, .junk, .junk, .junk, .junk, .junk, .junk, .junk, .junk, .junk, .junk, .junk, .junk, .junk, .junk, .junk, .junk, .junk, .junk, .junk, .junk, .junk, .junk, .junk, .junk, .junk, .junk, .junk, .junk, .junk, .junk, .junk, .junk, .junk, .junk, .junk, .junk, .junk, .junk, .junk, .junk, .junk, .junk, .junk, .junk, .junk, .junk, .junk, .junk, .junk, .junk, .junk, .junk, .junk, .junk, .junk, .junk, .junk, .junk, .junk, .junk, .junk, .junk, .junk, .junk, .junk, .junk, .junk, .junk, .junk, .junk, .junk, .junk, .junk, .junk, .junk, .junk, .junk, .junk, .junk, .junk, .junk, .junk, .junk, .junk, .junk, .junk, .junk, .junk, .junk, .junk, .junk, .junk, .junk, .junk, .junk, .junk, .junk, .junk, .junk, .junk, .junk, .junk, .junk, .junk, .junk, .junk, .junk, .junk, .junk, .junk, .junk, .junk, .junk, .junk, .junk, .junk, .junk, .junk, .junk, .junk, .junk, .junk, .junk, .junk, .junk, .junk, .junk, .junk, .junk, .junk, .junk, .junk, .junk, .junk, .junk, .junk, .junk, .junk, .junk, .junk, .junk, .junk, .junk, .junk, .junk, .junk, .junk], [X, rowAt x n 2 3, colB x L, knB K, refAt n 5 6, rowX L, gonB K])
theorem plE (n : Nat) (X : Option ABlk) (hX : X = none ∨ ∃ l, X = rowA l) (σ : PS) (b : Nat) (h : PInv n σ b) (h0 : 0 < n) (hn : n ≤ 64) :
    CodeT Try.prog 1 (suf 6 (bodyC Try.f14)) ([.junk, .junk, .junk, .junk, .junk, .sc (.ptr 1 0 2 0), .junk, .sc (.ptr 4 0 2 0), .junk, .junk, .junk, .junk, .junk, .junk, .junk, .junk, .junk, .junk, .junk, .junk, .junk, .junk, .junk, .junk, .junk, .junk, .junk, .junk, .junk, .junk, .junk, .junk, .junk, .junk, .junk, .junk, .junk, .junk, .junk, .junk, .junk, .junk, .junk, .junk, .junk, .junk, .junk, .junk, .junk, .junk, .junk, .junk, .junk, .junk, .junk, .junk, .junk, .junk, .junk, .junk, .junk, .junk, .junk, .junk, .junk, .junk, .junk, .junk, .junk, .junk, .junk, .junk, .junk, .junk, .junk, .junk, .junk, .junk, .junk, .junk, .junk, .junk, .junk, .junk, .junk, .junk, .junk, .junk, .junk, .junk, .junk, .junk, .junk, .junk, .junk, .junk, .junk, .junk, .junk, .junk, .junk, .junk, .junk, .junk, .junk, .junk, .junk, .junk, .junk, .junk, .junk, .junk, .junk, .junk, .junk, .junk, .junk, .junk, .junk, .junk, .junk, .junk, .junk, .junk, .junk, .junk, .junk, .junk, .junk, .junk, .junk, .junk, .junk, .junk, .junk, .junk, .junk, .junk, .junk, .junk, .junk, .junk, .junk, .junk, .junk, .junk, .junk, .junk, .junk, .junk, .junk, .junk, .junk, .junk, .junk, .junk, .junk, .junk, .junk, .junk, .junk, .junk, .junk, .junk, .junk, .junk, .junk, .junk, .junk, .junk, .junk, .junk, .junk, .junk, .junk, .junk, .junk, .junk, .junk, .junk, .junk, .junk, .junk, .junk, .junk, .junk, .junk, .junk, .junk, .junk, .junk, .junk, .junk, .junk, .junk, .junk, .junk, .junk, .junk, .junk, .junk, .junk, .junk, .junk, .junk, .junk, .junk, .junk, .junk, .junk, .junk, .junk, .junk, .junk, .junk, .junk]) [X, rowAt σ.x n 2 3, colB σ.x σ.L, knB σ.K, refAt n 5 6, rowX σ.L, gonB σ.K]
      (retQ Try.prog Try.f14 1 (bv true) [X]) := by
  have hg := fun c => get_any h h0 c
  obtain ⟨x, L, K⟩ := σ
  simp only at hg ⊢
  obtain ⟨I, hI⟩ : ∃ I, I = plJ x n X L K := ⟨_, rfl⟩
  rcases hX with rfl | ⟨l, rfl⟩ <;> cases x <;>
  · refine evC_sound tabOk mixed _ _ _ _ ?_
    conv => whnf
    repeat (first | (refine ⟨(by kernel_rfl : chkR _ _ _ _ = true), ?_⟩; conv => whnf) | (refine EvOr.go ?_; conv => whnf))
    refine CodeT.loopN tabOk mixed I n _ (StW.ofP [0, 1, 2, 3, 4, 5, 6] ?_ ?_ ?_) (fun k => by subst hI; rfl) ?_
    · subst hI; kernel_rfl
    · subst hI; rfl
    · subst hI; rfl
    intro k hkl
    subst hI
    show evC Try.prog tab _ _ (plJ _ n _ L K k).1 (plJ _ n _ L K k).2 _
    by_cases hk : k < n
    · obtain ⟨y, e, g1, g2⟩ := hg (k : Nat)
      unfold plJ
      conv => whnf
      repeat (first | (refine ⟨(by kernel_rfl : chkR _ _ _ _ = true), ?_⟩; conv => whnf) | (refine EvOr.go ?_; conv => whnf))
      intro c hc
      obtain rfl : c = true := by rw [hc]; exact decide_eq_true (by omega)
      conv => whnf
      repeat (first | (refine ⟨(by kernel_rfl : chkR _ _ _ _ = true), ?_⟩; conv => whnf) | (refine EvOr.go ?_; conv => whnf))
      refine CallG.use g1 c57 [1, 2, 3] [] ?_ ?_ ?_ ?_ ?_ ?_; rfl; rfl; kernel_rfl; rfl; rfl
      conv => whnf
      repeat (first | (refine ⟨(by kernel_rfl : chkR _ _ _ _ = true), ?_⟩; conv => whnf) | (refine EvOr.go ?_; conv => whnf))
      refine CallG.use g2 c67 [4, 5, 6] [] ?_ ?_ ?_ ?_ ?_ ?_; rfl; rfl; kernel_rfl; rfl; rfl
      conv => whnf
      repeat (first | (refine ⟨(by kernel_rfl : chkR _ _ _ _ = true), ?_⟩; conv => whnf) | (refine EvOr.go ?_; conv => whnf))
      refine ⟨rfl, ?_⟩
      refine ⟨eq34, ?_⟩
      conv => whnf
      repeat (first | (refine ⟨(by kernel_rfl : chkR _ _ _ _ = true), ?_⟩; conv => whnf) | (refine EvOr.go ?_; conv => whnf))
      intro c hc
      obtain rfl : c = false := by
        cases c
        · rfl
        · exact absurd rfl (hc.1 rfl)
      conv => whnf
      repeat (first | (refine ⟨(by kernel_rfl : chkR _ _ _ _ = true), ?_⟩; conv => whnf) | (refine EvOr.go ?_; conv => whnf))
      conv => whnf
      repeat (first | (refine ⟨(by kernel_rfl : chkR _ _ _ _ = true), ?_⟩; conv => whnf) | (refine EvOr.go ?_; conv => whnf))
      intro c hc
      obtain rfl : c = false := by rw [hc]; simp
      conv => whnf
      repeat (first | (refine ⟨(by kernel_rfl : chkR _ _ _ _ = true), ?_⟩; conv => whnf) | (refine EvOr.go ?_; conv => whnf))
      refine ⟨_, inc_nat (by omega), ?_⟩
      conv => whnf
      repeat (first | (refine ⟨(by kernel_rfl : chkR _ _ _ _ = true), ?_⟩; conv => whnf) | (refine EvOr.go ?_; conv => whnf))
      refine ⟨by first | exact hk | omega, _, StW.ofP [0, 1, 2, 3, 4, 5, 6] ?_ ?_ ?_⟩
      · kernel_rfl
      · rfl
      · rfl
    · obtain rfl : k = n := by omega
      unfold plJ
      conv => whnf
      repeat (first | (refine ⟨(by kernel_rfl : chkR _ _ _ _ = true), ?_⟩; conv => whnf) | (refine EvOr.go ?_; conv => whnf))
      intro c hc
      obtain rfl : c = false := by rw [hc]; exact decide_eq_false (by omega)
      conv => whnf
      repeat (first | (refine ⟨(by kernel_rfl : chkR _ _ _ _ = true), ?_⟩; conv => whnf) | (refine EvOr.go ?_; conv => whnf))
      refine CallG.use works51 c51 [] [] ?_ ?_ ?_ ?_ ?_ ?_; rfl; rfl; kernel_rfl; rfl; rfl
      conv => whnf
      repeat (first | (refine ⟨(by kernel_rfl : chkR _ _ _ _ = true), ?_⟩; conv => whnf) | (refine EvOr.go ?_; conv => whnf))
      exact retQ.one rfl (.inr rfl) rfl (Nat.le_of_ble_eq_true rfl) rfl
end Go.Proofs.Ytdmcbfmpnakdfaa.Eng.St
