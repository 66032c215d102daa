/- Fix, walked from its end. -/
import Derived.Test.YtdmcbfmpnakdfaaQf
namespace Go.Proofs.Ytdmcbfmpnakdfaa.Eng
open Go Go.Proofs Go.Proofs.Ytdmcbfmpnakdfaa.Gf
set_option maxRecDepth 20000
set_option maxHeartbeats 4000000
/-- How the list of the lost lies. -/
inductive LF where
  | nil
  | ex
  | row (J : List Segs)
def LF.sv (f : LF) (n id : Nat) : SV := match f with
  | .nil => nilS
  | .ex => .sl id 0 1 0 (some 0)
  | .row _ => .sl id 0 1 n none
def LF.blk (f : LF) (l : List Int) : Option ABlk := match f with
  | .row J => some (.row .inx 3 1 (l.map intS ++ J) [])
  | _ => none
def LF.ok (f : LF) (n : Nat) : Prop := match f with
  | .row _ => True
  | _ => n = 0
abbrev kz (ks : List Nat) : List Int := ks.map fun k : Nat => (k : Int)
abbrev fiH (L S : List (List Nat)) (X : Option ABlk) (m : Nat) (f : LF) (ks : List Nat) (P Q : List Nat) : LHp :=
  [rowS L, X, boxN (m : Nat), f.blk (kz ks), rowX S, secB P, secB Q]
def fiI (L S : List (List Nat)) (X : Option ABlk) (m : Nat) (f : LF) (ks : List Nat) (P Q : List Nat) (k : Nat) : LTm × LHp :=
  ([.junk, .junk, .junk, .junk, .junk, .junk, .sc (.ptr 2 0 1 0), .junk, .sc (.sl 4 0 64 (m + 2) none), .junk, .junk, .junk, .sc (.ptr 5 0 64 0), .sc (.ptr 6 0 64 0), .junk, .junk, .junk, .junk, .junk, .junk, .junk, .junk, .junk, .junk, .junk, .junk, .junk, .junk, .junk, .junk, .junk, .junk, .junk, .junk, .junk, .junk, .junk, .junk, .junk, .junk, .junk, .junk, .junk, .junk, .junk, .junk, .junk, .junk, .junk, .junk, .junk, .junk, .junk, .junk, .junk, .junk, .junk, .junk, .junk, .junk, .junk, .junk, .junk, .junk, .junk, .junk, .junk, .junk, .junk, .junk, .junk, .junk, .junk, .junk, .junk, .junk, .junk, .junk, .junk, .junk, .junk, .junk, .junk, .junk, .junk, .junk, .junk, .junk, .junk, .junk, .junk, .junk, .junk, .junk, .junk, .junk, .junk, .junk, .junk, .junk, .junk, .junk, .junk, .junk, .junk, .junk, .junk, .junk, .junk, .junk, .junk, .junk, .junk, .junk, .junk, .junk, .junk, .junk, .junk, .junk, .junk, .junk, .junk, .junk, .junk, .junk, .junk, .junk, .junk, .junk, .junk, .junk, .junk, .junk, .junk, .junk, .junk, .junk, .junk, .junk, .junk, .junk, .junk, .junk, .junk, .junk, .junk, .junk, .junk, .junk, .junk, .junk, .junk, .junk, .junk, .junk, .junk, .junk, .junk, .junk, .junk, .junk, .junk, .junk, .junk, .sc (f.sv ks.length 3), iv (ks.length : Nat), iv (k : Nat), .junk, .junk, .junk, .junk, .junk, .junk, .junk, .junk, .junk, .junk, .junk, .junk, .junk, .junk, .junk, .junk, .junk, .junk, .junk, .junk, .junk],
   fiH L ((ks.take k).foldl (endOne m P Q) S) X m f ks P Q)
theorem kz_get {ks : List Nat} {J : List Segs} {k : Nat} (hk : k < ks.length) : ((kz ks).map intS ++ J)[0 + (k : Int).toNat]? = some (intS (ks[k] : Nat)) := by
  rw [int_get (by simpa using hk)]
  simp
theorem row_at {S : List (List Nat)} {k : Nat} (hk : k < S.length) : (S.map secS)[0 + (k : Int).toNat]? = some (secS (S.getD k [])) := sec_get hk
theorem row_setS {S : List (List Nat)} {k : Nat} {d : List Nat} : (S.set k d).map secS = (S.map secS).set (0 + (k : Int).toNat) (secS d) := by
  rw [Nat.zero_add, Int.toNat_natCast, List.map_set]
theorem endOne_p {m : Nat} {P Q : List Nat} {S : List (List Nat)} {i : Nat} (h : i = m) : endOne m P Q S i = S.set i P := by unfold endOne; rw [if_pos h]
theorem endOne_q {m : Nat} {P Q : List Nat} {S : List (List Nat)} {i : Nat} (h : ¬ i = m) (h2 : i = m + 1) : endOne m P Q S i = S.set i Q := by unfold endOne; rw [if_neg h, if_pos h2]
theorem endOne_n {m : Nat} {P Q : List Nat} {S : List (List Nat)} {i : Nat} (h : ¬ i = m) (h2 : ¬ i = m + 1) : endOne m P Q S i = S := by unfold endOne; rw [if_neg h, if_neg h2]
theorem fixL2 (L S : List (List Nat)) (X : Option ABlk) (m : Nat) (f : LF) (ks : List Nat) (P Q : List Nat) (hX : X = none ∨ ∃ zs, X = rowRI zs) (hf : f.ok ks.length) (hks : ∀ k ∈ ks, k < m + 2) (hS : S.length = m + 2) (hl : ks.length ≤ 2) (hm : m ≤ 62) :
    CodeT Try.prog 2 (suf 11 (bodyC Try.f17)) ([.junk, .junk, .junk, .junk, .junk, .junk, .sc (.ptr 2 0 1 0), .sc (f.sv ks.length 3), .sc (.sl 4 0 64 (m + 2) none), .junk, .junk, .junk, .sc (.ptr 5 0 64 0), .sc (.ptr 6 0 64 0), .junk, .junk, .junk, .junk, .junk, .junk, .junk, .junk, .junk, .junk, .junk, .junk, .junk, .junk, .junk, .junk, .junk, .junk, .junk, .junk, .junk, .junk, .junk, .junk, .junk, .junk, .junk, .junk, .junk, .junk, .junk, .junk, .junk, .junk, .junk, .junk, .junk, .junk, .junk, .junk, .junk, .junk, .junk, .junk, .junk, .junk, .junk, .junk, .junk, .junk, .junk, .junk, .junk, .junk, .junk, .junk, .junk, .junk, .junk, .junk, .junk, .junk, .junk, .junk, .junk, .junk, .junk, .junk, .junk, .junk, .junk, .junk, .junk, .junk, .junk, .junk, .junk, .junk, .junk, .junk, .junk, .junk, .junk, .junk, .junk, .junk, .junk, .junk, .junk, .junk, .junk, .junk, .junk, .junk, .junk, .junk, .junk, .junk, .junk, .junk, .junk, .junk, .junk, .junk, .junk, .junk, .junk, .junk, .junk, .junk, .junk, .junk, .junk, .junk, .junk, .junk, .junk, .junk, .junk, .junk, .junk, .junk, .junk, .junk, .junk, .junk, .junk, .junk, .junk, .junk, .junk, .junk, .junk, .junk, .junk, .junk, .junk, .junk, .junk, .junk, .junk, .junk, .junk, .junk, .junk, .junk, .junk, .junk, .junk, .junk, .junk, .junk, .junk, .junk, .junk, .junk, .junk, .junk, .junk, .junk, .junk, .junk, .junk, .junk, .junk, .junk, .junk, .junk, .junk, .junk, .junk, .junk, .junk, .junk, .junk]) (fiH L S X m f ks P Q)
      (retQ Try.prog Try.f17 2 (.tup [.sc (.sl 2 0 64 (m + 2) none), iv 0]) [rowS L, X, rowX (ks.foldl (endOne m P Q) S)]) := by
  have hmi : arithI .add .i64 (m : Nat) 1 = some ((m + 1 : Nat) : Int) := inc_nat (by omega)
  have key : ∀ J, f = .row J → CodeT Try.prog 2 (suf 11 (bodyC Try.f17)) ([.junk, .junk, .junk, .junk, .junk, .junk, .sc (.ptr 2 0 1 0), .sc ((LF.row J).sv ks.length 3), .sc (.sl 4 0 64 (m + 2) none), .junk, .junk, .junk, .sc (.ptr 5 0 64 0), .sc (.ptr 6 0 64 0), .junk, .junk, .junk, .junk, .junk, .junk, .junk, .junk, .junk, .junk, .junk, .junk, .junk, .junk, .junk, .junk, .junk, .junk, .junk, .junk, .junk, .junk, .junk, .junk, .junk, .junk, .junk, .junk, .junk, .junk, .junk, .junk, .junk, .junk, .junk, .junk, .junk, .junk, .junk, .junk, .junk, .junk, .junk, .junk, .junk, .junk, .junk, .junk, .junk, .junk, .junk, .junk, .junk, .junk, .junk, .junk, .junk, .junk, .junk, .junk, .junk, .junk, .junk, .junk, .junk, .junk, .junk, .junk, .junk, .junk, .junk, .junk, .junk, .junk, .junk, .junk, .junk, .junk, .junk, .junk, .junk, .junk, .junk, .junk, .junk, .junk, .junk, .junk, .junk, .junk, .junk, .junk, .junk, .junk, .junk, .junk, .junk, .junk, .junk, .junk, .junk, .junk, .junk, .junk, .junk, .junk, .junk, .junk, .junk, .junk, .junk, .junk, .junk, .junk, .junk, .junk, .junk, .junk, .junk, .junk, .junk, .junk, .junk, .junk, .junk, .junk, .junk, .junk, .junk, .junk, .junk, .junk, .junk, .junk, .junk, .junk, .junk, .junk, .junk, .junk, .junk, .junk, .junk, .junk, .junk, .junk, .junk, .junk, .junk, .junk, .junk, .junk, .junk, .junk, .junk, .junk, .junk, .junk, .junk, .junk, .junk, .junk, .junk, .junk, .junk, .junk, .junk, .junk, .junk, .junk, .junk, .junk, .junk, .junk, .junk]) (fiH L S X m (.row J) ks P Q)
      (retQ Try.prog Try.f17 2 (.tup [.sc (.sl 2 0 64 (m + 2) none), iv 0]) [rowS L, X, rowX (ks.foldl (endOne m P Q) S)]) := by
    intro J _
    obtain ⟨I, hI⟩ : ∃ I, I = fiI L S X m (.row J) ks P Q := ⟨_, rfl⟩
    rcases hX with rfl | ⟨zs, rfl⟩ <;>
    · refine evC_sound tabOk mixed _ _ _ _ ?_
      conv => whnf
      repeat (first | (refine ⟨(by kernel_rfl : chkR _ _ _ _ = true), ?_⟩; conv => whnf) | (refine EvOr.go ?_; conv => whnf))
      refine CodeT.loopN tabOk mixed I ks.length _ (StW.ofP [0, 1, 2, 3, 4, 5, 6] ?_ ?_ ?_) (fun k => by subst hI; rfl) ?_
      · subst hI; kernel_rfl
      · subst hI; rfl
      · subst hI; rfl
      intro k hkl
      subst hI
      have hSk : ((ks.take k).foldl (endOne m P Q) S).length = m + 2 := by rw [foldl_len (fun _ _ => endOne_length), hS]
      show evC Try.prog tab _ _ (fiI L S _ m (.row J) ks P Q k).1 (fiH L ((ks.take k).foldl (endOne m P Q) S) _ m (.row J) ks P Q) _
      by_cases hk : k < ks.length
      · have hs := take_succ_foldl (f := endOne m P Q) (S := S) hk
        have hkm := hks ks[k] (List.getElem_mem _)
        have hg := kz_get (J := J) hk
        generalize (ks.take k).foldl (endOne m P Q) S = T at *
        generalize ks[k] = i at *
        have hrow := row_at (S := T) (k := i) (by omega)
        conv => whnf
        repeat (first | (refine ⟨(by kernel_rfl : chkR _ _ _ _ = true), ?_⟩; conv => whnf) | (refine EvOr.go ?_; conv => whnf))
        intro c hc
        obtain rfl : c = true := by rw [hc]; exact decide_eq_true (by omega)
        conv => whnf
        repeat (first | (refine ⟨(by kernel_rfl : chkR _ _ _ _ = true), ?_⟩; conv => whnf) | (refine EvOr.go ?_; conv => whnf))
        refine ⟨⟨by omega, by show (k : Int) < (ks.length : Nat); omega⟩, ?_⟩
        conv => whnf
        repeat (first | (refine ⟨(by kernel_rfl : chkR _ _ _ _ = true), ?_⟩; conv => whnf) | (refine EvOr.go ?_; conv => whnf))
        refine ⟨_, hg, ?_⟩
        conv => whnf
        repeat (first | (refine ⟨(by kernel_rfl : chkR _ _ _ _ = true), ?_⟩; conv => whnf) | (refine EvOr.go ?_; conv => whnf))
        intro c hc
        cases c
        · have h1 : ¬ i = m := by simp at hc; omega
          conv => whnf
          repeat (first | (refine ⟨(by kernel_rfl : chkR _ _ _ _ = true), ?_⟩; conv => whnf) | (refine EvOr.go ?_; conv => whnf))
          refine ⟨_, hmi, ?_⟩
          conv => whnf
          repeat (first | (refine ⟨(by kernel_rfl : chkR _ _ _ _ = true), ?_⟩; conv => whnf) | (refine EvOr.go ?_; conv => whnf))
          intro c hc
          cases c
          · have h2 : ¬ i = m + 1 := by simp at hc; omega
            rw [endOne_n h1 h2] at hs
            conv => whnf
            repeat (first | (refine ⟨(by kernel_rfl : chkR _ _ _ _ = true), ?_⟩; conv => whnf) | (refine EvOr.go ?_; conv => whnf))
            refine ⟨_, inc_nat (by omega), ?_⟩
            conv => whnf
            repeat (first | (refine ⟨(by kernel_rfl : chkR _ _ _ _ = true), ?_⟩; conv => whnf) | (refine EvOr.go ?_; conv => whnf))
            refine ⟨by omega, _, StW.ofP [0, 1, 2, 3, 4, 5, 6] ?_ ?_ ?_⟩
            · kernel_rfl
            · rfl
            · simp only [fiI, hs]; rfl
          · have h2 : i = m + 1 := by simp at hc; omega
            rw [endOne_q h1 h2] at hs
            conv => whnf
            repeat (first | (refine ⟨(by kernel_rfl : chkR _ _ _ _ = true), ?_⟩; conv => whnf) | (refine EvOr.go ?_; conv => whnf))
            refine ⟨⟨by omega, by show (i : Int) < ((m + 2 : Nat) : Int); omega⟩, ?_⟩
            conv => whnf
            repeat (first | (refine ⟨(by kernel_rfl : chkR _ _ _ _ = true), ?_⟩; conv => whnf) | (refine EvOr.go ?_; conv => whnf))
            refine ⟨_, hrow, ?_⟩
            conv => whnf
            repeat (first | (refine ⟨(by kernel_rfl : chkR _ _ _ _ = true), ?_⟩; conv => whnf) | (refine EvOr.go ?_; conv => whnf))
            refine ⟨_, inc_nat (by omega), ?_⟩
            conv => whnf
            repeat (first | (refine ⟨(by kernel_rfl : chkR _ _ _ _ = true), ?_⟩; conv => whnf) | (refine EvOr.go ?_; conv => whnf))
            refine ⟨by omega, _, StW.ofP [0, 1, 2, 3, 4, 5, 6] ?_ ?_ ?_⟩
            · kernel_rfl
            · rfl
            · simp only [fiI, fiH, hs, rowX, row_setS]; rfl
        · have h1 : i = m := by simp at hc; omega
          rw [endOne_p h1] at hs
          conv => whnf
          repeat (first | (refine ⟨(by kernel_rfl : chkR _ _ _ _ = true), ?_⟩; conv => whnf) | (refine EvOr.go ?_; conv => whnf))
          refine ⟨⟨by omega, by show (i : Int) < ((m + 2 : Nat) : Int); omega⟩, ?_⟩
          conv => whnf
          repeat (first | (refine ⟨(by kernel_rfl : chkR _ _ _ _ = true), ?_⟩; conv => whnf) | (refine EvOr.go ?_; conv => whnf))
          refine ⟨_, hrow, ?_⟩
          conv => whnf
          repeat (first | (refine ⟨(by kernel_rfl : chkR _ _ _ _ = true), ?_⟩; conv => whnf) | (refine EvOr.go ?_; conv => whnf))
          refine ⟨_, inc_nat (by omega), ?_⟩
          conv => whnf
          repeat (first | (refine ⟨(by kernel_rfl : chkR _ _ _ _ = true), ?_⟩; conv => whnf) | (refine EvOr.go ?_; conv => whnf))
          refine ⟨by omega, _, StW.ofP [0, 1, 2, 3, 4, 5, 6] ?_ ?_ ?_⟩
          · kernel_rfl
          · rfl
          · simp only [fiI, fiH, hs, rowX, row_setS]; rfl
      · obtain rfl : k = ks.length := by omega
        rw [List.take_length]
        conv => whnf
        repeat (first | (refine ⟨(by kernel_rfl : chkR _ _ _ _ = true), ?_⟩; conv => whnf) | (refine EvOr.go ?_; conv => whnf))
        intro c hc
        obtain rfl : c = false := by rw [hc]; exact decide_eq_false (by omega)
        conv => whnf
        repeat (first | (refine ⟨(by kernel_rfl : chkR _ _ _ _ = true), ?_⟩; conv => whnf) | (refine EvOr.go ?_; conv => whnf))
        exact retQ.allS tabOk [0, 1, 4] _ [.sc (.sl 4 0 64 (m + 2) none), iv 0] rfl (by first | exact .inr rfl | exact .inl rfl) (by repeat' (first | exact trivial | rfl | (intro h; cases h; done) | (refine ⟨?_, ?_⟩))) rfl (by rfl) (by kernel_rfl) (by first | rfl | kernel_rfl)
  cases f with
  | row J => exact key J rfl
  | nil =>
    obtain rfl : ks = [] := List.eq_nil_of_length_eq_zero hf
    rcases hX with rfl | ⟨zs, rfl⟩ <;>
    · refine evC_sound tabOk mixed _ _ _ _ ?_
      conv => whnf
      repeat (first | (refine ⟨(by kernel_rfl : chkR _ _ _ _ = true), ?_⟩; conv => whnf) | (refine EvOr.go ?_; conv => whnf))
      refine CodeS.loop0 tabOk mixed (Nat.le_of_ble_eq_true rfl) ?_
      conv => whnf
      repeat (first | (refine ⟨(by kernel_rfl : chkR _ _ _ _ = true), ?_⟩; conv => whnf) | (refine EvOr.go ?_; conv => whnf))
      intro c hc
      obtain rfl : c = false := by rw [hc]; rfl
      conv => whnf
      repeat (first | (refine ⟨(by kernel_rfl : chkR _ _ _ _ = true), ?_⟩; conv => whnf) | (refine EvOr.go ?_; conv => whnf))
      exact retQ.allS tabOk [0, 1, 4] _ [.sc (.sl 4 0 64 (m + 2) none), iv 0] rfl (by first | exact .inr rfl | exact .inl rfl) (by repeat' (first | exact trivial | rfl | (intro h; cases h; done) | (refine ⟨?_, ?_⟩))) rfl (by rfl) (by kernel_rfl) (by first | rfl | kernel_rfl)
  | ex =>
    obtain rfl : ks = [] := List.eq_nil_of_length_eq_zero hf
    rcases hX with rfl | ⟨zs, rfl⟩ <;>
    · refine evC_sound tabOk mixed _ _ _ _ ?_
      conv => whnf
      repeat (first | (refine ⟨(by kernel_rfl : chkR _ _ _ _ = true), ?_⟩; conv => whnf) | (refine EvOr.go ?_; conv => whnf))
      refine CodeS.loop0 tabOk mixed (Nat.le_of_ble_eq_true rfl) ?_
      conv => whnf
      repeat (first | (refine ⟨(by kernel_rfl : chkR _ _ _ _ = true), ?_⟩; conv => whnf) | (refine EvOr.go ?_; conv => whnf))
      intro c hc
      obtain rfl : c = false := by rw [hc]; rfl
      conv => whnf
      repeat (first | (refine ⟨(by kernel_rfl : chkR _ _ _ _ = true), ?_⟩; conv => whnf) | (refine EvOr.go ?_; conv => whnf))
      exact retQ.allS tabOk [0, 1, 4] _ [.sc (.sl 4 0 64 (m + 2) none), iv 0] rfl (by first | exact .inr rfl | exact .inl rfl) (by repeat' (first | exact trivial | rfl | (intro h; cases h; done) | (refine ⟨?_, ?_⟩))) rfl (by rfl) (by kernel_rfl) (by first | rfl | kernel_rfl)
theorem fixT (L R : List (List Nat)) (X : Option ABlk) (m : Nat) (f : LF) (ks : List Nat) (P Q : List Nat) (hX : X = none ∨ ∃ zs, X = rowRI zs) (hf : f.ok ks.length) (hks : ∀ k ∈ ks, k < m + 2) (hR : R.length = m + 2) (hS : Secs R) (hl : ks.length ≤ 2) (hm : m ≤ 62) :
    CodeT Try.prog 2 (suf 10 (bodyC Try.f17)) ([.junk, .junk, .junk, .junk, .junk, .junk, .sc (.ptr 2 0 1 0), .sc (f.sv ks.length 3), .sc (.sl 4 0 64 (m + 2) none), .junk, .junk, .sc (.sl 4 0 64 m none), .sc (.ptr 5 0 64 0), .sc (.ptr 6 0 64 0), .junk, .junk, .junk, .junk, .junk, .junk, .junk, .junk, .junk, .junk, .junk, .junk, .junk, .junk, .junk, .junk, .junk, .junk, .junk, .junk, .junk, .junk, .junk, .junk, .junk, .junk, .junk, .junk, .junk, .junk, .junk, .junk, .junk, .junk, .junk, .junk, .junk, .junk, .junk, .junk, .junk, .junk, .junk, .junk, .junk, .junk, .junk, .junk, .junk, .junk, .junk, .junk, .junk, .junk, .junk, .junk, .junk, .junk, .junk, .junk, .junk, .junk, .junk, .junk, .junk, .junk, .junk, .junk, .junk, .junk, .junk, .junk, .junk, .junk, .junk, .junk, .junk, .junk, .junk, .junk, .junk, .junk, .junk, .junk, .junk, .junk, .junk, .junk, .junk, .junk, .junk, .junk, .junk, .junk, .junk, .junk, .junk, .junk, .junk, .junk, .junk, .junk, .junk, .junk, .junk, .junk, .junk, .junk, .junk, .junk, .junk, .junk, .junk, .junk, .junk, .junk, .junk, .junk, .junk, .junk, .junk, .junk, .junk, .junk, .junk, .junk, .junk, .junk, .junk, .junk, .junk, .junk, .junk, .junk, .junk, .junk, .junk, .junk, .junk, .junk, .junk, .junk, .junk, .junk, .junk, .junk, .junk, .junk, .junk, .junk, .junk, .junk, .junk, .junk, .junk, .junk, .junk, .junk, .junk, .junk, .junk, .junk, .junk, .junk, .junk, .junk, .junk, .junk, .junk, .junk, .junk, .junk, .junk, .junk, .junk]) (fiH L R X m f ks P Q)
      (retQ Try.prog Try.f17 2 (.tup [.sc (.sl 2 0 64 (m + 2) none), iv 0]) [rowS L, X, rowX (fixEnd R m ks)]) := by
  have gP := plain_ok R m none hS (by omega) (by omega)
  have gS := fixL2 L R X m f ks (psum R m) (qsum R m) hX hf hks hR hl hm
  unfold fixEnd
  rcases hX with rfl | ⟨zs, rfl⟩ <;> cases f <;>
  · refine evC_sound tabOk mixed _ _ _ _ ?_
    conv => whnf
    repeat (first | (refine ⟨(by kernel_rfl : chkR _ _ _ _ = true), ?_⟩; conv => whnf) | (refine EvOr.go ?_; conv => whnf))
    refine CallG.use gP c73 [4] [] ?_ ?_ ?_ ?_ ?_ ?_; rfl; rfl; kernel_rfl; rfl; rfl
    conv => whnf
    repeat (refine ⟨(by kernel_rfl : chkR _ _ _ _ = true), ?_⟩; conv => whnf)
    refine EvOr.cut (CodeT.weaken _ (StW.ofP [0, 1, 2, 3, 4, 5, 6] ?_ ?_ ?_) gS)
    · kernel_rfl
    · rfl
    · rfl
theorem idx_one (a m : Int) : idxL [a] m = if a < m then 0 else -1 := by
  unfold idxL fstL
  by_cases h : a < m
  · simp [List.findIdx, List.findIdx.go, h]
  · simp [List.findIdx, List.findIdx.go, h]
theorem idx_two (a b m : Int) (hab : a < b) : idxL [a, b] m = if a < m then 0 else -1 := by
  unfold idxL fstL
  by_cases h : a < m
  · simp [List.findIdx, List.findIdx.go, h]
  · have h2 : ¬ b < m := by omega
    simp [List.findIdx, List.findIdx.go, h, h2]
abbrev fiT (m : Nat) (f : LF) (n : Nat) : LTm := [.junk, .junk, .junk, .junk, .junk, .junk, .sc (.ptr 2 0 1 0), .sc (f.sv n 3), .sc (.sl 4 0 64 (m + 2) none), .junk, .junk, .sc (.sl 4 0 64 m none), .sc (.ptr 5 0 64 0), .sc (.ptr 6 0 64 0), .junk, .junk, .junk, .junk, .junk, .junk, .junk, .junk, .junk, .junk, .junk, .junk, .junk, .junk, .junk, .junk, .junk, .junk, .junk, .junk, .junk, .junk, .junk, .junk, .junk, .junk, .junk, .junk, .junk, .junk, .junk, .junk, .junk, .junk, .junk, .junk, .junk, .junk, .junk, .junk, .junk, .junk, .junk, .junk, .junk, .junk, .junk, .junk, .junk, .junk, .junk, .junk, .junk, .junk, .junk, .junk, .junk, .junk, .junk, .junk, .junk, .junk, .junk, .junk, .junk, .junk, .junk, .junk, .junk, .junk, .junk, .junk, .junk, .junk, .junk, .junk, .junk, .junk, .junk, .junk, .junk, .junk, .junk, .junk, .junk, .junk, .junk, .junk, .junk, .junk, .junk, .junk, .junk, .junk, .junk, .junk, .junk, .junk, .junk, .junk, .junk, .junk, .junk, .junk, .junk, .junk, .junk, .junk, .junk, .junk, .junk, .junk, .junk, .junk, .junk, .junk, .junk, .junk, .junk, .junk, .junk, .junk, .junk, .junk, .junk, .junk, .junk, .junk, .junk, .junk, .junk, .junk, .junk, .junk, .junk, .junk, .junk, .junk, .junk, .junk, .junk, .junk, .junk, .junk, .junk, .junk, .junk, .junk, .junk, .junk, .junk, .junk, .junk, .junk, .junk, .junk, .junk, .junk, .junk, .junk, .junk, .junk, .junk, .junk, .junk, .junk, .junk, .junk, .junk, .junk, .junk, .junk, .junk, .junk, .junk]
theorem fixM0 (L Z : List (List Nat)) (X : Option ABlk) (m : Nat) (f : LF) (ks : List Nat) (hX : X = none ∨ ∃ zs, X = rowRI zs) (hf : f.ok ks.length) (hks : ∀ k ∈ ks, k < m + 2) (hsk : ks = [] ∨ (∃ i, ks = [i] ∧ m ≤ i) ∨ ∃ i j, ks = [i, j] ∧ i < j ∧ m ≤ i) (hZ : Z.length = m + 2) (hS : Secs Z) (hm : m ≤ 62) :
    CodeT Try.prog 2 (suf 8 (bodyC Try.f17)) (fiT m f ks.length) (fiH L Z X m f ks (psum Z m) (qsum Z m))
      (retQ Try.prog Try.f17 2 (.tup [.sc (.sl 2 0 64 (m + 2) none), iv 0]) [rowS L, X, rowX (fixEnd Z m ks)]) := by
  have hl : ks.length ≤ 2 := by rcases hsk with rfl | ⟨i, rfl, _⟩ | ⟨i, j, rfl, _⟩ <;> simp
  have gS := fixT L Z X m f ks (psum Z m) (qsum Z m) hX hf hks hZ hS hl hm
  generalize psum Z m = P at gS ⊢
  generalize qsum Z m = Q at gS ⊢
  cases f with
  | nil =>
    have g := idxL_none (.sc nilS) (.inl rfl) (m : Nat)
    rcases hX with rfl | ⟨zs, rfl⟩ <;>
    · refine evC_sound tabOk mixed _ _ _ _ ?_
      conv => whnf
      repeat (first | (refine ⟨(by kernel_rfl : chkR _ _ _ _ = true), ?_⟩; conv => whnf) | (refine EvOr.go ?_; conv => whnf))
      refine CallG.use g c74 [3, 2] [] ?_ ?_ ?_ ?_ ?_ ?_; rfl; rfl; kernel_rfl; rfl; rfl
      conv => whnf
      repeat (first | (refine ⟨(by kernel_rfl : chkR _ _ _ _ = true), ?_⟩; conv => whnf) | (refine EvOr.go ?_; conv => whnf))
      intro c hc
      obtain rfl : c = true := by rw [hc]; rfl
      conv => whnf
      refine ⟨(by kernel_rfl : chkR _ _ _ _ = true), ?_⟩
      conv => whnf
      refine EvOr.go ?_
      conv => whnf
      refine EvOr.cut (CodeT.weaken _ (StW.ofP [0, 1, 2, 3, 4, 5, 6] ?_ ?_ ?_) (gS))
      · kernel_rfl
      · rfl
      · rfl
  | ex =>
    have g := idxL_none (.sc (.sl 0 0 1 0 (some 0))) (.inr rfl) (m : Nat)
    rcases hX with rfl | ⟨zs, rfl⟩ <;>
    · refine evC_sound tabOk mixed _ _ _ _ ?_
      conv => whnf
      repeat (first | (refine ⟨(by kernel_rfl : chkR _ _ _ _ = true), ?_⟩; conv => whnf) | (refine EvOr.go ?_; conv => whnf))
      refine CallG.use g c74 [3, 2] [] ?_ ?_ ?_ ?_ ?_ ?_; rfl; rfl; kernel_rfl; rfl; rfl
      conv => whnf
      repeat (first | (refine ⟨(by kernel_rfl : chkR _ _ _ _ = true), ?_⟩; conv => whnf) | (refine EvOr.go ?_; conv => whnf))
      intro c hc
      obtain rfl : c = true := by rw [hc]; rfl
      conv => whnf
      refine ⟨(by kernel_rfl : chkR _ _ _ _ = true), ?_⟩
      conv => whnf
      refine EvOr.go ?_
      conv => whnf
      refine EvOr.cut (CodeT.weaken _ (StW.ofP [0, 1, 2, 3, 4, 5, 6] ?_ ?_ ?_) (gS))
      · kernel_rfl
      · rfl
      · rfl
  | row J =>
    have g := idxL_ok (kz ks) J (m : Nat) (by simp; omega)
    have e : idxL (kz ks) (m : Nat) = -1 := by
      rcases hsk with rfl | ⟨i, rfl, h⟩ | ⟨i, j, rfl, h1, h2⟩
      · rfl
      · show idxL [(i : Int)] _ = _
        rw [idx_one, if_neg (by omega)]
      · show idxL [(i : Int), (j : Int)] _ = _
        rw [idx_two _ _ _ (by omega), if_neg (by omega)]
    rw [e, List.length_map] at g
    rcases hX with rfl | ⟨zs, rfl⟩ <;>
    · refine evC_sound tabOk mixed _ _ _ _ ?_
      conv => whnf
      repeat (first | (refine ⟨(by kernel_rfl : chkR _ _ _ _ = true), ?_⟩; conv => whnf) | (refine EvOr.go ?_; conv => whnf))
      refine CallG.use g c74 [3, 2] [] ?_ ?_ ?_ ?_ ?_ ?_; rfl; rfl; kernel_rfl; rfl; rfl
      conv => whnf
      repeat (first | (refine ⟨(by kernel_rfl : chkR _ _ _ _ = true), ?_⟩; conv => whnf) | (refine EvOr.go ?_; conv => whnf))
      intro c hc
      obtain rfl : c = true := by rw [hc]; rfl
      conv => whnf
      refine ⟨(by kernel_rfl : chkR _ _ _ _ = true), ?_⟩
      conv => whnf
      refine EvOr.go ?_
      conv => whnf
      refine EvOr.cut (CodeT.weaken _ (StW.ofP [0, 1, 2, 3, 4, 5, 6] ?_ ?_ ?_) (gS))
      · kernel_rfl
      · rfl
      · rfl
/-- One data column lost, with or without one parity. -/
theorem fixM1 (L Z : List (List Nat)) (X : Option ABlk) (m : Nat) (J : List Segs) (ks : List Nat) (i : Nat) (hX : X = none ∨ ∃ zs, X = rowRI zs) (him : i < m) (hsk : ks = [i] ∨ ks = [i, m] ∨ ks = [i, m + 1]) (hZ : Z.length = m + 2) (hS : Secs Z) (hm : m ≤ 62) :
    CodeT Try.prog 2 (suf 8 (bodyC Try.f17)) (fiT m (.row J) ks.length) (fiH L Z X m (.row J) ks (psum Z m) (qsum Z m))
      (retQ Try.prog Try.f17 2 (.tup [.sc (.sl 2 0 64 (m + 2) none), iv 0]) [rowS L, X, rowX (fixEnd (fixMid Z m ks) m ks)]) := by
  have hl : ks.length ≤ 2 := by rcases hsk with rfl | rfl | rfl <;> simp
  have hks : ∀ k ∈ ks, k < m + 2 := by rcases hsk with rfl | rfl | rfl <;> simp <;> omega
  have hmi : arithI .add .i64 (m : Nat) 1 = some ((m + 1 : Nat) : Int) := inc_nat (by omega)
  have g := idxL_ok (kz ks) J (m : Nat) (by simp; omega)
  have gc := contains_ok (kz ks) J (m : Nat) (by simp; omega)
  have e : idxL (kz ks) (m : Nat) = 0 := by
    rcases hsk with rfl | rfl | rfl
    · show idxL [(i : Int)] _ = _
      rw [idx_one, if_pos (by omega)]
    · show idxL [(i : Int), (m : Int)] _ = _
      rw [idx_two _ _ _ (by omega), if_pos (by omega)]
    · show idxL [(i : Int), ((m + 1 : Nat) : Int)] _ = _
      rw [idx_two _ _ _ (by omega), if_pos (by omega)]
  rw [e, List.length_map] at g
  rw [List.length_map] at gc
  have sp := psum_sec hS m (by omega)
  have sq := qsum_sec hS m (by omega)
  have sm := hS.at (i := m) (by omega)
  have sm1 := hS.at (i := m + 1) (by omega)
  have g1 := sum_ok (Z.getD m []) (psum Z m) sm sp
  have g2 := sum_ok (Z.getD (m + 1) []) (qsum Z m) sm1 sq
  have g3 := pow_ok (-(i : Int)) (by omega)
  have sx := xorL_sec sm1 sq
  have g4 := times_ok (xorL (Z.getD (m + 1) []) (qsum Z m)) (pwZ (-(i : Int))) sx (pwZ_lt _)
  have hrm := row_at (S := Z) (k := m) (by omega)
  have hrm1 := row_at (S := Z) (k := m + 1) (by omega)
  have hri := row_at (S := Z) (k := i) (by omega)
  have hneg : IntKind.i64.wrap (0 - (i : Int)) = -(i : Int) := by rw [IntWalk.i64_in _ ⟨by omega, by omega⟩]; omega
  obtain ⟨R, hR⟩ : ∃ R, R = fixMid Z m ks := ⟨_, rfl⟩
  have gS := fixT L R X m (.row J) ks (psum Z m) (qsum Z m) hX trivial hks (by
    rw [hR]; rcases hsk with rfl | rfl | rfl
    · simp only [fixMid, if_pos him, List.length_set, hZ]
    · simp only [fixMid, if_pos him, if_neg (Nat.lt_irrefl m), if_true, List.length_set, hZ]
    · simp only [fixMid, if_pos him, if_neg (show ¬ m + 1 < m by omega), if_neg (show ¬ m + 1 = m by omega), List.length_set, hZ]) (by
    rw [hR]; rcases hsk with rfl | rfl | rfl
    · simp only [fixMid, if_pos him]; exact set_secs hS (xorL_sec sm sp)
    · simp only [fixMid, if_pos him, if_neg (Nat.lt_irrefl m), if_true]; exact set_secs hS (mulL_sec sx)
    · simp only [fixMid, if_pos him, if_neg (show ¬ m + 1 < m by omega), if_neg (show ¬ m + 1 = m by omega)]; exact set_secs hS (xorL_sec sm sp)) hl hm
  rw [← hR]
  rcases hsk with rfl | rfl | rfl
  · have hR : R = Z.set i (xorL (Z.getD m []) (psum Z m)) := by rw [hR]; simp only [fixMid, if_pos him]
    rw [show (kz [i]).contains (m : Int) = false by simp; omega] at gc
    generalize psum Z m = P at *
    generalize qsum Z m = Q at *
    subst hR
    rcases hX with rfl | ⟨zs, rfl⟩ <;>
    · refine evC_sound tabOk mixed _ _ _ _ ?_
      conv => whnf
      repeat (first | (refine ⟨(by kernel_rfl : chkR _ _ _ _ = true), ?_⟩; conv => whnf) | (refine EvOr.go ?_; conv => whnf))
      refine CallG.use g c74 [3, 2] [] ?_ ?_ ?_ ?_ ?_ ?_; rfl; rfl; kernel_rfl; rfl; rfl
      conv => whnf
      repeat (first | (refine ⟨(by kernel_rfl : chkR _ _ _ _ = true), ?_⟩; conv => whnf) | (refine EvOr.go ?_; conv => whnf))
      intro c hc
      obtain rfl : c = false := by rw [hc]; rfl
      conv => whnf
      repeat (first | (refine ⟨(by kernel_rfl : chkR _ _ _ _ = true), ?_⟩; conv => whnf) | (refine EvOr.go ?_; conv => whnf))
      intro c hc
      obtain rfl : c = false := by rw [hc]; rfl
      conv => whnf
      repeat (first | (refine ⟨(by kernel_rfl : chkR _ _ _ _ = true), ?_⟩; conv => whnf) | (refine EvOr.go ?_; conv => whnf))
      refine CallG.use gc c78 [3] [] ?_ ?_ ?_ ?_ ?_ ?_; rfl; rfl; kernel_rfl; rfl; rfl
      conv => whnf
      repeat (first | (refine ⟨(by kernel_rfl : chkR _ _ _ _ = true), ?_⟩; conv => whnf) | (refine EvOr.go ?_; conv => whnf))
      refine ⟨⟨by decide, by show (0 : Int) < 1; decide⟩, ?_⟩
      conv => whnf
      repeat (first | (refine ⟨(by kernel_rfl : chkR _ _ _ _ = true), ?_⟩; conv => whnf) | (refine EvOr.go ?_; conv => whnf))
      refine ⟨_, rfl, ?_⟩
      conv => whnf
      repeat (first | (refine ⟨(by kernel_rfl : chkR _ _ _ _ = true), ?_⟩; conv => whnf) | (refine EvOr.go ?_; conv => whnf))
      refine ⟨⟨by omega, by show (m : Int) < ((m + 2 : Nat) : Int); omega⟩, ?_⟩
      conv => whnf
      repeat (first | (refine ⟨(by kernel_rfl : chkR _ _ _ _ = true), ?_⟩; conv => whnf) | (refine EvOr.go ?_; conv => whnf))
      refine ⟨_, hrm, ?_⟩
      conv => whnf
      repeat (first | (refine ⟨(by kernel_rfl : chkR _ _ _ _ = true), ?_⟩; conv => whnf) | (refine EvOr.go ?_; conv => whnf))
      refine CallG.use g1 c77 [] [] ?_ ?_ ?_ ?_ ?_ ?_; rfl; rfl; kernel_rfl; rfl; rfl
      conv => whnf
      repeat (first | (refine ⟨(by kernel_rfl : chkR _ _ _ _ = true), ?_⟩; conv => whnf) | (refine EvOr.go ?_; conv => whnf))
      refine ⟨⟨by show (0 : Int) ≤ (i : Int); omega, by show (i : Int) < ((m + 2 : Nat) : Int); omega⟩, ?_⟩
      conv => whnf
      repeat (first | (refine ⟨(by kernel_rfl : chkR _ _ _ _ = true), ?_⟩; conv => whnf) | (refine EvOr.go ?_; conv => whnf))
      refine ⟨_, hri, ?_⟩
      conv => whnf
      repeat (refine ⟨(by kernel_rfl : chkR _ _ _ _ = true), ?_⟩; conv => whnf)
      refine EvOr.cut (CodeT.weaken _ (StW.ofP [0, 1, 2, 3, 4, 5, 6] ?_ ?_ ?_) gS)
      · kernel_rfl
      · rfl
      · simp only [fiH, rowX, row_setS]; rfl
  · have hR : R = Z.set i (mulL (xorL (Z.getD (m + 1) []) (qsum Z m)) (pwZ (-(i : Int)))) := by rw [hR]; simp only [fixMid, if_pos him, if_neg (Nat.lt_irrefl m), if_true]
    rw [show (kz [i, m]).contains (m : Int) = true by simp] at gc
    generalize psum Z m = P at *
    generalize qsum Z m = Q at *
    subst hR
    rcases hX with rfl | ⟨zs, rfl⟩ <;>
    · refine evC_sound tabOk mixed _ _ _ _ ?_
      conv => whnf
      repeat (first | (refine ⟨(by kernel_rfl : chkR _ _ _ _ = true), ?_⟩; conv => whnf) | (refine EvOr.go ?_; conv => whnf))
      refine CallG.use g c74 [3, 2] [] ?_ ?_ ?_ ?_ ?_ ?_; rfl; rfl; kernel_rfl; rfl; rfl
      conv => whnf
      repeat (first | (refine ⟨(by kernel_rfl : chkR _ _ _ _ = true), ?_⟩; conv => whnf) | (refine EvOr.go ?_; conv => whnf))
      intro c hc
      obtain rfl : c = false := by rw [hc]; rfl
      conv => whnf
      repeat (first | (refine ⟨(by kernel_rfl : chkR _ _ _ _ = true), ?_⟩; conv => whnf) | (refine EvOr.go ?_; conv => whnf))
      intro c hc
      obtain rfl : c = true := by rw [hc]; rfl
      conv => whnf
      repeat (first | (refine ⟨(by kernel_rfl : chkR _ _ _ _ = true), ?_⟩; conv => whnf) | (refine EvOr.go ?_; conv => whnf))
      refine ⟨⟨by decide, by show (1 : Int) < 2; decide⟩, ?_⟩
      conv => whnf
      repeat (first | (refine ⟨(by kernel_rfl : chkR _ _ _ _ = true), ?_⟩; conv => whnf) | (refine EvOr.go ?_; conv => whnf))
      refine ⟨_, rfl, ?_⟩
      conv => whnf
      repeat (first | (refine ⟨(by kernel_rfl : chkR _ _ _ _ = true), ?_⟩; conv => whnf) | (refine EvOr.go ?_; conv => whnf))
      intro c hc
      obtain rfl : c = false := by rw [hc]; simp
      conv => whnf
      repeat (first | (refine ⟨(by kernel_rfl : chkR _ _ _ _ = true), ?_⟩; conv => whnf) | (refine EvOr.go ?_; conv => whnf))
      refine CallG.use gc c78 [3] [] ?_ ?_ ?_ ?_ ?_ ?_; rfl; rfl; kernel_rfl; rfl; rfl
      conv => whnf
      repeat (first | (refine ⟨(by kernel_rfl : chkR _ _ _ _ = true), ?_⟩; conv => whnf) | (refine EvOr.go ?_; conv => whnf))
      refine ⟨⟨by decide, by show (0 : Int) < 2; decide⟩, ?_⟩
      conv => whnf
      repeat (first | (refine ⟨(by kernel_rfl : chkR _ _ _ _ = true), ?_⟩; conv => whnf) | (refine EvOr.go ?_; conv => whnf))
      refine ⟨_, rfl, ?_⟩
      conv => whnf
      repeat (first | (refine ⟨(by kernel_rfl : chkR _ _ _ _ = true), ?_⟩; conv => whnf) | (refine EvOr.go ?_; conv => whnf))
      refine ⟨_, hmi, ?_⟩
      conv => whnf
      repeat (first | (refine ⟨(by kernel_rfl : chkR _ _ _ _ = true), ?_⟩; conv => whnf) | (refine EvOr.go ?_; conv => whnf))
      refine ⟨⟨by omega, by show ((m + 1 : Nat) : Int) < ((m + 2 : Nat) : Int); omega⟩, ?_⟩
      conv => whnf
      repeat (first | (refine ⟨(by kernel_rfl : chkR _ _ _ _ = true), ?_⟩; conv => whnf) | (refine EvOr.go ?_; conv => whnf))
      refine ⟨_, hrm1, ?_⟩
      conv => whnf
      repeat (first | (refine ⟨(by kernel_rfl : chkR _ _ _ _ = true), ?_⟩; conv => whnf) | (refine EvOr.go ?_; conv => whnf))
      refine CallG.use g2 c77 [] [] ?_ ?_ ?_ ?_ ?_ ?_; rfl; rfl; kernel_rfl; rfl; rfl
      conv => whnf
      repeat (first | (refine ⟨(by kernel_rfl : chkR _ _ _ _ = true), ?_⟩; conv => whnf) | (refine EvOr.go ?_; conv => whnf))
      refine ⟨_, hneg, ?_⟩
      conv => whnf
      repeat (first | (refine ⟨(by kernel_rfl : chkR _ _ _ _ = true), ?_⟩; conv => whnf) | (refine EvOr.go ?_; conv => whnf))
      refine CallG.use g3 c80 [] [] ?_ ?_ ?_ ?_ ?_ ?_; rfl; rfl; kernel_rfl; rfl; rfl
      conv => whnf
      repeat (first | (refine ⟨(by kernel_rfl : chkR _ _ _ _ = true), ?_⟩; conv => whnf) | (refine EvOr.go ?_; conv => whnf))
      refine CallG.use g4 c79 [] [] ?_ ?_ ?_ ?_ ?_ ?_; rfl; rfl; kernel_rfl; rfl; rfl
      conv => whnf
      repeat (first | (refine ⟨(by kernel_rfl : chkR _ _ _ _ = true), ?_⟩; conv => whnf) | (refine EvOr.go ?_; conv => whnf))
      refine ⟨⟨by show (0 : Int) ≤ (i : Int); omega, by show (i : Int) < ((m + 2 : Nat) : Int); omega⟩, ?_⟩
      conv => whnf
      repeat (first | (refine ⟨(by kernel_rfl : chkR _ _ _ _ = true), ?_⟩; conv => whnf) | (refine EvOr.go ?_; conv => whnf))
      refine ⟨_, hri, ?_⟩
      conv => whnf
      repeat (refine ⟨(by kernel_rfl : chkR _ _ _ _ = true), ?_⟩; conv => whnf)
      refine EvOr.cut (CodeT.weaken _ (StW.ofP [0, 1, 2, 3, 4, 5, 6] ?_ ?_ ?_) gS)
      · kernel_rfl
      · rfl
      · simp only [fiH, rowX, row_setS]; rfl
  · have hR : R = Z.set i (xorL (Z.getD m []) (psum Z m)) := by rw [hR]; simp only [fixMid, if_pos him, if_neg (show ¬ m + 1 < m by omega), if_neg (show ¬ m + 1 = m by omega)]
    rw [show (kz [i, m + 1]).contains (m : Int) = false by simp; omega] at gc
    generalize psum Z m = P at *
    generalize qsum Z m = Q at *
    subst hR
    rcases hX with rfl | ⟨zs, rfl⟩ <;>
    · refine evC_sound tabOk mixed _ _ _ _ ?_
      conv => whnf
      repeat (first | (refine ⟨(by kernel_rfl : chkR _ _ _ _ = true), ?_⟩; conv => whnf) | (refine EvOr.go ?_; conv => whnf))
      refine CallG.use g c74 [3, 2] [] ?_ ?_ ?_ ?_ ?_ ?_; rfl; rfl; kernel_rfl; rfl; rfl
      conv => whnf
      repeat (first | (refine ⟨(by kernel_rfl : chkR _ _ _ _ = true), ?_⟩; conv => whnf) | (refine EvOr.go ?_; conv => whnf))
      intro c hc
      obtain rfl : c = false := by rw [hc]; rfl
      conv => whnf
      repeat (first | (refine ⟨(by kernel_rfl : chkR _ _ _ _ = true), ?_⟩; conv => whnf) | (refine EvOr.go ?_; conv => whnf))
      intro c hc
      obtain rfl : c = true := by rw [hc]; rfl
      conv => whnf
      repeat (first | (refine ⟨(by kernel_rfl : chkR _ _ _ _ = true), ?_⟩; conv => whnf) | (refine EvOr.go ?_; conv => whnf))
      refine ⟨⟨by decide, by show (1 : Int) < 2; decide⟩, ?_⟩
      conv => whnf
      repeat (first | (refine ⟨(by kernel_rfl : chkR _ _ _ _ = true), ?_⟩; conv => whnf) | (refine EvOr.go ?_; conv => whnf))
      refine ⟨_, rfl, ?_⟩
      conv => whnf
      repeat (first | (refine ⟨(by kernel_rfl : chkR _ _ _ _ = true), ?_⟩; conv => whnf) | (refine EvOr.go ?_; conv => whnf))
      intro c hc
      obtain rfl : c = false := by rw [hc]; simp; omega
      conv => whnf
      repeat (first | (refine ⟨(by kernel_rfl : chkR _ _ _ _ = true), ?_⟩; conv => whnf) | (refine EvOr.go ?_; conv => whnf))
      refine CallG.use gc c78 [3] [] ?_ ?_ ?_ ?_ ?_ ?_; rfl; rfl; kernel_rfl; rfl; rfl
      conv => whnf
      repeat (first | (refine ⟨(by kernel_rfl : chkR _ _ _ _ = true), ?_⟩; conv => whnf) | (refine EvOr.go ?_; conv => whnf))
      refine ⟨⟨by decide, by show (0 : Int) < 2; decide⟩, ?_⟩
      conv => whnf
      repeat (first | (refine ⟨(by kernel_rfl : chkR _ _ _ _ = true), ?_⟩; conv => whnf) | (refine EvOr.go ?_; conv => whnf))
      refine ⟨_, rfl, ?_⟩
      conv => whnf
      repeat (first | (refine ⟨(by kernel_rfl : chkR _ _ _ _ = true), ?_⟩; conv => whnf) | (refine EvOr.go ?_; conv => whnf))
      refine ⟨⟨by omega, by show (m : Int) < ((m + 2 : Nat) : Int); omega⟩, ?_⟩
      conv => whnf
      repeat (first | (refine ⟨(by kernel_rfl : chkR _ _ _ _ = true), ?_⟩; conv => whnf) | (refine EvOr.go ?_; conv => whnf))
      refine ⟨_, hrm, ?_⟩
      conv => whnf
      repeat (first | (refine ⟨(by kernel_rfl : chkR _ _ _ _ = true), ?_⟩; conv => whnf) | (refine EvOr.go ?_; conv => whnf))
      refine CallG.use g1 c77 [] [] ?_ ?_ ?_ ?_ ?_ ?_; rfl; rfl; kernel_rfl; rfl; rfl
      conv => whnf
      repeat (first | (refine ⟨(by kernel_rfl : chkR _ _ _ _ = true), ?_⟩; conv => whnf) | (refine EvOr.go ?_; conv => whnf))
      refine ⟨⟨by show (0 : Int) ≤ (i : Int); omega, by show (i : Int) < ((m + 2 : Nat) : Int); omega⟩, ?_⟩
      conv => whnf
      repeat (first | (refine ⟨(by kernel_rfl : chkR _ _ _ _ = true), ?_⟩; conv => whnf) | (refine EvOr.go ?_; conv => whnf))
      refine ⟨_, hri, ?_⟩
      conv => whnf
      repeat (refine ⟨(by kernel_rfl : chkR _ _ _ _ = true), ?_⟩; conv => whnf)
      refine EvOr.cut (CodeT.weaken _ (StW.ofP [0, 1, 2, 3, 4, 5, 6] ?_ ?_ ?_) gS)
      · kernel_rfl
      · rfl
      · simp only [fiH, rowX, row_setS]; rfl
end Go.Proofs.Ytdmcbfmpnakdfaa.Eng
