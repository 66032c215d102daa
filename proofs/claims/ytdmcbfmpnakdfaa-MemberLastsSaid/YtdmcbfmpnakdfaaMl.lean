/- MemberLasts: its last stage. -/
import Derived.Test.YtdmcbfmpnakdfaaMj
namespace Go.Proofs.Ytdmcbfmpnakdfaa.Eng
open Go Go.Proofs
set_option maxRecDepth 20000
set_option maxHeartbeats 4000000
def secE (s t : List Nat) : Bool := (List.range 64).all fun i => s.getD i 0 == t.getD i 0
theorem secE_iff (s t : List Nat) : secE s t = true ↔ bysN 64 s = bysN 64 t := bysN_iff 64 s t
theorem secE_of {c : Bool} {s t : List Nat} (h : c = true ↔ bysN 64 s = bysN 64 t) : c = secE s t := by
  rw [← secE_iff] at h
  cases c <;> cases hs : secE s t <;> simp_all
def mayK (t : List Nat) (i : Int) (bl : List ActV) (m0 : Bool) : Nat → Bool
  | 0 => m0
  | k + 1 => mayK t i bl m0 k || (match bl[k]? with
    | some a => six a.i == i && secE a.s t
    | none => false)
theorem mayK_mono {t : List Nat} {i : Int} {bl : List ActV} {m0 : Bool} {k n : Nat} (h : k ≤ n) (hk : mayK t i bl m0 k = true) : mayK t i bl m0 n = true := by
  induction n with
  | zero => obtain rfl : k = 0 := by omega
            exact hk
  | succ n ih =>
    by_cases h2 : k = n + 1
    · subst h2; exact hk
    · unfold mayK; rw [ih (by omega)]; rfl
theorem mayK_of {t : List Nat} {i : Int} {bl : List ActV} {m0 : Bool} (h : m0 = true ∨ ∃ a ∈ bl, six a.i = i ∧ bysN 64 a.s = bysN 64 t) : mayK t i bl m0 bl.length = true := by
  rcases h with h | ⟨a, ha, h1, h2⟩
  · exact mayK_mono (Nat.zero_le _) h
  · obtain ⟨k, hk, he⟩ := List.getElem_of_mem ha
    refine mayK_mono (k := k + 1) hk ?_
    unfold mayK
    rw [List.getElem?_eq_getElem hk, he]
    show (_ || (six a.i == i && secE a.s t)) = true
    rw [(secE_iff _ _).2 h2, h1]; simp
abbrev secB (s : List Nat) : Option ABlk := some (.row .one 34 64 [[.byt 64 s]] [])
abbrev lasH (b : Ar) (bl : List ActV) (M W A S : Mem) (lg : Lg) : LHp :=
  [none, arB b bl, none, some (memG M .nil .nil 4 5 6 7), imB M.seen, none, none, none, some (memG W .nil .nil 9 10 11 12), imB W.seen, none, none, none,
   some (memG A .nil .nil 14 15 16 17), imB A.seen, none, none, none, some (memG S lg .nil 19 20 21 22), imB S.seen, none, none, none]
def lasI (b : Ar) (bl : List ActV) (M W A S : Mem) (lg : Lg) (k : Nat) : LTm × LHp :=
  ([.junk, .sc (b.sv bl.length 1), .junk, .junk, .junk, .junk, .junk, .sc (.ptr 3 0 7 0), .junk, .sc (.ptr 8 0 7 0), .junk, .junk, .junk, .sc (.ptr 13 0 7 0), .junk, .junk, .sc (.ptr 18 0 7 0), iv (k : Nat), .junk, .junk, .junk, .junk, .junk, .junk, .junk, .junk, .junk, .junk, .junk, .junk, .junk, .junk, .junk, .junk, .junk, .junk, .junk, .junk, .junk, .junk, .junk, .junk, .junk, .junk, .junk, .junk, .junk, .junk, .junk, .junk, .junk, .junk, .junk, .junk, .junk, .junk, .junk, .junk, .junk, .junk, .junk, .junk, .junk, .junk, .junk, .junk, .junk, .junk, .junk, .junk, .junk, .junk, .junk, .junk, .junk, .junk, .junk, .junk, .junk, .junk, .junk, .junk, .junk, .junk, .junk, .junk, .junk, .junk, .junk, .junk, .junk, .junk, .junk, .junk, .junk, .junk, .junk, .junk, .junk, .junk, .junk, .junk, .junk, .junk, .junk, .junk, .junk, .junk, .junk, .junk, .junk, .junk, .junk, .junk, .junk, .junk, .junk, .junk, .junk, .junk, .junk, .junk, .junk, .junk, .junk, .junk, .junk, .junk, .junk, .junk, .junk, .junk, .junk, .junk, .junk, .junk, .junk, .junk, .junk, .junk, .junk, .junk, .junk, .junk, .junk, .junk, .junk, .junk, .junk, .junk, .junk, .junk, .junk, .junk, .junk, .junk, .junk, .junk, .junk, .junk, .junk, .junk, .junk, .junk, .junk, .junk, .junk, .junk, .junk, .junk, .junk, .junk, .junk, .junk, .junk], lasH b bl M W A S lg)
def lasI2 (b : Ar) (bl : List ActV) (M W A S : Mem) (lg : Lg) (i : Nat) (mb : Bool) (k : Nat) : LTm × LHp :=
  ([.junk, .sc (b.sv bl.length 1), .junk, .junk, .junk, .junk, .junk, .sc (.ptr 3 0 7 0), .junk, .sc (.ptr 8 0 7 0), .junk, .junk, .junk, .sc (.ptr 13 0 7 0), .junk, .junk, .sc (.ptr 18 0 7 0), iv (i : Nat), .sc (.ptr 23 0 64 0), .junk, .sc (.ptr 24 0 64 0), .junk, .junk, .junk, bv mb, iv (k : Nat), .junk, .junk, .junk, .junk, .junk, .junk, .junk, .junk, .junk, .junk, .junk, .junk, .junk, .junk, .junk, .junk, .junk, .junk, .junk, .junk, .junk, .junk, .junk, .junk, .junk, .junk, .junk, .junk, .junk, .junk, .junk, .junk, .junk, .junk, .junk, .junk, .junk, .junk, .junk, .junk, .junk, .junk, .junk, .junk, .junk, .junk, .junk, .junk, .junk, .junk, .junk, .junk, .junk, .junk, .junk, .junk, .junk, .junk, .junk, .junk, .junk, .junk, .junk, .junk, .junk, .junk, .junk, .junk, .junk, .junk, .junk, .junk, .junk, .junk, .junk, .junk, .junk, .junk, .junk, .junk, .junk, .junk, .junk, .junk, .junk, .junk, .junk, .junk, .junk, .junk, .junk, .junk, .junk, .junk, .junk, .junk, .junk, .junk, .junk, .junk, .junk, .junk, .junk, .junk, .junk, .junk, .junk, .junk, .junk, .junk, .junk, .junk, .junk, .junk, .junk, .junk, .junk, .junk, .junk, .junk, .junk, .junk, .junk, .junk, .junk, .junk, .junk, .junk, .junk, .junk, .junk, .junk, .junk, .junk, .junk, .junk, .junk, .junk, .junk, .junk, .junk, .junk, .junk, .junk, .junk, .junk, .junk, .junk, .junk],
   lasH b bl M W A S lg ++ [secB (getI S.seen i), secB (getI M.seen i)])
theorem io_6 {M : Mem} (hn : M.n = 6) (hf : M.fails = false) {i : Nat} (hi : i < 6) : ioE M i = 0 := by
  unfold ioE; rw [hn, hf, if_neg (by omega)]; rfl
theorem lasD (b : Ar) (bl : List ActV) (M W A S : Mem) (lg : Lg) (hb : b.ok bl) (hbl : bl.length ≤ 20) (hM : M.n = 6 ∧ M.fails = false ∧ M.hurt = false ∧ M.log = []) (hW : W.n = 6 ∧ W.fails = false) (hA : A.n = 6 ∧ A.fails = false) (hS : S.n = 6 ∧ S.fails = false)
    (h1 : ∀ i : Int, bysN 64 (getI A.seen i) = bysN 64 (getI S.seen i)) (h2 : ∀ i : Int, getI M.seen i = getI W.seen i ∨ ∃ a ∈ bl, six a.i = i ∧ bysN 64 a.s = bysN 64 (getI M.seen i)) :
    CodeT Try.prog 3 (suf 16 (bodyC Try.f5)) ([.junk, .sc (b.sv bl.length 1), .junk, .junk, .junk, .junk, .junk, .sc (.ptr 3 0 7 0), .junk, .sc (.ptr 8 0 7 0), .junk, .junk, .junk, .sc (.ptr 13 0 7 0), .junk, .junk, .sc (.ptr 18 0 7 0), .junk, .junk, .junk, .junk, .junk, .junk, .junk, .junk, .junk, .junk, .junk, .junk, .junk, .junk, .junk, .junk, .junk, .junk, .junk, .junk, .junk, .junk, .junk, .junk, .junk, .junk, .junk, .junk, .junk, .junk, .junk, .junk, .junk, .junk, .junk, .junk, .junk, .junk, .junk, .junk, .junk, .junk, .junk, .junk, .junk, .junk, .junk, .junk, .junk, .junk, .junk, .junk, .junk, .junk, .junk, .junk, .junk, .junk, .junk, .junk, .junk, .junk, .junk, .junk, .junk, .junk, .junk, .junk, .junk, .junk, .junk, .junk, .junk, .junk, .junk, .junk, .junk, .junk, .junk, .junk, .junk, .junk, .junk, .junk, .junk, .junk, .junk, .junk, .junk, .junk, .junk, .junk, .junk, .junk, .junk, .junk, .junk, .junk, .junk, .junk, .junk, .junk, .junk, .junk, .junk, .junk, .junk, .junk, .junk, .junk, .junk, .junk, .junk, .junk, .junk, .junk, .junk, .junk, .junk, .junk, .junk, .junk, .junk, .junk, .junk, .junk, .junk, .junk, .junk, .junk, .junk, .junk, .junk, .junk, .junk, .junk, .junk, .junk, .junk, .junk, .junk, .junk, .junk, .junk, .junk, .junk, .junk, .junk, .junk, .junk, .junk, .junk, .junk, .junk, .junk, .junk, .junk, .junk]) (lasH b bl M W A S lg) (retQ Try.prog Try.f5 3 (bv true) [none, none, none]) := by
  have gW := fun (i : Nat) (hi : i < 6) => read_ok W .nil .nil i (by rw [hW.1]; decide) (io_6 hW.1 hW.2 hi)
  have gM := fun (i : Nat) (hi : i < 6) => read_ok M .nil .nil i (by rw [hM.1]; decide) (io_6 hM.1 hM.2.1 hi)
  have gS := fun (i : Nat) (hi : i < 6) => read_ok S lg .nil i (by rw [hS.1]; decide) (io_6 hS.1 hS.2 hi)
  have gA := fun (i : Nat) (hi : i < 6) => reads_ok A .nil .nil i (getI S.seen i) (by rw [hA.1]; decide) (io_6 hA.1 hA.2 hi) true ⟨fun _ => h1 i, fun _ => rfl⟩
  have gU := unflushed_ok M .nil .nil hM.2.2.2 (by rw [hM.1]; decide)
  have gT := touched_ok M .nil .nil (by rw [hM.1]; decide)
  have gZ := awake_ok
  rw [hM.2.2.2] at gU
  rw [hM.2.2.1] at gT
  have h3 : ∀ i : Nat, mayK (getI M.seen i) i bl (secE (getI M.seen i) (getI W.seen i)) bl.length = true := fun i => mayK_of (by
    rcases h2 i with h | h
    · exact .inl ((secE_iff _ _).2 (by rw [h]))
    · exact .inr h)
  have hadv : ∀ (i : Nat) (m0 : Bool) (q : Nat), q < bl.length → mayK (getI M.seen i) i bl m0 (q + 1) = (mayK (getI M.seen i) i bl m0 q || (match bl[q]? with
    | some a => six a.i == i && secE a.s (getI M.seen i)
    | none => false)) := fun _ _ _ _ => rfl
  obtain ⟨I, hI⟩ : ∃ I, I = lasI b bl M W A S lg := ⟨_, rfl⟩
  obtain ⟨I2, hI2⟩ : ∃ I2, I2 = fun (i : Nat) (m0 : Bool) (q : Nat) => lasI2 b bl M W A S lg i (mayK (getI M.seen i) i bl m0 q) q := ⟨_, rfl⟩
  cases b <;> cases lg <;>
  · refine evC_sound tabOk mixed _ _ _ _ ?_
    conv => whnf
    repeat (first | (refine ⟨(by kernel_rfl : chkR _ _ _ _ = true), ?_⟩; conv => whnf) | (refine EvOr.go ?_; conv => whnf))
    refine CodeT.loopN tabOk mixed I 6 _ (StW.ofP [] ?_ ?_ ?_) (fun k => by subst hI; rfl) ?_
    · subst hI; kernel_rfl
    · subst hI; rfl
    · subst hI; rfl
    intro k hkl
    subst hI
    conv => whnf
    repeat (first | (refine ⟨(by kernel_rfl : chkR _ _ _ _ = true), ?_⟩; conv => whnf) | (refine EvOr.go ?_; conv => whnf))
    intro c hc
    by_cases hk : k < 6
    · obtain rfl : c = true := by rw [hc]; exact decide_eq_true (by omega)
      conv => whnf
      repeat (first | (refine ⟨(by kernel_rfl : chkR _ _ _ _ = true), ?_⟩; conv => whnf) | (refine EvOr.go ?_; conv => whnf))
      refine CallG.use (gS k hk) c33 [18, 19, 20, 21, 22] [] ?_ ?_ ?_ ?_ ?_ ?_; rfl; rfl; kernel_rfl; rfl; rfl
      conv => whnf
      repeat (first | (refine ⟨(by kernel_rfl : chkR _ _ _ _ = true), ?_⟩; conv => whnf) | (refine EvOr.go ?_; conv => whnf))
      refine CallG.use (gM k hk) c33 [3, 4, 5, 6, 7] [] ?_ ?_ ?_ ?_ ?_ ?_; rfl; rfl; kernel_rfl; rfl; rfl
      conv => whnf
      repeat (first | (refine ⟨(by kernel_rfl : chkR _ _ _ _ = true), ?_⟩; conv => whnf) | (refine EvOr.go ?_; conv => whnf))
      refine CallG.use (gW k hk) c33 [8, 9, 10, 11, 12] [] ?_ ?_ ?_ ?_ ?_ ?_; rfl; rfl; kernel_rfl; rfl; rfl
      conv => whnf
      repeat (first | (refine ⟨(by kernel_rfl : chkR _ _ _ _ = true), ?_⟩; conv => whnf) | (refine EvOr.go ?_; conv => whnf))
      refine ⟨rfl, ?_⟩
      refine ⟨eq34, ?_⟩
      conv => whnf
      repeat (first | (refine ⟨(by kernel_rfl : chkR _ _ _ _ = true), ?_⟩; conv => whnf) | (refine EvOr.go ?_; conv => whnf))
      intro c hc
      obtain rfl := secE_of hc
      conv => whnf
      repeat (first | (refine ⟨(by kernel_rfl : chkR _ _ _ _ = true), ?_⟩; conv => whnf) | (refine EvOr.go ?_; conv => whnf))
      refine CodeT.loopN tabOk mixed (I2 k (secE (getI M.seen k) (getI W.seen k))) bl.length _ (StW.ofP [] ?_ ?_ ?_) (fun k => by subst hI2; rfl) ?_
      · subst hI2; kernel_rfl
      · subst hI2; rfl
      · subst hI2; rfl
      intro q hql
      replace hadv := hadv k (secE (getI M.seen k) (getI W.seen k)) q
      replace h3 := h3 k
      subst hI2
      dsimp only
      generalize hmb : mayK (getI M.seen k) k bl (secE (getI M.seen k) (getI W.seen k)) q = mb at hadv
      conv => whnf
      repeat (first | (refine ⟨(by kernel_rfl : chkR _ _ _ _ = true), ?_⟩; conv => whnf) | (refine EvOr.go ?_; conv => whnf))
      intro c hc
      by_cases hq : q < bl.length
      · first
        | (exfalso; obtain rfl : bl = [] := hb; exact absurd hq (Nat.not_lt_zero _))
        | (obtain rfl : c = true := by rw [hc]; exact decide_eq_true (by omega)
           have e0 : mayK (getI M.seen k) k bl (secE (getI M.seen k) (getI W.seen k)) (q + 1) = (mb || (six bl[q].i == (k : Int) && secE bl[q].s (getI M.seen k))) := by
             have := hadv hq
             rw [List.getElem?_eq_getElem hq] at this
             exact this
           cases mb
           · conv => whnf
             repeat (first | (refine ⟨(by kernel_rfl : chkR _ _ _ _ = true), ?_⟩; conv => whnf) | (refine EvOr.go ?_; conv => whnf))
             refine ⟨⟨by omega, by omega⟩, ?_⟩
             conv => whnf
             repeat (first | (refine ⟨(by kernel_rfl : chkR _ _ _ _ = true), ?_⟩; conv => whnf) | (refine EvOr.go ?_; conv => whnf))
             refine ⟨_, act_get hq, ?_⟩
             conv => whnf
             repeat (first | (refine ⟨(by kernel_rfl : chkR _ _ _ _ = true), ?_⟩; conv => whnf) | (refine EvOr.go ?_; conv => whnf))
             refine ⟨_, six_a _, ?_⟩
             conv => whnf
             repeat (first | (refine ⟨(by kernel_rfl : chkR _ _ _ _ = true), ?_⟩; conv => whnf) | (refine EvOr.go ?_; conv => whnf))
             refine ⟨_, six_b _, ?_⟩
             conv => whnf
             repeat (first | (refine ⟨(by kernel_rfl : chkR _ _ _ _ = true), ?_⟩; conv => whnf) | (refine EvOr.go ?_; conv => whnf))
             refine ⟨_, six_c _, ?_⟩
             conv => whnf
             repeat (first | (refine ⟨(by kernel_rfl : chkR _ _ _ _ = true), ?_⟩; conv => whnf) | (refine EvOr.go ?_; conv => whnf))
             intro c2 hc2
             rw [show (six bl[q].i == (k : Int)) = c2 from hc2.symm] at e0
             cases c2
             · conv => whnf
               repeat (first | (refine ⟨(by kernel_rfl : chkR _ _ _ _ = true), ?_⟩; conv => whnf) | (refine EvOr.go ?_; conv => whnf))
               refine ⟨_, inc_nat (by omega), ?_⟩
               conv => whnf
               repeat (first | (refine ⟨(by kernel_rfl : chkR _ _ _ _ = true), ?_⟩; conv => whnf) | (refine EvOr.go ?_; conv => whnf))
               refine ⟨by omega, _, StW.ofP [] ?_ ?_ ?_⟩
               · kernel_rfl
               · dsimp only; rw [e0]; rfl
               · rfl
             · conv => whnf
               repeat (first | (refine ⟨(by kernel_rfl : chkR _ _ _ _ = true), ?_⟩; conv => whnf) | (refine EvOr.go ?_; conv => whnf))
               refine ⟨⟨by omega, by omega⟩, ?_⟩
               conv => whnf
               repeat (first | (refine ⟨(by kernel_rfl : chkR _ _ _ _ = true), ?_⟩; conv => whnf) | (refine EvOr.go ?_; conv => whnf))
               refine ⟨_, act_get hq, ?_⟩
               conv => whnf
               repeat (first | (refine ⟨(by kernel_rfl : chkR _ _ _ _ = true), ?_⟩; conv => whnf) | (refine EvOr.go ?_; conv => whnf))
               refine ⟨rfl, ?_⟩
               refine ⟨eq34, ?_⟩
               conv => whnf
               repeat (first | (refine ⟨(by kernel_rfl : chkR _ _ _ _ = true), ?_⟩; conv => whnf) | (refine EvOr.go ?_; conv => whnf))
               intro c3 hc3
               obtain rfl := secE_of hc3
               conv => whnf
               repeat (first | (refine ⟨(by kernel_rfl : chkR _ _ _ _ = true), ?_⟩; conv => whnf) | (refine EvOr.go ?_; conv => whnf))
               refine ⟨_, inc_nat (by omega), ?_⟩
               conv => whnf
               repeat (first | (refine ⟨(by kernel_rfl : chkR _ _ _ _ = true), ?_⟩; conv => whnf) | (refine EvOr.go ?_; conv => whnf))
               refine ⟨by omega, _, StW.ofP [] ?_ ?_ ?_⟩
               · kernel_rfl
               · dsimp only; rw [e0]; rfl
               · rfl
           · conv => whnf
             repeat (first | (refine ⟨(by kernel_rfl : chkR _ _ _ _ = true), ?_⟩; conv => whnf) | (refine EvOr.go ?_; conv => whnf))
             refine ⟨_, inc_nat (by omega), ?_⟩
             conv => whnf
             repeat (first | (refine ⟨(by kernel_rfl : chkR _ _ _ _ = true), ?_⟩; conv => whnf) | (refine EvOr.go ?_; conv => whnf))
             refine ⟨by omega, _, StW.ofP [] ?_ ?_ ?_⟩
             · kernel_rfl
             · dsimp only; rw [e0]; rfl
             · rfl
          )
      · obtain rfl : c = false := by rw [hc]; exact decide_eq_false (by omega)
        obtain rfl : q = bl.length := by omega
        obtain rfl : mb = true := hmb.symm.trans h3
        conv => whnf
        repeat (first | (refine ⟨(by kernel_rfl : chkR _ _ _ _ = true), ?_⟩; conv => whnf) | (refine EvOr.go ?_; conv => whnf))
        refine CallG.use (gA k hk) c34 [13, 14, 15, 16, 17] [] ?_ ?_ ?_ ?_ ?_ ?_; rfl; rfl; kernel_rfl; rfl; rfl
        conv => whnf
        repeat (first | (refine ⟨(by kernel_rfl : chkR _ _ _ _ = true), ?_⟩; conv => whnf) | (refine EvOr.go ?_; conv => whnf))
        refine ⟨_, inc_nat (by omega), ?_⟩
        conv => whnf
        repeat (first | (refine ⟨(by kernel_rfl : chkR _ _ _ _ = true), ?_⟩; conv => whnf) | (refine EvOr.go ?_; conv => whnf))
        refine ⟨by first | exact hk | omega, _, StW.ofP [] ?_ ?_ ?_⟩
        · kernel_rfl
        · rfl
        · rfl
    · obtain rfl : c = false := by rw [hc]; exact decide_eq_false (by omega)
      conv => whnf
      repeat (first | (refine ⟨(by kernel_rfl : chkR _ _ _ _ = true), ?_⟩; conv => whnf) | (refine EvOr.go ?_; conv => whnf))
      refine CallG.use gU c30 [3, 4, 5, 6, 7] [] ?_ ?_ ?_ ?_ ?_ ?_; rfl; rfl; kernel_rfl; rfl; rfl
      conv => whnf
      repeat (first | (refine ⟨(by kernel_rfl : chkR _ _ _ _ = true), ?_⟩; conv => whnf) | (refine EvOr.go ?_; conv => whnf))
      intro c hc
      obtain rfl : c = true := by rw [hc]; rfl
      conv => whnf
      repeat (first | (refine ⟨(by kernel_rfl : chkR _ _ _ _ = true), ?_⟩; conv => whnf) | (refine EvOr.go ?_; conv => whnf))
      refine CallG.use gT c35 [3, 4, 5, 6, 7] [] ?_ ?_ ?_ ?_ ?_ ?_; rfl; rfl; kernel_rfl; rfl; rfl
      conv => whnf
      repeat (first | (refine ⟨(by kernel_rfl : chkR _ _ _ _ = true), ?_⟩; conv => whnf) | (refine EvOr.go ?_; conv => whnf))
      refine CallG.use gZ c26 [] [] ?_ ?_ ?_ ?_ ?_ ?_; rfl; rfl; kernel_rfl; rfl; rfl
      conv => whnf
      repeat (first | (refine ⟨(by kernel_rfl : chkR _ _ _ _ = true), ?_⟩; conv => whnf) | (refine EvOr.go ?_; conv => whnf))
      exact retQ.one rfl (.inr rfl) rfl (Nat.le_of_ble_eq_true rfl) rfl
end Go.Proofs.Ytdmcbfmpnakdfaa.Eng
