/- MemberLasts: from the second put to the second crash. -/
import Derived.Test.YtdmcbfmpnakdfaaMl
namespace Go.Proofs.Ytdmcbfmpnakdfaa.Eng
open Go Go.Proofs
set_option maxRecDepth 20000
set_option maxHeartbeats 4000000
def ob (k : Nat) : Int := IntKind.u8.wrap (1 + (k : Int).tmod 255)
def onesL (k : Nat) : List Int := (List.range k).map ob
theorem ob_a (k : Nat) : arithI .rem .i64 (k : Int) 255 = some ((k : Int).tmod 255) := rfl
theorem ob_b (k : Nat) : arithI .add .i64 1 ((k : Int).tmod 255) = some (1 + (k : Int).tmod 255) := by
  show some (IntKind.i64.wrap (1 + (k : Int).tmod 255)) = _
  have h1 := Int.tmod_lt_of_pos (k : Int) (show (0 : Int) < 255 by decide)
  have h2 : 0 ≤ (k : Int).tmod 255 := Int.tmod_nonneg _ (by omega)
  rw [IntWalk.i64_in _ ⟨by omega, by omega⟩]
theorem onesL_succ (k : Nat) : onesL (k + 1) = onesL k ++ [ob k] := by simp [onesL, List.range_succ]
def onS : Nat → SV
  | 0 => nilS
  | k + 1 => .sl 18 0 1 (k + 1) none
def onB : Nat → Option ABlk
  | 0 => none
  | k + 1 => some (.row .inx 5 1 ((onesL (k + 1)).map fun b => [.one (.raw (.int .u8 b))]) [])
def Ar.of : Nat → Ar
  | 0 => .nil
  | _ + 1 => .row
abbrev lasC0 (b c : Ar) (bl : List ActV) (pk : List Int) (M W : Mem) (lg : Lg) : LHp :=
  [none, arB b bl, pkB c pk, some (memG M lg .nil 4 5 6 7), imB M.seen, imB M.dur, logB M lg, none, some (memG W .nil .nil 9 10 11 12), imB W.seen, none, none, none]
abbrev lasC1 (b c : Ar) (bl : List ActV) (pk : List Int) (M W : Mem) (lg : Lg) : LHp :=
  lasC0 b c bl pk M W lg ++ [some (memG M lg .nil 14 15 16 17), imB M.seen, imB M.dur, logB M lg, none]
def lasI3 (b c : Ar) (bl : List ActV) (pk : List Int) (M W : Mem) (lg : Lg) (k : Nat) : LTm × LHp :=
  ([.junk, .sc (b.sv bl.length 1), .sc (pkS c pk 2), .junk, .junk, .junk, .junk, .sc (.ptr 3 0 7 0), .junk, .sc (.ptr 8 0 7 0), .junk, .junk, .junk, .sc (.ptr 13 0 7 0), .sc (onS k), iv (k : Nat), .junk, .junk, .junk, .junk, .junk, .junk, .junk, .junk, .junk, .junk, .junk, .junk, .junk, .junk, .junk, .junk, .junk, .junk, .junk, .junk, .junk, .junk, .junk, .junk, .junk, .junk, .junk, .junk, .junk, .junk, .junk, .junk, .junk, .junk, .junk, .junk, .junk, .junk, .junk, .junk, .junk, .junk, .junk, .junk, .junk, .junk, .junk, .junk, .junk, .junk, .junk, .junk, .junk, .junk, .junk, .junk, .junk, .junk, .junk, .junk, .junk, .junk, .junk, .junk, .junk, .junk, .junk, .junk, .junk, .junk, .junk, .junk, .junk, .junk, .junk, .junk, .junk, .junk, .junk, .junk, .junk, .junk, .junk, .junk, .junk, .junk, .junk, .junk, .junk, .junk, .junk, .junk, .junk, .junk, .junk, .junk, .junk, .junk, .junk, .junk, .junk, .junk, .junk, .junk, .junk, .junk, .junk, .junk, .junk, .junk, .junk, .junk, .junk, .junk, .junk, .junk, .junk, .junk, .junk, .junk, .junk, .junk, .junk, .junk, .junk, .junk, .junk, .junk, .junk, .junk, .junk, .junk, .junk, .junk, .junk, .junk, .junk, .junk, .junk, .junk, .junk, .junk, .junk, .junk, .junk, .junk, .junk, .junk, .junk, .junk, .junk, .junk, .junk, .junk, .junk, .junk, .junk, .junk, .junk], lasC1 b c bl pk M W lg ++ [onB k])
theorem kept_congr {D W : Img} {f g : Nat → Bool} : ∀ {n : Nat}, (∀ k, k < n → f k = g k) → kept D W f n = kept D W g n
  | 0, _ => rfl
  | n + 1, h => by
    unfold kept
    rw [h n (Nat.lt_succ_self n), kept_congr fun k hk => h k (Nat.lt_succ_of_lt hk)]
theorem onesL_length (n : Nat) : (onesL n).length = n := by simp [onesL]
theorem ob_ne (k : Nat) : ob k ≠ 0 := by
  unfold ob
  have h1 := Int.tmod_lt_of_pos (k : Int) (show (0 : Int) < 255 by decide)
  have h2 : 0 ≤ (k : Int).tmod 255 := Int.tmod_nonneg _ (by omega)
  rw [IntKind.wrap_u8]
  omega
theorem picked_ones {n k : Nat} (hk : k < n) : picked (onesL n) k = true := by
  unfold picked
  have h : (onesL n).getD k 0 = ob k := by
    simp [onesL, List.getD_eq_getElem?_getD, hk]
  rw [onesL_length, h, decide_eq_true hk]
  simp [ob_ne]
theorem lasC (b c : Ar) (bl : List ActV) (pk : List Int) (M W : Mem) (lg : Lg) (hb : b.ok bl) (hc : c.ok pk) (hbl : bl.length ≤ 20) (hM : M.n = 6 ∧ M.fails = false ∧ M.hurt = false) (hl : M.log = bl.map acW) (hlg : lg = lgAt .nil bl.length)
    (hW : W.n = 6 ∧ W.fails = false) (hk : NK M.dur) (hd : M.seen = kept M.dur M.log allPick M.log.length) (hwd : ∀ i, getI M.dur i = getI W.seen i) :
    CodeT Try.prog 3 (suf 10 (bodyC Try.f5)) ([.junk, .sc (b.sv bl.length 1), .sc (pkS c pk 2), .junk, .junk, .junk, .junk, .sc (.ptr 3 0 7 0), .junk, .sc (.ptr 8 0 7 0), .junk, .junk, .junk, .junk, .junk, .junk, .junk, .junk, .junk, .junk, .junk, .junk, .junk, .junk, .junk, .junk, .junk, .junk, .junk, .junk, .junk, .junk, .junk, .junk, .junk, .junk, .junk, .junk, .junk, .junk, .junk, .junk, .junk, .junk, .junk, .junk, .junk, .junk, .junk, .junk, .junk, .junk, .junk, .junk, .junk, .junk, .junk, .junk, .junk, .junk, .junk, .junk, .junk, .junk, .junk, .junk, .junk, .junk, .junk, .junk, .junk, .junk, .junk, .junk, .junk, .junk, .junk, .junk, .junk, .junk, .junk, .junk, .junk, .junk, .junk, .junk, .junk, .junk, .junk, .junk, .junk, .junk, .junk, .junk, .junk, .junk, .junk, .junk, .junk, .junk, .junk, .junk, .junk, .junk, .junk, .junk, .junk, .junk, .junk, .junk, .junk, .junk, .junk, .junk, .junk, .junk, .junk, .junk, .junk, .junk, .junk, .junk, .junk, .junk, .junk, .junk, .junk, .junk, .junk, .junk, .junk, .junk, .junk, .junk, .junk, .junk, .junk, .junk, .junk, .junk, .junk, .junk, .junk, .junk, .junk, .junk, .junk, .junk, .junk, .junk, .junk, .junk, .junk, .junk, .junk, .junk, .junk, .junk, .junk, .junk, .junk, .junk, .junk, .junk, .junk, .junk, .junk, .junk, .junk, .junk, .junk, .junk, .junk, .junk, .junk]) (lasC0 b c bl pk M W lg) (retQ Try.prog Try.f5 3 (bv true) [none, none, none]) := by
  have hcp : lg.cp M.log = lg := by
    rw [hlg, hl]
    cases bl <;> rfl
  have hok : lg.ok M.log := by
    rw [hlg, hl]
    cases bl
    · rfl
    · trivial
  have hn : 0 < M.n := by rw [hM.1]; decide
  have hlen : M.log.length = bl.length := by rw [hl, List.length_map]
  have gC := copy_ok M lg hok hn (by omega)
  rw [hcp] at gC
  have gU := unflushed_ok M lg .nil hok hn
  rw [hlen] at gU
  obtain ⟨A, hA⟩ : ∃ A, A = crashed M (picked (onesL bl.length)) := ⟨_, rfl⟩
  obtain ⟨M5, hM5⟩ : ∃ A, A = crashed M (picked pk) := ⟨_, rfl⟩
  have gA := fun (n : Nat) (e : n = bl.length) => crash_ok M A lg .nil (Ar.of n) (onesL n) (by rw [e]; exact hA) hok (by cases n <;> trivial) hn (by omega)
  have gM := crash_ok M M5 lg .nil c pk hM5 hok hc hn (by omega)
  have gD := lasD b bl M5 W A M lg hb hbl (by rw [hM5]; exact ⟨hM.1, hM.2.1, hM.2.2, rfl⟩) hW (by rw [hA]; exact ⟨hM.1, hM.2.1⟩) ⟨hM.1, hM.2.1⟩
    (fun i => by
      rw [hA, hd]
      show bysN 64 (getI (kept M.dur M.log (picked (onesL bl.length)) M.log.length) i) = _
      rw [kept_congr (g := allPick) fun k hk => picked_ones (by rw [← hlen]; exact hk)])
    (fun i => by
      rw [hM5]
      rcases kept_may (W := M.log) hk (picked pk) i M.log.length with h | ⟨p, h1, h2, h3⟩
      · exact .inl (h.trans (hwd i))
      · rw [hl] at h1
        obtain ⟨a, ha, rfl⟩ := List.mem_map.1 h1
        exact .inr ⟨a, ha, h2, h3.symm⟩)
  clear hA hM5
  obtain ⟨I, hI⟩ : ∃ I, I = lasI3 b c bl pk M W lg := ⟨_, rfl⟩
  have hlg' : lg = .nil ∨ lg = .inx [] := by
    rw [hlg]; cases bl
    · exact .inl rfl
    · exact .inr rfl
  cases b <;> cases c <;> rcases hlg' with hlg' | hlg' <;> subst hlg' <;>
  · refine evC_sound tabOk mixed _ _ _ _ ?_
    conv => whnf
    repeat (first | (refine ⟨(by kernel_rfl : chkR _ _ _ _ = true), ?_⟩; conv => whnf) | (refine EvOr.go ?_; conv => whnf))
    refine CallG.use gC c31 [3, 4, 5, 6, 7] [] ?_ ?_ ?_ ?_ ?_ ?_; rfl; rfl; kernel_rfl; rfl; rfl
    conv => whnf
    repeat (first | (refine ⟨(by kernel_rfl : chkR _ _ _ _ = true), ?_⟩; conv => whnf) | (refine EvOr.go ?_; conv => whnf))
    refine CodeT.loopN tabOk mixed I bl.length _ (StW.ofP [] ?_ ?_ ?_) (fun k => by subst hI; rfl) ?_
    · subst hI; kernel_rfl
    · subst hI; rfl
    · subst hI; rfl
    intro k hkl
    subst hI
    obtain ⟨kk, hkk⟩ : ∃ kk, kk = k := ⟨_, rfl⟩
    cases k with
    | zero =>
      conv => whnf
      repeat (first | (refine ⟨(by kernel_rfl : chkR _ _ _ _ = true), ?_⟩; conv => whnf) | (refine EvOr.go ?_; conv => whnf))
      refine CallG.use gU c30 [3, 4, 5, 6, 7] [] ?_ ?_ ?_ ?_ ?_ ?_; rfl; rfl; kernel_rfl; rfl; rfl
      conv => whnf
      repeat (first | (refine ⟨(by kernel_rfl : chkR _ _ _ _ = true), ?_⟩; conv => whnf) | (refine EvOr.go ?_; conv => whnf))
      intro c hc
      by_cases hq : kk < bl.length
      · obtain rfl : c = true := by rw [hc]; exact decide_eq_true (by omega)
        conv => whnf
        repeat (first | (refine ⟨(by kernel_rfl : chkR _ _ _ _ = true), ?_⟩; conv => whnf) | (refine EvOr.go ?_; conv => whnf))
        refine ⟨_, ob_a 0, ?_⟩
        conv => whnf
        repeat (first | (refine ⟨(by kernel_rfl : chkR _ _ _ _ = true), ?_⟩; conv => whnf) | (refine EvOr.go ?_; conv => whnf))
        refine ⟨_, ob_b 0, ?_⟩
        conv => whnf
        repeat (first | (refine ⟨(by kernel_rfl : chkR _ _ _ _ = true), ?_⟩; conv => whnf) | (refine EvOr.go ?_; conv => whnf))
        refine ⟨_, rfl, ?_⟩
        conv => whnf
        repeat (first | (refine ⟨(by kernel_rfl : chkR _ _ _ _ = true), ?_⟩; conv => whnf) | (refine EvOr.go ?_; conv => whnf))
        refine ⟨Nat.le_refl _, ?_⟩
        conv => whnf
        repeat (first | (refine ⟨(by kernel_rfl : chkR _ _ _ _ = true), ?_⟩; conv => whnf) | (refine EvOr.go ?_; conv => whnf))
        refine ⟨fun h => absurd h (by decide), fun _ => ⟨by decide, ?_⟩⟩
        conv => whnf
        repeat (first | (refine ⟨(by kernel_rfl : chkR _ _ _ _ = true), ?_⟩; conv => whnf) | (refine EvOr.go ?_; conv => whnf))
        refine ⟨_, inc_nat (k := 0) (by omega), ?_⟩
        conv => whnf
        repeat (first | (refine ⟨(by kernel_rfl : chkR _ _ _ _ = true), ?_⟩; conv => whnf) | (refine EvOr.go ?_; conv => whnf))
        refine ⟨by omega, _, StW.ofP [0, 1, 2, 3, 4, 5, 6, 7, 8, 9, 10, 11, 12, 13, 14, 15, 16, 17, 20] ?_ ?_ ?_⟩
        · kernel_rfl
        · rfl
        · rfl
      · obtain rfl : c = false := by rw [hc]; exact decide_eq_false (by omega)
        conv => whnf
        repeat (first | (refine ⟨(by kernel_rfl : chkR _ _ _ _ = true), ?_⟩; conv => whnf) | (refine EvOr.go ?_; conv => whnf))
        have g := gA 0 (by omega)
        refine CallG.use g c32 [13, 14, 15, 16, 17, 18] [0, 1, 2, 3] ?_ ?_ ?_ ?_ ?_ ?_; rfl; rfl; kernel_rfl; rfl; rfl
        conv => whnf
        repeat (first | (refine ⟨(by kernel_rfl : chkR _ _ _ _ = true), ?_⟩; conv => whnf) | (refine EvOr.go ?_; conv => whnf))
        refine CallG.use gC c31 [3, 4, 5, 6, 7] [] ?_ ?_ ?_ ?_ ?_ ?_; rfl; rfl; kernel_rfl; rfl; rfl
        conv => whnf
        repeat (first | (refine ⟨(by kernel_rfl : chkR _ _ _ _ = true), ?_⟩; conv => whnf) | (refine EvOr.go ?_; conv => whnf))
        refine CallG.use gM c32 [3, 4, 5, 6, 7, 2] [0, 1, 2, 3] ?_ ?_ ?_ ?_ ?_ ?_; rfl; rfl; kernel_rfl; rfl; rfl
        conv => whnf
        repeat (refine ⟨(by kernel_rfl : chkR _ _ _ _ = true), ?_⟩; conv => whnf)
        refine EvOr.cut (CodeT.weaken _ (StW.ofP [0, 1, 2, 3, 25, 5, 6, 7, 8, 9, 10, 11, 12, 13, 19, 15, 16, 17, 20, 21, 22, 23, 24] ?_ ?_ ?_) (gD))
        · kernel_rfl
        · rfl
        · rfl
    | succ k =>
      have e1 : (onesL (k + 1 + 1)).map (fun b => [Seg.one (SV.raw (Value.int .u8 b))]) = List.take (k + 1) (List.drop 0 ((onesL (k + 1)).map (fun b => [Seg.one (SV.raw (Value.int .u8 b))]))) ++ [[Seg.one (SV.raw (Value.int .u8 (ob (k + 1))))]] := by
        rw [onesL_succ, List.map_append, List.drop_zero, List.take_of_length_le (by simp [onesL])]; rfl
      conv => whnf
      repeat (first | (refine ⟨(by kernel_rfl : chkR _ _ _ _ = true), ?_⟩; conv => whnf) | (refine EvOr.go ?_; conv => whnf))
      refine CallG.use gU c30 [3, 4, 5, 6, 7] [] ?_ ?_ ?_ ?_ ?_ ?_; rfl; rfl; kernel_rfl; rfl; rfl
      conv => whnf
      repeat (first | (refine ⟨(by kernel_rfl : chkR _ _ _ _ = true), ?_⟩; conv => whnf) | (refine EvOr.go ?_; conv => whnf))
      intro c hc
      by_cases hq : kk < bl.length
      · obtain rfl : c = true := by rw [hc]; exact decide_eq_true (by omega)
        conv => whnf
        repeat (first | (refine ⟨(by kernel_rfl : chkR _ _ _ _ = true), ?_⟩; conv => whnf) | (refine EvOr.go ?_; conv => whnf))
        refine ⟨_, ob_a (k + 1), ?_⟩
        conv => whnf
        repeat (first | (refine ⟨(by kernel_rfl : chkR _ _ _ _ = true), ?_⟩; conv => whnf) | (refine EvOr.go ?_; conv => whnf))
        refine ⟨_, ob_b (k + 1), ?_⟩
        conv => whnf
        repeat (first | (refine ⟨(by kernel_rfl : chkR _ _ _ _ = true), ?_⟩; conv => whnf) | (refine EvOr.go ?_; conv => whnf))
        refine ⟨_, rfl, ?_⟩
        conv => whnf
        repeat (first | (refine ⟨(by kernel_rfl : chkR _ _ _ _ = true), ?_⟩; conv => whnf) | (refine EvOr.go ?_; conv => whnf))
        refine ⟨Nat.le_refl _, ?_⟩
        conv => whnf
        repeat (first | (refine ⟨(by kernel_rfl : chkR _ _ _ _ = true), ?_⟩; conv => whnf) | (refine EvOr.go ?_; conv => whnf))
        refine ⟨by rw [List.length_map]; show 0 + (k + 1) ≤ ((List.range (k + 1)).map ob).length; simp, fun h => absurd h (by decide), fun _ => ⟨by show (2 * (k + 1 + 1) + 192) * 1 ≤ _; omega, ?_⟩⟩
        conv => whnf
        repeat (first | (refine ⟨(by kernel_rfl : chkR _ _ _ _ = true), ?_⟩; conv => whnf) | (refine EvOr.go ?_; conv => whnf))
        refine ⟨_, inc_nat (k := (k + 1)) (by omega), ?_⟩
        conv => whnf
        repeat (first | (refine ⟨(by kernel_rfl : chkR _ _ _ _ = true), ?_⟩; conv => whnf) | (refine EvOr.go ?_; conv => whnf))
        refine ⟨by omega, _, StW.ofP [0, 1, 2, 3, 4, 5, 6, 7, 8, 9, 10, 11, 12, 13, 14, 15, 16, 17, 20] ?_ ?_ ?_⟩
        · kernel_rfl
        · rfl
        · simp only [lasI3, onB]; rw [e1]; rfl
      · obtain rfl : c = false := by rw [hc]; exact decide_eq_false (by omega)
        conv => whnf
        repeat (first | (refine ⟨(by kernel_rfl : chkR _ _ _ _ = true), ?_⟩; conv => whnf) | (refine EvOr.go ?_; conv => whnf))
        have g : FunT Try.prog 32 [mpv, .sc (.sl 5 0 1 (onesL (k + 1)).length none)] (hM4 M _ .nil ++ [pkR (onesL (k + 1))]) (iv 0) [some (memG A .nil .nil 6 2 3 4), none, imB A.dur, none, none, pkR (onesL (k + 1)), imB A.seen] := gA (k + 1) (by omega)
        rw [onesL_length] at g
        refine CallG.use g c32 [13, 14, 15, 16, 17, 18] [0, 1, 2, 3] ?_ ?_ ?_ ?_ ?_ ?_; rfl; rfl; kernel_rfl; rfl; rfl
        conv => whnf
        repeat (first | (refine ⟨(by kernel_rfl : chkR _ _ _ _ = true), ?_⟩; conv => whnf) | (refine EvOr.go ?_; conv => whnf))
        refine CallG.use gC c31 [3, 4, 5, 6, 7] [] ?_ ?_ ?_ ?_ ?_ ?_; rfl; rfl; kernel_rfl; rfl; rfl
        conv => whnf
        repeat (first | (refine ⟨(by kernel_rfl : chkR _ _ _ _ = true), ?_⟩; conv => whnf) | (refine EvOr.go ?_; conv => whnf))
        refine CallG.use gM c32 [3, 4, 5, 6, 7, 2] [0, 1, 2, 3] ?_ ?_ ?_ ?_ ?_ ?_; rfl; rfl; kernel_rfl; rfl; rfl
        conv => whnf
        repeat (refine ⟨(by kernel_rfl : chkR _ _ _ _ = true), ?_⟩; conv => whnf)
        refine EvOr.cut (CodeT.weaken _ (StW.ofP [0, 1, 2, 3, 25, 5, 6, 7, 8, 9, 10, 11, 12, 13, 19, 15, 16, 17, 20, 21, 22, 23, 24] ?_ ?_ ?_) (gD))
        · kernel_rfl
        · rfl
        · rfl
end Go.Proofs.Ytdmcbfmpnakdfaa.Eng
