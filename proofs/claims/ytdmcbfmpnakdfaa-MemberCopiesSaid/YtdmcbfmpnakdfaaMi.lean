/- The laws of members: put. -/
import Derived.Test.YtdmcbfmpnakdfaaMh
namespace Go.Proofs.Ytdmcbfmpnakdfaa.Eng
open Go Go.Proofs
set_option maxRecDepth 20000
set_option maxHeartbeats 4000000
/-- An act: what is done, where, what is written, the picks as they lie there, whether it fails. -/
structure ActV where
  d : Int
  i : Int
  s : List Nat
  p : Value
  on : Bool
def actSegs (a : ActV) : Segs := [.one (.raw (.int .i64 a.d)), .one (.raw (.int .i64 a.i)), .byt 64 a.s, .one (.raw a.p), .one (.raw (.bool a.on))]
/-- How a slice of acts lies there. -/
inductive Ar where
  | nil
  | row
def Ar.sv (r : Ar) (n id : Nat) : SV := match r with
  | .nil => nilS
  | .row => .sl id 0 68 n none
def Ar.ok {α : Type} (r : Ar) (l : List α) : Prop := match r with
  | .nil => l = []
  | .row => True
abbrev actB (l : List ActV) : Option ABlk := some (.row .ro 57 68 (l.map actSegs) [])
def arB (ar : Ar) (l : List ActV) : Option ABlk := match ar with
  | .nil => none
  | .row => actB l
def six (i : Int) : Int := ((i.tmod 6) + 6).tmod 6
def putA (M : Mem) (l : List ActV) : Mem := l.foldl (fun M a => wrote M (six a.i) a.s) M
def lgAt (lg : Lg) : Nat → Lg
  | 0 => lg
  | _ + 1 => .inx []
theorem six_lt (i : Int) : 0 ≤ six i ∧ six i < 6 := by
  unfold six
  have h1 := Int.tmod_lt_of_pos i (show (0 : Int) < 6 by decide)
  have h2 : -6 < i.tmod 6 := by
    have := Int.lt_tmod_of_pos i (show (0 : Int) < 6 by decide)
    omega
  rw [Int.tmod_eq_emod_of_nonneg (by omega)]
  exact ⟨Int.emod_nonneg _ (by decide), Int.emod_lt_of_pos _ (by decide)⟩
theorem putA_succ {M : Mem} {l : List ActV} {k : Nat} (hk : k < l.length) : putA M (l.take (k + 1)) = wrote (putA M (l.take k)) (six l[k].i) l[k].s := by
  unfold putA
  rw [List.take_add_one, List.getElem?_eq_getElem hk, List.foldl_append]; rfl
theorem putA_n (M : Mem) (l : List ActV) : (putA M l).n = M.n := by
  unfold putA
  induction l generalizing M with
  | nil => rfl
  | cons a l ih => simp only [List.foldl_cons]; rw [ih]
theorem putA_fails (M : Mem) (l : List ActV) : (putA M l).fails = M.fails := by
  unfold putA
  induction l generalizing M with
  | nil => rfl
  | cons a l ih => simp only [List.foldl_cons]; rw [ih]
theorem putA_len (M : Mem) (l : List ActV) : (putA M l).log.length = M.log.length + l.length := by
  unfold putA
  induction l generalizing M with
  | nil => rfl
  | cons a l ih => simp only [List.foldl_cons]; rw [ih]; simp; omega
theorem putA_dur (M : Mem) (l : List ActV) : (putA M l).dur = M.dur := by
  unfold putA
  induction l generalizing M with
  | nil => rfl
  | cons a l ih => simp only [List.foldl_cons]; rw [ih]
theorem write_ren (M M' : Mem) (lg : Lg) (mk : Mk) (i : Int) (s : List Nat) (hM : M' = wrote M i s) (hlg : lg.ok M.log) (hn : 0 < M.n) (h0 : ioE M i = 0) (hb : M.log.length < 2 ^ 32) :
    FunT Try.prog 38 [mpv, iv i, secV s] (hMw M lg mk) (iv 0) [some (memG M' (.inx []) mk 1 2 5 4), imB M'.seen, none, none, none, logB M' (.inx [])] := write_to M M' lg mk i s hM hlg hn h0 hb
def putI6 (M : Mem) (lg : Lg) (mk : Mk) (ar : Ar) (l : List ActV) (k : Nat) : LTm × LHp :=
  ([mpv, .sc (ar.sv l.length 5), .junk, .junk, iv (k : Nat), .junk, .junk, .junk, .junk, .junk, .junk, .junk, .junk, .junk, .junk, .junk, .junk, .junk, .junk, .junk, .junk, .junk, .junk, .junk, .junk, .junk],
   [some (memG (putA M (l.take k)) (lgAt lg k) mk 1 2 6 4), imB (putA M (l.take k)).seen, none, none, none, arB ar l, logB (putA M (l.take k)) (lgAt lg k)])
theorem act_get {l : List ActV} {k : Nat} (hk : k < l.length) : (l.map actSegs)[0 + (k : Int).toNat]? = some (actSegs l[k]) := by
  rw [Nat.zero_add, Int.toNat_natCast, List.getElem?_map, List.getElem?_eq_getElem hk]; rfl
theorem six_a (i : Int) : arithI .rem .i64 i 6 = some (i.tmod 6) := rfl
theorem six_b (i : Int) : arithI .add .i64 (i.tmod 6) 6 = some (i.tmod 6 + 6) := by
  show some (IntKind.i64.wrap (i.tmod 6 + 6)) = _
  have h1 := Int.tmod_lt_of_pos i (show (0 : Int) < 6 by decide)
  have h2 : -6 < i.tmod 6 := by
    have := Int.lt_tmod_of_pos i (show (0 : Int) < 6 by decide)
    omega
  rw [IntWalk.i64_in _ ⟨by omega, by omega⟩]
theorem six_c (i : Int) : arithI .rem .i64 (i.tmod 6 + 6) 6 = some (six i) := rfl
theorem puts_aux (M : Mem) (lg : Lg) (mk : Mk) (ar : Ar) (l : List ActV) (m : Nat) (hm : m = l.length) (hlg : lg.ok M.log) (har : ar.ok l) (hn : M.n = 6) (hf : M.fails = false) (hb : M.log.length + l.length < 2 ^ 32) :
    FunT Try.prog 28 [mpv, .sc (ar.sv l.length 5)] (hMw M lg mk ++ [arB ar l]) (.tup []) [some (memG (putA M (l.take m)) (lgAt lg m) mk 1 2 6 4), imB (putA M (l.take m)).seen, none, none, none, arB ar l, logB (putA M (l.take m)) (lgAt lg m)] := by
  cases ar with
  | nil =>
    obtain rfl : l = [] := har
    obtain rfl : m = 0 := hm
    obtain ⟨Mn, Ms, Md, Ml, Mf, Mh⟩ := M
    cases lg <;> cases mk <;>
    · refine FunT.ev tabOk mixed Try.func28 rfl ?_
      conv => whnf
      repeat (first | (refine ⟨(by kernel_rfl : chkR _ _ _ _ = true), ?_⟩; conv => whnf) | (refine EvOr.go ?_; conv => whnf))
      refine CodeS.loop0 tabOk mixed (Nat.le_of_ble_eq_true rfl) ?_
      conv => whnf
      repeat (first | (refine ⟨(by kernel_rfl : chkR _ _ _ _ = true), ?_⟩; conv => whnf) | (refine EvOr.go ?_; conv => whnf))
      intro c hc
      obtain rfl : c = false := by rw [hc]; rfl
      conv => whnf
      repeat (first | (refine ⟨(by kernel_rfl : chkR _ _ _ _ = true), ?_⟩; conv => whnf) | (refine EvOr.go ?_; conv => whnf))
      exact retQ.zeroS [0, 1, 2, 3, 4, 5, 3] rfl (by first | exact .inr rfl | exact .inl rfl) rfl (by kernel_rfl) (by first | rfl | kernel_rfl)
  | row =>
    have hW := fun (k : Nat) (hk : k < l.length) (ho : (lgAt lg k).ok (putA M (l.take k)).log) => write_ren (putA M (l.take k)) (putA M (l.take (k + 1))) (lgAt lg k) mk (six l[k].i) l[k].s (putA_succ hk) ho (by rw [putA_n, hn]; decide)
      (by unfold ioE; rw [putA_n, putA_fails, hn, hf, if_neg (by have := six_lt l[k].i; omega)]; rfl) (by rw [putA_len, List.length_take]; omega)
    have ho : ∀ k, (lgAt lg k).ok (putA M (l.take k)).log := fun k => by
      cases k with
      | zero => exact hlg
      | succ k => trivial
    obtain ⟨I, hI⟩ : ∃ I, I = putI6 M lg mk .row l := ⟨_, rfl⟩
    cases lg <;> cases mk <;>
    · refine FunT.ev tabOk mixed Try.func28 rfl ?_
      conv => whnf
      repeat (first | (refine ⟨(by kernel_rfl : chkR _ _ _ _ = true), ?_⟩; conv => whnf) | (refine EvOr.go ?_; conv => whnf))
      refine CodeT.loopN tabOk mixed I l.length _ (StW.ofP [0, 1, 2, 3, 4, 5, 3] ?_ ?_ ?_) (fun k => by subst hI; rfl) ?_
      · subst hI; kernel_rfl
      · subst hI; rfl
      · subst hI; rfl
      intro k hkl
      replace hW := fun hk => hW k hk (ho k)
      subst hI
      obtain ⟨kk, hkk⟩ : ∃ kk, kk = k := ⟨_, rfl⟩
      cases k <;>
      · conv => whnf
        repeat (first | (refine ⟨(by kernel_rfl : chkR _ _ _ _ = true), ?_⟩; conv => whnf) | (refine EvOr.go ?_; conv => whnf))
        intro c hc
        by_cases hk : kk < l.length
        · obtain rfl : c = true := by rw [hc]; exact decide_eq_true (by omega)
          subst hkk
          replace hW := hW hk
          conv => whnf
          repeat (first | (refine ⟨(by kernel_rfl : chkR _ _ _ _ = true), ?_⟩; conv => whnf) | (refine EvOr.go ?_; conv => whnf))
          refine ⟨⟨by omega, by omega⟩, ?_⟩
          conv => whnf
          repeat (first | (refine ⟨(by kernel_rfl : chkR _ _ _ _ = true), ?_⟩; conv => whnf) | (refine EvOr.go ?_; conv => whnf))
          refine ⟨_, act_get hk, ?_⟩
          conv => whnf
          repeat (first | (refine ⟨(by kernel_rfl : chkR _ _ _ _ = true), ?_⟩; conv => whnf) | (refine EvOr.go ?_; conv => whnf))
          refine ⟨_, six_a _, ?_⟩
          conv => whnf
          repeat (first | (refine ⟨(by kernel_rfl : chkR _ _ _ _ = true), ?_⟩; conv => whnf) | (refine EvOr.go ?_; conv => whnf))
          refine ⟨_, six_b _, ?_⟩
          conv => whnf
          repeat (first | (refine ⟨(by kernel_rfl : chkR _ _ _ _ = true), ?_⟩; conv => whnf) | (refine EvOr.go ?_; conv => whnf))
          refine ⟨_, six_c _, ?_⟩
          conv => whnf
          repeat (first | (refine ⟨(by kernel_rfl : chkR _ _ _ _ = true), ?_⟩; conv => whnf) | (refine EvOr.go ?_; conv => whnf))
          refine ⟨⟨by omega, by omega⟩, ?_⟩
          conv => whnf
          repeat (first | (refine ⟨(by kernel_rfl : chkR _ _ _ _ = true), ?_⟩; conv => whnf) | (refine EvOr.go ?_; conv => whnf))
          refine ⟨_, act_get hk, ?_⟩
          conv => whnf
          repeat (first | (refine ⟨(by kernel_rfl : chkR _ _ _ _ = true), ?_⟩; conv => whnf) | (refine EvOr.go ?_; conv => whnf))
          refine CallG.use hW c38 [0, 1, 2, 6, 4] [0, 1, 3] ?_ ?_ ?_ ?_ ?_ ?_; rfl; rfl; kernel_rfl; rfl; rfl
          conv => whnf
          repeat (first | (refine ⟨(by kernel_rfl : chkR _ _ _ _ = true), ?_⟩; conv => whnf) | (refine EvOr.go ?_; conv => whnf))
          refine ⟨_, inc_nat (by omega), ?_⟩
          conv => whnf
          repeat (first | (refine ⟨(by kernel_rfl : chkR _ _ _ _ = true), ?_⟩; conv => whnf) | (refine EvOr.go ?_; conv => whnf))
          refine ⟨by first | exact hk | omega, _, StW.ofP [0, 1, 2, 3, 4, 5, 7] ?_ ?_ ?_⟩
          · kernel_rfl
          · rfl
          · rfl
        · obtain rfl : c = false := by rw [hc]; exact decide_eq_false (by omega)
          obtain rfl : m = kk := by omega
          subst hkk
          conv => whnf
          repeat (first | (refine ⟨(by kernel_rfl : chkR _ _ _ _ = true), ?_⟩; conv => whnf) | (refine EvOr.go ?_; conv => whnf))
          exact retQ.zero rfl (by first | exact .inl rfl | exact .inr rfl) rfl (Nat.le_of_ble_eq_true rfl) rfl
theorem puts_ok (M : Mem) (lg : Lg) (mk : Mk) (ar : Ar) (l : List ActV) (hlg : lg.ok M.log) (har : ar.ok l) (hn : M.n = 6) (hf : M.fails = false) (hb : M.log.length + l.length < 2 ^ 32) :
    FunT Try.prog 28 [mpv, .sc (ar.sv l.length 5)] (hMw M lg mk ++ [arB ar l]) (.tup []) [some (memG (putA M l) (lgAt lg l.length) mk 1 2 6 4), imB (putA M l).seen, none, none, none, arB ar l, logB (putA M l) (lgAt lg l.length)] := by
  have := puts_aux M lg mk ar l _ rfl hlg har hn hf hb
  rw [List.take_length] at this
  exact this
/-- A slice of bytes that may be none. -/
def pkB (c : Ar) (pk : List Int) : Option ABlk := match c with
  | .nil => none
  | .row => pkR pk
def pkS (c : Ar) (pk : List Int) (id : Nat) : SV := match c with
  | .nil => nilS
  | .row => .sl id 0 1 pk.length none
theorem crash_ok (M M' : Mem) (lg : Lg) (mk : Mk) (c : Ar) (pk : List Int) (hM : M' = crashed M (picked pk)) (hlg : lg.ok M.log) (hc : c.ok pk) (hn : 0 < M.n) (hb : M.log.length < 2 ^ 62) :
    FunT Try.prog 32 [mpv, .sc (pkS c pk 5)] (hM4 M lg mk ++ [pkB c pk]) (iv 0) [some (memG M' .nil mk 6 2 3 4), none, imB M'.dur, none, none, pkB c pk, imB M'.seen] := by
  subst hM
  cases c with
  | row => exact crashR_ok M lg mk pk hlg hn hb
  | nil =>
    obtain rfl : pk = [] := hc
    have e : crashed M (picked []) = crashed M noPick := by
      have : picked [] = noPick := by funext k; unfold picked noPick; simp
      rw [this]
    rw [e]
    have hI := is_ok M lg mk hn
    have hS := settleN M lg mk none 0 hlg hb
    obtain ⟨Mn, Ms, Md, Ml, Mf, Mh⟩ := M
    cases lg <;> cases mk <;>
    · refine FunT.ev tabOk mixed Try.func32 rfl ?_
      conv => whnf
      repeat (first | (refine ⟨(by kernel_rfl : chkR _ _ _ _ = true), ?_⟩; conv => whnf) | (refine EvOr.go ?_; conv => whnf))
      refine CallG.use hI c89 [0, 1, 2, 3, 4] [] ?_ ?_ ?_ ?_ ?_ ?_; rfl; rfl; kernel_rfl; rfl; rfl
      conv => whnf
      repeat (first | (refine ⟨(by kernel_rfl : chkR _ _ _ _ = true), ?_⟩; conv => whnf) | (refine EvOr.go ?_; conv => whnf))
      refine CallG.use hS c87 [0, 1, 2, 3, 4, 6] [0, 1, 2, 3] ?_ ?_ ?_ ?_ ?_ ?_; rfl; rfl; kernel_rfl; rfl; rfl
      conv => whnf
      repeat (first | (refine ⟨(by kernel_rfl : chkR _ _ _ _ = true), ?_⟩; conv => whnf) | (refine EvOr.go ?_; conv => whnf))
      exact retQ.oneS [0, 1, 2, 3, 4, 5, 7] rfl (by first | exact .inr rfl | exact .inl rfl) rfl (by kernel_rfl) (by first | rfl | kernel_rfl)
end Go.Proofs.Ytdmcbfmpnakdfaa.Eng
