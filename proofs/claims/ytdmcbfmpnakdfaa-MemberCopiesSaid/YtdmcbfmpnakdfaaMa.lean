/- A member: what lies where; what its small methods come to. -/
import Derived.Test.YtdmcbfmpnakdfaaTb
namespace Go.Proofs.Ytdmcbfmpnakdfaa.Eng
open Go Go.Proofs

abbrev iv (n : Int) : AV := .sc (.raw (.int .i64 n))
abbrev bv (b : Bool) : AV := .sc (.raw (.bool b))
abbrev secV (s : List Nat) : AV := .agg [.byt 64 s]
abbrev nilS : SV := .raw (.slice none 0 0)
abbrev Img := List (Int × List Nat)
/-- What a member is. -/
structure Mem where
  n : Int
  seen : Img
  dur : Img
  log : Img
  fails : Bool
  hurt : Bool
def encM (M : Img) : List (SV × AV) := M.map fun p => (.raw (.int .i64 p.1), secV p.2)
def encW (p : Int × List Nat) : Segs := [.one (.raw (.int .i64 p.1)), .byt 64 p.2]
/-- How the log lies in memory. -/
inductive Lg where
  | nil
  | ex
  | inx (J : List Segs)
def Lg.sv (lg : Lg) (n id : Nat) : SV := match lg with
  | .nil => nilS
  | .ex => .sl id 0 65 0 (some 0)
  | .inx _ => .sl id 0 65 n none
/-- A log that lies there has as many as the member's. -/
def Lg.ok (lg : Lg) (l : Img) : Prop := match lg with
  | .inx _ => True
  | _ => l = []
/-- How the marks lie in memory. -/
inductive Mk where
  | nil
  | row (n : Nat)
def Mk.sv (mk : Mk) (id : Nat) : SV := match mk with
  | .nil => nilS
  | .row n => .sl id 0 1 n none
/-- A member's cells; a, b, c, d: where what is seen, what is durable, the log and the marks lie. -/
def memSegs (M : Mem) (lg : Lg) (mk : Mk) (a b c d : Nat) : Segs :=
  [.one (.raw (.int .i64 M.n)), .one (.mp a), .one (.mp b), .one (lg.sv M.log.length c), .one (mk.sv d), .one (.raw (.bool M.fails)), .one (.raw (.bool M.hurt))]
def memG (M : Mem) (lg : Lg) (mk : Mk) (a b c d : Nat) : ABlk := .row .one 77 7 [memSegs M lg mk a b c d] (Segs.ids (memSegs M lg mk a b c d))
abbrev memB (M : Mem) (lg : Lg) (mk : Mk) : ABlk := memG M lg mk 1 2 3 4
def logB (M : Mem) (lg : Lg) : Option ABlk := match lg with
  | .inx J => some (.row .inx 127 65 (M.log.map encW ++ J) [])
  | _ => none
abbrev mpv : AV := .sc (.ptr 0 0 7 0)
/-- A list without what a key has; with it. -/
def getI (M : Img) (i : Int) : List Nat := match M.find? (fun p => i == p.1) with
  | some p => p.2
  | none => zs 64
def setI (M : Img) (i : Int) (s : List Nat) : Img := match M with
  | [] => [(i, s)]
  | p :: r => if i == p.1 then (i, s) :: r else p :: setI r i s
def delI (M : Img) (i : Int) : Img := match M with
  | [] => []
  | p :: r => if i == p.1 then r else p :: delI r i
theorem keysOk_enc (M : Img) : keysOk .i64 (encM M) := by
  intro e he
  obtain ⟨p, _, rfl⟩ := List.mem_map.1 he
  exact ⟨p.1, rfl⟩
theorem find_enc (M : Img) (i : Int) : (encM M).find? (keyIs i) = (M.find? (fun p => i == p.1)).map fun p => (.raw (.int .i64 p.1), secV p.2) := by
  induction M with
  | nil => rfl
  | cons p r ih =>
    simp only [encM, List.map_cons, List.find?_cons] at *
    have : keyIs i (SV.raw (Value.int .i64 p.1), secV p.2) = (i == p.1) := rfl
    rw [this]
    cases (i == p.1)
    · exact ih
    · rfl
theorem upd_enc (M : Img) (i : Int) (s : List Nat) : updM .i64 i (secV s) (encM M) = encM (setI M i s) := by
  induction M with
  | nil => rfl
  | cons p r ih =>
    simp only [encM, List.map_cons, updM, setI] at *
    have : keyIs i (SV.raw (Value.int .i64 p.1), secV p.2) = (i == p.1) := rfl
    rw [this]
    split
    · rfl
    · simp [ih]
theorem del_enc (M : Img) (i : Int) : delM i (encM M) = encM (delI M i) := by
  induction M with
  | nil => rfl
  | cons p r ih =>
    simp only [encM, List.map_cons, delM, delI] at *
    have : keyIs i (SV.raw (Value.int .i64 p.1), secV p.2) = (i == p.1) := rfl
    rw [this]
    split
    · rfl
    · simp [ih]

theorem c89 : Callable Try.prog 89 := ⟨⟨_, Try.func89, by kernel_rfl, by kernel_rfl⟩⟩
theorem c95 : Callable Try.prog 95 := ⟨⟨_, Try.func95, by kernel_rfl, by kernel_rfl⟩⟩
theorem c86 : Callable Try.prog 86 := ⟨⟨_, Try.func86, by kernel_rfl, by kernel_rfl⟩⟩
theorem c33 : Callable Try.prog 33 := ⟨⟨_, Try.func33, by kernel_rfl, by kernel_rfl⟩⟩
theorem c39 : Callable Try.prog 39 := ⟨⟨_, Try.func39, by kernel_rfl, by kernel_rfl⟩⟩
theorem c35 : Callable Try.prog 35 := ⟨⟨_, Try.func35, by kernel_rfl, by kernel_rfl⟩⟩
theorem c49 : Callable Try.prog 49 := ⟨⟨_, Try.func49, by kernel_rfl, by kernel_rfl⟩⟩
theorem c48 : Callable Try.prog 48 := ⟨⟨_, Try.func48, by kernel_rfl, by kernel_rfl⟩⟩
theorem c37 : Callable Try.prog 37 := ⟨⟨_, Try.func37, by kernel_rfl, by kernel_rfl⟩⟩
theorem c30 : Callable Try.prog 30 := ⟨⟨_, Try.func30, by kernel_rfl, by kernel_rfl⟩⟩
theorem c94 : Callable Try.prog 94 := ⟨⟨_, Try.func94, by kernel_rfl, by kernel_rfl⟩⟩
theorem c38 : Callable Try.prog 38 := ⟨⟨_, Try.func38, by kernel_rfl, by kernel_rfl⟩⟩
theorem c90 : Callable Try.prog 90 := ⟨⟨_, Try.func90, by kernel_rfl, by kernel_rfl⟩⟩
theorem c91 : Callable Try.prog 91 := ⟨⟨_, Try.func91, by kernel_rfl, by kernel_rfl⟩⟩
theorem c29 : Callable Try.prog 29 := ⟨⟨_, Try.func29, by kernel_rfl, by kernel_rfl⟩⟩
theorem c32 : Callable Try.prog 32 := ⟨⟨_, Try.func32, by kernel_rfl, by kernel_rfl⟩⟩
theorem c47 : Callable Try.prog 47 := ⟨⟨_, Try.func47, by kernel_rfl, by kernel_rfl⟩⟩
theorem c31 : Callable Try.prog 31 := ⟨⟨_, Try.func31, by kernel_rfl, by kernel_rfl⟩⟩
theorem c34 : Callable Try.prog 34 := ⟨⟨_, Try.func34, by kernel_rfl, by kernel_rfl⟩⟩
theorem c88 : Callable Try.prog 88 := ⟨⟨_, Try.func88, by kernel_rfl, by kernel_rfl⟩⟩
theorem c93 : Callable Try.prog 93 := ⟨⟨_, Try.func93, by kernel_rfl, by kernel_rfl⟩⟩
theorem c106 : Callable Try.prog 106 := ⟨⟨_, Try.func106, by kernel_rfl, by kernel_rfl⟩⟩
theorem c87 : Callable Try.prog 87 := ⟨⟨_, Try.func87, by kernel_rfl, by kernel_rfl⟩⟩
theorem c105 : Callable Try.prog 105 := ⟨⟨_, Try.func105, by kernel_rfl, by kernel_rfl⟩⟩
theorem c130 : Callable Try.prog 130 := ⟨⟨_, Try.func130, by kernel_rfl, by kernel_rfl⟩⟩
set_option maxRecDepth 20000
set_option maxHeartbeats 4000000
abbrev hM (M : Mem) (lg : Lg) (mk : Mk) : LHp := [some (memB M lg mk), none, none, none, none]
theorem is_ok (M : Mem) (lg : Lg) (mk : Mk) (hn : 0 < M.n) : FunT Try.prog 89 [mpv] (hM M lg mk) (bv true) (hM M lg mk) := by
  cases lg <;> cases mk <;>
  · refine FunT.ev tabOk mixed Try.func89 rfl ?_
    conv => whnf
    repeat (first | (refine ⟨(by kernel_rfl : chkR _ _ _ _ = true), ?_⟩; conv => whnf) | (refine EvOr.go ?_; conv => whnf))
    intro c hc
    obtain rfl : c = true := by first | (rw [hc]; rfl) | (rw [hc]; simp; done) | (rw [hc]; simp; omega) | (simp at hc; omega)
    conv => whnf
    repeat (first | (refine ⟨(by kernel_rfl : chkR _ _ _ _ = true), ?_⟩; conv => whnf) | (refine EvOr.go ?_; conv => whnf))
    exact retQ.one rfl (.inr rfl) rfl (Nat.le_of_ble_eq_true rfl) rfl
def mayE (M : Mem) (i : Int) : Int := if i < 0 ∨ M.n ≤ i then 2 else 0
theorem may_ok (M : Mem) (lg : Lg) (mk : Mk) (i : Int) (hn : 0 < M.n) : FunT Try.prog 95 [mpv, iv i] (hM M lg mk) (iv (mayE M i)) (hM M lg mk) := by
  have hI := is_ok M lg mk hn
  cases hl : lg <;> cases hm : mk <;> rw [hl, hm] at hI <;>
  · refine FunT.ev tabOk mixed Try.func95 rfl ?_
    conv => whnf
    repeat (first | (refine ⟨(by kernel_rfl : chkR _ _ _ _ = true), ?_⟩; conv => whnf) | (refine EvOr.go ?_; conv => whnf))
    refine CallG.use hI c89 [0, 1, 2, 3, 4] [] ?_ ?_ ?_ ?_ ?_ ?_; rfl; rfl; kernel_rfl; rfl; rfl
    conv => whnf
    repeat (first | (refine ⟨(by kernel_rfl : chkR _ _ _ _ = true), ?_⟩; conv => whnf) | (refine EvOr.go ?_; conv => whnf))
    intro c hc
    cases c
    · conv => whnf
      repeat (first | (refine ⟨(by kernel_rfl : chkR _ _ _ _ = true), ?_⟩; conv => whnf) | (refine EvOr.go ?_; conv => whnf))
      intro c hc2
      cases c
      · conv => whnf
        repeat (first | (refine ⟨(by kernel_rfl : chkR _ _ _ _ = true), ?_⟩; conv => whnf) | (refine EvOr.go ?_; conv => whnf))
        refine retQ.one rfl (.inr rfl) ?_ (Nat.le_of_ble_eq_true rfl) rfl
        have : mayE M i = 0 := by unfold mayE; rw [if_neg]; simp at hc hc2; omega
        rw [this]; rfl
      · conv => whnf
        repeat (first | (refine ⟨(by kernel_rfl : chkR _ _ _ _ = true), ?_⟩; conv => whnf) | (refine EvOr.go ?_; conv => whnf))
        refine retQ.one rfl (.inr rfl) ?_ (Nat.le_of_ble_eq_true rfl) rfl
        have : mayE M i = 2 := by unfold mayE; rw [if_pos]; simp at hc hc2; omega
        rw [this]; rfl
    · conv => whnf
      repeat (first | (refine ⟨(by kernel_rfl : chkR _ _ _ _ = true), ?_⟩; conv => whnf) | (refine EvOr.go ?_; conv => whnf))
      refine retQ.one rfl (.inr rfl) ?_ (Nat.le_of_ble_eq_true rfl) rfl
      have : mayE M i = 2 := by unfold mayE; rw [if_pos]; simp at hc; omega
      rw [this]; rfl
def ioE (M : Mem) (i : Int) : Int := if i < 0 ∨ M.n ≤ i then 2 else if M.fails then 10 else 0
theorem io_ok (M : Mem) (lg : Lg) (mk : Mk) (i : Int) (hn : 0 < M.n) : FunT Try.prog 86 [mpv, iv i] (hM M lg mk) (iv (ioE M i)) (hM M lg mk) := by
  have hI := may_ok M lg mk i hn
  have h1 : mayE M i ≠ 0 → ioE M i = mayE M i := fun hm => by unfold mayE at hm ⊢; unfold ioE; split <;> simp_all
  have h2 : mayE M i = 0 → ioE M i = if M.fails then 10 else 0 := fun hm => by unfold mayE at hm; unfold ioE; split <;> simp_all
  generalize mayE M i = me at hI h1 h2
  generalize ioE M i = ie at h1 h2
  obtain ⟨Mn, Ms, Md, Ml, Mf, Mh⟩ := M
  cases hl : lg <;> cases hm : mk <;> rw [hl, hm] at hI <;>
  · refine FunT.ev tabOk mixed Try.func86 rfl ?_
    conv => whnf
    repeat (first | (refine ⟨(by kernel_rfl : chkR _ _ _ _ = true), ?_⟩; conv => whnf) | (refine EvOr.go ?_; conv => whnf))
    refine CallG.use hI c95 [0, 1, 2, 3, 4] [] ?_ ?_ ?_ ?_ ?_ ?_; rfl; rfl; kernel_rfl; rfl; rfl
    conv => whnf
    repeat (first | (refine ⟨(by kernel_rfl : chkR _ _ _ _ = true), ?_⟩; conv => whnf) | (refine EvOr.go ?_; conv => whnf))
    intro c hc
    cases c
    · conv => whnf
      repeat (first | (refine ⟨(by kernel_rfl : chkR _ _ _ _ = true), ?_⟩; conv => whnf) | (refine EvOr.go ?_; conv => whnf))
      have hm : me = 0 := by simpa using hc
      rw [h2 hm]
      cases Mf
      · conv => whnf
        repeat (first | (refine ⟨(by kernel_rfl : chkR _ _ _ _ = true), ?_⟩; conv => whnf) | (refine EvOr.go ?_; conv => whnf))
        refine retQ.one rfl (.inr rfl) ?_ (Nat.le_of_ble_eq_true rfl) rfl
        rw [hm]; rfl
      · conv => whnf
        repeat (first | (refine ⟨(by kernel_rfl : chkR _ _ _ _ = true), ?_⟩; conv => whnf) | (refine EvOr.go ?_; conv => whnf))
        exact retQ.one rfl (.inr rfl) rfl (Nat.le_of_ble_eq_true rfl) rfl
    · conv => whnf
      repeat (first | (refine ⟨(by kernel_rfl : chkR _ _ _ _ = true), ?_⟩; conv => whnf) | (refine EvOr.go ?_; conv => whnf))
      refine retQ.one rfl (.inr rfl) ?_ (Nat.le_of_ble_eq_true rfl) rfl
      rw [h1 (by simpa using hc)]; rfl
theorem touched_ok (M : Mem) (lg : Lg) (mk : Mk) (hn : 0 < M.n) : FunT Try.prog 35 [mpv] (hM M lg mk) (bv M.hurt) (hM M lg mk) := by
  have hI := is_ok M lg mk hn
  cases hl : lg <;> cases hm : mk <;> rw [hl, hm] at hI <;>
  · refine FunT.ev tabOk mixed Try.func35 rfl ?_
    conv => whnf
    repeat (first | (refine ⟨(by kernel_rfl : chkR _ _ _ _ = true), ?_⟩; conv => whnf) | (refine EvOr.go ?_; conv => whnf))
    refine CallG.use hI c89 [0, 1, 2, 3, 4] [] ?_ ?_ ?_ ?_ ?_ ?_; rfl; rfl; kernel_rfl; rfl; rfl
    conv => whnf
    repeat (first | (refine ⟨(by kernel_rfl : chkR _ _ _ _ = true), ?_⟩; conv => whnf) | (refine EvOr.go ?_; conv => whnf))
    exact retQ.one rfl (.inr rfl) rfl (Nat.le_of_ble_eq_true rfl) rfl
theorem len_ok (M : Mem) (lg : Lg) (mk : Mk) (hn : 0 < M.n) : FunT Try.prog 49 [mpv] (hM M lg mk) (iv M.n) (hM M lg mk) := by
  have hI := is_ok M lg mk hn
  cases hl : lg <;> cases hm : mk <;> rw [hl, hm] at hI <;>
  · refine FunT.ev tabOk mixed Try.func49 rfl ?_
    conv => whnf
    repeat (first | (refine ⟨(by kernel_rfl : chkR _ _ _ _ = true), ?_⟩; conv => whnf) | (refine EvOr.go ?_; conv => whnf))
    refine CallG.use hI c89 [0, 1, 2, 3, 4] [] ?_ ?_ ?_ ?_ ?_ ?_; rfl; rfl; kernel_rfl; rfl; rfl
    conv => whnf
    repeat (first | (refine ⟨(by kernel_rfl : chkR _ _ _ _ = true), ?_⟩; conv => whnf) | (refine EvOr.go ?_; conv => whnf))
    exact retQ.one rfl (.inr rfl) rfl (Nat.le_of_ble_eq_true rfl) rfl
theorem clean_ok (M : Mem) (lg : Lg) (mk : Mk) (hn : 0 < M.n) : FunT Try.prog 48 [mpv] (hM M lg mk) (.tup []) (hM { M with hurt := false } lg mk) := by
  have hI := is_ok M lg mk hn
  cases hl : lg <;> cases hm : mk <;> rw [hl, hm] at hI <;>
  · refine FunT.ev tabOk mixed Try.func48 rfl ?_
    conv => whnf
    repeat (first | (refine ⟨(by kernel_rfl : chkR _ _ _ _ = true), ?_⟩; conv => whnf) | (refine EvOr.go ?_; conv => whnf))
    refine CallG.use hI c89 [0, 1, 2, 3, 4] [] ?_ ?_ ?_ ?_ ?_ ?_; rfl; rfl; kernel_rfl; rfl; rfl
    conv => whnf
    repeat (first | (refine ⟨(by kernel_rfl : chkR _ _ _ _ = true), ?_⟩; conv => whnf) | (refine EvOr.go ?_; conv => whnf))
    exact retQ.zero rfl (by first | exact .inl rfl | exact .inr rfl) rfl (Nat.le_of_ble_eq_true rfl) rfl
theorem fail_ok (M : Mem) (lg : Lg) (mk : Mk) (b : Bool) (hn : 0 < M.n) : FunT Try.prog 37 [mpv, bv b] (hM M lg mk) (iv 0) (hM { M with fails := b, hurt := M.hurt || b } lg mk) := by
  have hI := is_ok M lg mk hn
  obtain ⟨Mn, Ms, Md, Ml, Mf, Mh⟩ := M
  cases hl : lg <;> cases hm : mk <;> rw [hl, hm] at hI <;>
  · refine FunT.ev tabOk mixed Try.func37 rfl ?_
    conv => whnf
    repeat (first | (refine ⟨(by kernel_rfl : chkR _ _ _ _ = true), ?_⟩; conv => whnf) | (refine EvOr.go ?_; conv => whnf))
    refine CallG.use hI c89 [0, 1, 2, 3, 4] [] ?_ ?_ ?_ ?_ ?_ ?_; rfl; rfl; kernel_rfl; rfl; rfl
    conv => whnf
    repeat (first | (refine ⟨(by kernel_rfl : chkR _ _ _ _ = true), ?_⟩; conv => whnf) | (refine EvOr.go ?_; conv => whnf))
    cases Mh
    · conv => whnf
      repeat (first | (refine ⟨(by kernel_rfl : chkR _ _ _ _ = true), ?_⟩; conv => whnf) | (refine EvOr.go ?_; conv => whnf))
      exact retQ.one rfl (.inr rfl) rfl (Nat.le_of_ble_eq_true rfl) rfl
    · conv => whnf
      repeat (first | (refine ⟨(by kernel_rfl : chkR _ _ _ _ = true), ?_⟩; conv => whnf) | (refine EvOr.go ?_; conv => whnf))
      exact retQ.one rfl (.inr rfl) rfl (Nat.le_of_ble_eq_true rfl) rfl
end Go.Proofs.Ytdmcbfmpnakdfaa.Eng
