/- Members: acts one behind the other, their picks as they lie there. -/
import Derived.Test.YtdmcbfmpnakdfaaMq
namespace Go.Proofs.Ytdmcbfmpnakdfaa.Eng
open Go Go.Proofs
set_option maxRecDepth 20000
set_option maxHeartbeats 4000000
/-- A slice of bytes as a value: none are in it; or it lies in a block that stays. -/
def PkOk (R : List (Nat × Obj)) (v : Value) (pk : List Int) : Prop :=
  (∃ ad cp, v = .slice ad 0 cp ∧ pk = []) ∨
  ∃ b off cap c t fr pre post, v = .slice (some ⟨b, off, none⟩) pk.length cap ∧ (b, .cells c t fr) ∈ R ∧ c.toList = pre ++ (pk.map (Value.int .u8) ++ post) ∧ pre.length = off ∧ pk.length ≤ cap
def andD (d : Int) : Int := IntKind.i64.wrap (BitVec.ofInt 64 d &&& BitVec.ofInt 64 15).toNat
theorem pk_den (ρ : Ren) (pk : List Int) : rowDen ρ (pk.map fun b => [.one (.raw (.int .u8 b))]) = pk.map (Value.int .u8) := by
  unfold rowDen
  rw [List.flatMap_map]
  induction pk with
  | nil => rfl
  | cons a l ih => simp only [List.flatMap_cons, List.map_cons, ih]; rfl
theorem doesF (M M' : Mem) (lg lg' : Lg) (mk : Mk) (a : ActV) (pk : List Int) (R : List (Nat × Obj)) (hpk : PkOk R a.p pk) (hM : M' = doesM M a pk (andD a.d)) (hL : lg' = doesL M lg a (andD a.d)) (hlg : lg.ok M.log) (hn : 0 < M.n) (hf : M.fails = false) (hb : M.log.length < 2 ^ 32) :
    FunT Try.prog 36 [mpv, .agg (actSegs a)] (hM4 M lg mk ++ [some (famB R)]) (.tup []) [some (memG M' lg' mk 6 2 7 4), none, imB M'.dur, none, none, some (famB R), imB M'.seen, logB M' lg'] := by
  rcases hpk with ⟨ad, cp, hv, rfl⟩ | ⟨b, off, cap, c, t, fr, pre, post, hv, hR, hc, hpre, hcap⟩
  · have := doesE M M' lg lg' mk a ad cp R (andD a.d) rfl hM hL hlg hn hf hb
    unfold actP at this
    unfold actSegs
    rw [hv]; exact this
  · have h0 := doesR M M' lg lg' mk a pk (andD a.d) rfl hM hL hlg hn hf hb
    have hL1 : ∀ e ∈ pk.map (fun b => ([.one (.raw (.int .u8 b))] : Segs)), Segs.size e = 1 ∧ Segs.oneB e = true := fun e he => by
      obtain ⟨b, _, rfl⟩ := List.mem_map.1 he; exact ⟨rfl, rfl⟩
    have hL2 : ∀ e ∈ pk.map (fun b => ([.one (.raw (.int .u8 b))] : Segs)), Segs.ids e = [] := fun e he => by
      obtain ⟨b, _, rfl⟩ := List.mem_map.1 he; rfl
    have := FunT.fam 5 h0 rfl (by cases lg <;> simp) hR (fun ρ => by rw [pk_den]; exact hc) hpre (by rw [List.length_map]; exact hcap) hL1 hL2 (args2 := [mpv, .agg (actSegs a)]) (fun ρ => by
      simp only [AV.dens, AV.den, actSegs, actP, hv, Segs.den, Seg.den, SV.den, updR_same]
      rw [updR_ne _ _ (by decide)]
      simp) (by cases lg <;> cases mk <;> rfl) (by cases lg' <;> cases mk <;> rfl) (fun x hx => by cases hx)
    exact this
/-- A member, and how its log lies, behind so many acts. -/
def aM (M : Mem) (lg : Lg) (pks : ActV → List Int) (l : List ActV) : Nat → Mem × Lg
  | 0 => (M, lg)
  | k + 1 => match l[k]? with
    | some a => (doesM (aM M lg pks l k).1 a (pks a) (andD a.d), doesL (aM M lg pks l k).1 (aM M lg pks l k).2 a (andD a.d))
    | none => aM M lg pks l k
theorem aM_succ {M : Mem} {lg : Lg} {pks : ActV → List Int} {l : List ActV} {k : Nat} (hk : k < l.length) :
    (aM M lg pks l (k + 1)).1 = doesM (aM M lg pks l k).1 l[k] (pks l[k]) (andD l[k].d) ∧ (aM M lg pks l (k + 1)).2 = doesL (aM M lg pks l k).1 (aM M lg pks l k).2 l[k] (andD l[k].d) := by
  simp only [aM, List.getElem?_eq_getElem hk, and_self]
/-- What acts leave as it is. -/
structure Keep (M : Mem) (lg : Lg) (n : Int) (m : Nat) : Prop where
  n : M.n = n
  fails : M.fails = false
  ok : lg.ok M.log
  len : M.log.length ≤ m
  ks : NK M.seen
  kd : NK M.dur
theorem delW_len (i : Int) (l : Img) : (delW i l).length ≤ l.length := List.length_filter_le ..
theorem keep_does {M : Mem} {lg : Lg} {n : Int} {m : Nat} (a : ActV) (pk : List Int) (r : Int) (h : Keep M lg n m) : Keep (doesM M a pk r) (doesL M lg a r) n (m + 1) := by
  obtain ⟨h1, h2, h3, h4, h5, h6⟩ := h
  unfold doesM doesL
  by_cases k0 : 0 ≤ r ∧ r ≤ 4
  · rw [if_pos k0, if_pos k0]
    by_cases k1 : ioE M a.i = 0
    · rw [if_pos k1, if_pos k1]
      exact ⟨h1, h2, trivial, by simp; omega, NK_putI h5 _ _, h6⟩
    · rw [if_neg k1, if_neg k1]
      exact ⟨h1, h2, h3, by omega, h5, h6⟩
  rw [if_neg k0, if_neg k0]
  by_cases k5 : r = 5
  · rw [if_pos k5, if_pos k5]
    exact ⟨h1, h2, rfl, Nat.zero_le _, NK_kept h6 _ _, NK_kept h6 _ _⟩
  rw [if_neg k5, if_neg k5]
  by_cases k6 : r = 6
  · rw [if_pos k6, if_pos k6]
    exact ⟨h1, h2, rfl, Nat.zero_le _, NK_kept h6 _ _, NK_kept h6 _ _⟩
  rw [if_neg k6, if_neg k6]
  by_cases k7 : r = 7
  · rw [if_pos k7, if_pos k7]
    by_cases k1 : mayE M a.i = 0
    · rw [if_pos k1, if_pos k1]
      exact ⟨h1, h2, Lg.set_ok _ h3, Nat.le_trans (delW_len _ _) (by omega), NK_putI h5 _ _, NK_putI h6 _ _⟩
    · rw [if_neg k1, if_neg k1]
      exact ⟨h1, h2, h3, by omega, h5, h6⟩
  rw [if_neg k7, if_neg k7]
  by_cases k11 : r = 11
  · rw [if_pos k11]; exact ⟨h1, h2, h3, Nat.le_succ_of_le h4, h5, h6⟩
  · rw [if_neg k11]; exact ⟨h1, h2, h3, by omega, h5, h6⟩
theorem keep_aM {M : Mem} {lg : Lg} {n : Int} {m : Nat} (pks : ActV → List Int) (l : List ActV) (h : Keep M lg n m) : ∀ k, Keep (aM M lg pks l k).1 (aM M lg pks l k).2 n (m + k)
  | 0 => h
  | k + 1 => by
    have ih := keep_aM pks l h k
    unfold aM
    cases l[k]? with
    | none => exact ⟨ih.n, ih.fails, ih.ok, Nat.le_succ_of_le ih.len, ih.ks, ih.kd⟩
    | some a => exact keep_does a _ _ ih
end Go.Proofs.Ytdmcbfmpnakdfaa.Eng
