/- Results in cells. -/
import Derived.Test.YtdmcbfmpnakdfaaEk
namespace Go.Proofs.Ytdmcbfmpnakdfaa.Eng
open Go
/-- Back with results of any kind; the blocks keep their ids. -/
theorem retQ.all {P : Program} {T : Tab} (hT : TabOk P T) {fn : Func} {n : Nat} {r : AV} {h' : LHp} {l : LTm} {h : LHp} {e : Exit} (rs : List ResultVar) (vs : List AV) (hr : fn.results.toList = rs) (he : e = .normal ∨ e = .ret) (hv : resVs T l h rs vs) (hj : njB vs = true) (hrv : tupV vs = r)
    (hn : n ≤ h'.length) (hs : maskH h h' = h') : RetS P fn n r h' e l h :=
  retQ.of he (ResT.all hT hr hv hj) (fun i => i) (by rw [AV.ren_id]; exact hrv) (StW.same hn rfl hs)
def presL : Nat → LHp → List Nat
  | _, [] => []
  | j, none :: r => presL (j + 1) r
  | j, some _ :: r => j :: presL (j + 1) r
theorem presL_mem : ∀ {h : LHp} {j i : Nat} {b : ABlk}, hpL h i = some b → j + i ∈ presL j h
  | [], _, i, b, hb => by simp [hpL] at hb
  | none :: r, j, 0, b, hb => by simp [hpL] at hb
  | none :: r, j, i + 1, b, hb => by
    have := presL_mem (h := r) (j := j + 1) (i := i) (b := b) (by simpa [hpL] using hb)
    rw [show j + (i + 1) = j + 1 + i by omega]; exact this
  | some x :: r, j, 0, b, hb => by simp [presL]
  | some x :: r, j, i + 1, b, hb => by
    have := presL_mem (h := r) (j := j + 1) (i := i) (b := b) (by simpa [hpL] using hb)
    rw [show j + (i + 1) = j + 1 + i by omega]
    exact List.mem_cons_of_mem _ this
theorem nodupB'_map {f : Nat → Nat} : ∀ {l : List Nat}, nodupB' (l.map f) = true → ∀ x y, x ∈ l → y ∈ l → f x = f y → x = y
  | [], _, x, y, hx, _, _ => by cases hx
  | a :: l, h, x, y, hx, hy, he => by
    simp only [List.map_cons, nodupB', Bool.and_eq_true, Bool.not_eq_true', List.contains_eq_mem, decide_eq_false_iff_not] at h
    rcases List.mem_cons.1 hx with hx' | hx' <;> rcases List.mem_cons.1 hy with hy' | hy'
    · rw [hx', hy']
    · exact (h.1 (by rw [← hx', he]; exact List.mem_map_of_mem hy')).elim
    · exact (h.1 (by rw [← hy', ← he]; exact List.mem_map_of_mem hx')).elim
    · exact nodupB'_map h.2 x y hx' hy' he
/-- The state seen with other ids: blocks that are there have unlike ones. -/
def stP (n : Nat) (σ : List Nat) (h0 : LHp) : Bool := decide (n ≤ h0.length) && (List.range n).all (fun i => sL σ i == i) && wfH h0 && nodupB' ((presL 0 h0).map (sL σ))
theorem StW.ofP {n : Nat} (σ : List Nat) {l l0 : LTm} {h h0 : LHp} (hB : stP n σ h0 = true) (ht : maskT l l0 = renT (sL σ) l0) (hs : pickH h (sL σ) 0 h0 = renH (sL σ) h0) : StW n (sL σ) l h l0 h0 := by
  simp only [stP, Bool.and_eq_true, decide_eq_true_eq, List.all_eq_true, List.mem_range, beq_iff_eq] at hB
  obtain ⟨⟨⟨b1, b2⟩, b4⟩, b3⟩ := hB
  obtain ⟨t1, t2⟩ := maskT_spec ht
  refine ⟨t1, b1, b2, t2, fun i b hi => ?_, fun i j a b hi hj hij => ?_⟩
  · have := pickH_spec hs i b hi
    rw [Nat.zero_add] at this
    refine ⟨this, .inl ?_⟩
    have hm : some b ∈ h0 := by
      unfold hpL at hi
      rw [List.getD_eq_getElem?_getD] at hi
      cases hg : h0[i]? with
      | none => rw [hg] at hi; simp at hi
      | some o => rw [hg] at hi; simp at hi; subst hi; exact List.mem_of_getElem? hg
    exact (List.all_eq_true.1 b4) _ hm
  · have h1 := presL_mem (j := 0) hi
    have h2 := presL_mem (j := 0) hj
    rw [Nat.zero_add] at h1 h2
    exact nodupB'_map b3 i j h1 h2 hij
/-- Back, the blocks seen as others. -/
theorem retQ.oneS {P : Program} {fn : Func} {n : Nat} {r : AV} {h' : LHp} {l : LTm} {h : LHp} {e : Exit} (σ : List Nat) {t : Nat} (hf : fn.results = #[.tmp t]) (he : e = .normal ∨ e = .ret) (hv : tmL l t = r.ren (sL σ)) (hB : stP n σ h' = true)
    (hs : pickH h (sL σ) 0 h' = renH (sL σ) h') : RetS P fn n r h' e l h := retQ.of he (ResT.one hf) (sL σ) hv (StW.ofP σ hB rfl hs)
theorem retQ.zeroS {P : Program} {fn : Func} {n : Nat} {r : AV} {h' : LHp} {l : LTm} {h : LHp} {e : Exit} (σ : List Nat) (hf : fn.results = #[]) (he : e = .normal ∨ e = .ret) (hr : r = .tup []) (hB : stP n σ h' = true)
    (hs : pickH h (sL σ) 0 h' = renH (sL σ) h') : RetS P fn n r h' e l h := retQ.of he (ResT.zero hf) (sL σ) (by rw [hr]; rfl) (StW.ofP σ hB rfl hs)
theorem retQ.allS {P : Program} {T : Tab} (hT : TabOk P T) {fn : Func} {n : Nat} {r : AV} {h' : LHp} {l : LTm} {h : LHp} {e : Exit} (σ : List Nat) (rs : List ResultVar) (vs : List AV) (hr : fn.results.toList = rs) (he : e = .normal ∨ e = .ret) (hv : resVs T l h rs vs) (hj : njB vs = true) (hrv : tupV vs = r.ren (sL σ))
    (hB : stP n σ h' = true) (hs : pickH h (sL σ) 0 h' = renH (sL σ) h') : RetS P fn n r h' e l h :=
  retQ.of he (ResT.all hT hr hv hj) (sL σ) hrv (StW.ofP σ hB rfl hs)
theorem maskT_self : ∀ l : LTm, maskT l l = l
  | [] => rfl
  | .junk :: l => by simp only [maskT, maskT_self l]
  | .sc _ :: l => by simp only [maskT, maskT_self l]
  | .agg _ :: l => by simp only [maskT, maskT_self l]
  | .tup _ :: l => by simp only [maskT, maskT_self l]
theorem maskH_self : ∀ h : LHp, maskH h h = h
  | [] => rfl
  | none :: l => by simp only [maskH, maskH_self l]
  | some _ :: l => by simp only [maskH, maskH_self l]
theorem StW.refl {n : Nat} {l : LTm} {h : LHp} (hn : n ≤ h.length) : StW n (fun i => i) l h l h := .same hn (maskT_self l) (maskH_self h)
/-- A loop that is left in its first round. -/
def outQ (Q : Post) : Post := fun e l h => match e with
  | .normal => False
  | e => Q e l h
theorem CodeS.loop0 {P : Program} {T : Tab} (hT : TabOk P T) (hm : P.follows .mixedOrders = true) {n : Nat} {c : Code} {l : LTm} {h : LHp} {Q : Post} (hn : n ≤ h.length) (hk : evC P T n c l h (outQ Q)) : CodeS P n (.loop c) l h Q :=
  ⟨CodeT.loop (X := Unit) (fun _ => (l, h)) (fun _ => 0) () (fun i => i) (.refl hn) (fun _ => (evC_sound hT hm _ _ _ _ hk).mono fun e l' h' he => by
    cases e with
    | normal => exact he.elim
    | _ => exact he) (fun _ => rfl)⟩
/-- A loop that counts. -/
def countQ (n : Nat) (I : Nat → LTm × LHp) (N k : Nat) (Q : Post) : Post := fun e l h => match e with
  | .normal => k < N ∧ ∃ s, StW n s l h (I (k + 1)).1 (I (k + 1)).2
  | e => Q e l h
theorem CodeT.loopN {P : Program} {T : Tab} (hT : TabOk P T) (hm : P.follows .mixedOrders = true) {n : Nat} {c : Code} {l : LTm} {h : LHp} {Q : Post} (I : Nat → LTm × LHp) (N : Nat) (s0 : Nat → Nat) (h0 : StW n s0 l h (I 0).1 (I 0).2)
    (hlen : ∀ k, (I k).1.length = l.length) (round : ∀ k, k ≤ N → evC P T n c (I k).1 (I k).2 (countQ n I N k Q)) : CodeS P n (.loop c) l h Q :=
  ⟨CodeT.loop (X := {k : Nat // k ≤ N}) (fun x => I x.1) (fun x => N - x.1) ⟨0, Nat.zero_le _⟩ s0 h0 (fun x => (evC_sound hT hm _ _ _ _ (round x.1 x.2)).mono fun e l' h' he => by
    cases e with
    | normal =>
      obtain ⟨h1, s, h2⟩ := he
      exact ⟨⟨x.1 + 1, h1⟩, s, h2, by show N - (x.1 + 1) < N - x.1; omega⟩
    | _ => exact he) (fun x => hlen x.1)⟩
end Go.Proofs.Ytdmcbfmpnakdfaa.Eng
