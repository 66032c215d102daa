/- Operations read off, further ones; the whole of them. -/
import Derived.Test.YtdmcbfmpnakdfaaEi
namespace Go.Proofs.Ytdmcbfmpnakdfaa.Eng
open Go

/-- A call by a contract: what the caller has where the callee looks; what is kept. -/
def preV (h : LHp) : List Nat → LHp → LHp
  | _, [] => []
  | [], _ :: hs => none :: preV h [] hs
  | _ :: ps, none :: hs => none :: preV h ps hs
  | q :: ps, some b :: hs => (match b.w with
    | true => hpL h q
    | false => (hpL h q).map ABlk.ro) :: preV h ps hs
def renL (π : Nat → Nat) : LHp → LHp
  | [] => []
  | none :: hs => none :: renL π hs
  | some b :: hs => some (b.ren π) :: renL π hs
def maskL (chg : List Nat) : Nat → LHp → LHp
  | _, [] => []
  | i, a :: as => (match chg.contains i with
    | true => none
    | false => a) :: maskL chg (i + 1) as
def wO : Option ABlk → Bool
  | some b => b.w
  | none => true
def callB (p : List Nat) (n : Nat) (hc hc' : LHp) (chg : List Nat) (r : AV) : Bool :=
  p.length == hc.length && decide (hc.length ≤ hc'.length) && p.all (· < n) && nodupB' p && chg.all (fun i => decide (i < p.length) && wO (hc'.getD i none)) && (hc'.drop p.length).all wO &&
  hc'.all (fun b => (msO b).all (· < hc'.length)) && r.ids.all (· < hc'.length) && hc.all (fun b => match b with | some b => b.wfB | none => true)

theorem preV_spec {h : LHp} {π : Nat → Nat} : ∀ {p : List Nat} {hc : LHp}, preV h p hc = renL π hc → ∀ i b, hpL hc i = some b →
    (∃ b', hpL h (p.getD i 0) = some b' ∧ (b.w = true → b' = b.ren π) ∧ (b.w = false → b'.ro = b.ren π))
  | p, [], _, i, b, hb => by simp [hpL] at hb
  | [], none :: hs, hp, 0, b, hb => by simp [hpL] at hb
  | [], some x :: hs, hp, i, b, hb => by simp [preV, renL] at hp
  | [], none :: hs, hp, i + 1, b, hb => by
    simp only [preV, renL, List.cons.injEq, true_and] at hp
    have hb' : hpL hs i = some b := by simpa [hpL] using hb
    simpa using preV_spec (p := []) hp i b hb'
  | q :: ps, none :: hs, hp, 0, b, hb => by simp [hpL] at hb
  | q :: ps, some x :: hs, hp, 0, b, hb => by
    simp [hpL] at hb
    subst hb
    simp only [preV, renL, List.cons.injEq] at hp
    have h1 := hp.1
    cases hw : x.w with
    | true =>
      rw [hw] at h1
      exact ⟨_, h1, (fun _ => rfl), (fun hc => by cases hc)⟩
    | false =>
      rw [hw] at h1
      obtain ⟨b', h3, h4⟩ := Option.map_eq_some_iff.1 h1
      exact ⟨b', h3, (fun hc => by cases hc), fun _ => h4⟩
  | q :: ps, none :: hs, hp, i + 1, b, hb => by
    simp only [preV, renL, List.cons.injEq, true_and] at hp
    have hb' : hpL hs i = some b := by simpa [hpL] using hb
    simpa using preV_spec hp i b hb'
  | q :: ps, some x :: hs, hp, i + 1, b, hb => by
    simp only [preV, renL, List.cons.injEq] at hp
    have hb' : hpL hs i = some b := by simpa [hpL] using hb
    simpa using preV_spec hp.2 i b hb'
theorem maskL_spec {chg : List Nat} : ∀ {j : Nat} {hc hc' : LHp}, maskL chg j hc = maskL chg j (hc'.take hc.length) → ∀ i, i < hc.length → j + i ∉ chg → hpL hc' i = hpL hc i
  | j, [], _, _, i, hi, _ => by simp at hi
  | j, a :: as, [], hk, _, _, _ => by simp [maskL] at hk
  | j, a :: as, b :: bs, hk, 0, _, hn => by
    simp only [List.length_cons, List.take_succ_cons, maskL, List.cons.injEq] at hk
    have hk1 := hk.1
    have : chg.contains j = false := by simpa using hn
    rw [this] at hk1
    have hk1 : a = b := hk1
    simp [hpL, hk1]
  | j, a :: as, b :: bs, hk, i + 1, hi, hn => by
    simp only [List.length_cons, List.take_succ_cons, maskL, List.cons.injEq] at hk
    have := maskL_spec hk.2 i (by simpa using hi) (by rwa [show j + 1 + i = j + (i + 1) by omega])
    simpa [hpL] using this
theorem callOk_of {p : List Nat} {h hc hc' : LHp} {chg : List Nat} {r : AV} (hB : callB p h.length hc hc' chg r = true) (hpre : preV h p hc = renL (emb p h.length) hc) (hkeep : maskL chg 0 hc = maskL chg 0 (hc'.take hc.length)) :
    CallOk p h.length (hpL h) hc hc' chg ∧ ∀ x ∈ r.ids, x < hc'.length := by
  simp only [callB, Bool.and_eq_true, beq_iff_eq, decide_eq_true_eq, List.all_eq_true] at hB
  obtain ⟨⟨⟨⟨⟨⟨⟨⟨b1, b2⟩, b3⟩, b4⟩, b5⟩, b6⟩, b7⟩, b8⟩, b9⟩ := hB
  have hget : ∀ (h : LHp) i b, hpL h i = some b → some b ∈ h := fun h i b hi => by
    unfold hpL at hi
    rw [List.getD_eq_getElem?_getD] at hi
    cases hg : h[i]? with
    | none => rw [hg] at hi; simp at hi
    | some o => rw [hg] at hi; simp at hi; subst hi; exact List.mem_of_getElem? hg
  refine ⟨⟨b1, b2, fun i hi => b3 _ ?_, fun i j => nodupB'_spec b4 i j, (fun i b hb => ⟨preV_spec hpre i b hb, b9 (some b) (hget hc i b hb)⟩), fun i hi hn => maskL_spec hkeep i (by omega) (by simpa using hn), fun i hi => ⟨(b5 i hi).1, fun b hb => ?_⟩, fun i b hi hb => ?_, fun i b hb => ?_⟩, b8⟩
  · rw [List.getD_eq_getElem?_getD, List.getElem?_eq_getElem hi]; exact List.getElem_mem hi
  · have := (b5 i hi).2
    unfold hpL at hb
    rw [hb] at this; exact this
  · have hm : some b ∈ hc'.drop p.length := by
      have h1 : hc'[i]? = some (some b) := by
        unfold hpL at hb
        rw [List.getD_eq_getElem?_getD] at hb
        cases hg : hc'[i]? with
        | none => rw [hg] at hb; simp at hb
        | some o => rw [hg] at hb; simp at hb; subst hb; rfl
      refine List.mem_of_getElem? (i := i - p.length) ?_
      rw [List.getElem?_drop, show p.length + (i - p.length) = i by omega, h1]
    exact b6 _ hm
  · exact b7 (some b) (hget hc' i b hb)

def CallG (P : Program) (f : FuncId) (as : List AV) (h : LHp) (K : Eff → Prop) : Prop :=
  ∃ (cargs : List AV) (hc : LHp) (r : AV) (hc' : LHp) (p chg : List Nat), FunT P f cargs hc r hc' ∧ Callable P f ∧ (∀ v ∈ as, v ≠ .junk) ∧ AV.rens (emb p h.length) cargs = as ∧
    (CallOk p h.length (hpL h) hc hc' chg ∧ ∀ x ∈ r.ids, x < hc'.length) ∧ K (callEff p h.length r hc' chg)
def njB : List AV → Bool
  | [] => true
  | .junk :: _ => false
  | _ :: l => njB l
theorem njB_spec : ∀ {l : List AV}, njB l = true → ∀ v ∈ l, v ≠ .junk
  | .junk :: _, h, _, _ => by cases h
  | .sc _ :: l, h, v, hv => by
    rcases List.mem_cons.1 hv with rfl | hv
    · simp
    · exact njB_spec (l := l) h v hv
  | .agg _ :: l, h, v, hv => by
    rcases List.mem_cons.1 hv with rfl | hv
    · simp
    · exact njB_spec (l := l) h v hv
  | .tup _ :: l, h, v, hv => by
    rcases List.mem_cons.1 hv with rfl | hv
    · simp
    · exact njB_spec (l := l) h v hv
/-- A call by a contract: what is to be shown. -/
theorem CallG.use {X : Prop} {P : Program} {f : FuncId} {as : List AV} {h : LHp} {K : Eff → Prop} {cargs : List AV} {hc : LHp} {r : AV} {hc' : LHp} (hF : FunT P f cargs hc r hc') (hcb : Callable P f) (p chg : List Nat)
    (hnj : njB as = true) (hren : AV.rens (emb p h.length) cargs = as) (hB : callB p h.length hc hc' chg r = true) (hpre : preV h p hc = renL (emb p h.length) hc) (hkeep : maskL chg 0 hc = maskL chg 0 (hc'.take hc.length))
    (hk : K (callEff p h.length r hc' chg)) : CallG P f as h K ∨ X := .inl
  ⟨cargs, hc, r, hc', p, chg, hF, hcb, njB_spec hnj, hren, callOk_of hB hpre hkeep, hk⟩

def evCall (P : Program) (l : LTm) (h : LHp) (c : Call) (K : Eff → Prop) : AV → Prop
  | .sc (.fn (.func f) first caps) => CallG P f (first.map .sc ++ (c.args.toList.map (evalO (tmL l)) ++ caps.map .sc)) h K
  | _ => False
/-- All values of one cell, closed. -/
def scAll (l : LTm) : List Operand → Option (List SV)
  | [] => some []
  | x :: xs => match evalO (tmL l) x, scAll l xs with
    | .sc v, some vs => some (v :: vs)
    | _, _ => none
def evUn (op : UnOp) (K : Eff → Prop) : AV → Prop
  | .sc (.raw (.bool b)) => match op with
    | .not => K { val := .sc (.raw (.bool !b)) }
    | _ => False
  | .sc (.raw (.int k n)) => match op with
    | .neg => ∃ r, k.wrap (0 - n) = r ∧ K { val := .sc (.raw (.int k r)) }
    | _ => False
  | _ => False
def evAlloc (T : Tab) (h : LHp) (t : TypeId) (a : AV) (K : Eff → Prop) : Prop :=
  match T.lookup t, avSegs a with
  | some d, some s => chkB (Segs.size s == d.size && Segs.oneB s) <| K { val := .sc (.ptr h.length 0 d.size 0), news := [some (.row .one t d.size [s] (Segs.ids s))] }
  | _, _ => False
def evField (T : Tab) (t : TypeId) (f : Nat) (K : Eff → Prop) : AV → Prop
  | .sc (.ptr id i sz fo) => match T.lookup t with
    | some ⟨.st fs, _, _, _⟩ => match fs[f]? with
      | some (off, ft) => match T.lookup ft with
        | some fd => chkB (fd.size != 0) <| K { val := .sc (.ptr id i sz (fo + off)) }
        | none => False
      | none => False
    | _ => False
  | _ => False
def evIndexAddr (T : Tab) (t : TypeId) (K : Eff → Prop) (x ix : AV) : Prop :=
  match x, ix with
  | .sc (.sl id i sz len _), .sc (.raw (.int _ n)) => match T.lookup t with
    | some ⟨.slice e, _, _, _⟩ => match T.lookup e with
      | some d => chkB (sz == d.size) <| (0 ≤ n ∧ n < len) ∧ K { val := .sc (.ptr id (i + n.toNat) sz 0) }
      | none => False
    | _ => False
  | .sc (.ptr id i sz fo), .sc (.raw (.int _ n)) => match T.lookup t with
    | some ⟨.arr m e, _, _, _⟩ => match T.lookup e with
      | some ⟨.int .u8, 1, _, _⟩ => (0 ≤ n ∧ n < m) ∧ K { val := .sc (.ptrB id i sz fo n.toNat) }
      | some d => (0 ≤ n ∧ n < m) ∧ K { val := .sc (.ptr id i sz (fo + n.toNat * d.size)) }
      | none => False
    | _ => False
  | _, _ => False
def evAggField (T : Tab) (t : TypeId) (f : Nat) (K : Eff → Prop) : AV → Prop
  | .agg s => match T.lookup t with
    | some ⟨.st fs, _, _, _⟩ => match fs[f]? with
      | some (off, ft) => match T.lookup ft with
        | some fd => match subS s off fd.size with
          | some s' => match segsAV fd.k.isAgg s' with
            | some a => K { val := a }
            | none => False
          | none => False
        | none => False
      | none => False
    | _ => False
  | _ => False
def evExtract (i : Nat) (K : Eff → Prop) : AV → Prop
  | .tup l => match l[i]? with
    | some .junk => False
    | some v => K { val := v }
    | none => False
  | _ => False
def evLen (T : Tab) (t : TypeId) (K : Eff → Prop) : AV → Prop
  | .sc (.sl _ _ _ len _) => match T.lookup t with
    | some ⟨.slice _, _, _, _⟩ => K { val := .sc (.raw (.int .i64 len)) }
    | _ => False
  | .sc (.raw (.slice _ len _)) => match T.lookup t with
    | some ⟨.slice _, _, _, _⟩ => K { val := .sc (.raw (.int .i64 len)) }
    | _ => False
  | _ => False
def evConv (T : Tab) (s t : TypeId) (K : Eff → Prop) : AV → Prop
  | .sc (.raw (.int _ n)) => match T.lookup s, T.lookup t with
    | some _, some ⟨.int k, _, _, _⟩ => ∃ r, k.wrap n = r ∧ K { val := .sc (.raw (.int k r)) }
    | _, _ => False
  | _ => False

section
variable {P : Program} {T : Tab} {o : Oper} {l : LTm} {h : LHp} {K : Eff → Prop}
theorem evals_get {ρ : Ren} {ev : Operand → Value} (hev : Evals ρ (tmL l) o.op.operands.toList ev) {x : Operand} (hx : x ∈ o.op.operands.toList) {v : AV} (hv : evalO (tmL l) x = v) (hj : v ≠ .junk) : ev x = v.den ρ := hev.get hx hv hj

theorem den_sl (ρ : Ren) (id i sz len : Nat) (cap : Option Nat) : (AV.sc (.sl id i sz len cap)).den ρ = .slice (some ⟨(ρ id).b, (ρ id).sh + i * sz, none⟩) len (cap.getD ((ρ id).tot - i)) := by cases cap <;> rfl
theorem run_eqv {P : Program} {t : TypeId} {x y : Value} {b : Bool} {w : World} (he : ∀ d, (Op.equalIn (d + 1) t x y).run P w = .ok b w) : (Op.equal t x y).run P w = .ok b w := by
  unfold Op.equal
  rw [show Op.maxDepth = 9999 + 1 from rfl]
  exact he 9999
theorem run_eql_of {P : Program} {t : TypeId} {x y : Value} {b c : Bool} {w : World} {op : BinOp} (hop : (op = .eql ∧ c = b) ∨ (op = .neq ∧ c = !b)) (hb : ∀ d, binOp op d x y = match op with | .eql => (do pure (.bool (← Op.equal d x y))) | _ => (do pure (.bool (!(← Op.equal d x y)))))
    (he : ∀ d, (Op.equalIn (d + 1) t x y).run P w = .ok b w) : (binOp op t x y).run P w = .ok (.bool c) w := by
  rw [hb t]
  have := run_eqv he
  rcases hop with ⟨rfl, rfl⟩ | ⟨rfl, rfl⟩ <;> simp [this]

theorem evBin_sound (hT : TabOk P T) {op : BinOp} {t t' : TypeId} {x y : Operand} (ho : o.op = .binOp op t x y t') (hk : evBin T op t K (evalO (tmL l) x) (evalO (tmL l) y)) : ∃ e, OpL P o l h e ∧ K e := by
  have hmx : x ∈ o.op.operands.toList := by rw [ho]; simp [Op.operands]
  have hmy : y ∈ o.op.operands.toList := by rw [ho]; simp [Op.operands]
  generalize hx : evalO (tmL l) x = u at hk
  generalize hy : evalO (tmL l) y = v at hk
  have fin : ∀ (r : Value), u ≠ .junk → v ≠ .junk → (∀ ρ w, (eqGuard op t x y (u.den ρ) (v.den ρ)).run P w = .ok () w) → (∀ ρ w, (binOp op t (u.den ρ) (v.den ρ)).run P w = .ok r w) → OpL P o l h { val := .sc (.raw r) } := by
    intro r hu hv hg hr
    refine opL_reads fun hp₂ hh Γ ρ w ev hs hev => ⟨r, ?_, .inr rfl⟩
    have h1 := evals_get hev hmx hx hu
    have h2 := evals_get hev hmy hy hv
    unfold execOp
    simp only [ho, h1, h2]
    simp [hg, hr]
  unfold evBin at hk
  split at hk
  · rename_i k a k' b
    split at hk
    · obtain ⟨r, hr, hk⟩ := hk
      exact ⟨_, fin _ (by simp) (by simp) (fun ρ w => run_eqGuard_int w) (fun ρ w => run_shiftI hr w), hk⟩
    · split at hk
      · rename_i hkk
        subst hkk
        split at hk
        · rename_i c hc
          exact ⟨_, fin _ (by simp) (by simp) (fun ρ w => run_eqGuard_int w) (fun ρ w => run_cmpI hc w), hk c rfl⟩
        · obtain ⟨r, hr, hk⟩ := hk
          exact ⟨_, fin _ (by simp) (by simp) (fun ρ w => run_eqGuard_int w) (fun ρ w => run_binI hr w), hk⟩
      · exact hk.elim
  · rename_i a b
    split at hk
    · rename_i by_ sz z hd
      obtain ⟨u, hu, hrun⟩ := (tab_get hT hd).und
      simp only [TKOk] at hu
      subst hu
      exact ⟨_, fin _ (by simp) (by simp) (fun ρ w => rfl) (fun ρ w => run_eql_of (b := a == b) (.inl ⟨rfl, rfl⟩) (fun _ => rfl) (fun d => by simp [AV.den, SV.den, Op.equalIn, hrun])), hk⟩
    · rename_i by_ sz z hd
      obtain ⟨u, hu, hrun⟩ := (tab_get hT hd).und
      simp only [TKOk] at hu
      subst hu
      exact ⟨_, fin _ (by simp) (by simp) (fun ρ w => rfl) (fun ρ w => run_eql_of (b := a == b) (.inr ⟨rfl, rfl⟩) (fun _ => rfl) (fun d => by simp [AV.den, SV.den, Op.equalIn, hrun])), hk⟩
    · exact hk.elim
  · split at hk
    · rename_i c hc
      cases hd : T.lookup t with
      | none => rw [hd] at hc; simp at hc
      | some d =>
        rw [hd] at hc
        simp only [Option.bind_some] at hc
        cases hn : nilOf d.k u v with
        | none => rw [hn] at hc; simp at hc
        | some isn =>
          rw [hn] at hc
          simp only [Option.bind_some] at hc
          obtain ⟨ty, hu, hrun⟩ := (tab_get hT hd).und
          have hop : (op = .eql ∧ c = isn) ∨ (op = .neq ∧ c = !isn) := by
            cases op <;> simp only [nilCmp] at hc <;> (try (cases hc; done)) <;> (injection hc with hc; subst hc; simp)
          unfold nilOf at hn
          split at hn
          all_goals (try (cases hn; done))
          all_goals
            rw [show d.k = _ by assumption] at hu
            simp only [TKOk] at hu
            first | subst hu | obtain ⟨_, _, _, rfl⟩ := hu
            injection hn with hn
            subst hn
            refine ⟨_, fin _ (by simp) (by simp) (fun ρ w => ?_) (fun ρ w => ?_), hk⟩
            · rcases hop with ⟨rfl, _⟩ | ⟨rfl, _⟩ <;> first | rfl | (rw [den_sl]; rfl)
            · refine run_eql_of hop (fun _ => ?_) (fun d => ?_)
              · rcases hop with ⟨rfl, _⟩ | ⟨rfl, _⟩ <;> first | rfl | (rw [den_sl]; rfl)
              · first | (simp [AV.den, SV.den, Op.equalIn, hrun]; done) | (rw [den_sl]; simp [AV.den, SV.den, Op.equalIn, hrun]; done)
    · exact hk.elim

theorem evUn_sound {op : UnOp} {t : TypeId} {x : Operand} (ho : o.op = .unOp op t x) (hk : evUn op K (evalO (tmL l) x)) : ∃ e, OpL P o l h e ∧ K e := by
  have hmx : x ∈ o.op.operands.toList := by rw [ho]; simp [Op.operands]
  generalize hx : evalO (tmL l) x = u at hk
  have fin : ∀ (r : Value), u ≠ .junk → (∀ ρ w, (Op.unary op (u.den ρ)).run P w = .ok r w) → OpL P o l h { val := .sc (.raw r) } := by
    intro r hu hr
    refine opL_reads fun hp₂ hh Γ ρ w ev hs hev => ⟨r, ?_, .inr rfl⟩
    have h1 := evals_get hev hmx hx hu
    unfold execOp
    simp only [ho, h1]
    simp [hr]
  unfold evUn at hk
  split at hk
  · split at hk
    · exact ⟨_, fin _ (by simp) (fun ρ w => rfl), hk⟩
    · exact hk.elim
  · split at hk
    · obtain ⟨r, hr, hk⟩ := hk
      exact ⟨_, fin _ (by simp) (fun ρ w => by rw [← hr]; rfl), hk⟩
    · exact hk.elim
  · exact hk.elim

theorem app_new (v : AV) (b : Option ABlk) (base : Nat) (hp : AHeap) (hn : hp base = none) : ({ val := v, news := [b] } : Eff).app base hp = upd hp base b := by
  funext i
  simp only [Eff.app, List.length_singleton, upd, List.lookup_nil]
  by_cases e : i = base
  · subst e; simp
  · rw [if_neg (by omega), if_neg e]

/-- A new variable. -/
theorem new_var {t : TypeId} {d : TD} {a : AV} {s : Segs} (hs : avSegs a = some s) (h1 : Segs.oneB s = true) (hsz : Segs.size s = d.size) (hids : ∀ i ∈ Segs.ids s, ∃ x ∈ o.op.operands.toList, i ∈ (evalO (tmL l) x).ids)
    (hrun : ∀ ρ w (ev : Operand → Value), Evals ρ (tmL l) o.op.operands.toList ev → (execOp ev o).run P w = .ok (.value (.pointer (some ⟨w.heap.size, 0, none⟩))) (w.alloc (.cells (a.den ρ).cells t))) :
    OpL P o l h { val := .sc (.ptr h.length 0 d.size 0), news := [some (.row .one t d.size [s] (Segs.ids s))] } := by
  refine OpT.of_run fun hp₂ _ hcl hsc Γ ρ w ev h0 hsat hev => ?_
  have hc := hcl h.length (Nat.le_refl _) (by simp)
  refine ⟨updR ρ h.length ⟨w.heap.size, 0, 1⟩, _, _, .inl (hrun ρ w ev hev), fun i hi => updR_ne _ _ (fun e => hi (by simp [e])), .inr ?_, ?_⟩
  · simp [AV.den, SV.den, updR_same]
  · rw [app_new _ _ _ _ hc.1]
    have hcells := avSegs_cells hs h1 ρ
    rw [hcells]
    refine hsat.alloc (b' := .row .one t d.size [s] (Segs.ids s)) 1 hc.1 h0 hc.2 ?_
    have hnew : (w.alloc (.cells (Segs.den ρ s).toArray t)).heap[w.heap.size]? = some (.cells (Segs.den ρ s).toArray t) := by
      show (w.heap.push _)[w.heap.size]? = _
      simp
    refine ⟨fun e he => by simp at he; rw [he]; exact ⟨hsz, h1⟩, fun e he x hx => by simp at he; rw [he] at hx; exact hx, by simp [updR_same], (Segs.den ρ s).toArray, by rw [updR_same]; exact hnew, ?_, by rw [updR_same], by rw [updR_same]; rfl⟩
    have : Segs.den (updR ρ h.length ⟨w.heap.size, 0, 1⟩) s = Segs.den ρ s := Segs.den_congr s fun x hx => by
      refine updR_ne _ _ fun e => ?_
      obtain ⟨y, hy, hxy⟩ := hids x hx
      exact hsc y hy x (by omega) (by simp; omega) hxy
    simp [rowDen, this]

theorem avSegs_ids {a : AV} {s : Segs} (h : avSegs a = some s) : Segs.ids s = a.ids := by
  cases a with
  | sc v => cases h; simp [Segs.ids, Seg.ids, AV.ids]
  | agg s => cases h; rfl
  | junk => cases h
  | tup l => cases h
theorem evBox_sound {t : TypeId} {x : Operand} (ho : o.op = .box t x) (hk : evAlloc T h t (evalO (tmL l) x) K) : ∃ e, OpL P o l h e ∧ K e := by
  have hmx : x ∈ o.op.operands.toList := by rw [ho]; simp [Op.operands]
  unfold evAlloc at hk
  split at hk
  · rename_i d s hd hs
    obtain ⟨hkk, hk⟩ := chkB_spec hk
    simp only [Bool.and_eq_true, beq_iff_eq] at hkk
    obtain ⟨k1, k2⟩ := hkk
    refine ⟨_, new_var hs k2 k1 (fun i hi => ⟨x, hmx, by rw [← avSegs_ids hs]; exact hi⟩) fun ρ w ev hev => ?_, hk⟩
    have h1 := evals_get hev hmx rfl (fun hc => by rw [hc] at hs; cases hs)
    unfold execOp
    simp only [ho, h1]
    simp [Instr.box, newVar, newRow]
  · exact hk.elim
theorem evAlloc_sound (hT : TabOk P T) {t : TypeId} {d : TD} (hd : T.lookup t = some d) (ho : o.op = .alloc t) (hk : evAlloc T h t d.z K) : ∃ e, OpL P o l h e ∧ K e := by
  unfold evAlloc at hk
  split at hk
  · rename_i d' s hd' hs
    rw [hd] at hd'
    cases hd'
    obtain ⟨hkk, hk⟩ := chkB_spec hk
    simp only [Bool.and_eq_true, beq_iff_eq] at hkk
    obtain ⟨k1, k2⟩ := hkk
    refine ⟨_, new_var hs k2 k1 (fun i hi => by rw [avSegs_ids hs, (tab_get hT hd).zi] at hi; cases hi) fun ρ w ev hev => ?_, hk⟩
    have hz := (tab_get hT hd).zero ρ w
    unfold execOp
    simp only [ho]
    simp [Instr.alloc, newVar, newRow, hz]
  · exact hk.elim
theorem evField_sound (hT : TabOk P T) {t : TypeId} {x : Operand} {f : Nat} (ho : o.op = .fieldAddr t x f) (hk : evField T t f K (evalO (tmL l) x)) : ∃ e, OpL P o l h e ∧ K e := by
  have hmx : x ∈ o.op.operands.toList := by rw [ho]; simp [Op.operands]
  generalize hx : evalO (tmL l) x = u at hk
  unfold evField at hk
  split at hk
  · rename_i id i sz fo
    split at hk
    · rename_i fs sz' by_ z hd
      split at hk
      · rename_i off ft hf
        split at hk
        · rename_i fd hfd
          obtain ⟨hne, hk⟩ := chkB_spec hk
          simp only [bne_iff_ne, ne_eq] at hne
          refine ⟨_, ?_, hk⟩
          obtain ⟨ty, hu, hrun⟩ := (tab_get hT hd).und
          obtain ⟨fields, rfl, hfs⟩ := hu
          have hfl : ∃ fl, fields[f]? = some fl ∧ fl.offset = off ∧ fl.type = ft := by
            rw [← hfs] at hf
            simp only [List.getElem?_map, Option.map_eq_some_iff] at hf
            obtain ⟨fl, h1, h2⟩ := hf
            cases h2
            exact ⟨fl, by simpa using h1, rfl, rfl⟩
          obtain ⟨fl, hfl, rfl, rfl⟩ := hfl
          have hsz := (tab_get hT hfd).sz
          refine opL_reads fun hp₂ hh Γ ρ w ev hs hev => ⟨_, ?_, .inr rfl⟩
          have h1 := evals_get hev hmx hx (by simp)
          unfold execOp
          simp only [ho, h1, Instr.fieldAt]
          simp [hrun, hfl, Instr.sureAddr, AV.den, SV.den, fieldPlace, hsz, hne, addr_add, Nat.add_assoc]
        · exact hk.elim
      · exact hk.elim
    · exact hk.elim
  · exact hk.elim

theorem mul_add_sz (i n sz : Nat) : (i + n) * sz = i * sz + n * sz := Nat.add_mul i n sz
theorem evIndexAddr_sound (hT : TabOk P T) {t : TypeId} {x ix : Operand} (ho : o.op = .indexAddr t x ix) (hk : evIndexAddr T t K (evalO (tmL l) x) (evalO (tmL l) ix)) : ∃ e, OpL P o l h e ∧ K e := by
  have hmx : x ∈ o.op.operands.toList := by rw [ho]; simp [Op.operands]
  have hmi : ix ∈ o.op.operands.toList := by rw [ho]; simp [Op.operands]
  generalize hx : evalO (tmL l) x = u at hk
  generalize hi : evalO (tmL l) ix = v at hk
  unfold evIndexAddr at hk
  split at hk
  · rename_i id i sz len cap kd n
    split at hk
    · rename_i e s' b' z' hd
      split at hk
      · rename_i d hde
        obtain ⟨hsd, ⟨h0, h1⟩, hk⟩ := chkB_spec hk
        obtain rfl := beq_iff_eq.1 hsd
        refine ⟨_, ?_, hk⟩
        obtain ⟨ty, hu, hrun⟩ := (tab_get hT hd).und
        simp only [TKOk] at hu
        subst hu
        have hsz := (tab_get hT hde).sz
        refine opL_reads fun hp₂ hh Γ ρ w ev hs hev => ⟨_, ?_, .inr rfl⟩
        have g1 := evals_get hev hmx hx (by simp)
        have g2 := evals_get hev hmi hi (by simp)
        rw [den_sl] at g1
        unfold execOp
        simp only [ho, g1, g2, Instr.indexAt, AV.den, SV.den]
        simp [asIntOf, hrun, h0, h1, hsz, addr_add, Nat.add_mul, Nat.add_assoc]
      · exact hk.elim
    · exact hk.elim
  · rename_i id i sz fo kd n
    split at hk
    · rename_i m e s' b' z' hd
      obtain ⟨ty, hu, hrun⟩ := (tab_get hT hd).und
      simp only [TKOk] at hu
      subst hu
      split at hk
      · rename_i b'' z'' hde
        obtain ⟨⟨h0, h1⟩, hk⟩ := hk
        refine ⟨_, ?_, hk⟩
        have hsz := (tab_get hT hde).sz
        refine opL_reads fun hp₂ hh Γ ρ w ev hs hev => ⟨_, ?_, .inr rfl⟩
        have g1 := evals_get hev hmx hx (by simp)
        have g2 := evals_get hev hmi hi (by simp)
        unfold execOp
        simp only [ho, g1, g2, Instr.indexAt, AV.den, SV.den]
        simp [asIntOf, hrun, h0, h1, hsz, addr_add, Instr.sureAddr]
      · rename_i d hnot hde
        obtain ⟨⟨h0, h1⟩, hk⟩ := hk
        refine ⟨_, ?_, hk⟩
        have hsz := (tab_get hT hde).sz
        refine opL_reads fun hp₂ hh Γ ρ w ev hs hev => ⟨_, ?_, .inr rfl⟩
        have g1 := evals_get hev hmx hx (by simp)
        have g2 := evals_get hev hmi hi (by simp)
        unfold execOp
        simp only [ho, g1, g2, Instr.indexAt, AV.den, SV.den]
        simp [asIntOf, hrun, h0, h1, hsz, addr_add, Instr.sureAddr, Nat.add_assoc]
      · exact hk.elim
    · exact hk.elim
  · exact hk.elim

/-- Parts of a value. -/
theorem run_part {t : TypeId} {d : TD} (hd : TDOk P t d) {s s' : Segs} {off : Nat} {a : AV} (hs : subS s off d.size = some s') (ha : segsAV d.k.isAgg s' = some a) (ρ : Ren) (w : World) :
    (part t (Segs.den ρ s).toArray off).run P w = .ok (a.den ρ) w := by
  have hk : d.k ≠ .other := fun hc => by
    obtain ⟨u, _, hu⟩ := hd.u
    rw [hc] at hu; exact hu
  obtain ⟨s1, s2, s3, s4⟩ := subS_den (ρ := ρ) hs
  obtain ⟨g1, g2, g3⟩ := segsAV_den ha ρ
  unfold part
  rw [Sem.run_bind, hd.agg hk, Result.andThen_ok]
  cases hg : d.k.isAgg with
  | true =>
    rw [hg] at g1
    simp only [if_true] at g1 ⊢
    rw [Sem.run_bind, hd.sz, Result.andThen_ok, ← g1]
    show Result.ok _ w = _
    congr 2
    apply Array.ext'
    rw [s3, Array.toList_extract]
    simp
  | false =>
    rw [hg] at g1
    simp only [Bool.false_eq_true, if_false] at g1 ⊢
    obtain ⟨v, hv⟩ := g2 hg
    rw [hv] at g1 s3
    have hl := congrArg List.length s3
    simp only [List.length_singleton, List.length_take, List.length_drop] at hl
    have : ((Segs.den ρ s).toArray)[off]? = some v := by
      simp only [List.getElem?_toArray]
      have h0 := congrArg (fun q : List Value => q[0]?) s3
      simp only [List.getElem?_cons_zero] at h0
      rw [List.getElem?_take, if_pos (by omega), List.getElem?_drop] at h0
      simpa using h0.symm
    rw [this]
    simp only [List.getD_cons_zero] at g1
    rw [← g1]; rfl
theorem evAggField_sound (hT : TabOk P T) {t : TypeId} {x : Operand} {f : Nat} (ho : o.op = .field t x f) (hk : evAggField T t f K (evalO (tmL l) x)) : ∃ e, OpL P o l h e ∧ K e := by
  have hmx : x ∈ o.op.operands.toList := by rw [ho]; simp [Op.operands]
  generalize hx : evalO (tmL l) x = u at hk
  unfold evAggField at hk
  split at hk
  · rename_i s
    split at hk
    · rename_i fs sz' by_ z hd
      split at hk
      · rename_i off ft hf
        split at hk
        · rename_i fd hfd
          split at hk
          · rename_i s' hs'
            split at hk
            · rename_i a ha
              refine ⟨_, ?_, hk⟩
              obtain ⟨ty, hu, hrun⟩ := (tab_get hT hd).und
              obtain ⟨fields, rfl, hfs⟩ := hu
              have hfl : ∃ fl, fields[f]? = some fl ∧ fl.offset = off ∧ fl.type = ft := by
                rw [← hfs] at hf
                simp only [List.getElem?_map, Option.map_eq_some_iff] at hf
                obtain ⟨fl, h1, h2⟩ := hf
                cases h2
                exact ⟨fl, by simpa using h1, rfl, rfl⟩
              obtain ⟨fl, hfl, rfl, rfl⟩ := hfl
              refine opL_reads fun hp₂ hh Γ ρ w ev hs hev => ⟨_, ?_, .inr rfl⟩
              have h1 := evals_get hev hmx hx (by simp)
              have hp := run_part (tab_get hT hfd) hs' ha ρ w
              unfold execOp
              simp only [ho, h1, Instr.field]
              simp [hrun, hfl, AV.den, asAgg, hp]
            · exact hk.elim
          · exact hk.elim
        · exact hk.elim
      · exact hk.elim
    · exact hk.elim
  · exact hk.elim
theorem dens_get {ρ : Ren} {l : List AV} {i : Nat} {v : AV} (h : l[i]? = some v) : (AV.dens ρ l)[i]? = some (v.den ρ) := by
  induction l generalizing i with
  | nil => simp at h
  | cons x l ih => cases i with
    | zero => simp at h; subst h; rfl
    | succ i => simpa [AV.dens] using ih (by simpa using h)
theorem evExtract_sound {x : Operand} {i : Nat} (ho : o.op = .extract x i) (hk : evExtract i K (evalO (tmL l) x)) : ∃ e, OpL P o l h e ∧ K e := by
  have hmx : x ∈ o.op.operands.toList := by rw [ho]; simp [Op.operands]
  generalize hx : evalO (tmL l) x = u at hk
  unfold evExtract at hk
  split at hk
  · rename_i vs
    split at hk
    · exact hk.elim
    · rename_i v hv
      refine ⟨_, ?_, hk⟩
      refine opL_reads fun hp₂ hh Γ ρ w ev hs hev => ⟨_, ?_, .inr rfl⟩
      have h1 := evals_get hev hmx hx (by simp)
      have h2 := dens_get (ρ := ρ) hv
      unfold execOp
      simp only [ho, h1, Instr.extract, AV.den]
      simp [h2]
    · exact hk.elim
  · exact hk.elim
theorem evConv_sound (hT : TabOk P T) {s t : TypeId} {x : Operand} (ho : o.op = .convert s t x) (hk : evConv T s t K (evalO (tmL l) x)) : ∃ e, OpL P o l h e ∧ K e := by
  have hmx : x ∈ o.op.operands.toList := by rw [ho]; simp [Op.operands]
  generalize hx : evalO (tmL l) x = u at hk
  unfold evConv at hk
  split at hk
  · rename_i kd n
    split at hk
    · rename_i d k s' b' z' hs ht
      obtain ⟨r, hr, hk⟩ := hk
      refine ⟨_, ?_, hk⟩
      obtain ⟨ty, hu, hrun⟩ := (tab_get hT ht).und
      simp only [TKOk] at hu
      subst hu
      obtain ⟨ty', hu', hrun'⟩ := (tab_get hT hs).und
      refine opL_reads fun hp₂ hh Γ ρ w ev hs hev => ⟨_, ?_, .inr rfl⟩
      have h1 := evals_get hev hmx hx (by simp)
      unfold execOp
      simp only [ho, h1, AV.den, SV.den]
      simp [convert, hrun, hrun', Conv.intToInt, ← hr]
    · exact hk.elim
  · exact hk.elim
theorem evLen_sound (hT : TabOk P T) {c : Call} {x : Operand} {t : TypeId} (ho : o.op = .call c) (hcal : c.callee = .builtin .len) (ha : c.args.toList = [x]) (hat : c.argTypes.toList = [t]) (hk : evLen T t K (evalO (tmL l) x)) :
    ∃ e, OpL P o l h e ∧ K e := by
  have hargs : c.args = #[x] := by apply Array.ext'; rw [ha]
  have hts : c.argTypes = #[t] := by apply Array.ext'; rw [hat]
  have hmx : x ∈ o.op.operands.toList := by rw [ho]; simp [Op.operands, Call.operands, hcal, hargs]
  generalize hx : evalO (tmL l) x = u at hk
  have fin : ∀ (len : Nat) (b : Option Addr) (cp : Ren → Nat) (e : TypeId) (s' b' : Nat) (z' : AV), T.lookup t = some ⟨.slice e, s', b', z'⟩ → u ≠ .junk → (∀ ρ, ∃ b c, u.den ρ = .slice b len c) → OpL P o l h { val := .sc (.raw (.int .i64 len)) } := by
    intro len _ _ e s' b' z' hd hj hu
    obtain ⟨ty, hty, hrun⟩ := (tab_get hT hd).und
    simp only [TKOk] at hty
    subst hty
    refine opL_reads fun hp₂ hh Γ ρ w ev hs hev => ⟨_, ?_, .inr rfl⟩
    have h1 := evals_get hev hmx hx hj
    obtain ⟨b, cc, hb⟩ := hu ρ
    rw [hb] at h1
    unfold execOp
    simp only [ho, resolve, hcal, hargs, hts]
    simp [h1, invoke, builtin, Builtin.len_, hrun, AV.den, SV.den, goInt]
  unfold evLen at hk
  split at hk
  · split at hk
    · rename_i e s' b' z' hd
      exact ⟨_, fin _ none (fun _ => 0) e s' b' z' hd (by simp) (fun ρ => ⟨_, _, den_sl ρ _ _ _ _ _⟩), hk⟩
    · exact hk.elim
  · split at hk
    · rename_i e s' b' z' hd
      exact ⟨_, fin _ none (fun _ => 0) e s' b' z' hd (by simp) (fun ρ => ⟨_, _, rfl⟩), hk⟩
    · exact hk.elim
  · exact hk.elim
theorem scAll_spec {ρ : Ren} {ev : Operand → Value} : ∀ {xs : List Operand} {vs : List SV}, scAll l xs = some vs → (∀ x ∈ xs, evalO (tmL l) x = .junk ∨ ev x = (evalO (tmL l) x).den ρ) → xs.map ev = SV.dens ρ vs
  | [], vs, h, _ => by cases h; rfl
  | x :: xs, vs, h, he => by
    unfold scAll at h
    split at h
    · rename_i v vs' hv hvs
      cases h
      simp only [List.map_cons, SV.dens]
      rw [scAll_spec hvs (fun y hy => he y (by simp [hy]))]
      congr 1
      rcases he x (by simp) with h1 | h1
      · rw [hv] at h1; cases h1
      · rw [h1, hv]; rfl
    · cases h

end
end Go.Proofs.Ytdmcbfmpnakdfaa.Eng
