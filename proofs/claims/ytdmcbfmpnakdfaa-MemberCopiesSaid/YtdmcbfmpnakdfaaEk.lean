/- Regions and code read off. -/
import Derived.Test.YtdmcbfmpnakdfaaEm
import Derived.KernelRfl
namespace Go.Proofs.Ytdmcbfmpnakdfaa.Eng
open Go

/-! Values are reckoned out as soon as they are there. -/
def forceV (v : Value) (K : Value → Prop) : Prop := match v with
  | .int k n => K (.int k n)
  | .bool b => K (.bool b)
  | .slice a n c => K (.slice a n c)
  | .pointer none => K (.pointer none)
  | .map none => K (.map none)
  | .tuple ⟨[]⟩ => K (.tuple #[])
  | v => K v
def forceN (n : Nat) (K : Nat → Prop) : Prop := match n with
  | 0 => K 0
  | 1 => K 1
  | 2 => K 2
  | 3 => K 3
  | 4 => K 4
  | 5 => K 5
  | 6 => K 6
  | 7 => K 7
  | 8 => K 8
  | 9 => K 9
  | 10 => K 10
  | 11 => K 11
  | 12 => K 12
  | 13 => K 13
  | 14 => K 14
  | 15 => K 15
  | 16 => K 16
  | 17 => K 17
  | 18 => K 18
  | 19 => K 19
  | 20 => K 20
  | 21 => K 21
  | 22 => K 22
  | 23 => K 23
  | 24 => K 24
  | 25 => K 25
  | 26 => K 26
  | 27 => K 27
  | 28 => K 28
  | 29 => K 29
  | 30 => K 30
  | 31 => K 31
  | 32 => K 32
  | 33 => K 33
  | 34 => K 34
  | 35 => K 35
  | 36 => K 36
  | 37 => K 37
  | 38 => K 38
  | 39 => K 39
  | 40 => K 40
  | 41 => K 41
  | 42 => K 42
  | 43 => K 43
  | 44 => K 44
  | 45 => K 45
  | 46 => K 46
  | 47 => K 47
  | n => K n
theorem forceN_spec {n : Nat} {K : Nat → Prop} (h : forceN n K) : K n := by
  unfold forceN at h
  split at h <;> exact h
def forceSV (v : SV) (K : SV → Prop) : Prop := match v with
  | .raw v => forceV v fun v => K (.raw v)
  | .ptr id i sz fo => forceN id fun id => forceN sz fun sz => K (.ptr id i sz fo)
  | .ptrB id i sz fo k => forceN id fun id => K (.ptrB id i sz fo k)
  | .sl id i sz len (some c) => forceN id fun id => K (.sl id i sz len (some c))
  | .sl id i sz len none => forceN id fun id => K (.sl id i sz len none)
  | .mp id => forceN id fun id => K (.mp id)
  | .fn f a b => K (.fn f a b)
  | .ifc t v => K (.ifc t v)
def forceSegs : Segs → (Segs → Prop) → Prop
  | [], K => K []
  | .one v :: r, K => forceSV v fun v => forceSegs r fun r => K (.one v :: r)
  | .byt n b :: r, K => forceSegs r fun r => K (.byt n b :: r)
  | .raw l :: r, K => forceSegs r fun r => K (.raw l :: r)
def forceAV0 (a : AV) (K : AV → Prop) : Prop := match a with
  | .junk => K .junk
  | .sc v => forceSV v fun v => K (.sc v)
  | .agg s => forceSegs s fun s => K (.agg s)
  | .tup l => K (.tup l)
def forceAVs : List AV → (List AV → Prop) → Prop
  | [], K => K []
  | a :: r, K => forceAV0 a fun a => forceAVs r fun r => K (a :: r)
def forceAV (a : AV) (K : AV → Prop) : Prop := match a with
  | .junk => K .junk
  | .sc v => forceSV v fun v => K (.sc v)
  | .agg s => forceSegs s fun s => K (.agg s)
  | .tup l => forceAVs l fun l => K (.tup l)
def forceL {α : Type} : List α → (List α → Prop) → Prop
  | [], K => K []
  | a :: r, K => forceL r fun r => K (a :: r)
def forceNs : List Nat → (List Nat → Prop) → Prop
  | [], K => K []
  | a :: r, K => forceN a fun a => forceNs r fun r => K (a :: r)
def forceB (b : ABlk) (K : ABlk → Prop) : Prop := match b with
  | .row .one t sz [e] ms => forceSegs e fun e => forceNs ms fun ms => K (.row .one t sz [e] ms)
  | .row md t sz L ms => forceNs ms fun ms => K (.row md t sz L ms)
  | .map es ms => forceNs ms fun ms => K (.map es ms)
def forceH : LHp → (LHp → Prop) → Prop
  | [], K => K []
  | none :: r, K => forceH r fun r => K (none :: r)
  | some b :: r, K => forceB b fun b => forceH r fun r => K (some b :: r)
theorem forceV_spec {v : Value} {K : Value → Prop} (h : forceV v K) : K v := by
  unfold forceV at h
  split at h <;> exact h
theorem forceSV_spec {v : SV} {K : SV → Prop} (h : forceSV v K) : K v := by
  unfold forceSV at h
  split at h <;> first | exact forceV_spec h | exact forceN_spec (forceN_spec h) | exact forceN_spec h | exact h
theorem forceSegs_spec : ∀ {s : Segs} {K : Segs → Prop}, forceSegs s K → K s
  | [], _, h => h
  | .one v :: r, _, h => forceSegs_spec (s := r) (forceSV_spec (v := v) h)
  | .byt n b :: r, _, h => forceSegs_spec (s := r) h
  | .raw l :: r, _, h => forceSegs_spec (s := r) h
theorem forceAV0_spec {a : AV} {K : AV → Prop} (h : forceAV0 a K) : K a := by
  unfold forceAV0 at h
  split at h
  · exact h
  · exact forceSV_spec h
  · exact forceSegs_spec h
  · exact h
theorem forceAVs_spec : ∀ {l : List AV} {K : List AV → Prop}, forceAVs l K → K l
  | [], _, h => h
  | a :: r, _, h => forceAVs_spec (l := r) (forceAV0_spec (a := a) h)
theorem forceAV_spec {a : AV} {K : AV → Prop} (h : forceAV a K) : K a := by
  unfold forceAV at h
  split at h
  · exact h
  · exact forceSV_spec h
  · exact forceSegs_spec h
  · exact forceAVs_spec h
theorem forceL_spec {α : Type} : ∀ {l : List α} {K : List α → Prop}, forceL l K → K l
  | [], _, h => h
  | _ :: r, _, h => forceL_spec (l := r) h
theorem forceNs_spec : ∀ {l : List Nat} {K : List Nat → Prop}, forceNs l K → K l
  | [], _, h => h
  | _ :: r, _, h => forceNs_spec (l := r) (forceN_spec h)
theorem forceB_spec {b : ABlk} {K : ABlk → Prop} (h : forceB b K) : K b := by
  unfold forceB at h
  split at h
  · exact forceNs_spec (forceSegs_spec h)
  · exact forceNs_spec h
  · exact forceNs_spec h
theorem forceH_spec : ∀ {l : LHp} {K : LHp → Prop}, forceH l K → K l
  | [], _, h => h
  | none :: r, _, h => forceH_spec (l := r) h
  | some b :: r, _, h => forceH_spec (l := r) (forceB_spec (b := b) h)

/-- Behind an operation. -/
def nextOp (o : Oper) (l : LTm) (h : LHp) (K : Ent → LTm → LHp → Prop) (e : Eff) : Prop :=
  forceAV e.val fun v => forceL (putL l o.dst v) fun l' => forceH (appL e h) fun h' => K (.run e h.length) l' h'
theorem nextOp_spec {o : Oper} {l : LTm} {h : LHp} {K : Ent → LTm → LHp → Prop} {e : Eff} (hk : nextOp o l h K e) : K (.run e h.length) (putL l o.dst e.val) (appL e h) :=
  forceH_spec (forceL_spec (forceAV_spec (a := e.val) hk))
def evStep (P : Program) (T : Tab) (ops : Array Oper) (o : Oper) (ih : LTm → LHp → (List Ent → LTm → LHp → Prop) → Prop) (l : LTm) (h : LHp) (K : List Ent → LTm → LHp → Prop) : Prop := match o.guard with
  | none => evOp P T o l h (nextOp o l h fun en l' h' => ih l' h' fun es l' h' => K (en :: es) l' h')
  | some (j, want) => match dstOf ops j with
    | some d => match l.getD d .junk with
      | .sc (.raw (.bool v)) => match v == want with
        | true => evOp P T o l h (nextOp o l h fun en l' h' => ih l' h' fun es l' h' => K (en :: es) l' h')
        | false => forceL (putL l o.dst (.sc (.raw undef))) fun l' => ih l' h fun es l' h' => K (.skip :: es) l' h'
      | .sc (.raw (.tuple ⟨[]⟩)) => forceL (putL l o.dst (.sc (.raw undef))) fun l' => ih l' h fun es l' h' => K (.skip :: es) l' h'
      | _ => False
    | none => False
/-- By the list's own recursor: so what is reckoned out is what the kernel reckons out. -/
def evOps (P : Program) (T : Tab) (ops : Array Oper) (rest : List Oper) : LTm → LHp → (List Ent → LTm → LHp → Prop) → Prop :=
  @List.rec Oper (fun _ => LTm → LHp → (List Ent → LTm → LHp → Prop) → Prop) (fun l h K => K [] l h) (fun o _ ih => evStep P T ops o ih) rest

theorem evOps_sound {P : Program} {T : Tab} (hT : TabOk P T) {ops : Array Oper} : ∀ (rest : List Oper) (i : Nat) (l : LTm) (h : LHp) (K : List Ent → LTm → LHp → Prop), ops.toList.drop i = rest → evOps P T ops rest l h K →
    ∃ es l' h', RL P ops i l h es l' h' ∧ K es l' h' := by
  intro rest
  induction rest with
  | nil =>
    intro i l h K hd hk
    refine ⟨[], l, h, .nil ?_, hk⟩
    have := List.drop_eq_nil_iff.1 hd
    simpa using this
  | cons o rest ih =>
    intro i l h K hd hk
    have hget : ops[i]? = some o := by
      have h0 := congrArg (fun q : List Oper => q[0]?) hd
      simp only [List.getElem?_drop, Nat.add_zero, List.getElem?_cons_zero] at h0
      simpa using h0
    have hd' : ops.toList.drop (i + 1) = rest := by
      rw [← List.drop_drop, hd]; rfl
    have run : ∀ (hg : guardOk ops l o.guard), evOp P T o l h (nextOp o l h fun en l' h' => evOps P T ops rest l' h' fun es l' h' => K (en :: es) l' h') → ∃ es l' h', RL P ops i l h es l' h' ∧ K es l' h' := by
      intro hg hk
      obtain ⟨e, he, hk⟩ := evOp_sound hT hk
      replace hk := nextOp_spec hk
      obtain ⟨es, l', h', hr, hk⟩ := ih (i + 1) _ _ _ hd' hk
      exact ⟨_, l', h', .run hget hg he hr, hk⟩
    have skip : ∀ (hg : guardNo ops l o.guard), (forceL (putL l o.dst (.sc (.raw undef))) fun l' => evOps P T ops rest l' h fun es l' h' => K (.skip :: es) l' h') → ∃ es l' h', RL P ops i l h es l' h' ∧ K es l' h' := by
      intro hg hk
      replace hk := forceL_spec hk
      obtain ⟨es, l', h', hr, hk⟩ := ih (i + 1) _ _ _ hd' hk
      exact ⟨_, l', h', .skip hget hg hr, hk⟩
    replace hk : evStep P T ops o (evOps P T ops rest) l h K := hk
    unfold evStep at hk
    split at hk
    · rename_i hg; exact run (.inl hg) hk
    · rename_i j want hg
      split at hk
      · rename_i d hdst
        split at hk
        · rename_i v hv
          split at hk
          · rename_i hvw
            exact run (.inr ⟨j, want, d, hg, hdst, by rw [hv]; rw [beq_iff_eq.1 hvw]⟩) hk
          · rename_i hvw
            refine skip ⟨j, want, d, hg, hdst, .inl (by rw [hv]; have := beq_eq_false_iff_ne.1 hvw; cases v <;> cases want <;> simp_all)⟩ hk
        · rename_i hv
          exact skip ⟨j, want, d, hg, hdst, .inr hv⟩ hk
        · exact hk.elim
      · exact hk.elim

/-- Code from a state, closed to reckoning. -/
structure CodeS (P : Program) (n : Nat) (c : Code) (l : LTm) (h : LHp) (Q : Post) : Prop where
  t : CodeT P n c l h Q
/-- What is read off, or what is known of the code as a whole. -/
inductive EvOr (a b : Prop) : Prop where
  | go (h : a)
  | cut (h : b)
def evSeq (ka kb cb : LTm → LHp → Post → Prop) (l : LTm) (h : LHp) (Q : Post) : Prop := ka l h fun e l' h' => match e with
  | .normal => EvOr (kb l' h' Q) (cb l' h' Q)
  | e => Q e l' h'
def evCond (c : Operand) (ka kb : LTm → LHp → Post → Prop) (l : LTm) (h : LHp) (Q : Post) : Prop := match evalO (tmL l) c with
  | .sc (.raw (.bool v)) => (match v with
    | true => ka l h Q
    | false => kb l h Q)
  | _ => False
def evC (P : Program) (T : Tab) (n : Nat) (c : Code) : LTm → LHp → Post → Prop :=
  @Code.rec (fun _ => LTm → LHp → Post → Prop)
    (fun l h Q => Q .normal l h)
    (fun _ ops _ l h Q => evOps P T ops ops.toList l h fun es l' h' => chkR ops es l h = true ∧ Q .normal l' h')
    (fun _ b ka kb => evSeq ka kb (CodeT P n b))
    (fun c _ _ ka kb => evCond c ka kb)
    (fun id _ k l h Q => k l h (blockQ id Q))
    (fun c _ l h Q => CodeS P n (.loop c) l h Q)
    (fun f p a b _ _ l h Q => CodeS P n (.rangeFunc f p a b) l h Q)
    (fun id l h Q => Q (.exit id) l h)
    (fun _ _ _ _ _ => False)
    (fun _ _ _ _ => False)
    (fun _ _ _ _ => False)
    (fun l h Q => Q .ret l h)
    (fun _ _ _ _ => False) c

theorem evC_sound {P : Program} {T : Tab} (hT : TabOk P T) (hm : P.follows .mixedOrders = true) {n : Nat} : ∀ (c : Code) (l : LTm) (h : LHp) (Q : Post), evC P T n c l h Q → CodeT P n c l h Q := by
  intro c
  induction c with
  | skip => intro l h Q hk; exact .skip hk
  | region id ops d =>
    intro l h Q hk
    obtain ⟨es, l', h', hr, hc, hq⟩ := evOps_sound hT ops.toList 0 l h _ (by simp) hk
    exact .region hm hr hc hq
  | seq a b iha ihb =>
    intro l h Q hk
    refine .seq ((iha l h _ hk).mono fun e l' h' he => ?_)
    cases e with
    | normal =>
      cases he with
      | go he => exact ihb l' h' Q he
      | cut he => exact he
    | _ => exact he
  | cond c a b iha ihb =>
    intro l h Q hk
    replace hk : evCond c (evC P T n a) (evC P T n b) l h Q := hk
    unfold evCond at hk
    split at hk
    · rename_i v hv
      refine .cond hv (fun e => ?_) (fun e => ?_)
      · subst e; exact iha l h Q hk
      · subst e; exact ihb l h Q hk
    · exact hk.elim
  | block id c ih => intro l h Q hk; exact .block (ih l h _ hk)
  | loop c ih => intro l h Q hk; exact hk.t
  | rangeFunc f p a b iha ihb => intro l h Q hk; exact hk.t
  | exit id => intro l h Q hk; exact .exit hk
  | ret => intro l h Q hk; exact .ret hk
  | scope c ih => intro l h Q hk; exact hk.elim
  | label l => intro l h Q hk; exact hk.elim
  | goto l => intro l h Q hk; exact hk.elim
  | refuse s => intro l h Q hk; exact hk.elim

/-- A function's contract, read off its code. -/
theorem FunT.ev {P : Program} {T : Tab} (hT : TabOk P T) (hm : P.follows .mixedOrders = true) {f : FuncId} {fn : Func} {c : Code} {args : List AV} {h : LHp} {r : AV} {h' : LHp} (hf : P.funcs[f]? = some fn) (hb : fn.body = some c)
    (hk : forceL (args ++ List.replicate (fn.ntmps - args.length) (.sc (.raw undef))) fun l => forceH h fun h₀ => evC P T h.length c l h₀ (retQ P fn h.length r h')) : FunT P f args h r h' :=
  .of_code hf hb (evC_sound hT hm c _ _ _ (forceH_spec (forceL_spec hk)))
/-- What holds where a round has ended, and where the loop is left. -/
def loopQ {X : Type} (n : Nat) (I : X → LTm × LHp) (μ : X → Nat) (x : X) (Q : Post) : Post := fun e l' h' => match e with
  | .normal => ∃ x' s, StW n s l' h' (I x').1 (I x').2 ∧ μ x' < μ x
  | e => Q e l' h'
theorem CodeT.loopE {P : Program} {T : Tab} (hT : TabOk P T) (hm : P.follows .mixedOrders = true) {n : Nat} {c : Code} {l : LTm} {h : LHp} {Q : Post} {X : Type} (I : X → LTm × LHp) (μ : X → Nat) (x0 : X) (s0 : Nat → Nat) (h0 : StW n s0 l h (I x0).1 (I x0).2)
    (hlen : ∀ x, (I x).1.length = l.length) (round : ∀ x, evC P T n c (I x).1 (I x).2 (loopQ n I μ x Q)) : CodeS P n (.loop c) l h Q :=
  ⟨CodeT.loop I μ x0 s0 h0 (fun x => evC_sound hT hm _ _ _ _ (round x)) hlen⟩
/-- The state seen as another one, ahead of code. -/
theorem CodeT.asE {P : Program} {T : Tab} (hT : TabOk P T) (hm : P.follows .mixedOrders = true) {n : Nat} {c : Code} {l l0 : LTm} {h h0 : LHp} {Q : Post} (s : Nat → Nat) (hs : StW n s l h l0 h0) (hk : evC P T n c l0 h0 Q) : CodeT P n c l h Q :=
  CodeT.weaken s hs (evC_sound hT hm _ _ _ _ hk)
/-- The code behind j statements. -/
def suf : Nat → Code → Code
  | 0, c => c
  | j + 1, .seq _ b => suf j b
  | _, c => c
def bodyC (f : Func) : Code := match f.body with
  | some c => c
  | none => .skip
end Go.Proofs.Ytdmcbfmpnakdfaa.Eng
