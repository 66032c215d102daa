/- Steps over what is known of memory: what one operation does to it. -/
import Derived.Test.YtdmcbfmpnakdfaaEa
namespace Go.Proofs.Ytdmcbfmpnakdfaa.Eng
open Go

def upd (hp : AHeap) (id : Nat) (o : Option ABlk) : AHeap := fun i => if i = id then o else hp i
theorem upd_same (hp : AHeap) (id : Nat) (o : Option ABlk) : upd hp id o id = o := by simp [upd]
theorem upd_ne (hp : AHeap) {id i : Nat} (o : Option ABlk) (h : i ≠ id) : upd hp id o i = hp i := by simp [upd, h]

theorem BlkSat.lt {Γ : Ctx} {ρ : Ren} {w : World} {id : Nat} {b : ABlk} (h : BlkSat Γ ρ w id b) : (ρ id).b < w.heap.size := by
  have key : ∀ o, w.heap[(ρ id).b]? = some o → (ρ id).b < w.heap.size := fun o ho => (Array.getElem?_eq_some_iff.1 ho).1
  cases b with
  | row md t sz L ms =>
    obtain ⟨_, _, _, h4⟩ := h
    cases md
    · obtain ⟨c, t', fr, pre, post, h, _⟩ := h4; exact key _ h
    · obtain ⟨c, h, _⟩ := h4; exact key _ h
    · obtain ⟨c, pre, post, h, _⟩ := h4; exact key _ h
    · obtain ⟨c, h, _⟩ := h4; exact key _ h
    · obtain ⟨⟨c, t', fr, pre, post, h, _⟩, _⟩ := h4; exact key _ h
  | map es ms => obtain ⟨_, ents, clock, h, _⟩ := h; exact key _ h

theorem Sat.drew {Γ : Ctx} {ρ : Ren} {hp : AHeap} {w : World} (h : Sat Γ ρ hp w) (n : Nat) : Sat Γ ρ hp { w with drawn := n } where
  blk id b hb := (h.blk id b hb).congr rfl (fun _ _ => rfl) rfl
  inj := h.inj
  foot := h.foot
  frame := h.frame
  size := h.size
  os := h.os
  tape := h.tape
  output := h.output
  fix := h.fix

/-- One block's content is another one. -/
theorem Sat.write {Γ : Ctx} {ρ : Ren} {hp : AHeap} {w w' : World} {id : Nat} {b b' : ABlk} (h : Sat Γ ρ hp w) (hb : hp id = some b) (hw : b.w = true)
    (hblk : BlkSat Γ ρ w' id b') (hrest : ∀ c, c ≠ (ρ id).b → w'.heap[c]? = w.heap[c]?) (hsz : w.heap.size ≤ w'.heap.size)
    (ho : w'.os = w.os) (ht : w'.tape = w.tape) (hou : w'.output = w.output) : Sat Γ ρ (upd hp id (some b')) w' where
  blk i x hx := by
    by_cases e : i = id
    · subst e; rw [upd_same] at hx; cases hx; exact hblk
    · rw [upd_ne _ _ e] at hx
      have := h.blk i x hx
      refine this.congr rfl (fun _ _ => rfl) (hrest _ fun hc => e (h.inj id i b x hb hx hw hc.symm).symm)
  inj i j x y hx hy hxw hij := by
    by_cases e : i = id
    · by_cases e' : j = id
      · rw [e, e']
      · rw [upd_ne _ _ e'] at hy
        subst e
        exact h.inj i j b y hb hy hw hij
    · rw [upd_ne _ _ e] at hx
      by_cases e' : j = id
      · subst e'; exact h.inj i j x b hx hb hxw hij
      · rw [upd_ne _ _ e'] at hy; exact h.inj i j x y hx hy hxw hij
  foot i x hx hxw hlt := by
    by_cases e : i = id
    · subst e; exact h.foot i b hb hw hlt
    · rw [upd_ne _ _ e] at hx; exact h.foot i x hx hxw hlt
  frame c hc hf := by
    by_cases e : c = (ρ id).b
    · subst e; exact absurd (h.foot id b hb hw hc) hf
    · rw [hrest c e]; exact h.frame c hc hf
  size := Nat.le_trans h.size hsz
  os := ho.trans h.os
  tape := ht.trans h.tape
  output := hou.trans h.output
  fix := h.fix

theorem Sat.kill {Γ : Ctx} {ρ : Ren} {hp : AHeap} {w : World} (h : Sat Γ ρ hp w) (id : Nat) : Sat Γ ρ (upd hp id none) w := by
  have key : ∀ i x, upd hp id none i = some x → hp i = some x := by
    intro i x hx
    by_cases e : i = id
    · subst e; rw [upd_same] at hx; cases hx
    · rwa [upd_ne _ _ e] at hx
  exact ⟨fun i x hx => h.blk i x (key i x hx), fun i j x y hx hy => h.inj i j x y (key i x hx) (key j y hy), fun i x hx => h.foot i x (key i x hx),
    h.frame, h.size, h.os, h.tape, h.output, h.fix⟩

def updR (ρ : Ren) (id : Nat) (s : Spot) : Ren := fun i => if i = id then s else ρ i
theorem updR_same (ρ : Ren) (id : Nat) (s : Spot) : updR ρ id s id = s := by simp [updR]
theorem updR_ne (ρ : Ren) {id i : Nat} (s : Spot) (h : i ≠ id) : updR ρ id s i = ρ i := by simp [updR, h]

/-- A new id for a place that no other live id has. -/
theorem Sat.fresh {Γ : Ctx} {ρ : Ren} {hp : AHeap} {w : World} {id : Nat} {s : Spot} {b' : ABlk} (h : Sat Γ ρ hp w) (hn : hp id = none) (h0 : Γ.n0 ≤ id)
    (hcl : ∀ i b, hp i = some b → id ∉ b.ms) (hblk : BlkSat Γ (updR ρ id s) w id b')
    (hnew : ∀ i b, hp i = some b → (ρ i).b ≠ s.b) (hfoot : s.b < Γ.W.heap.size → Γ.F s.b) : Sat Γ (updR ρ id s) (upd hp id (some b')) w where
  blk i x hx := by
    by_cases e : i = id
    · subst e; rw [upd_same] at hx; cases hx; exact hblk
    · rw [upd_ne _ _ e] at hx
      exact (h.blk i x hx).congr (updR_ne _ _ e) (fun y hy => updR_ne _ _ fun hc => hcl i x hx (hc ▸ hy)) rfl
  inj i j x y hx hy hxw hij := by
    by_cases e : i = id
    · by_cases e' : j = id
      · rw [e, e']
      · rw [upd_ne _ _ e'] at hy
        subst e
        rw [updR_same, updR_ne _ _ e'] at hij
        exact absurd hij.symm (hnew j y hy)
    · rw [upd_ne _ _ e] at hx
      by_cases e' : j = id
      · subst e'
        rw [updR_same, updR_ne _ _ e] at hij
        exact absurd hij (hnew i x hx)
      · rw [upd_ne _ _ e'] at hy
        rw [updR_ne _ _ e, updR_ne _ _ e'] at hij
        exact h.inj i j x y hx hy hxw hij
  foot i x hx hxw hlt := by
    by_cases e : i = id
    · subst e; rw [updR_same] at hlt ⊢; exact hfoot hlt
    · rw [upd_ne _ _ e] at hx; rw [updR_ne _ _ e] at hlt ⊢; exact h.foot i x hx hxw hlt
  frame := h.frame
  size := h.size
  os := h.os
  tape := h.tape
  output := h.output
  fix i hi := by rw [updR_ne _ _ (by omega)]; exact h.fix i hi

/-- The world may grow. -/
theorem Sat.grow {Γ : Ctx} {ρ : Ren} {hp : AHeap} {w w' : World} (h : Sat Γ ρ hp w) (hrest : ∀ c, c < w.heap.size → w'.heap[c]? = w.heap[c]?) (hsz : w.heap.size ≤ w'.heap.size)
    (ho : w'.os = w.os) (ht : w'.tape = w.tape) (hou : w'.output = w.output) : Sat Γ ρ hp w' where
  blk i x hx := (h.blk i x hx).congr rfl (fun _ _ => rfl) (hrest _ (h.blk i x hx).lt)
  inj := h.inj
  foot := h.foot
  frame c hc hf := by rw [hrest c (Nat.lt_of_lt_of_le hc h.size)]; exact h.frame c hc hf
  size := Nat.le_trans h.size hsz
  os := ho.trans h.os
  tape := ht.trans h.tape
  output := hou.trans h.output
  fix := h.fix

/-- A new block. -/
theorem Sat.alloc {Γ : Ctx} {ρ : Ren} {hp : AHeap} {w : World} {id : Nat} {o : Obj} {b' : ABlk} (tot : Nat) (h : Sat Γ ρ hp w) (hn : hp id = none) (h0 : Γ.n0 ≤ id)
    (hcl : ∀ i b, hp i = some b → id ∉ b.ms)
    (hblk : BlkSat Γ (updR ρ id ⟨w.heap.size, 0, tot⟩) (w.alloc o) id b') : Sat Γ (updR ρ id ⟨w.heap.size, 0, tot⟩) (upd hp id (some b')) (w.alloc o) := by
  have hg : Sat Γ ρ hp (w.alloc o) := h.grow (fun c hc => by show (w.heap.push o)[c]? = _; rw [Array.getElem?_push, if_neg (by omega)]) (by show _ ≤ (w.heap.push o).size; rw [Array.size_push]; omega) rfl rfl rfl
  refine hg.fresh hn h0 hcl hblk (fun i b hb hc => ?_) (fun hlt => ?_)
  · have := (h.blk i b hb).lt
    rw [hc] at this
    exact absurd this (Nat.lt_irrefl _)
  · have := h.size
    exact absurd hlt (by show ¬ w.heap.size < _; omega)

/-- What an operation does: its value, the blocks that it looks at, those that it changes, those that it makes. -/
structure Eff where
  val : AV
  touch : List Nat := []
  writes : List (Nat × Option ABlk) := []
  news : List (Option ABlk) := []
def Eff.app (e : Eff) (base : Nat) (hp : AHeap) : AHeap := fun i =>
  if base ≤ i ∧ i < base + e.news.length then (e.news[i - base]?).getD none else match e.writes.lookup i with
    | some o => o
    | none => hp i

def constAV : Value → AV
  | .agg c => .agg [.raw c.toList]
  | v => .sc (.raw v)
theorem constAV_den (ρ : Ren) (v : Value) : (constAV v).den ρ = v := by
  cases v <;> simp [constAV, AV.den, SV.den, Segs.den, Seg.den]
def evalO (tm : ATm) : Operand → AV
  | .tmp t => tm t
  | .const v => constAV v
  | .global g => .sc (.raw (.pointer (some ⟨g, 0, none⟩)))
  | .func f => .sc (.fn (.func f) [] [])
theorem evalO_den {ρ : Ren} {N : Nat} {tm : ATm} {a : Act} (h : TSat ρ N tm a.tmps) (x : Operand) : evalO tm x = .junk ∨ a.eval x = (evalO tm x).den ρ := by
  cases x with
  | tmp t => exact h.val t
  | const v => exact .inr (constAV_den ρ v).symm
  | global g => exact .inr rfl
  | func f => exact .inr rfl

def tmpsOf (xs : List Operand) : List Nat := xs.filterMap fun | .tmp t => some t | _ => none
theorem evalO_agree {tm tm' : ATm} {xs : List Operand} (h : ∀ t ∈ tmpsOf xs, tm' t = tm t) {x : Operand} (hx : x ∈ xs) : evalO tm' x = evalO tm x := by
  cases x with
  | tmp t => exact h t (by simp only [tmpsOf, List.mem_filterMap]; exact ⟨_, hx, rfl⟩)
  | _ => rfl

/-- Of the ids from base on, k of them, nothing is known, and nothing names them. -/
def Clean (tm : ATm) (hp : AHeap) (base k : Nat) : Prop :=
  ∀ i, base ≤ i → i < base + k → hp i = none ∧ (∀ j b, hp j = some b → i ∉ b.ms) ∧ ∀ t, i ∉ (tm t).ids

def OpT (P : Program) (o : Oper) (tm : ATm) (hp : AHeap) (base : Nat) (e : Eff) : Prop :=
  ∀ (tm₂ : ATm) (hp₂ : AHeap), (∀ t ∈ tmpsOf o.op.operands.toList, tm₂ t = tm t) → (∀ id ∈ e.touch, hp₂ id = hp id) → Clean tm₂ hp₂ base e.news.length →
  ∀ (Γ : Ctx) (ρ : Ren) (N : Nat) (w : World) (a : Act), Γ.n0 ≤ base → Sat Γ ρ hp₂ w → TSat ρ N tm₂ a.tmps →
  ∀ (K : Act → World → Prop) (Q : Exit → Act → World → Prop),
    (∀ ρ' v w', (∀ i, ¬ (base ≤ i ∧ i < base + e.news.length) → ρ' i = ρ i) → (e.val = .junk ∨ v = e.val.den ρ') → Sat Γ ρ' (e.app base hp₂) w' → K (a.put o.dst v) w') →
    o.wp P a w K Q

/-- What operands read as. -/
def Evals (ρ : Ren) (tm : ATm) (xs : List Operand) (ev : Operand → Value) : Prop := ∀ x ∈ xs, evalO tm x = .junk ∨ ev x = (evalO tm x).den ρ
theorem Evals.get {ρ : Ren} {tm : ATm} {xs : List Operand} {ev : Operand → Value} (h : Evals ρ tm xs ev) {x : Operand} (hx : x ∈ xs) {v : AV} (hv : evalO tm x = v) (hj : v ≠ .junk) : ev x = v.den ρ := by
  rcases h x hx with h | h
  · rw [hv] at h; exact absurd h hj
  · rw [h, hv]

def Ran (r : Result Next) (v : Value) (w' : World) : Prop := r = .ok (.value v) w' ∨ (r = .ok .skip w' ∧ v = undef)

/-- A rule of an operation out of what its run comes to. -/
theorem OpT.of_run {P : Program} {o : Oper} {tm : ATm} {hp : AHeap} {base : Nat} {e : Eff}
    (h : ∀ (hp₂ : AHeap), (∀ id ∈ e.touch, hp₂ id = hp id) → (∀ i, base ≤ i → i < base + e.news.length → hp₂ i = none ∧ ∀ j b, hp₂ j = some b → i ∉ b.ms) →
      (∀ x ∈ o.op.operands.toList, ∀ i, base ≤ i → i < base + e.news.length → i ∉ (evalO tm x).ids) →
      ∀ (Γ : Ctx) (ρ : Ren) (w : World) (ev : Operand → Value), Γ.n0 ≤ base → Sat Γ ρ hp₂ w → Evals ρ tm o.op.operands.toList ev →
      ∃ ρ' v w', Ran ((execOp ev o).run P w) v w' ∧ (∀ i, ¬ (base ≤ i ∧ i < base + e.news.length) → ρ' i = ρ i) ∧ (e.val = .junk ∨ v = e.val.den ρ') ∧ Sat Γ ρ' (e.app base hp₂) w') :
    OpT P o tm hp base e := by
  intro tm₂ hp₂ ht hh hc Γ ρ N w a h0 hs hts K Q hK
  obtain ⟨ρ', v, w', hr, h1, h2, h3⟩ := h hp₂ hh (fun i hi hi' => ⟨(hc i hi hi').1, (hc i hi hi').2.1⟩) (fun x hx i h1 h2 => by
    rw [← evalO_agree ht hx]
    cases x with
    | tmp t => exact (hc i h1 h2).2.2 t
    | const v => cases v <;> simp [evalO, constAV, AV.ids, SV.ids, Segs.ids, Seg.ids]
    | global g => simp [evalO, AV.ids, SV.ids]
    | func f => simp [evalO, AV.ids, SV.ids, SV.idss]) Γ ρ w a.eval h0 hs (fun x hx => by
    have := evalO_den hts x
    rw [evalO_agree ht hx] at this
    exact this)
  unfold Oper.wp
  rcases hr with hr | ⟨hr, rfl⟩
  · rw [hr]; exact hK ρ' v w' h1 h2 h3
  · rw [hr]; exact hK ρ' undef w' h1 h2 h3

theorem app_nil (v : AV) (touch : List Nat) (base : Nat) (hp : AHeap) : ({ val := v, touch := touch } : Eff).app base hp = hp := by
  funext i
  simp only [Eff.app, List.length_nil, Nat.add_zero, List.lookup_nil]
  rw [if_neg (by omega)]

/-- An operation that only reads. -/
theorem OpT.reads {P : Program} {o : Oper} {tm : ATm} {hp : AHeap} {base : Nat} (val : AV) (touch : List Nat)
    (h : ∀ (hp₂ : AHeap), (∀ id ∈ touch, hp₂ id = hp id) → ∀ (Γ : Ctx) (ρ : Ren) (w : World) (ev : Operand → Value), Sat Γ ρ hp₂ w → Evals ρ tm o.op.operands.toList ev →
      ∃ v, (execOp ev o).run P w = .ok (.value v) w ∧ (val = .junk ∨ v = val.den ρ)) : OpT P o tm hp base { val := val, touch := touch } := by
  refine OpT.of_run fun hp₂ hh _ _ Γ ρ w ev _ hs he => ?_
  obtain ⟨v, hv, hvv⟩ := h hp₂ hh Γ ρ w ev hs he
  exact ⟨ρ, v, w, .inl hv, fun _ _ => rfl, hvv, by rw [app_nil]; exact hs⟩
end Go.Proofs.Ytdmcbfmpnakdfaa.Eng
