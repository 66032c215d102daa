/- Regions: whatever order they draw, they come to what the order of the text comes to, where nothing that stands apart meets. -/
import Derived.Test.YtdmcbfmpnakdfaaEb
namespace Go.Proofs.Ytdmcbfmpnakdfaa.Eng
open Go

inductive Ent where
  | run (e : Eff) (base : Nat)
  | skip
def putT (tm : ATm) (d : Option Nat) (v : AV) : ATm := match d with
  | some d => fun i => if i = d then v else tm i
  | none => tm
def Ent.stm (d : Option Nat) (tm : ATm) : Ent → ATm
  | .run e _ => putT tm d e.val
  | .skip => putT tm d (.sc (.raw undef))
def Ent.shp (hp : AHeap) : Ent → AHeap
  | .run e base => e.app base hp
  | .skip => hp
/-- The ids that an operation makes; that it changes or makes; that it looks at, changes or makes; that its results name. -/
def Ent.newL : Ent → List Nat
  | .run e base => (List.range e.news.length).map (base + ·)
  | .skip => []
def Ent.wL : Ent → List Nat
  | .run e base => (List.range e.news.length).map (base + ·) ++ e.writes.map (·.1)
  | .skip => []
def Ent.tL : Ent → List Nat
  | .run e base => e.touch ++ (Ent.run e base).wL
  | .skip => []
def msO : Option ABlk → List Nat
  | some b => b.ms
  | none => []
def Ent.mL : Ent → List Nat
  | .run e base => e.val.ids ++ (e.writes.flatMap (fun x => msO x.2) ++ (e.news.flatMap msO ++ (Ent.run e base).wL))
  | .skip => []

section
variable (ops : Array Oper) (es : List Ent)
def dstOf (k : Nat) : Option Nat := (ops[k]?).bind (·.dst)
def entOf (k : Nat) : Ent := es.getD k .skip
def stepR (k : Nat) (s : ATm × AHeap) : ATm × AHeap := ((entOf es k).stm (dstOf ops k) s.1, (entOf es k).shp s.2)
def stR (s0 : ATm × AHeap) (S : Nat → Bool) : Nat → ATm × AHeap
  | 0 => s0
  | k + 1 => if S k then stepR ops es k (stR s0 S k) else stR s0 S k
def guardT (k : Nat) : List Nat := match (ops[k]?).bind (·.guard) with
  | some (j, _) => (dstOf ops j).toList
  | none => []
def rTL (k : Nat) : List Nat := match ops[k]? with
  | some o => tmpsOf o.op.operands.toList ++ guardT ops k
  | none => []
def direct (k : Nat) : List Nat := match ops[k]? with
  | some o => (o.after.toList.filter (Region.binds .any)).map (·.on)
  | none => []
def disj (l m : List Nat) : Bool := l.all fun x => !m.contains x
def indep (k i : Nat) : Bool :=
  disj (dstOf ops k).toList (rTL ops i ++ (dstOf ops i).toList) && disj (dstOf ops i).toList (rTL ops k) &&
  disj (entOf es k).wL (entOf es i).tL && disj (entOf es i).wL (entOf es k).tL
def pres : List (List Nat) := (List.range ops.size).foldl (fun acc i => acc ++ [((direct ops i) ++ (direct ops i).flatMap (fun j => acc.getD j [])).eraseDups]) []
def chk (pre : List (List Nat)) (N : Nat) : Bool :=
  (List.range ops.size).all fun i =>
    (direct ops i).all (· < i) &&
    (pre.getD i []).all (fun k => (direct ops i).contains k || (direct ops i).any fun j => (pre.getD j []).contains k) &&
    (dstOf ops i).all (· < N) &&
    (List.range ops.size).all (fun k => k == i || (pre.getD k []).contains i || disj (entOf es k).mL (entOf es i).newL) &&
    (List.range i).all fun k => (pre.getD i []).contains k || indep ops es k i
end

theorem disj_spec {l m : List Nat} (h : disj l m = true) {x : Nat} (hx : x ∈ l) : x ∉ m := by
  have := (List.all_eq_true.1 h) x hx
  simpa using this

section
variable {ops : Array Oper} {es : List Ent} {s0 : ATm × AHeap}
theorem putT_ne {tm : ATm} {d : Option Nat} {v : AV} {t : Nat} (h : t ∉ d.toList) : putT tm d v t = tm t := by
  cases d with
  | none => rfl
  | some d => simp at h; simp [putT, h]
theorem putT_eq {tm tm' : ATm} {d : Option Nat} {v : AV} {t : Nat} (h : t ∈ d.toList) : putT tm d v t = putT tm' d v t := by
  cases d with
  | none => simp at h
  | some d => simp at h; simp [putT, h]
theorem step_tm_ne {k t : Nat} {s : ATm × AHeap} (h : t ∉ (dstOf ops k).toList) : (stepR ops es k s).1 t = s.1 t := by
  unfold stepR
  cases entOf es k <;> exact putT_ne h
theorem step_tm_eq {k t : Nat} {s s' : ATm × AHeap} (h : t ∈ (dstOf ops k).toList) : (stepR ops es k s).1 t = (stepR ops es k s').1 t := by
  unfold stepR
  cases entOf es k <;> exact putT_eq h
theorem lookup_none {l : List (Nat × Option ABlk)} {i : Nat} (h : i ∉ l.map (·.1)) : l.lookup i = none := by
  induction l with
  | nil => rfl
  | cons x l ih =>
    simp only [List.map_cons, List.mem_cons, not_or] at h
    obtain ⟨a, b⟩ := x
    have : (i == a) = false := by simpa using h.1
    simp only [List.lookup_cons, this]
    exact ih h.2
theorem lookup_some {l : List (Nat × Option ABlk)} {i : Nat} (h : i ∈ l.map (·.1)) : ∃ o, l.lookup i = some o ∧ o ∈ l.map (·.2) := by
  induction l with
  | nil => simp at h
  | cons x l ih =>
    obtain ⟨a, b⟩ := x
    by_cases e : i = a
    · subst e; exact ⟨b, by simp, by simp⟩
    · have e' : (i == a) = false := by simpa using e
      obtain ⟨o, ho, hm⟩ := ih (by simpa [e] using h)
      exact ⟨o, by simp only [List.lookup_cons, e', ho], by simp; exact .inr (by simpa using hm)⟩
theorem mem_new {base n i : Nat} : i ∈ (List.range n).map (base + ·) ↔ base ≤ i ∧ i < base + n := by
  simp only [List.mem_map, List.mem_range]
  constructor
  · rintro ⟨a, h, rfl⟩; omega
  · intro h; exact ⟨i - base, by omega, by omega⟩
theorem app_ne {e : Eff} {base i : Nat} {hp : AHeap} (h : i ∉ (Ent.run e base).wL) : e.app base hp i = hp i := by
  simp only [Ent.wL, List.mem_append, not_or, mem_new] at h
  unfold Eff.app
  rw [if_neg h.1, lookup_none h.2]
theorem app_eq {e : Eff} {base i : Nat} {hp hp' : AHeap} (h : i ∈ (Ent.run e base).wL) : e.app base hp i = e.app base hp' i := by
  simp only [Ent.wL, List.mem_append, mem_new] at h
  unfold Eff.app
  split
  · rfl
  · rename_i hn
    obtain ⟨o, ho, _⟩ := lookup_some (h.resolve_left hn)
    rw [ho]
theorem step_hp_ne {k i : Nat} {s : ATm × AHeap} (h : i ∉ (entOf es k).wL) : (stepR ops es k s).2 i = s.2 i := by
  unfold stepR
  cases he : entOf es k with
  | run e base => rw [he] at h; exact app_ne h
  | skip => rfl
theorem step_hp_eq {k i : Nat} {s s' : ATm × AHeap} (h : i ∈ (entOf es k).wL) : (stepR ops es k s).2 i = (stepR ops es k s').2 i := by
  unfold stepR
  cases he : entOf es k with
  | run e base => rw [he] at h; exact app_eq h
  | skip => rw [he] at h; simp [Ent.wL] at h

/-- Two sets that agree on those below m that write to t. -/
theorem st_tm_agree {S T : Nat → Bool} {t : Nat} : ∀ m, (∀ k, k < m → t ∈ (dstOf ops k).toList → S k = T k) → (stR ops es s0 S m).1 t = (stR ops es s0 T m).1 t := by
  intro m
  induction m with
  | zero => intro _; rfl
  | succ m ih =>
    intro h
    have hi := ih fun k hk => h k (by omega)
    simp only [stR]
    by_cases hw : t ∈ (dstOf ops m).toList
    · rw [h m (by omega) hw]
      split
      · exact step_tm_eq hw
      · exact hi
    · have e1 : ∀ (S : Nat → Bool), (if S m = true then stepR ops es m (stR ops es s0 S m) else stR ops es s0 S m).1 t = (stR ops es s0 S m).1 t := fun S => by
        split
        · exact step_tm_ne hw
        · rfl
      rw [e1, e1, hi]
theorem st_hp_agree {S T : Nat → Bool} {t : Nat} : ∀ m, (∀ k, k < m → t ∈ (entOf es k).wL → S k = T k) → (stR ops es s0 S m).2 t = (stR ops es s0 T m).2 t := by
  intro m
  induction m with
  | zero => intro _; rfl
  | succ m ih =>
    intro h
    have hi := ih fun k hk => h k (by omega)
    simp only [stR]
    by_cases hw : t ∈ (entOf es m).wL
    · rw [h m (by omega) hw]
      split
      · exact step_hp_eq hw
      · exact hi
    · have e1 : ∀ (S : Nat → Bool), (if S m = true then stepR ops es m (stR ops es s0 S m) else stR ops es s0 S m).2 t = (stR ops es s0 S m).2 t := fun S => by
        split
        · exact step_hp_ne hw
        · rfl
      rw [e1, e1, hi]
/-- Only those below i count, if none of the others writes to t. -/
theorem st_tm_cut {S : Nat → Bool} {t : Nat} {n : Nat} : ∀ m, n ≤ m → (∀ k, n ≤ k → k < m → S k = true → t ∉ (dstOf ops k).toList) → (stR ops es s0 S m).1 t = (stR ops es s0 S n).1 t := by
  intro m
  induction m with
  | zero => intro h _; obtain rfl : n = 0 := by omega
            rfl
  | succ m ih =>
    intro h hk
    by_cases e : n = m + 1
    · subst e; rfl
    · simp only [stR]
      have hi := ih (by omega) fun k h1 h2 => hk k h1 (by omega)
      split
      · rename_i hs
        rw [step_tm_ne (hk m (by omega) (by omega) hs), hi]
      · exact hi
theorem st_hp_cut {S : Nat → Bool} {t : Nat} {n : Nat} : ∀ m, n ≤ m → (∀ k, n ≤ k → k < m → S k = true → t ∉ (entOf es k).wL) → (stR ops es s0 S m).2 t = (stR ops es s0 S n).2 t := by
  intro m
  induction m with
  | zero => intro h _; obtain rfl : n = 0 := by omega
            rfl
  | succ m ih =>
    intro h hk
    by_cases e : n = m + 1
    · subst e; rfl
    · simp only [stR]
      have hi := ih (by omega) fun k h1 h2 => hk k h1 (by omega)
      split
      · rename_i hs
        rw [step_hp_ne (hk m (by omega) (by omega) hs), hi]
      · exact hi

structure ChkAt (ops : Array Oper) (es : List Ent) (pre : List (List Nat)) (N i : Nat) : Prop where
  dir : ∀ j ∈ direct ops i, j < i
  prc : ∀ k ∈ pre.getD i [], k ∈ direct ops i ∨ ∃ j ∈ direct ops i, k ∈ pre.getD j []
  dst : ∀ d ∈ (dstOf ops i).toList, d < N
  men : ∀ k, k < ops.size → k = i ∨ i ∈ pre.getD k [] ∨ disj (entOf es k).mL (entOf es i).newL = true
  ind : ∀ k, k < i → k ∈ pre.getD i [] ∨ indep ops es k i = true
theorem chk_at {pre : List (List Nat)} {N : Nat} (h : chk ops es pre N = true) (i : Nat) (hi : i < ops.size) : ChkAt ops es pre N i := by
  have h1 := (List.all_eq_true.1 h) i (List.mem_range.2 hi)
  simp only [Bool.and_eq_true, List.all_eq_true, List.mem_range, Bool.or_eq_true, List.contains_iff_mem, List.any_eq_true, beq_iff_eq, decide_eq_true_eq] at h1
  obtain ⟨⟨⟨⟨h1, h2⟩, h3⟩, h4⟩, h5⟩ := h1
  refine ⟨h1, h2, fun d hd => ?_, fun k hk => ?_, h5⟩
  · cases hdst : dstOf ops i with
    | none => rw [hdst] at hd; simp at hd
    | some x => rw [hdst] at hd h3; simp at hd h3; omega
  · rcases h4 k hk with h | h
    · rcases h with h | h
      · exact .inl h
      · exact .inr (.inl h)
    · exact .inr (.inr h)
theorem indep_wt {k i t : Nat} (h : indep ops es k i = true) (ht : t ∈ (dstOf ops k).toList) : t ∉ rTL ops i ∧ t ∉ (dstOf ops i).toList := by
  simp only [indep, Bool.and_eq_true] at h
  have := disj_spec h.1.1.1 ht
  simp only [List.mem_append, not_or] at this
  exact this
theorem indep_wt' {k i t : Nat} (h : indep ops es k i = true) (ht : t ∈ (dstOf ops i).toList) : t ∉ rTL ops k := by
  simp only [indep, Bool.and_eq_true] at h
  exact disj_spec h.1.1.2 ht
theorem indep_wh {k i t : Nat} (h : indep ops es k i = true) (ht : t ∈ (entOf es k).wL) : t ∉ (entOf es i).tL := by
  simp only [indep, Bool.and_eq_true] at h
  exact disj_spec h.1.2 ht
theorem indep_wh' {k i t : Nat} (h : indep ops es k i = true) (ht : t ∈ (entOf es i).wL) : t ∉ (entOf es k).tL := by
  simp only [indep, Bool.and_eq_true] at h
  exact disj_spec h.2 ht
theorem wL_tL {e : Ent} {t : Nat} (h : t ∈ e.wL) : t ∈ e.tL := by
  cases e with
  | run e b => exact List.mem_append.2 (.inr h)
  | skip => exact h

/-- One operation, in the order of the text: it runs, or its guard says no. -/
def EntOk (P : Program) (ops : Array Oper) (i : Nat) (tm : ATm) (hp : AHeap) : Ent → Prop
  | .run e base => ∀ o, ops[i]? = some o → OpT P o tm hp base e ∧ (o.guard = none ∨ ∃ j want d, o.guard = some (j, want) ∧ dstOf ops j = some d ∧ tm d = .sc (.raw (.bool want)))
  | .skip => ∀ o, ops[i]? = some o → ∃ j want d, o.guard = some (j, want) ∧ dstOf ops j = some d ∧ (tm d = .sc (.raw (.bool !want)) ∨ tm d = .sc (.raw undef))

theorem TSat.put {ρ ρ' : Ren} {N : Nat} {tm : ATm} {a : Act} (h : TSat ρ N tm a.tmps) (d : Option Nat) (hd : ∀ x ∈ d.toList, x < N) (v : Value) (av : AV)
    (hv : av = .junk ∨ v = av.den ρ') (hag : ∀ t, ∀ x ∈ (tm t).ids, ρ' x = ρ x) : TSat ρ' N (putT tm d av) (a.put d v).tmps := by
  cases d with
  | none => exact ⟨h.size, fun i => (h.val i).imp id fun e => by show a.tmps.getD i undef = _; rw [e]; exact (AV.den_congr _ (hag i)).symm⟩
  | some d =>
    have hdN : d < N := hd d (by simp)
    refine ⟨by simp [Act.put, h.size], fun i => ?_⟩
    simp only [putT, Act.put]
    by_cases e : i = d
    · subst e
      simp only [if_true]
      refine hv.imp id fun e => ?_
      rw [← e, Array.getD_eq_getD_getElem?, Array.getElem?_setIfInBounds_self_of_lt (by rw [h.size]; exact hdN)]; rfl
    · simp only [e, if_false]
      refine (h.val i).imp id fun e' => ?_
      rw [Array.getD_eq_getD_getElem?, Array.getElem?_setIfInBounds_ne (Ne.symm e), ← Array.getD_eq_getD_getElem?, e']
      exact (AV.den_congr _ (hag i)).symm

theorem Evals.ofEq {xs : List Operand} {tm tm' : ATm} (h : ∀ t ∈ tmpsOf xs, tm' t = tm t) {x : Operand} (hx : x ∈ xs) : evalO tm' x = evalO tm x := evalO_agree h hx

theorem mL_ids {e : Eff} {b : Nat} {x : Nat} (h : x ∈ e.val.ids) : x ∈ (Ent.run e b).mL := List.mem_append.2 (.inl h)
theorem mL_wL {e : Ent} {x : Nat} (h : x ∈ e.wL) : x ∈ e.mL := by
  cases e with
  | run e b => exact List.mem_append.2 (.inr (List.mem_append.2 (.inr (List.mem_append.2 (.inr h)))))
  | skip => exact h
/-- A block that an operation has laid names what the operation's list of names holds. -/
theorem mL_blk {e : Eff} {base i x : Nat} {hp : AHeap} {b : ABlk} (hi : i ∈ (Ent.run e base).wL) (hb : e.app base hp i = some b) (hx : x ∈ b.ms) : x ∈ (Ent.run e base).mL := by
  refine List.mem_append.2 (.inr ?_)
  unfold Eff.app at hb
  split at hb
  · refine List.mem_append.2 (.inr (List.mem_append.2 (.inl ?_)))
    refine List.mem_flatMap.2 ⟨some b, ?_, hx⟩
    cases hg : e.news[i - base]? with
    | none => rw [hg] at hb; simp at hb
    | some o => rw [hg] at hb; simp at hb; subst hb; exact List.mem_of_getElem? hg
  · rename_i hn
    simp only [Ent.wL, List.mem_append, mem_new] at hi
    obtain ⟨o, ho, hm⟩ := lookup_some (hi.resolve_left hn)
    rw [ho] at hb
    simp at hb
    subst hb
    obtain ⟨y, hy, hye⟩ := List.mem_map.1 hm
    exact List.mem_append.2 (.inl (List.mem_flatMap.2 ⟨y, hy, by rw [hye]; exact hx⟩))

section
variable {P : Program} {Q : Exit → Act → World → Prop} {pre : List (List Nat)} {N : Nat}
/-- The set is closed: with each operation those that lie ahead of it. -/
def Closed (pre : List (List Nat)) (S : Nat → Bool) : Prop := ∀ i, S i = true → ∀ k ∈ pre.getD i [], S k = true

theorem st_clean {S : Nat → Bool} {i : Nat} {base : Nat} {e : Eff} (hc : ∀ k, k < ops.size → ChkAt ops es pre N k) (hcl : Closed pre S) (hi : S i = false) (hin : i < ops.size)
    (he : entOf es i = .run e base) (h0 : Clean s0.1 s0.2 base e.news.length) : ∀ m, m ≤ ops.size → Clean (stR ops es s0 S m).1 (stR ops es s0 S m).2 base e.news.length := by
  intro m
  induction m with
  | zero => intro _; exact h0
  | succ m ih =>
    intro hm
    have h := ih (by omega)
    simp only [stR]
    split
    · rename_i hs
      have hmi : m ≠ i := fun e => by rw [e, hi] at hs; cases hs
      have hd : disj (entOf es m).mL (entOf es i).newL = true := by
        rcases (hc i hin).men m (by omega) with h | h | h
        · exact absurd h hmi
        · have := hcl m hs i h
          rw [hi] at this; cases this
        · exact h
      have hno : ∀ x, base ≤ x → x < base + e.news.length → x ∉ (entOf es m).mL := fun x h1 h2 hx => disj_spec hd hx (by rw [he]; exact mem_new.2 ⟨h1, h2⟩)
      intro x h1 h2
      obtain ⟨a1, a2, a3⟩ := h x h1 h2
      have hx := hno x h1 h2
      refine ⟨?_, ?_, ?_⟩
      · rw [step_hp_ne (fun hw => hx (mL_wL hw))]; exact a1
      · intro j b hb hxb
        by_cases hw : j ∈ (entOf es m).wL
        · unfold stepR at hb
          cases hem : entOf es m with
          | run e' b' =>
            rw [hem] at hb hw hx
            exact hx (mL_blk hw hb hxb)
          | skip => rw [hem] at hw; simp [Ent.wL] at hw
        · rw [step_hp_ne hw] at hb
          exact a2 j b hb hxb
      · intro t ht
        by_cases hw : t ∈ (dstOf ops m).toList
        · unfold stepR at ht
          cases hem : entOf es m with
          | run e' b' =>
            rw [hem] at ht hx
            have : putT (stR ops es s0 S m).1 (dstOf ops m) e'.val t = e'.val := by
              cases hd : dstOf ops m with
              | none => rw [hd] at hw; simp at hw
              | some d => rw [hd] at hw; simp at hw; simp [putT, hw]
            simp only [Ent.stm] at ht
            rw [this] at ht
            exact hx (mL_ids ht)
          | skip =>
            rw [hem] at ht
            have : putT (stR ops es s0 S m).1 (dstOf ops m) (.sc (.raw undef)) t = .sc (.raw undef) := by
              cases hd : dstOf ops m with
              | none => rw [hd] at hw; simp at hw
              | some d => rw [hd] at hw; simp at hw; simp [putT, hw]
            simp only [Ent.stm] at ht
            rw [this] at ht
            simp [AV.ids, SV.ids] at ht
        · rw [step_tm_ne hw] at ht
          exact a3 t ht
    · exact h

theorem yielded_of {ρ : Ren} {tm : ATm} {a : Act} (h : TSat ρ N tm a.tmps) {j d : Nat} (hd : dstOf ops j = some d) {v : Value} (hv : tm d = .sc (.raw v)) :
    yielded ops a.tmps j = match v with | .bool b => some b | _ => none := by
  have h1 : a.tmps.getD d undef = v := by
    rcases h.val d with h | h
    · rw [hv] at h; cases h
    · rw [h, hv]; rfl
  unfold yielded
  unfold dstOf at hd
  rw [hd]
  simp only [Option.bind_some]
  rw [Array.getD_eq_getD_getElem?] at h1
  cases hx : a.tmps[d]? with
  | none => rw [hx] at h1; simp [undef] at h1; subst h1; rfl
  | some y => rw [hx] at h1; simp at h1; subst h1; cases y <;> rfl

/-- From a set on: whatever of those that may go next goes next. -/
theorem region_from (hc : ∀ k, k < ops.size → ChkAt ops es pre N k)
    (hok : ∀ i, i < ops.size → EntOk P ops i (stR ops es s0 (fun _ => true) i).1 (stR ops es s0 (fun _ => true) i).2 (entOf es i))
    (h0 : ∀ i e b, i < ops.size → entOf es i = .run e b → Clean s0.1 s0.2 b e.news.length) {Γ : Ctx} (hn0 : ∀ i e b, i < ops.size → entOf es i = .run e b → Γ.n0 ≤ b)
    (hQ : ∀ ρ a w, Sat Γ ρ (stR ops es s0 (fun _ => true) ops.size).2 w → TSat ρ N (stR ops es s0 (fun _ => true) ops.size).1 a.tmps → a.defers = [] → Q .normal a w) :
    ∀ (fuel : Nat) (listed : Array Bool) (ρ : Ren) (a : Act) (w : World), listed.size = ops.size →
      (List.range ops.size).countP (fun k => !listed.getD k false) = fuel → Closed pre (fun k => listed.getD k false) →
      Sat Γ ρ (stR ops es s0 (fun k => listed.getD k false) ops.size).2 w → TSat ρ N (stR ops es s0 (fun k => listed.getD k false) ops.size).1 a.tmps → a.defers = [] →
      wpAny P .any ops Q fuel listed a w := by
  -- those that are ready
  have hready : ∀ (listed : Array Bool) i, listed.size = ops.size → i ∈ Region.ready .any ops listed → i < ops.size ∧ listed.getD i false = false ∧ ∀ j ∈ direct ops i, listed.getD j false = true := by
    intro listed i hsz hi
    obtain ⟨h1, o, ho, hall⟩ := mem_ready.1 hi
    have hlt : i < ops.size := (Array.getElem?_eq_some_iff.1 ho).1
    refine ⟨hlt, ?_, fun j hj => ?_⟩
    · rw [Array.getD_eq_getD_getElem?] at h1 ⊢
      have : i < listed.size := by omega
      simp [this] at h1 ⊢; exact h1
    · unfold direct at hj
      rw [ho] at hj
      obtain ⟨e, he, rfl⟩ := List.mem_map.1 hj
      obtain ⟨he1, he2⟩ := List.mem_filter.1 he
      exact hall e (Array.mem_toList_iff.1 he1) he2
  -- if none is ready all are done
  have hdone : ∀ (listed : Array Bool), listed.size = ops.size → Region.ready .any ops listed = [] → ∀ k, k < ops.size → listed.getD k false = true := by
    intro listed hsz hr k
    induction k using Nat.strongRecOn with
    | _ k ih =>
      intro hk
      cases hl : listed.getD k false with
      | true => rfl
      | false =>
        exfalso
        have : k ∈ Region.ready .any ops listed := by
          rw [mem_ready]
          refine ⟨?_, ops[k], by simp [hk], fun e he hb => ?_⟩
          · rw [Array.getD_eq_getD_getElem?] at hl ⊢
            have : k < listed.size := by omega
            simp [this] at hl ⊢; exact hl
          · have hd : e.on ∈ direct ops k := by
              unfold direct
              rw [Array.getElem?_eq_getElem hk]
              exact List.mem_map.2 ⟨e, List.mem_filter.2 ⟨Array.mem_toList_iff.2 he, hb⟩, rfl⟩
            have := (hc k hk).dir _ hd
            exact ih e.on this (by omega)
        rw [hr] at this
        cases this
  have hfin : ∀ (listed : Array Bool) (ρ : Ren) (a : Act) (w : World), listed.size = ops.size → Region.ready .any ops listed = [] →
      Sat Γ ρ (stR ops es s0 (fun k => listed.getD k false) ops.size).2 w → TSat ρ N (stR ops es s0 (fun k => listed.getD k false) ops.size).1 a.tmps → a.defers = [] → Q .normal a w := by
    intro listed ρ a w hsz hr hs ht hd
    have hall := hdone listed hsz hr
    have e1 : (stR ops es s0 (fun k => listed.getD k false) ops.size).2 = (stR ops es s0 (fun _ => true) ops.size).2 := funext fun t => st_hp_agree _ fun k hk _ => hall k hk
    have e2 : (stR ops es s0 (fun k => listed.getD k false) ops.size).1 = (stR ops es s0 (fun _ => true) ops.size).1 := funext fun t => st_tm_agree _ fun k hk _ => hall k hk
    exact hQ ρ a w (e1 ▸ hs) (e2 ▸ ht) hd
  intro fuel
  induction fuel with
  | zero =>
    intro listed ρ a w hsz hcnt hcl hs ht hd
    have hr : Region.ready .any ops listed = [] := by
      cases hrr : Region.ready .any ops listed with
      | nil => rfl
      | cons i l =>
        exfalso
        obtain ⟨h1, h2, _⟩ := hready listed i hsz (by rw [hrr]; simp)
        have := List.countP_eq_zero.1 hcnt i (List.mem_range.2 h1)
        rw [h2] at this
        simp at this
    exact ⟨hr, hfin listed ρ a w hsz hr hs ht hd⟩
  | succ fuel ih =>
    intro listed ρ a w hsz hcnt hcl hs ht hd
    refine ⟨fun hr => hfin listed ρ a w hsz hr hs ht hd, fun i hi => ?_⟩
    obtain ⟨hin, hif, hdir⟩ := hready listed i hsz hi
    have hC := hc i hin
    -- what lies ahead of i is done
    have hpre : ∀ k ∈ pre.getD i [], listed.getD k false = true := by
      intro k hk
      rcases hC.prc k hk with h | ⟨j, hj, hkj⟩
      · exact hdir k h
      · exact hcl j (hdir j hj) k hkj
    -- those that are done and stand apart
    have hap : ∀ k, k < ops.size → listed.getD k false = true → i < k → indep ops es i k = true := by
      intro k hk hl hik
      rcases (hc k hk).ind i hik with h | h
      · have h9 : listed.getD i false = true := hcl k hl i h
        rw [hif] at h9; cases h9
      · exact h
    have hap' : ∀ k, k < i → listed.getD k false = false → indep ops es k i = true := by
      intro k hk hl
      rcases hC.ind k hk with h | h
      · rw [hpre k h] at hl; cases hl
      · exact h
    have key_t : ∀ t, t ∈ rTL ops i ∨ t ∈ (dstOf ops i).toList → (stR ops es s0 (fun k => listed.getD k false) ops.size).1 t = (stR ops es s0 (fun _ => true) i).1 t := by
      intro t htt
      rw [st_tm_cut (n := i) ops.size (by omega) fun k hk1 hk2 hks hw => ?_]
      · refine st_tm_agree _ fun k hk hw => ?_
        cases hl : listed.getD k false with
        | true => rfl
        | false => exact absurd (htt.elim id fun h => absurd h (indep_wt (hap' k hk hl) hw).2) (indep_wt (hap' k hk hl) hw).1
      · by_cases e : k = i
        · subst e; rw [hif] at hks; cases hks
        · have := hap k hk2 hks (by omega)
          rcases htt with h | h
          · exact indep_wt' this hw h
          · exact (indep_wt this h).2 hw
    have key_h : ∀ t, t ∈ (entOf es i).tL → (stR ops es s0 (fun k => listed.getD k false) ops.size).2 t = (stR ops es s0 (fun _ => true) i).2 t := by
      intro t htt
      rw [st_hp_cut (n := i) ops.size (by omega) fun k hk1 hk2 hks hw => ?_]
      · refine st_hp_agree _ fun k hk hw => ?_
        cases hl : listed.getD k false with
        | true => rfl
        | false => exact absurd htt (indep_wh (hap' k hk hl) hw)
      · by_cases e : k = i
        · subst e; rw [hif] at hks; cases hks
        · exact indep_wh' (hap k hk2 hks (by omega)) hw htt
    -- behind i
    have hset : ∀ k, (listed.setIfInBounds i true).getD k false = (if k = i then true else listed.getD k false) := by
      intro k
      by_cases e : k = i
      · subst e
        rw [Array.getD_eq_getD_getElem?, Array.getElem?_setIfInBounds_self_of_lt (by omega)]; simp
      · rw [Array.getD_eq_getD_getElem?, Array.getElem?_setIfInBounds_ne (Ne.symm e), ← Array.getD_eq_getD_getElem?]; simp [e]
    have hsz' : (listed.setIfInBounds i true).size = ops.size := by simp [hsz]
    have hcnt' : (List.range ops.size).countP (fun k => !(listed.setIfInBounds i true).getD k false) = fuel := by
      have hset' : (fun k => !(listed.setIfInBounds i true).getD k false) = (fun k => (!listed.getD k false) && (k != i)) := by
        funext k
        rw [hset]
        by_cases e : k = i
        · simp [e]
        · simp [e]
      rw [hset']
      have hsplit : (List.range ops.size).countP (fun k => !listed.getD k false) = (List.range ops.size).countP (fun k => (!listed.getD k false) && (k != i)) + 1 := by
        clear hcnt
        have gen : ∀ n, i < n → (List.range n).countP (fun k => !listed.getD k false) = (List.range n).countP (fun k => (!listed.getD k false) && (k != i)) + 1 := by
          intro n
          induction n with
          | zero => intro h; omega
          | succ n ihn =>
            intro h
            rw [List.range_succ, List.countP_append, List.countP_append]
            by_cases e : n = i
            · subst e
              have : (List.range n).countP (fun k => !listed.getD k false) = (List.range n).countP (fun k => (!listed.getD k false) && (k != n)) := by
                apply List.countP_congr
                intro k hk
                have hk' := List.mem_range.1 hk
                have hkn : k ≠ n := by omega
                simp [hkn]
              rw [this]
              have hif' : listed[n]?.getD false = false := by rw [← Array.getD_eq_getD_getElem?]; exact hif
              simp [hif']
            · rw [ihn (by omega)]
              simp [e]; omega
        exact gen _ hin
      omega
    have hcl' : Closed pre (fun k => (listed.setIfInBounds i true).getD k false) := by
      intro j hj k hk
      simp only [hset] at hj ⊢
      split
      · rfl
      · split at hj
        · rename_i e1 e2; subst e2; exact hpre k hk
        · exact hcl j hj k hk
    have nxt_t : ∀ t, (stR ops es s0 (fun k => (listed.setIfInBounds i true).getD k false) ops.size).1 t = (stepR ops es i (stR ops es s0 (fun k => listed.getD k false) ops.size)).1 t := by
      intro t
      by_cases hw : t ∈ (dstOf ops i).toList
      · rw [st_tm_cut (n := i + 1) ops.size (by omega) fun k hk1 hk2 hks hw' => ?_]
        · show (if (listed.setIfInBounds i true).getD i false = true then _ else _ : ATm × AHeap).1 t = _
          rw [hset, if_pos rfl, if_pos rfl]
          exact step_tm_eq hw
        · simp only [hset] at hks
          rw [if_neg (by omega)] at hks
          exact (indep_wt (hap k hk2 hks (by omega)) hw).2 hw'
      · rw [step_tm_ne hw]
        refine st_tm_agree _ fun k hk hk' => ?_
        simp only [hset]
        split
        · rename_i e; subst e; exact absurd hk' hw
        · rfl
    have nxt_h : ∀ t, (stR ops es s0 (fun k => (listed.setIfInBounds i true).getD k false) ops.size).2 t = (stepR ops es i (stR ops es s0 (fun k => listed.getD k false) ops.size)).2 t := by
      intro t
      by_cases hw : t ∈ (entOf es i).wL
      · rw [st_hp_cut (n := i + 1) ops.size (by omega) fun k hk1 hk2 hks hw' => ?_]
        · show (if (listed.setIfInBounds i true).getD i false = true then _ else _ : ATm × AHeap).2 t = _
          rw [hset, if_pos rfl, if_pos rfl]
          exact step_hp_eq hw
        · simp only [hset] at hks
          rw [if_neg (by omega)] at hks
          exact indep_wh (hap k hk2 hks (by omega)) hw (wL_tL hw')
      · rw [step_hp_ne hw]
        refine st_hp_agree _ fun k hk hk' => ?_
        simp only [hset]
        split
        · rename_i e; subst e; exact absurd hk' hw
        · rfl
    have e_t := funext nxt_t
    have e_h := funext nxt_h
    have hnext : ∀ ρ' a' w', Sat Γ ρ' (stepR ops es i (stR ops es s0 (fun k => listed.getD k false) ops.size)).2 w' → TSat ρ' N (stepR ops es i (stR ops es s0 (fun k => listed.getD k false) ops.size)).1 a'.tmps →
        a'.defers = [] → wpAny P .any ops Q fuel (listed.setIfInBounds i true) a' w' := fun ρ' a' w' h1 h2 h3 =>
      ih _ ρ' a' w' hsz' hcnt' hcl' (by rw [e_h]; exact h1) (by rw [e_t]; exact h2) h3
    have hokI := hok i hin
    have ho : ops[i]? = some ops[i] := by simp [hin]
    have hdN := hC.dst
    have hdst : dstOf ops i = ops[i].dst := by unfold dstOf; rw [ho]; rfl
    unfold wpOp
    rw [ho]
    simp only []
    have hput : ∀ v, (a.put ops[i].dst v).defers = [] := fun v => by
      unfold Act.put; cases ops[i].dst <;> exact hd
    have gmem : ∀ j want d, ops[i].guard = some (j, want) → dstOf ops j = some d → d ∈ rTL ops i := by
      intro j want d hg hdd
      unfold rTL guardT
      rw [ho]
      simp only [Option.bind_some, hg, hdd]
      simp
    cases hent : entOf es i with
    | run e base =>
      rw [hent] at hokI
      obtain ⟨hT, hG⟩ := hokI _ ho
      have hw : Region.wanted ops[i] (yielded ops a.tmps) = true := by
        unfold Region.wanted
        rcases hG with hG | ⟨j, want, d, hG, hdd, hv⟩
        · rw [hG]
        · rw [hG]
          simp only []
          rw [yielded_of ht hdd (v := .bool want) (by rw [key_t d (.inl (gmem j want d hG hdd))]; exact hv)]
          simp
      rw [if_pos hw]
      refine .inl ?_
      refine hT (stR ops es s0 (fun k => listed.getD k false) ops.size).1 (stR ops es s0 (fun k => listed.getD k false) ops.size).2 (fun t htt => key_t t (.inl ?_)) (fun id hid => key_h id ?_) (st_clean hc hcl hif hin hent (h0 i e base hin hent) _ (Nat.le_refl _)) Γ ρ N w a (hn0 i e base hin hent) hs ht _ Q ?_
      · unfold rTL; rw [ho]; exact List.mem_append.2 (.inl htt)
      · rw [hent]; exact List.mem_append.2 (.inl hid)
      · intro ρ' v w' h1 h2 h3
        have hcln := st_clean hc hcl hif hin hent (h0 i e base hin hent) ops.size (Nat.le_refl _)
        refine hnext ρ' _ w' ?_ ?_ (hput v)
        · unfold stepR; rw [hent]; exact h3
        · unfold stepR; rw [hent]
          simp only [Ent.stm]
          rw [← hdst]
          refine ht.put _ hdN v _ h2 fun t x hx => h1 x fun hb => ?_
          exact (hcln x hb.1 hb.2).2.2 t hx
    | skip =>
      rw [hent] at hokI
      obtain ⟨j, want, d, hG, hdd, hv⟩ := hokI _ ho
      have hw : ¬ Region.wanted ops[i] (yielded ops a.tmps) = true := by
        unfold Region.wanted
        rw [hG]
        simp only []
        rcases hv with hv | hv
        · rw [yielded_of ht hdd (v := .bool !want) (by rw [key_t d (.inl (gmem j want d hG hdd))]; exact hv)]
          simp
        · rw [yielded_of ht hdd (v := undef) (by rw [key_t d (.inl (gmem j want d hG hdd))]; exact hv)]
          simp [undef]
      rw [if_neg hw]
      refine hnext ρ _ w ?_ ?_ (hput _)
      · unfold stepR; rw [hent]; exact hs
      · unfold stepR; rw [hent]
        simp only [Ent.stm]
        rw [← hdst]
        exact ht.put _ hdN undef _ (.inr rfl) fun t x hx => rfl
end
end
end Go.Proofs.Ytdmcbfmpnakdfaa.Eng
