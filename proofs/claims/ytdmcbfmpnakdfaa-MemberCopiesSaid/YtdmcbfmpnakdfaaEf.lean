/- States seen as others; loops; the contract of a function out of its code. -/
import Derived.Test.YtdmcbfmpnakdfaaEe
import Derived.OwnWalk
namespace Go.Proofs.Ytdmcbfmpnakdfaa.Eng
open Go

mutual
theorem SV.ren_id : ∀ (v : SV), v.ren (fun i => i) = v
  | .raw _ | .ptr .. | .ptrB .. | .sl .. | .mp _ => rfl
  | .fn f a b => by simp only [SV.ren, SV.rens_id a, SV.rens_id b]
  | .ifc t v => by simp only [SV.ren, SV.ren_id v]
theorem SV.rens_id : ∀ (l : List SV), SV.rens (fun i => i) l = l
  | [] => rfl
  | v :: l => by simp only [SV.rens, SV.ren_id v, SV.rens_id l]
end
theorem Segs.ren_id : ∀ (s : Segs), Segs.ren (fun i => i) s = s
  | [] => rfl
  | .one v :: l => by simp only [Segs.ren, Seg.ren, SV.ren_id, Segs.ren_id l]
  | .byt n b :: l => by simp only [Segs.ren, Seg.ren, Segs.ren_id l]
  | .raw r :: l => by simp only [Segs.ren, Seg.ren, Segs.ren_id l]
mutual
theorem AV.ren_id : ∀ (v : AV), v.ren (fun i => i) = v
  | .junk => rfl
  | .sc v => by simp only [AV.ren, SV.ren_id]
  | .agg s => by simp only [AV.ren, Segs.ren_id]
  | .tup l => by simp only [AV.ren, AV.rens_id l]
theorem AV.rens_id : ∀ (l : List AV), AV.rens (fun i => i) l = l
  | [] => rfl
  | v :: l => by simp only [AV.rens, AV.ren_id v, AV.rens_id l]
end
theorem ABlk.ren_id (b : ABlk) : b.ren (fun i => i) = b := by
  cases b with
  | row md t sz L ms =>
    cases ms with
    | nil => rfl
    | cons m ms => simp only [ABlk.ren, List.map_id', ABlk.row.injEq, true_and, and_true]; exact List.map_id'' Segs.ren_id L
  | map es ms =>
    cases ms with
    | nil => rfl
    | cons m ms =>
      simp only [ABlk.ren, List.map_id', ABlk.map.injEq, and_true]
      refine List.map_id'' (fun e => ?_) es
      obtain ⟨a, b⟩ := e
      simp only [SV.ren_id, AV.ren_id]

theorem Sat.reid {Γ : Ctx} {ρ : Ren} {hp hp' : AHeap} {w : World} {s : Nat → Nat} (h : Sat Γ ρ hp w) (hpre : ∀ i b, hp' i = some b → hp (s i) = some (b.ren s) ∧ (b.wfB = true ∨ s = fun i => i))
    (hinj : ∀ i j a b, hp' i = some a → hp' j = some b → s i = s j → i = j) (hfix : ∀ i, i < Γ.n0 → s i = i) : Sat Γ (fun i => ρ (s i)) hp' w where
  blk i b hb := by
    have h1 := h.blk _ _ (hpre i b hb).1
    rcases (hpre i b hb).2 with h2 | h2
    · exact BlkSat.unren h2 h1
    · subst h2; rw [ABlk.ren_id] at h1; exact h1
  inj i j a b ha hb haw hij := hinj i j a b ha hb (h.inj _ _ _ _ (hpre i a ha).1 (hpre j b hb).1 (by rw [ABlk.ren_w]; exact haw) hij)
  foot i a ha haw hlt := h.foot _ _ (hpre i a ha).1 (by rw [ABlk.ren_w]; exact haw) hlt
  frame := h.frame
  size := h.size
  os := h.os
  tape := h.tape
  output := h.output
  fix i hi := by rw [hfix i hi]; exact h.fix i hi

theorem TSat.reid {ρ : Ren} {N : Nat} {tm tm' : ATm} {tmps : Array Value} {s : Nat → Nat} (h : TSat ρ N tm tmps) (ht : ∀ i, tm' i = .junk ∨ tm i = (tm' i).ren s) : TSat (fun i => ρ (s i)) N tm' tmps where
  size := h.size
  val i := by
    rcases ht i with h1 | h1
    · exact .inl h1
    · rcases h.val i with h2 | h2
      · rw [h2] at h1
        left
        cases hx : tm' i <;> rw [hx] at h1 <;> first | rfl | (simp [AV.ren] at h1)
      · right; rw [h2, h1, AV.den_ren]

section
variable {P : Program} {n : Nat} {l : LTm} {h : LHp} {Q : Post}
theorem CodeT.weaken {c : Code} {l0 : LTm} {h0 : LHp} (s : Nat → Nat) (hs : StW n s l h l0 h0) (hc : CodeT P n c l0 h0 Q) : CodeT P n c l h Q := by
  intro Γ ρ w a hg hn hsat ht hd
  have := hc Γ (fun i => ρ (s i)) w a hg hs.hn (hsat.reid hs.hp hs.inj (by rw [hg]; exact hs.fix)) (by rw [hs.len]; exact ht.reid hs.tm) hd
  rw [hs.len] at this
  exact this

/-- A loop over what X says: the state at each round's head is one of some x's; the measure goes down. -/
theorem CodeT.loop {c : Code} {X : Type} (I : X → LTm × LHp) (μ : X → Nat) (x0 : X) (s0 : Nat → Nat) (h0 : StW n s0 l h (I x0).1 (I x0).2)
    (round : ∀ x, CodeT P n c (I x).1 (I x).2 (fun e l' h' => match e with
      | .normal => ∃ x' s, StW n s l' h' (I x').1 (I x').2 ∧ μ x' < μ x
      | e => Q e l' h')) (hlen : ∀ x, (I x).1.length = l.length) : CodeT P n (.loop c) l h Q := by
  intro Γ ρ w a hg hn hs ht hd
  have key : ∀ (m : Nat) (b : Frame) (k : List Item) (cs : List Frame) (x : X) (ρ : Ren) (w : World) (a : Act), μ x = m → n ≤ (I x).2.length → Sat Γ ρ (hpL (I x).2) w → TSat ρ l.length (tmL (I x).1) a.tmps → a.defers = [] →
      ∃ e a' w', (∃ ρ' l' h', l'.length = l.length ∧ n ≤ h'.length ∧ Sat Γ ρ' (hpL h') w' ∧ TSat ρ' l.length (tmL l') a'.tmps ∧ a'.defers = [] ∧ Q e l' h') ∧
        Arrives P (lone (b.at a (.code c :: .inLoop c :: k)) cs w) b k cs e a' w' := by
    intro m b k cs
    induction m using Nat.strongRecOn with
    | _ m ih =>
      intro x ρ w a hμ hn hs ht hd
      obtain ⟨e, a1, w1, ⟨ρ1, l1, h1, g1, g2, g3, g4, g5, g6⟩, harr⟩ := round x Γ ρ w a hg hn hs (by rw [hlen]; exact ht) hd b (.inLoop c :: k) cs
      rw [hlen] at g1 g4
      cases e with
      | normal =>
        obtain ⟨x', s, hw, hlt⟩ := g6
        obtain ⟨e2', a2, w2, hq2, harr2⟩ := ih (μ x') (hμ ▸ hlt) x' (fun i => ρ1 (s i)) w1 a1 rfl hw.hn (g3.reid hw.hp hw.inj (by rw [hg]; exact hw.fix)) (g4.reid hw.tm) g5
        exact ⟨e2', a2, w2, hq2, .of_steps (Steps.trans harr (.one step_inLoop)) harr2⟩
      | exit id => exact ⟨_, a1, w1, ⟨ρ1, l1, h1, g1, g2, g3, g4, g5, g6⟩, .pass (x := .inLoop c) rfl (fun _ _ => .inl (by simp)) harr⟩
      | goto l => exact ⟨_, a1, w1, ⟨ρ1, l1, h1, g1, g2, g3, g4, g5, g6⟩, .pass (x := .inLoop c) rfl (fun _ _ => .inl (by simp)) harr⟩
      | ret => exact ⟨_, a1, w1, ⟨ρ1, l1, h1, g1, g2, g3, g4, g5, g6⟩, .pass (x := .inLoop c) rfl (fun _ _ => .inl (by simp)) harr⟩
      | panic ch => exact ⟨_, a1, w1, ⟨ρ1, l1, h1, g1, g2, g3, g4, g5, g6⟩, .pass (x := .inLoop c) rfl (fun _ _ => .inl (by simp)) harr⟩
      | outgrown => exact ⟨_, a1, w1, ⟨ρ1, l1, h1, g1, g2, g3, g4, g5, g6⟩, .pass (x := .inLoop c) rfl (fun _ _ => .inl (by simp)) harr⟩
  intro b k cs
  obtain ⟨e, a', w', hq, harr⟩ := key _ b k cs x0 (fun i => ρ (s0 i)) w a rfl h0.hn (hs.reid h0.hp h0.inj (by rw [hg]; exact h0.fix)) (ht.reid h0.tm) hd
  exact ⟨e, a', w', hq, .of_steps (.one step_loop) harr⟩
end

/-- What a function's result variables read as. -/
def ResT (P : Program) (fn : Func) (l : LTm) (h : LHp) (rv : AV) : Prop :=
  ∀ (Γ : Ctx) (ρ : Ren) (w : World) (tmps : Array Value), Sat Γ ρ (hpL h) w → TSat ρ l.length (tmL l) tmps → ∃ v, (results fn tmps).run P w = .ok v w ∧ (rv = .junk ∨ v = rv.den ρ)
/-- A function comes back: its result is r, its blocks are those of h'. -/
structure RetS (P : Program) (fn : Func) (n : Nat) (r : AV) (h' : LHp) (e : Exit) (l : LTm) (h : LHp) : Prop where
  he : e = .normal ∨ e = .ret
  ex : ∃ rv s, ResT P fn l h rv ∧ (r = .junk ∨ rv = r.ren s) ∧ StW n s [] h [] h'
def retQ (P : Program) (fn : Func) (n : Nat) (r : AV) (h' : LHp) : Post := fun e l h => RetS P fn n r h' e l h

/-- The state seen as one of fewer blocks. -/
def pickH (h : LHp) (s : Nat → Nat) : Nat → LHp → LHp
  | _, [] => []
  | i, none :: r => none :: pickH h s (i + 1) r
  | i, some _ :: r => hpL h (s i) :: pickH h s (i + 1) r
def renH (π : Nat → Nat) : LHp → LHp
  | [] => []
  | none :: hs => none :: renH π hs
  | some b :: hs => some (b.ren π) :: renH π hs
def maskT : LTm → LTm → LTm
  | [], [] => []
  | _ :: us, .junk :: vs => .junk :: maskT us vs
  | u :: us, _ :: vs => u :: maskT us vs
  | _ :: _, [] => [.junk]
  | [], _ :: _ => []
def renT (s : Nat → Nat) : LTm → LTm
  | [] => []
  | v :: vs => v.ren s :: renT s vs
def wfH (h0 : LHp) : Bool := h0.all fun b => match b with
  | some b => b.wfB
  | none => true
def sL (σ : List Nat) : Nat → Nat := fun i => σ.getD i i
def nodupB' : List Nat → Bool
  | [] => true
  | x :: l => !l.contains x && nodupB' l
def stB (n : Nat) (σ : List Nat) (h0 : LHp) : Bool := decide (n ≤ h0.length) && (List.range n).all (fun i => sL σ i == i) && wfH h0 && nodupB' ((List.range h0.length).map (sL σ))
theorem nodupB'_spec : ∀ {l : List Nat}, nodupB' l = true → ∀ i j, i < l.length → j < l.length → l.getD i 0 = l.getD j 0 → i = j
  | [], _, i, _, hi, _, _ => by simp at hi
  | x :: l, h, i, j, hi, hj, he => by
    simp only [nodupB', Bool.and_eq_true, Bool.not_eq_true', List.contains_eq_mem, decide_eq_false_iff_not] at h
    have hm : ∀ k, k < l.length → l.getD k 0 ∈ l := fun k hk => by rw [List.getD_eq_getElem?_getD, List.getElem?_eq_getElem hk]; exact List.getElem_mem hk
    cases i with
    | zero => cases j with
      | zero => rfl
      | succ j =>
        exfalso
        simp only [List.length_cons] at hj
        have h1 := hm j (by omega)
        have : x = l.getD j 0 := by simpa using he
        rw [← this] at h1; exact h.1 h1
    | succ i => cases j with
      | zero =>
        exfalso
        simp only [List.length_cons] at hi
        have h1 := hm i (by omega)
        have : l.getD i 0 = x := by simpa using he
        rw [this] at h1; exact h.1 h1
      | succ j =>
        simp only [List.length_cons] at hi hj
        have := nodupB'_spec h.2 i j (by omega) (by omega) (by simpa using he)
        omega
theorem pickH_spec {h : LHp} {s : Nat → Nat} : ∀ {j : Nat} {h0 : LHp}, pickH h s j h0 = renH s h0 → ∀ i b, hpL h0 i = some b → hpL h (s (j + i)) = some (b.ren s)
  | j, [], _, i, b, hb => by simp [hpL] at hb
  | j, none :: r, hk, 0, b, hb => by simp [hpL] at hb
  | j, some x :: r, hk, 0, b, hb => by
    simp only [pickH, renH, List.cons.injEq] at hk
    simp [hpL] at hb; subst hb; exact hk.1
  | j, none :: r, hk, i + 1, b, hb => by
    simp only [pickH, renH, List.cons.injEq, true_and] at hk
    have := pickH_spec (j := j + 1) (h0 := r) hk i b (by simpa [hpL] using hb)
    rwa [show j + 1 + i = j + (i + 1) by omega] at this
  | j, some x :: r, hk, i + 1, b, hb => by
    simp only [pickH, renH, List.cons.injEq] at hk
    have := pickH_spec (j := j + 1) (h0 := r) hk.2 i b (by simpa [hpL] using hb)
    rwa [show j + 1 + i = j + (i + 1) by omega] at this
theorem maskT_spec {s : Nat → Nat} : ∀ {l l0 : LTm}, maskT l l0 = renT s l0 → l0.length = l.length ∧ ∀ i, tmL l0 i = .junk ∨ tmL l i = (tmL l0 i).ren s
  | [], [], _ => ⟨rfl, fun i => .inl rfl⟩
  | [], v :: vs, h => by cases v <;> simp [maskT, renT] at h
  | _ :: _, [], h => by simp [maskT, renT] at h
  | u :: us, v :: vs, h => by
    have h' : (v = .junk ∨ u = v.ren s) ∧ maskT us vs = renT s vs := by
      cases v with
      | junk => simp only [maskT, renT, List.cons.injEq] at h; exact ⟨.inl rfl, h.2⟩
      | sc w => simp only [maskT, renT, List.cons.injEq] at h; exact ⟨.inr h.1, h.2⟩
      | agg w => simp only [maskT, renT, List.cons.injEq] at h; exact ⟨.inr h.1, h.2⟩
      | tup w => simp only [maskT, renT, List.cons.injEq] at h; exact ⟨.inr h.1, h.2⟩
    obtain ⟨h1, h2⟩ := maskT_spec h'.2
    refine ⟨by simp [h1], fun i => ?_⟩
    cases i with
    | zero => simpa [tmL] using h'.1
    | succ i => simpa [tmL] using h2 i
theorem StW.of {n : Nat} (σ : List Nat) {l l0 : LTm} {h h0 : LHp} (hB : stB n σ h0 = true) (ht : maskT l l0 = renT (sL σ) l0) (hs : pickH h (sL σ) 0 h0 = renH (sL σ) h0) : StW n (sL σ) l h l0 h0 := by
  simp only [stB, Bool.and_eq_true, decide_eq_true_eq, List.all_eq_true, List.mem_range, beq_iff_eq] at hB
  obtain ⟨⟨⟨b1, b2⟩, b4⟩, b3⟩ := hB
  obtain ⟨t1, t2⟩ := maskT_spec ht
  refine ⟨t1, b1, b2, t2, fun i b hi => ?_, fun i j a b hi hj hij => ?_⟩
  · have := pickH_spec hs i b hi
    rw [Nat.zero_add] at this
    refine ⟨this, .inl ?_⟩
    have hm : some b ∈ h0 := by
      unfold hpL at hi
      rw [List.getD_eq_getElem?_getD] at hi
      cases hg : h0[i]? with
      | none => rw [hg] at hi; simp at hi
      | some o => rw [hg] at hi; simp at hi; subst hi; exact List.mem_of_getElem? hg
    exact (List.all_eq_true.1 b4) _ hm
  · have hi' := hpL_lt hi
    have hj' := hpL_lt hj
    refine nodupB'_spec b3 i j (by simpa using hi') (by simpa using hj') ?_
    simp only [List.getD_eq_getElem?_getD, List.getElem?_map, List.getElem?_range hi', List.getElem?_range hj', Option.map_some, Option.getD_some]
    exact hij
/-- The same ids. -/
def maskH : LHp → LHp → LHp
  | _, [] => []
  | [], none :: r => none :: maskH [] r
  | [], some _ :: _ => []
  | _ :: h, none :: r => none :: maskH h r
  | a :: h, some _ :: r => a :: maskH h r
theorem maskH_spec : ∀ {h h0 : LHp}, maskH h h0 = h0 → ∀ i b, hpL h0 i = some b → hpL h i = some b
  | _, [], _, i, b, hb => by simp [hpL] at hb
  | [], none :: r, hk, 0, b, hb => by simp [hpL] at hb
  | [], none :: r, hk, i + 1, b, hb => by
    simp only [maskH, List.cons.injEq, true_and] at hk
    have := maskH_spec (h := []) (h0 := r) hk i b (by simpa [hpL] using hb)
    simp [hpL] at this
  | [], some _ :: _, hk, _, _, _ => by simp [maskH] at hk
  | _ :: h, none :: r, hk, 0, b, hb => by simp [hpL] at hb
  | _ :: h, none :: r, hk, i + 1, b, hb => by
    simp only [maskH, List.cons.injEq, true_and] at hk
    simpa [hpL] using maskH_spec (h := h) (h0 := r) hk i b (by simpa [hpL] using hb)
  | a :: h, some x :: r, hk, 0, b, hb => by
    simp only [maskH, List.cons.injEq] at hk
    simp [hpL] at hb; subst hb; simp [hpL, hk.1]
  | a :: h, some x :: r, hk, i + 1, b, hb => by
    simp only [maskH, List.cons.injEq] at hk
    simpa [hpL] using maskH_spec (h := h) (h0 := r) hk.2 i b (by simpa [hpL] using hb)
theorem renT_id : ∀ l : LTm, renT (fun i => i) l = l
  | [] => rfl
  | v :: vs => by simp only [renT, AV.ren_id, renT_id vs]
theorem StW.same {n : Nat} {l l0 : LTm} {h h0 : LHp} (hn : n ≤ h0.length) (ht : maskT l l0 = l0) (hs : maskH h h0 = h0) : StW n (fun i => i) l h l0 h0 := by
  obtain ⟨t1, t2⟩ := maskT_spec (s := fun i => i) (by rw [renT_id]; exact ht)
  exact ⟨t1, hn, fun _ _ => rfl, t2, fun i b hi => ⟨by rw [ABlk.ren_id]; exact maskH_spec hs i b hi, .inr rfl⟩, fun i j a b _ _ h => h⟩

theorem FunT.of_code {P : Program} {f : FuncId} {fn : Func} {c : Code} {args : List AV} {h : LHp} {r : AV} {h' : LHp} (hf : P.funcs[f]? = some fn) (hb : fn.body = some c)
    (hc : CodeT P h.length c (args ++ List.replicate (fn.ntmps - args.length) (.sc (.raw undef))) h (retQ P fn h.length r h')) : FunT P f args h r h' := by
  intro Γ ρ w hg hs
  refine calls_of_wp hf hb ?_
  have hlen : ∀ l : List AV, (AV.dens ρ l).length = l.length := by
    intro l; induction l with
    | nil => rfl
    | cons x l ih => simp [AV.dens, ih]
  have happ : ∀ l m : List AV, AV.dens ρ (l ++ m) = AV.dens ρ l ++ AV.dens ρ m := by
    intro l m; induction l with
    | nil => rfl
    | cons x l ih => simp only [List.cons_append, AV.dens, ih]
  have hrep : ∀ k, AV.dens ρ (List.replicate k (.sc (.raw undef))) = List.replicate k undef := by
    intro k; induction k with
    | zero => rfl
    | succ k ih => simp only [List.replicate_succ, AV.dens, ih]; rfl
  have hget : ∀ (l : List AV) i, (AV.dens ρ l).getD i undef = (l.getD i .junk).den ρ := by
    intro l; induction l with
    | nil => intro i; simp [AV.dens, AV.den]
    | cons x l ih => intro i; cases i with
      | zero => simp [AV.dens]
      | succ i => simpa [AV.dens] using ih i
  have htm : (AV.dens ρ args).toArray ++ Array.replicate (fn.ntmps - (AV.dens ρ args).toArray.size) undef = (AV.dens ρ (args ++ List.replicate (fn.ntmps - args.length) (.sc (.raw undef)))).toArray := by
    apply Array.ext'
    simp [happ, hrep, hlen]
  rw [htm]
  refine wp_mono (hc Γ ρ w _ hg (Nat.le_refl _) hs ⟨by simp [hlen], fun i => .inr ?_⟩ rfl) ?_
  · show (AV.dens ρ _).toArray.getD i undef = _
    rw [Array.getD_eq_getD_getElem?]
    simp only [List.getElem?_toArray]
    rw [← List.getD_eq_getElem?_getD, hget]
    rfl
  · rintro e a' w' ⟨ρ', l', h'', g1, g2, g3, g4, g5, he, rv, s, hres, hr, hst⟩
    obtain ⟨v, hv1, hv2⟩ := hres Γ ρ' w' a'.tmps g3 (by rw [g1]; exact g4)
    have hfin : (∃ ρ' v', Ending.returned v = Ending.returned v' ∧ (r = .junk ∨ v' = r.den ρ') ∧ Sat Γ ρ' (hpL h') w') := by
      refine ⟨fun i => ρ' (s i), v, rfl, ?_, g3.reid hst.hp hst.inj (by rw [hg]; exact hst.fix)⟩
      rcases hr with hr | hr
      · exact .inl hr
      · rcases hv2 with hv2 | hv2
        · left
          rw [hv2] at hr
          cases hx : r <;> rw [hx] at hr <;> first | rfl | (simp [AV.ren] at hr)
        · right; rw [hv2, hr, AV.den_ren]
    rcases he with rfl | rfl
    · exact ⟨g5, v, hv1, hfin⟩
    · exact ⟨g5, v, hv1, hfin⟩

theorem ResT.one {P : Program} {fn : Func} {l : LTm} {h : LHp} {t : Nat} (hr : fn.results = #[.tmp t]) : ResT P fn l h (tmL l t) :=
  fun _ _ w tmps _ ht => ⟨_, results_tmp hr tmps P w, ht.val t⟩
theorem ResT.zero {P : Program} {fn : Func} {l : LTm} {h : LHp} (hr : fn.results = #[]) : ResT P fn l h (.tup []) :=
  fun _ _ w tmps _ _ => ⟨_, results_none hr tmps P w, .inr rfl⟩
theorem ResT.two {P : Program} {fn : Func} {l : LTm} {h : LHp} {t u : Nat} (hr : fn.results = #[.tmp t, .tmp u]) (h1 : tmL l t ≠ .junk) (h2 : tmL l u ≠ .junk) : ResT P fn l h (.tup [tmL l t, tmL l u]) :=
  fun _ _ w tmps _ ht => ⟨_, results_tmp2 hr tmps P w, .inr (by rw [(ht.val t).resolve_left h1, (ht.val u).resolve_left h2]; rfl)⟩
theorem ResT.three {P : Program} {fn : Func} {l : LTm} {h : LHp} {t u v : Nat} (hr : fn.results = #[.tmp t, .tmp u, .tmp v]) (h1 : tmL l t ≠ .junk) (h2 : tmL l u ≠ .junk) (h3 : tmL l v ≠ .junk) :
    ResT P fn l h (.tup [tmL l t, tmL l u, tmL l v]) :=
  fun _ _ w tmps _ ht => ⟨_, results_tmp3 hr tmps P w, .inr (by rw [(ht.val t).resolve_left h1, (ht.val u).resolve_left h2, (ht.val v).resolve_left h3]; rfl)⟩

section
variable {P : Program} {fn : Func} {n : Nat} {r : AV} {h' : LHp} {l : LTm} {h : LHp} {e : Exit}
theorem retQ.of {rv : AV} (he : e = .normal ∨ e = .ret) (hres : ResT P fn l h rv) (s : Nat → Nat) (hr : rv = r.ren s) (hs : StW n s [] h [] h') : RetS P fn n r h' e l h := ⟨he, rv, s, hres, .inr hr, hs⟩
/-- Back with one value; the blocks keep their ids. -/
theorem retQ.one {t : Nat} (hf : fn.results = #[.tmp t]) (he : e = .normal ∨ e = .ret) (hv : tmL l t = r) (hn : n ≤ h'.length) (hs : maskH h h' = h') : RetS P fn n r h' e l h :=
  retQ.of he (ResT.one hf) (fun i => i) (by rw [AV.ren_id]; exact hv) (StW.same hn rfl hs)
theorem retQ.zero (hf : fn.results = #[]) (he : e = .normal ∨ e = .ret) (hr : r = .tup []) (hn : n ≤ h'.length) (hs : maskH h h' = h') : RetS P fn n r h' e l h :=
  retQ.of he (ResT.zero hf) (fun i => i) (by rw [AV.ren_id]; exact hr.symm) (StW.same hn rfl hs)
theorem retQ.two {t u : Nat} (hf : fn.results = #[.tmp t, .tmp u]) (he : e = .normal ∨ e = .ret) (h1 : tmL l t ≠ .junk) (h2 : tmL l u ≠ .junk) (hv : AV.tup [tmL l t, tmL l u] = r) (hn : n ≤ h'.length) (hs : maskH h h' = h') : RetS P fn n r h' e l h :=
  retQ.of he (ResT.two hf h1 h2) (fun i => i) (by rw [AV.ren_id]; exact hv) (StW.same hn rfl hs)
end
end Go.Proofs.Ytdmcbfmpnakdfaa.Eng
