/- Loops whose rounds begin anew: what is no more written to may be frozen. -/
import Derived.Test.YtdmcbfmpnakdfaaEr
namespace Go.Proofs.Ytdmcbfmpnakdfaa.Eng
open Go
/-- The context begun anew: all that there is, the blocks that are written to, the first ids as they were. -/
def reb (w : World) (n : Nat) (r0 : Ren) (ρ : Ren) (hp : AHeap) : Ctx := ⟨w, fun c => ∃ i a, hp i = some a ∧ a.w = true ∧ (ρ i).b = c, n, r0⟩
theorem Sat.reb {w : World} {n : Nat} {r0 ρ : Ren} {hp : AHeap} (hb : ∀ i b, hp i = some b → BlkSat (reb w n r0 ρ hp) ρ w i b) (hi : ∀ i j a b, hp i = some a → hp j = some b → a.w = true → (ρ i).b = (ρ j).b → i = j) (hf : ∀ i, i < n → ρ i = r0 i) : Sat (Eng.reb w n r0 ρ hp) ρ hp w where
  blk := hb
  inj := hi
  foot i a ha haw _ := ⟨i, a, ha, haw, rfl⟩
  frame _ _ _ := rfl
  size := Nat.le_refl _
  os := rfl
  tape := rfl
  output := rfl
  fix := hf
/-- How a context of a round hangs together with that of the loop as a whole. h: the blocks ahead of the loop. -/
structure Link (Γ : Ctx) (h : LHp) (Γk : Ctx) : Prop where
  n0 : Γk.n0 = Γ.n0
  r0 : Γk.r0 = Γ.r0
  frame : ∀ c, c < Γ.W.heap.size → ¬ Γ.F c → Γk.W.heap[c]? = Γ.W.heap[c]?
  size : Γ.W.heap.size ≤ Γk.W.heap.size
  os : Γk.W.os = Γ.W.os
  tape : Γk.W.tape = Γ.W.tape
  output : Γk.W.output = Γ.W.output
  foot : ∀ c, Γk.F c → c < Γ.W.heap.size → Γ.F c
  ro : ∀ i b, i < Γ.n0 → hpL h i = some b → b.w = false → (Γ.r0 i).b < Γ.W.heap.size ∧ Γk.W.heap[(Γ.r0 i).b]? = Γ.W.heap[(Γ.r0 i).b]? ∧ ¬ Γk.F (Γ.r0 i).b
  fam : ∀ i R t sz L ms, hpL h i = some (.row (.fam R) t sz L ms) → Fams Γ R
/-- What of the blocks behind a round is handed on: of those that are only read just such as were there ahead of the loop. -/
def Thaw (n : Nat) (h h' h2 : LHp) : Prop := n ≤ h2.length ∧ ∀ i b, hpL h2 i = some b → hpL h' i = some b ∧ (b.w = false → i < n ∧ hpL h i = some b)
theorem Link.frame' {Γ Γk : Ctx} {h : LHp} {ρ : Ren} {hp : AHeap} {w : World} (hl : Link Γ h Γk) (hs : Sat Γk ρ hp w) : ∀ c, c < Γ.W.heap.size → ¬ Γ.F c → w.heap[c]? = Γ.W.heap[c]? := fun c hc hF =>
  (hs.frame c (Nat.lt_of_lt_of_le hc hl.size) fun hk => hF (hl.foot c hk hc)).trans (hl.frame c hc hF)
theorem Link.out {Γ Γk : Ctx} {h h' h2 : LHp} {ρ : Ren} {w : World} (hl : Link Γ h Γk) (hs : Sat Γk ρ (hpL h') w) (ht : Thaw Γ.n0 h h' h2) : Sat Γ ρ (hpL h2) w where
  blk i b hb := by
    obtain ⟨h1, h3⟩ := ht.2 i b hb
    have hk := hs.blk i b h1
    cases hw : b.w with
    | true => exact hk.ctx hw
    | false =>
      obtain ⟨hi, h4⟩ := h3 hw
      have hρ : ρ i = Γ.r0 i := by rw [hs.fix i (by rw [hl.n0]; exact hi), hl.r0]
      refine hk.ctx_ro (fun R t sz L ms e _ => hl.fam i R t sz L ms (by rw [h4, e])) fun _ => ?_
      obtain ⟨g1, g2, _⟩ := hl.ro i b hi h4 hw
      rw [hρ]
      refine ⟨g1, ?_⟩
      have := (hk.ro_same hw).2
      rw [hρ] at this
      exact this.trans g2
  inj i j a b ha hb := hs.inj i j a b (ht.2 i a ha).1 (ht.2 j b hb).1
  foot i a ha haw hlt := hl.foot _ (hs.foot i a (ht.2 i a ha).1 haw (Nat.lt_of_lt_of_le hlt hl.size)) hlt
  frame := hl.frame' hs
  size := Nat.le_trans hl.size hs.size
  os := hs.os.trans hl.os
  tape := hs.tape.trans hl.tape
  output := hs.output.trans hl.output
  fix i hi := by rw [hs.fix i (by rw [hl.n0]; exact hi), hl.r0]
/-- A state that is, wherever things lie, one of those that I speaks of, begun anew. -/
def SeenF {X : Type} (n : Nat) (I : X → LTm × LHp) (p : X → Prop) (l : LTm) (h : LHp) : Prop :=
  ∀ (Γ : Ctx) (ρ : Ren) (w : World) (tm : Array Value), Γ.n0 = n → Sat Γ ρ (hpL h) w → TSat ρ l.length (tmL l) tm →
      ∃ x' ρ', p x' ∧ n ≤ (I x').2.length ∧ (∀ i, i < n → ρ' i = ρ i) ∧ (∀ i b, hpL (I x').2 i = some b → BlkSat (reb w n Γ.r0 ρ' (hpL (I x').2)) ρ' w i b) ∧
        (∀ i j a b, hpL (I x').2 i = some a → hpL (I x').2 j = some b → a.w = true → (ρ' i).b = (ρ' j).b → i = j) ∧
        (∀ i a, hpL (I x').2 i = some a → a.w = true → ∃ j b, hpL h j = some b ∧ b.w = true ∧ (ρ j).b = (ρ' i).b) ∧ TSat ρ' l.length (tmL (I x').1) tm
def loopFQ {X : Type} (n : Nat) (h0 : LHp) (I : X → LTm × LHp) (μ : X → Nat) (x : X) (Q : Post) : Post := fun e l' h' => match e with
  | .normal => SeenF n I (fun x' => μ x' < μ x) l' h'
  | e => ∃ h2, Q e l' h2 ∧ Thaw n h0 h' h2
section
variable {P : Program} {n : Nat} {l : LTm} {h : LHp} {Q : Post}
theorem Link.next {Γ Γk : Ctx} {ρ ρ' : Ren} {w : World} {h' hx : LHp} (hl : Link Γ h Γk) (hs : Sat Γk ρ (hpL h') w)
    (hfix : ∀ i, i < Γ.n0 → ρ' i = ρ i) (hinj : ∀ i j a b, hpL hx i = some a → hpL hx j = some b → a.w = true → (ρ' i).b = (ρ' j).b → i = j)
    (hfrom : ∀ i a, hpL hx i = some a → a.w = true → ∃ j b, hpL h' j = some b ∧ b.w = true ∧ (ρ j).b = (ρ' i).b)
    (hro : ∀ i b, i < Γ.n0 → hpL h i = some b → b.w = false → hpL hx i = some b) : Link Γ h (reb w Γ.n0 Γ.r0 ρ' (hpL hx)) where
  n0 := rfl
  r0 := rfl
  frame := hl.frame' hs
  size := Nat.le_trans hl.size hs.size
  os := hs.os.trans hl.os
  tape := hs.tape.trans hl.tape
  output := hs.output.trans hl.output
  foot c hc hlt := by
    obtain ⟨i, a, ha, haw, rfl⟩ := hc
    obtain ⟨j, b, hb, hbw, e⟩ := hfrom i a ha haw
    rw [← e] at hlt ⊢
    exact hl.foot _ (hs.foot j b hb hbw (Nat.lt_of_lt_of_le hlt hl.size)) hlt
  ro i b hi hb hw := by
    obtain ⟨g1, g2, g3⟩ := hl.ro i b hi hb hw
    refine ⟨g1, ?_, ?_⟩
    · exact (hs.frame _ (Nat.lt_of_lt_of_le g1 hl.size) g3).trans g2
    · rintro ⟨j, a, ha, haw, e⟩
      have hri : ρ' i = Γ.r0 i := by rw [hfix i hi, hs.fix i (by rw [hl.n0]; exact hi), hl.r0]
      have := hinj j i a b ha (hro i b hi hb hw) haw (by rw [hri]; exact e)
      subst this
      have h9 := hro j b hi hb hw
      rw [ha] at h9
      cases h9
      rw [haw] at hw; cases hw
  fam := hl.fam
theorem Link.first {Γ : Ctx} {ρ ρ' : Ren} {w : World} {hx : LHp} (hs : Sat Γ ρ (hpL h) w)
    (hfix : ∀ i, i < Γ.n0 → ρ' i = ρ i) (hinj : ∀ i j a b, hpL hx i = some a → hpL hx j = some b → a.w = true → (ρ' i).b = (ρ' j).b → i = j)
    (hfrom : ∀ i a, hpL hx i = some a → a.w = true → ∃ j b, hpL h j = some b ∧ b.w = true ∧ (ρ j).b = (ρ' i).b)
    (hro : ∀ i b, i < Γ.n0 → hpL h i = some b → b.w = false → hpL hx i = some b) : Link Γ h (reb w Γ.n0 Γ.r0 ρ' (hpL hx)) where
  n0 := rfl
  r0 := rfl
  frame := hs.frame
  size := hs.size
  os := hs.os
  tape := hs.tape
  output := hs.output
  foot c hc hlt := by
    obtain ⟨i, a, ha, haw, rfl⟩ := hc
    obtain ⟨j, b, hb, hbw, e⟩ := hfrom i a ha haw
    rw [← e] at hlt ⊢
    exact hs.foot j b hb hbw hlt
  ro i b hi hb hw := by
    have hρ := hs.fix i hi
    have := (hs.blk i b hb).ro_same hw
    rw [hρ] at this
    refine ⟨this.1, this.2, ?_⟩
    rintro ⟨j, a, ha, haw, e⟩
    have hri : ρ' i = Γ.r0 i := by rw [hfix i hi, hρ]
    have := hinj j i a b ha (hro i b hi hb hw) haw (by rw [hri]; exact e)
    subst this
    have h9 := hro j b hi hb hw
    rw [ha] at h9
    cases h9
    rw [haw] at hw; cases hw
  fam i R t sz L ms hb := (hs.blk i _ hb).2.2.2.2.2
theorem CodeT.loopF {c : Code} {X : Type} (I : X → LTm × LHp) (μ : X → Nat) (h0 : SeenF n I (fun _ => True) l h)
    (hro : ∀ x i b, i < n → hpL h i = some b → b.w = false → hpL (I x).2 i = some b)
    (round : ∀ x, CodeT P n c (I x).1 (I x).2 (loopFQ n h I μ x Q)) (hlen : ∀ x, (I x).1.length = l.length) : CodeT P n (.loop c) l h Q := by
  intro Γ ρ w a hg hn hs ht hd
  subst hg
  have key : ∀ (m : Nat) (b : Frame) (k : List Item) (cs : List Frame) (x : X) (Γk : Ctx) (ρ : Ren) (w : World) (a : Act), μ x = m → Link Γ h Γk → Γ.n0 ≤ (I x).2.length → Sat Γk ρ (hpL (I x).2) w → TSat ρ l.length (tmL (I x).1) a.tmps → a.defers = [] →
      ∃ e a' w', (∃ ρ' l' h', l'.length = l.length ∧ Γ.n0 ≤ h'.length ∧ Sat Γ ρ' (hpL h') w' ∧ TSat ρ' l.length (tmL l') a'.tmps ∧ a'.defers = [] ∧ Q e l' h') ∧
        Arrives P (lone (b.at a (.code c :: .inLoop c :: k)) cs w) b k cs e a' w' := by
    intro m b k cs
    induction m using Nat.strongRecOn with
    | _ m ih =>
      intro x Γk ρ w a hμ hl hn hs ht hd
      obtain ⟨e, a1, w1, ⟨ρ1, l1, h1, g1, g2, g3, g4, g5, g6⟩, harr⟩ := round x Γk ρ w a hl.n0 hn hs (by rw [hlen]; exact ht) hd b (.inLoop c :: k) cs
      rw [hlen] at g1 g4
      have ext : ∀ e, (∃ h2, Q e l1 h2 ∧ Thaw Γ.n0 h h1 h2) → ∃ ρ' l' h', l'.length = l.length ∧ Γ.n0 ≤ h'.length ∧ Sat Γ ρ' (hpL h') w1 ∧ TSat ρ' l.length (tmL l') a1.tmps ∧ a1.defers = [] ∧ Q e l' h' := fun e ⟨h2, q1, q2⟩ =>
        ⟨ρ1, l1, h2, g1, q2.1, hl.out g3 q2, g4, g5, q1⟩
      cases e with
      | normal =>
        obtain ⟨x', ρ2, hlt, hn2, hf2, hb2, hi2, hw2, ht2⟩ := g6 Γk ρ1 w1 a1.tmps hl.n0 g3 (by rw [g1]; exact g4)
        rw [g1] at ht2
        rw [hl.r0] at hb2
        have hl2 := hl.next g3 (hx := (I x').2) hf2 hi2 hw2 (hro x')
        have hs2 : Sat (reb w1 Γ.n0 Γ.r0 ρ2 (hpL (I x').2)) ρ2 (hpL (I x').2) w1 := Sat.reb hb2 hi2 fun i hi => by rw [hf2 i hi, g3.fix i (by rw [hl.n0]; exact hi), hl.r0]
        obtain ⟨e2', a2, w2, hq2, harr2⟩ := ih (μ x') (hμ ▸ hlt) x' _ ρ2 w1 a1 rfl hl2 hn2 hs2 ht2 g5
        exact ⟨e2', a2, w2, hq2, .of_steps (Steps.trans harr (.one step_inLoop)) harr2⟩
      | exit id => exact ⟨_, a1, w1, ext _ g6, .pass (x := .inLoop c) rfl (fun _ _ => .inl (by simp)) harr⟩
      | goto l => exact ⟨_, a1, w1, ext _ g6, .pass (x := .inLoop c) rfl (fun _ _ => .inl (by simp)) harr⟩
      | ret => exact ⟨_, a1, w1, ext _ g6, .pass (x := .inLoop c) rfl (fun _ _ => .inl (by simp)) harr⟩
      | panic ch => exact ⟨_, a1, w1, ext _ g6, .pass (x := .inLoop c) rfl (fun _ _ => .inl (by simp)) harr⟩
      | outgrown => exact ⟨_, a1, w1, ext _ g6, .pass (x := .inLoop c) rfl (fun _ _ => .inl (by simp)) harr⟩
  intro b k cs
  obtain ⟨x0, ρ0, _, q1, q2, q3, q4, q5, q6⟩ := h0 Γ ρ w a.tmps rfl hs ht
  have hl := Link.first hs (hx := (I x0).2) q2 q4 q5 (hro x0)
  have hs2 : Sat (reb w Γ.n0 Γ.r0 ρ0 (hpL (I x0).2)) ρ0 (hpL (I x0).2) w := Sat.reb q3 q4 fun i hi => by rw [q2 i hi, hs.fix i hi]
  obtain ⟨e, a', w', hq, harr⟩ := key _ b k cs x0 _ ρ0 w a rfl hl q1 hs2 q6 hd
  exact ⟨e, a', w', hq, .of_steps (.one step_loop) harr⟩
end
end Go.Proofs.Ytdmcbfmpnakdfaa.Eng
/- maps.clone of a map that is frozen; freezing. -/
namespace Go.Proofs.Ytdmcbfmpnakdfaa.Eng
open Go
/-- What a frozen map holds. -/
def MapObj (o : Obj) (es : List (SV × AV)) : Prop := ∃ ents clock, o = .map ents clock ∧ ∀ ρ : Ren, ents.toList.map (fun e => (e.key, e.val)) = es.map (fun e => (e.1.den ρ, e.2.den ρ))
section
variable {P : Program} {o : Oper} {l : LTm} {h : LHp} {K : Eff → Prop}
theorem clone_raw {c : Call} {f : FuncId} {x : Operand} {t : TypeId} {id b sz : Nat} {R : List (Nat × Obj)} {ob : Obj} {tt : TypeId} {L : List Segs} {ms : List Nat} {es : List (SV × AV)} (ho : o.op = .call c) (hcal : c.callee = .value (.func f)) (hF : CloneFn P f) (ha : c.args.toList = [x])
    (hx : evalO (tmL l) x = .sc (.ifc t (.raw (.map (some b))))) (hb : hpL h id = some (.row (.fam R) tt sz L ms)) (hR : (b, ob) ∈ R) (hO : MapObj ob es) (hids : ∀ e ∈ es, e.1.ids ++ e.2.ids = [])
    (hk : K { val := .sc (.ifc t (.mp h.length)), touch := [id], news := [some (.map es [])] }) : ∃ e, OpL P o l h e ∧ K e := by
  have hargs : c.args = #[x] := by apply Array.ext'; rw [ha]
  have hmx : x ∈ o.op.operands.toList := by rw [ho]; simp [Op.operands, Call.operands, hcal, hargs]
  obtain ⟨fn, f1, f2, f3, f4, f5⟩ := hF
  have f4' : Extern.findNext fn = none := by simpa using f4
  obtain ⟨ents, clock, rfl, m2⟩ := hO
  refine ⟨_, OpT.of_run fun hp₂ hh hcl _ Γ ρ w ev h0 hsat hev => ?_, hk⟩
  have hc := hcl h.length (Nat.le_refl _) (by simp)
  have h1 := evals_get hev hmx hx (by simp)
  have hff : ev (.func f) = .func (.func f) #[] #[] := by
    have := hev (.func f) (by rw [ho]; simp [Op.operands, Call.operands, hcal])
    simpa [evalO, AV.den, SV.den, SV.dens] using this
  have hb2 : hp₂ id = some (.row (.fam R) tt sz L ms) := by rw [hh id (by simp)]; exact hb
  obtain ⟨_, _, _, _, _, hfam⟩ := hsat.blk id _ hb2
  obtain ⟨r1, r2, r3⟩ := hfam _ hR
  have m1 : w.heap[b]? = some (.map ents clock) := (hsat.frame b r1 r2).trans r3
  have hget : (getObj b).run P w = .ok (.map ents clock) w := by
    unfold getObj; simp only [Sem.run, m1]
  refine ⟨updR ρ h.length ⟨w.heap.size, 0, 0⟩, .iface t (.map (some w.heap.size)), w.alloc (.map ents clock), .inl ?_, fun i hi => updR_ne _ _ (fun e => hi (by simp [e])), .inr ?_, ?_⟩
  · have hcf : (callFunc f #[.iface t (.map (some b))]).run P w = .ok (.value (.iface t (.map (some w.heap.size)))) (w.alloc (.map ents clock)) := by
      unfold callFunc
      show Sem.run P (.program _) w = _
      simp only [Sem.run]
      show Sem.run P (match P.funcs[f]? with | none => _ | some fn => _) w = _
      rw [f1]
      simp only [f2, f3, if_true, Bool.false_eq_true, if_false]
      show Sem.run P (do mark (.extern f); _) w = _
      rw [f4', f5]
      have hcl : Extern.MapsClone.clone #[.iface t (.map (some b))] = (do
        match ← getObj b with
        | .map entries clock => pure (.iface t (.map (some (← newObj (.map entries clock)))))
        | _ => stuck "maps.clone: a map expected") := rfl
      show Sem.run P (do mark (.extern f); pure (Next.value (← Extern.MapsClone.clone #[.iface t (.map (some b))]))) w = _
      rw [hcl]
      have hmk : (mark (.extern f)).run P w = .ok () w := rfl
      simp only [Sem.run_bind, hmk, hget, Result.andThen_ok]
      simp
    unfold execOp
    rw [ho]
    show Sem.run P ((resolve ev c o.type).bind fun d => invoke d.target d.args) w = _
    unfold resolve
    rw [hcal]
    simp only []
    rw [hff]
    show Sem.run P (callFunc f (#[] ++ c.args.map ev ++ #[])) w = _
    rw [hargs]
    simp only [List.map_toArray, List.map_cons, List.map_nil, h1]
    exact hcf
  · simp [AV.den, SV.den, updR_same]
  · rw [app_new']
    refine hsat.alloc (b' := .map es []) 0 hc.1 h0 hc.2 ⟨fun e he x hx => (by rw [hids e he] at hx; cases hx), ents, clock, ?_, m2 _⟩
    rw [updR_same]; show (w.heap.push _)[w.heap.size]? = _; simp
end
/-- A state begun anew: blocks kept, or dropped, or frozen. -/
theorem fams_reb {Γ : Ctx} {ρ : Ren} {w : World} {hp hx : AHeap} {n : Nat} {r0 : Ren} {R : List (Nat × Obj)} (hs : Sat Γ ρ hp w) (hR : Fams Γ R) (hw : ∀ i a, hx i = some a → a.w = true → ∃ b, hp i = some b ∧ b.w = true) : Fams (reb w n r0 ρ hx) R := fun x hxR => by
  obtain ⟨h1, h2, h3⟩ := hR x hxR
  refine ⟨Nat.lt_of_lt_of_le h1 hs.size, ?_, (hs.frame _ h1 h2).trans h3⟩
  rintro ⟨i, a, ha, haw, e⟩
  obtain ⟨b, hb, hbw⟩ := hw i a ha haw
  exact h2 (e ▸ hs.foot i b hb hbw (e ▸ h1))
/-- A block that is written to no more is frozen. -/
theorem fam_new {Γ : Ctx} {ρ : Ren} {w : World} {hp hx : AHeap} {n : Nat} {r0 : Ren} {j : Nat} {bj : ABlk} (hs : Sat Γ ρ hp w) (hj : hp j = some bj) (hw : ∀ i a, hx i = some a → a.w = true → i ≠ j ∧ ∃ b, hp i = some b ∧ b.w = true) :
    ∃ o, w.heap[(ρ j).b]? = some o ∧ Fams (reb w n r0 ρ hx) [((ρ j).b, o)] := by
  have hlt := (hs.blk j bj hj).lt
  refine ⟨w.heap[(ρ j).b], Array.getElem?_eq_getElem hlt, fun x hx => ?_⟩
  obtain rfl := List.mem_singleton.1 hx
  refine ⟨hlt, ?_, Array.getElem?_eq_getElem hlt⟩
  rintro ⟨i, a, ha, haw, e⟩
  obtain ⟨hne, b, hb, hbw⟩ := hw i a ha haw
  exact hne (hs.inj i j b bj hb hj hbw e)
theorem map_obj {Γ : Ctx} {ρ : Ren} {w : World} {id : Nat} {es : List (SV × AV)} {ms : List Nat} (h : BlkSat Γ ρ w id (.map es ms)) (hids : ∀ e ∈ es, e.1.ids ++ e.2.ids = []) : ∃ o, w.heap[(ρ id).b]? = some o ∧ MapObj o es := by
  obtain ⟨_, ents, clock, h1, h2⟩ := h
  refine ⟨_, h1, ents, clock, rfl, fun ρ' => ?_⟩
  rw [h2]
  apply List.map_congr_left
  intro e he
  have hn : ∀ x, ¬ x ∈ e.1.ids ++ e.2.ids := fun x hx => by rw [hids e he] at hx; cases hx
  rw [SV.den_congr (ρ := ρ') (ρ' := ρ) e.1 (fun x hx => absurd (List.mem_append_left _ hx) (hn x)), AV.den_congr (ρ := ρ') (ρ' := ρ) e.2 (fun x hx => absurd (List.mem_append_right _ hx) (hn x))]
end Go.Proofs.Ytdmcbfmpnakdfaa.Eng
/- A contract about a read slice turned to its raw value, where other blocks name it. -/
namespace Go.Proofs.Ytdmcbfmpnakdfaa.Eng
open Go
/-- b2 is b, with the id j, which lies at S, said by its raw value. -/
def Turn (j : Nat) (S : Spot) (b b2 : ABlk) : Prop :=
  (b = b2 ∧ ∀ x ∈ b.ms, x ≠ j) ∨ ∃ md t sz L ms L2 ms2, b = .row md t sz L ms ∧ b2 = .row md t sz L2 ms2 ∧ L2.length = L.length ∧ (∀ ρ : Ren, ρ j = S → rowDen ρ L2 = rowDen ρ L) ∧
    (∀ e ∈ L, Segs.size e = sz ∧ Segs.oneB e = true) ∧ (∀ e ∈ L, ∀ x ∈ Segs.ids e, x ∈ ms) ∧ (∀ e ∈ L2, Segs.size e = sz ∧ Segs.oneB e = true) ∧ (∀ e ∈ L2, ∀ x ∈ Segs.ids e, x ∈ ms2) ∧ ∀ x ∈ ms2, x ≠ j
theorem Turn.w {j : Nat} {S : Spot} {b b2 : ABlk} (h : Turn j S b b2) : b.w = b2.w := by
  rcases h with ⟨rfl, _⟩ | ⟨md, t, sz, L, ms, L2, ms2, rfl, rfl, _⟩
  · rfl
  · cases md <;> rfl
theorem Turn.into {j : Nat} {S : Spot} {b b2 : ABlk} (h : Turn j S b b2) {Γ : Ctx} {ρ : Ren} {w : World} {i : Nat} (e : i ≠ j) (hb : BlkSat Γ ρ w i b2) : BlkSat Γ (updR ρ j S) w i b := by
  rcases h with ⟨rfl, hn⟩ | ⟨md, t, sz, L, ms, L2, ms2, rfl, rfl, hl, hd, s1, s2, _, _, hn⟩
  · exact hb.congr (updR_ne _ _ e) (fun x hx => updR_ne _ _ (hn x hx)) rfl
  · have h1 : BlkSat Γ (updR ρ j S) w i (.row md t sz L2 ms2) := hb.congr (updR_ne _ _ e) (fun x hx => updR_ne _ _ (hn x hx)) rfl
    exact h1.alike (hd _ (updR_same _ _ _)).symm hl.symm s1 s2
theorem Turn.back {j : Nat} {S : Spot} {b b2 : ABlk} (h : Turn j S b b2) {Γ : Ctx} {ρ : Ren} {w : World} {i : Nat} (e : i ≠ j) (s : Spot) (hρ : ρ j = S) (hb : BlkSat Γ ρ w i b) : BlkSat Γ (updR ρ j s) w i b2 := by
  rcases h with ⟨rfl, hn⟩ | ⟨md, t, sz, L, ms, L2, ms2, rfl, rfl, hl, hd, _, _, s3, s4, hn⟩
  · exact hb.congr (updR_ne _ _ e) (fun x hx => updR_ne _ _ (hn x hx)) rfl
  · have h1 : BlkSat Γ ρ w i (.row md t sz L2 ms2) := hb.alike (hd ρ hρ) hl s3 s4
    exact h1.congr (updR_ne _ _ e) (fun x hx => updR_ne _ _ (hn x hx)) rfl
/-- The other blocks, turned one by one. -/
structure TurnL (j : Nat) (S : Spot) (h h2 : LHp) : Prop where
  len : h2.length = h.length
  to : ∀ i b, i ≠ j → hpL h i = some b → ∃ b2, hpL h2 i = some b2 ∧ Turn j S b b2
  fro : ∀ i b2, i ≠ j → hpL h2 i = some b2 → ∃ b, hpL h i = some b ∧ Turn j S b b2
theorem FunT.famS {P : Program} {f : FuncId} {args args2 : List AV} {h h' h2 h2' : LHp} {r r2 : AV} (j : Nat) (hF : FunT P f args h r h') {t : TypeId} {sz : Nat} {L : List Segs} (hj : hpL h j = some (.row .ro t sz L [])) (hjl : j < h.length)
    {R : List (Nat × Obj)} {b off cap : Nat} {c : Array Value} {t' : TypeId} {fr : Nat × Nat} {pre post : List Value} (hb : (b, .cells c t' fr) ∈ R) (hc : ∀ ρ, c.toList = pre ++ (rowDen ρ L ++ post)) (hpre : pre.length = off) (hcap : L.length ≤ cap)
    (hL : ∀ e ∈ L, Segs.size e = sz ∧ Segs.oneB e = true) (hLi : ∀ e ∈ L, Segs.ids e = [])
    (hargs : ∀ ρ, AV.dens (updR ρ j ⟨b, off, cap⟩) args = AV.dens ρ args2) (ht : TurnL j ⟨b, off, cap⟩ h h2) (ht' : TurnL j ⟨b, off, cap⟩ h' h2') (hf : hpL h2 j = some (famB R)) (hf' : hpL h2' j = some (famB R))
    (hr : ∀ ρ s, ρ j = ⟨b, off, cap⟩ → r.den ρ = r2.den (updR ρ j s)) (hrj : r = .junk → r2 = .junk) : FunT P f args2 h2 r2 h2' := by
  intro Γ ρ w hn hs
  obtain ⟨_, _, _, ⟨c0, t0, fr0, pre0, post0, a1, a2, a3, a4, a5⟩, ⟨o, ho⟩, hR⟩ := hs.blk j (famB R) hf
  obtain ⟨x1, x2, x3⟩ := hR _ hb
  obtain ⟨y1, y2, y3⟩ := hR _ ho
  have hjn : j < Γ.n0 := by rw [hn, ht.len]; exact hjl
  have hs2 : Sat ⟨Γ.W, Γ.F, Γ.n0, updR Γ.r0 j ⟨b, off, cap⟩⟩ (updR ρ j ⟨b, off, cap⟩) (hpL h) w := by
    refine ⟨fun i bb hi => ?_, fun i k a bb hi hk haw he => ?_, fun i a hi haw hlt => ?_, hs.frame, hs.size, hs.os, hs.tape, hs.output, fun i hi => ?_⟩
    · by_cases e : i = j
      · subst e
        rw [hj] at hi; cases hi
        refine ⟨hL, fun e he x hx => (by rw [hLi e he] at hx; cases hx), by rw [updR_same]; exact hcap, c, t', fr, pre, post, ?_, hc _, by rw [updR_same]; exact hpre, by rw [updR_same]; exact x1, by rw [updR_same]; exact hs.frame _ x1 x2⟩
        rw [updR_same]
        exact (hs.frame _ x1 x2).trans x3
      · obtain ⟨b2, h1, h3⟩ := ht.to i bb e hi
        exact BlkSat.r0 _ _ (h3.into e (hs.blk i b2 h1))
    · have hi' : i ≠ j := fun e => by
        subst e
        rw [hj] at hi; cases hi; cases haw
      obtain ⟨a2, h1, h3⟩ := ht.to i a hi' hi
      rw [updR_ne _ _ hi'] at he
      by_cases e : k = j
      · subst e
        rw [updR_same] at he
        have q := hs.foot i a2 h1 (h3.w ▸ haw) (by rw [he]; exact x1)
        rw [he] at q
        exact absurd q x2
      · rw [updR_ne _ _ e] at he
        obtain ⟨b2, h4, h5⟩ := ht.to k bb e hk
        exact hs.inj i k a2 b2 h1 h4 (h3.w ▸ haw) he
    · have hi' : i ≠ j := fun e => by
        subst e
        rw [hj] at hi; cases hi; cases haw
      obtain ⟨a2, h1, h3⟩ := ht.to i a hi' hi
      rw [updR_ne _ _ hi'] at hlt ⊢
      exact hs.foot i a2 h1 (h3.w ▸ haw) hlt
    · by_cases e : i = j
      · subst e; simp only [updR_same]
      · simp only [updR_ne _ _ e]; exact hs.fix i hi
  have hn2 : Γ.n0 = h.length := by rw [hn, ht.len]
  have := hF ⟨Γ.W, Γ.F, Γ.n0, updR Γ.r0 j ⟨b, off, cap⟩⟩ _ w hn2 hs2
  rw [hargs] at this
  refine this.mono fun e w' he => ?_
  obtain ⟨ρ', v, h1, h2v, h3⟩ := he
  have hρj : ρ' j = ⟨b, off, cap⟩ := by rw [h3.fix j hjn]; exact updR_same _ _ _
  refine ⟨updR ρ' j (ρ j), v, h1, h2v.imp hrj fun h => by rw [h]; exact hr ρ' _ hρj, ?_⟩
  refine ⟨fun i bb hi => ?_, fun i k a bb hi hk haw he => ?_, fun i a hi haw hlt => ?_, h3.frame, h3.size, h3.os, h3.tape, h3.output, fun i hi => ?_⟩
  · by_cases e : i = j
    · subst e
      rw [hf'] at hi; cases hi
      refine ⟨fun _ h => (by cases h), fun _ h => (by cases h), Nat.zero_le _, ⟨c0, t0, fr0, pre0, post0, ?_, a2, ?_, ?_, ?_⟩, ⟨o, by rw [updR_same]; exact ho⟩, hR⟩
      · rw [updR_same]; exact ((h3.frame _ y1 y2).trans a5.symm).trans a1
      · rw [updR_same]; exact a3
      · rw [updR_same]; exact y1
      · rw [updR_same]; exact h3.frame _ y1 y2
    · obtain ⟨b1, h4, h5⟩ := ht'.fro i bb e hi
      exact BlkSat.r0 Γ.n0 Γ.r0 (h5.back e (ρ j) hρj (h3.blk i b1 h4))
  · have hi' : i ≠ j := fun e => by
      subst e
      rw [hf'] at hi; cases hi; cases haw
    obtain ⟨a1', h4, h5⟩ := ht'.fro i a hi' hi
    rw [updR_ne _ _ hi'] at he
    by_cases e2 : k = j
    · subst e2
      rw [updR_same] at he
      have q := h3.foot i a1' h4 (h5.w.symm ▸ haw) (by rw [he]; exact y1)
      rw [he] at q
      exact absurd q y2
    · rw [updR_ne _ _ e2] at he
      obtain ⟨b1, h6, _⟩ := ht'.fro k bb e2 hk
      exact h3.inj i k a1' b1 h4 h6 (h5.w.symm ▸ haw) he
  · have hi' : i ≠ j := fun e => by
      subst e
      rw [hf'] at hi; cases hi; cases haw
    obtain ⟨a1', h4, h5⟩ := ht'.fro i a hi' hi
    rw [updR_ne _ _ hi'] at hlt ⊢
    exact h3.foot i a1' h4 (h5.w.symm ▸ haw) hlt
  · by_cases e : i = j
    · subst e; rw [updR_same]; exact hs.fix i hi
    · rw [updR_ne _ _ e]
      have := h3.fix i hi
      simp only [updR_ne _ _ e] at this
      exact this
end Go.Proofs.Ytdmcbfmpnakdfaa.Eng
