/- Functions: contracts over the blocks that they look at, calls of them from any state. -/
import Derived.Test.YtdmcbfmpnakdfaaEd
namespace Go.Proofs.Ytdmcbfmpnakdfaa.Eng
open Go

def ABlk.wf : ABlk → Prop
  | .row _ _ _ L ms => ∀ e ∈ L, ∀ x ∈ Segs.ids e, x ∈ ms
  | .map es ms => ∀ e ∈ es, ∀ x ∈ e.1.ids ++ e.2.ids, x ∈ ms
theorem ABlk.wfB_spec {b : ABlk} (h : b.wfB = true) : b.ms = [] ∨ b.wf := by
  cases b with
  | row md t sz L ms =>
    cases ms with
    | nil => exact .inl rfl
    | cons m ms =>
      refine .inr fun e he x hx => ?_
      simp only [ABlk.wfB, List.all_eq_true] at h
      have := h e he x hx
      exact List.contains_iff_mem.1 this
  | map es ms =>
    cases ms with
    | nil => exact .inl rfl
    | cons m ms =>
      refine .inr fun e he x hx => ?_
      simp only [ABlk.wfB, List.all_eq_true] at h
      have := h e he x hx
      exact List.contains_iff_mem.1 this

theorem Segs.ids_ren (π : Nat → Nat) (s : Segs) : Segs.ids (Segs.ren π s) = (Segs.ids s).map π := by
  have h1 : ∀ v : SV, (v.ren π).ids = v.ids.map π := by
    intro v
    suffices H : (∀ v : SV, (v.ren π).ids = v.ids.map π) from H v
    intro v
    induction v using SV.rec (motive_2 := fun l => SV.idss (SV.rens π l) = (SV.idss l).map π) with
    | raw v => rfl
    | ptr id i sz fo => rfl
    | ptrB id i sz fo k => rfl
    | sl id i sz len cap => rfl
    | mp id => rfl
    | fn f a b ha hb => simp only [SV.ids, SV.ren, List.map_append, ha, hb]
    | ifc t v hv => exact hv
    | nil => rfl
    | cons v l hv hl => simp only [SV.idss, SV.rens, List.map_append, hv, hl]
  induction s with
  | nil => rfl
  | cons s l ih =>
    simp only [Segs.ids, Segs.ren, List.map_append, ih]
    cases s with
    | one v => simp only [Seg.ids, Seg.ren, h1]
    | _ => rfl
theorem rowDen_ren (ρ : Ren) (π : Nat → Nat) (L : List Segs) : rowDen ρ (L.map (Segs.ren π)) = rowDen (fun i => ρ (π i)) L := by
  induction L with
  | nil => rfl
  | cons e l ih => simp only [rowDen, List.map_cons, List.flatMap_cons, Segs.den_ren] at *; rw [ih]

/-- A block, its ids renamed, where the ids lie; and back. -/
theorem BlkSat.ren {Γ : Ctx} {ρ : Ren} {π : Nat → Nat} {w : World} {id : Nat} {b : ABlk} (h : BlkSat Γ (fun i => ρ (π i)) w id b) : BlkSat Γ ρ w (π id) (b.ren π) := by
  cases b with
  | row md t sz L ms =>
    obtain ⟨h1, h2, h3, h4⟩ := h
    cases ms with
    | nil =>
      have hd : rowDen ρ L = rowDen (fun i => ρ (π i)) L := rowDen_congr L fun e he x hx => by cases h2 e he x hx
      refine ⟨h1, h2, h3, ?_⟩
      cases md <;> (simp only [hd]; exact h4)
    | cons m ms =>
      refine ⟨fun e he => ?_, fun e he x hx => ?_, by simpa using h3, ?_⟩
      · obtain ⟨e', he', rfl⟩ := List.mem_map.1 he
        rw [Segs.size_ren, Segs.oneB_ren]; exact h1 e' he'
      · obtain ⟨e', he', rfl⟩ := List.mem_map.1 he
        rw [Segs.ids_ren] at hx
        obtain ⟨y, hy, rfl⟩ := List.mem_map.1 hx
        exact List.mem_map.2 ⟨y, h2 e' he' y hy, rfl⟩
      · cases md <;> (simp only [rowDen_ren, List.length_map]; exact h4)
  | map es ms =>
    obtain ⟨h2, ents, clock, h3, h4⟩ := h
    cases ms with
    | nil =>
      refine ⟨h2, ents, clock, h3, ?_⟩
      rw [h4]
      apply List.map_congr_left
      intro e he
      rw [SV.den_congr (ρ := ρ) (ρ' := fun i => ρ (π i)) e.1 (fun x hx => by cases h2 e he x (by simp [hx])),
        AV.den_congr (ρ := ρ) (ρ' := fun i => ρ (π i)) e.2 (fun x hx => by cases h2 e he x (by simp [hx]))]
    | cons m ms =>
      refine ⟨fun e he x hx => ?_, ents, clock, h3, ?_⟩
      · obtain ⟨e', he', rfl⟩ := List.mem_map.1 he
        have h1 : ∀ v : SV, (v.ren π).ids = v.ids.map π := fun v => by
          have := Segs.ids_ren π [.one v]
          simpa [Segs.ids, Segs.ren, Seg.ids, Seg.ren] using this
        have h1' : ∀ v : AV, (v.ren π).ids = v.ids.map π := by
          intro v
          induction v using AV.rec (motive_2 := fun l => AV.idss (AV.rens π l) = (AV.idss l).map π) with
          | junk => rfl
          | sc v => exact h1 v
          | agg s => exact Segs.ids_ren π s
          | tup l hl => exact hl
          | nil => rfl
          | cons v l hv hl => simp only [AV.idss, AV.rens, List.map_append, hv, hl]
        simp only [h1, h1', ← List.map_append] at hx
        obtain ⟨y, hy, rfl⟩ := List.mem_map.1 hx
        exact List.mem_map.2 ⟨y, h2 e' he' y hy, rfl⟩
      · rw [h4, List.map_map]
        apply List.map_congr_left
        intro e _
        simp only [Function.comp, SV.den_ren, AV.den_ren]
theorem BlkSat.unren {Γ : Ctx} {ρ : Ren} {π : Nat → Nat} {w : World} {id : Nat} {b : ABlk} (hb : b.wfB = true) (h : BlkSat Γ ρ w (π id) (b.ren π)) : BlkSat Γ (fun i => ρ (π i)) w id b := by
  have hwf := ABlk.wfB_spec hb
  cases b with
  | row md t sz L ms =>
    cases ms with
    | nil =>
      obtain ⟨h1, h2, h3, h4⟩ := h
      have hd : rowDen ρ L = rowDen (fun i => ρ (π i)) L := rowDen_congr L fun e he x hx => by cases h2 e he x hx
      refine ⟨h1, h2, h3, ?_⟩
      cases md <;> (simp only [hd] at h4; exact h4)
    | cons m ms =>
      obtain ⟨h1, h2, h3, h4⟩ := h
      refine ⟨fun e he => ?_, hwf.resolve_left (by simp [ABlk.ms]), by simpa using h3, ?_⟩
      · have := h1 _ (List.mem_map.2 ⟨e, he, rfl⟩)
        rwa [Segs.size_ren, Segs.oneB_ren] at this
      · cases md <;> (simp only [rowDen_ren, List.length_map] at h4; exact h4)
  | map es ms =>
    cases ms with
    | nil =>
      obtain ⟨h2, ents, clock, h3, h4⟩ := h
      refine ⟨h2, ents, clock, h3, ?_⟩
      rw [h4]
      apply List.map_congr_left
      intro e he
      rw [SV.den_congr (ρ := ρ) (ρ' := fun i => ρ (π i)) e.1 (fun x hx => by cases h2 e he x (by simp [hx])),
        AV.den_congr (ρ := ρ) (ρ' := fun i => ρ (π i)) e.2 (fun x hx => by cases h2 e he x (by simp [hx]))]
    | cons m ms =>
      obtain ⟨_, ents, clock, h3, h4⟩ := h
      refine ⟨hwf.resolve_left (by simp [ABlk.ms]), ents, clock, h3, ?_⟩
      rw [h4, List.map_map]
      apply List.map_congr_left
      intro e _
      simp only [Function.comp, SV.den_ren, AV.den_ren]
theorem ABlk.ren_w (π : Nat → Nat) (b : ABlk) : (b.ren π).w = b.w := by
  cases b with
  | row md t sz L ms => cases ms <;> cases md <;> rfl
  | map es ms => cases ms <;> rfl
/-- Blocks of the first world that stay as they are. -/
abbrev Fams (Γ : Ctx) (R : List (Nat × Obj)) : Prop := ∀ x ∈ R, x.1 < Γ.W.heap.size ∧ ¬ Γ.F x.1 ∧ Γ.W.heap[x.1]? = some x.2
/-- What is written does not hang on the rest of the world. -/
theorem BlkSat.ctx {Γ Γ' : Ctx} {ρ : Ren} {w : World} {id : Nat} {b : ABlk} (hb : b.w = true) (h : BlkSat Γ ρ w id b) : BlkSat Γ' ρ w id b := by
  cases b with
  | row md t sz L ms => cases md <;> first | (cases hb; done) | exact h
  | map es ms => exact h
theorem BlkSat.ctx_ro {Γ Γ' : Ctx} {ρ : Ren} {w : World} {id : Nat} {b : ABlk} (hR : ∀ R t sz L ms, b = .row (.fam R) t sz L ms → Fams Γ R → Fams Γ' R) (h : BlkSat Γ ρ w id b) (h1 : b.w = false → (ρ id).b < Γ'.W.heap.size ∧ w.heap[(ρ id).b]? = Γ'.W.heap[(ρ id).b]?) : BlkSat Γ' ρ w id b := by
  cases b with
  | row md t sz L ms =>
    cases md
    · obtain ⟨a1, a2, a3, c, t', fr, pre, post, b1, b2, b3, b4, b5⟩ := h
      obtain ⟨h2, h3⟩ := h1 rfl
      exact ⟨a1, a2, a3, c, t', fr, pre, post, b1, b2, b3, h2, h3⟩
    · exact h
    · exact h
    · exact h
    · obtain ⟨a1, a2, a3, ⟨c, t', fr, pre, post, b1, b2, b3, b4, b5⟩, b7, b6⟩ := h
      obtain ⟨h2, h3⟩ := h1 rfl
      exact ⟨a1, a2, a3, ⟨c, t', fr, pre, post, b1, b2, b3, h2, h3⟩, b7, hR _ _ _ _ _ rfl b6⟩
  | map es ms => exact h
theorem BlkSat.ro_same {Γ : Ctx} {ρ : Ren} {w : World} {id : Nat} {b : ABlk} (h : BlkSat Γ ρ w id b) (hb : b.w = false) : (ρ id).b < Γ.W.heap.size ∧ w.heap[(ρ id).b]? = Γ.W.heap[(ρ id).b]? := by
  cases b with
  | row md t sz L ms =>
    cases md
    · obtain ⟨a1, a2, a3, c, t', fr, pre, post, b1, b2, b3, b4, b5⟩ := h
      exact ⟨b4, b5⟩
    · cases hb
    · cases hb
    · cases hb
    · obtain ⟨a1, a2, a3, ⟨c, t', fr, pre, post, b1, b2, b3, b4, b5⟩, _⟩ := h
      exact ⟨b4, b5⟩
  | map es ms => cases hb

/-- A block as one that is only read. -/
def ABlk.ro : ABlk → ABlk
  | .row (.fam R) t sz L ms => .row (.fam R) t sz L ms
  | .row _ t sz L ms => .row .ro t sz L ms
  | b => b
theorem BlkSat.asRo {Γ : Ctx} {ρ : Ren} {w : World} {id : Nat} {b : ABlk} (h : BlkSat Γ ρ w id b) (hb : ∃ md t sz L ms, b = .row md t sz L ms) (F : Nat → Prop) (n0 : Nat) (r0 : Ren) (hR : ∀ R, Fams Γ R → Fams ⟨w, F, n0, r0⟩ R) : BlkSat ⟨w, F, n0, r0⟩ ρ w id b.ro := by
  have hlt := h.lt
  obtain ⟨md, t, sz, L, ms, rfl⟩ := hb
  obtain ⟨h1, h2, h3, h4⟩ := h
  cases md <;> refine ⟨h1, h2, h3, ?_⟩
  · obtain ⟨c, t', fr, pre, post, b1, b2, b3, _⟩ := h4
    exact ⟨c, t', fr, pre, post, b1, b2, b3, hlt, rfl⟩
  · obtain ⟨c, b1, b2, b3, _⟩ := h4
    exact ⟨c, t, (0, 0), [], [], b1, by simpa using b2, by rw [b3]; rfl, hlt, rfl⟩
  · obtain ⟨c, pre, post, b1, b2, b3, _⟩ := h4
    exact ⟨c, t, (0, 0), pre, post, b1, b2, b3, hlt, rfl⟩
  · obtain ⟨c, b1, b2, b3, _⟩ := h4
    exact ⟨c, t, (0, 0), [], [], b1, by simpa using b2, by rw [b3]; rfl, hlt, rfl⟩
  · obtain ⟨⟨c, t', fr, pre, post, b1, b2, b3, _⟩, b7, b6⟩ := h4
    exact ⟨⟨c, t', fr, pre, post, b1, b2, b3, hlt, rfl⟩, b7, hR _ b6⟩
theorem ABlk.w_false {b : ABlk} (h : b.w = false) : ∃ md t sz L ms, b = .row md t sz L ms := by
  cases b with
  | row md t sz L ms => exact ⟨_, _, _, _, _, rfl⟩
  | map es ms => cases h
theorem ABlk.ren_ro {π : Nat → Nat} {b b' : ABlk} (h : b.w = false) (hb : b'.ro = b.ren π) : ∃ md t sz L ms, b' = .row md t sz L ms := by
  obtain ⟨md, t, sz, L, ms, rfl⟩ := ABlk.w_false h
  cases b' with
  | row md t sz L ms => exact ⟨_, _, _, _, _, rfl⟩
  | map es ms' => cases ms <;> cases hb

/-- The contract of a function: arguments and blocks ahead, the result and the blocks behind. -/
def FunT (P : Program) (f : FuncId) (args : List AV) (h : LHp) (r : AV) (h' : LHp) : Prop :=
  ∀ (Γ : Ctx) (ρ : Ren) (w : World), Γ.n0 = h.length → Sat Γ ρ (hpL h) w →
    Calls P f (AV.dens ρ args).toArray w (fun e w' => ∃ ρ' v, e = .returned v ∧ (r = .junk ∨ v = r.den ρ') ∧ Sat Γ ρ' (hpL h') w')

theorem hpL_lt {h : LHp} {i : Nat} {b : ABlk} (hi : hpL h i = some b) : i < h.length := by
  unfold hpL at hi
  rcases Nat.lt_or_ge i h.length with h' | h'
  · exact h'
  · rw [List.getD_eq_getElem?_getD, List.getElem?_eq_none h'] at hi; simp at hi

/-- The ids of a function in those of its caller. -/
def emb (p : List Nat) (base : Nat) : Nat → Nat := fun i => if i < p.length then p.getD i 0 else base + (i - p.length)
theorem emb_lt {p : List Nat} {base i : Nat} (h : i < p.length) : emb p base i = p.getD i 0 := by simp [emb, h]
theorem emb_ge {p : List Nat} {base i : Nat} (h : p.length ≤ i) : emb p base i = base + (i - p.length) := by unfold emb; rw [if_neg (by omega)]

structure CallOk (p : List Nat) (base : Nat) (hp : AHeap) (hc hc' : LHp) (chg : List Nat) : Prop where
  len : p.length = hc.length
  len' : hc.length ≤ hc'.length
  below : ∀ i, i < p.length → p.getD i 0 < base
  inj : ∀ i j, i < p.length → j < p.length → p.getD i 0 = p.getD j 0 → i = j
  pre : ∀ i b, hpL hc i = some b → (∃ b', hp (p.getD i 0) = some b' ∧ (b.w = true → b' = b.ren (emb p base)) ∧ (b.w = false → b'.ro = b.ren (emb p base))) ∧ b.wfB = true
  keep : ∀ i, i < p.length → i ∉ chg → hpL hc' i = hpL hc i
  chgw : ∀ i ∈ chg, i < p.length ∧ ∀ b, hpL hc' i = some b → b.w = true
  neww : ∀ i b, p.length ≤ i → hpL hc' i = some b → b.w = true
  scope : ∀ i b, hpL hc' i = some b → ∀ x ∈ b.ms, x < hc'.length

def callEff (p : List Nat) (base : Nat) (r : AV) (hc' : LHp) (chg : List Nat) : Eff :=
  { val := r.ren (emb p base), touch := p, writes := chg.map (fun i => (p.getD i 0, (hc'.getD i none).map (ABlk.ren (emb p base)))),
    news := (hc'.drop p.length).map (Option.map (ABlk.ren (emb p base))) }

theorem callEff_app {p : List Nat} {base : Nat} {r : AV} {hp : AHeap} {hc hc' : LHp} {chg : List Nat} (h : CallOk p base hp hc hc' chg) (j : Nat) :
    (∀ i, i < hc'.length → j = emb p base i → ∀ b, (callEff p base r hc' chg).app base hp j = some b → (∃ b0, hpL hc' i = some b0 ∧ b0.w = true ∧ b = b0.ren (emb p base)) ∨ (hp j = some b ∧ i < p.length ∧ ∀ b1, hpL hc i = some b1 → b1.w = false)) ∧
    ((∀ i, i < hc'.length → j ≠ emb p base i) → (callEff p base r hc' chg).app base hp j = hp j) := by
  have hnl : (callEff p base r hc' chg).news.length = hc'.length - p.length := by simp [callEff]
  constructor
  · intro i hi hj b hb
    unfold Eff.app at hb
    rw [hnl] at hb
    by_cases hlt : i < p.length
    · rw [emb_lt hlt] at hj
      have hb0 := h.below i hlt
      rw [if_neg (by omega)] at hb
      by_cases hch : i ∈ chg
      · have hlk : ∀ l : List Nat, (∀ x ∈ l, x < p.length) → i ∈ l → (l.map (fun i => (p.getD i 0, (hc'.getD i none).map (ABlk.ren (emb p base))))).lookup j = some ((hc'.getD i none).map (ABlk.ren (emb p base))) := by
          intro l
          induction l with
          | nil => intro _ h; cases h
          | cons x l ih =>
            intro hl hx
            simp only [List.map_cons, List.lookup_cons]
            by_cases e : x = i
            · subst e; rw [hj]; simp
            · have : (j == p.getD x 0) = false := by
                simp only [beq_eq_false_iff_ne]
                intro hc
                rw [hj] at hc
                exact e (h.inj i x hlt (hl x (by simp)) hc).symm
              rw [this]
              exact ih (fun y hy => hl y (by simp [hy])) (by simpa [Ne.symm e] using hx)
        have := hlk chg (fun x hx => (h.chgw x hx).1) hch
        simp only [callEff] at hb
        rw [this] at hb
        simp only [] at hb
        cases hg : hc'.getD i none with
        | none => rw [hg] at hb; simp at hb
        | some b0 => rw [hg] at hb; simp at hb; exact .inl ⟨b0, hg, (h.chgw i hch).2 b0 hg, hb.symm⟩
      · have hlk : (callEff p base r hc' chg).writes.lookup j = none := by
          refine lookup_none ?_
          simp only [callEff, List.map_map, List.mem_map, not_exists, not_and, Function.comp]
          intro x hx hc
          rw [hj] at hc
          have := h.inj x i (h.chgw x hx).1 hlt hc
          exact hch (this ▸ hx)
        rw [hlk] at hb
        simp only [] at hb
        have hk := h.keep i hlt hch
        by_cases hall : ∀ b1, hpL hc i = some b1 → b1.w = false
        · exact .inr ⟨hb, hlt, hall⟩
        · left
          have : ∃ b1, hpL hc i = some b1 ∧ b1.w = true := Classical.byContradiction fun hcn => hall fun b1 hb1 => by
            cases hw1 : b1.w with
            | false => rfl
            | true => exact absurd ⟨b1, hb1, hw1⟩ hcn
          obtain ⟨b1, hb1, hw1⟩ := this
          obtain ⟨⟨b', hb', hbw, _⟩, _⟩ := h.pre i b1 hb1
          rw [← hj, hb] at hb'
          cases hb'
          exact ⟨b1, by rw [hk]; exact hb1, hw1, hbw hw1⟩
    · rw [emb_ge (by omega)] at hj
      rw [if_pos (by omega)] at hb
      simp only [callEff] at hb
      rw [List.getElem?_map, List.getElem?_drop] at hb
      have e1 : p.length + (j - base) = i := by omega
      rw [e1] at hb
      cases hg : hc'[i]? with
      | none => rw [hg] at hb; simp at hb
      | some o =>
        rw [hg] at hb
        cases o with
        | none => simp at hb
        | some b0 =>
          simp at hb
          have hg' : hpL hc' i = some b0 := by simp [hpL, hg]
          exact .inl ⟨b0, hg', h.neww i b0 (by omega) hg', hb.symm⟩
  · intro hno
    unfold Eff.app
    rw [hnl]
    rw [if_neg]
    · have hlk : (callEff p base r hc' chg).writes.lookup j = none := by
        refine lookup_none ?_
        simp only [callEff, List.map_map, List.mem_map, not_exists, not_and, Function.comp]
        intro x hx hc
        have h1 := (h.chgw x hx).1
        have := h.len'
        have := h.len
        exact hno x (by omega) (by rw [emb_lt h1]; exact hc.symm)
      rw [hlk]
    · intro hc
      have := h.len'
      have := h.len
      exact hno (p.length + (j - base)) (by omega) (by rw [emb_ge (by omega)]; omega)

/-- What the caller knows ahead, as the callee wants it. -/
theorem call_into {p : List Nat} {base : Nat} {hp : AHeap} {hc hc' : LHp} {chg : List Nat} {Γ : Ctx} {ρ : Ren} {w : World} (h : CallOk p base hp hc hc' chg) (hs : Sat Γ ρ hp w) :
    Sat ⟨w, fun c => ∃ i b, hpL hc i = some b ∧ b.w = true ∧ c = (ρ (p.getD i 0)).b, p.length, fun i => ρ (emb p base i)⟩ (fun i => ρ (emb p base i)) (hpL hc) w := by
  have hlt : ∀ i b, hpL hc i = some b → i < p.length := fun i b hi => by rw [h.len]; exact hpL_lt hi
  refine ⟨fun i b hb => ?_, fun i j a b ha hb haw hij => ?_, fun i a ha haw _ => ?_, fun _ _ _ => rfl, Nat.le_refl _, rfl, rfl, rfl, fun _ _ => rfl⟩
  · obtain ⟨⟨b', h1, hw1, hw2⟩, h1'⟩ := h.pre i b hb
    have h2 := hs.blk _ _ h1
    rw [← emb_lt (base := base) (hlt i b hb)] at h2
    cases hbw : b.w with
    | true =>
      rw [hw1 hbw] at h2
      have h3 : BlkSat Γ (fun i => ρ (emb p base i)) w i b := BlkSat.unren h1' h2
      exact h3.ctx hbw
    | false =>
      have hpw : ∀ i b0, hpL hc i = some b0 → b0.w = true → ∃ b', hp (p.getD i 0) = some b' ∧ b'.w = true := fun i b0 hi hw => by
        obtain ⟨⟨b', h1, h2, _⟩, _⟩ := h.pre i b0 hi
        exact ⟨b', h1, by rw [h2 hw, ABlk.ren_w]; exact hw⟩
      have h3 := h2.asRo (ABlk.ren_ro hbw (hw2 hbw)) (fun c => ∃ i b, hpL hc i = some b ∧ b.w = true ∧ c = (ρ (p.getD i 0)).b) p.length (fun i => ρ (emb p base i)) (fun R hR x hx => by
        obtain ⟨r1, r2, r3⟩ := hR x hx
        refine ⟨Nat.lt_of_lt_of_le r1 hs.size, ?_, (hs.frame _ r1 r2).trans r3⟩
        rintro ⟨i', b0, hi', hw', he⟩
        obtain ⟨b1, q1, q2⟩ := hpw i' b0 hi' hw'
        exact r2 (he ▸ hs.foot _ _ q1 q2 (he ▸ r1)))
      rw [hw2 hbw] at h3
      exact BlkSat.unren h1' h3
  · obtain ⟨⟨a', h1, hw1, hw2⟩, h1'⟩ := h.pre i a ha
    obtain ⟨⟨b', h2, hw3, hw4⟩, h2'⟩ := h.pre j b hb
    simp only [emb_lt (hlt i a ha), emb_lt (hlt j b hb)] at hij
    exact h.inj i j (hlt i a ha) (hlt j b hb) (hs.inj _ _ _ _ h1 h2 (by rw [hw1 haw, ABlk.ren_w]; exact haw) hij)
  · exact ⟨i, a, ha, haw, by simp only [emb_lt (hlt i a ha)]⟩

def unemb (p : List Nat) (base n : Nat) (ρ ρc : Ren) : Ren := fun j => if base ≤ j ∧ j < base + (n - p.length) then ρc (p.length + (j - base)) else ρ j

/-- What the callee knows behind, as the caller has it. -/
theorem call_back {p : List Nat} {base : Nat} {hp : AHeap} {hc hc' : LHp} {chg : List Nat} {r : AV} {Γ : Ctx} {ρ ρc : Ren} {w w' : World} (h : CallOk p base hp hc hc' chg) (hs : Sat Γ ρ hp w)
    (hn0 : Γ.n0 ≤ base) (hcl : ∀ i, base ≤ i → i < base + (hc'.length - p.length) → hp i = none ∧ ∀ j b, hp j = some b → i ∉ b.ms)
    (hb : Sat ⟨w, fun c => ∃ i b, hpL hc i = some b ∧ b.w = true ∧ c = (ρ (p.getD i 0)).b, p.length, fun i => ρ (emb p base i)⟩ ρc (hpL hc') w') :
    (∀ i, i < hc'.length → unemb p base hc'.length ρ ρc (emb p base i) = ρc i) ∧ Sat Γ (unemb p base hc'.length ρ ρc) ((callEff p base r hc' chg).app base hp) w' := by
  have hemb : ∀ i, i < hc'.length → unemb p base hc'.length ρ ρc (emb p base i) = ρc i := by
    intro i hi
    by_cases hlt : i < p.length
    · rw [emb_lt hlt]
      have := h.below i hlt
      unfold unemb
      rw [if_neg (by omega)]
      have := hb.fix i hlt
      rw [this]
      simp only [emb_lt hlt]
    · rw [emb_ge (by omega)]
      unfold unemb
      rw [if_pos (by omega)]
      congr 1; omega
  refine ⟨hemb, ?_⟩
  have hold : ∀ j, ¬ (base ≤ j ∧ j < base + (hc'.length - p.length)) → unemb p base hc'.length ρ ρc j = ρ j := fun j hj => by unfold unemb; rw [if_neg hj]
  have hlt' : ∀ i b, hpL hc' i = some b → i < hc'.length := fun i b hi => hpL_lt hi
  -- the blocks of the caller that the callee does not write to
  have hfr : ∀ c, c < w.heap.size → (¬ ∃ i b, hpL hc i = some b ∧ b.w = true ∧ c = (ρ (p.getD i 0)).b) → w'.heap[c]? = w.heap[c]? := fun c h1 h2 => hb.frame c h1 h2
  have hpw : ∀ i b0, hpL hc i = some b0 → b0.w = true → hp (p.getD i 0) = some (b0.ren (emb p base)) := fun i b0 hi hw => by
    obtain ⟨⟨b', h1, h2, _⟩, _⟩ := h.pre i b0 hi
    rw [h1, h2 hw]
  -- a live id of the caller behind the call: one that the callee may write to, or one that it does not
  have hcase : ∀ j b, (callEff p base r hc' chg).app base hp j = some b → (∃ i b0, hpL hc' i = some b0 ∧ b0.w = true ∧ j = emb p base i ∧ b = b0.ren (emb p base)) ∨ (hp j = some b ∧ ∀ i b0, hpL hc i = some b0 → b0.w = true → j ≠ p.getD i 0) := by
    intro j b hj
    by_cases hex : ∃ i, i < hc'.length ∧ j = emb p base i
    · obtain ⟨i, hi, hji⟩ := hex
      rcases (callEff_app h j).1 i hi hji b hj with ⟨b0, h1⟩ | h1
      · exact .inl ⟨i, b0, h1.1, h1.2.1, hji, h1.2.2⟩
      · refine .inr ⟨h1.1, fun i' b' hi' hw' hc0 => ?_⟩
        have hi'p : i' < p.length := by rw [h.len]; exact hpL_lt hi'
        have hip := h1.2.1
        rw [emb_lt hip] at hji
        have := h.inj i' i hi'p hip (by rw [← hc0, ← hji])
        rw [this] at hi'
        rw [h1.2.2 b' hi'] at hw'; cases hw'
    · have hno : ∀ i, i < hc'.length → j ≠ emb p base i := fun i hi hc0 => hex ⟨i, hi, hc0⟩
      have := (callEff_app (r := r) h j).2 hno
      rw [this] at hj
      refine .inr ⟨hj, fun i b0 hi _ hc0 => ?_⟩
      have hip : i < p.length := by rw [h.len]; exact hpL_lt hi
      have := h.len; have := h.len'
      exact hno i (by omega) (by rw [emb_lt hip]; exact hc0)
  -- such a one's block is as it was
  have hother : ∀ j b, hp j = some b → (∀ i b0, hpL hc i = some b0 → b0.w = true → j ≠ p.getD i 0) → w'.heap[(ρ j).b]? = w.heap[(ρ j).b]? := by
    intro j b hj hno
    refine hfr _ (hs.blk j b hj).lt ?_
    rintro ⟨i, b0, hi, hiw, he⟩
    exact hno i b0 hi hiw (hs.inj _ _ _ _ (hpw i b0 hi hiw) hj (by rw [ABlk.ren_w]; exact hiw) he.symm).symm
  have hnold : ∀ j b, hp j = some b → ¬ (base ≤ j ∧ j < base + (hc'.length - p.length)) := fun j b hj hc => by
    have := (hcl j hc.1 hc.2).1
    rw [hj] at this; cases this
  refine ⟨fun j b hj => ?_, fun j j' b b' hj hj' hw hjj => ?_, fun j b hj hw hlt => ?_, fun c hc hF => ?_, Nat.le_trans hs.size hb.size, hb.os.trans hs.os, hb.tape.trans hs.tape, hb.output.trans hs.output, fun i hi => ?_⟩
  · rcases hcase j b hj with ⟨i, b0, hi, hiw, rfl, rfl⟩ | ⟨hpj, hno⟩
    · refine BlkSat.ren (π := emb p base) ?_
      have h1 := hb.blk i b0 hi
      have hilt := hlt' i b0 hi
      have h2 : BlkSat Γ ρc w' i b0 := h1.ctx hiw
      exact h2.congr (hemb i hilt) (fun x hx => hemb x (h.scope i b0 hi x hx)) rfl
    · have := hs.blk j b hpj
      have hjn := hnold j b hpj
      refine this.congr (hold j hjn) (fun x hx => hold x fun hc => (hcl x hc.1 hc.2).2 j b hpj hx) ?_
      exact hother j b hpj hno
  · have mixed : ∀ i b0 k bk, hpL hc' i = some b0 → b0.w = true → hp k = some bk → (∀ i b0, hpL hc i = some b0 → b0.w = true → k ≠ p.getD i 0) → (ρc i).b ≠ (ρ k).b := by
      intro i b0 k bk hi hbw hk hno he
      have hkl := (hs.blk k bk hk).lt
      obtain ⟨i', b', hi', hw', he'⟩ := hb.foot i b0 hi hbw (by show (ρc i).b < w.heap.size; rw [he]; exact hkl)
      exact hno i' b' hi' hw' (hs.inj _ _ _ _ (hpw i' b' hi' hw') hk (by rw [ABlk.ren_w]; exact hw') (by rw [← he', he])).symm
    rcases hcase j b hj with ⟨i, b0, hi, hiw, rfl, rfl⟩ | ⟨hpj, hno⟩
    · rcases hcase j' b' hj' with ⟨i', b0', hi', hiw', rfl, rfl⟩ | ⟨hpj', hno'⟩
      · rw [hemb i (hlt' i b0 hi), hemb i' (hlt' i' b0' hi')] at hjj
        rw [hb.inj i i' b0 b0' hi hi' hiw hjj]
      · rw [hemb i (hlt' i b0 hi), hold j' (hnold j' b' hpj')] at hjj
        exact absurd hjj (mixed i b0 j' b' hi hiw hpj' hno')
    · rcases hcase j' b' hj' with ⟨i', b0', hi', hiw', rfl, rfl⟩ | ⟨hpj', hno'⟩
      · rw [hemb i' (hlt' i' b0' hi'), hold j (hnold j b hpj)] at hjj
        exact absurd hjj.symm (mixed i' b0' j b hi' hiw' hpj hno)
      · rw [hold j (hnold j b hpj), hold j' (hnold j' b' hpj')] at hjj
        exact hs.inj j j' b b' hpj hpj' hw hjj
  · rcases hcase j b hj with ⟨i, b0, hi, hiw, rfl, rfl⟩ | ⟨hpj, hno⟩
    · rw [hemb i (hlt' i b0 hi)] at hlt ⊢
      obtain ⟨i', b', hi', hw', he'⟩ := hb.foot i b0 hi hiw (Nat.lt_of_lt_of_le hlt hs.size)
      rw [he'] at hlt ⊢
      exact hs.foot _ _ (hpw i' b' hi' hw') (by rw [ABlk.ren_w]; exact hw') hlt
    · rw [hold j (hnold j b hpj)] at hlt ⊢
      exact hs.foot j b hpj hw hlt
  · rw [hfr c (Nat.lt_of_lt_of_le hc hs.size), hs.frame c hc hF]
    rintro ⟨i, b0, hi, hiw, he⟩
    rw [he] at hc hF
    exact hF (hs.foot _ _ (hpw i b0 hi hiw) (by rw [ABlk.ren_w]; exact hiw) hc)
  · rw [hold i (by omega)]
    exact hs.fix i hi

structure Callable (P : Program) (f : FuncId) : Prop where
  ok : ∃ fn, P.funcs[f]? = some fn ∧ (fn.name == "runtime.NumGoroutine") = false ∧ fn.body.isNone = false
theorem run_callFunc {P : Program} {f : FuncId} (h : Callable P f) (args : Array Value) (w : World) : (callFunc f args).run P w = .ok (.enter f args) w := by
  obtain ⟨fn, h1, h2, h3⟩ := h.ok
  unfold callFunc
  show Sem.run P (.program _) w = _
  simp only [Sem.run]
  show Sem.run P (match P.funcs[f]? with | none => _ | some fn => _) w = _
  rw [h1]
  simp only [h2, h3]
  rfl

/-- A call by its contract: p: the callee's first blocks in the caller's ids; chg: those of them that it changes. -/
theorem OpT.call {P : Program} {o : Oper} {tm : ATm} {hp : AHeap} {base : Nat} {c : Call} {fo : Operand} {f : FuncId} {first caps : List SV} {avs cargs : List AV} {hc hc' : LHp} {r : AV} (p chg : List Nat)
    (ho : o.op = .call c) (hfo : c.callee = .value fo) (hf : evalO tm fo = .sc (.fn (.func f) first caps)) (ha : c.args.toList.map (evalO tm) = avs) (hj : ∀ v ∈ avs, v ≠ .junk) (hcb : Callable P f)
    (hF : FunT P f cargs hc r hc') (heq : AV.rens (emb p base) cargs = first.map .sc ++ (avs ++ caps.map .sc)) (hok : CallOk p base hp hc hc' chg) (hr : ∀ x ∈ r.ids, x < hc'.length) :
    OpT P o tm hp base (callEff p base r hc' chg) := by
  intro tm₂ hp₂ ht hh hcl Γ ρ N w a h0 hs hts K Q hK
  have hnl : (callEff p base r hc' chg).news.length = hc'.length - p.length := by simp [callEff]
  rw [hnl] at hcl hK
  have hops : o.op.operands.toList = fo :: c.args.toList := by
    rw [ho]
    show (Call.operands c).toList = _
    unfold Call.operands
    rw [hfo]
    simp
  have hev : ∀ x ∈ fo :: c.args.toList, evalO tm x ≠ .junk → a.eval x = (evalO tm x).den ρ := by
    intro x hx hjx
    have h1 := evalO_agree ht (x := x) (by rw [hops]; exact hx)
    rcases evalO_den hts x with h | h
    · rw [h1] at h; exact absurd h hjx
    · rw [h, h1]
  have hfv : a.eval fo = .func (.func f) (SV.dens ρ first).toArray (SV.dens ρ caps).toArray := by
    rw [hev fo (by simp) (by rw [hf]; simp), hf]; rfl
  have hargs : (c.args.map a.eval).toList = AV.dens ρ avs := by
    have gen : ∀ l : List Operand, (∀ x ∈ l, x ∈ fo :: c.args.toList) → (∀ v ∈ l.map (evalO tm), v ≠ .junk) → l.map a.eval = AV.dens ρ (l.map (evalO tm)) := by
      intro l
      induction l with
      | nil => intro _ _; rfl
      | cons x l ih =>
        intro h1 h2
        simp only [List.map_cons, AV.dens]
        rw [hev x (h1 x (by simp)) (h2 _ (by simp)), ih (fun y hy => h1 y (by simp [hy])) (fun v hv => h2 v (by simp at hv ⊢; exact .inr hv))]
    rw [Array.toList_map, gen _ (fun x hx => by simp at hx ⊢; exact .inr hx) (by rw [ha]; exact hj), ha]
  have hok₂ : CallOk p base hp₂ hc hc' chg := ⟨hok.len, hok.len', hok.below, hok.inj, fun i b hi => by
      obtain ⟨⟨b', h1, h2⟩, h3⟩ := hok.pre i b hi
      refine ⟨⟨b', ?_, h2⟩, h3⟩
      have hip : i < p.length := by rw [hok.len]; exact hpL_lt hi
      rw [hh (p.getD i 0) (by show _ ∈ p; rw [List.getD_eq_getElem?_getD, List.getElem?_eq_getElem hip]; exact List.getElem_mem hip)]
      exact h1, hok.keep, hok.chgw, hok.neww, hok.scope⟩
  have dens_map : ∀ l : List SV, AV.dens ρ (l.map .sc) = SV.dens ρ l := by
    intro l; induction l with
    | nil => rfl
    | cons x l ih => simp only [List.map_cons, AV.dens, SV.dens, ih]; rfl
  have dens_app : ∀ l m : List AV, AV.dens ρ (l ++ m) = AV.dens ρ l ++ AV.dens ρ m := by
    intro l m; induction l with
    | nil => rfl
    | cons x l ih => simp only [List.cons_append, AV.dens, ih]
  have hrun : (execOp a.eval o).run P w = .ok (.enter f (AV.dens (fun i => ρ (emb p base i)) cargs).toArray) w := by
    have h1 : AV.dens (fun i => ρ (emb p base i)) cargs = SV.dens ρ first ++ (AV.dens ρ avs ++ SV.dens ρ caps) := by
      rw [← AV.dens_ren, heq, dens_app, dens_app, dens_map, dens_map]
    unfold execOp
    rw [ho]
    show Sem.run P ((resolve a.eval c o.type).bind fun d => invoke d.target d.args) w = _
    unfold resolve
    rw [hfo]
    simp only []
    rw [hfv]
    show Sem.run P (callFunc f ((SV.dens ρ first).toArray ++ c.args.map a.eval ++ (SV.dens ρ caps).toArray)) w = _
    rw [run_callFunc hcb, h1]
    congr 2
    apply Array.ext'
    simp [← hargs]
  unfold Oper.wp
  rw [hrun]
  show Calls P f _ w _
  refine (hF _ _ w hok.len.symm.symm (call_into hok₂ hs)).mono ?_
  rintro e w' ⟨ρc, v, rfl, hv, hb⟩
  obtain ⟨k1, k2⟩ := call_back (r := r) hok₂ hs h0 (fun i h1 h2 => ⟨(hcl i h1 h2).1, (hcl i h1 h2).2.1⟩) hb
  refine hK _ v w' (fun i hi => ?_) ?_ k2
  · unfold unemb; rw [if_neg hi]
  · rcases hv with hv | hv
    · exact .inl (by rw [hv]; rfl)
    · refine .inr ?_
      show v = (r.ren (emb p base)).den _
      rw [AV.den_ren, hv]
      exact (AV.den_congr r fun x hx => (k1 x (hr x hx))).symm
end Go.Proofs.Ytdmcbfmpnakdfaa.Eng
