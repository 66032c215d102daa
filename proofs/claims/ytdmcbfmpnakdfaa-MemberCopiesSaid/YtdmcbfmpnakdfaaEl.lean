/- Operations read off, yet further ones: literals, appends, slices of slices, comparisons, maps. -/
import Derived.Test.YtdmcbfmpnakdfaaEj
namespace Go.Proofs.Ytdmcbfmpnakdfaa.Eng
open Go

/-! Literals. -/
def bldS : List (Nat × Nat) → Segs → List (Nat × AV) → Option Segs
  | _, s, [] => some s
  | fs, s, (i, a) :: r => match fs[i]?, avSegs a with
    | some (off, sz), some x => match Segs.size x == sz && Segs.oneB x, repS s off x with
      | true, some s' => bldS fs s' r
      | _, _ => none
    | _, _ => none
theorem fold_set (v : List Value) : ∀ (cells : Array Value) (off : Nat), off + v.length ≤ cells.size →
    ((v.toArray.zipIdx.foldl (fun cs (x : Value × Nat) => cs.setIfInBounds (off + x.2) x.1) cells)).toList = cells.toList.take off ++ (v ++ cells.toList.drop (off + v.length)) := by
  have gen : ∀ (v : List Value) (k : Nat) (cells : Array Value) (off : Nat), off + k + v.length ≤ cells.size →
      ((v.zipIdx k).foldl (fun cs (x : Value × Nat) => cs.setIfInBounds (off + x.2) x.1) cells).toList = cells.toList.take (off + k) ++ (v ++ cells.toList.drop (off + k + v.length)) := by
    intro v
    induction v with
    | nil => intro k cells off h; simp
    | cons x v ih =>
      intro k cells off h
      simp only [List.length_cons] at h
      simp only [List.zipIdx_cons, List.foldl_cons]
      rw [ih (k + 1) _ off (by simp; omega)]
      simp only [Array.toList_setIfInBounds, List.length_cons]
      have hlen : off + k < cells.toList.length := by simp; omega
      rw [show off + (k + 1) = off + k + 1 by omega, List.take_succ_eq_append_getElem (by simpa using hlen), List.take_set, List.getElem_set_self]
      rw [List.set_eq_of_length_le (by simp; omega), List.drop_set, if_pos (by omega), show off + k + 1 + v.length = off + k + (v.length + 1) by omega]
      simp
  intro cells off h
  have := gen v 0 cells off (by omega)
  simp only [Nat.add_zero] at this
  rw [← this, ← Array.foldl_toList]
  simp
theorem bldS_spec {ρ : Ren} {place : Nat → Option (Nat × Nat)} {fs : List (Nat × Nat)} (hpl : ∀ i x, fs[i]? = some x → place i = some x) : ∀ (parts : List (Nat × AV)) (s s' : Segs) (cells : Array Value), cells.toList = Segs.den ρ s → bldS fs s parts = some s' →
    ∃ cells', Instr.fill place cells (parts.map fun p => (p.1, p.2.den ρ)) = some cells' ∧ cells'.toList = Segs.den ρ s' := by
  intro parts
  induction parts with
  | nil => intro s s' cells hc h; cases h; exact ⟨cells, rfl, hc⟩
  | cons p parts ih =>
    intro s s' cells hc h
    obtain ⟨i, a⟩ := p
    unfold bldS at h
    split at h
    · rename_i off sz x hf hx
      split at h
      · rename_i s1 hb hr
        simp only [Bool.and_eq_true, beq_iff_eq] at hb
        obtain ⟨r1, r2, r3, r4⟩ := repS_den (ρ := ρ) hr
        have hcells := avSegs_cells hx hb.2 ρ
        have hxl : (Segs.den ρ x).length = sz := by rw [Segs.den_length, hb.1]
        have hcl : cells.size = Segs.size s := by rw [← Array.length_toList, hc, Segs.den_length]
        have hf2 := fold_set (Segs.den ρ x) cells off (by rw [Segs.den_length]; omega)
        obtain ⟨c', k1, k2⟩ := ih s1 s' _ (by rw [hf2, hc, r3, Segs.den_length]) h
        refine ⟨c', ?_, k2⟩
        simp only [List.map_cons, Instr.fill, hpl i _ hf, hcells]
        have e1 : ¬ ((Segs.den ρ x).toArray.size ≠ sz ∨ off + (Segs.den ρ x).toArray.size > cells.size) := by
          simp only [List.size_toArray, Segs.den_length]; omega
        have e2 : (decide ((Segs.den ρ x).toArray.size ≠ sz) || decide (off + (Segs.den ρ x).toArray.size > cells.size)) = false := by
          simp only [List.size_toArray, Segs.den_length]
          simp; omega
        simp only [e2, Bool.false_eq_true, if_false]
        exact k1
      · cases h
    · cases h
  
/-- Values of parts, closed. -/
def partsAV (l : LTm) (ps : List (Nat × Operand)) : List (Nat × AV) := ps.map fun p => (p.1, evalO (tmL l) p.2)
def fldSz (T : Tab) : List (Nat × TypeId) → Option (List (Nat × Nat))
  | [] => some []
  | (off, ft) :: r => match T.lookup ft, fldSz T r with
    | some d, some x => some ((off, d.size) :: x)
    | _, _ => none
def evBuild (T : Tab) (t : TypeId) (parts : List (Nat × AV)) (K : Eff → Prop) : Prop :=
  match T.lookup t with
  | some ⟨.st fs, _, _, .agg z⟩ => match fldSz T fs with
    | some fl => match bldS fl z parts with
      | some s => K { val := .agg s }
      | none => False
    | none => False
  | some ⟨.arr _ e, _, _, .agg z⟩ => match T.lookup e with
    | some d => match bldS ((List.range 70).map fun i => (i * d.size, d.size)) z parts with
      | some s => K { val := .agg s }
      | none => False
    | none => False
  | _ => False

section
variable {P : Program} {T : Tab} {o : Oper} {l : LTm} {h : LHp} {K : Eff → Prop}
theorem fldSz_spec (hT : TabOk P T) : ∀ (fields : List Field) (fl : List (Nat × Nat)), fldSz T (fields.map fun f => (f.offset, f.type)) = some fl → ∀ w, (fields.mapM (fun f => (do pure (f.offset, ← sizeOf f.type) : Sem (Nat × Nat)))).run P w = .ok fl w
  | [], fl, h, w => by cases h; rfl
  | f :: r, fl, h, w => by
    simp only [List.map_cons, fldSz] at h
    split at h
    · rename_i d x hd hx
      cases h
      have ih := fldSz_spec hT r x hx w
      have := (tab_get hT hd).sz w
      simp only [List.mapM_cons, Sem.run_bind, this, Result.andThen_ok, Sem.run_pure, ih]
    · cases h
theorem bldS_nj {fs : List (Nat × Nat)} : ∀ {parts : List (Nat × AV)} {s s' : Segs}, bldS fs s parts = some s' → ∀ p ∈ parts, p.2 ≠ .junk
  | (i, a) :: r, s, s', h, p, hp => by
    unfold bldS at h
    split at h
    · rename_i off sz x hf hx
      split at h
      · rename_i s1 hb hr
        rcases List.mem_cons.1 hp with rfl | hp
        · intro hc; simp only at hc; rw [hc] at hx; cases hx
        · exact bldS_nj h p hp
      · cases h
    · cases h
theorem evBuild_sound (hT : TabOk P T) {t : TypeId} {ps : Array (Nat × Operand)} (ho : o.op = .build t ps) (hk : evBuild T t (partsAV l ps.toList) K) : ∃ e, OpL P o l h e ∧ K e := by
  have hops : o.op.operands.toList = ps.toList.map (·.2) := by rw [ho]; simp [Op.operands]
  have hparts : ∀ (s s' : Segs) (fs : List (Nat × Nat)) (ρ : Ren) (ev : Operand → Value), bldS fs s (partsAV l ps.toList) = some s' → Evals ρ (tmL l) o.op.operands.toList ev →
      (ps.map fun p => (p.1, ev p.2)).toList = (partsAV l ps.toList).map fun p => (p.1, p.2.den ρ) := by
    intro s s' fs ρ ev hb hev
    have hnj := bldS_nj hb
    simp only [partsAV, Array.toList_map, List.map_map]
    apply List.map_congr_left
    intro p hp
    simp only [Function.comp, Prod.mk.injEq, true_and]
    have h1 := hev p.2 (by rw [hops]; exact List.mem_map.2 ⟨p, hp, rfl⟩)
    exact h1.resolve_left (hnj (p.1, evalO (tmL l) p.2) (List.mem_map.2 ⟨p, hp, rfl⟩))
  unfold evBuild at hk
  split at hk
  · rename_i fs s' b' z hd
    split at hk
    · rename_i fl hfl
      split at hk
      · rename_i s hb
        refine ⟨_, ?_, hk⟩
        obtain ⟨ty, hu, hrun⟩ := (tab_get hT hd).und
        obtain ⟨fields, rfl, hfs⟩ := hu
        refine opL_reads fun hp₂ hh Γ ρ w ev hs hev => ⟨_, ?_, .inr rfl⟩
        have hz := (tab_get hT hd).zero ρ w
        have hp := hparts _ _ _ ρ ev hb hev
        have hplaces := fldSz_spec hT fields.toList fl (by rw [hfs]; exact hfl) w
        obtain ⟨c', k1, k2⟩ := bldS_spec (ρ := ρ) (place := (fl.toArray[·]?)) (fs := fl) (fun i x hi => by simpa using hi) _ z s (Segs.den ρ z).toArray (by simp) hb
        have hc : c' = (Segs.den ρ s).toArray := by apply Array.ext'; rw [k2]
        have hmm : (fields.mapM (fun f => (do pure (f.offset, ← sizeOf f.type) : Sem (Nat × Nat)))).run P w = .ok fl.toArray w := by
          rw [Array.mapM_eq_mapM_toList, Sem.run_map, hplaces]; rfl
        unfold execOp
        simp only [ho, Instr.build]
        simp only [Sem.run_bind, hz, Result.andThen_ok, AV.den, Value.cells, hrun, hmm, hp, k1, hc]
        rfl
      · exact hk.elim
    · exact hk.elim
  · rename_i n e s' b' z hd
    split at hk
    · rename_i d hde
      split at hk
      · rename_i s hb
        refine ⟨_, ?_, hk⟩
        obtain ⟨ty, hu, hrun⟩ := (tab_get hT hd).und
        simp only [TKOk] at hu
        subst hu
        refine opL_reads fun hp₂ hh Γ ρ w ev hs hev => ⟨_, ?_, .inr rfl⟩
        have hz := (tab_get hT hd).zero ρ w
        have hsz := (tab_get hT hde).sz w
        have hp := hparts _ _ _ ρ ev hb hev
        obtain ⟨c', k1, k2⟩ := bldS_spec (ρ := ρ) (place := fun i => some (i * d.size, d.size)) (fs := (List.range 70).map fun i => (i * d.size, d.size)) (fun i x hi => by
          simp only [List.getElem?_map, Option.map_eq_some_iff] at hi
          obtain ⟨j, hj, rfl⟩ := hi
          have := List.getElem?_eq_some_iff.1 hj
          obtain ⟨h1, h2⟩ := this
          simp at h2; subst h2; rfl) _ z s (Segs.den ρ z).toArray (by simp) hb
        have hc : c' = (Segs.den ρ s).toArray := by apply Array.ext'; rw [k2]
        unfold execOp
        simp only [ho, Instr.build]
        simp only [Sem.run_bind, hz, Result.andThen_ok, AV.den, Value.cells, hrun, hsz, hp, k1, hc]
        rfl
      · exact hk.elim
    · exact hk.elim
  · exact hk.elim
end
end Go.Proofs.Ytdmcbfmpnakdfaa.Eng
