/- Operations read off: slices made, appended to, cut. -/
import Derived.Test.YtdmcbfmpnakdfaaEl
namespace Go.Proofs.Ytdmcbfmpnakdfaa.Eng
open Go

def bldL (sz : Nat) : List Segs → List (Nat × AV) → Option (List Segs)
  | L, [] => some L
  | L, (i, a) :: r => match avSegs a with
    | some x => match Segs.size x == sz && (Segs.oneB x && decide (i < L.length)) with
      | true => bldL sz (L.set i x) r
      | false => none
    | none => none
def segsIds : List Segs → List Nat
  | [] => []
  | e :: l => Segs.ids e ++ segsIds l
theorem segsIds_mem {L : List Segs} {e : Segs} (he : e ∈ L) {x : Nat} (hx : x ∈ Segs.ids e) : x ∈ segsIds L := by
  induction L with
  | nil => cases he
  | cons y l ih =>
    rcases List.mem_cons.1 he with rfl | he
    · exact List.mem_append.2 (.inl hx)
    · exact List.mem_append.2 (.inr (ih he))
theorem segsIds_of {L : List Segs} {x : Nat} (hx : x ∈ segsIds L) : ∃ e ∈ L, x ∈ Segs.ids e := by
  induction L with
  | nil => cases hx
  | cons y l ih =>
    rcases List.mem_append.1 hx with h | h
    · exact ⟨y, by simp, h⟩
    · obtain ⟨e, he, hx⟩ := ih h
      exact ⟨e, by simp [he], hx⟩
def evBuildSlice (T : Tab) (t : TypeId) (n : Nat) (h : LHp) (parts : List (Nat × AV)) (K : Eff → Prop) : Prop :=
  match T.lookup t with
  | some ⟨.slice e, _, _, _⟩ => match T.lookup e with
    | some d => match avSegs d.z with
      | some z => match bldL d.size (List.replicate n z) parts with
        | some L => chkB (decide (n * d.size ≤ 2 ^ 24) && (Segs.size z == d.size && Segs.oneB z)) <| K { val := .sc (.sl h.length 0 d.size n (some n)), news := [some (.row .ex e d.size L (segsIds L))] }
        | none => False
      | none => False
    | none => False
  | _ => False

section
variable {P : Program} {T : Tab} {o : Oper} {l : LTm} {h : LHp} {K : Eff → Prop}
theorem bldL_spec {ρ : Ren} {sz : Nat} : ∀ (parts : List (Nat × AV)) (L L' : List Segs) (cells : Array Value), (∀ e ∈ L, Segs.size e = sz) → cells.toList = rowDen ρ L → bldL sz L parts = some L' →
    (∃ cells', Instr.fill (fun i => some (i * sz, sz)) cells (parts.map fun p => (p.1, p.2.den ρ)) = some cells' ∧ cells'.toList = rowDen ρ L') ∧ (∀ e ∈ L', Segs.size e = sz) ∧ L'.length = L.length ∧ (∀ p ∈ parts, p.2 ≠ .junk) ∧
    ∀ e ∈ L', e ∈ L ∨ ∃ p ∈ parts, avSegs p.2 = some e := by
  intro parts
  induction parts with
  | nil => intro L L' cells hs hc h; cases h; exact ⟨⟨cells, rfl, hc⟩, hs, rfl, by simp, fun e he => .inl he⟩
  | cons p parts ih =>
    intro L L' cells hs hc h
    obtain ⟨i, a⟩ := p
    unfold bldL at h
    split at h
    · rename_i x hx
      split at h
      · rename_i hb
        simp only [Bool.and_eq_true, beq_iff_eq, decide_eq_true_eq] at hb
        obtain ⟨hb1, hb2, hi⟩ := hb
        have hs' : ∀ e ∈ L.set i x, Segs.size e = sz := fun e he => by
          rcases List.mem_or_eq_of_mem_set he with h | rfl
          · exact hs e h
          · exact hb1
        have hcells := avSegs_cells hx hb2 ρ
        have hxl : (Segs.den ρ x).length = sz := by rw [Segs.den_length, hb1]
        have hcl : cells.size = L.length * sz := by rw [← Array.length_toList, hc, rowDen_length L hs]
        have hmul : i * sz + sz ≤ L.length * sz := by
          have := Nat.mul_le_mul_right sz (show i + 1 ≤ L.length by omega)
          rw [Nat.add_mul] at this; omega
        have hf2 := fold_set (Segs.den ρ x) cells (i * sz) (by omega)
        have hnew : (((Segs.den ρ x).toArray.zipIdx.foldl (fun cs (y : Value × Nat) => cs.setIfInBounds (i * sz + y.2) y.1) cells)).toList = rowDen ρ (L.set i x) := by
          rw [hf2, hc, rowDen_set ρ hi]
          obtain ⟨e, he⟩ : ∃ e, L[i]? = some e := ⟨L[i], by simp [hi]⟩
          obtain ⟨s1, s2⟩ := row_split ρ L hs i e he
          have hel : (Segs.den ρ e).length = sz := by rw [Segs.den_length, hs e (List.mem_of_getElem? he)]
          have e1 : List.take (i * sz) (rowDen ρ L) = rowDen ρ (L.take i) := by rw [s1, ← s2, List.take_left']; rfl
          have e2 : List.drop (i * sz + sz) (rowDen ρ L) = rowDen ρ (L.drop (i + 1)) := by
            rw [s1, ← s2, List.drop_append, List.drop_of_length_le (by omega), show (rowDen ρ (List.take i L)).length + sz - (rowDen ρ (List.take i L)).length = sz by omega, ← hel, List.drop_left']
            · simp
            · rfl
          rw [e1, hxl, e2]
        obtain ⟨⟨c', k1, k2⟩, k3, k4, k5, k6⟩ := ih (L.set i x) L' _ hs' hnew h
        refine ⟨⟨c', ?_, k2⟩, k3, by rw [k4, List.length_set], fun q hq => ?_, fun e he => ?_⟩
        · simp only [List.map_cons, Instr.fill, hcells]
          have e2 : (decide ((Segs.den ρ x).toArray.size ≠ sz) || decide (i * sz + (Segs.den ρ x).toArray.size > cells.size)) = false := by
            simp only [List.size_toArray, hxl]
            simp; omega
          simp only [e2, Bool.false_eq_true, if_false]
          exact k1
        · rcases List.mem_cons.1 hq with rfl | hq
          · intro hc; simp only at hc; rw [hc] at hx; cases hx
          · exact k5 q hq
        · rcases k6 e he with h1 | ⟨q, hq, h1⟩
          · rcases List.mem_or_eq_of_mem_set h1 with h2 | rfl
            · exact .inl h2
            · exact .inr ⟨(i, a), by simp, hx⟩
          · exact .inr ⟨q, by simp [hq], h1⟩
      · cases h
    · cases h
theorem bldL_oneB {sz : Nat} : ∀ (parts : List (Nat × AV)) (L L' : List Segs), bldL sz L parts = some L' → (∀ e ∈ L, Segs.oneB e = true) → ∀ e ∈ L', Segs.oneB e = true := by
  intro parts
  induction parts with
  | nil => intro L L' h hs; cases h; exact hs
  | cons p parts ih =>
    intro L L' h hs
    obtain ⟨i, a⟩ := p
    unfold bldL at h
    split at h
    · split at h
      · rename_i hb
        simp only [Bool.and_eq_true] at hb
        exact ih _ L' h fun e he => by
          rcases List.mem_or_eq_of_mem_set he with h | rfl
          · exact hs e h
          · exact hb.2.1
      · cases h
    · cases h
theorem partsAV_mem {ps : List (Nat × Operand)} {p : Nat × AV} (hp : p ∈ partsAV l ps) : ∃ x ∈ ps.map (·.2), p.2 = evalO (tmL l) x := by
  obtain ⟨q, hq, rfl⟩ := List.mem_map.1 hp
  exact ⟨q.2, List.mem_map.2 ⟨q, hq, rfl⟩, rfl⟩
theorem rowDen_replicate (ρ : Ren) (z : Segs) (n : Nat) : (rowDen ρ (List.replicate n z)).length = n * Segs.size z := by
  induction n with
  | zero => simp [rowDen]
  | succ n ih => simp only [List.replicate_succ, rowDen, List.flatMap_cons, List.length_append, Segs.den_length] at *; rw [ih, Nat.add_mul]; omega
/-- Zeros, one row's worth. -/
theorem zeros_row (ρ : Ren) (z : Segs) (n : Nat) : ((Array.range (n * Segs.size z)).map (fun i => (Segs.den ρ z).toArray[i % (Segs.den ρ z).toArray.size]!)).toList = rowDen ρ (List.replicate n z) := by
  have hl := Segs.den_length ρ z
  apply List.ext_getElem?
  intro i
  simp only [Array.toList_map, Array.toList_range, List.size_toArray, hl]
  by_cases hi : i < n * Segs.size z
  · rw [List.getElem?_map, List.getElem?_range hi]
    have hz : 0 < Segs.size z := by
      rcases Nat.eq_zero_or_pos (Segs.size z) with h | h
      · rw [h] at hi; simp at hi
      · exact h
    have hsplit := row_split ρ (List.replicate n z) (sz := Segs.size z) (fun e he => by rw [(List.mem_replicate.1 he).2]) (i / Segs.size z) z (by
      rw [List.getElem?_replicate, if_pos (Nat.div_lt_of_lt_mul (by rw [Nat.mul_comm]; exact hi))])
    rw [hsplit.1, List.getElem?_append_right (by rw [hsplit.2]; exact Nat.div_mul_le_self _ _), hsplit.2]
    have e1 : i - i / Segs.size z * Segs.size z = i % Segs.size z := by
      have := Nat.div_add_mod i (Segs.size z)
      rw [Nat.mul_comm] at this; omega
    have hm : i % Segs.size z < Segs.size z := Nat.mod_lt _ hz
    rw [e1, List.getElem?_append_left (by rw [hl]; exact hm)]
    simp only [Option.map_some]
    have : (Segs.den ρ z).toArray[i % Segs.size z]! = (Segs.den ρ z)[i % Segs.size z]'(by rw [hl]; exact hm) := by
      simp [hl, hm]
    rw [this, List.getElem?_eq_getElem (by rw [hl]; exact hm)]
  · rw [List.getElem?_eq_none (by simp; omega), List.getElem?_eq_none (by rw [rowDen_replicate]; omega)]

/-- A new row that is known whole. -/
theorem new_row_sat {Γ : Ctx} {ρ : Ren} {hp : AHeap} {w : World} {base : Nat} {e : TypeId} {sz : Nat} {L : List Segs} {md : Md} (hmd : md = .ex ∨ md = .one) (hsat : Sat Γ ρ hp w) (hn : hp base = none) (h0 : Γ.n0 ≤ base) (hcl : ∀ j b, hp j = some b → base ∉ b.ms)
    (hs : ∀ x ∈ L, Segs.size x = sz ∧ Segs.oneB x = true) (hids : ∀ x ∈ segsIds L, x ≠ base) :
    Sat Γ (updR ρ base ⟨w.heap.size, 0, L.length⟩) (upd hp base (some (.row md e sz L (segsIds L)))) (w.alloc (.cells (rowDen ρ L).toArray e)) := by
  refine hsat.alloc (b' := .row md e sz L (segsIds L)) L.length hn h0 hcl ?_
  have hnew : (w.alloc (.cells (rowDen ρ L).toArray e)).heap[w.heap.size]? = some (.cells (rowDen ρ L).toArray e) := by
    show (w.heap.push _)[w.heap.size]? = _
    simp
  have hd : rowDen (updR ρ base ⟨w.heap.size, 0, L.length⟩) L = rowDen ρ L := rowDen_congr L fun x hx y hy => updR_ne _ _ (hids y (segsIds_mem hx hy))
  refine ⟨hs, fun x hx y hy => segsIds_mem hx hy, by simp [updR_same], ?_⟩
  rcases hmd with rfl | rfl
  · exact ⟨(rowDen ρ L).toArray, by rw [updR_same]; exact hnew, by rw [hd], by rw [updR_same], by rw [updR_same]⟩
  · exact ⟨(rowDen ρ L).toArray, by rw [updR_same]; exact hnew, by rw [hd], by rw [updR_same], by rw [updR_same]⟩

theorem evBuildSlice_sound (hT : TabOk P T) {t : TypeId} {n : Nat} {ps : Array (Nat × Operand)} (ho : o.op = .buildSlice t n ps) (hk : evBuildSlice T t n h (partsAV l ps.toList) K) : ∃ e, OpL P o l h e ∧ K e := by
  have hops : o.op.operands.toList = ps.toList.map (·.2) := by rw [ho]; simp [Op.operands]
  unfold evBuildSlice at hk
  split at hk
  · rename_i e s' b' z' hd
    split at hk
    · rename_i d hde
      split at hk
      · rename_i z hz
        split at hk
        · rename_i L hb
          obtain ⟨hkk, hk⟩ := chkB_spec hk
          simp only [Bool.and_eq_true, decide_eq_true_eq, beq_iff_eq] at hkk
          obtain ⟨k1, k2, k3⟩ := hkk
          refine ⟨_, ?_, hk⟩
          obtain ⟨ty, hu, hrun⟩ := (tab_get hT hd).und
          simp only [TKOk] at hu
          subst hu
          refine OpT.of_run fun hp₂ _ hcl hsc Γ ρ w ev h0 hsat hev => ?_
          have hc := hcl h.length (Nat.le_refl _) (by simp)
          have hzr := (tab_get hT hde).zero ρ w
          have hsz := (tab_get hT hde).sz w
          have hzc := avSegs_cells hz k3 ρ
          have hspec := bldL_spec (ρ := ρ) (partsAV l ps.toList) (List.replicate n z) L ((Array.range (n * d.size)).map (fun i => (Segs.den ρ z).toArray[i % (Segs.den ρ z).toArray.size]!)) (fun e he => by rw [(List.mem_replicate.1 he).2]; exact k2) (by rw [← k2]; exact zeros_row ρ z n) hb
          obtain ⟨⟨c', g1, g2⟩, g3, g4, g5, g6⟩ := hspec
          have hc' : c' = (rowDen ρ L).toArray := by apply Array.ext'; rw [g2]
          have hLn : L.length = n := by rw [g4]; simp
          have hp : (ps.map fun p => (p.1, ev p.2)).toList = (partsAV l ps.toList).map fun p => (p.1, p.2.den ρ) := by
            simp only [partsAV, Array.toList_map, List.map_map]
            apply List.map_congr_left
            intro p hp
            simp only [Function.comp, Prod.mk.injEq, true_and]
            have h1 := hev p.2 (by rw [hops]; exact List.mem_map.2 ⟨p, hp, rfl⟩)
            exact h1.resolve_left (g5 (p.1, evalO (tmL l) p.2) (List.mem_map.2 ⟨p, hp, rfl⟩))
          have g7 : ∀ x ∈ L, Segs.oneB x = true := by
            intro x hx
            exact bldL_oneB (partsAV l ps.toList) (List.replicate n z) L hb (fun e he => by rw [(List.mem_replicate.1 he).2]; exact k3) x hx
          have hids : ∀ x ∈ segsIds L, x ≠ h.length := by
            intro x hx hxe
            obtain ⟨e0, he0, hx0⟩ := segsIds_of hx
            rcases g6 e0 he0 with h1 | ⟨p, hp1, h1⟩
            · rw [(List.mem_replicate.1 h1).2, avSegs_ids hz, (tab_get hT hde).zi] at hx0; cases hx0
            · obtain ⟨y, hy, hye⟩ := partsAV_mem hp1
              rw [avSegs_ids h1, hye] at hx0
              exact hsc y (by rw [hops]; exact hy) x (by omega) (by simp; omega) hx0
          have hsat' := new_row_sat (e := e) (md := .ex) (.inl rfl) hsat hc.1 h0 hc.2 (fun x hx => ⟨g3 x hx, g7 x hx⟩) hids
          refine ⟨updR ρ h.length ⟨w.heap.size, 0, L.length⟩, .slice (some ⟨w.heap.size, 0, none⟩) n n, w.alloc (.cells (rowDen ρ L).toArray e), .inl ?_, fun i hi => updR_ne _ _ (fun e => hi (by simp [e])), .inr ?_, ?_⟩
          · unfold execOp
            simp only [ho, Instr.buildSlice]
            have hbig : ¬ (n * d.size > 2 ^ 24) := by omega
            simp only [Sem.run_bind, hrun, Result.andThen_ok, hsz, Sem.run_ite, hbig, if_false]
            by_cases hnz : n * d.size = 0
            · simp only [hnz, if_true, Sem.run_pure, Result.andThen_ok]
              have hg : Instr.fill (fun i => some (i * d.size, d.size)) ((Array.range 0).map fun i => (#[] : Array Value)[i % (#[] : Array Value).size]!) (ps.map fun p => (p.1, ev p.2)).toList = some c' := by
                rw [hp, ← g1]
                congr 1
                rw [hnz]
                apply Array.ext'
                simp
              rw [hg, hc']
              simp [newRow]
            · simp only [hnz, if_false, Sem.run_bind, hzr, Result.andThen_ok, Sem.run_pure, hzc]
              rw [hp, g1, hc']
              simp [newRow]
          · simp [AV.den, SV.den, updR_same]
          · rw [app_new _ _ _ _ hc.1]; exact hsat'
        · exact hk.elim
      · exact hk.elim
    · exact hk.elim
  · exact hk.elim
end
end Go.Proofs.Ytdmcbfmpnakdfaa.Eng
