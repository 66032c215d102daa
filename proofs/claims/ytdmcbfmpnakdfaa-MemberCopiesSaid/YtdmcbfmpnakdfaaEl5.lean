/- Operations read off: comparisons of arrays of bytes, maps, interfaces, the rest. -/
import Derived.Test.YtdmcbfmpnakdfaaEl4
namespace Go.Proofs.Ytdmcbfmpnakdfaa.Eng
open Go

/-- An array of bytes, as its type says. -/
structure EqArr (P : Program) (t : TypeId) (n : Nat) : Prop where
  u : ∃ e, P.underlying t = some (.array n e) ∧ P.underlying e = some (.int .u8) ∧ P.cellsOf e = 1 ∧ ∃ i, P.info? e = some i
  g : P.eqGuardType P.depth t = false
def evEqA (P : Program) (op : BinOp) (t : TypeId) (K : Eff → Prop) : Segs → Segs → Prop
  | [.byt n a], [.byt m b] => n = m ∧ EqArr P t n ∧ (match op with
    | .eql => ∀ c : Bool, (c = true ↔ bysN n a = bysN n b) → K { val := .sc (.raw (.bool c)) }
    | .neq => ∀ c : Bool, (c = true ↔ bysN n a ≠ bysN n b) → K { val := .sc (.raw (.bool c)) }
    | _ => False)
  | _, _ => False
/-- Bytes that are all there are told by their cells. -/
theorem bysN_eq {n : Nat} {a b : List Nat} (ha : a.length = n) (hb : b.length = n) : bysN n a = bysN n b ↔ a = b := by
  constructor
  · intro h
    apply List.ext_getElem (by omega)
    intro i h1 h2
    have h3 := congrArg (fun q : List Value => q[i]?) h
    simp only [bysN, List.getElem?_map, List.getElem?_range (show i < n by omega), Option.map_some, Option.some.injEq, Value.int.injEq, true_and, List.getD_eq_getElem?_getD, List.getElem?_eq_getElem h1, List.getElem?_eq_getElem h2, Option.getD_some] at h3
    omega
  · intro h; rw [h]

/-! Maps over whole numbers. -/
def keyIs (n : Int) (e : SV × AV) : Bool := match e.1 with
  | .raw (.int _ m) => n == m
  | _ => false
def keysOk (kk : IntKind) (es : List (SV × AV)) : Prop := ∀ e ∈ es, ∃ m, e.1 = .raw (.int kk m)
def updM (kk : IntKind) (n : Int) (v : AV) : List (SV × AV) → List (SV × AV)
  | [] => [(.raw (.int kk n), v)]
  | e :: r => if keyIs n e then (.raw (.int kk n), v) :: r else e :: updM kk n v r
def delM (n : Int) : List (SV × AV) → List (SV × AV)
  | [] => []
  | e :: r => if keyIs n e then r else e :: delM n r
def evLookup (T : Tab) (t : TypeId) (h : LHp) (ok : Bool) (K : Eff → Prop) (x k : AV) : Prop :=
  match T.lookup t, k with
  | some ⟨.map kt et, _, _, _⟩, .sc (.raw (.int kk n)) => match T.lookup kt, T.lookup et with
    | some ⟨.int kk', _, _, _⟩, some d => chkB (kk == kk') <| match x with
      | .sc (.mp id) => match hpL h id with
        | some (.map es ms) => keysOk kk es ∧ ∃ (a : AV) (found : Bool), ((match es.find? (keyIs n) with
            | some e => found = true ∧ a = e.2
            | none => found = false ∧ a = d.z) ∧ a ≠ .junk) ∧ K { val := match ok with | true => .tup [a, .sc (.raw (.bool found))] | false => a, touch := [id] }
        | _ => False
      | .sc (.raw (.map none)) => K { val := match ok with | true => .tup [d.z, .sc (.raw (.bool false))] | false => d.z }
      | _ => False
    | _, _ => False
  | _, _ => False
def evUpdate (T : Tab) (t : TypeId) (h : LHp) (K : Eff → Prop) (x k v : AV) : Prop :=
  match T.lookup t, k, x with
  | some ⟨.map kt _, _, _, _⟩, .sc (.raw (.int kk n)), .sc (.mp id) => match T.lookup kt with
    | some ⟨.int kk', _, _, _⟩ => chkB (kk == kk') <| match hpL h id with
      | some (.map es ms) => (keysOk kk es ∧ v ≠ .junk) ∧ ∃ es', es' = updM kk n v es ∧ K { val := .sc (.raw undef), touch := [id], writes := [(id, some (.map es' (ms ++ v.ids)))] }
      | _ => False
    | _ => False
  | _, _, _ => False
def evDelete (T : Tab) (t : TypeId) (h : LHp) (K : Eff → Prop) (x k : AV) : Prop :=
  match T.lookup t, k, x with
  | some ⟨.map kt _, _, _, _⟩, .sc (.raw (.int kk n)), .sc (.mp id) => match T.lookup kt with
    | some ⟨.int kk', _, _, _⟩ => chkB (kk == kk') <| match hpL h id with
      | some (.map es ms) => keysOk kk es ∧ ∃ es', es' = delM n es ∧ K { val := .tup [], touch := [id], writes := [(id, some (.map es' ms))] }
      | _ => False
    | _ => False
  | _, _, _ => False

section
variable {P : Program} {T : Tab} {o : Oper} {l : LTm} {h : LHp} {K : Eff → Prop}
theorem eqItems_bys {t e : TypeId} {d : Nat} {w : World} (he : P.underlying e = some (.int .u8)) (hce : P.cellsOf e = 1) {n : Nat} (a b : List Nat) : ∀ (is : List Nat), (∀ i ∈ is, i < n) →
    (Op.eqItems (d + 1) e (P.cellsOf e) (bysN n a).toArray (bysN n b).toArray is).run P w = .ok (is.all fun i => a.getD i 0 == b.getD i 0) w
  | [], _ => by simp [Op.eqItems]
  | i :: is, hi => by
    have ih := eqItems_bys (t := t) (d := d) (w := w) he hce a b is (fun j hj => hi j (by simp [hj]))
    have h1 := hi i (by simp)
    have hna : (isAgg e).run P w = .ok false w := by
      unfold isAgg
      rw [Sem.run_bind, run_underlying he w]
      rfl
    have hg : ∀ c : List Nat, (part e (bysN n c).toArray (i * P.cellsOf e)).run P w = .ok (.int .u8 ((c.getD i 0 : Nat) : Int)) w := by
      intro c
      have : (bysN n c).toArray[i]? = some (.int .u8 ((c.getD i 0 : Nat) : Int)) := by
        simp [bysN, h1]
      simp [part, hna, hce, this]
    have p3 : (Op.equalIn (d + 1) e (.int .u8 ((a.getD i 0 : Nat) : Int)) (.int .u8 ((b.getD i 0 : Nat) : Int))).run P w = .ok (((a.getD i 0 : Nat) : Int) == ((b.getD i 0 : Nat) : Int)) w := by
      simp [Op.equalIn, run_underlying he w]
    simp only [Op.eqItems, Sem.run_bind, hg, p3, Result.andThen_ok]
    have e1 : (((a.getD i 0 : Nat) : Int) == ((b.getD i 0 : Nat) : Int)) = (a.getD i 0 == b.getD i 0) := by
      rw [Bool.eq_iff_iff, beq_iff_eq, beq_iff_eq]; omega
    rw [e1]
    cases hb : (a.getD i 0 == b.getD i 0)
    · simp only [Bool.not_false, if_true, Sem.run_pure, List.all_cons, hb, Bool.false_and]
    · simp only [Bool.not_true, Bool.false_eq_true, if_false, List.all_cons, hb, Bool.true_and]
      exact ih
theorem bysN_iff (n : Nat) (a b : List Nat) : ((List.range n).all fun i => a.getD i 0 == b.getD i 0) = true ↔ bysN n a = bysN n b := by
  rw [List.all_eq_true]
  constructor
  · intro h
    unfold bysN
    apply List.map_congr_left
    intro i hi
    have := h i hi
    rw [beq_iff_eq] at this
    rw [this]
  · intro h i hi
    have h3 := congrArg (fun q : List Value => q[i]?) h
    have hi' := List.mem_range.1 hi
    simp only [bysN, List.getElem?_map, List.getElem?_range hi', Option.map_some, Option.some.injEq, Value.int.injEq, true_and] at h3
    rw [beq_iff_eq]; omega
theorem evEqA_sound {op : BinOp} {t t' : TypeId} {x y : Operand} {s s' : Segs} (ho : o.op = .binOp op t x y t') (hx : evalO (tmL l) x = .agg s) (hy : evalO (tmL l) y = .agg s') (hk : evEqA P op t K s s') : ∃ e, OpL P o l h e ∧ K e := by
  have hmx : x ∈ o.op.operands.toList := by rw [ho]; simp [Op.operands]
  have hmy : y ∈ o.op.operands.toList := by rw [ho]; simp [Op.operands]
  unfold evEqA at hk
  split at hk
  case h_2 => exact hk.elim
  rename_i n a m b
  obtain ⟨rfl, ⟨⟨e, u1, u2, u3, i, u4⟩, hg⟩, hk⟩ := hk
  have hrun : ∀ w d, (Op.equalIn (d + 1 + 1) t (.agg (bysN n a).toArray) (.agg (bysN n b).toArray)).run P w = .ok ((List.range n).all fun i => a.getD i 0 == b.getD i 0) w := by
    intro w d
    rw [run_equalIn_array (d := d + 1) (w := w) (bysN n a).toArray (bysN n b).toArray u1 u4]
    exact eqItems_bys (t := t) u2 u3 a b _ (fun j hj => List.mem_range.1 hj)
  have heq : ∀ w, (Op.equal t (.agg (bysN n a).toArray) (.agg (bysN n b).toArray)).run P w = .ok ((List.range n).all fun i => a.getD i 0 == b.getD i 0) w := by
    intro w
    unfold Op.equal
    rw [show Op.maxDepth = 9998 + 1 + 1 from rfl]
    exact hrun w 9998
  have hdx : ∀ ρ, (AV.agg [.byt n a]).den ρ = .agg (bysN n a).toArray := fun ρ => by simp [AV.den, Segs.den, Seg.den]
  have hdy : ∀ ρ, (AV.agg [.byt n b]).den ρ = .agg (bysN n b).toArray := fun ρ => by simp [AV.den, Segs.den, Seg.den]
  have hguard : ∀ w, (eqGuard op t x y (.agg (bysN n a).toArray) (.agg (bysN n b).toArray)).run P w = .ok () w := by
    intro w
    unfold eqGuard
    cases op <;> simp [hg]
  have fin : ∀ c : Bool, (∀ w, (binOp op t (.agg (bysN n a).toArray) (.agg (bysN n b).toArray)).run P w = .ok (.bool c) w) → OpL P o l h { val := .sc (.raw (.bool c)) } := by
    intro c hc
    refine opL_reads fun hp₂ hh Γ ρ w ev hs hev => ⟨_, ?_, .inr rfl⟩
    have h1 := evals_get hev hmx hx (by simp)
    have h2 := evals_get hev hmy hy (by simp)
    rw [hdx] at h1
    rw [hdy] at h2
    unfold execOp
    simp only [ho, h1, h2]
    simp [hguard, hc, AV.den, SV.den]
  split at hk
  · refine ⟨_, fin _ (fun w => ?_), hk _ (bysN_iff n a b)⟩
    show (do pure (Value.bool (← Op.equal t _ _)) : Sem Value).run P w = _
    rw [Sem.run_bind, heq]; rfl
  · refine ⟨_, fin (!((List.range n).all fun i => a.getD i 0 == b.getD i 0)) (fun w => ?_), hk _ ?_⟩
    · show (do pure (Value.bool (!(← Op.equal t _ _))) : Sem Value).run P w = _
      rw [Sem.run_bind, heq]; rfl
    · rw [Ne, ← bysN_iff]; simp
  · exact hk.elim

/-! Maps. -/
theorem run_checkKey {kt : TypeId} {kk : IntKind} (hr : ∀ w, (underlying kt).run P w = .ok (.int kk) w) (b : Bool) (n : Int) (w : World) : (Instr.checkKey b 10000 kt (.int kk n)).run P w = .ok () w := by
  have gen : ∀ m, (Instr.checkKey b (m + 1) kt (.int kk n)).run P w = .ok () w := by
    intro m
    simp [Instr.checkKey, hr]
  exact gen 9999
/-- Where a key lies. -/
def posM (n : Int) : List (SV × AV) → Nat → Option (Nat × AV)
  | [], _ => none
  | e :: r, i => if keyIs n e then some (i, e.2) else posM n r (i + 1)
theorem findNow_spec {ρ : Ren} {kk : IntKind} {n : Int} : ∀ (ents : List MapEntry) (es : List (SV × AV)) (i : Nat), ents.map (fun e => (e.key, e.val)) = es.map (fun e => (e.1.den ρ, e.2.den ρ)) → keysOk kk es →
    Instr.findNow (.int kk) (.int kk n) ents i = some ((posM n es i).map fun p => (p.1, p.2.den ρ))
  | [], [], i, _, _ => rfl
  | [], _ :: _, i, h, _ => by simp at h
  | _ :: _, [], i, h, _ => by simp at h
  | e :: ents, x :: es, i, h, hk => by
    simp only [List.map_cons, List.cons.injEq, Prod.mk.injEq] at h
    obtain ⟨⟨h1, h2⟩, h3⟩ := h
    obtain ⟨m, hm⟩ := hk x (by simp)
    have hkey : e.key = .int kk m := by rw [h1, hm]; rfl
    have ih := findNow_spec (n := n) ents es (i + 1) h3 (fun y hy => hk y (by simp [hy]))
    unfold Instr.findNow posM
    have hki : keyIs n x = (n == m) := by unfold keyIs; rw [hm]
    rw [hkey, hki]
    simp only [Instr.sameNow, if_true]
    cases hnm : (n == m)
    · simp only [Bool.false_eq_true, if_false]; exact ih
    · simp only [if_true, Option.map_some, h2]
theorem run_findKey {ρ : Ren} {kt : TypeId} {kk : IntKind} {n : Int} {ents : List MapEntry} {es : List (SV × AV)} (hr : ∀ w, (underlying kt).run P w = .ok (.int kk) w) (hm : ents.map (fun e => (e.key, e.val)) = es.map (fun e => (e.1.den ρ, e.2.den ρ))) (hk : keysOk kk es) (w : World) :
    (Instr.findKey kt (.int kk n) ents).run P w = .ok ((posM n es 0).map fun p => (p.1, p.2.den ρ)) w := by
  unfold Instr.findKey
  rw [Sem.run_bind, hr, Result.andThen_ok, findNow_spec ents es 0 hm hk]
  rfl
theorem posM_find (n : Int) : ∀ (es : List (SV × AV)) (i : Nat), (posM n es i).map (·.2) = (es.find? (keyIs n)).map (·.2)
  | [], _ => rfl
  | e :: r, i => by
    unfold posM
    rw [List.find?_cons]
    cases keyIs n e
    · simp only [Bool.false_eq_true, if_false]; exact posM_find n r (i + 1)
    · rfl
theorem posM_some {n : Int} : ∀ {es : List (SV × AV)} {i j : Nat} {v : AV}, posM n es i = some (j, v) → i ≤ j ∧ j - i < es.length ∧ (∀ kk a, updM kk n a es = es.set (j - i) (.raw (.int kk n), a)) ∧ delM n es = es.eraseIdx (j - i) ∧ ∃ e, es[j - i]? = some e ∧ keyIs n e = true
  | [], i, j, v, h => by cases h
  | e :: r, i, j, v, h => by
    unfold posM at h
    split at h
    · rename_i hk
      cases h
      simp [updM, delM, hk]
    · rename_i hk
      obtain ⟨h1, h2, h3, h4, h5⟩ := posM_some h
      have e1 : j - i = (j - (i + 1)) + 1 := by omega
      refine ⟨by omega, by simp; omega, fun kk a => ?_, ?_, ?_⟩
      · rw [e1]; simp [updM, hk, h3 kk a]
      · rw [e1]; simp [delM, hk, h4]
      · rw [e1]; simpa using h5
theorem posM_none {n : Int} : ∀ {es : List (SV × AV)} {i : Nat}, posM n es i = none → (∀ kk a, updM kk n a es = es ++ [(.raw (.int kk n), a)]) ∧ delM n es = es
  | [], i, _ => ⟨fun _ _ => rfl, rfl⟩
  | e :: r, i, h => by
    unfold posM at h
    split at h
    · cases h
    · rename_i hk
      obtain ⟨h1, h2⟩ := posM_none h
      exact ⟨fun kk a => by simp [updM, hk, h1 kk a], by simp [delM, hk, h2]⟩

theorem Sat.map_at {Γ : Ctx} {ρ : Ren} {hp : AHeap} {w : World} {id : Nat} {es : List (SV × AV)} {ms : List Nat} (hs : Sat Γ ρ hp w) (hb : hp id = some (.map es ms)) : ∃ ents clock, w.heap[(ρ id).b]? = some (.map ents clock) ∧ ents.toList.map (fun e => (e.key, e.val)) = es.map (fun e => (e.1.den ρ, e.2.den ρ)) := by
  obtain ⟨_, ents, clock, h3, h4⟩ := hs.blk id _ hb
  exact ⟨ents, clock, h3, h4⟩
theorem evLookup_sound (hT : TabOk P T) {t : TypeId} {x k : Operand} {ok : Bool} (ho : o.op = .lookup t x k ok) (hk : evLookup T t h ok K (evalO (tmL l) x) (evalO (tmL l) k)) : ∃ e, OpL P o l h e ∧ K e := by
  have hmx : x ∈ o.op.operands.toList := by rw [ho]; simp [Op.operands]
  have hmk : k ∈ o.op.operands.toList := by rw [ho]; simp [Op.operands]
  generalize hx : evalO (tmL l) x = u at hk
  generalize hkk : evalO (tmL l) k = v at hk
  unfold evLookup at hk
  split at hk
  case h_2 => exact hk.elim
  rename_i kt et s1 b1 z1 kk n hd
  split at hk
  case h_2 => exact hk.elim
  rename_i kk' s2 b2 z2 d hkt het
  replace hk := chkB_spec hk
  obtain ⟨hq, hk⟩ := hk
  have hq' : kk = kk' := beq_iff_eq.1 hq
  subst hq'
  obtain ⟨ty, hu, hrun⟩ := (tab_get hT hd).und
  simp only [TKOk] at hu
  subst hu
  obtain ⟨ty', hu', hrun'⟩ := (tab_get hT hkt).und
  simp only [TKOk] at hu'
  subst hu'
  have hz := (tab_get hT het).zero
  split at hk
  · rename_i id
    split at hk
    case h_2 => exact hk.elim
    rename_i es ms hb
    obtain ⟨hks, a, found, ⟨hfa, haj⟩, hk⟩ := hk
    refine ⟨_, opL_reads fun hp₂ hh Γ ρ w ev hsat hev => ⟨_, ?_, .inr rfl⟩, hk⟩
    have g1 := evals_get hev hmx hx (by simp)
    have g2 := evals_get hev hmk hkk (by simp)
    obtain ⟨ents, clock, m1, m2⟩ := hsat.map_at (by rw [hh id (by simp)]; exact hb)
    have hfk := run_findKey (n := n) hrun' m2 hks w
    have hpf := posM_find n es 0
    have hget : (getObj (ρ id).b).run P w = .ok (.map ents clock) w := by
      unfold getObj; simp only [Sem.run, m1]
    unfold execOp
    simp only [ho, g1, g2, AV.den, SV.den, Instr.lookup]
    simp only [Sem.run_bind, hrun, Result.andThen_ok, hget, run_checkKey hrun', hfk, Sem.run_pure]
    cases hf : es.find? (keyIs n) with
    | none =>
      rw [hf] at hfa hpf
      obtain ⟨rfl, rfl⟩ := hfa
      have hp0 : posM n es 0 = none := by cases hp : posM n es 0 with
        | none => rfl
        | some y => rw [hp] at hpf; cases hpf
      rw [hp0]
      simp only [Option.map_none, Sem.run_bind, hz ρ w, Result.andThen_ok, Sem.run_pure]
      cases ok <;> simp [AV.den, AV.dens, SV.den]
    | some e =>
      rw [hf] at hfa hpf
      obtain ⟨rfl, rfl⟩ := hfa
      obtain ⟨p, hp0, hp1⟩ : ∃ p, posM n es 0 = some p ∧ p.2 = e.2 := by cases hp : posM n es 0 with
        | none => rw [hp] at hpf; cases hpf
        | some y => rw [hp] at hpf; injection hpf with hpf; exact ⟨y, rfl, hpf⟩
      rw [hp0]
      simp only [Option.map_some, hp1, Sem.run_pure, Result.andThen_ok]
      cases ok <;> simp [AV.den, AV.dens, SV.den]
  · refine ⟨_, opL_reads fun hp₂ hh Γ ρ w ev hsat hev => ⟨_, ?_, .inr rfl⟩, hk⟩
    have g1 := evals_get hev hmx hx (by simp)
    have g2 := evals_get hev hmk hkk (by simp)
    unfold execOp
    simp only [ho, g1, g2, AV.den, SV.den, Instr.lookup]
    have hfk : (Instr.findKey kt (.int kk n) []).run P w = .ok none w := by
      unfold Instr.findKey
      rw [Sem.run_bind, hrun', Result.andThen_ok]; rfl
    simp only [Sem.run_bind, hrun, Result.andThen_ok, run_checkKey hrun', hfk, Sem.run_pure, hz ρ w]
    cases ok <;> simp [AV.den, AV.dens, SV.den]
  · exact hk.elim
theorem run_setObj {P : Program} {r : Nat} {ents : Array MapEntry} {clock : Nat} {ob : Obj} {w : World} (h : w.heap[r]? = some (.map ents clock)) : (setObj r ob).run P w = .ok () { w with heap := w.heap.setIfInBounds r ob } := by
  unfold setObj
  simp only [Sem.run, h]
theorem but_setObj {r : Nat} {ob : Obj} {w : World} : ButAt w { w with heap := w.heap.setIfInBounds r ob } r :=
  ⟨fun c hc => by simp [Array.getElem?_setIfInBounds_ne (Ne.symm hc)], by simp, rfl, rfl, rfl⟩
theorem map_write {Γ : Ctx} {ρ : Ren} {hp : AHeap} {w : World} {id : Nat} {es es' : List (SV × AV)} {ms ms' : List Nat} {ents ents' : Array MapEntry} {clock clock' : Nat} (hs : Sat Γ ρ hp w) (hb : hp id = some (.map es ms)) (hw : w.heap[(ρ id).b]? = some (.map ents clock))
    (hms : ∀ e ∈ es', ∀ x ∈ e.1.ids ++ e.2.ids, x ∈ ms') (hm : ents'.toList.map (fun e => (e.key, e.val)) = es'.map (fun e => (e.1.den ρ, e.2.den ρ))) :
    Sat Γ ρ (upd hp id (some (.map es' ms'))) { w with heap := w.heap.setIfInBounds (ρ id).b (.map ents' clock') } := by
  have hb' := but_setObj (r := (ρ id).b) (ob := .map ents' clock') (w := w)
  refine hs.write hb rfl ⟨hms, ents', clock', ?_, hm⟩ hb'.rest (by rw [hb'.size]; exact Nat.le_refl _) hb'.os hb'.tape hb'.output
  have hlt := (Array.getElem?_eq_some_iff.1 hw).1
  simp [hlt]
theorem app_write (v : AV) (tch : List Nat) (id : Nat) (b : Option ABlk) (base : Nat) (hp : AHeap) : ({ val := v, touch := tch, writes := [(id, b)] } : Eff).app base hp = upd hp id b := by
  funext j
  simp only [Eff.app, List.length_nil, Nat.add_zero, upd, List.lookup_cons, List.lookup_nil]
  rw [if_neg (by omega)]
  by_cases e : j = id
  · subst e; simp
  · have : (j == id) = false := by simpa using e
    simp [this, e]
theorem sameBits_int {kk : IntKind} {n : Int} : Instr.sameBits 10000 (.int kk n) (.int kk n) = true := by
  have : ∀ m, Instr.sameBits m (.int kk n) (.int kk n) = true := fun m => by cases m <;> simp [Instr.sameBits]
  exact this _
theorem updM_ids {kk : IntKind} {n : Int} {v : AV} {ms : List Nat} : ∀ {es : List (SV × AV)}, (∀ e ∈ es, ∀ x ∈ e.1.ids ++ e.2.ids, x ∈ ms) → ∀ e ∈ updM kk n v es, ∀ x ∈ e.1.ids ++ e.2.ids, x ∈ ms ++ v.ids
  | [], _, e, he, x, hx => by
    simp [updM] at he
    subst he
    simp [SV.ids] at hx
    simp [hx]
  | y :: r, h, e, he, x, hx => by
    unfold updM at he
    split at he
    · rcases List.mem_cons.1 he with rfl | he
      · simp [SV.ids] at hx; simp [hx]
      · exact List.mem_append.2 (.inl (h e (by simp [he]) x hx))
    · rcases List.mem_cons.1 he with rfl | he
      · exact List.mem_append.2 (.inl (h e (by simp) x hx))
      · exact updM_ids (es := r) (fun e he => h e (by simp [he])) e he x hx
theorem map_erase {α β : Type} (f : α → β) : ∀ (l : List α) (j : Nat), (l.eraseIdx j).map f = (l.map f).eraseIdx j
  | [], j => by simp
  | x :: l, 0 => rfl
  | x :: l, j + 1 => by simp [map_erase f l j]
theorem delM_sub {n : Int} : ∀ {es : List (SV × AV)}, ∀ e ∈ delM n es, e ∈ es
  | [], e, he => by cases he
  | y :: r, e, he => by
    unfold delM at he
    split at he
    · simp [he]
    · rcases List.mem_cons.1 he with rfl | he
      · simp
      · simp [delM_sub (es := r) e he]
theorem evUpdate_sound (hT : TabOk P T) {t : TypeId} {x k v : Operand} (ho : o.op = .mapUpdate t x k v) (hk : evUpdate T t h K (evalO (tmL l) x) (evalO (tmL l) k) (evalO (tmL l) v)) : ∃ e, OpL P o l h e ∧ K e := by
  have hmx : x ∈ o.op.operands.toList := by rw [ho]; simp [Op.operands]
  have hmk : k ∈ o.op.operands.toList := by rw [ho]; simp [Op.operands]
  have hmv : v ∈ o.op.operands.toList := by rw [ho]; simp [Op.operands]
  generalize hx : evalO (tmL l) x = u at hk
  generalize hkk : evalO (tmL l) k = q at hk
  generalize hv : evalO (tmL l) v = a at hk
  unfold evUpdate at hk
  split at hk
  case h_2 => exact hk.elim
  rename_i kt et s1 b1 z1 kk n id hd
  split at hk
  case h_2 => exact hk.elim
  rename_i kk' s2 b2 z2 hkt
  replace hk := chkB_spec hk
  obtain ⟨hq, hk⟩ := hk
  have hq' : kk = kk' := beq_iff_eq.1 hq
  subst hq'
  split at hk
  case h_2 => exact hk.elim
  rename_i es ms hb
  obtain ⟨⟨hks, haj⟩, es', rfl, hk⟩ := hk
  refine ⟨_, ?_, hk⟩
  obtain ⟨ty, hu, hrun⟩ := (tab_get hT hd).und
  simp only [TKOk] at hu
  subst hu
  obtain ⟨ty', hu', hrun'⟩ := (tab_get hT hkt).und
  simp only [TKOk] at hu'
  subst hu'
  refine OpT.of_run fun hp₂ hh _ _ Γ ρ w ev h0 hsat hev => ?_
  have g1 := evals_get hev hmx hx (by simp)
  have g2 := evals_get hev hmk hkk (by simp)
  have g3 := evals_get hev hmv hv haj
  have hb2 : hp₂ id = some (.map es ms) := by rw [hh id (by simp)]; exact hb
  obtain ⟨ents, clock, m1, m2⟩ := hsat.map_at hb2
  have hfk := run_findKey (n := n) hrun' m2 hks w
  have hids := (hsat.blk id _ hb2).1
  have hget : (getObj (ρ id).b).run P w = .ok (.map ents clock) w := by
    unfold getObj; simp only [Sem.run, m1]
  have hexec : (execOp ev o).run P w = ((Instr.mapUpdate t (.map (some (ρ id).b)) (.int kk n) (a.den ρ)).run P w).andThen fun _ w => .ok .skip w := by
    unfold execOp
    simp only [ho, g1, g2, g3, AV.den, SV.den]
    simp
  cases hp : posM n es 0 with
  | none =>
    rw [hp] at hfk
    obtain ⟨p1, p2⟩ := posM_none hp
    refine ⟨ρ, undef, { w with heap := w.heap.setIfInBounds (ρ id).b (.map (ents.push { key := .int kk n, val := a.den ρ, born := clock }) (clock + 1)) }, .inr ⟨?_, rfl⟩, fun _ _ => rfl, .inr rfl, ?_⟩
    · rw [hexec]
      unfold Instr.mapUpdate
      simp only [Sem.run_bind, hrun, Result.andThen_ok, hget, run_checkKey hrun', hfk, Option.map_none, run_setObj m1]
    · rw [app_write]
      refine map_write hsat hb2 m1 (updM_ids hids) ?_
      rw [p1]
      simp [m2, SV.den]
  | some p =>
    obtain ⟨j, b⟩ := p
    rw [hp] at hfk
    obtain ⟨q1, q2, q3, q4, e0, q5, q6⟩ := posM_some hp
    rw [Nat.sub_zero] at q2 q3 q4 q5
    have hl : ents.size = es.length := by
      have := congrArg List.length m2
      simpa using this
    have hje : ents[j]? = some (ents[j]'(by omega)) := by simp [hl, q2]
    obtain ⟨m, hm⟩ := hks e0 (List.mem_of_getElem? q5)
    have hmn : n = m := by
      unfold keyIs at q6
      rw [hm] at q6
      simpa using q6
    have hkey : (ents[j]'(by omega)).key = .int kk n := by
      have h9 := congrArg (fun q : List (Value × Value) => q[j]?) m2
      simp only [List.getElem?_map, q5, Option.map_some, Array.getElem?_toList, hje] at h9
      injection h9 with h9
      injection h9 with h9 h10
      rw [h9, hm, hmn]; rfl
    refine ⟨ρ, undef, { w with heap := w.heap.setIfInBounds (ρ id).b (.map (ents.modify j fun e => { e with key := .int kk n, val := a.den ρ }) clock) }, .inr ⟨?_, rfl⟩, fun _ _ => rfl, .inr rfl, ?_⟩
    · rw [hexec]
      unfold Instr.mapUpdate
      have hks : (Instr.keyThatStays (((ents[j]?).map (·.key)).getD (.int kk n)) (.int kk n)).run P w = .ok (.int kk n) w := by
        rw [hje]
        simp only [Option.map_some, Option.getD_some, hkey]
        unfold Instr.keyThatStays
        rw [sameBits_int]; rfl
      simp only [Sem.run_bind, hrun, Result.andThen_ok, hget, run_checkKey hrun', hfk, Option.map_some, hks, run_setObj m1]
    · rw [app_write]
      refine map_write hsat hb2 m1 (updM_ids hids) ?_
      rw [q3, List.map_set, ← m2]
      apply List.ext_getElem?
      intro i
      simp only [Array.toList_modify, List.getElem?_map, List.getElem?_modify, List.getElem?_set, List.length_map, Array.length_toList]
      by_cases hij : j = i
      · subst hij
        have hj2 : j < ents.size := by omega
        simp [hj2, SV.den]
      · simp [hij]
theorem evDelete_sound (hT : TabOk P T) {c : Call} {t t' : TypeId} {x k : Operand} (ho : o.op = .call c) (hcal : c.callee = .builtin .delete) (ha : c.args.toList = [x, k]) (hat : c.argTypes.toList = [t, t']) (hk : evDelete T t h K (evalO (tmL l) x) (evalO (tmL l) k)) : ∃ e, OpL P o l h e ∧ K e := by
  have hargs : c.args = #[x, k] := by apply Array.ext'; rw [ha]
  have hts : c.argTypes = #[t, t'] := by apply Array.ext'; rw [hat]
  have hmx : x ∈ o.op.operands.toList := by rw [ho]; simp [Op.operands, Call.operands, hcal, hargs]
  have hmk : k ∈ o.op.operands.toList := by rw [ho]; simp [Op.operands, Call.operands, hcal, hargs]
  generalize hx : evalO (tmL l) x = u at hk
  generalize hkk : evalO (tmL l) k = q at hk
  unfold evDelete at hk
  split at hk
  case h_2 => exact hk.elim
  rename_i kt et s1 b1 z1 kk n id hd
  split at hk
  case h_2 => exact hk.elim
  rename_i kk' s2 b2 z2 hkt
  replace hk := chkB_spec hk
  obtain ⟨hq, hk⟩ := hk
  have hq' : kk = kk' := beq_iff_eq.1 hq
  subst hq'
  split at hk
  case h_2 => exact hk.elim
  rename_i es ms hb
  obtain ⟨hks, es', rfl, hk⟩ := hk
  refine ⟨_, ?_, hk⟩
  obtain ⟨ty, hu, hrun⟩ := (tab_get hT hd).und
  simp only [TKOk] at hu
  subst hu
  obtain ⟨ty', hu', hrun'⟩ := (tab_get hT hkt).und
  simp only [TKOk] at hu'
  subst hu'
  refine OpT.of_run fun hp₂ hh _ _ Γ ρ w ev h0 hsat hev => ?_
  have g1 := evals_get hev hmx hx (by simp)
  have g2 := evals_get hev hmk hkk (by simp)
  have hb2 : hp₂ id = some (.map es ms) := by rw [hh id (by simp)]; exact hb
  obtain ⟨ents, clock, m1, m2⟩ := hsat.map_at hb2
  have hfk := run_findKey (n := n) hrun' m2 hks w
  have hids := (hsat.blk id _ hb2).1
  have hget : (getObj (ρ id).b).run P w = .ok (.map ents clock) w := by
    unfold getObj; simp only [Sem.run, m1]
  have hexec : (execOp ev o).run P w = ((Builtin.delete_ #[t, t'] o.type #[.map (some (ρ id).b), .int kk n]).run P w).andThen fun v w => .ok (.value v) w := by
    unfold execOp
    simp only [ho, resolve, hcal, hargs, hts]
    simp [invoke, builtin, g1, g2, AV.den, SV.den]
  have e0 : #[t, t'][0]? = some t := rfl
  have e2 : #[Value.map (some (ρ id).b), Value.int kk n][0]? = some (.map (some (ρ id).b)) := rfl
  have e3 : #[Value.map (some (ρ id).b), Value.int kk n][1]? = some (.int kk n) := rfl
  cases hp : posM n es 0 with
  | none =>
    rw [hp] at hfk
    obtain ⟨p1, p2⟩ := posM_none hp
    refine ⟨ρ, .tuple #[], { w with heap := w.heap.setIfInBounds (ρ id).b (.map ents clock) }, .inl ?_, fun _ _ => rfl, .inr rfl, ?_⟩
    · rw [hexec]
      unfold Builtin.delete_
      simp only [e0, e2, e3, Sem.run_bind, hrun, Result.andThen_ok, hget, run_checkKey hrun', hfk, Option.map_none, run_setObj m1, Sem.run_pure]
    · rw [app_write, p2]
      exact map_write hsat hb2 m1 hids m2
  | some p =>
    obtain ⟨j, b⟩ := p
    rw [hp] at hfk
    obtain ⟨q1, q2, q3, q4, e0', q5, q6⟩ := posM_some hp
    rw [Nat.sub_zero] at q2 q3 q4 q5
    refine ⟨ρ, .tuple #[], { w with heap := w.heap.setIfInBounds (ρ id).b (.map (ents.eraseIdxIfInBounds j) clock) }, .inl ?_, fun _ _ => rfl, .inr rfl, ?_⟩
    · rw [hexec]
      unfold Builtin.delete_
      simp only [e0, e2, e3, Sem.run_bind, hrun, Result.andThen_ok, hget, run_checkKey hrun', hfk, Option.map_some, run_setObj m1, Sem.run_pure]
    · rw [app_write]
      refine map_write hsat hb2 m1 (fun e he => hids e (delM_sub e he)) ?_
      have hl : ents.size = es.length := by
        have := congrArg List.length m2
        simpa using this
      have he : (ents.eraseIdxIfInBounds j).toList = ents.toList.eraseIdx j := by
        unfold Array.eraseIdxIfInBounds
        rw [dif_pos (by omega)]
        simp
      rw [he, q4, map_erase, map_erase, m2]
end
end Go.Proofs.Ytdmcbfmpnakdfaa.Eng
