/- Operations read off: the whole of them; results. -/
import Derived.Test.YtdmcbfmpnakdfaaEl6
import Derived.Laws.BytesString
namespace Go.Proofs.Ytdmcbfmpnakdfaa.Eng
open Go

/-- A string out of a slice of bytes; strings compared. -/
abbrev strOf (ns : List Int) : ByteArray := ns.foldl (fun r n => r.push (UInt8.ofNat n.toNat)) ByteArray.empty
abbrev bySeg (n : Int) : Segs := [.one (.raw (.int .u8 n))]
def evStr (T : Tab) (s t : TypeId) (h : LHp) (K : Eff → Prop) (x : AV) : Prop :=
  match T.lookup s, T.lookup t with
  | some ⟨.slice e, _, _, _⟩, some ⟨.str, _, _, _⟩ => match T.lookup e with
    | some ⟨.int .u8, _, _, _⟩ => srcK h 1 (fun _ E _ tch => ∃ ns, E = ns.map bySeg ∧ K { val := .sc (.raw (.string (strOf ns))), touch := tch }) x
    | _ => False
  | _, _ => False
def evStrEq (op : BinOp) (K : Eff → Prop) (a b : ByteArray) : Prop :=
  match op with
  | .eql => ∀ c, c = (a.toList == b.toList) → K { val := .sc (.raw (.bool c)) }
  | .neq => ∀ c, c = !(a.toList == b.toList) → K { val := .sc (.raw (.bool c)) }
  | _ => False
section
variable {P : Program} {T : Tab} {o : Oper} {l : LTm} {h : LHp} {K : Eff → Prop}
theorem evStrEq_sound {op : BinOp} {t t' : TypeId} {x y : Operand} {a b : ByteArray} (ho : o.op = .binOp op t x y t') (hx : evalO (tmL l) x = .sc (.raw (.string a))) (hy : evalO (tmL l) y = .sc (.raw (.string b))) (hk : evStrEq op K a b) : ∃ e, OpL P o l h e ∧ K e := by
  have hmx : x ∈ o.op.operands.toList := by rw [ho]; simp [Op.operands]
  have hmy : y ∈ o.op.operands.toList := by rw [ho]; simp [Op.operands]
  have fin : ∀ (r : Value), (∀ w, (eqGuard op t x y (.string a) (.string b)).run P w = .ok () w) → (∀ w, (binOp op t (.string a) (.string b)).run P w = .ok r w) → OpL P o l h { val := .sc (.raw r) } := by
    intro r hg hr
    refine opL_reads fun hp₂ hh Γ ρ w ev hs hev => ⟨r, ?_, .inr rfl⟩
    have h1 := evals_get hev hmx hx (by simp)
    have h2 := evals_get hev hmy hy (by simp)
    unfold execOp
    simp only [ho, h1, h2]
    simp only [AV.den, SV.den]
    simp [hg, hr]
  unfold evStrEq at hk
  split at hk
  · exact ⟨_, fin _ (fun w => rfl) (fun w => rfl), hk _ rfl⟩
  · exact ⟨_, fin _ (fun w => rfl) (fun w => rfl), hk _ rfl⟩
  · exact hk.elim
theorem rowDen_by (ρ : Ren) (ns : List Int) : rowDen ρ (ns.map bySeg) = ns.map (Value.int .u8) := by
  induction ns with
  | nil => rfl
  | cons n ns ih => show _ :: rowDen ρ (ns.map bySeg) = _; rw [ih]; rfl
theorem evStr_sound (hT : TabOk P T) {s t : TypeId} {x : Operand} (ho : o.op = .convert s t x) (hk : evStr T s t h K (evalO (tmL l) x)) : ∃ e, OpL P o l h e ∧ K e := by
  have hmx : x ∈ o.op.operands.toList := by rw [ho]; simp [Op.operands]
  generalize hx : evalO (tmL l) x = u at hk
  unfold evStr at hk
  split at hk
  · rename_i e s1 b1 z1 s2 b2 z2 hds hdt
    split at hk
    · rename_i s3 b3 z3 hde
      obtain ⟨ty, hu, hr1⟩ := (tab_get hT hds).und
      simp only [TKOk] at hu; subst hu
      obtain ⟨ty, hu, hr2⟩ := (tab_get hT hdt).und
      simp only [TKOk] at hu; subst hu
      obtain ⟨ty, hu, hr3⟩ := (tab_get hT hde).und
      simp only [TKOk] at hu; subst hu
      have hk0 := hk
      obtain ⟨n, E, ms, tch, ⟨ns, hE, hk⟩, hj, _, hs⟩ := srcK_spec (P := P) hk
      refine ⟨_, opL_reads fun hp₂ hh Γ ρ w ev hsat hev => ⟨_, ?_, .inr rfl⟩, hk⟩
      have h1 := evals_get hev hmx hx hj
      obtain ⟨hsrc, _, _⟩ := hs hp₂ hh Γ ρ w hsat
      subst hE
      have hc := hsrc.cells
      have hl := hsrc.len w
      rw [rowDen_by] at hc
      unfold execOp
      simp only [ho, h1]
      have hsl : ∃ a l c, u.den ρ = .slice a l c := by
        unfold srcK at hk0
        split at hk0
        · exact ⟨_, _, _, rfl⟩
        · exact ⟨_, _, _, den_sl ρ _ _ _ _ _⟩
        · exact hk0.elim
      obtain ⟨a, ln, cp, hv⟩ := hsl
      rw [hv] at hc hl ⊢
      have hln : ln = n := by
        simp only [Builtin.lenOf, Sem.run_pure] at hl
        injection hl
      have hb : (Conv.bytesToString (.slice a ln cp)).run P w = .ok (.string (strOf ns)) w := by
        cases a with
        | none =>
          simp only [Builtin.firstCells, Sem.run_pure] at hc
          injection hc with hc
          have : ns = [] := by
            cases ns with
            | nil => rfl
            | cons a b => have := congrArg Array.size hc; simp at this
          subst this
          rfl
        | some a =>
          refine run_bytesToString w a ln cp ns ?_
          subst hln
          simpa [Builtin.firstCells] using hc
      simp [convert, hr1, hr2, hr3, hb, AV.den, SV.den]
    · exact hk.elim
  · exact hk.elim
end

/-- What has to be shown for an operation; K of what it does. -/
def evOp (P : Program) (T : Tab) (o : Oper) (l : LTm) (h : LHp) (K : Eff → Prop) : Prop :=
  match o.op with
  | .move x | .assign x => K { val := evalO (tmL l) x }
  | .pick c a b => match evalO (tmL l) c with
    | .sc (.raw (.bool v)) => K { val := match v with | true => evalO (tmL l) a | false => evalO (tmL l) b }
    | _ => False
  | .binOp op t x y _ => match evalO (tmL l) x, evalO (tmL l) y with
    | .agg s, .agg s' => evEqA P op t K s s'
    | .sc (.raw (.string a)), .sc (.raw (.string b)) => evStrEq op K a b
    | a, b => evBin T op t K a b
  | .unOp op _ x => evUn op K (evalO (tmL l) x)
  | .load t a => evLoad T t h K (evalO (tmL l) a)
  | .store t a x => evStore T t h (evalO (tmL l) x) K (evalO (tmL l) a)
  | .alloc t => match T.lookup t with
    | some d => evAlloc T h t d.z K
    | none => False
  | .box t x => evAlloc T h t (evalO (tmL l) x) K
  | .nilCheck x => match evalO (tmL l) x with
    | .sc (.ptr id i sz fo) => K { val := .sc (.ptr id i sz fo) }
    | .sc (.fn (.func f) a b) => K { val := .sc (.fn (.func f) a b) }
    | _ => False
  | .fieldAddr t x f => evField T t f K (evalO (tmL l) x)
  | .indexAddr t x i => evIndexAddr T t K (evalO (tmL l) x) (evalO (tmL l) i)
  | .field t x f => evAggField T t f K (evalO (tmL l) x)
  | .extract x i => evExtract i K (evalO (tmL l) x)
  | .convert s t x => match evalO (tmL l) x with
    | .sc (.raw (.int k n)) => evConv T s t K (.sc (.raw (.int k n)))
    | u => evStr T s t h K u
  | .makeFunc f a b => match scAll l a.toList, scAll l b.toList with
    | some x, some y => K { val := .sc (.fn f x y) }
    | _, _ => False
  | .makeMap _ none => K { val := .sc (.mp h.length), news := [some (.map [] [])] }
  | .build t ps => evBuild T t (partsAV l ps.toList) K
  | .buildSlice t n ps => evBuildSlice T t n h (partsAV l ps.toList) K
  | .slice t x lo hi none => evSlice T t h (lo.map (evalO (tmL l))) (hi.map (evalO (tmL l))) none K (evalO (tmL l) x)
  | .slice t x lo (some hi) (some mx) => evSlice T t h (lo.map (evalO (tmL l))) (some (evalO (tmL l) hi)) (some (evalO (tmL l) mx)) K (evalO (tmL l) x)
  | .lookup t x k ok => evLookup T t h ok K (evalO (tmL l) x) (evalO (tmL l) k)
  | .mapUpdate t x k v => evUpdate T t h K (evalO (tmL l) x) (evalO (tmL l) k) (evalO (tmL l) v)
  | .makeSlice t n c => evMake T t h K (evalO (tmL l) n) (evalO (tmL l) c)
  | .makeInterface t x => evIface T t K (evalO (tmL l) x)
  | .typeAssert x _ t false => evAssert T t K (evalO (tmL l) x)
  | .index t x i => evIndex T t K (evalO (tmL l) x) (evalO (tmL l) i)
  | .call c => match c.callee with
    | .value f => match evalO (tmL l) f with
      | .sc (.fn (.func g) first caps) => CallG P g (first.map .sc ++ (c.args.toList.map (evalO (tmL l)) ++ caps.map .sc)) h K ∨ ∃ e, OpL P o l h e ∧ K e
      | _ => False
    | .builtin .len => match c.args.toList, c.argTypes.toList with
      | [x], [t] => (match evalO (tmL l) x with
        | .sc (.mp id) => evLenM h K T t (.sc (.mp id))
        | a => evLen T t K a)
      | _, _ => False
    | .builtin .append => match c.args.toList, c.argTypes.toList with
      | [s, x], [t, t'] => evAppend T t t' h K (evalO (tmL l) s) (evalO (tmL l) x)
      | _, _ => False
    | .builtin .delete => match c.args.toList, c.argTypes.toList with
      | [s, x], [t, _] => evDelete T t h K (evalO (tmL l) s) (evalO (tmL l) x)
      | _, _ => False
    | .builtin .min => match c.args.toList with
      | [s, x] => evMin K (evalO (tmL l) s) (evalO (tmL l) x)
      | _ => False
    | .builtin .clear => match c.args.toList, c.argTypes.toList with
      | [x], [t] => evClear h K T t (evalO (tmL l) x)
      | _, _ => False
    | _ => False
  | _ => False


section
variable {P : Program} {T : Tab} {o : Oper} {l : LTm} {h : LHp} {K : Eff → Prop}
/-- What is read off holds. -/
theorem evOp_sound (hT : TabOk P T) (hk : evOp P T o l h K) : ∃ e, OpL P o l h e ∧ K e := by
  unfold evOp at hk
  split at hk
  · rename_i x ho
    refine ⟨_, opL_reads fun hp₂ hh Γ ρ w ev hs hev => ⟨ev x, ?_, ?_⟩, hk⟩
    · unfold execOp; simp [ho]
    · exact hev x (by rw [ho]; simp [Op.operands])
  · rename_i x ho
    refine ⟨_, opL_reads fun hp₂ hh Γ ρ w ev hs hev => ⟨ev x, ?_, ?_⟩, hk⟩
    · unfold execOp; simp [ho]
    · exact hev x (by rw [ho]; simp [Op.operands])
  · rename_i c a b ho
    split at hk
    · rename_i v hv
      refine ⟨_, opL_reads fun hp₂ hh Γ ρ w ev hs hev => ⟨if v then ev a else ev b, ?_, ?_⟩, hk⟩
      · have h1 := evals_get hev (x := c) (by rw [ho]; simp [Op.operands]) hv (by simp)
        unfold execOp
        simp only [ho, h1, AV.den, SV.den]
        cases v <;> simp [asBool]
      · cases v
        · exact hev b (by rw [ho]; simp [Op.operands])
        · exact hev a (by rw [ho]; simp [Op.operands])
    · exact hk.elim
  · rename_i op t x y t' ho
    split at hk
    · rename_i s s' hx hy; exact evEqA_sound ho hx hy hk
    · rename_i a b hx hy; exact evStrEq_sound ho hx hy hk
    · exact evBin_sound hT ho hk
  · rename_i op t x ho; exact evUn_sound ho hk
  · rename_i t a ho; exact evLoad_sound hT ho hk
  · rename_i t a x ho; exact evStore_sound hT ho hk
  · rename_i t ho
    split at hk
    · rename_i d hd; exact evAlloc_sound hT hd ho hk
    · exact hk.elim
  · rename_i t x ho; exact evBox_sound ho hk
  · rename_i x ho
    split at hk
    · rename_i id i sz fo hx
      refine ⟨_, opL_reads fun hp₂ hh Γ ρ w ev hs hev => ⟨_, ?_, .inr rfl⟩, hk⟩
      have h1 := evals_get hev (x := x) (by rw [ho]; simp [Op.operands]) hx (by simp)
      unfold execOp
      simp [ho, h1, AV.den, SV.den]
    · rename_i f a b hx
      refine ⟨_, opL_reads fun hp₂ hh Γ ρ w ev hs hev => ⟨_, ?_, .inr rfl⟩, hk⟩
      have h1 := evals_get hev (x := x) (by rw [ho]; simp [Op.operands]) hx (by simp)
      unfold execOp
      simp [ho, h1, AV.den, SV.den]
    · exact hk.elim
  · rename_i t x f ho; exact evField_sound hT ho hk
  · rename_i t x i ho; exact evIndexAddr_sound hT ho hk
  · rename_i t x f ho; exact evAggField_sound hT ho hk
  · rename_i x i ho; exact evExtract_sound ho hk
  · rename_i s t x ho
    split at hk
    · rename_i k n hx
      rw [← hx] at hk
      exact evConv_sound hT ho hk
    · exact evStr_sound hT ho hk
  · rename_i f a b ho
    split at hk
    · rename_i x y hx hy
      refine ⟨_, opL_reads fun hp₂ hh Γ ρ w ev hs hev => ⟨_, ?_, .inr rfl⟩, hk⟩
      have hop : o.op.operands.toList = a.toList ++ b.toList := by rw [ho]; simp [Op.operands]
      have h1 := scAll_spec hx (ρ := ρ) (ev := ev) (fun z hz => hev z (by rw [hop]; simp; exact .inl (by simpa using hz)))
      have h2 := scAll_spec hy (ρ := ρ) (ev := ev) (fun z hz => hev z (by rw [hop]; simp; exact .inr (by simpa using hz)))
      unfold execOp
      simp only [ho, Instr.makeFunc, AV.den, SV.den]
      rw [← h1, ← h2]
      simp only [Sem.run_bind, Sem.run_pure, Result.andThen_ok]
      congr 3 <;> (apply Array.ext'; simp)
    · exact hk.elim
  · rename_i t ho
    refine ⟨_, OpT.of_run fun hp₂ _ hcl hsc Γ ρ w ev h0 hsat hev => ?_, hk⟩
    have hc := hcl h.length (Nat.le_refl _) (by simp)
    refine ⟨updR ρ h.length ⟨w.heap.size, 0, 0⟩, .map (some w.heap.size), w.alloc (.map #[] 0), .inl ?_, fun i hi => updR_ne _ _ (fun e => hi (by simp [e])), .inr ?_, ?_⟩
    · unfold execOp
      simp [ho, Instr.makeMap]
    · simp [AV.den, SV.den, updR_same]
    · rw [app_new _ _ _ _ hc.1]
      refine hsat.alloc (b' := .map [] []) 0 hc.1 h0 hc.2 ?_
      exact ⟨(fun e he => by cases he), #[], 0, (by rw [updR_same]; show (w.heap.push _)[w.heap.size]? = _; simp), rfl⟩
  · rename_i t ps ho; exact evBuild_sound hT ho hk
  · rename_i t n ps ho; exact evBuildSlice_sound hT ho hk
  · rename_i t x lo hi ho; exact evSlice_sound hT ho hk (fun hc => absurd rfl hc)
  · rename_i t x lo hi mx ho; exact evSlice_sound hT ho hk (fun _ => by simp)
  · rename_i t x k ok ho; exact evLookup_sound hT ho hk
  · rename_i t x k v ho; exact evUpdate_sound hT ho hk
  · rename_i t n c ho; exact evMake_sound hT ho hk
  · rename_i t x ho; exact evIface_sound hT ho hk
  · rename_i x xt t ho; exact evAssert_sound hT ho hk
  · rename_i t x i ho; exact evIndex_sound hT ho hk
  · rename_i c ho
    split at hk
    · rename_i f hcal
      split at hk
      · rename_i g first caps hf
        rcases hk with hk | hk
        case inr => exact hk
        obtain ⟨cargs, hc, r, hc', p, chg, h1, h2, h3, h4, ⟨h5, h6⟩, hk⟩ := hk
        exact ⟨_, OpT.call p chg ho hcal hf rfl (fun v hv => h3 v (by simp at hv ⊢; exact .inr (.inl hv))) h2 h1 h4 h5 h6, hk⟩
      · exact hk.elim
    · rename_i hcal
      split at hk
      · rename_i x t ha hat
        split at hk
        · rename_i id hx
          rw [← hx] at hk
          exact evLenM_sound hT ho hcal ha hat hk
        · exact evLen_sound hT ho hcal ha hat hk
      · exact hk.elim
    · rename_i hcal
      split at hk
      · rename_i s x t t' ha hat; exact evAppend_sound hT ho hcal ha hat hk
      · exact hk.elim
    · rename_i hcal
      split at hk
      · rename_i s x t t' ha hat; exact evDelete_sound hT ho hcal ha hat hk
      · exact hk.elim
    · rename_i hcal
      split at hk
      · rename_i s x ha; exact evMin_sound ho hcal ha hk
      · exact hk.elim
    · rename_i hcal
      split at hk
      · rename_i x t ha hat; exact evClear_sound hT ho hcal ha hat hk
      · exact hk.elim
    · exact hk.elim
  · exact hk.elim
end

/-- Result variables: temporaries, and cells. -/
def resV (T : Tab) (l : LTm) (h : LHp) : ResultVar → AV → Prop
  | .tmp t, v => tmL l t = v ∧ v ≠ .junk
  | .cell a t, v => evLoad T t h (fun e => e.val = v) (tmL l a)
def resVs (T : Tab) (l : LTm) (h : LHp) : List ResultVar → List AV → Prop
  | [], [] => True
  | r :: rs, v :: vs => resV T l h r v ∧ resVs T l h rs vs
  | _, _ => False
def tupV : List AV → AV
  | [v] => v
  | vs => .tup vs
def resF (tmps : Array Value) : ResultVar → Sem Value
  | .tmp t => pure (tmps.getD t undef)
  | .cell a t => do loadVar t (← asAddr (tmps.getD a undef))
theorem ResT.all {P : Program} {T : Tab} (hT : TabOk P T) {fn : Func} {l : LTm} {h : LHp} {rs : List ResultVar} {vs : List AV} (hr : fn.results.toList = rs) (hv : resVs T l h rs vs) (hj : njB vs = true) :
    ResT P fn l h (tupV vs) := by
  intro Γ ρ w tmps hsat ht
  have hone : ∀ (r : ResultVar) (v : AV), resV T l h r v → v ≠ .junk → (resF tmps r).run P w = .ok (v.den ρ) w := by
    intro r v hrv hvj
    cases r with
    | tmp t =>
      obtain ⟨h1, h2⟩ := hrv
      simp only [resF, Sem.run_pure]
      rw [(ht.val t).resolve_left (by rw [h1]; exact h2), h1]
    | cell a t =>
      have hrv' : evLoad T t h (fun e => e.val = v) (tmL l a) := hrv
      obtain ⟨av, id, hk, hj2, hrun⟩ := evLoad_run hT hrv'
      have hk : av = v := hk
      obtain ⟨ad, h1, h2⟩ := hrun (hpL h) rfl Γ ρ w hsat
      have h3 := (ht.val a).resolve_left hj2
      simp only [resF, Sem.run_bind, h3, h1, asAddr, Sem.run_pure, Result.andThen_ok, h2]
      rw [hk]
  have hall : ∀ (rs : List ResultVar) (vs : List AV), resVs T l h rs vs → njB vs = true → (rs.mapM (resF tmps)).run P w = .ok (AV.dens ρ vs) w := by
    intro rs
    induction rs with
    | nil =>
      intro vs hv _
      cases vs with
      | nil => rfl
      | cons v vs => exact hv.elim
    | cons r rs ih =>
      intro vs hv hj
      cases vs with
      | nil => exact hv.elim
      | cons v vs =>
        have hvj := njB_spec hj v (by simp)
        have hj' : njB vs = true := by
          cases v <;> first | exact hj | cases hj
        simp only [List.mapM_cons, Sem.run_bind, hone r v hv.1 hvj, Result.andThen_ok, ih vs hv.2 hj', Sem.run_pure]
        rfl
  have hdl : ∀ vs : List AV, (AV.dens ρ vs).length = vs.length := by
    intro vs; induction vs with
    | nil => rfl
    | cons v vs ih => simp [AV.dens, ih]
  refine ⟨_, ?_, .inr rfl⟩
  have e : results fn tmps = (do
    let vs ← fn.results.mapM (resF tmps)
    pure (if h : vs.size = 1 then vs[0] else .tuple vs)) := rfl
  rw [e, Array.mapM_eq_mapM_toList, hr]
  simp only [Sem.run_bind, Sem.run_map]
  rw [hall rs vs hv hj]
  simp only [Result.andThen_ok, Sem.run_pure]
  congr 1
  cases vs with
  | nil => rfl
  | cons v vs => cases vs with
    | nil => rfl
    | cons u vs =>
      have : ¬ ((AV.dens ρ (v :: u :: vs)).toArray.size = 1) := by simp [hdl]
      rw [dif_neg this]; rfl
end Go.Proofs.Ytdmcbfmpnakdfaa.Eng
