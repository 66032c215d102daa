/- Operations read off: make, min, interfaces, maps.Clone, results in memory. -/
import Derived.Test.YtdmcbfmpnakdfaaEl5
import Derived.IntWalk
namespace Go.Proofs.Ytdmcbfmpnakdfaa.Eng
open Go

def evMake (T : Tab) (t : TypeId) (h : LHp) (K : Eff → Prop) (n c : AV) : Prop :=
  match T.lookup t, n, c with
  | some ⟨.slice e, _, _, _⟩, .sc (.raw (.int .i64 n)), .sc (.raw (.int .i64 c)) => match T.lookup e with
    | some d => match avSegs d.z with
      | some z => chkB (d.bytes != 0 && (Segs.size z == d.size && Segs.oneB z)) <| (0 ≤ n ∧ n ≤ c ∧ c * d.bytes ≤ 2 ^ 48) ∧ K { val := .sc (.sl h.length 0 d.size n.toNat (some c.toNat)), news := [some (.row .ex e d.size (List.replicate c.toNat z) [])] }
      | none => False
    | none => False
  | _, _, _ => False
def evMin (K : Eff → Prop) (x y : AV) : Prop := match x, y with
  | .sc (.raw (.int k a)), .sc (.raw (.int _ b)) => ∀ r, r = (if b < a then b else a) → K { val := .sc (.raw (.int k r)) }
  | _, _ => False
def evIface (T : Tab) (t : TypeId) (K : Eff → Prop) : AV → Prop
  | .sc v => match T.lookup t with
    | some _ => K { val := .sc (.ifc t v) }
    | none => False
  | _ => False
def evAssert (T : Tab) (t : TypeId) (K : Eff → Prop) : AV → Prop
  | .sc (.ifc t' v) => match T.lookup t with
    | some _ => chkB (t' == t) <| K { val := .sc v }
    | none => False
  | _ => False
def evIndex (T : Tab) (t : TypeId) (K : Eff → Prop) (x ix : AV) : Prop :=
  match T.lookup t, x, ix with
  | some ⟨.arr n e, _, _, _⟩, .agg s, .sc (.raw (.int _ i)) => match T.lookup e with
    | some d => match d, s with
      | ⟨.int .u8, 1, _, _⟩, [.byt m b] => chkB (m == n) <| (0 ≤ i ∧ i < n) ∧ K { val := .sc (.raw (.int .u8 ((b.getD i.toNat 0 : Nat) : Int))) }
      | d, s => (0 ≤ i ∧ i < n) ∧ (match subS s (i.toNat * d.size) d.size with
        | some s' => match segsAV d.k.isAgg s' with
          | some a => K { val := a }
          | none => False
        | none => False)
    | none => False
  | _, _, _ => False
def evLenM (h : LHp) (K : Eff → Prop) (T : Tab) (t : TypeId) : AV → Prop
  | .sc (.mp id) => match T.lookup t, hpL h id with
    | some ⟨.map .., _, _, _⟩, some (.map es _) => K { val := .sc (.raw (.int .i64 es.length)), touch := [id] }
    | _, _ => False
  | _ => False
def evClear (h : LHp) (K : Eff → Prop) (T : Tab) (t : TypeId) : AV → Prop
  | .sc (.mp id) => match T.lookup t, hpL h id with
    | some ⟨.map .., _, _, _⟩, some (.map _ _) => K { val := .tup [], touch := [id], writes := [(id, some (.map [] []))] }
    | _, _ => False
  | .sc (.sl id i sz len _) => match T.lookup t, hpL h id with
    | some ⟨.slice e, _, _, _⟩, some (.row md tt sz' L ms) => match T.lookup e with
      | some d => match avSegs d.z with
        | some z => chkB (sz == sz' && (sz == d.size && (Segs.size z == d.size && Segs.oneB z))) <| (i + len ≤ L.length ∧ (ABlk.row md tt sz' L ms).w = true) ∧ K { val := .tup [], touch := [id], writes := [(id, some (.row md tt sz' (L.take i ++ (List.replicate len z ++ L.drop (i + len))) ms))] }
        | none => False
      | none => False
    | _, _ => False
  | _ => False
/-- A block some of whose elements are other ones. -/
theorem BlkSat.putR {Γ : Ctx} {ρ : Ren} {w w' : World} {id i sz : Nat} {md : Md} {t : TypeId} {L E : List Segs} {ms : List Nat} (h : BlkSat Γ ρ w id (.row md t sz L ms)) (hi : i + E.length ≤ L.length)
    (hmd : (ABlk.row md t sz L ms).w = true) (hE : ∀ e ∈ E, Segs.size e = sz ∧ Segs.oneB e = true) (hEi : ∀ e ∈ E, ∀ x ∈ Segs.ids e, x ∈ ms) {c c' : Array Value} (hc : w.heap[(ρ id).b]? = some (.cells c t (0, 0))) (hc' : w'.heap[(ρ id).b]? = some (.cells c' t (0, 0)))
    (heq : c'.toList = c.toList.take ((ρ id).sh + i * sz) ++ (rowDen ρ E ++ c.toList.drop ((ρ id).sh + i * sz + E.length * sz))) :
    BlkSat Γ ρ w' id (.row md t sz (L.take i ++ (E ++ L.drop (i + E.length))) ms) := by
  obtain ⟨h1, h2, h3, h4⟩ := h
  have hlen : (L.take i ++ (E ++ L.drop (i + E.length))).length = L.length := by simp; omega
  have hmem : ∀ x ∈ L.take i ++ (E ++ L.drop (i + E.length)), x ∈ L ∨ x ∈ E := fun x hx => by
    rcases List.mem_append.1 hx with hx | hx
    · exact .inl (List.mem_of_mem_take hx)
    · rcases List.mem_append.1 hx with hx | hx
      · exact .inr hx
      · exact .inl (List.mem_of_mem_drop hx)
  have hsz : ∀ x ∈ L.take i ++ (E ++ L.drop (i + E.length)), Segs.size x = sz ∧ Segs.oneB x = true := fun x hx => (hmem x hx).elim (h1 x) (hE x)
  have hms : ∀ x ∈ L.take i ++ (E ++ L.drop (i + E.length)), ∀ y ∈ Segs.ids x, y ∈ ms := fun x hx y hy => (hmem x hx).elim (fun h => h2 x h y hy) (fun h => hEi x h y hy)
  have hr1 : rowDen ρ L = rowDen ρ (L.take i) ++ (rowDen ρ ((L.drop i).take E.length) ++ rowDen ρ (L.drop (i + E.length))) := by
    have hL : L = L.take i ++ ((L.drop i).take E.length ++ L.drop (i + E.length)) := by
      rw [← List.drop_drop, List.take_append_drop, List.take_append_drop]
    conv => lhs; rw [hL]
    rw [rowDen_append, rowDen_append]
  have l1 : (rowDen ρ (L.take i)).length = i * sz := by
    rw [rowDen_length _ (fun e he => (h1 e (List.mem_of_mem_take he)).1), List.length_take, Nat.min_eq_left (by omega)]
  have l2 : (rowDen ρ ((L.drop i).take E.length)).length = E.length * sz := by
    rw [rowDen_length _ (fun e he => (h1 e (List.mem_of_mem_drop (List.mem_of_mem_take he))).1), List.length_take, List.length_drop, Nat.min_eq_left (by omega)]
  have key : ∀ (pre post : List Value), c.toList = pre ++ (rowDen ρ L ++ post) → pre.length = (ρ id).sh → c'.toList = pre ++ (rowDen ρ (L.take i ++ (E ++ L.drop (i + E.length))) ++ post) := by
    intro pre post a1 a2
    have e1 : c.toList = (pre ++ rowDen ρ (L.take i)) ++ (rowDen ρ ((L.drop i).take E.length) ++ (rowDen ρ (L.drop (i + E.length)) ++ post)) := by rw [a1, hr1]; simp
    have e2 : (pre ++ rowDen ρ (L.take i)).length = (ρ id).sh + i * sz := by rw [List.length_append, a2, l1]
    rw [heq, e1, ← e2, List.take_left' rfl, ← l2, ← List.drop_drop, List.drop_left' rfl, List.drop_left' rfl, rowDen_append, rowDen_append]
    simp
  refine ⟨hsz, hms, by rw [hlen]; exact h3, ?_⟩
  cases md
  · cases hmd
  · obtain ⟨c0, a1, a2, a3, a4⟩ := h4
    rw [hc] at a1; cases a1
    exact ⟨c', hc', by have := key [] [] (by simp [a2]) (by rw [a3]; rfl); simpa using this, a3, by rw [hlen]; exact a4⟩
  · obtain ⟨c0, pre, post, a1, a2, a3, a4⟩ := h4
    rw [hc] at a1; cases a1
    refine ⟨c', pre, post, hc', key pre post a2 a3, a3, ?_⟩
    have hcs : c'.size = c.size := by
      have e1 : c'.toList.length = c.toList.length := by
        rw [key pre post a2 a3, a2]
        simp only [List.length_append, rowDen_length _ (fun e he => (h1 e he).1), rowDen_length _ (fun e he => (hsz e he).1), hlen]
      simpa using e1
    rw [hcs]; exact a4
  · obtain ⟨c0, a1, a2, a3, a4⟩ := h4
    rw [hc] at a1; cases a1
    exact ⟨c', hc', by have := key [] [] (by simp [a2]) (by rw [a3]; rfl); simpa using this, a3, by rw [hlen]; exact a4⟩
  · cases hmd

section
variable {P : Program} {T : Tab} {o : Oper} {l : LTm} {h : LHp} {K : Eff → Prop}
theorem segsIds_rep {z : Segs} (hz : Segs.ids z = []) (n : Nat) : segsIds (List.replicate n z) = [] := by
  induction n with
  | zero => rfl
  | succ n ih => simp [List.replicate_succ, segsIds, hz, ih]
theorem evMake_sound (hT : TabOk P T) {t : TypeId} {n c : Operand} (ho : o.op = .makeSlice t n c) (hk : evMake T t h K (evalO (tmL l) n) (evalO (tmL l) c)) : ∃ e, OpL P o l h e ∧ K e := by
  have hmn : n ∈ o.op.operands.toList := by rw [ho]; simp [Op.operands]
  have hmc : c ∈ o.op.operands.toList := by rw [ho]; simp [Op.operands]
  generalize hn : evalO (tmL l) n = u at hk
  generalize hc : evalO (tmL l) c = v at hk
  unfold evMake at hk
  split at hk
  case h_2 => exact hk.elim
  rename_i e s1 b1 z1 a b hd
  split at hk
  case h_2 => exact hk.elim
  rename_i d hde
  split at hk
  case h_2 => exact hk.elim
  rename_i z hz
  replace hk := chkB_spec hk
  obtain ⟨hkk, ⟨h0, h1, h2⟩, hk⟩ := hk
  simp only [Bool.and_eq_true, beq_iff_eq, bne_iff_ne, ne_eq] at hkk
  obtain ⟨hby, hz1, hz2⟩ := hkk
  refine ⟨_, ?_, hk⟩
  obtain ⟨ty, hu, hrun⟩ := (tab_get hT hd).und
  simp only [TKOk] at hu
  subst hu
  have hdo := tab_get hT hde
  obtain ⟨inf, i1, i2, i3⟩ := hdo.info
  refine OpT.of_run fun hp₂ _ hcl hsc Γ ρ w ev h0' hsat hev => ?_
  have hcc := hcl h.length (Nat.le_refl _) (by simp)
  have g1 := evals_get hev hmn hn (by simp)
  have g2 := evals_get hev hmc hc (by simp)
  have hb48 : b ≤ 2 ^ 48 := by
    have : (1 : Int) ≤ (d.bytes : Int) := by omega
    have h9 : b * 1 ≤ b * (d.bytes : Int) := Int.mul_le_mul_of_nonneg_left this (by omega)
    omega
  have hw1 : IntKind.i64.wrap a = a := IntWalk.i64_in _ (by omega)
  have hw2 : IntKind.i64.wrap b = b := IntWalk.i64_in _ (by omega)
  have hzr := hdo.zero ρ w
  have hzc := avSegs_cells hz hz2 ρ
  have hzid : Segs.ids z = [] := by rw [avSegs_ids hz, hdo.zi]
  have hsids := segsIds_rep hzid b.toNat
  have hsat' := new_row_sat (e := e) (sz := d.size) (L := List.replicate b.toNat z) (md := .ex) (.inl rfl) hsat hcc.1 h0' hcc.2 (fun x hx => by rw [(List.mem_replicate.1 hx).2]; exact ⟨hz1, hz2⟩) (fun x hx => by rw [hsids] at hx; cases hx)
  rw [hsids] at hsat'
  simp only [List.length_replicate] at hsat'
  refine ⟨updR ρ h.length ⟨w.heap.size, 0, b.toNat⟩, .slice (some ⟨w.heap.size, 0, none⟩) a.toNat b.toNat, w.alloc (.cells (rowDen ρ (List.replicate b.toNat z)).toArray e), .inl ?_, fun i hi => updR_ne _ _ (fun e => hi (by simp [e])), .inr ?_, ?_⟩
  · unfold execOp
    simp only [ho, g1, g2, AV.den, SV.den, Instr.makeSlice]
    have hbig : ¬ ((d.bytes : Int) * b > 2 ^ 48) := by rw [Int.mul_comm]; omega
    have hbneg : ¬ b < 0 := by omega
    have haneg : ¬ a < 0 := by omega
    have hab : ¬ a > b := by omega
    have hcells : ((Array.range (b.toNat * d.size)).map (fun i => (Segs.den ρ z).toArray[i % (Segs.den ρ z).toArray.size]!)) = (rowDen ρ (List.replicate b.toNat z)).toArray := by
      apply Array.ext'
      rw [← hz1, zeros_row]
    simp only [Sem.run_bind, hrun, Result.andThen_ok, asInt, asIntOf, Sem.run_pure, i3, hw1, hw2, i2, hbig, hbneg, haneg, hab, decide_false, Bool.or_false, Bool.false_eq_true, if_false, Bool.not_false, Sem.run_ite, run_askRoom, hdo.sz]
    by_cases hnz : b.toNat * d.size = 0
    · simp only [hnz, if_true, Sem.run_pure, Result.andThen_ok]
      have : ((Array.range 0).map fun i => (#[] : Array Value)[i % (#[] : Array Value).size]!) = (rowDen ρ (List.replicate b.toNat z)).toArray := by
        rw [← hcells, hnz]
        apply Array.ext'
        simp
      rw [this]
      simp [newRow]
    · simp only [hnz, if_false, Sem.run_bind, hzr, Result.andThen_ok, Sem.run_pure, hzc, hcells]
      simp [newRow]
  · simp [AV.den, SV.den, updR_same]
  · rw [app_new _ _ _ _ hcc.1]; exact hsat'
theorem evMin_sound {c : Call} {x y : Operand} (ho : o.op = .call c) (hcal : c.callee = .builtin .min) (ha : c.args.toList = [x, y]) (hk : evMin K (evalO (tmL l) x) (evalO (tmL l) y)) : ∃ e, OpL P o l h e ∧ K e := by
  have hargs : c.args = #[x, y] := by apply Array.ext'; rw [ha]
  have hmx : x ∈ o.op.operands.toList := by rw [ho]; simp [Op.operands, Call.operands, hcal, hargs]
  have hmy : y ∈ o.op.operands.toList := by rw [ho]; simp [Op.operands, Call.operands, hcal, hargs]
  generalize hx : evalO (tmL l) x = u at hk
  generalize hy : evalO (tmL l) y = v at hk
  unfold evMin at hk
  split at hk
  case h_2 => exact hk.elim
  rename_i k a k' b
  refine ⟨_, opL_reads fun hp₂ hh Γ ρ w ev hs hev => ⟨_, ?_, .inr rfl⟩, hk _ rfl⟩
  have h1 := evals_get hev hmx hx (by simp)
  have h2 := evals_get hev hmy hy (by simp)
  unfold execOp
  simp only [ho, resolve, hcal, hargs]
  simp [invoke, builtin, h1, h2, AV.den, SV.den, Builtin.min_, Builtin.min2]
theorem evIface_sound (hT : TabOk P T) {t : TypeId} {x : Operand} (ho : o.op = .makeInterface t x) (hk : evIface T t K (evalO (tmL l) x)) : ∃ e, OpL P o l h e ∧ K e := by
  have hmx : x ∈ o.op.operands.toList := by rw [ho]; simp [Op.operands]
  generalize hx : evalO (tmL l) x = u at hk
  unfold evIface at hk
  split at hk
  case h_2 => exact hk.elim
  rename_i v
  split at hk
  case h_2 => exact hk.elim
  rename_i d hd
  obtain ⟨ty, hu, hrun⟩ := (tab_get hT hd).und
  refine ⟨_, opL_reads fun hp₂ hh Γ ρ w ev hs hev => ⟨_, ?_, .inr rfl⟩, hk⟩
  have h1 := evals_get hev hmx hx (by simp)
  unfold execOp
  simp only [ho, h1, Instr.makeInterface, AV.den, SV.den]
  simp only [Sem.run_bind, hrun, Result.andThen_ok]
  cases hdk : d.k <;> rw [hdk] at hu <;> simp only [TKOk] at hu
  case st fs => obtain ⟨f, rfl, _⟩ := hu; rfl
  case fn => obtain ⟨a, b, c, rfl⟩ := hu; rfl
  all_goals (subst hu; rfl)
theorem evAssert_sound (hT : TabOk P T) {t xt : TypeId} {x : Operand} (ho : o.op = .typeAssert x xt t false) (hk : evAssert T t K (evalO (tmL l) x)) : ∃ e, OpL P o l h e ∧ K e := by
  have hmx : x ∈ o.op.operands.toList := by rw [ho]; simp [Op.operands]
  generalize hx : evalO (tmL l) x = u at hk
  unfold evAssert at hk
  split at hk
  case h_2 => exact hk.elim
  rename_i t' v
  split at hk
  case h_2 => exact hk.elim
  rename_i d hd
  replace hk := chkB_spec hk
  obtain ⟨hq, hk⟩ := hk
  obtain rfl := beq_iff_eq.1 hq
  obtain ⟨ty, hu, hrun⟩ := (tab_get hT hd).und
  refine ⟨_, opL_reads fun hp₂ hh Γ ρ w ev hs hev => ⟨_, ?_, .inr rfl⟩, hk⟩
  have h1 := evals_get hev hmx hx (by simp)
  unfold execOp
  simp only [ho, h1, Instr.typeAssert, AV.den, SV.den]
  simp only [Sem.run_bind, hrun, Result.andThen_ok]
  cases hdk : d.k <;> rw [hdk] at hu <;> simp only [TKOk] at hu
  case st fs => obtain ⟨f, rfl, _⟩ := hu; simp
  case fn => obtain ⟨a, b, c, rfl⟩ := hu; simp
  all_goals (subst hu; simp)
theorem evIndex_sound (hT : TabOk P T) {t : TypeId} {x ix : Operand} (ho : o.op = .index t x ix) (hk : evIndex T t K (evalO (tmL l) x) (evalO (tmL l) ix)) : ∃ e, OpL P o l h e ∧ K e := by
  have hmx : x ∈ o.op.operands.toList := by rw [ho]; simp [Op.operands]
  have hmi : ix ∈ o.op.operands.toList := by rw [ho]; simp [Op.operands]
  generalize hx : evalO (tmL l) x = u at hk
  generalize hi : evalO (tmL l) ix = v at hk
  unfold evIndex at hk
  split at hk
  case h_2 => exact hk.elim
  rename_i n e s1 b1 z1 s kd i hd
  obtain ⟨ty, hu, hrun⟩ := (tab_get hT hd).und
  simp only [TKOk] at hu
  subst hu
  split at hk
  case h_2 => exact hk.elim
  rename_i d hde
  have hszr := (tab_get hT hde).sz
  have fin : ∀ (a : AV), 0 ≤ i → i < n → (∀ ρ w, (part e (Segs.den ρ s).toArray (i.toNat * d.size)).run P w = .ok (a.den ρ) w) → OpL P o l h { val := a } := by
    intro a h0 h1 hp
    refine opL_reads fun hp₂ hh Γ ρ w ev hs hev => ⟨_, ?_, .inr rfl⟩
    have g1 := evals_get hev hmx hx (by simp)
    have g2 := evals_get hev hmi hi (by simp)
    unfold execOp
    simp only [ho, g1, g2, Instr.index, AV.den, SV.den]
    simp [asIntOf, hrun, h0, h1, hszr, hp]
  split at hk
  · rename_i d3 s3 by3 z3 m b
    replace hk := chkB_spec hk
    obtain ⟨hq, ⟨h0, h1⟩, hk⟩ := hk
    have hq' : m = n := beq_iff_eq.1 hq
    subst hq'
    refine ⟨_, fin _ h0 h1 (fun ρ w => ?_), hk⟩
    have hdo := tab_get hT hde
    unfold part
    rw [Sem.run_bind, hdo.agg (by simp), Result.andThen_ok]
    simp only [TK.isAgg, Bool.false_eq_true, if_false, Segs.den, Seg.den, List.append_nil, Nat.mul_one]
    have : (bysN m b).toArray[i.toNat]? = some (.int .u8 ((b.getD i.toNat 0 : Nat) : Int)) := by
      have : i.toNat < m := by omega
      simp [bysN, this]
    rw [this]; rfl
  · obtain ⟨⟨h0, h1⟩, hk⟩ := hk
    split at hk
    case h_2 => exact hk.elim
    rename_i s' hs'
    split at hk
    case h_2 => exact hk.elim
    rename_i a ha
    exact ⟨_, fin a h0 h1 (fun ρ w => run_part (tab_get hT hde) hs' ha ρ w), hk⟩
theorem evLenM_sound (hT : TabOk P T) {c : Call} {x : Operand} {t : TypeId} (ho : o.op = .call c) (hcal : c.callee = .builtin .len) (ha : c.args.toList = [x]) (hat : c.argTypes.toList = [t]) (hk : evLenM h K T t (evalO (tmL l) x)) : ∃ e, OpL P o l h e ∧ K e := by
  have hargs : c.args = #[x] := by apply Array.ext'; rw [ha]
  have hts : c.argTypes = #[t] := by apply Array.ext'; rw [hat]
  have hmx : x ∈ o.op.operands.toList := by rw [ho]; simp [Op.operands, Call.operands, hcal, hargs]
  generalize hx : evalO (tmL l) x = u at hk
  unfold evLenM at hk
  split at hk
  case h_2 => exact hk.elim
  rename_i id
  split at hk
  case h_2 => exact hk.elim
  rename_i kt et s1 b1 z1 es ms hd hb
  obtain ⟨ty, hu, hrun⟩ := (tab_get hT hd).und
  simp only [TKOk] at hu
  subst hu
  refine ⟨_, opL_reads fun hp₂ hh Γ ρ w ev hsat hev => ⟨_, ?_, .inr rfl⟩, hk⟩
  have h1 := evals_get hev hmx hx (by simp)
  obtain ⟨ents, clock, m1, m2⟩ := hsat.map_at (by rw [hh id (by simp)]; exact hb)
  have hget : (getObj (ρ id).b).run P w = .ok (.map ents clock) w := by
    unfold getObj; simp only [Sem.run, m1]
  have hl : ents.size = es.length := by
    have := congrArg List.length m2
    simpa using this
  unfold execOp
  simp only [ho, resolve, hcal, hargs, hts]
  simp [invoke, builtin, Builtin.len_, h1, AV.den, SV.den, hrun, hget, goInt, hl]
theorem evClear_sound (hT : TabOk P T) {c : Call} {x : Operand} {t : TypeId} (ho : o.op = .call c) (hcal : c.callee = .builtin .clear) (ha : c.args.toList = [x]) (hat : c.argTypes.toList = [t]) (hk : evClear h K T t (evalO (tmL l) x)) : ∃ e, OpL P o l h e ∧ K e := by
  have hargs : c.args = #[x] := by apply Array.ext'; rw [ha]
  have hts : c.argTypes = #[t] := by apply Array.ext'; rw [hat]
  have hmx : x ∈ o.op.operands.toList := by rw [ho]; simp [Op.operands, Call.operands, hcal, hargs]
  generalize hx : evalO (tmL l) x = u at hk
  unfold evClear at hk
  split at hk
  case h_3 => exact hk.elim
  case h_2 id i sz len cap =>
    split at hk
    case h_2 => exact hk.elim
    rename_i e s1 b1 z1 md tt sz' L ms hd hb
    split at hk
    case h_2 => exact hk.elim
    rename_i d hde
    split at hk
    case h_2 => exact hk.elim
    rename_i z hz
    replace hk := chkB_spec hk
    obtain ⟨hkk, ⟨hi, hmd⟩, hk⟩ := hk
    simp only [Bool.and_eq_true, beq_iff_eq] at hkk
    obtain ⟨rfl, rfl, hz1, hz2⟩ := hkk
    obtain ⟨ty, hu, hrun⟩ := (tab_get hT hd).und
    simp only [TKOk] at hu
    subst hu
    have hdo := tab_get hT hde
    refine ⟨_, OpT.of_run fun hp₂ hh _ _ Γ ρ w ev h0 hsat hev => ?_, hk⟩
    have h1 := evals_get hev hmx hx (by simp)
    have hb2 : hp₂ id = some (.row md tt d.size L ms) := by rw [hh id (by simp)]; exact hb
    have hbs := hsat.blk id _ hb2
    obtain ⟨c0, hc0, hcs⟩ := hbs.cells hmd
    have hzc := avSegs_cells hz hz2 ρ
    have hzid : Segs.ids z = [] := by rw [avSegs_ids hz, hdo.zi]
    have hEl : (List.replicate len z).length = len := List.length_replicate
    have hE : ∀ x ∈ List.replicate len z, Segs.size x = d.size ∧ Segs.oneB x = true := fun x hx => by rw [(List.mem_replicate.1 hx).2]; exact ⟨hz1, hz2⟩
    have hEi : ∀ x ∈ List.replicate len z, ∀ y ∈ Segs.ids x, y ∈ ms := fun x hx y hy => by rw [(List.mem_replicate.1 hx).2, hzid] at hy; cases hy
    have hrl : (rowDen ρ (List.replicate len z)).length = len * d.size := by rw [rowDen_length _ (fun x hx => (hE x hx).1), hEl]
    have hmul : i * d.size + len * d.size ≤ L.length * d.size := by
      rw [← Nat.add_mul]; exact Nat.mul_le_mul_right _ hi
    have hone : ∀ v ∈ rowDen ρ (List.replicate len z), cell1 v = true := fun v hv => by
      obtain ⟨x, hx, hvx⟩ := List.mem_flatMap.1 hv
      exact Segs.oneB_den (hE x hx).2 ρ v hvx
    obtain ⟨w', c', k1, k2, k3, k4⟩ := run_storeCells (P := P) (b := (ρ id).b) (o := (ρ id).sh + i * d.size) (t := tt) (rowDen ρ (List.replicate len z)) 0 w c0 hc0 (by omega) hone
    refine ⟨ρ, .tuple #[], w', .inl ?_, fun _ _ => rfl, .inr rfl, ?_⟩
    · unfold execOp
      simp only [ho, resolve, hcal, hargs, hts]
      simp only [invoke, builtin, Builtin.clear_, List.map_toArray, List.map_cons, List.map_nil, h1, AV.den, SV.den]
      have e0 : #[t][0]? = some t := rfl
      obtain ⟨cp, hsl⟩ : ∃ cp, SV.den ρ (.sl id i d.size len cap) = .slice (some ⟨(ρ id).b, (ρ id).sh + i * d.size, none⟩) len cp := by cases cap <;> exact ⟨_, rfl⟩
      rw [hsl]
      have hzz : (Builtin.zeroCells (d.z.den ρ).cells len).toList = rowDen ρ (List.replicate len z) := by
        rw [hzc]
        have := zeros_row ρ z len
        unfold Builtin.zeroCells
        rw [show ((Segs.den ρ z).toArray).size = Segs.size z by simp [Segs.den_length]] at this ⊢
        exact this
      cases len with
      | zero =>
        have : w' = w := by
          have : (storeCells ⟨(ρ id).b, (ρ id).sh + i * d.size, none⟩ [] 0).run P w = .ok () w := rfl
          have k1' : (storeCells ⟨(ρ id).b, (ρ id).sh + i * d.size, none⟩ [] 0).run P w = .ok () w' := k1
          rw [this] at k1'
          injection k1' with _ h; exact h.symm
        subst this
        simp [e0, hrun]
      | succ n =>
        simp only [e0, Sem.run_bind, hrun, Result.andThen_ok, hdo.zero ρ w, hzz, k1, Sem.run_pure]
        simp [hrun, hdo.zero ρ w, hzz, k1]
    · rw [app_write]
      have := hbs.putR (i := i) (E := List.replicate len z) (by rw [hEl]; exact hi) hmd hE hEi hc0 k2 (by rw [k3, hrl, hEl]; simp)
      rw [hEl] at this
      exact hsat.write hb2 hmd this k4.rest (by rw [k4.size]; exact Nat.le_refl _) k4.os k4.tape k4.output
  rename_i id
  split at hk
  case h_2 => exact hk.elim
  rename_i kt et s1 b1 z1 es ms hd hb
  obtain ⟨ty, hu, hrun⟩ := (tab_get hT hd).und
  simp only [TKOk] at hu
  subst hu
  refine ⟨_, OpT.of_run fun hp₂ hh _ _ Γ ρ w ev h0 hsat hev => ?_, hk⟩
  have h1 := evals_get hev hmx hx (by simp)
  have hb2 : hp₂ id = some (.map es ms) := by rw [hh id (by simp)]; exact hb
  obtain ⟨ents, clock, m1, m2⟩ := hsat.map_at hb2
  have hget : (getObj (ρ id).b).run P w = .ok (.map ents clock) w := by
    unfold getObj; simp only [Sem.run, m1]
  refine ⟨ρ, .tuple #[], { w with heap := w.heap.setIfInBounds (ρ id).b (.map #[] clock) }, .inl ?_, fun _ _ => rfl, .inr rfl, ?_⟩
  · unfold execOp
    simp only [ho, resolve, hcal, hargs, hts]
    simp only [invoke, builtin, Builtin.clear_, List.map_toArray, List.map_cons, List.map_nil, h1, AV.den, SV.den]
    have e0 : #[t][0]? = some t := rfl
    have e1 : #[Value.map (some (ρ id).b)][0]? = some (.map (some (ρ id).b)) := rfl
    simp [e0, e1, hrun, hget, run_setObj m1]
  · rw [app_write]
    exact map_write hsat hb2 m1 (fun e he => by cases he) rfl

/-- maps.clone. -/
def CloneFn (P : Program) (f : FuncId) : Prop := ∃ fn, P.funcs[f]? = some fn ∧ (fn.name == "runtime.NumGoroutine") = false ∧ fn.body.isNone = true ∧ (Extern.findNext fn).isNone = true ∧ Extern.find fn = some Extern.MapsClone.clone
theorem clone_use {c : Call} {f : FuncId} {x : Operand} {t : TypeId} {id : Nat} {es : List (SV × AV)} {ms : List Nat} (ho : o.op = .call c) (hcal : c.callee = .value (.func f)) (hF : CloneFn P f) (ha : c.args.toList = [x]) (hx : evalO (tmL l) x = .sc (.ifc t (.mp id))) (hb : hpL h id = some (.map es ms))
    (hk : K { val := .sc (.ifc t (.mp h.length)), touch := [id], news := [some (.map es ms)] }) : ∃ e, OpL P o l h e ∧ K e := by
  have hargs : c.args = #[x] := by apply Array.ext'; rw [ha]
  have hmx : x ∈ o.op.operands.toList := by rw [ho]; simp [Op.operands, Call.operands, hcal, hargs]
  obtain ⟨fn, f1, f2, f3, f4, f5⟩ := hF
  have f4' : Extern.findNext fn = none := by simpa using f4
  refine ⟨_, OpT.of_run fun hp₂ hh hcl _ Γ ρ w ev h0 hsat hev => ?_, hk⟩
  have hc := hcl h.length (Nat.le_refl _) (by simp)
  have h1 := evals_get hev hmx hx (by simp)
  have hff : ev (.func f) = .func (.func f) #[] #[] := by
    have := hev (.func f) (by rw [ho]; simp [Op.operands, Call.operands, hcal])
    simpa [evalO, AV.den, SV.den, SV.dens] using this
  have hb2 : hp₂ id = some (.map es ms) := by rw [hh id (by simp)]; exact hb
  obtain ⟨ents, clock, m1, m2⟩ := hsat.map_at hb2
  have hids := (hsat.blk id _ hb2).1
  have hget : (getObj (ρ id).b).run P w = .ok (.map ents clock) w := by
    unfold getObj; simp only [Sem.run, m1]
  refine ⟨updR ρ h.length ⟨w.heap.size, 0, 0⟩, .iface t (.map (some w.heap.size)), w.alloc (.map ents clock), .inl ?_, fun i hi => updR_ne _ _ (fun e => hi (by simp [e])), .inr ?_, ?_⟩
  · have hcf : (callFunc f #[.iface t (.map (some (ρ id).b))]).run P w = .ok (.value (.iface t (.map (some w.heap.size)))) (w.alloc (.map ents clock)) := by
      unfold callFunc
      show Sem.run P (.program _) w = _
      simp only [Sem.run]
      show Sem.run P (match P.funcs[f]? with | none => _ | some fn => _) w = _
      rw [f1]
      simp only [f2, f3, if_true, Bool.false_eq_true, if_false]
      show Sem.run P (do mark (.extern f); _) w = _
      rw [f4', f5]
      have hcl : Extern.MapsClone.clone #[.iface t (.map (some (ρ id).b))] = (do
        match ← getObj (ρ id).b with
        | .map entries clock => pure (.iface t (.map (some (← newObj (.map entries clock)))))
        | _ => stuck "maps.clone: a map expected") := rfl
      show Sem.run P (do mark (.extern f); pure (Next.value (← Extern.MapsClone.clone #[.iface t (.map (some (ρ id).b))]))) w = _
      rw [hcl]
      have hmk : (mark (.extern f)).run P w = .ok () w := rfl
      simp only [Sem.run_bind, hmk, hget, Result.andThen_ok]
      simp
    unfold execOp
    rw [ho]
    show Sem.run P ((resolve ev c o.type).bind fun d => invoke d.target d.args) w = _
    unfold resolve
    rw [hcal]
    simp only []
    rw [hff]
    show Sem.run P (callFunc f (#[] ++ c.args.map ev ++ #[])) w = _
    rw [hargs]
    simp only [List.map_toArray, List.map_cons, List.map_nil, h1]
    exact hcf
  · simp [AV.den, SV.den, updR_same]
  · rw [app_new']
    refine hsat.alloc (b' := .map es ms) 0 hc.1 h0 hc.2 ⟨hids, ents, clock, ?_, ?_⟩
    · rw [updR_same]; show (w.heap.push _)[w.heap.size]? = _; simp
    · rw [m2]
      apply List.map_congr_left
      intro e he
      have hne : ∀ x ∈ e.1.ids ++ e.2.ids, x ≠ h.length := fun x hx hc' => hc.2 id _ hb2 (hc' ▸ hids e he x hx)
      rw [SV.den_congr e.1 (fun x hx => updR_ne _ _ (hne x (by simp [hx]))), AV.den_congr e.2 (fun x hx => updR_ne _ _ (hne x (by simp [hx])))]
end
end Go.Proofs.Ytdmcbfmpnakdfaa.Eng
