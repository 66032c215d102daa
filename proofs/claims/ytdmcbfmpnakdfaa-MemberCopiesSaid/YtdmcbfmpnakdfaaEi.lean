/- An operation read off: what has to be shown for it. The plain ones. -/
import Derived.Test.YtdmcbfmpnakdfaaEh
namespace Go.Proofs.Ytdmcbfmpnakdfaa.Eng
open Go

def arithI (op : BinOp) (k : IntKind) (x y : Int) : Option Int :=
  match op with
  | .add => some (k.wrap (x + y))
  | .sub => some (k.wrap (x - y))
  | .mul => some (k.wrap (x * y))
  | .quo => if y = 0 then none else some (k.wrap (x.tdiv y))
  | .rem => if y = 0 then none else some (x.tmod y)
  | .and => some (k.wrap (BitVec.ofInt k.bits x &&& BitVec.ofInt k.bits y).toNat)
  | .or => some (k.wrap (BitVec.ofInt k.bits x ||| BitVec.ofInt k.bits y).toNat)
  | .xor => some (k.wrap (BitVec.ofInt k.bits x ^^^ BitVec.ofInt k.bits y).toNat)
  | .andNot => some (k.wrap (BitVec.ofInt k.bits x &&& ~~~(BitVec.ofInt k.bits y)).toNat)
  | _ => none
def cmpI (op : BinOp) (x y : Int) : Option Bool :=
  match op with
  | .eql => some (x == y)
  | .neq => some (x != y)
  | .lss => some (decide (x < y))
  | .leq => some (decide (x ≤ y))
  | .gtr => some (decide (x > y))
  | .geq => some (decide (x ≥ y))
  | _ => none
def shiftI (op : BinOp) (k : IntKind) (x y : Int) : Option Int :=
  if y < 0 then none else
  match op with
  | .shl => some (k.wrap (x * 2 ^ (min y.toNat k.bits)))
  | .shr => some (x.fdiv (2 ^ (min y.toNat k.bits)))
  | _ => none
def isCmp : BinOp → Bool
  | .eql | .neq | .lss | .leq | .gtr | .geq => true
  | _ => false
def isShift : BinOp → Bool
  | .shl | .shr => true
  | _ => false

theorem run_binI {P : Program} {op : BinOp} {t : TypeId} {k : IntKind} {x y r : Int} (h : arithI op k x y = some r) (w : World) : (binOp op t (.int k x) (.int k y)).run P w = .ok (.int k r) w := by
  cases op <;> simp only [arithI] at h <;> (try (cases h; done)) <;> (try split at h) <;> (try (cases h; done)) <;> (try (injection h with h; subst h)) <;> simp_all [binOp, Op.intArith, Op.intDiv, Op.intBits]
theorem run_cmpI {P : Program} {op : BinOp} {t : TypeId} {k : IntKind} {x y : Int} {b : Bool} (h : cmpI op x y = some b) (w : World) : (binOp op t (.int k x) (.int k y)).run P w = .ok (.bool b) w := by
  cases op <;> simp only [cmpI] at h <;> (try (cases h; done)) <;> (injection h with h; subst h) <;> simp [binOp, Op.intCmp]
theorem run_shiftI {P : Program} {op : BinOp} {t : TypeId} {k k' : IntKind} {x y r : Int} (h : shiftI op k x y = some r) (w : World) : (binOp op t (.int k x) (.int k' y)).run P w = .ok (.int k r) w := by
  unfold shiftI at h
  split at h
  · cases h
  · rename_i hy
    cases op <;> simp only [] at h <;> (try (cases h; done)) <;> (injection h with h; subst h) <;> simp [binOp, Op.shift, hy]
theorem run_eqGuard_int {P : Program} {op : BinOp} {t : TypeId} {x y : Operand} {k k' : IntKind} {a b : Int} (w : World) : (eqGuard op t x y (.int k a) (.int k' b)).run P w = .ok () w := by
  unfold eqGuard
  cases op <;> rfl

/-- A value in cells. -/
def avSegs : AV → Option Segs
  | .sc v => some [.one v]
  | .agg s => some s
  | _ => none
theorem avSegs_cells {a : AV} {s : Segs} (h : avSegs a = some s) (h1 : Segs.oneB s = true) (ρ : Ren) : (a.den ρ).cells = (Segs.den ρ s).toArray := by
  cases a with
  | sc v =>
    cases h
    simp only [Segs.oneB, Bool.and_true] at h1
    have := SV.oneB_den h1 ρ
    simp only [AV.den, Segs.den, Seg.den]
    cases hv : v.den ρ <;> rw [hv] at this <;> first | rfl | (simp [cell1] at this)
  | agg s' => cases h; rfl
  | junk => cases h
  | tup l => cases h
/-- Cells as a value of a type. -/
def segsAV (agg : Bool) (s : Segs) : Option AV :=
  match agg, s with
  | true, s => some (.agg s)
  | false, [.one v] => some (.sc v)
  | false, [.byt 1 b] => some (.sc (.raw (.int .u8 ((b.getD 0 0 : Nat) : Int))))
  | _, _ => none
theorem segsAV_den {agg : Bool} {s : Segs} {a : AV} (h : segsAV agg s = some a) (ρ : Ren) : (if agg then Value.agg (Segs.den ρ s).toArray else (Segs.den ρ s).getD 0 undef) = a.den ρ ∧ (agg = false → ∃ v, Segs.den ρ s = [v]) ∧ a.ids = Segs.ids s := by
  unfold segsAV at h
  split at h
  · cases h; exact ⟨rfl, by simp, rfl⟩
  · cases h; refine ⟨by simp [Segs.den, Seg.den, AV.den], fun _ => ⟨_, by simp [Segs.den, Seg.den]; rfl⟩, by simp [AV.ids, Segs.ids, Seg.ids]⟩
  · cases h; refine ⟨by simp [Segs.den, Seg.den, AV.den, SV.den, bysN, List.range_succ], fun _ => ⟨_, by simp [Segs.den, Seg.den, bysN, List.range_succ]; rfl⟩, by simp [AV.ids, Segs.ids, Seg.ids, SV.ids]⟩
  · cases h

/-- What can be reckoned out must be so. -/
def chkB (b : Bool) (p : Prop) : Prop := match b with
  | true => p
  | false => False
theorem chkB_spec {b : Bool} {p : Prop} (h : chkB b p) : b = true ∧ p := by
  cases b with
  | true => exact ⟨rfl, h⟩
  | false => exact h.elim
section
variable {P : Program} {T : Tab}
/-- One element of a live row. -/
def elemK (h : LHp) (id i sz : Nat) (K : Md → TypeId → List Segs → List Nat → Segs → Prop) : Prop :=
  match hpL h id with
  | some (.row md t sz' L ms) => chkB (sz == sz') (match md with
    | .one => (match L[i]? with | some e => K .one t L ms e | none => False)
    | md => ∃ e, L[i]? = some e ∧ K md t L ms e)
  | _ => False
theorem elemK_spec {h : LHp} {id i sz : Nat} {K : Md → TypeId → List Segs → List Nat → Segs → Prop} (hk : elemK h id i sz K) : ∃ md t L ms e, hpL h id = some (.row md t sz L ms) ∧ L[i]? = some e ∧ K md t L ms e := by
  unfold elemK at hk
  split at hk
  · rename_i md t sz' L ms hb
    replace hk := chkB_spec hk
    obtain ⟨he, hk⟩ := hk
    obtain rfl := beq_iff_eq.1 he
    clear he
    split at hk
    · split at hk
      · rename_i e he; exact ⟨_, t, L, ms, e, hb, he, hk⟩
      · exact hk.elim
    · obtain ⟨e, he, hk⟩ := hk
      exact ⟨_, t, L, ms, e, hb, he, hk⟩
  · exact hk.elim

def evLoad (T : Tab) (t : TypeId) (h : LHp) (K : Eff → Prop) : AV → Prop
  | .sc (.ptr id i sz fo) => elemK h id i sz fun _ _ _ _ e => match T.lookup t with
    | some d => match subS e fo d.size with
      | some s => match segsAV d.k.isAgg s with
        | some a => K { val := a, touch := [id] }
        | none => False
      | none => False
    | none => False
  | .sc (.ptrB id i sz fo k) => elemK h id i sz fun _ _ _ _ e => match T.lookup t, dropS e fo with
    | some ⟨.int .u8, 1, _, _⟩, some (.byt n b :: _) => k < n ∧ K { val := .sc (.raw (.int .u8 ((b.getD k 0 : Nat) : Int))), touch := [id] }
    | _, _ => False
  | _ => False
def evStore (T : Tab) (t : TypeId) (h : LHp) (x : AV) (K : Eff → Prop) : AV → Prop
  | .sc (.ptr id i sz fo) => elemK h id i sz fun md tt L ms e => match T.lookup t, avSegs x with
    | some d, some s => match repS e fo s with
      | some e' => chkB (Segs.size s == d.size && (Segs.oneB s && (ABlk.row md tt sz L ms).w)) <| K { val := .sc (.raw undef), touch := [id], writes := [(id, some (.row md tt sz (L.set i e') (newMs md L ms e')))] }
      | none => False
    | _, _ => False
  | .sc (.ptrB id i sz fo k) => elemK h id i sz fun md tt L ms e => match T.lookup t, x, dropS e fo with
    | some ⟨.int .u8, 1, _, _⟩, .sc (.raw (.int .u8 v)), some (.byt n b :: _) => match repS e fo [.byt n (b.set k v.toNat)] with
      | some e' => (k < n ∧ n ≤ b.length ∧ 0 ≤ v ∧ (ABlk.row md tt sz L ms).w = true) ∧ K { val := .sc (.raw undef), touch := [id], writes := [(id, some (.row md tt sz (L.set i e') (newMs md L ms e')))] }
      | none => False
    | _, _, _ => False
  | _ => False
def nilCmp (op : BinOp) (isNil : Bool) : Option Bool := match op with
  | .eql => some isNil
  | .neq => some (!isNil)
  | _ => none
/-- Comparing with nil: which of two values is none. -/
def nilOf : TK → AV → AV → Option Bool
  | .ptr _, .sc (.raw (.pointer none)), .sc (.raw (.pointer none)) => some true
  | .ptr _, .sc (.ptr ..), .sc (.raw (.pointer none)) => some false
  | .slice _, .sc (.raw (.slice none _ _)), .sc (.raw (.slice none _ _)) => some true
  | .slice _, .sc (.sl ..), .sc (.raw (.slice none _ _)) => some false
  | .map .., .sc (.raw (.map none)), .sc (.raw (.map none)) => some true
  | .map .., .sc (.mp _), .sc (.raw (.map none)) => some false
  | .map .., .sc (.raw (.map (some _))), .sc (.raw (.map none)) => some false
  | .fn, .sc (.raw .nilFunc), .sc (.raw .nilFunc) => some true
  | .fn, .sc (.fn ..), .sc (.raw .nilFunc) => some false
  | _, _, _ => none
def evBin (T : Tab) (op : BinOp) (t : TypeId) (K : Eff → Prop) (x y : AV) : Prop :=
  match x, y with
  | .sc (.raw (.int k a)), .sc (.raw (.int k' b)) =>
    if isShift op then ∃ r, shiftI op k a b = some r ∧ K { val := .sc (.raw (.int k r)) }
    else if k = k' then (match cmpI op a b with
      | some v => ∀ c, c = v → K { val := .sc (.raw (.bool c)) }
      | none => ∃ r, arithI op k a b = some r ∧ K { val := .sc (.raw (.int k r)) })
    else False
  | .sc (.raw (.bool a)), .sc (.raw (.bool b)) => match op, T.lookup t with
    | .eql, some ⟨.bool, _, _, _⟩ => K { val := .sc (.raw (.bool (a == b))) }
    | .neq, some ⟨.bool, _, _, _⟩ => K { val := .sc (.raw (.bool (a != b))) }
    | _, _ => False
  | x, y => match (T.lookup t).bind (fun d => (nilOf d.k x y).bind (nilCmp op)) with
    | some c => K { val := .sc (.raw (.bool c)) }
    | none => False

variable {o : Oper} {l : LTm} {h : LHp} {K : Eff → Prop}
theorem opL_reads {val : AV} {touch : List Nat} (hh : ∀ (hp₂ : AHeap), (∀ id ∈ touch, hp₂ id = hpL h id) → ∀ (Γ : Ctx) (ρ : Ren) (w : World) (ev : Operand → Value), Sat Γ ρ hp₂ w → Evals ρ (tmL l) o.op.operands.toList ev →
      ∃ v, (execOp ev o).run P w = .ok (.value v) w ∧ (val = .junk ∨ v = val.den ρ)) : OpL P o l h { val := val, touch := touch } := OpT.reads val touch hh

/-- A load read off: what it comes to, wherever the blocks that it looks at are as they are. -/
theorem evLoad_run (hT : TabOk P T) {t : TypeId} {x : AV} (hk : evLoad T t h K x) : ∃ av id, K { val := av, touch := [id] } ∧ x ≠ .junk ∧ ∀ (hp₂ : AHeap), hp₂ id = hpL h id → ∀ (Γ : Ctx) (ρ : Ren) (w : World), Sat Γ ρ hp₂ w →
    ∃ a, x.den ρ = .pointer (some a) ∧ (loadVar t a).run P w = .ok (av.den ρ) w := by
  unfold evLoad at hk
  split at hk
  · rename_i id i sz fo
    obtain ⟨md, tt, L, ms, e, hb, he, hk⟩ := elemK_spec hk
    split at hk
    · rename_i d hd
      split at hk
      · rename_i s hs
        split at hk
        · rename_i av hav
          refine ⟨av, id, hk, by simp, fun hp₂ hh Γ ρ w hsat => ⟨_, rfl, ?_⟩⟩
          have hdo := tab_get hT hd
          have hko : d.k ≠ .other := fun hc => by
            obtain ⟨u, _, hu⟩ := hdo.u
            rw [hc] at hu; exact hu
          have hb2 : hp₂ id = some (.row md tt sz L ms) := by rw [hh]; exact hb
          obtain ⟨c, t', fr, pre, post, c1, c2, c3, c4⟩ := (hsat.blk id _ hb2).elem he
          obtain ⟨s1, s2, s3, s4⟩ := subS_den (ρ := ρ) hs
          have hcell : cellsAt w (ρ id).b ((ρ id).sh + i * sz + fo) (Segs.den ρ s) := by
            rw [s3, ← c3]
            exact cellsAt_drop (cellsAt_of c1 c2)
          obtain ⟨g1, g2, g3⟩ := segsAV_den hav ρ
          have := run_loadVar (P := P) hdo hko hcell (by rw [Segs.den_length, s2]) g2
          rw [g1] at this
          exact this
        · exact hk.elim
      · exact hk.elim
    · exact hk.elim
  · rename_i id i sz fo k
    obtain ⟨md, tt, L, ms, e, hb, he, hk⟩ := elemK_spec hk
    split at hk
    · rename_i by_ z n b rest hd hdr
      obtain ⟨hkn, hk⟩ := hk
      refine ⟨_, id, hk, by simp, fun hp₂ hh Γ ρ w hsat => ⟨_, rfl, ?_⟩⟩
      have hdo := tab_get hT hd
      have hb2 : hp₂ id = some (.row md tt sz L ms) := by rw [hh]; exact hb
      obtain ⟨c, t', fr, pre, post, c1, c2, c3, c4⟩ := (hsat.blk id _ hb2).elem he
      obtain ⟨d1, d2, d3⟩ := dropS_den ρ e fo _ hdr
      have hcell : cellsAt w (ρ id).b ((ρ id).sh + i * sz + fo + k) [Value.int .u8 ((b.getD k 0 : Nat) : Int)] := by
        have hh2 := cellsAt_drop (k := fo + k) (n := 1) (cellsAt_of c1 c2)
        rw [c3, ← Nat.add_assoc] at hh2
        have e1 : ((Segs.den ρ e).drop (fo + k)).take 1 = [Value.int .u8 ((b.getD k 0 : Nat) : Int)] := by
          rw [← List.drop_drop, ← d2]
          simp only [Segs.den, Seg.den]
          rw [List.drop_append, bysN_length, show k - n = 0 by omega]
          have : (bysN n b).drop k = Value.int .u8 ((b.getD k 0 : Nat) : Int) :: (bysN n b).drop (k + 1) := by
            rw [← List.getElem_cons_drop (by rw [bysN_length]; exact hkn)]
            simp [bysN]
          rw [this]; simp
        rwa [e1] at hh2
      exact run_loadVar (P := P) hdo (by simp) hcell (by simp) (fun _ => ⟨_, rfl⟩)
    · exact hk.elim
  · exact hk.elim
theorem evLoad_sound (hT : TabOk P T) {t : TypeId} {a : Operand} (ho : o.op = .load t a) (hk : evLoad T t h K (evalO (tmL l) a)) : ∃ e, OpL P o l h e ∧ K e := by
  have hmem : a ∈ o.op.operands.toList := by rw [ho]; simp [Op.operands]
  obtain ⟨av, id, hk, hj, hrun⟩ := evLoad_run hT hk
  refine ⟨_, opL_reads fun hp₂ hh Γ ρ w ev hsat hev => ?_, hk⟩
  obtain ⟨ad, h1, h2⟩ := hrun hp₂ (hh id (by simp)) Γ ρ w hsat
  have h3 : ev a = (evalO (tmL l) a).den ρ := hev.get hmem rfl hj
  rw [h1] at h3
  refine ⟨av.den ρ, ?_, .inr rfl⟩
  unfold execOp
  simp only [ho, h3, Instr.loadAt, Instr.sureAddr]
  simp [h2]

theorem evStore_sound (hT : TabOk P T) {t : TypeId} {a x : Operand} (ho : o.op = .store t a x) (hk : evStore T t h (evalO (tmL l) x) K (evalO (tmL l) a)) : ∃ e, OpL P o l h e ∧ K e := by
  have hmem : a ∈ o.op.operands.toList := by rw [ho]; simp [Op.operands]
  have hmem' : x ∈ o.op.operands.toList := by rw [ho]; simp [Op.operands]
  generalize hx : evalO (tmL l) a = p at hk
  generalize hy : evalO (tmL l) x = y at hk
  have fin : ∀ (id i sz fo : Nat) (md : Md) (tt : TypeId) (L : List Segs) (ms : List Nat) (e e' s : Segs) (d : TD), T.lookup t = some d → hpL h id = some (.row md tt sz L ms) → L[i]? = some e → repS e fo s = some e' → Segs.size s = d.size →
      Segs.oneB s = true → (ABlk.row md tt sz L ms).w = true → y ≠ .junk → (∀ ρ, (y.den ρ).cells = (Segs.den ρ s).toArray) → (∀ ρ, p.den ρ = .pointer (some ⟨(ρ id).b, (ρ id).sh + i * sz + fo, none⟩)) → p ≠ .junk →
      OpL P o l h { val := .sc (.raw undef), touch := [id], writes := [(id, some (.row md tt sz (L.set i e') (newMs md L ms e')))] } := by
    intro id i sz fo md tt L ms e e' s d hd hb he hr hs1 hs2 hw hyj hyd hpd hpj
    have hdo := tab_get hT hd
    refine OpT.of_run fun hp₂ hh _ _ Γ ρ w ev h0 hsat hev => ?_
    have h1 : ev a = .pointer (some ⟨(ρ id).b, (ρ id).sh + i * sz + fo, none⟩) := by rw [hev.get hmem hx hpj, hpd]
    have h2 : ev x = y.den ρ := hev.get hmem' hy hyj
    have hb2 : hp₂ id = some (.row md tt sz L ms) := by rw [hh id (by simp)]; exact hb
    obtain ⟨w', k1, k2⟩ := run_storeVar (P := P) hsat hdo hb2 hw he hr hs1 hs2 (hyd ρ)
    refine ⟨ρ, undef, w', .inr ⟨?_, rfl⟩, fun _ _ => rfl, .inr rfl, ?_⟩
    · unfold execOp
      simp only [ho, h1, h2, Instr.storeAt, Instr.sureAddr]
      simp [k1]
    · have : ({ val := AV.sc (.raw undef), touch := [id], writes := [(id, some (ABlk.row md tt sz (L.set i e') (newMs md L ms e')))] } : Eff).app h.length hp₂ = upd hp₂ id (some (.row md tt sz (L.set i e') (newMs md L ms e'))) := by
        funext j
        simp only [Eff.app, List.length_nil, Nat.add_zero, upd, List.lookup_cons, List.lookup_nil]
        rw [if_neg (by omega)]
        by_cases e : j = id
        · subst e; simp
        · have : (j == id) = false := by simpa using e
          simp [this, e]
      rw [this]; exact k2
  unfold evStore at hk
  split at hk
  · rename_i id i sz fo
    obtain ⟨md, tt, L, ms, e, hb, he, hk⟩ := elemK_spec hk
    split at hk
    · rename_i d s hd hs
      split at hk
      · rename_i e' hr
        obtain ⟨hkk, hk⟩ := chkB_spec hk
        simp only [Bool.and_eq_true, beq_iff_eq] at hkk
        obtain ⟨k1, k2, k3⟩ := hkk
        refine ⟨_, fin id i sz fo md tt L ms e e' s d hd hb he hr k1 k2 k3 (fun hc => by rw [hc] at hs; cases hs) (fun ρ => avSegs_cells hs k2 ρ) (fun ρ => rfl) (by simp), hk⟩
      · exact hk.elim
    · exact hk.elim
  · rename_i id i sz fo k
    obtain ⟨md, tt, L, ms, e, hb, he, hk⟩ := elemK_spec hk
    split at hk
    · rename_i by_ z v n b rest hd hdr _hk0
      split at hk
      · rename_i e' hr
        obtain ⟨⟨k1, k2, k3, k4⟩, hk⟩ := hk
        refine ⟨_, ?_, hk⟩
        -- the one cell
        have hdo := tab_get hT hd
        have hv0 : ((v.toNat : Nat) : Int) = v := by omega
        refine OpT.of_run fun hp₂ hh _ _ Γ ρ w ev h0 hsat hev => ?_
        have h1 : ev a = .pointer (some ⟨(ρ id).b, (ρ id).sh + i * sz + fo + k, none⟩) := hev.get hmem hx (by simp)
        have h2 : ev x = .int .u8 v := hev.get hmem' hy (by simp)
        have hb2 : hp₂ id = some (.row md tt sz L ms) := by rw [hh id (by simp)]; exact hb
        have hbs := hsat.blk id _ hb2
        obtain ⟨c, hc, hcs⟩ := hbs.cells k4
        have hsz := (hbs.1 e (List.mem_of_getElem? he)).1
        obtain ⟨d1, d2, d3⟩ := dropS_den ρ e fo _ hdr
        obtain ⟨r1, r2, r3, r4⟩ := repS_den (ρ := ρ) hr
        obtain ⟨c0, t0, fr, pre, post, b1, b2, b3, b4⟩ := hbs.elem he
        rw [hc] at b1; cases b1
        have hel : (Segs.den ρ e).length = sz := by rw [Segs.den_length, hsz]
        simp only [Segs.size, Seg.size, Nat.add_zero] at r1
        have hcsz : c.size = pre.length + (sz + post.length) := by rw [← Array.length_toList, b2]; simp [hel]
        obtain ⟨w', c', g1, g2, g3, g4⟩ := run_storeCells (P := P) (b := (ρ id).b) (o := (ρ id).sh + i * sz + fo + k) (t := tt) [Value.int .u8 v] 0 w c hc (by simp; omega) (fun x hx => by simp at hx; subst hx; rfl)
        refine ⟨ρ, undef, w', .inr ⟨?_, rfl⟩, fun _ _ => rfl, .inr rfl, ?_⟩
        · have : (storeVar t ⟨(ρ id).b, (ρ id).sh + i * sz + fo + k, none⟩ (.int .u8 v)).run P w = .ok () w' := by
            unfold storeVar
            rw [Sem.run_bind, hdo.sz, Result.andThen_ok]
            have : ¬ ((Value.int .u8 v).cells.size ≠ 1) := by simp [Value.cells]
            simp only [this, if_false]
            exact g1
          unfold execOp
          simp only [ho, h1, h2, Instr.storeAt, Instr.sureAddr]
          simp [this]
        · have happ : ({ val := AV.sc (.raw undef), touch := [id], writes := [(id, some (ABlk.row md tt sz (L.set i e') (newMs md L ms e')))] } : Eff).app h.length hp₂ = upd hp₂ id (some (.row md tt sz (L.set i e') (newMs md L ms e'))) := by
            funext j
            simp only [Eff.app, List.length_nil, Nat.add_zero, upd, List.lookup_cons, List.lookup_nil]
            rw [if_neg (by omega)]
            by_cases e : j = id
            · subst e; simp
            · have : (j == id) = false := by simpa using e
              simp [this, e]
          rw [happ]
          refine hsat.write hb2 k4 (BlkSat.ms' he <| hbs.put (c := c) (c' := c') he k4 (by rw [r2]; exact hsz) (repS_oneB hr (hbs.1 e (List.mem_of_getElem? he)).2 rfl) hc g2 ?_) g4.rest (by rw [g4.size]; exact Nat.le_refl _) g4.os g4.tape g4.output
          have hdl : Segs.den ρ e = (Segs.den ρ e).take fo ++ (bysN n b ++ Segs.den ρ rest) := by
            have := List.take_append_drop fo (Segs.den ρ e)
            rw [← d2] at this
            exact this.symm
          have hfo : ((Segs.den ρ e).take fo).length = fo := by rw [List.length_take]; omega
          have hbs' : bysN n (b.set k v.toNat) = (bysN n b).take k ++ (Value.int .u8 v :: (bysN n b).drop (k + 1)) := by
            have hset : bysN n (b.set k v.toNat) = (bysN n b).set k (.int .u8 v) := by
              apply List.ext_getElem?
              intro j
              by_cases hj : j < n
              · by_cases hjk : j = k
                · subst hjk
                  rw [List.getElem?_set_self (by rw [bysN_length]; exact hj)]
                  simp only [bysN, List.getElem?_map, List.getElem?_range hj, Option.map_some]
                  have : j < b.length := by omega
                  simp [this, hv0]
                · rw [List.getElem?_set_ne (Ne.symm hjk)]
                  simp only [bysN, List.getElem?_map, List.getElem?_range hj, Option.map_some]
                  simp [List.getElem?_set_ne (Ne.symm hjk)]
              · rw [List.getElem?_eq_none (by rw [bysN_length]; omega), List.getElem?_eq_none (by rw [List.length_set, bysN_length]; omega)]
            rw [hset, List.set_eq_take_append_cons_drop, if_pos (by rw [bysN_length]; exact k1)]
          rw [g3, r3, b2]
          simp only [Segs.den, Seg.den, List.append_nil, List.length_singleton, Segs.size, Seg.size, Nat.add_zero]
          rw [← b3]
          have e3 : List.take pre.length (pre ++ (Segs.den ρ e ++ post)) = pre := by rw [List.take_left']; rfl
          have e4 : List.drop (pre.length + sz) (pre ++ (Segs.den ρ e ++ post)) = post := by
            rw [List.drop_append, List.drop_of_length_le (l := pre) (by omega), show pre.length + sz - pre.length = sz by omega, ← hel, List.drop_left']
            · simp
            · rfl
          have hbl : (bysN n b).length = n := bysN_length n b
          have e5 : List.drop (fo + n) (Segs.den ρ e) = Segs.den ρ rest := by
            rw [hdl, List.drop_append, List.drop_of_length_le (by omega), hfo, show fo + n - fo = n by omega, List.drop_append, List.drop_of_length_le (by omega), hbl]
            simp
          have e1 : List.take (pre.length + fo + k) (pre ++ (Segs.den ρ e ++ post)) = pre ++ ((Segs.den ρ e).take fo ++ (bysN n b).take k) := by
            rw [List.take_append, List.take_of_length_le (l := pre) (by omega), show pre.length + fo + k - pre.length = fo + k by omega]
            rw [List.take_append, show fo + k - (Segs.den ρ e).length = 0 by omega]
            rw [hdl, List.take_append, hfo, List.take_of_length_le (l := (Segs.den ρ e).take fo) (by omega), show fo + k - fo = k by omega, List.take_append, show k - (bysN n b).length = 0 by omega]
            simp [hfo]
          have e2 : List.drop (pre.length + fo + k + 1) (pre ++ (Segs.den ρ e ++ post)) = (bysN n b).drop (k + 1) ++ (Segs.den ρ rest ++ post) := by
            rw [List.drop_append, List.drop_of_length_le (l := pre) (by omega), show pre.length + fo + k + 1 - pre.length = fo + k + 1 by omega]
            rw [List.drop_append, show fo + k + 1 - (Segs.den ρ e).length = 0 by omega]
            rw [hdl, List.drop_append, hfo, List.drop_of_length_le (l := (Segs.den ρ e).take fo) (by omega), show fo + k + 1 - fo = k + 1 by omega, List.drop_append, show k + 1 - (bysN n b).length = 0 by omega]
            simp
          rw [e1, e2, e3, e4, e5, hbs']
          simp
      · exact hk.elim
    · exact hk.elim
  · exact hk.elim
end
end Go.Proofs.Ytdmcbfmpnakdfaa.Eng
