/- Operations read off: cuts, comparisons of arrays of bytes, maps, interfaces. -/
import Derived.Test.YtdmcbfmpnakdfaaEl3
import Derived.ChangeKeysEq
namespace Go.Proofs.Ytdmcbfmpnakdfaa.Eng
open Go

/-- A bound: what is said, or what stands for it. -/
def bndI (x : Option AV) (d : Nat) : Option Int := match x with
  | none => some d
  | some (.sc (.raw (.int _ n))) => some n
  | _ => none
def evSlice (T : Tab) (t : TypeId) (h : LHp) (lo hi mx : Option AV) (K : Eff → Prop) : AV → Prop
  | .sc (.sl id i sz len cap) => match T.lookup t with
    | some ⟨.slice e, _, _, _⟩ => match T.lookup e, bndI lo 0, bndI hi len with
      | some d, some l, some u => chkB (sz == d.size) <| match mx, cap with
        | none, cap => (0 ≤ l ∧ l ≤ u ∧ u ≤ (match cap with | some c => (c : Int) | none => (len : Int)) ∧ (cap = none → ∃ md t' sz' L ms, hpL h id = some (.row md t' sz' L ms) ∧ i + len ≤ L.length)) ∧
          ((l < u ∨ l = 0) → K { val := .sc (.sl id (i + l.toNat) sz (u - l).toNat (cap.map (· - l.toNat))), touch := [id] }) ∧ (l = u → 0 < l → K { val := .sc (.sl h.length 0 sz 0 none), touch := [id], news := [none] })
        | some (.sc (.raw (.int _ m))), some c => (0 ≤ l ∧ l ≤ u ∧ u ≤ m ∧ m ≤ (c : Int)) ∧
          ((l < m ∨ l = 0) → K { val := .sc (.sl id (i + l.toNat) sz (u - l).toNat (some (m - l).toNat)), touch := [id] }) ∧ (l = m → 0 < l → K { val := .sc (.sl h.length 0 sz 0 none), touch := [id], news := [none] })
        | some (.sc (.raw (.int _ m))), none => (0 ≤ l ∧ l ≤ u ∧ u ≤ m ∧ m ≤ (len : Int) ∧ ∃ md t' sz' L ms, hpL h id = some (.row md t' sz' L ms) ∧ i + len ≤ L.length) ∧
          ((l < m ∨ l = 0) → K { val := .sc (.sl id (i + l.toNat) sz (u - l).toNat (some (m - l).toNat)), touch := [id] }) ∧ (l = m → 0 < l → K { val := .sc (.sl h.length 0 sz 0 none), touch := [id], news := [none] })
        | _, _ => False
      | _, _, _ => False
    | _ => False
  | .sc (.raw (.slice none 0 0)) => match T.lookup t with
    | some ⟨.slice e, _, _, _⟩ => match T.lookup e, bndI lo 0, bndI hi 0, mx with
      | some _, some l, some u, none => (l = 0 ∧ u = 0) ∧ K { val := .sc (.raw (.slice none 0 0)) }
      | some _, some l, some u, some (.sc (.raw (.int _ m))) => (l = 0 ∧ u = 0 ∧ m = 0) ∧ K { val := .sc (.raw (.slice none 0 0)) }
      | _, _, _, _ => False
    | _ => False
  | _ => False

section
variable {P : Program} {T : Tab} {o : Oper} {l : LTm} {h : LHp} {K : Eff → Prop}
theorem run_sliceBound {P : Program} {k : IntKind} {n : Int} {y : Nat} {c : BoundsCode} {w : World} (h0 : 0 ≤ n) (h1 : n ≤ y) : (Instr.sliceBound (.int k n) y c).run P w = .ok n.toNat w := by
  unfold Instr.sliceBound
  simp [asIntOf, h0, h1]
/-- A bound's operand reads so. -/
def BndIs (v : Option Value) (d : Nat) (n : Int) : Prop := match v with
  | none => n = d
  | some (.int _ m) => m = n
  | _ => False
theorem run_sliceBounds {P : Program} {len cap : Nat} {lo hi : Option Value} {a b : Int} {w : World} (hl : BndIs lo 0 a) (hh : BndIs hi len b) (h0 : 0 ≤ a) (h1 : a ≤ b) (h2 : b ≤ cap) :
    (Instr.sliceBounds true len cap lo hi none).run P w = .ok (a.toNat, b.toNat, cap) w := by
  have q1 : ∀ (k : IntKind) c, (Instr.sliceBound (.int k b) cap c).run P w = .ok b.toNat w := fun k c => run_sliceBound (by omega) h2
  have q2 : ∀ (k : IntKind) c, (Instr.sliceBound (.int k a) b.toNat c).run P w = .ok a.toNat w := fun k c => run_sliceBound h0 (by omega)
  unfold Instr.sliceBounds
  cases hi with
  | none =>
    simp only [BndIs] at hh
    subst hh
    simp only [Int.toNat_natCast] at q2
    cases lo with
    | none =>
      simp only [BndIs] at hl
      subst hl
      simp
    | some v =>
      cases v <;> simp only [BndIs] at hl
      subst hl
      simp [q2]
  | some v =>
    cases v <;> simp only [BndIs] at hh
    subst hh
    cases lo with
    | none =>
      simp only [BndIs] at hl
      subst hl
      simp [q1]
    | some v =>
      cases v <;> simp only [BndIs] at hl
      subst hl
      simp [q1, q2]
theorem run_sliceBounds3 {P : Program} {len cap : Nat} {lo hi : Option Value} {a b m : Int} {k : IntKind} {w : World} (hl : BndIs lo 0 a) (hh : BndIs hi len b) (hn : hi ≠ none) (h0 : 0 ≤ a) (h1 : a ≤ b) (h2 : b ≤ m) (h3 : m ≤ cap) :
    (Instr.sliceBounds true len cap lo hi (some (.int k m))).run P w = .ok (a.toNat, b.toNat, m.toNat) w := by
  have q0 : ∀ c, (Instr.sliceBound (.int k m) cap c).run P w = .ok m.toNat w := fun c => run_sliceBound (by omega) h3
  have q1 : ∀ (k : IntKind) c, (Instr.sliceBound (.int k b) m.toNat c).run P w = .ok b.toNat w := fun k c => run_sliceBound (by omega) (by omega)
  have q2 : ∀ (k : IntKind) c, (Instr.sliceBound (.int k a) b.toNat c).run P w = .ok a.toNat w := fun k c => run_sliceBound h0 (by omega)
  unfold Instr.sliceBounds
  cases hi with
  | none => exact absurd rfl hn
  | some v =>
    cases v <;> simp only [BndIs] at hh
    subst hh
    cases lo with
    | none =>
      simp only [BndIs] at hl
      subst hl
      simp [q0, q1]
    | some v =>
      cases v <;> simp only [BndIs] at hl
      subst hl
      simp [q0, q1, q2]
theorem bndI_is {x : Option Operand} {d : Nat} {n : Int} {ρ : Ren} {ev : Operand → Value} (h : bndI (x.map (evalO (tmL l))) d = some n) (he : ∀ y ∈ x.toList, evalO (tmL l) y = .junk ∨ ev y = (evalO (tmL l) y).den ρ) : BndIs (x.map ev) d n := by
  cases x with
  | none => simp [bndI] at h; simp [BndIs, h]
  | some y =>
    simp only [Option.map_some] at h ⊢
    unfold bndI at h
    split at h
    · rename_i hc; cases hc
    · rename_i k m hc
      cases h
      injection hc with hc
      rcases he y (by simp) with h1 | h1
      · rw [hc] at h1; cases h1
      · rw [h1, hc]; rfl
    · cases h
theorem app_none (v : AV) (tch : List Nat) (base : Nat) (hp : AHeap) (hn : hp base = none) : ({ val := v, touch := tch, news := [none] } : Eff).app base hp = hp := by
  rw [app_new']
  funext i
  by_cases e : i = base
  · subst e; rw [upd_same, hn]
  · rw [upd_ne _ _ e]
theorem Sat.setR {Γ : Ctx} {ρ : Ren} {hp : AHeap} {w : World} {id : Nat} {s : Spot} (h : Sat Γ ρ hp w) (hn : hp id = none) (h0 : Γ.n0 ≤ id) (hcl : ∀ i b, hp i = some b → id ∉ b.ms) : Sat Γ (updR ρ id s) hp w where
  blk i x hx := by
    have e : i ≠ id := fun e => by rw [e, hn] at hx; cases hx
    exact (h.blk i x hx).congr (updR_ne _ _ e) (fun y hy => updR_ne _ _ fun hc => hcl i x hx (hc ▸ hy)) rfl
  inj i j x y hx hy hxw hij := by
    have e : i ≠ id := fun e => by rw [e, hn] at hx; cases hx
    have e' : j ≠ id := fun e => by rw [e, hn] at hy; cases hy
    rw [updR_ne _ _ e, updR_ne _ _ e'] at hij
    exact h.inj i j x y hx hy hxw hij
  foot i x hx hxw hlt := by
    have e : i ≠ id := fun e => by rw [e, hn] at hx; cases hx
    rw [updR_ne _ _ e] at hlt ⊢
    exact h.foot i x hx hxw hlt
  frame := h.frame
  size := h.size
  os := h.os
  tape := h.tape
  output := h.output
  fix i hi := by rw [updR_ne _ _ (by omega)]; exact h.fix i hi

theorem evSlice_sound (hT : TabOk P T) {t : TypeId} {x : Operand} {lo hi mx : Option Operand} (ho : o.op = .slice t x lo hi mx) (hk : evSlice T t h (lo.map (evalO (tmL l))) (hi.map (evalO (tmL l))) (mx.map (evalO (tmL l))) K (evalO (tmL l) x)) (hmh : mx ≠ none → hi ≠ none) :
    ∃ e, OpL P o l h e ∧ K e := by
  have hops : o.op.operands.toList = x :: (lo.toList ++ (hi.toList ++ mx.toList)) := by
    rw [ho]; cases lo <;> cases hi <;> cases mx <;> simp [Op.operands]
  have hmx : x ∈ o.op.operands.toList := by rw [hops]; simp
  have hexec : ∀ (ev : Operand → Value) (w : World), (execOp ev o).run P w = ((Instr.sliceAt t (ev x) (lo.map ev) (hi.map ev) (mx.map ev)).run P w).andThen fun v w => .ok (.value v) w := by
    intro ev w
    unfold execOp
    simp only [ho]
    simp
  generalize hx : evalO (tmL l) x = u at hk
  unfold evSlice at hk
  split at hk
  · rename_i id i sz len cap
    split at hk
    case h_2 => exact hk.elim
    rename_i e s1 b1 z1 hd
    obtain ⟨ty, hu, hrun⟩ := (tab_get hT hd).und
    simp only [TKOk] at hu
    subst hu
    split at hk
    case h_2 => exact hk.elim
    rename_i d a b hde hlo hhi
    replace hk := chkB_spec hk
    obtain ⟨hsz, hk⟩ := hk
    obtain rfl := beq_iff_eq.1 hsz
    have hszr := (tab_get hT hde).sz
    -- the run, whatever bound there is
    have hrunS : ∀ (ρ : Ren) (w : World) (ev : Operand → Value) (m : Nat), Evals ρ (tmL l) o.op.operands.toList ev → (Instr.sliceBounds true len (cap.getD ((ρ id).tot - i)) (lo.map ev) (hi.map ev) (mx.map ev)).run P w = .ok (a.toNat, b.toNat, m) w →
        (execOp ev o).run P w = .ok (.value (.slice (if m = a.toNat then some ⟨(ρ id).b, (ρ id).sh + i * d.size, none⟩ else some ⟨(ρ id).b, (ρ id).sh + i * d.size + a.toNat * d.size, none⟩) (b.toNat - a.toNat) (m - a.toNat))) w := by
      intro ρ w ev m hev hb
      have g1 := evals_get hev hmx hx (by simp)
      rw [den_sl] at g1
      rw [hexec, g1]
      unfold Instr.sliceAt
      simp only [Sem.run_bind, hrun, Result.andThen_ok, Instr.slice, hb, hszr, Sem.run_pure, Option.map_some, addr_add]
    have hlo' : ∀ (ρ : Ren) (ev : Operand → Value), Evals ρ (tmL l) o.op.operands.toList ev → BndIs (lo.map ev) 0 a := fun ρ ev hev => bndI_is hlo fun y hy => hev y (by rw [hops]; simp [hy])
    have hhi' : ∀ (ρ : Ren) (ev : Operand → Value), Evals ρ (tmL l) o.op.operands.toList ev → BndIs (hi.map ev) len b := fun ρ ev hev => bndI_is hhi fun y hy => hev y (by rw [hops]; simp [hy])
    -- the two ways it comes out
    have out1 : ∀ (m : Ren → Nat) (cp : Option Nat), 0 ≤ a → a ≤ b → (∀ hp₂ : AHeap, hp₂ id = hpL h id → ∀ Γ ρ w ev, Sat Γ ρ hp₂ w → Evals ρ (tmL l) o.op.operands.toList ev → (Instr.sliceBounds true len (cap.getD ((ρ id).tot - i)) (lo.map ev) (hi.map ev) (mx.map ev)).run P w = .ok (a.toNat, b.toNat, m ρ) w ∧ (a.toNat < m ρ ∨ a = 0) ∧ m ρ - a.toNat = cp.getD ((ρ id).tot - (i + a.toNat))) →
        OpL P o l h { val := .sc (.sl id (i + a.toNat) d.size (b - a).toNat cp), touch := [id] } := by
      intro m cp h0 h1 hm
      refine opL_reads fun hp₂ hh Γ ρ w ev hsat hev => ⟨_, ?_, .inr rfl⟩
      obtain ⟨k1, k2, k3⟩ := hm hp₂ (hh id (by simp)) Γ ρ w ev hsat hev
      rw [hrunS ρ w ev _ hev k1, den_sl, ← k3]
      have e1 : (b - a).toNat = b.toNat - a.toNat := by omega
      rw [e1]
      have e2 : (if m ρ = a.toNat then some (⟨(ρ id).b, (ρ id).sh + i * d.size, none⟩ : Addr) else some ⟨(ρ id).b, (ρ id).sh + i * d.size + a.toNat * d.size, none⟩) = some ⟨(ρ id).b, (ρ id).sh + (i + a.toNat) * d.size, none⟩ := by
        split
        · rename_i hc
          have ha : a = 0 := by rcases k2 with k2 | k2; · omega
                                · exact k2
          subst ha
          simp
        · rw [Nat.add_mul, Nat.add_assoc]
      rw [e2]
    have out2 : ∀ (m : Ren → Nat), a = b → (∀ hp₂ : AHeap, hp₂ id = hpL h id → ∀ Γ ρ w ev, Sat Γ ρ hp₂ w → Evals ρ (tmL l) o.op.operands.toList ev → (Instr.sliceBounds true len (cap.getD ((ρ id).tot - i)) (lo.map ev) (hi.map ev) (mx.map ev)).run P w = .ok (a.toNat, b.toNat, m ρ) w) →
        OpL P o l h { val := .sc (.sl h.length 0 d.size 0 none), touch := [id], news := [none] } := by
      intro m hab hm
      refine OpT.of_run fun hp₂ hh hcl hsc Γ ρ w ev h0 hsat hev => ?_
      have hc := hcl h.length (Nat.le_refl _) (by simp)
      have k1 := hm hp₂ (hh id (by simp)) Γ ρ w ev hsat hev
      refine ⟨updR ρ h.length ⟨(ρ id).b, if m ρ = a.toNat then (ρ id).sh + i * d.size else (ρ id).sh + i * d.size + a.toNat * d.size, m ρ - a.toNat⟩, _, w, .inl (hrunS ρ w ev _ hev k1), fun i hi => updR_ne _ _ (fun e => hi (by simp [e])), .inr ?_, ?_⟩
      · simp only [AV.den, SV.den, updR_same, Nat.zero_mul, Nat.add_zero, Nat.sub_zero]
        subst hab
        rw [Nat.sub_self]
        congr 1
        split <;> rfl
      · rw [app_none _ _ _ _ hc.1]
        exact hsat.setR hc.1 h0 hc.2
    split at hk
    · -- no third bound
      rename_i cap x1 c2 hmx0
      have hmxn : mx = none := by cases mx with
        | none => rfl
        | some y => cases hmx0
      subst hmxn
      obtain ⟨⟨h0, h1, h2, h3⟩, hk1, hk2⟩ := hk
      have hcap : ∀ hp₂ : AHeap, hp₂ id = hpL h id → ∀ Γ ρ w, Sat Γ ρ hp₂ w → b ≤ ((cap.getD ((ρ id).tot - i) : Nat) : Int) := by
        intro hp₂ hh Γ ρ w hsat
        cases cap with
        | some c => simpa using h2
        | none =>
          obtain ⟨md, t', sz', L, ms, hbk, hle⟩ := h3 rfl
          have := (hsat.blk id (.row md t' sz' L ms) (by rw [hh]; exact hbk)).2.2.1
          simp only [Option.getD_none] at h2 ⊢
          omega
      have hbnd : ∀ hp₂ : AHeap, hp₂ id = hpL h id → ∀ Γ ρ w ev, Sat Γ ρ hp₂ w → Evals ρ (tmL l) o.op.operands.toList ev → (Instr.sliceBounds true len (cap.getD ((ρ id).tot - i)) (lo.map ev) (hi.map ev) ((none : Option Operand).map ev)).run P w = .ok (a.toNat, b.toNat, cap.getD ((ρ id).tot - i)) w :=
        fun hp₂ hh Γ ρ w ev hsat hev => run_sliceBounds (hlo' ρ ev hev) (hhi' ρ ev hev) h0 h1 (hcap hp₂ hh Γ ρ w hsat)
      by_cases hc : a < b ∨ a = 0
      · refine ⟨_, out1 (fun ρ => cap.getD ((ρ id).tot - i)) (cap.map (· - a.toNat)) h0 h1 (fun hp₂ hh Γ ρ w ev hsat hev => ⟨hbnd hp₂ hh Γ ρ w ev hsat hev, ?_, ?_⟩), hk1 hc⟩
        · have := hcap hp₂ hh Γ ρ w hsat
          rcases hc with hc | hc
          · left; omega
          · right; exact hc
        · cases cap with
          | some c => rfl
          | none => simp only [Option.getD_none, Option.map_none]; omega
      · exact ⟨_, out2 (fun ρ => cap.getD ((ρ id).tot - i)) (by omega) hbnd, hk2 (by omega) (by omega)⟩
    · rename_i x1 k m c hmx0
      obtain ⟨mo, rfl, hmo⟩ : ∃ mo, mx = some mo ∧ evalO (tmL l) mo = .sc (.raw (.int k m)) := by
        cases mx with
        | none => cases hmx0
        | some y => injection hmx0 with hmx0; exact ⟨y, rfl, hmx0⟩
      obtain ⟨⟨h0, h1, h2, h3⟩, hk1, hk2⟩ := hk
      have hbnd : ∀ hp₂ : AHeap, hp₂ id = hpL h id → ∀ Γ ρ w ev, Sat Γ ρ hp₂ w → Evals ρ (tmL l) o.op.operands.toList ev → (Instr.sliceBounds true len ((some c).getD ((ρ id).tot - i)) (lo.map ev) (hi.map ev) ((some mo).map ev)).run P w = .ok (a.toNat, b.toNat, m.toNat) w := by
        intro hp₂ hh Γ ρ w ev hsat hev
        have hmv : ev mo = .int k m := evals_get hev (by rw [hops]; simp) hmo (by simp)
        simp only [Option.map_some, hmv]
        have hn : hi.map ev ≠ none := by
          have := hmh (by simp)
          cases hi with
          | none => exact absurd rfl this
          | some y => simp
        exact run_sliceBounds3 (hlo' ρ ev hev) (hhi' ρ ev hev) hn h0 h1 h2 (by simpa using h3)
      by_cases hc : a < m ∨ a = 0
      · refine ⟨_, out1 (fun _ => m.toNat) (some (m - a).toNat) h0 h1 (fun hp₂ hh Γ ρ w ev hsat hev => ⟨hbnd hp₂ hh Γ ρ w ev hsat hev, ?_, ?_⟩), hk1 hc⟩
        · rcases hc with hc | hc
          · left; omega
          · right; exact hc
        · simp only [Option.getD_some]; omega
      · exact ⟨_, out2 (fun _ => m.toNat) (by omega) hbnd, hk2 (by omega) (by omega)⟩
    · rename_i x1 k m hmx0
      obtain ⟨mo, rfl, hmo⟩ : ∃ mo, mx = some mo ∧ evalO (tmL l) mo = .sc (.raw (.int k m)) := by
        cases mx with
        | none => cases hmx0
        | some y => injection hmx0 with hmx0; exact ⟨y, rfl, hmx0⟩
      obtain ⟨⟨h0, h1, h2, h3, md, t', sz', L, ms, hbk, hle⟩, hk1, hk2⟩ := hk
      have hbnd : ∀ hp₂ : AHeap, hp₂ id = hpL h id → ∀ Γ ρ w ev, Sat Γ ρ hp₂ w → Evals ρ (tmL l) o.op.operands.toList ev → (Instr.sliceBounds true len ((none : Option Nat).getD ((ρ id).tot - i)) (lo.map ev) (hi.map ev) ((some mo).map ev)).run P w = .ok (a.toNat, b.toNat, m.toNat) w := by
        intro hp₂ hh Γ ρ w ev hsat hev
        have hmv : ev mo = .int k m := evals_get hev (by rw [hops]; simp) hmo (by simp)
        simp only [Option.map_some, hmv]
        have hn : hi.map ev ≠ none := by
          have := hmh (by simp)
          cases hi with
          | none => exact absurd rfl this
          | some y => simp
        have := (hsat.blk id (.row md t' sz' L ms) (by rw [hh]; exact hbk)).2.2.1
        exact run_sliceBounds3 (hlo' ρ ev hev) (hhi' ρ ev hev) hn h0 h1 h2 (by simp only [Option.getD_none]; omega)
      by_cases hc : a < m ∨ a = 0
      · refine ⟨_, out1 (fun _ => m.toNat) (some (m - a).toNat) h0 h1 (fun hp₂ hh Γ ρ w ev hsat hev => ⟨hbnd hp₂ hh Γ ρ w ev hsat hev, ?_, ?_⟩), hk1 hc⟩
        · rcases hc with hc | hc
          · left; omega
          · right; exact hc
        · simp only [Option.getD_some]; omega
      · exact ⟨_, out2 (fun _ => m.toNat) (by omega) hbnd, hk2 (by omega) (by omega)⟩
    · exact hk.elim
  · split at hk
    case h_2 => exact hk.elim
    rename_i e s1 b1 z1 hd
    obtain ⟨ty, hu, hrun⟩ := (tab_get hT hd).und
    simp only [TKOk] at hu
    subst hu
    split at hk
    · rename_i d a b hde hlo hhi hmx0
      have hmxn : mx = none := by cases mx with
        | none => rfl
        | some y => cases hmx0
      subst hmxn
      obtain ⟨⟨rfl, rfl⟩, hk⟩ := hk
      have hszr := (tab_get hT hde).sz
      refine ⟨_, opL_reads fun hp₂ hh Γ ρ w ev hsat hev => ⟨_, ?_, .inr rfl⟩, hk⟩
      have g1 := evals_get hev hmx hx (by simp)
      have hb := run_sliceBounds (P := P) (len := 0) (cap := 0) (w := w) (bndI_is hlo fun y hy => hev y (by rw [hops]; simp [hy])) (bndI_is hhi fun y hy => hev y (by rw [hops]; simp [hy])) (Int.le_refl 0) (Int.le_refl 0) (Int.le_refl 0)
      rw [hexec, g1]
      unfold Instr.sliceAt
      simp only [Sem.run_bind, hrun, Result.andThen_ok, Instr.slice, AV.den, SV.den, Option.map_none] at hb ⊢
      rw [hb]
      simp [hszr]
    · rename_i d a b k m hde hlo hhi hmx0
      obtain ⟨mo, rfl, hmo⟩ : ∃ mo, mx = some mo ∧ evalO (tmL l) mo = .sc (.raw (.int k m)) := by
        cases mx with
        | none => cases hmx0
        | some y => injection hmx0 with hmx0; exact ⟨y, rfl, hmx0⟩
      obtain ⟨⟨rfl, rfl, rfl⟩, hk⟩ := hk
      have hszr := (tab_get hT hde).sz
      refine ⟨_, opL_reads fun hp₂ hh Γ ρ w ev hsat hev => ⟨_, ?_, .inr rfl⟩, hk⟩
      have g1 := evals_get hev hmx hx (by simp)
      have hmv : ev mo = .int k 0 := evals_get hev (by rw [hops]; simp) hmo (by simp)
      have hn : hi.map ev ≠ none := by
        have := hmh (by simp)
        cases hi with
        | none => exact absurd rfl this
        | some y => simp
      have hb := run_sliceBounds3 (P := P) (len := 0) (cap := 0) (k := k) (w := w) (bndI_is hlo fun y hy => hev y (by rw [hops]; simp [hy])) (bndI_is hhi fun y hy => hev y (by rw [hops]; simp [hy])) hn (Int.le_refl 0) (Int.le_refl 0) (Int.le_refl 0) (Int.le_refl 0)
      rw [hexec, g1]
      unfold Instr.sliceAt
      simp only [Sem.run_bind, hrun, Result.andThen_ok, Instr.slice, AV.den, SV.den, Option.map_some, hmv] at hb ⊢
      rw [hb]
      simp [hszr]
    · exact hk.elim
  · exact hk.elim
end
end Go.Proofs.Ytdmcbfmpnakdfaa.Eng
