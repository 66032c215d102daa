/- States as lists; regions, code, calls. -/
import Derived.Test.YtdmcbfmpnakdfaaEc
namespace Go.Proofs.Ytdmcbfmpnakdfaa.Eng
open Go

abbrev LTm := List AV
abbrev LHp := List (Option ABlk)
def tmL (l : LTm) : ATm := fun i => l.getD i .junk
def hpL (h : LHp) : AHeap := fun i => h.getD i none
def putL (l : LTm) (d : Option Nat) (v : AV) : LTm := match d with
  | some d => l.set d v
  | none => l
def setL (h : LHp) (l : List (Nat × Option ABlk)) : LHp := l.foldr (fun x h => h.set x.1 x.2) h
def appL (e : Eff) (h : LHp) : LHp := setL h e.writes ++ e.news

theorem putL_length (l : LTm) (d : Option Nat) (v : AV) : (putL l d v).length = l.length := by cases d <;> simp [putL]
theorem putL_spec {l : LTm} {d : Option Nat} (v : AV) (hd : ∀ x ∈ d.toList, x < l.length) : tmL (putL l d v) = putT (tmL l) d v := by
  cases d with
  | none => rfl
  | some d =>
    have := hd d (by simp)
    funext i
    simp only [tmL, putL, putT]
    by_cases e : i = d
    · subst e; simp [this]
    · simp [e, List.getElem?_set_ne (Ne.symm e)]
theorem setL_length (h : LHp) (l : List (Nat × Option ABlk)) : (setL h l).length = h.length := by
  induction l with
  | nil => rfl
  | cons x l ih => simp only [setL, List.foldr_cons, List.length_set] at *; exact ih
theorem appL_length (e : Eff) (h : LHp) : (appL e h).length = h.length + e.news.length := by simp [appL, setL_length]
theorem setL_get (h : LHp) (l : List (Nat × Option ABlk)) (hl : ∀ x ∈ l, x.1 < h.length) (i : Nat) : (setL h l).getD i none = match l.lookup i with | some o => o | none => h.getD i none := by
  induction l with
  | nil => rfl
  | cons x l ih =>
    obtain ⟨a, b⟩ := x
    have ih' := ih fun x hx => hl x (by simp [hx])
    have ha : a < h.length := hl (a, b) (by simp)
    simp only [setL, List.foldr_cons] at ih' ⊢
    by_cases e : i = a
    · subst e
      have h9 : i < (setL h l).length := by rw [setL_length]; exact ha
      unfold setL at h9
      simp only [List.lookup_cons, beq_self_eq_true]
      rw [List.getD_eq_getElem?_getD, List.getElem?_set_self h9]; rfl
    · have e' : (i == a) = false := by simpa using e
      simp only [List.lookup_cons, e']
      rw [← ih']
      simp [List.getElem?_set_ne (Ne.symm e)]
theorem appL_spec {e : Eff} {h : LHp} (hw : ∀ x ∈ e.writes, x.1 < h.length) : hpL (appL e h) = e.app h.length (hpL h) := by
  funext i
  unfold hpL appL Eff.app
  have hl := setL_length h e.writes
  by_cases h1 : h.length ≤ i ∧ i < h.length + e.news.length
  · rw [if_pos h1]
    rw [List.getD_eq_getElem?_getD, List.getElem?_append_right (by omega), hl]
  · rw [if_neg h1]
    have hg := setL_get h e.writes hw i
    refine Eq.trans ?_ (hg.trans (by cases e.writes.lookup i <;> rfl))
    by_cases h2 : i < h.length
    · simp only [List.getD_eq_getElem?_getD]
      rw [List.getElem?_append_left (by omega)]
    · simp only [List.getD_eq_getElem?_getD]
      rw [List.getElem?_eq_none (by rw [List.length_append, hl]; omega), List.getElem?_eq_none (by omega)]

/-- What a guard says. -/
def guardOk (ops : Array Oper) (l : LTm) (g : Option (Nat × Bool)) : Prop :=
  g = none ∨ ∃ j want d, g = some (j, want) ∧ dstOf ops j = some d ∧ l.getD d .junk = .sc (.raw (.bool want))
def guardNo (ops : Array Oper) (l : LTm) (g : Option (Nat × Bool)) : Prop :=
  ∃ j want d, g = some (j, want) ∧ dstOf ops j = some d ∧ (l.getD d .junk = .sc (.raw (.bool !want)) ∨ l.getD d .junk = .sc (.raw undef))
def OpL (P : Program) (o : Oper) (l : LTm) (h : LHp) (e : Eff) : Prop := OpT P o (tmL l) (hpL h) h.length e

/-- A region's operations in the order of the text. -/
inductive RL (P : Program) (ops : Array Oper) : Nat → LTm → LHp → List Ent → LTm → LHp → Prop
  | nil {i l h} : ops.size ≤ i → RL P ops i l h [] l h
  | run {i l h o e es l' h'} : ops[i]? = some o → guardOk ops l o.guard → OpL P o l h e → RL P ops (i + 1) (putL l o.dst e.val) (appL e h) es l' h' → RL P ops i l h (.run e h.length :: es) l' h'
  | skip {i l h o es l' h'} : ops[i]? = some o → guardNo ops l o.guard → RL P ops (i + 1) (putL l o.dst (.sc (.raw undef))) h es l' h' → RL P ops i l h (.skip :: es) l' h'

def Ent.wOk : Ent → Bool
  | .run e base => e.writes.all fun x => x.1 < base
  | .skip => true
/-- Nothing names an id that is none yet. -/
def wellS (l : LTm) (h : LHp) : Bool := l.all (fun v => v.ids.all (· < h.length)) && h.all (fun b => (msO b).all (· < h.length))
def chkR (ops : Array Oper) (es : List Ent) (l : LTm) (h : LHp) : Bool :=
  wellS l h && es.all Ent.wOk && chk ops es (pres ops) l.length

theorem wellS_clean {l : LTm} {h : LHp} (hs : wellS l h = true) {base k : Nat} (hb : h.length ≤ base) : Clean (tmL l) (hpL h) base k := by
  simp only [wellS, Bool.and_eq_true, List.all_eq_true, decide_eq_true_eq] at hs
  intro i h1 h2
  have hi : h.length ≤ i := by omega
  refine ⟨by simp [hpL, List.getElem?_eq_none hi], fun j b hj hx => ?_, fun t ht => ?_⟩
  · have hj' : h[j]? = some (some b) := by
      unfold hpL at hj
      rw [List.getD_eq_getElem?_getD] at hj
      cases hg : h[j]? with
      | none => rw [hg] at hj; simp at hj
      | some x => rw [hg] at hj; simp at hj; rw [hj]
    have := hs.2 (some b) (List.mem_of_getElem? hj') i hx
    omega
  · unfold tmL at ht
    rw [List.getD_eq_getElem?_getD] at ht
    cases hg : l[t]? with
    | none => rw [hg] at ht; simp [AV.ids] at ht
    | some x => rw [hg] at ht; simp at ht; have := hs.1 x (List.mem_of_getElem? hg) i ht; omega

theorem RL.spec {P : Program} {ops : Array Oper} {l0 : LTm} {h0 : LHp} : ∀ {i l h es l' h'}, RL P ops i l h es l' h' → ∀ (es0 : List Ent), es0.length = i →
    (∀ k, k < ops.size → ∀ d ∈ (dstOf ops k).toList, d < l.length) → (∀ x ∈ es, Ent.wOk x = true) →
    stR ops (es0 ++ es) (tmL l0, hpL h0) (fun _ => true) i = (tmL l, hpL h) → h0.length ≤ h.length → i ≤ ops.size →
    (∀ k, i ≤ k → k < ops.size → EntOk P ops k (stR ops (es0 ++ es) (tmL l0, hpL h0) (fun _ => true) k).1 (stR ops (es0 ++ es) (tmL l0, hpL h0) (fun _ => true) k).2 (entOf (es0 ++ es) k)) ∧
    stR ops (es0 ++ es) (tmL l0, hpL h0) (fun _ => true) ops.size = (tmL l', hpL h') ∧ l'.length = l.length ∧ h.length ≤ h'.length ∧
    ∀ k e b, i ≤ k → entOf (es0 ++ es) k = .run e b → h0.length ≤ b := by
  intro i l h es l' h' hr
  induction hr with
  | nil hi =>
    rename_i i l h
    intro es0 hl _ _ hst hh hin
    obtain rfl : i = ops.size := by omega
    refine ⟨fun k h1 h2 => by omega, hst, rfl, Nat.le_refl _, fun k e b hk he => ?_⟩
    unfold entOf at he
    rw [List.getD_eq_getElem?_getD, List.getElem?_eq_none (by simp; omega)] at he
    simp at he
  | run ho hg hop hrest ih =>
    rename_i i l h o e es l' h'
    intro es0 hl hd hw hst hh hin
    have hlt : i < ops.size := (Array.getElem?_eq_some_iff.1 ho).1
    have hdst : dstOf ops i = o.dst := by unfold dstOf; rw [ho]; rfl
    have hent : entOf (es0 ++ .run e h.length :: es) i = .run e h.length := by
      unfold entOf; rw [List.getD_eq_getElem?_getD, List.getElem?_append_right (by omega)]; simp [hl]
    have hwe : ∀ x ∈ e.writes, x.1 < h.length := by
      have := hw (.run e h.length) (by simp)
      simp only [Ent.wOk, List.all_eq_true, decide_eq_true_eq] at this
      exact this
    have hst1 : stR ops (es0 ++ .run e h.length :: es) (tmL l0, hpL h0) (fun _ => true) (i + 1) = (tmL (putL l o.dst e.val), hpL (appL e h)) := by
      simp only [stR, if_true, hst, stepR, hent, Ent.stm, Ent.shp]
      rw [putL_spec _ (by rw [← hdst]; exact hd i hlt), appL_spec hwe, hdst]
    have key := ih (es0 ++ [.run e h.length]) (by simp [hl]) (by rw [putL_length]; exact hd) (fun x hx => hw x (by simp [hx])) (by simpa using hst1) (by rw [appL_length]; omega) (by omega)
    simp only [List.append_assoc, List.singleton_append] at key
    obtain ⟨k1, k2, k3, k4, k5⟩ := key
    rw [appL_length] at k4
    refine ⟨fun k h1 h2 => ?_, k2, by rw [k3, putL_length], by omega, fun k e' b hk he => ?_⟩
    · by_cases e1 : k = i
      · subst e1
        rw [hent, hst]
        intro o' ho'
        rw [ho] at ho'; cases ho'
        exact ⟨hop, hg⟩
      · exact k1 k (by omega) h2
    · by_cases e1 : k = i
      · subst e1; rw [hent] at he; cases he; exact hh
      · exact k5 k e' b (by omega) he
  | skip ho hg hrest ih =>
    rename_i i l h o es l' h'
    intro es0 hl hd hw hst hh hin
    have hlt : i < ops.size := (Array.getElem?_eq_some_iff.1 ho).1
    have hdst : dstOf ops i = o.dst := by unfold dstOf; rw [ho]; rfl
    have hent : entOf (es0 ++ .skip :: es) i = .skip := by
      unfold entOf; rw [List.getD_eq_getElem?_getD, List.getElem?_append_right (by omega)]; simp [hl]
    have hst1 : stR ops (es0 ++ .skip :: es) (tmL l0, hpL h0) (fun _ => true) (i + 1) = (tmL (putL l o.dst (.sc (.raw undef))), hpL h) := by
      simp only [stR, if_true, hst, stepR, hent, Ent.stm, Ent.shp]
      rw [putL_spec _ (by rw [← hdst]; exact hd i hlt), hdst]
    have key := ih (es0 ++ [.skip]) (by simp [hl]) (by rw [putL_length]; exact hd) (fun x hx => hw x (by simp [hx])) (by simpa using hst1) hh (by omega)
    simp only [List.append_assoc, List.singleton_append] at key
    obtain ⟨k1, k2, k3, k4, k5⟩ := key
    refine ⟨fun k h1 h2 => ?_, k2, by rw [k3, putL_length], k4, fun k e' b hk he => ?_⟩
    · by_cases e1 : k = i
      · subst e1
        rw [hent, hst]
        intro o' ho'
        rw [ho] at ho'; cases ho'
        exact hg
      · exact k1 k (by omega) h2
    · by_cases e1 : k = i
      · subst e1; rw [hent] at he; cases he
      · exact k5 k e' b (by omega) he

/-- From where all may go, the order of the text may be gone. -/
theorem wpOps_of_any {P : Program} {ops : Array Oper} {Q : Exit → Act → World → Prop} (hdir : ∀ i, i < ops.size → ∀ j ∈ direct ops i, j < i) : ∀ (n i : Nat) (listed : Array Bool) (a : Act) (w : World), i + n = ops.size → listed.size = ops.size →
    (∀ k, listed.getD k false = decide (k < i)) → wpAny P .any ops Q n listed a w → wpOps P ops Q ((List.range n).map (i + ·)) a w := by
  intro n
  induction n with
  | zero => intro i listed a w _ _ _ h; exact h.2
  | succ n ih =>
    intro i listed a w hi hsz hl h
    have hlt : i < ops.size := by omega
    have hmem : i ∈ Region.ready .any ops listed := by
      rw [mem_ready]
      refine ⟨?_, ops[i], by simp [hlt], fun e he hb => ?_⟩
      · have := hl i
        simp only [Nat.lt_irrefl, decide_false] at this
        rw [Array.getD_eq_getD_getElem?] at this ⊢
        have h' : i < listed.size := by omega
        simp [h'] at this ⊢; exact this
      · rw [hl]
        have : e.on ∈ direct ops i := by
          unfold direct
          rw [Array.getElem?_eq_getElem hlt]
          exact List.mem_map.2 ⟨e, List.mem_filter.2 ⟨Array.mem_toList_iff.2 he, hb⟩, rfl⟩
        simpa using hdir i hlt _ this
    have h1 := h.2 i hmem
    have e1 : (List.range (n + 1)).map (i + ·) = i :: (List.range n).map (i + 1 + ·) := by
      rw [List.range_succ_eq_map, List.map_cons, List.map_map]
      simp only [Nat.add_zero, List.cons.injEq, true_and]
      apply List.map_congr_left
      intro k _
      simp; omega
    rw [e1, wpOps_cons]
    refine wpOp_mono (fun a' w' h2 => ih (i + 1) _ a' w' (by omega) (by simp [hsz]) (fun k => ?_) h2) h1
    by_cases e : k = i
    · subst e
      rw [Array.getD_eq_getD_getElem?, Array.getElem?_setIfInBounds_self_of_lt (by omega)]; simp
    · rw [Array.getD_eq_getD_getElem?, Array.getElem?_setIfInBounds_ne (Ne.symm e), ← Array.getD_eq_getD_getElem?, hl]
      simp; omega

abbrev Post := Exit → LTm → LHp → Prop
/-- Code from a state: wherever it comes out, Q holds of the state there. -/
def CodeT (P : Program) (n : Nat) (c : Code) (l : LTm) (h : LHp) (Q : Post) : Prop :=
  ∀ (Γ : Ctx) (ρ : Ren) (w : World) (a : Act), Γ.n0 = n → n ≤ h.length → Sat Γ ρ (hpL h) w → TSat ρ l.length (tmL l) a.tmps → a.defers = [] →
    c.wp P (fun e a' w' => ∃ ρ' l' h', l'.length = l.length ∧ n ≤ h'.length ∧ Sat Γ ρ' (hpL h') w' ∧ TSat ρ' l.length (tmL l') a'.tmps ∧ a'.defers = [] ∧ Q e l' h') a w

theorem CodeT.mono {P : Program} {n : Nat} {c : Code} {l : LTm} {h : LHp} {Q Q' : Post} (hc : CodeT P n c l h Q) (hq : ∀ e l' h', Q e l' h' → Q' e l' h') : CodeT P n c l h Q' :=
  fun Γ ρ w a hg h0 hs ht hd => wp_mono (hc Γ ρ w a hg h0 hs ht hd) fun _ _ _ ⟨ρ', l', h', h1, h2, h3, h4, h5, h6⟩ => ⟨ρ', l', h', h1, h2, h3, h4, h5, hq _ _ _ h6⟩

theorem CodeT.region {P : Program} {n id : Nat} {ops : Array Oper} {d : Bool} {l l' : LTm} {h h' : LHp} {es : List Ent} {Q : Post} (hm : P.follows .mixedOrders = true)
    (hr : RL P ops 0 l h es l' h') (hc : chkR ops es l h = true) (hq : Q .normal l' h') : CodeT P n (.region id ops d) l h Q := by
  intro Γ ρ w a hg h0 hs ht hd
  simp only [chkR, Bool.and_eq_true] at hc
  obtain ⟨⟨c1, c2⟩, c3⟩ := hc
  have hC := fun i hi => chk_at c3 i hi
  obtain ⟨k1, k2, k3, k4, k5⟩ := hr.spec (l0 := l) (h0 := h) [] rfl (fun k hk d hd => (hC k hk).dst d hd) (List.all_eq_true.1 c2) rfl (Nat.le_refl _) (Nat.zero_le _)
  simp only [List.nil_append] at k1 k2 k5
  have hany : ∀ w, Sat Γ ρ (hpL h) w → wpAny P .any ops (fun e a' w' => ∃ ρ' l' h', l'.length = l.length ∧ n ≤ h'.length ∧ Sat Γ ρ' (hpL h') w' ∧ TSat ρ' l.length (tmL l') a'.tmps ∧ a'.defers = [] ∧ Q e l' h') ops.size (Array.replicate ops.size false) a w := by
    intro w hs
    have hf : ∀ k, (Array.replicate ops.size false).getD k false = false := fun k => by
      rw [Array.getD_eq_getD_getElem?, Array.getElem?_replicate]
      split <;> rfl
    have hf' : (fun k => (Array.replicate ops.size false).getD k false) = fun _ => false := funext hf
    have hz : ∀ m, stR ops es (tmL l, hpL h) (fun _ => false) m = (tmL l, hpL h) := by
      intro m
      induction m with
      | zero => rfl
      | succ m ih => simpa [stR] using ih
    refine region_from (P := P) (es := es) (s0 := (tmL l, hpL h)) (N := l.length) (Γ := Γ) hC (fun i hi => k1 i (Nat.zero_le _) hi) (fun i e b hi he => wellS_clean c1 (k5 i e b (Nat.zero_le _) he))
      (fun i e b hi he => by rw [hg]; exact Nat.le_trans h0 (k5 i e b (Nat.zero_le _) he)) ?_ ops.size _ ρ a w (by simp) ?_ ?_ ?_ ?_ hd
    · intro ρ' a' w' h1 h2 h3
      rw [k2] at h1 h2
      exact ⟨ρ', l', h', k3, Nat.le_trans h0 k4, h1, h2, h3, hq⟩
    · simp [hf]
    · intro i hi; exact absurd ((hf i).symm.trans hi) (by simp)
    · rw [hf', hz]; exact hs
    · rw [hf', hz]; exact ht
  cases d with
  | true => exact wp_region_any hm (hany _ (hs.drew _))
  | false =>
    have := wpOps_of_any (fun i hi => (hC i hi).dir) ops.size 0 _ a w (by omega) (by simp) (fun k => by
      rw [Array.getD_eq_getD_getElem?, Array.getElem?_replicate]
      split <;> simp) (hany w hs)
    refine wp_region ?_
    simpa using this

section
variable {P : Program} {n : Nat} {l : LTm} {h : LHp} {Q : Post}
theorem CodeT.skip (hq : Q .normal l h) : CodeT P n .skip l h Q :=
  fun _ ρ _ _ _ h0 hs ht hd => wp_skip ⟨ρ, l, h, rfl, h0, hs, ht, hd, hq⟩
theorem CodeT.exit {id : Nat} (hq : Q (.exit id) l h) : CodeT P n (.exit id) l h Q :=
  fun _ ρ _ _ _ h0 hs ht hd => wp_exit ⟨ρ, l, h, rfl, h0, hs, ht, hd, hq⟩
theorem CodeT.ret (hq : Q .ret l h) : CodeT P n .ret l h Q :=
  fun _ ρ _ _ _ h0 hs ht hd => wp_ret ⟨ρ, l, h, rfl, h0, hs, ht, hd, hq⟩
def thenQ (P : Program) (n : Nat) (c : Code) (Q : Post) : Post
  | .normal, l, h => CodeT P n c l h Q
  | e, l, h => Q e l h
theorem CodeT.seq {x y : Code} (hx : CodeT P n x l h (thenQ P n y Q)) : CodeT P n (.seq x y) l h Q := by
  intro Γ ρ w a hg h0 hs ht hd
  refine wp_seq (wp_mono (hx Γ ρ w a hg h0 hs ht hd) ?_)
  rintro e a' w' ⟨ρ', l', h', h1, h2, h3, h4, h5, h6⟩
  cases e with
  | normal =>
    refine wp_mono (h6 Γ ρ' w' a' hg h2 h3 (by rw [h1]; exact h4) h5) ?_
    rintro e a'' w'' ⟨ρ'', l'', h'', g1, g2, g3, g4, g5, g6⟩
    exact ⟨ρ'', l'', h'', g1.trans h1, g2, g3, by rw [← h1]; exact g4, g5, g6⟩
  | _ => exact ⟨ρ', l', h', h1, h2, h3, h4, h5, h6⟩
theorem CodeT.cond {c : Operand} {x y : Code} {b : Bool} (hc : evalO (tmL l) c = .sc (.raw (.bool b))) (ht : b = true → CodeT P n x l h Q) (hf : b = false → CodeT P n y l h Q) : CodeT P n (.cond c x y) l h Q := by
  intro Γ ρ w a hg h0 hs hts hd
  have : a.eval c = .bool b := by
    rcases evalO_den hts c with h | h
    · rw [hc] at h; cases h
    · rw [h, hc]; rfl
  refine wp_cond this ?_
  cases b with
  | true => exact ht rfl Γ ρ w a hg h0 hs hts hd
  | false => exact hf rfl Γ ρ w a hg h0 hs hts hd
theorem CodeT.condT {c : Operand} {x y : Code} (hc : evalO (tmL l) c = .sc (.raw (.bool true))) (ht : CodeT P n x l h Q) : CodeT P n (.cond c x y) l h Q :=
  CodeT.cond hc (fun _ => ht) (fun h => by cases h)
theorem CodeT.condF {c : Operand} {x y : Code} (hc : evalO (tmL l) c = .sc (.raw (.bool false))) (hf : CodeT P n y l h Q) : CodeT P n (.cond c x y) l h Q :=
  CodeT.cond hc (fun h => by cases h) (fun _ => hf)
def blockQ (id : Nat) (Q : Post) : Post
  | .exit id', l, h => if id' = id then Q .normal l h else Q (.exit id') l h
  | e, l, h => Q e l h
theorem CodeT.block {id : Nat} {c : Code} (hc : CodeT P n c l h (blockQ id Q)) : CodeT P n (.block id c) l h Q := by
  intro Γ ρ w a hg h0 hs ht hd
  refine wp_block (wp_mono (hc Γ ρ w a hg h0 hs ht hd) ?_)
  rintro e a' w' ⟨ρ', l', h', h1, h2, h3, h4, h5, h6⟩
  cases e with
  | exit id' =>
    simp only [Exit.inBlock, blockQ] at h6 ⊢
    split
    · rename_i e; rw [if_pos e] at h6; exact ⟨ρ', l', h', h1, h2, h3, h4, h5, h6⟩
    · rename_i e; rw [if_neg e] at h6; exact ⟨ρ', l', h', h1, h2, h3, h4, h5, h6⟩
  | _ => exact ⟨ρ', l', h', h1, h2, h3, h4, h5, h6⟩
def ABlk.wfB : ABlk → Bool
  | .row _ _ _ _ [] => true
  | .row _ _ _ L ms => L.all fun e => (Segs.ids e).all fun x => ms.contains x
  | .map _ [] => true
  | .map es ms => es.all fun e => (e.1.ids ++ e.2.ids).all fun x => ms.contains x
/-- The state l h is one of those that l0 h0 speaks of: s tells which id of h each id of h0 is. -/
structure StW (n : Nat) (s : Nat → Nat) (l : LTm) (h : LHp) (l0 : LTm) (h0 : LHp) : Prop where
  len : l0.length = l.length
  hn : n ≤ h0.length
  fix : ∀ i, i < n → s i = i
  tm : ∀ i, tmL l0 i = .junk ∨ tmL l i = (tmL l0 i).ren s
  hp : ∀ i b, hpL h0 i = some b → hpL h (s i) = some (b.ren s) ∧ (b.wfB = true ∨ s = fun i => i)
  inj : ∀ i j a b, hpL h0 i = some a → hpL h0 j = some b → s i = s j → i = j
end
end Go.Proofs.Ytdmcbfmpnakdfaa.Eng
