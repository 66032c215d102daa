/- Operations read off: append. -/
import Derived.Test.YtdmcbfmpnakdfaaEl2
namespace Go.Proofs.Ytdmcbfmpnakdfaa.Eng
open Go

theorem rowDen_append (ρ : Ren) (a b : List Segs) : rowDen ρ (a ++ b) = rowDen ρ a ++ rowDen ρ b := by simp [rowDen]
/-- A stretch of a live row. -/
theorem BlkSat.range {Γ : Ctx} {ρ : Ren} {w : World} {id sz : Nat} {md : Md} {t : TypeId} {L : List Segs} {ms : List Nat} (h : BlkSat Γ ρ w id (.row md t sz L ms)) (i len : Nat) (hi : i + len ≤ L.length) :
    ∃ c t' fr pre post, w.heap[(ρ id).b]? = some (.cells c t' fr) ∧ c.toList = pre ++ (rowDen ρ ((L.drop i).take len) ++ post) ∧ pre.length = (ρ id).sh + i * sz ∧ (rowDen ρ ((L.drop i).take len)).length = len * sz := by
  obtain ⟨h1, h2, h3, h4⟩ := h
  have hL : L = L.take i ++ ((L.drop i).take len ++ L.drop (i + len)) := by
    rw [← List.drop_drop, List.take_append_drop, List.take_append_drop]
  have hlen : (rowDen ρ (L.take i)).length = i * sz := by
    rw [rowDen_length _ (fun e he => (h1 e (List.mem_of_mem_take he)).1), List.length_take, Nat.min_eq_left (by omega)]
  have hlen2 : (rowDen ρ ((L.drop i).take len)).length = len * sz := by
    rw [rowDen_length _ (fun e he => (h1 e (List.mem_of_mem_drop (List.mem_of_mem_take he))).1), List.length_take, List.length_drop, Nat.min_eq_left (by omega)]
  have hden : rowDen ρ L = rowDen ρ (L.take i) ++ (rowDen ρ ((L.drop i).take len) ++ rowDen ρ (L.drop (i + len))) := by
    conv => lhs; rw [hL]
    rw [rowDen_append, rowDen_append]
  have key : ∀ (c : Array Value) (t' : TypeId) (fr : Nat × Nat) (pre post : List Value), w.heap[(ρ id).b]? = some (.cells c t' fr) → c.toList = pre ++ (rowDen ρ L ++ post) → pre.length = (ρ id).sh →
      ∃ c t' fr pre post, w.heap[(ρ id).b]? = some (.cells c t' fr) ∧ c.toList = pre ++ (rowDen ρ ((L.drop i).take len) ++ post) ∧ pre.length = (ρ id).sh + i * sz ∧ (rowDen ρ ((L.drop i).take len)).length = len * sz := by
    intro c t' fr pre post a1 a2 a3
    exact ⟨c, t', fr, pre ++ rowDen ρ (L.take i), rowDen ρ (L.drop (i + len)) ++ post, a1, by rw [a2, hden]; simp, by rw [List.length_append, a3, hlen], hlen2⟩
  cases md
  · obtain ⟨c, t', fr, pre, post, a1, a2, a3, _⟩ := h4; exact key c t' fr pre post a1 a2 a3
  · obtain ⟨c, a1, a2, a3, _⟩ := h4; exact key c t (0, 0) [] [] a1 (by rw [a2]; simp) (by rw [a3]; rfl)
  · obtain ⟨c, pre, post, a1, a2, a3, _⟩ := h4; exact key c t (0, 0) pre post a1 a2 a3
  · obtain ⟨c, a1, a2, a3, _⟩ := h4; exact key c t (0, 0) [] [] a1 (by rw [a2]; simp) (by rw [a3]; rfl)
  · obtain ⟨⟨c, t', fr, pre, post, a1, a2, a3, _⟩, _⟩ := h4; exact key c t' fr pre post a1 a2 a3

theorem nextcap_le (need cap : Nat) (h : cap < need) : Builtin.nextslicecap need cap ≤ 2 * need + 192 := by
  have grow : ∀ (r c : Nat), c < need → Builtin.growBy need r c ≤ 2 * need + 192 := by
    intro r
    induction r with
    | zero => intro c hc; simp only [Builtin.growBy]; omega
    | succ r ih =>
      intro c hc
      simp only [Builtin.growBy]
      rw [if_neg (by omega)]
      by_cases h2 : c + (c + 768) / 4 < need
      · exact ih _ h2
      · cases r with
        | zero => simp only [Builtin.growBy]; omega
        | succ r => simp only [Builtin.growBy]; rw [if_pos (by omega)]; omega
  unfold Builtin.nextslicecap
  split
  · omega
  · split
    · omega
    · exact grow 4 cap h

/-- The elements that a slice has. -/
def srcK (h : LHp) (sz : Nat) (K : Nat → List Segs → List Nat → List Nat → Prop) : AV → Prop
  | .sc (.raw (.slice _ 0 _)) => K 0 [] [] []
  | .sc (.sl id i sz' len _) => match hpL h id with
    | some (.row _ _ sz'' L ms) => chkB (sz' == sz && sz'' == sz) <| i + len ≤ L.length ∧ K len ((L.drop i).take len) ms [id]
    | _ => len = 0 ∧ K 0 [] [] []
  | _ => False
def zOk (d : TD) : Bool := match avSegs d.z with
  | some z => Segs.size z == d.size && Segs.oneB z
  | none => false
def evAppend (T : Tab) (t t' : TypeId) (h : LHp) (K : Eff → Prop) (s x : AV) : Prop :=
  match T.lookup t, T.lookup t' with
  | some ⟨.slice e, _, _, _⟩, some ⟨.slice _, _, _, _⟩ => match T.lookup e with
    | some d => chkB (d.bytes != 0 && zOk d) <| srcK h d.size (fun n E ms tch => match s with
      | .sc (.raw (.slice none 0 0)) => (n = 0 → K { val := .sc (.raw (.slice none 0 0)), touch := tch }) ∧
        (0 < n → (2 * n + 192) * d.bytes ≤ 2 ^ 48 ∧ K { val := .sc (.sl h.length 0 d.size n none), touch := tch, news := [some (.row .inx e d.size E ms)] })
      | .sc (.sl id i sz len (some c)) => srcK h d.size (fun _ E0 ms0 tch0 => (n = 0 → len ≤ c ∧ K { val := .sc (.sl id i sz len (some c)), touch := tch }) ∧
        (0 < n → (c < len + n ∧ (2 * (len + n) + 192) * d.bytes ≤ 2 ^ 48) ∧ K { val := .sc (.sl h.length 0 d.size (len + n) none), touch := tch0 ++ tch, news := [some (.row .inx e d.size (E0 ++ E) (ms0 ++ ms))] })) (.sc (.sl id i sz len (some c)))
      | .sc (.sl id i sz len none) => match hpL h id with
        | some (.row .inx e' sz'' L ms0) => chkB (sz == d.size && (sz'' == d.size && e' == e)) <| i + len ≤ L.length ∧ (n = 0 → K { val := .sc (.sl id i sz len none), touch := id :: tch }) ∧
          (0 < n → (2 * (len + n) + 192) * d.bytes ≤ 2 ^ 48 ∧ K { val := .sc (.sl h.length 0 d.size (len + n) none), touch := id :: tch, writes := [(id, none)], news := [some (.row .inx e d.size ((L.drop i).take len ++ E) (ms0 ++ ms))] })
        | _ => False
      | _ => False) x
    | none => False
  | _, _ => False

section
variable {P : Program} {T : Tab} {o : Oper} {l : LTm} {h : LHp} {K : Eff → Prop}
/-- What a source of elements is in the world. -/
structure SrcIn (P : Program) (ρ : Ren) (w : World) (sz n : Nat) (E : List Segs) (v : Value) : Prop where
  len : ∀ w, (Builtin.lenOf v).run P w = .ok n w
  cells : (Builtin.firstCells sz n v).run P w = .ok (rowDen ρ E).toArray w
  dl : (rowDen ρ E).length = n * sz
  size : ∀ e ∈ E, Segs.size e = sz ∧ Segs.oneB e = true
  el : E.length = n
theorem srcK_spec {sz : Nat} {K : Nat → List Segs → List Nat → List Nat → Prop} {x : AV} (hk : srcK h sz K x) : ∃ n E ms tch, K n E ms tch ∧ x ≠ .junk ∧ (∀ id i sz len c, x = .sc (.sl id i sz len c) → n = len) ∧
    ∀ (hp₂ : AHeap), (∀ id ∈ tch, hp₂ id = hpL h id) → ∀ (Γ : Ctx) (ρ : Ren) (w : World), Sat Γ ρ hp₂ w → SrcIn P ρ w sz n E (x.den ρ) ∧ (∀ e ∈ E, ∀ y ∈ Segs.ids e, y ∈ ms) ∧
      ∀ y ∈ ms, ∃ id b, hp₂ id = some b ∧ y ∈ b.ms := by
  unfold srcK at hk
  split at hk
  · rename_i ad cp
    have hz : ∀ w : World, (Builtin.firstCells sz 0 (.slice ad 0 cp)).run P w = .ok #[] w := fun w => by
      cases ad with
      | none => rfl
      | some a => show (loadCells _ (0 * sz)).run P w = _; rw [Nat.zero_mul]; rfl
    refine ⟨0, [], [], [], hk, by simp, (fun _ _ _ _ _ hc => by cases hc), fun hp₂ hh Γ ρ w hsat => ⟨⟨fun _ => rfl, hz w, by simp [rowDen], by simp, rfl⟩, by simp, by simp⟩⟩
  · rename_i id i sz' len cap
    split at hk
    · rename_i md t sz'' L ms hb
      replace hk := chkB_spec hk
      obtain ⟨hkk, hi, hk⟩ := hk
      simp only [Bool.and_eq_true, beq_iff_eq] at hkk
      obtain ⟨rfl, rfl⟩ := hkk
      refine ⟨len, (L.drop i).take len, ms, [id], hk, by simp, (fun _ _ _ _ _ hc => by cases hc; rfl), fun hp₂ hh Γ ρ w hsat => ?_⟩
      have hb2 : hp₂ id = some (.row md t sz'' L ms) := by rw [hh id (by simp)]; exact hb
      have hbs := hsat.blk id _ hb2
      obtain ⟨c, t', fr, pre, post, c1, c2, c3, c4⟩ := hbs.range i len hi
      have hcell : cellsAt w (ρ id).b ((ρ id).sh + i * sz'') (rowDen ρ ((L.drop i).take len)) := by rw [← c3]; exact cellsAt_of c1 c2
      refine ⟨⟨?_, ?_, c4, fun e he => hbs.1 e (List.mem_of_mem_drop (List.mem_of_mem_take he)), by rw [List.length_take, List.length_drop]; omega⟩, fun e he y hy => hbs.2.1 e (List.mem_of_mem_drop (List.mem_of_mem_take he)) y hy, fun y hy => ⟨id, _, hb2, hy⟩⟩
      · intro w; rw [den_sl]; rfl
      · rw [den_sl]
        show (loadCells _ (len * sz'')).run P w = _
        rw [← c4]
        exact run_loadCells hcell
    · obtain ⟨rfl, hk⟩ := hk
      refine ⟨0, [], [], [], hk, by simp, (fun _ _ _ _ _ hc => by cases hc; rfl), fun hp₂ hh Γ ρ w hsat => ⟨⟨fun w => by rw [den_sl]; rfl, ?_, by simp [rowDen], by simp, rfl⟩, by simp, by simp⟩⟩
      rw [den_sl]
      show (loadCells _ (0 * sz)).run P w = _
      rw [Nat.zero_mul]; rfl
  · exact hk.elim

theorem run_choose_cap {P : Program} (need old : Nat) (e : TypeId) (w : World) : ∃ cap, need ≤ cap ∧ (choose (.appendCap need old e)).run P w = .ok cap { w with drawn := w.drawn + 1 } := by
  refine ⟨_, ?_, by unfold choose; simp only [Sem.run, Question.forced]; rfl⟩
  simp only [Question.cut]; omega
theorem run_askRoom {P : Program} (n : Nat) (w : World) : (askRoom n).run P w = .ok () w := by
  unfold askRoom
  split <;> rfl
theorem zeroCells_size (z : Array Value) (n : Nat) : (Builtin.zeroCells z n).size = n * z.size := by simp [Builtin.zeroCells]

/-- append where there is no room. -/
theorem run_append_new {P : Program} {t t' e e' : TypeId} {ty : TypeId} {d : TD} {w : World} {base : Option Addr} {sLen sCap n : Nat} {x : Value} {ρ : Ren} {E0 E : List Segs} (ht : ∀ w, (underlying t).run P w = .ok (.slice e) w) (ht' : ∀ w, (underlying t').run P w = .ok (.slice e') w) (hd : TDOk P e d)
    (h0 : SrcIn P ρ w.drew d.size sLen E0 (.slice base sLen sCap)) (h1 : SrcIn P ρ w.drew d.size n E x) (hc : sCap < sLen + n) (hbig : (2 * (sLen + n) + 192) * d.bytes ≤ 2 ^ 48) (hby : d.bytes ≠ 0) :
    ∃ cap rest, sLen + n ≤ cap ∧ (Builtin.append_ #[t, t'] ty #[.slice base sLen sCap, x]).run P w = .ok (.slice (some ⟨w.heap.size, 0, none⟩) (sLen + n) cap) (w.drew.alloc (.cells (rowDen ρ (E0 ++ E) ++ rest).toArray e)) ∧
      rest.length = (cap - (sLen + n)) * ((d.z.den ρ).cells.size) := by
  obtain ⟨i, i1, i2, i3⟩ := hd.info
  obtain ⟨cap, hcap, hch⟩ := run_choose_cap (P := P) (sLen + n) sCap e w
  have hz := fun w => hd.zero ρ w
  refine ⟨cap, (Builtin.zeroCells (d.z.den ρ).cells (cap - (sLen + n))).toList, hcap, ?_, by rw [Array.length_toList, zeroCells_size]⟩
  have hnc := nextcap_le (sLen + n) sCap hc
  have hnb : ¬ (Builtin.nextslicecap (sLen + n) sCap * d.bytes > 2 ^ 48) := by
    have := Nat.mul_le_mul_right d.bytes hnc
    omega
  have hn63 : ¬ (((sLen + n : Nat) : Int) > IntKind.i64.max ∧ ((false = true) ∨ d.bytes = 0)) := by
    rintro ⟨g1, g2 | g2⟩
    · cases g2
    · exact hby g2
  have hle : ¬ (sLen + n ≤ sCap) := by omega
  have hch' : (choose (.appendCap (sLen + n) sCap e)).run P w = .ok cap w.drew := hch
  have e0 : #[t, t'][0]? = some t := rfl
  have e1 : #[t, t'][1]? = some t' := rfl
  have e2 : #[Value.slice base sLen sCap, x][0]? = some (.slice base sLen sCap) := rfl
  have e3 : #[Value.slice base sLen sCap, x][1]? = some x := rfl
  unfold Builtin.append_
  simp only [e0, e1, e2, e3, Sem.run_bind, ht, Result.andThen_ok, hd.sz, ht', Sem.run_pure, Bool.false_eq_true, if_false, h1.len, hle, Sem.run_ite, i3, i2, hnb, hch', run_askRoom, h0.cells, h1.cells, hz, Bool.not_false, if_true]
  have hn63' : ¬ (((sLen + n : Nat) : Int) > IntKind.i64.max ∧ (False ∨ d.bytes = 0)) := by simpa using hn63
  simp only [hn63', if_false, Sem.run_pure, Result.andThen_ok]
  simp only [newRow, Sem.run_bind]
  have hfin : (rowDen ρ E0).toArray ++ (rowDen ρ E).toArray ++ Builtin.zeroCells (d.z.den ρ).cells (cap - (sLen + n)) = (rowDen ρ (E0 ++ E) ++ (Builtin.zeroCells (d.z.den ρ).cells (cap - (sLen + n))).toList).toArray := by
    apply Array.ext'
    simp [rowDen_append]
  rw [hfin]
  rfl
/-- append of nothing. -/
theorem run_append_none {P : Program} {t t' e e' : TypeId} {ty : TypeId} {d : TD} {w : World} {base : Option Addr} {sLen sCap : Nat} {x : Value} {ρ : Ren} {E : List Segs} (ht : ∀ w, (underlying t).run P w = .ok (.slice e) w) (ht' : ∀ w, (underlying t').run P w = .ok (.slice e') w) (hd : TDOk P e d)
    (h1 : SrcIn P ρ w d.size 0 E x) (hc : sLen ≤ sCap) : (Builtin.append_ #[t, t'] ty #[.slice base sLen sCap, x]).run P w = .ok (.slice base sLen sCap) w := by
  have e0 : #[t, t'][0]? = some t := rfl
  have e1 : #[t, t'][1]? = some t' := rfl
  have e2 : #[Value.slice base sLen sCap, x][0]? = some (.slice base sLen sCap) := rfl
  have e3 : #[Value.slice base sLen sCap, x][1]? = some x := rfl
  have hE : rowDen ρ E = [] := by
    have := h1.dl
    rw [Nat.zero_mul] at this
    exact List.eq_nil_of_length_eq_zero this
  unfold Builtin.append_
  simp only [e0, e1, e2, e3, Sem.run_bind, ht, Result.andThen_ok, hd.sz, ht', Sem.run_pure, Bool.false_eq_true, if_false, h1.len, Nat.add_zero, hc, if_true, Sem.run_ite, h1.cells, hE, Bool.not_false]
  cases base <;> simp [storeCells]
/-- append where there is room. -/
theorem run_append_room {P : Program} {t t' e e' : TypeId} {ty : TypeId} {d : TD} {w : World} {b o : Nat} {sLen sCap n : Nat} {x : Value} {ρ : Ren} {E : List Segs} (ht : ∀ w, (underlying t).run P w = .ok (.slice e) w) (ht' : ∀ w, (underlying t').run P w = .ok (.slice e') w) (hd : TDOk P e d)
    (h1 : SrcIn P ρ w d.size n E x) (hc : sLen + n ≤ sCap) {c : Array Value} {te : TypeId} (hb : w.heap[b]? = some (.cells c te (0, 0))) (hroom : o + sLen * d.size + n * d.size ≤ c.size) (hone : ∀ v ∈ rowDen ρ E, cell1 v = true) :
    ∃ w' c', (Builtin.append_ #[t, t'] ty #[.slice (some ⟨b, o, none⟩) sLen sCap, x]).run P w = .ok (.slice (some ⟨b, o, none⟩) (sLen + n) sCap) w' ∧ w'.heap[b]? = some (.cells c' te (0, 0)) ∧
      c'.toList = c.toList.take (o + sLen * d.size) ++ (rowDen ρ E ++ c.toList.drop (o + sLen * d.size + n * d.size)) ∧ ButAt w w' b := by
  have e0 : #[t, t'][0]? = some t := rfl
  have e1 : #[t, t'][1]? = some t' := rfl
  have e2 : #[Value.slice (some ⟨b, o, none⟩) sLen sCap, x][0]? = some (.slice (some ⟨b, o, none⟩) sLen sCap) := rfl
  have e3 : #[Value.slice (some ⟨b, o, none⟩) sLen sCap, x][1]? = some x := rfl
  obtain ⟨w', c', k1, k2, k3, k4⟩ := run_storeCells (P := P) (b := b) (o := o + sLen * d.size) (t := te) (rowDen ρ E) 0 w c hb (by rw [h1.dl]; omega) hone
  refine ⟨w', c', ?_, k2, by rw [k3, h1.dl]; simp, k4⟩
  unfold Builtin.append_
  simp only [e0, e1, e2, e3, Sem.run_bind, ht, Result.andThen_ok, hd.sz, ht', Sem.run_pure, Bool.false_eq_true, if_false, h1.len, hc, if_true, Sem.run_ite, h1.cells, Bool.not_false, addr_add, k1]

/-- The block that an append makes. -/
theorem grown_sat {Γ : Ctx} {ρ : Ren} {hp : AHeap} {w : World} {base : Nat} {e : TypeId} {sz n cap : Nat} {L : List Segs} {ms : List Nat} {rest : List Value} (hsat : Sat Γ ρ hp w) (hn : hp base = none) (h0 : Γ.n0 ≤ base) (hcl : ∀ j b, hp j = some b → base ∉ b.ms)
    (hs : ∀ x ∈ L, Segs.size x = sz ∧ Segs.oneB x = true) (hms : ∀ x ∈ L, ∀ y ∈ Segs.ids x, y ∈ ms) (hids : base ∉ ms) (hL : L.length = n) (hcap : n ≤ cap) (hrest : rest.length = (cap - n) * sz) :
    Sat Γ (updR ρ base ⟨w.heap.size, 0, cap⟩) (upd hp base (some (.row .inx e sz L ms))) (w.alloc (.cells (rowDen ρ L ++ rest).toArray e)) := by
  refine hsat.alloc (b' := .row .inx e sz L ms) cap hn h0 hcl ?_
  have hnew : (w.alloc (.cells (rowDen ρ L ++ rest).toArray e)).heap[w.heap.size]? = some (.cells (rowDen ρ L ++ rest).toArray e) := by
    show (w.heap.push _)[w.heap.size]? = _
    simp
  have hd : rowDen (updR ρ base ⟨w.heap.size, 0, cap⟩) L = rowDen ρ L := rowDen_congr L fun x hx y hy => updR_ne _ _ fun e => hids (e ▸ hms x hx y hy)
  refine ⟨hs, hms, by simp [updR_same]; omega, (rowDen ρ L ++ rest).toArray, [], rest, by rw [updR_same]; exact hnew, by rw [hd]; simp, by rw [updR_same]; rfl, ?_⟩
  rw [updR_same]
  simp only [List.size_toArray, List.length_append, rowDen_length L (fun e he => (hs e he).1), hL, hrest]
  rw [← Nat.add_mul]
  have : n + (cap - n) = cap := by omega
  rw [this]; omega

theorem Sat.other {Γ : Ctx} {ρ : Ren} {hp : AHeap} {w w' : World} {c : Nat} (h : Sat Γ ρ hp w) (hno : ∀ i b, hp i = some b → (ρ i).b ≠ c) (hF : c < Γ.W.heap.size → Γ.F c) (hb : ButAt w w' c) : Sat Γ ρ hp w' where
  blk i b hi := (h.blk i b hi).congr rfl (fun _ _ => rfl) (hb.rest _ (hno i b hi))
  inj := h.inj
  foot := h.foot
  frame k hk hf := by
    by_cases e : k = c
    · subst e; exact absurd (hF hk) hf
    · rw [hb.rest k e]; exact h.frame k hk hf
  size := by rw [hb.size]; exact h.size
  os := hb.os.trans h.os
  tape := hb.tape.trans h.tape
  output := hb.output.trans h.output
  fix := h.fix

theorem app_kill_new (v : AV) (tch : List Nat) (id : Nat) (b : Option ABlk) (base : Nat) (hp : AHeap) (hne : id ≠ base) : ({ val := v, touch := tch, writes := [(id, none)], news := [b] } : Eff).app base hp = upd (upd hp id none) base b := by
  funext i
  simp only [Eff.app, List.length_singleton, upd, List.lookup_cons, List.lookup_nil]
  by_cases e : i = base
  · subst e; simp
  · rw [if_neg (by omega), if_neg e]
    by_cases e' : i = id
    · subst e'; simp
    · have : (i == id) = false := by simpa using e'
      simp [this, e']
theorem app_new' (v : AV) (tch : List Nat) (b : Option ABlk) (base : Nat) (hp : AHeap) : ({ val := v, touch := tch, news := [b] } : Eff).app base hp = upd hp base b := by
  funext i
  simp only [Eff.app, List.length_singleton, upd, List.lookup_nil]
  by_cases e : i = base
  · subst e; simp
  · rw [if_neg (by omega), if_neg e]

theorem evAppend_sound (hT : TabOk P T) {c : Call} {s x : Operand} {t t' : TypeId} (ho : o.op = .call c) (hcal : c.callee = .builtin .append) (ha : c.args.toList = [s, x]) (hat : c.argTypes.toList = [t, t']) (hk : evAppend T t t' h K (evalO (tmL l) s) (evalO (tmL l) x)) :
    ∃ e, OpL P o l h e ∧ K e := by
  have hargs : c.args = #[s, x] := by apply Array.ext'; rw [ha]
  have hts : c.argTypes = #[t, t'] := by apply Array.ext'; rw [hat]
  have hms : s ∈ o.op.operands.toList := by rw [ho]; simp [Op.operands, Call.operands, hcal, hargs]
  have hmx : x ∈ o.op.operands.toList := by rw [ho]; simp [Op.operands, Call.operands, hcal, hargs]
  generalize hs : evalO (tmL l) s = u at hk
  generalize hx : evalO (tmL l) x = v at hk
  unfold evAppend at hk
  split at hk
  case h_2 => exact hk.elim
  rename_i e s1 b1 z1 e' s2 b2 z2 hd hd'
  obtain ⟨ty, hu, hrun⟩ := (tab_get hT hd).und
  simp only [TKOk] at hu
  subst hu
  obtain ⟨ty', hu', hrun'⟩ := (tab_get hT hd').und
  simp only [TKOk] at hu'
  subst hu'
  split at hk
  case h_2 => exact hk.elim
  rename_i d hde
  replace hk := chkB_spec hk
  obtain ⟨hkk, hk⟩ := hk
  simp only [Bool.and_eq_true, bne_iff_ne, ne_eq] at hkk
  obtain ⟨hby, hzsz⟩ := hkk
  have hdo := tab_get hT hde
  have hzc : ∀ ρ, (d.z.den ρ).cells.size = d.size := by
    intro ρ
    unfold zOk at hzsz
    split at hzsz
    · rename_i z hz
      simp only [Bool.and_eq_true, beq_iff_eq] at hzsz
      rw [avSegs_cells hz hzsz.2 ρ]
      simp [Segs.den_length, hzsz.1]
    · cases hzsz
  replace hk := srcK_spec (P := P) hk
  obtain ⟨n, E, ms, tch, hk, hvj, _, hsrc⟩ := hk
  have hexec : ∀ (ev : Operand → Value) (w : World), (execOp ev o).run P w = ((Builtin.append_ #[t, t'] o.type #[ev s, ev x]).run P w).andThen fun v w => .ok (.value v) w := by
    intro ev w
    unfold execOp
    simp only [ho, resolve, hcal, hargs, hts]
    simp [invoke, builtin]
  -- nothing is appended
  have fin0 : ∀ (tch' : List Nat), (∀ y ∈ tch, y ∈ tch') → n = 0 → u ≠ .junk → (∀ (hp₂ : AHeap), (∀ y ∈ tch', hp₂ y = hpL h y) → ∀ (Γ : Ctx) (ρ : Ren) (w : World), Sat Γ ρ hp₂ w → ∃ b len c, u.den ρ = .slice b len c ∧ len ≤ c) → OpL P o l h { val := u, touch := tch' } := by
    intro tch' hsub hn huj hu
    refine opL_reads fun hp₂ hh Γ ρ w ev hsat hev => ⟨u.den ρ, ?_, .inr rfl⟩
    have h1 := evals_get hev hms hs huj
    have h2 := evals_get hev hmx hx hvj
    obtain ⟨b, len, c', hb, hle⟩ := hu hp₂ hh Γ ρ w hsat
    obtain ⟨hin, _, _⟩ := hsrc hp₂ (fun y hy => hh y (hsub y hy)) Γ ρ w hsat
    rw [hn] at hin
    rw [hexec, h1, h2, hb, run_append_none hrun hrun' hdo hin hle]
    rfl
  -- a new block, the old one stays
  have fin1 : ∀ (len : Nat) (E0 : List Segs) (ms0 tch0 : List Nat), 0 < n → u ≠ .junk → (2 * (len + n) + 192) * d.bytes ≤ 2 ^ 48 →
      (∀ (hp₂ : AHeap), (∀ y ∈ tch0, hp₂ y = hpL h y) → ∀ (Γ : Ctx) (ρ : Ren) (w : World), Sat Γ ρ hp₂ w → ∃ b c, u.den ρ = .slice b len c ∧ c < len + n ∧ SrcIn P ρ w d.size len E0 (.slice b len c) ∧ (∀ e ∈ E0, ∀ y ∈ Segs.ids e, y ∈ ms0) ∧ ∀ y ∈ ms0, ∃ id b, hp₂ id = some b ∧ y ∈ b.ms) →
      OpL P o l h { val := .sc (.sl h.length 0 d.size (len + n) none), touch := tch0 ++ tch, news := [some (.row .inx e d.size (E0 ++ E) (ms0 ++ ms))] } := by
    intro len E0 ms0 tch0 hn huj hbig hu
    refine OpT.of_run fun hp₂ hh hcl hsc Γ ρ w ev h0 hsat hev => ?_
    have hc := hcl h.length (Nat.le_refl _) (by simp)
    have h1 := evals_get hev hms hs huj
    have h2 := evals_get hev hmx hx hvj
    have hsat1 : Sat Γ ρ hp₂ w.drew := hsat.drew _
    obtain ⟨b, c', hb, hlt, hin0, hm0, hm0'⟩ := hu hp₂ (fun y hy => hh y (List.mem_append.2 (.inl hy))) Γ ρ w.drew hsat1
    obtain ⟨hin, hm1, hm1'⟩ := hsrc hp₂ (fun y hy => hh y (List.mem_append.2 (.inr hy))) Γ ρ w.drew hsat1
    obtain ⟨cap, rest, hcap, hrunA, hrest⟩ := run_append_new (ty := o.type) hrun hrun' hdo hin0 hin hlt hbig hby
    rw [hzc ρ] at hrest
    have hnm : h.length ∉ ms0 ++ ms := by
      intro hm
      rcases List.mem_append.1 hm with hm | hm
      · obtain ⟨id, b', hb', hy⟩ := hm0' _ hm; exact hc.2 id b' hb' hy
      · obtain ⟨id, b', hb', hy⟩ := hm1' _ hm; exact hc.2 id b' hb' hy
    have hg := grown_sat (e := e) (sz := d.size) (n := len + n) (cap := cap) (L := E0 ++ E) (ms := ms0 ++ ms) (rest := rest) hsat1 hc.1 h0 hc.2
      (fun y hy => (List.mem_append.1 hy).elim (hin0.size y) (hin.size y)) (fun y hy z hz => by
        rcases List.mem_append.1 hy with hy | hy
        · exact List.mem_append.2 (.inl (hm0 y hy z hz))
        · exact List.mem_append.2 (.inr (hm1 y hy z hz))) hnm (by rw [List.length_append, hin0.el, hin.el]) hcap hrest
    refine ⟨updR ρ h.length ⟨w.drew.heap.size, 0, cap⟩, .slice (some ⟨w.heap.size, 0, none⟩) (len + n) cap, w.drew.alloc (.cells (rowDen ρ (E0 ++ E) ++ rest).toArray e), .inl ?_, fun i hi => updR_ne _ _ (fun e => hi (by simp [e])), .inr ?_, ?_⟩
    · rw [hexec, h1, h2, hb, hrunA]; rfl
    · simp only [AV.den, SV.den, updR_same, Nat.zero_mul, Nat.add_zero, Nat.sub_zero]; rfl
    · rw [app_new']; exact hg
  split at hk
  · -- onto nil
    obtain ⟨hk0, hk1⟩ := hk
    rcases Nat.eq_zero_or_pos n with hn | hn
    · exact ⟨_, fin0 tch (fun y hy => hy) hn (by simp) (fun hp₂ hh Γ ρ w hsat => ⟨none, 0, 0, rfl, Nat.le_refl _⟩), hk0 hn⟩
    · obtain ⟨hbig, hk1⟩ := hk1 hn
      refine ⟨_, fin1 0 [] [] [] hn (by simp) (by simpa using hbig) (fun hp₂ hh Γ ρ w hsat => ⟨none, 0, rfl, by omega, ⟨fun _ => rfl, rfl, by simp [rowDen], by simp, rfl⟩, by simp, by simp⟩), ?_⟩
      simpa using hk1
  · -- onto one whose room is known
    rename_i id i sz len cc
    replace hk := srcK_spec (P := P) hk
    obtain ⟨n0, E0, ms0, tch0, ⟨hk0, hk1⟩, huj, hn0, hsrc0⟩ := hk
    rcases Nat.eq_zero_or_pos n with hn | hn
    · obtain ⟨hle, hk0⟩ := hk0 hn
      exact ⟨_, fin0 tch (fun y hy => hy) hn (by simp) (fun hp₂ hh Γ ρ w hsat => ⟨_, len, cc, den_sl ρ id i sz len (some cc), hle⟩), hk0⟩
    · obtain ⟨⟨hlt, hbig⟩, hk1⟩ := hk1 hn
      have hn0 := hn0 _ _ _ _ _ rfl
      subst hn0
      refine ⟨_, fin1 n0 E0 ms0 tch0 hn (by simp) hbig (fun hp₂ hh Γ ρ w hsat => ?_), hk1⟩
      obtain ⟨g1, g2, g3⟩ := hsrc0 hp₂ hh Γ ρ w hsat
      rw [den_sl] at g1
      exact ⟨_, cc, den_sl ρ id i sz n0 (some cc), hlt, g1, g2, g3⟩
  · -- onto one that may have room
    rename_i id i sz len
    split at hk
    case h_2 => exact hk.elim
    rename_i e1 sz1 L ms0 hb
    replace hk := chkB_spec hk
    obtain ⟨hkk, hi, hk0, hk1⟩ := hk
    simp only [Bool.and_eq_true, beq_iff_eq] at hkk
    obtain ⟨hq1, hq2, hq3⟩ := hkk
    subst hq1
    subst hq2
    have hq4 := hq3.symm
    subst hq4
    have hidlt : id < h.length := hpL_lt hb
    rcases Nat.eq_zero_or_pos n with hn | hn
    · refine ⟨_, fin0 (id :: tch) (fun y hy => by simp [hy]) hn (by simp) (fun hp₂ hh Γ ρ w hsat => ⟨_, len, _, den_sl ρ id i _ len none, ?_⟩), hk0 hn⟩
      have hbq : hp₂ id = some (.row .inx e d.size L ms0) := by rw [hh id (by simp)]; exact hb
      have := (hsat.blk id _ hbq).2.2.1
      simp only [Option.getD_none]; omega
    · obtain ⟨hbig, hk1⟩ := hk1 hn
      refine ⟨_, ?_, hk1⟩
      refine OpT.of_run fun hp₂ hh hcl hsc Γ ρ w ev h0 hsat hev => ?_
      have hc := hcl h.length (Nat.le_refl _) (by simp)
      have h1 := evals_get hev hms hs (by simp)
      have h2 := evals_get hev hmx hx hvj
      have hb2 : hp₂ id = some (.row .inx e d.size L ms0) := by rw [hh id (by simp)]; exact hb
      have hbs := hsat.blk id _ hb2
      obtain ⟨hin, hm1, hm1'⟩ := hsrc hp₂ (fun y hy => hh y (by simp [hy])) Γ ρ w hsat
      have hnm : h.length ∉ ms0 ++ ms := by
        intro hm
        rcases List.mem_append.1 hm with hm | hm
        · exact hc.2 id _ hb2 hm
        · obtain ⟨id', b', hb', hy⟩ := hm1' _ hm; exact hc.2 id' b' hb' hy
      have hm0 : ∀ y ∈ (L.drop i).take len, ∀ z ∈ Segs.ids y, z ∈ ms0 := fun y hy z hz => hbs.2.1 y (List.mem_of_mem_drop (List.mem_of_mem_take hy)) z hz
      have hsz0 : ∀ y ∈ (L.drop i).take len, Segs.size y = d.size ∧ Segs.oneB y = true := fun y hy => hbs.1 y (List.mem_of_mem_drop (List.mem_of_mem_take hy))
      have hszA : ∀ y ∈ (L.drop i).take len ++ E, Segs.size y = d.size ∧ Segs.oneB y = true := fun y hy => (List.mem_append.1 hy).elim (hsz0 y) (hin.size y)
      have hmsA : ∀ y ∈ (L.drop i).take len ++ E, ∀ z ∈ Segs.ids y, z ∈ ms0 ++ ms := fun y hy z hz => by
        rcases List.mem_append.1 hy with hy | hy
        · exact List.mem_append.2 (.inl (hm0 y hy z hz))
        · exact List.mem_append.2 (.inr (hm1 y hy z hz))
      have hlA : ((L.drop i).take len ++ E).length = len + n := by rw [List.length_append, hin.el, List.length_take, List.length_drop]; omega
      have hkeep : ∀ j b, upd hp₂ id none j = some b → j ≠ id ∧ hp₂ j = some b := by
        intro j b hj
        by_cases e : j = id
        · subst e; rw [upd_same] at hj; cases hj
        · rw [upd_ne _ _ e] at hj; exact ⟨e, hj⟩
      have hno : ∀ j b, upd hp₂ id none j = some b → (ρ j).b ≠ (ρ id).b := fun j b hj he => by
        obtain ⟨g1, g2⟩ := hkeep j b hj
        exact g1 (hsat.inj id j _ b hb2 g2 rfl he.symm).symm
      have hfoot : (ρ id).b < Γ.W.heap.size → Γ.F (ρ id).b := hsat.foot id _ hb2 rfl
      have hnone : upd hp₂ id none h.length = none := by rw [upd_ne _ _ (by omega)]; exact hc.1
      have hcl2 : ∀ j b, upd hp₂ id none j = some b → h.length ∉ b.ms := fun j b hj => hc.2 j b (hkeep j b hj).2
      have hud : (AV.sc (.sl id i d.size len none)).den ρ = .slice (some ⟨(ρ id).b, (ρ id).sh + i * d.size, none⟩) len ((ρ id).tot - i) := by rw [den_sl]; rfl
      have htot := hbs.2.2.1
      have happ : ∀ v, ({ val := v, touch := id :: tch, writes := [(id, none)], news := [some (.row .inx e d.size ((L.drop i).take len ++ E) (ms0 ++ ms))] } : Eff).app h.length hp₂ = upd (upd hp₂ id none) h.length (some (.row .inx e d.size ((L.drop i).take len ++ E) (ms0 ++ ms))) := fun v => app_kill_new v _ id _ _ _ (by omega)
      by_cases hroom : len + n ≤ (ρ id).tot - i
      · obtain ⟨_, _, _, c0, pre, post, c1, c2, c3, c4⟩ := hbs
        obtain ⟨c', t'', fr, pre0, post0, r1, r2, r3, r4⟩ := (hsat.blk id _ hb2).range i len hi
        rw [c1] at r1; cases r1
        have hmul : i * d.size + len * d.size + n * d.size ≤ (ρ id).tot * d.size := by
          rw [← Nat.add_mul, ← Nat.add_mul]
          exact Nat.mul_le_mul_right _ (by omega)
        have hone : ∀ v ∈ rowDen ρ E, cell1 v = true := by
          intro v hv
          obtain ⟨y, hy, hv⟩ := List.mem_flatMap.1 hv
          exact Segs.oneB_den (hin.size y hy).2 ρ v hv
        obtain ⟨w', c', k1, k2, k3, k4⟩ := run_append_room (ty := o.type) hrun hrun' hdo hin hroom (o := (ρ id).sh + i * d.size) c1 (by omega) hone
        refine ⟨updR ρ h.length ⟨(ρ id).b, (ρ id).sh + i * d.size, (ρ id).tot - i⟩, .slice (some ⟨(ρ id).b, (ρ id).sh + i * d.size, none⟩) (len + n) ((ρ id).tot - i), w', .inl ?_, fun i hi => updR_ne _ _ (fun e => hi (by simp [e])), .inr ?_, ?_⟩
        · rw [hexec, h1, h2, hud, k1]; rfl
        · simp only [AV.den, SV.den, updR_same, Nat.zero_mul, Nat.add_zero, Nat.sub_zero]
        · rw [happ]
          have hs1 := (hsat.kill id).other hno hfoot k4
          refine hs1.fresh (s := ⟨(ρ id).b, (ρ id).sh + i * d.size, (ρ id).tot - i⟩) hnone h0 hcl2 ?_ hno hfoot
          have hd : rowDen (updR ρ h.length ⟨(ρ id).b, (ρ id).sh + i * d.size, (ρ id).tot - i⟩) ((L.drop i).take len ++ E) = rowDen ρ ((L.drop i).take len ++ E) := rowDen_congr _ fun x hx y hy => updR_ne _ _ fun e => hnm (e ▸ hmsA x hx y hy)
          have hc0 : c0.size = pre0.length + (len * d.size + post0.length) := by rw [← Array.length_toList, r2]; simp [r4]
          have e1 : List.take ((ρ id).sh + i * d.size + len * d.size) c0.toList = pre0 ++ rowDen ρ ((L.drop i).take len) := by
            rw [r2, ← r3, ← r4, List.take_append, List.take_of_length_le (l := pre0) (by omega), show pre0.length + (rowDen ρ ((L.drop i).take len)).length - pre0.length = (rowDen ρ ((L.drop i).take len)).length by omega, List.take_left']
            rfl
          have hc's : c'.size = c0.size := by
            rw [← Array.length_toList, k3, e1]
            simp only [List.length_append, r4, hin.dl, List.length_drop, Array.length_toList]
            omega
          refine ⟨hszA, hmsA, by rw [hlA, updR_same]; exact hroom, c', pre0, List.drop ((ρ id).sh + i * d.size + len * d.size + n * d.size) c0.toList, by rw [updR_same]; exact k2, ?_, by rw [updR_same]; exact r3, ?_⟩
          · rw [hd, k3, e1, rowDen_append]; simp
          · rw [updR_same, hc's]
            show (ρ id).sh + i * d.size + ((ρ id).tot - i) * d.size ≤ _
            have : ((ρ id).tot - i) * d.size + i * d.size = (ρ id).tot * d.size := by rw [← Nat.add_mul]; congr 1; omega
            omega
      · have hsat1 : Sat Γ ρ hp₂ w.drew := hsat.drew _
        obtain ⟨hin', _, _⟩ := hsrc hp₂ (fun y hy => hh y (by simp [hy])) Γ ρ w.drew hsat1
        have hin0 : SrcIn P ρ w.drew d.size len ((L.drop i).take len) (.slice (some ⟨(ρ id).b, (ρ id).sh + i * d.size, none⟩) len ((ρ id).tot - i)) := by
          obtain ⟨c, t'', fr, pre, post, c1, c2, c3, c4⟩ := (hsat1.blk id _ hb2).range i len hi
          have hcell : cellsAt w.drew (ρ id).b ((ρ id).sh + i * d.size) (rowDen ρ ((L.drop i).take len)) := by rw [← c3]; exact cellsAt_of c1 c2
          refine ⟨fun _ => rfl, ?_, c4, hsz0, by rw [List.length_take, List.length_drop]; omega⟩
          show (loadCells _ (len * d.size)).run P _ = _
          rw [← c4]
          exact run_loadCells hcell
        obtain ⟨cap, rest, hcap, hrunA, hrest⟩ := run_append_new (ty := o.type) hrun hrun' hdo hin0 hin' (by omega) hbig hby
        rw [hzc ρ] at hrest
        have hg := grown_sat (e := e) (sz := d.size) (n := len + n) (cap := cap) (L := (L.drop i).take len ++ E) (ms := ms0 ++ ms) (rest := rest) (hsat1.kill id) hnone h0 hcl2 hszA hmsA hnm hlA hcap hrest
        refine ⟨updR ρ h.length ⟨w.drew.heap.size, 0, cap⟩, .slice (some ⟨w.heap.size, 0, none⟩) (len + n) cap, w.drew.alloc (.cells (rowDen ρ ((L.drop i).take len ++ E) ++ rest).toArray e), .inl ?_, fun i hi => updR_ne _ _ (fun e => hi (by simp [e])), .inr ?_, ?_⟩
        · rw [hexec, h1, h2, hud, hrunA]; rfl
        · simp only [AV.den, SV.den, updR_same, Nat.zero_mul, Nat.add_zero, Nat.sub_zero]; rfl
        · rw [happ]; exact hg
  · exact hk.elim
end
end Go.Proofs.Ytdmcbfmpnakdfaa.Eng
