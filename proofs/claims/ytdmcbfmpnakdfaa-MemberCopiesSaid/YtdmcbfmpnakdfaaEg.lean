/- What single operations come to: the plain ones. -/
import Derived.Test.YtdmcbfmpnakdfaaEf
import Derived.Laws.Bits
namespace Go.Proofs.Ytdmcbfmpnakdfaa.Eng
open Go

inductive TK where
  | int (k : IntKind) | bool | str | ptr (e : TypeId) | slice (e : TypeId) | arr (n : Nat) (e : TypeId) | map (k e : TypeId) | st (fs : List (Nat × TypeId)) | fn | other
structure TD where
  k : TK
  size : Nat
  bytes : Nat
  z : AV
abbrev Tab := List (Nat × TD)
def TKOk : TK → TypeDesc → Prop
  | .int k, u => u = .int k
  | .bool, u => u = .bool
  | .str, u => u = .string
  | .ptr e, u => u = .pointer e
  | .slice e, u => u = .slice e
  | .arr n e, u => u = .array n e
  | .map k e, u => u = .map k e
  | .st fs, u => ∃ fields, u = .struct fields ∧ fields.toList.map (fun f => (f.offset, f.type)) = fs
  | .fn, u => ∃ a b c, u = .func a b c
  | .other, _ => False
structure TDOk (P : Program) (t : TypeId) (d : TD) : Prop where
  u : ∃ u, P.underlying t = some u ∧ TKOk d.k u
  i : ∃ i, P.info? t = some i ∧ i.size = d.size ∧ i.bytes = d.bytes ∧ ∃ z, i.zero = some z ∧ ∀ ρ, d.z.den ρ = z
  zi : d.z.ids = []
theorem TDOk.of {P : Program} {t : TypeId} {d : TD} {u : TypeDesc} (hu : P.underlying t = some u) (hk : TKOk d.k u) (hi : (P.info? t).map (fun i => (i.size, i.bytes)) = some (d.size, d.bytes)) (hz : ∀ ρ, (P.info? t).bind (·.zero) = some (d.z.den ρ)) (zi : d.z.ids = []) : TDOk P t d := by
  refine ⟨⟨u, hu, hk⟩, ?_, zi⟩
  cases h : P.info? t with
  | none => rw [h] at hi; cases hi
  | some i =>
    rw [h] at hi
    simp only [Option.map_some, Option.some.injEq, Prod.mk.injEq] at hi
    refine ⟨i, rfl, hi.1, hi.2, d.z.den (fun _ => ⟨0, 0, 0⟩), ?_, fun ρ => ?_⟩
    · have := hz (fun _ => ⟨0, 0, 0⟩); rw [h] at this; exact this
    · have h1 := hz (fun _ => ⟨0, 0, 0⟩)
      have h2 := hz ρ
      rw [h1] at h2
      injection h2 with h2
      exact h2.symm
def TabOk (P : Program) (T : Tab) : Prop := ∀ x ∈ T, TDOk P x.1 x.2
theorem tab_nil {P : Program} : TabOk P [] := fun _ h => by cases h
theorem tab_cons {P : Program} {T : Tab} {t : TypeId} {d : TD} (h : TDOk P t d) (hT : TabOk P T) : TabOk P ((t, d) :: T) := fun x hx => by
  rcases List.mem_cons.1 hx with rfl | hx
  · exact h
  · exact hT x hx
theorem tab_get {P : Program} {T : Tab} (h : TabOk P T) {t : TypeId} {d : TD} (hd : T.lookup t = some d) : TDOk P t d := by
  induction T with
  | nil => cases hd
  | cons x l ih =>
    obtain ⟨a, b⟩ := x
    simp only [List.lookup_cons] at hd
    by_cases e : t = a
    · subst e
      simp at hd
      subst hd
      exact h (t, b) (by simp)
    · have : (t == a) = false := by simpa using e
      rw [this] at hd
      exact ih (fun x hx => h x (by simp [hx])) hd
def TK.isAgg : TK → Bool
  | .arr .. | .st .. => true
  | _ => false

section
variable {P : Program} {t : TypeId} {d : TD}
theorem TDOk.und (h : TDOk P t d) : ∃ u, TKOk d.k u ∧ ∀ w, (underlying t).run P w = .ok u w := by
  obtain ⟨u, h1, h2⟩ := h.u
  exact ⟨u, h2, fun w => by simp [underlying, h1]⟩
theorem TDOk.sz (h : TDOk P t d) (w : World) : (sizeOf t).run P w = .ok d.size w := by
  obtain ⟨i, h1, h2, _⟩ := h.i
  simp [sizeOf, typeInfo, h1, h2]
theorem TDOk.info (h : TDOk P t d) : ∃ i, i.size = d.size ∧ i.bytes = d.bytes ∧ ∀ w, (typeInfo t).run P w = .ok i w := by
  obtain ⟨i, h1, h2, h3, _⟩ := h.i
  exact ⟨i, h2, h3, fun w => by simp [typeInfo, h1]⟩
theorem TDOk.zero (h : TDOk P t d) (ρ : Ren) (w : World) : (zeroValue t).run P w = .ok (d.z.den ρ) w := by
  obtain ⟨i, h1, _, _, z, h4, h5⟩ := h.i
  simp [zeroValue, typeInfo, h1, h4, h5]
theorem TDOk.agg (h : TDOk P t d) (_hk : d.k ≠ .other) (w : World) : (isAgg t).run P w = .ok d.k.isAgg w := by
  obtain ⟨u, h1, h2⟩ := h.und
  unfold isAgg
  simp only [Sem.run_bind, h2, Result.andThen]
  cases hd : d.k <;> rw [hd] at h1 <;> simp only [TKOk] at h1
  case st fs => obtain ⟨f, rfl, _⟩ := h1; rfl
  case fn => obtain ⟨a, b, c, rfl⟩ := h1; rfl
  all_goals first | (subst h1; rfl) | (exact absurd hd _hk)
end

/-! Cells. -/
def dropS : Segs → Nat → Option Segs
  | s, 0 => some s
  | [], _ + 1 => none
  | .one _ :: l, k + 1 => dropS l k
  | .byt n b :: l, k + 1 => if n ≤ k + 1 then dropS l (k + 1 - n) else some (.byt (n - (k + 1)) (b.drop (k + 1)) :: l)
  | .raw r :: l, k + 1 => if r.length ≤ k + 1 then dropS l (k + 1 - r.length) else some (.raw (r.drop (k + 1)) :: l)
def takeS : Segs → Nat → Option Segs
  | _, 0 => some []
  | [], _ + 1 => none
  | .one v :: l, k + 1 => (takeS l k).map (.one v :: ·)
  | .byt n b :: l, k + 1 => if n ≤ k + 1 then (takeS l (k + 1 - n)).map (.byt n b :: ·) else some [.byt (k + 1) b]
  | .raw r :: l, k + 1 => if r.length ≤ k + 1 then (takeS l (k + 1 - r.length)).map (.raw r :: ·) else some [.raw (r.take (k + 1))]
theorem bysN_drop (n k : Nat) (b : List Nat) (h : k ≤ n) : bysN (n - k) (b.drop k) = (bysN n b).drop k := by
  apply List.ext_getElem?
  intro i
  simp only [bysN, List.getElem?_drop, List.getElem?_map]
  by_cases hi : i < n - k
  · rw [List.getElem?_range hi, List.getElem?_range (by omega)]
    simp [List.getElem?_drop]
  · rw [List.getElem?_eq_none (by simp; omega), List.getElem?_eq_none (by simp; omega)]; rfl
theorem bysN_take (n k : Nat) (b : List Nat) (h : k ≤ n) : bysN k b = (bysN n b).take k := by
  unfold bysN
  rw [← List.map_take, List.take_range, Nat.min_eq_left h]
theorem dropS_den (ρ : Ren) : ∀ (s : Segs) (k : Nat) (s' : Segs), dropS s k = some s' → k ≤ Segs.size s ∧ Segs.den ρ s' = (Segs.den ρ s).drop k ∧ ∀ x ∈ Segs.ids s', x ∈ Segs.ids s
  | s, 0, s', h => by
    have h' : dropS s 0 = some s := by cases s <;> rfl
    rw [h'] at h; cases h; simp
  | [], k + 1, s', h => by cases h
  | .one v :: l, k + 1, s', h => by
    obtain ⟨h1, h2, h3⟩ := dropS_den ρ l k s' h
    refine ⟨by simp [Segs.size, Seg.size]; omega, by rw [h2]; simp [Segs.den, Seg.den], fun x hx => by simp [Segs.ids]; exact .inr (h3 x hx)⟩
  | .byt n b :: l, k + 1, s', h => by
    simp only [dropS] at h
    split at h
    · obtain ⟨h1, h2, h3⟩ := dropS_den ρ l _ s' h
      refine ⟨by simp [Segs.size, Seg.size]; omega, ?_, fun x hx => by simp [Segs.ids]; exact .inr (h3 x hx)⟩
      rw [h2]
      simp only [Segs.den, Seg.den]
      rw [List.drop_append, bysN_length, List.drop_eq_nil_of_le (as := bysN n b) (by rw [bysN_length]; omega)]; rfl
    · cases h
      refine ⟨by simp [Segs.size, Seg.size]; omega, ?_, fun x hx => by simpa [Segs.ids, Seg.ids] using hx⟩
      simp only [Segs.den, Seg.den]
      rw [bysN_drop _ _ _ (by omega), List.drop_append, bysN_length, show k + 1 - n = 0 by omega]; rfl
  | .raw r :: l, k + 1, s', h => by
    simp only [dropS] at h
    split at h
    · obtain ⟨h1, h2, h3⟩ := dropS_den ρ l _ s' h
      refine ⟨by simp [Segs.size, Seg.size]; omega, ?_, fun x hx => by simp [Segs.ids]; exact .inr (h3 x hx)⟩
      rw [h2]
      simp only [Segs.den, Seg.den]
      rw [List.drop_append, List.drop_eq_nil_of_le (as := r) (by omega)]; rfl
    · cases h
      refine ⟨by simp [Segs.size, Seg.size]; omega, ?_, fun x hx => by simpa [Segs.ids, Seg.ids] using hx⟩
      simp only [Segs.den, Seg.den]
      rw [List.drop_append, show k + 1 - r.length = 0 by omega]; rfl
theorem takeS_den (ρ : Ren) : ∀ (s : Segs) (k : Nat) (s' : Segs), takeS s k = some s' → k ≤ Segs.size s ∧ Segs.size s' = k ∧ Segs.den ρ s' = (Segs.den ρ s).take k ∧ ∀ x ∈ Segs.ids s', x ∈ Segs.ids s
  | s, 0, s', h => by cases s <;> (cases h; simp [Segs.size, Segs.den, Segs.ids])
  | [], k + 1, s', h => by cases h
  | .one v :: l, k + 1, s', h => by
    simp only [takeS, Option.map_eq_some_iff] at h
    obtain ⟨s1, h, rfl⟩ := h
    obtain ⟨h1, h1', h2, h3⟩ := takeS_den ρ l k s1 h
    refine ⟨by simp [Segs.size, Seg.size]; omega, by simp [Segs.size, Seg.size, h1']; omega, by simp [Segs.den, Seg.den, h2], fun x hx => ?_⟩
    simp only [Segs.ids, List.mem_append] at hx ⊢
    exact hx.imp id (h3 x)
  | .byt n b :: l, k + 1, s', h => by
    simp only [takeS] at h
    split at h
    · simp only [Option.map_eq_some_iff] at h
      obtain ⟨s1, h, rfl⟩ := h
      obtain ⟨h1, h1', h2, h3⟩ := takeS_den ρ l _ s1 h
      refine ⟨by simp [Segs.size, Seg.size]; omega, by simp [Segs.size, Seg.size, h1']; omega, ?_, fun x hx => ?_⟩
      · simp only [Segs.den, Seg.den, h2]
        rw [List.take_append, bysN_length, List.take_of_length_le (l := bysN n b) (by rw [bysN_length]; omega)]
      · simp only [Segs.ids, List.mem_append] at hx ⊢
        exact hx.imp id (h3 x)
    · cases h
      refine ⟨by simp [Segs.size, Seg.size]; omega, by simp [Segs.size, Seg.size], ?_, fun x hx => by simp [Segs.ids, Seg.ids] at hx⟩
      simp only [Segs.den, Seg.den]
      rw [bysN_take n (k + 1) b (by omega), List.take_append, bysN_length, show k + 1 - n = 0 by omega]; simp
  | .raw r :: l, k + 1, s', h => by
    simp only [takeS] at h
    split at h
    · simp only [Option.map_eq_some_iff] at h
      obtain ⟨s1, h, rfl⟩ := h
      obtain ⟨h1, h1', h2, h3⟩ := takeS_den ρ l _ s1 h
      refine ⟨by simp [Segs.size, Seg.size]; omega, by simp [Segs.size, Seg.size, h1']; omega, ?_, fun x hx => ?_⟩
      · simp only [Segs.den, Seg.den, h2]
        rw [List.take_append, List.take_of_length_le (l := r) (by omega)]
      · simp only [Segs.ids, List.mem_append] at hx ⊢
        exact hx.imp id (h3 x)
    · cases h
      refine ⟨by simp [Segs.size, Seg.size]; omega, by simp [Segs.size, Seg.size]; omega, ?_, fun x hx => by simp [Segs.ids, Seg.ids] at hx⟩
      simp only [Segs.den, Seg.den]
      rw [List.take_append, show k + 1 - r.length = 0 by omega]; simp
/-- n cells from the k-th on. -/
def subS (s : Segs) (k n : Nat) : Option Segs := (dropS s k).bind fun x => takeS x n
/-- Other cells from the k-th on. -/
def repS (s : Segs) (k : Nat) (x : Segs) : Option Segs := (takeS s k).bind fun a => (dropS s (k + Segs.size x)).map fun c => a ++ (x ++ c)
theorem subS_den {ρ : Ren} {s s' : Segs} {k n : Nat} (h : subS s k n = some s') : k + n ≤ Segs.size s ∧ Segs.size s' = n ∧ Segs.den ρ s' = ((Segs.den ρ s).drop k).take n ∧ ∀ x ∈ Segs.ids s', x ∈ Segs.ids s := by
  unfold subS at h
  cases h1 : dropS s k with
  | none => rw [h1] at h; cases h
  | some x =>
    rw [h1] at h
    obtain ⟨a1, a2, a3⟩ := dropS_den ρ s k x h1
    obtain ⟨b1, b2, b3, b4⟩ := takeS_den ρ x n s' h
    have : Segs.size x = Segs.size s - k := by
      have h9 := congrArg List.length a2
      rw [List.length_drop, Segs.den_length, Segs.den_length] at h9
      exact h9
    exact ⟨by omega, b2, by rw [b3, a2], fun y hy => a3 y (b4 y hy)⟩
theorem repS_den {ρ : Ren} {s s' x : Segs} {k : Nat} (h : repS s k x = some s') : k + Segs.size x ≤ Segs.size s ∧ Segs.size s' = Segs.size s ∧
    Segs.den ρ s' = (Segs.den ρ s).take k ++ (Segs.den ρ x ++ (Segs.den ρ s).drop (k + Segs.size x)) ∧ ∀ y ∈ Segs.ids s', y ∈ Segs.ids s ∨ y ∈ Segs.ids x := by
  unfold repS at h
  cases h1 : takeS s k with
  | none => rw [h1] at h; cases h
  | some a =>
    rw [h1] at h
    simp only [Option.bind_some, Option.map_eq_some_iff] at h
    obtain ⟨c, h2, rfl⟩ := h
    obtain ⟨a1, a2, a3, a4⟩ := takeS_den ρ s k a h1
    obtain ⟨c1, c2, c3⟩ := dropS_den ρ s _ c h2
    have hc : Segs.size c = Segs.size s - (k + Segs.size x) := by
      have h9 := congrArg List.length c2
      rw [List.length_drop, Segs.den_length, Segs.den_length] at h9
      exact h9
    refine ⟨c1, ?_, ?_, fun y hy => ?_⟩
    · rw [Segs.size_append, Segs.size_append, a2, hc]; omega
    · rw [Segs.den_append, Segs.den_append, a3, c2]
    · rw [Segs.ids_append, Segs.ids_append] at hy
      simp only [List.mem_append] at hy
      rcases hy with hy | hy | hy
      · exact .inl (a4 y hy)
      · exact .inr hy
      · exact .inl (c3 y hy)

/-- What a row's element is in its block. -/
theorem row_split (ρ : Ren) {sz : Nat} : ∀ (L : List Segs), (∀ e ∈ L, Segs.size e = sz) → ∀ (i : Nat) (e : Segs), L[i]? = some e →
    rowDen ρ L = rowDen ρ (L.take i) ++ (Segs.den ρ e ++ rowDen ρ (L.drop (i + 1))) ∧ (rowDen ρ (L.take i)).length = i * sz
  | [], _, i, e, h => by simp at h
  | x :: l, hs, 0, e, h => by
    simp at h; subst h
    simp [rowDen]
  | x :: l, hs, i + 1, e, h => by
    obtain ⟨h1, h2⟩ := row_split ρ l (fun y hy => hs y (by simp [hy])) i e (by simpa using h)
    constructor
    · simp only [rowDen, List.flatMap_cons, List.take_succ_cons, List.drop_succ_cons, List.append_assoc] at *
      rw [h1]
    · simp only [rowDen, List.take_succ_cons, List.flatMap_cons, List.length_append, Segs.den_length] at *
      rw [h2, hs x (by simp), Nat.add_mul]; omega

/-- The cells of a world's block from a place on. -/
def cellsAt (w : World) (b o : Nat) (cs : List Value) : Prop := ∀ j, j < cs.length → w.cell? ⟨b, o + j, none⟩ = cs[j]?
theorem cellsAt_of {w : World} {b : Nat} {c : Array Value} {t : TypeId} {fr : Nat × Nat} {pre x post : List Value} (h : w.heap[b]? = some (.cells c t fr)) (hc : c.toList = pre ++ (x ++ post)) : cellsAt w b pre.length x := by
  intro j hj
  unfold World.cell?
  simp only [h, Option.isSome_none, Bool.false_eq_true, if_false]
  rw [← Array.getElem?_toList, hc, List.getElem?_append_right (by omega), show pre.length + j - pre.length = j by omega, List.getElem?_append_left hj]
/-- A live row's element lies in the world where its address says. -/
theorem BlkSat.elem {Γ : Ctx} {ρ : Ren} {w : World} {id i sz : Nat} {md : Md} {t : TypeId} {L : List Segs} {ms : List Nat} {e : Segs} (h : BlkSat Γ ρ w id (.row md t sz L ms)) (he : L[i]? = some e) :
    ∃ c t' fr pre post, w.heap[(ρ id).b]? = some (.cells c t' fr) ∧ c.toList = pre ++ (Segs.den ρ e ++ post) ∧ pre.length = (ρ id).sh + i * sz ∧ Segs.size e = sz := by
  obtain ⟨h1, h2, h3, h4⟩ := h
  obtain ⟨s1, s2⟩ := row_split ρ L (fun e he => (h1 e he).1) i e he
  have hsz := (h1 e (List.mem_of_getElem? he)).1
  have key : ∀ (c : Array Value) (t' : TypeId) (fr : Nat × Nat) (pre post : List Value), w.heap[(ρ id).b]? = some (.cells c t' fr) → c.toList = pre ++ (rowDen ρ L ++ post) → pre.length = (ρ id).sh →
      ∃ c t' fr pre post, w.heap[(ρ id).b]? = some (.cells c t' fr) ∧ c.toList = pre ++ (Segs.den ρ e ++ post) ∧ pre.length = (ρ id).sh + i * sz ∧ Segs.size e = sz := by
    intro c t' fr pre post a1 a2 a3
    exact ⟨c, t', fr, pre ++ rowDen ρ (L.take i), rowDen ρ (L.drop (i + 1)) ++ post, a1, by rw [a2, s1]; simp [List.append_assoc], by rw [List.length_append, a3, s2], hsz⟩
  cases md
  · obtain ⟨c, t', fr, pre, post, a1, a2, a3, _⟩ := h4; exact key c t' fr pre post a1 a2 a3
  · obtain ⟨c, a1, a2, a3, _⟩ := h4; exact key c t (0, 0) [] [] a1 (by rw [a2]; simp) (by rw [a3]; rfl)
  · obtain ⟨c, pre, post, a1, a2, a3, _⟩ := h4; exact key c t (0, 0) pre post a1 a2 a3
  · obtain ⟨c, a1, a2, a3, _⟩ := h4; exact key c t (0, 0) [] [] a1 (by rw [a2]; simp) (by rw [a3]; rfl)
  · obtain ⟨⟨c, t', fr, pre, post, a1, a2, a3, _⟩, _⟩ := h4; exact key c t' fr pre post a1 a2 a3

theorem addr_add (b o n : Nat) : (⟨b, o, none⟩ : Addr).add n = ⟨b, o + n, none⟩ := by
  unfold Addr.add
  split
  · rename_i h; subst h; rfl
  · rfl
theorem run_load_cell {P : Program} {w : World} {a : Addr} {v : Value} (h : w.cell? a = some v) : (load a).run P w = .ok v w := by
  rw [run_load, h]
theorem run_loadCells {P : Program} {w : World} {b o : Nat} {cs : List Value} (h : cellsAt w b o cs) : (loadCells ⟨b, o, none⟩ cs.length).run P w = .ok cs.toArray w := by
  have gen : ∀ (n i : Nat) (acc : Array Value), i + n = cs.length → acc.toList = cs.take i → (loadCellsFrom ⟨b, o, none⟩ i n acc).run P w = .ok cs.toArray w := by
    intro n
    induction n with
    | zero =>
      intro i acc h1 h2
      show Result.ok acc w = _
      congr 1
      apply Array.ext'
      rw [h2, List.take_of_length_le (by omega)]
    | succ n ih =>
      intro i acc h1 h2
      have hi : i < cs.length := by omega
      unfold loadCellsFrom
      rw [Sem.run_bind, addr_add, run_load_cell (v := cs[i]) (by rw [h i hi, List.getElem?_eq_getElem hi])]
      show (loadCellsFrom _ (i + 1) n (acc.push cs[i])).run P w = _
      refine ih (i + 1) _ (by omega) ?_
      rw [Array.toList_push, h2, List.take_succ_eq_append_getElem hi]
  exact gen cs.length 0 #[] (by omega) (by simp)
theorem cellsAt_drop {w : World} {b o k n : Nat} {cs : List Value} (h : cellsAt w b o cs) : cellsAt w b (o + k) ((cs.drop k).take n) := by
  intro j hj
  simp only [List.length_take, List.length_drop] at hj
  rw [Nat.add_assoc, h (k + j) (by omega), List.getElem?_take, if_pos (by omega), List.getElem?_drop]
/-- A load of cells that are known. -/
theorem run_loadVar {P : Program} {w : World} {t : TypeId} {d : TD} (hd : TDOk P t d) (hk : d.k ≠ .other) {b o : Nat} {cs : List Value} (h : cellsAt w b o cs) (hs : cs.length = d.size) (h1 : d.k.isAgg = false → ∃ v, cs = [v]) :
    (loadVar t ⟨b, o, none⟩).run P w = .ok (if d.k.isAgg then .agg cs.toArray else cs.getD 0 undef) w := by
  unfold loadVar
  rw [Sem.run_bind, hd.agg hk, Result.andThen_ok]
  cases hg : d.k.isAgg with
  | true =>
    simp only [if_true]
    rw [Sem.run_bind, hd.sz, Result.andThen_ok, ← hs, Sem.run_bind, run_loadCells h]
    rfl
  | false =>
    obtain ⟨v, rfl⟩ := h1 hg
    simp only [Bool.false_eq_true, if_false]
    exact run_load_cell (h 0 (by simp))
end Go.Proofs.Ytdmcbfmpnakdfaa.Eng
