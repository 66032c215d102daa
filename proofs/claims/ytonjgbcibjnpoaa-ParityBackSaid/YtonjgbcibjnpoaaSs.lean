/- Lists of sectors in memory. -/
import Derived.Test.YtonjgbcibjnpoaaSd
import Derived.Test.YtonjgbcibjnpoaaWArr
import Derived.Test.YtonjgbcibjnpoaaPb
import Derived.Great.FillDense
import Derived.Great.BuildSlice
namespace Go.Proofs.Ytonjgbcibjnpoaa.Ss
open Go.RowKit Go.Proofs.YtonjgbcibjnpoaaW.PrintWords Go.Proofs.Ytonjgbcibjnpoaa.Sc Go.Proofs.Ytonjgbcibjnpoaa.Sd Go.Proofs.Ytonjgbcibjnpoaa.Pb

def byK : Kd Nat := Kd.scalar (fun n : Nat => Value.int .u8 (n : Int)) (fun _ => rfl)
def seK : Kd (List Nat) := Kd.arr 64 byK (by decide)
theorem seK_sz : seK.sz = 64 := rfl
theorem seK_open {w : World} {l : List Nat} {cs : List Value} (h : seK.K w l cs) : l.length = 64 ∧ cs = (bys l).toList := by
  obtain ⟨h1, h2⟩ := Kd.arr_cells h
  exact ⟨h1, by rw [h2]; simp [bys, encs]⟩
theorem seK_mk {w : World} {l : List Nat} (h : l.length = 64) : seK.K w l (bys l).toList := by
  have h2 : seK.M w 0 (fun _ => True) l (encs (fun n : Nat => Value.int .u8 (n : Int)) l) := Kd.arr_of_cells h
  have e : (bys l).toList = encs (fun n : Nat => Value.int .u8 (n : Int)) l := by simp [bys, encs]
  rw [e]
  exact seK.K_of_M h2
theorem seK_mkM {w : World} {base : Nat} {ok : Nat → Prop} {l : List Nat} (h : l.length = 64) : seK.M w base ok l (bys l).toList := by
  have h2 : seK.M w base ok l (encs (fun n : Nat => Value.int .u8 (n : Int)) l) := Kd.arr_of_cells h
  have e : (bys l).toList = encs (fun n : Nat => Value.int .u8 (n : Int)) l := by simp [bys, encs]
  rw [e]
  exact h2

theorem add_add (ad : Addr) (i j : Nat) : (ad.add i).add j = ad.add (i + j) := by
  unfold Addr.add
  by_cases hi : i = 0
  · subst hi; simp
  · by_cases hj : j = 0
    · subst hj; simp
    · simp [hi, hj, Nat.add_assoc]

/-- Sector i of a list. -/
theorem at_sec {w : World} {A : Option Addr} {n : Nat} {L : List (List Nat)} (h : Kd.C seK w A n L) {i : Nat} (hi : i < n) :
    ∃ ad, A = some ad ∧ (L.getD i []).length = 64 ∧ ∀ j v, (bys (L.getD i []))[j]? = some v → w.cell? ((ad.add (i * 64)).add j) = some v := by
  obtain ⟨ad, c, e, _, hK, hc⟩ := Kd.C_get h [] (i : Int) (by omega) (by omega)
  obtain ⟨h1, h2⟩ := seK_open hK
  refine ⟨ad, e, h1, fun j v hv => ?_⟩
  rw [add_add]
  refine hc j v ?_
  rw [h2]
  simpa using hv
theorem sec_head {w : World} {A : Option Addr} {n : Nat} {L : List (List Nat)} (h : Kd.C seK w A n L) (hn : 0 < n) : ∃ ad, A = some ad := by
  obtain ⟨ad, e, _⟩ := at_sec h hn
  exact ⟨ad, e⟩
theorem agg23 (w : World) : (isAgg 23).run Try.prog w = .ok true w := agg_of T23.hu rfl w
/-- Sector i of a list is read. -/
theorem exec_sec {o : Oper} {a : Act} {x : Operand} {w : World} {ad : Addr} {n : Nat} {L : List (List Nat)} {i : Nat} {d : List Nat} (h : Kd.C seK w (some ad) n L) (hi : i < n) (hd : d = L.getD i []) (ho : o.op = .load 23 x) (hx : a.eval x = .pointer (some (ad.add (i * 64)))) :
    (execOp a.eval o).run Try.prog w = .ok (.value (.agg (bys d))) w := by
  subst hd
  obtain ⟨ad', e, hl, hc⟩ := at_sec h hi
  injection e with e
  subst e
  exact exec_row agg23 (by rw [bys_size, hl]; exact T23.hi) ho hx hc
theorem len_C {w : World} {A : Option Addr} {n : Nat} {L : List (List Nat)} (h : Kd.C seK w A n L) : L.length = n := h.1
theorem le_C {w : World} {A : Option Addr} {n : Nat} {L : List (List Nat)} (h : Kd.C seK w A n L) : n ≤ 9223372036854775807 := h.2.1
/-- All are sectors. -/
def Secs (L : List (List Nat)) : Prop := ∀ l ∈ L, Sec l
theorem Secs.at {L : List (List Nat)} (h : Secs L) {i : Nat} (hi : i < L.length) : Sec (L.getD i []) := by
  rw [List.getD_eq_getElem?_getD, List.getElem?_eq_getElem hi]
  exact h _ (List.getElem_mem hi)

/-- Two sectors compared. -/
theorem exec_eq23 {o : Oper} {a : Act} {x y : Operand} {w : World} {l m : List Nat} {b : Bool} {tt : TypeId} (ho : o.op = .binOp .eql 23 x y tt) (hx : a.eval x = .agg (bys l)) (hy : a.eval y = .agg (bys m)) (hl : l.length = 64) (hm : m.length = 64) (hv : decide (l = m) = b) :
    (execOp a.eval o).run Try.prog w = .ok (.value (.bool b)) w := by rw [← hv]; exact exec_eql T23 cells5 guard23 ho hx hy hl hm
theorem exec_ne23 {o : Oper} {a : Act} {x y : Operand} {w : World} {l m : List Nat} {b : Bool} {tt : TypeId} (ho : o.op = .binOp .neq 23 x y tt) (hx : a.eval x = .agg (bys l)) (hy : a.eval y = .agg (bys m)) (hl : l.length = 64) (hm : m.length = 64) (hv : (!decide (l = m)) = b) :
    (execOp a.eval o).run Try.prog w = .ok (.value (.bool b)) w := by rw [← hv]; exact exec_neq T23 cells5 guard23 ho hx hy hl hm
/-! ### lists of one's own -/
theorem bys_len (l : List Nat) : (bys l).toList.length = l.length := by rw [bys_toList]; simp only [List.length_map]
theorem flatten_size : ∀ {L : List (List Nat)}, (∀ l ∈ L, l.length = 64) → L.flatten.length = L.length * 64
  | [], _ => rfl
  | l :: L, h => by
    have h1 := flatten_size (L := L) (fun x hx => h x (List.mem_cons_of_mem _ hx))
    have h2 := h l List.mem_cons_self
    simp only [List.flatten_cons, List.length_append, List.length_cons]
    omega
theorem flatten_get : ∀ {L : List (List Nat)}, (∀ l ∈ L, l.length = 64) → ∀ {i j : Nat}, i < L.length → j < 64 → L.flatten[i * 64 + j]? = (L.getD i [])[j]?
  | [], _, i, j, hi, _ => absurd hi (Nat.not_lt_zero _)
  | l :: L, h, i, j, hi, hj => by
    have h2 := h l List.mem_cons_self
    cases i with
    | zero =>
      simp only [List.flatten_cons]
      rw [List.getElem?_append_left (by omega)]
      simp
    | succ i =>
      have h1 := flatten_get (L := L) (fun x hx => h x (List.mem_cons_of_mem _ hx)) (i := i) (j := j) (by simpa using hi) hj
      simp only [List.flatten_cons]
      rw [List.getElem?_append_right (by omega), show (i + 1) * 64 + j - l.length = i * 64 + j by omega, h1]
      simp
theorem bys_flatten (L : List (List Nat)) : (bys L.flatten).toList = L.flatMap (fun l => (bys l).toList) := by
  induction L with
  | nil => rfl
  | cons l L ih =>
    rw [List.flatten_cons, bys_append, List.flatMap_cons, ← ih]
    simp
/-- Sectors in a block, from its head on. -/
theorem C_block {W : World} {g : Nat} {L : List (List Nat)} {sp : Array Value} {t : TypeId} (hb : W.heap[g]? = some (.cells (bys L.flatten ++ sp) t (0, 0))) (hL : ∀ l ∈ L, l.length = 64) (hn : L.length ≤ 9223372036854775807) :
    Kd.C seK W (some ⟨g, 0, none⟩) L.length L := by
  refine ⟨rfl, hn, fun _ => ⟨_, rfl, fun j p hp => ?_⟩⟩
  obtain ⟨hj, rfl⟩ := List.getElem?_eq_some_iff.1 hp
  have hl : L[j].length = 64 := hL _ (List.getElem_mem hj)
  refine ⟨(bys L[j]).toList, by rw [bys_len]; exact hl, seK_mk hl, fun i u hu => ?_⟩
  have hi : i < 64 := by
    have := (List.getElem?_eq_some_iff.1 hu).1
    rw [bys_toList] at this
    simpa [hl] using this
  have hfs := flatten_size hL
  have hlt : j * 64 + i < L.flatten.length := by
    have : (j + 1) * 64 ≤ L.length * 64 := Nat.mul_le_mul_right _ hj
    omega
  have hfg := flatten_get hL hj hi
  rw [show seK.sz = 64 from rfl, Sc.add_plain, cell_of_row W g _ _ _ _ hb, Nat.zero_add]
  rw [Array.getElem?_append_left (by rw [bys_size]; exact hlt), bys_get hlt]
  rw [Array.getElem?_toList, bys_get (by omega)] at hu
  rw [← hu, List.getD_eq_getElem?_getD, hfg, List.getD_eq_getElem?_getD, List.getD_eq_getElem?_getD, List.getElem?_eq_getElem hj]
  rfl
theorem C_block0 {W : World} {g : Nat} {L : List (List Nat)} {t : TypeId} (hb : W.heap[g]? = some (.cells (bys L.flatten) t (0, 0))) (hL : ∀ l ∈ L, l.length = 64) (hn : L.length ≤ 9223372036854775807) :
    Kd.C seK W (some ⟨g, 0, none⟩) L.length L := C_block (sp := #[]) (by simpa using hb) hL hn

theorem C_lit {W : World} {g m : Nat} {L : List (List Nat)} {t : TypeId} (hb : W.heap[g]? = some (.cells (bys L.flatten) t (0, 0))) (hL : (∀ l ∈ L, l.length = 64) ∧ L.length = m ∧ m ≤ 9223372036854775807) :
    Kd.C seK W (some ⟨g, 0, none⟩) m L := by
  obtain ⟨h1, rfl, h3⟩ := hL
  exact C_block0 hb h1 h3
theorem info23 : ∃ i, Try.prog.info? 23 = some i ∧ i.zero = some (.agg (bys zeros)) ∧ i.size = 64 ∧ i.bytes = 64 := by
  have h : (Try.prog.info? 23).map (fun i => (i.zero, i.size, i.bytes)) = some (some (.agg (bys zeros)), 64, 64) := by kernel_rfl
  obtain ⟨i, hi, he⟩ := Option.map_eq_some_iff.1 h
  simp only [Prod.mk.injEq] at he
  exact ⟨i, hi, he.1, he.2.1, he.2.2⟩
theorem under33 : Try.prog.underlying 33 = some (.slice 23) := by kernel_rfl

/-- A literal of sectors. -/
theorem exec_lit {o : Oper} {a : Act} {w : World} {m : Nat} {parts : Array (Nat × Operand)} (L : List (List Nat)) (hL : ∀ l ∈ L, l.length = 64) (ho : o.op = .buildSlice 33 m parts) (hm : L.length = m) (h0 : 0 < m) (hm2 : m ≤ 1000)
    (hp : parts.toList.map (fun p => (p.1, a.eval p.2)) = ((L.map fun l => Value.agg (bys l)).zipIdx 0).map fun x => (x.2, x.1)) :
    (execOp a.eval o).run Try.prog w = .ok (.value (.slice (some ⟨w.heap.size, 0, none⟩) m m)) (w.alloc (.cells (bys L.flatten) 23 (0, 0))) := by
  obtain ⟨i, hi, hz, hs, _⟩ := info23
  have hfw := Great.fill_whole (s := 64) (by decide) (L.map fun l => Value.agg (bys l)) ((Array.range (m * 64)).map ((bys zeros)[· % (bys zeros).size]!)) (fun v hv => by
    obtain ⟨l, hl, rfl⟩ := List.mem_map.1 hv
    show (bys l).size = 64
    rw [bys_size, hL l hl]) (by simp [hm])
  have hfl : ((L.map fun l => Value.agg (bys l)).flatMap fun v => v.cells.toList).toArray = bys L.flatten := by
    apply Array.ext'
    rw [bys_flatten, List.flatMap_map]
    rfl
  rw [hfl] at hfw
  have hr := run_buildSlice (P := Try.prog) w 33 23 m (parts.map fun (i, x) => (i, a.eval x)) (bys L.flatten) i (.agg (bys zeros)) under33 hi hz (by rw [hs]; omega) (by rw [hs]; omega) (by rw [Array.toList_map, show parts.toList.map (fun (i, x) => (i, a.eval x)) = parts.toList.map (fun p => (p.1, a.eval p.2)) from rfl, hp, hs]; exact hfw)
  unfold execOp
  simp [ho, hr]

section
variable {P : Program} {ops : Array Oper} {rest : List Oper} {o : Oper} {a : Act} {Q : Exit → Act → World → Prop}
/-- What makes a new list, as an event. -/
theorem lit_event {W : World} (hgd : o.guard = none) {N : Tmp} (_hd : o.dst = some N) {cs : Array Value} {t m c : Nat}
    (hrun : (execOp a.eval o).run P W = .ok (.value (.slice (some ⟨W.heap.size, 0, none⟩) m c)) (W.alloc (.cells cs t (0, 0))))
    (h : ∀ g, g = W.heap.size → ∀ w1, w1.heap[g]? = some (.cells cs t (0, 0)) → Below W.heap.size W w1 → wpList P ops Q rest (a.put o.dst (.slice (some ⟨g, 0, none⟩) m c)) w1) : wpList P ops Q (o :: rest) a W :=
  Kd.event_run hgd hrun (h _ rfl _ (blk_new W _) (below_alloc (Below.refl _ _) _))
end
/-- A list of one's own. -/
def Own (W : World) (base : Nat) (v : Value) (L : List (List Nat)) : Prop := (∀ l ∈ L, l.length = 64) ∧ W.ownsRow base 23 64 v L.length (bys L.flatten).toList
theorem Own.lens {W : World} {base : Nat} {v : Value} {L : List (List Nat)} (h : Own W base v L) : ∀ l ∈ L, l.length = 64 := h.1
theorem Own.nil (W : World) (base : Nat) : Own W base (.slice none 0 0) [] := ⟨fun l hl => by simp at hl, by simp [bys]; exact own_nil _ _ _ _⟩
theorem Own.form {W : World} {base : Nat} {v : Value} {L : List (List Nat)} (h : Own W base v L) : (v = .slice none 0 0 ∧ L = []) ∨
    ∃ g cap sp, v = .slice (some ⟨g, 0, none⟩) L.length cap ∧ base ≤ g ∧ W.heap[g]? = some (.cells (bys L.flatten ++ sp) 23 (0, 0)) ∧ L.length ≤ cap ∧ cap ≤ 9223372036854775807 ∧ sp.size = (cap - L.length) * 64 := by
  rcases h.2.2 with ⟨h1, h2⟩ | ⟨g, cap, cur, h1, h2, h3, h4, h5, h6, h7⟩
  · exact .inl ⟨h1, List.eq_nil_of_length_eq_zero h2⟩
  · refine .inr ⟨g, cap, (cur.toList.drop (L.length * 64)).toArray, h1, h2, ?_, h4, by simpa [maxLen] using h5, ?_⟩
    · rw [h3]
      congr 2
      apply Array.ext'
      rw [Array.toList_append, ← h7]
      simp
    · simp only [List.size_toArray, List.length_drop, Array.length_toList, h6]
      rw [Nat.sub_mul]
theorem Own.of_block {W : World} {base g cap : Nat} {L : List (List Nat)} {sp : Array Value} (hL : ∀ l ∈ L, l.length = 64) (hg : base ≤ g) (hb : W.heap[g]? = some (.cells (bys L.flatten ++ sp) 23 (0, 0))) (hc : L.length ≤ cap) (hm : cap ≤ 9223372036854775807) (hs : sp.size = (cap - L.length) * 64) :
    Own W base (.slice (some ⟨g, 0, none⟩) L.length cap) L := by
  have hf := flatten_size hL
  refine ⟨hL, by rw [bys_len]; exact hf, .inr ⟨g, cap, _, rfl, hg, hb, hc, by simpa [maxLen] using hm, ?_, ?_⟩⟩
  · rw [Array.size_append, bys_size, hf, hs, ← Nat.add_mul]
    congr 1
    omega
  · rw [Array.toList_append, List.take_append_of_le_length (by rw [bys_len, hf]; exact Nat.le_refl _)]
    exact List.take_of_length_le (by rw [bys_len, hf]; exact Nat.le_refl _)
theorem Own.reads {W : World} {base : Nat} {v : Value} {L : List (List Nat)} (h : Own W base v L) : ∃ A c, v = .slice A L.length c ∧ L.length ≤ c ∧ c ≤ 9223372036854775807 ∧ Kd.C seK W A L.length L := by
  rcases h.form with ⟨rfl, rfl⟩ | ⟨g, cap, sp, rfl, _, hb, hc, hm, _⟩
  · exact ⟨none, 0, rfl, Nat.le_refl _, by decide, rfl, by decide, fun hn => absurd hn (by decide)⟩
  · exact ⟨_, cap, rfl, hc, hm, C_block hb h.1 (by omega)⟩
/-- append of sectors. -/
theorem run_append {W : World} {base : Nat} {v : Value} {L M : List (List Nat)} {A : Option Addr} {m c : Nat} {ty : TypeId} (HO : Own W base v L) (HC : Kd.C seK W A m M) (hbase : base ≤ W.heap.size) (hl : (L.length + m) * 64 ≤ 140737488355328) :
    ∃ v1 w1, (Builtin.append_ #[33, 33] ty #[v, .slice A m c]).run Try.prog W = .ok v1 w1 ∧ Own w1 base v1 (L ++ M) ∧ W.grownBy w1 v.ownBlock ∧ (v1.ownBlock = v.ownBlock ∨ ∃ b, v1.ownBlock = some b ∧ W.heap.size ≤ b) := by
  obtain ⟨i0, hi, hz0, hz1, hz2⟩ := info23
  have hm : M.length = m := HC.1
  have hML : ∀ l ∈ M, l.length = 64 := fun l hl' => by
    obtain ⟨j, hj, rfl⟩ := List.getElem_of_mem hl'
    have := (at_sec HC (i := j) (by omega)).choose_spec.2.1
    rwa [List.getD_eq_getElem?_getD, List.getElem?_eq_getElem hj] at this
  rcases A with _ | ad
  · have h0 : m = 0 := by
      rcases Nat.eq_zero_or_pos m with h0 | h0
      · exact h0
      · obtain ⟨ad, h⟩ := sec_head HC h0
        cases h
    subst h0
    obtain rfl : M = [] := List.eq_nil_of_length_eq_zero hm
    refine ⟨v, W, ?_, by rw [List.append_nil]; exact HO, World.grownBy.refl W _, .inl rfl⟩
    rcases HO.2.2 with ⟨rfl, hn⟩ | ⟨g, cap, cur, rfl, _, _, hnc, _⟩
    · simp [Builtin.append_, run_underlying under33, sizeOf, typeInfo, hi, Builtin.lenOf, Builtin.firstCells]
    · simp [Builtin.append_, run_underlying under33, sizeOf, typeInfo, hi, Builtin.lenOf, Builtin.firstCells, hnc, storeCells]
  · obtain ⟨v1, w1, hrun, h2, hg, _, hat⟩ := run_append_own_at (P := Try.prog) W base 33 ty 23 i0 (.agg (bys zeros)) 64 64 under33 hi hz0 hz1 hz2 (by show (bys zeros).size = 64; rw [bys_size, zeros_length]) (by decide) v L.length _ HO.2 ad m c (bys M.flatten).toList
      (by rw [bys_len, flatten_size hML, hm]) (fun j u hu => by
        have hj : j < M.flatten.length := by
          have := (List.getElem?_eq_some_iff.1 hu).1
          rwa [bys_len] at this
        rw [flatten_size hML] at hj
        have hq : j / 64 < M.length := by omega
        obtain ⟨ad', e, hl64, hc⟩ := at_sec HC (i := j / 64) (by omega)
        injection e with e
        subst e
        have hfg := flatten_get hML hq (Nat.mod_lt j (by decide : 0 < 64))
        have hj' : j / 64 * 64 + j % 64 = j := by omega
        have := hc (j % 64) u (by
          rw [Array.getElem?_toList, bys_get (by rw [flatten_size hML]; exact hj), List.getD_eq_getElem?_getD, ← hj', hfg] at hu
          rw [bys_get (by rw [hl64]; exact Nat.mod_lt j (by decide)), List.getD_eq_getElem?_getD]
          exact hu)
        rwa [add_add, hj'] at this)
      (fun u hu => (Array.all_eq_true_iff_forall_mem.1 (bys_one M.flatten)) u (by simpa using hu)) (by simp only [maxLen]; omega) hl hbase
    refine ⟨v1, w1, hrun, ⟨fun l hl' => ?_, ?_⟩, hg, ?_⟩
    · rcases List.mem_append.1 hl' with h | h
      · exact HO.1 l h
      · exact hML l h
    · rw [List.flatten_append, bys_append, List.length_append, hm]
      simpa using h2
    · rcases hat with hat | hat
      · exact .inl hat
      · exact .inr ⟨_, hat, Nat.le_refl _⟩
section
variable {ops : Array Oper} {rest : List Oper} {o : Oper} {a : Act} {Q : Exit → Act → World → Prop}
theorem append_event {W : World} (base : Nat) (hgd : o.guard = none) {N : Tmp} (_hd : o.dst = some N) {s x : Operand} (ho : o.op = .call { callee := .builtin .append, args := #[s, x], argTypes := #[33, 33] })
    {v : Value} {L M : List (List Nat)} {A : Option Addr} {m c : Nat} (hs : a.eval s = v) (hx : a.eval x = .slice A m c) (HO : Own W base v L) (HC : Kd.C seK W A m M) (hbase : base ≤ W.heap.size) (hl : (L.length + m) * 64 ≤ 140737488355328)
    (h : ∀ v1 w1, Own w1 base v1 (L ++ M) → W.grownBy w1 v.ownBlock → (v1.ownBlock = v.ownBlock ∨ ∃ b, v1.ownBlock = some b ∧ W.heap.size ≤ b) → wpList Try.prog ops Q rest (a.put o.dst v1) w1) : wpList Try.prog ops Q (o :: rest) a W := by
  obtain ⟨v1, w1, hr1, h1, hg, hat⟩ := run_append (c := c) (ty := o.type) HO HC hbase hl
  refine wpList_plain hgd fun K hK => ?_
  unfold Oper.wp execOp
  simp only [ho, resolve, invoke, builtin, Sem.run_bind, Sem.run_pure, Result.andThen_ok, List.map_toArray, List.map_cons, List.map_nil, hs, hx, hr1]
  exact hK _ _ (h v1 w1 h1 hg hat)
end
end Go.Proofs.Ytonjgbcibjnpoaa.Ss
