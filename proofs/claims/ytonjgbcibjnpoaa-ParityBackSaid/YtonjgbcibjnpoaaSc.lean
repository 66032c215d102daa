/- Arrays of bytes in memory: loads, stores, boxes and comparisons of whole ones. -/
import Derived.Laws.Rows
import Derived.Laws.CopyRow
import Derived.Laws.StructEq
import Derived.ChangeKeysEq
import Derived.WalkKit
import Derived.Test.YtonjgbcibjnpoaaWWords
namespace Go.Proofs.Ytonjgbcibjnpoaa.Sc
open Go.RowKit Go.Proofs.YtonjgbcibjnpoaaW.PrintWords

/-- Bytes as cells. -/
def bys (l : List Nat) : Array Value := (l.map (fun n : Nat => Value.int .u8 (n : Int))).toArray
theorem bys_size (l : List Nat) : (bys l).size = l.length := by simp [bys]
theorem bys_toList (l : List Nat) : (bys l).toList = l.map (fun n : Nat => Value.int .u8 (n : Int)) := by simp [bys]
theorem bys_get {l : List Nat} {i : Nat} (h : i < l.length) : (bys l)[i]? = some (.int .u8 ((l.getD i 0 : Nat) : Int)) := by
  simp [bys, h, List.getD_eq_getElem?_getD]
theorem bys_set (l : List Nat) (i x : Nat) : (bys l).setIfInBounds i (.int .u8 (x : Int)) = bys (l.set i x) := by
  unfold bys
  rw [List.map_set]
  simp
theorem bys_one (l : List Nat) : (bys l).all (·.oneCell') = true := by
  rw [Array.all_eq_true_iff_forall_mem]
  intro v hv
  simp only [bys, List.mem_toArray, List.mem_map] at hv
  obtain ⟨n, _, rfl⟩ := hv
  rfl
theorem bys_inj {l m : List Nat} (h : bys l = bys m) : l = m := by
  have h' := congrArg Array.toList h
  rw [bys_toList, bys_toList] at h'
  apply List.ext_getElem?
  intro i
  have := congrArg (fun q : List Value => q[i]?) h'
  simp only [List.getElem?_map] at this
  cases hl : l[i]? with
  | none => cases hm : m[i]? with
    | none => rfl
    | some b => simp [hl, hm] at this
  | some a => cases hm : m[i]? with
    | none => simp [hl, hm] at this
    | some b =>
      have h3 : a = b := by simp [hl, hm] at this; omega
      rw [h3]
theorem bys_append (l m : List Nat) : bys (l ++ m) = bys l ++ bys m := by simp [bys]

/-- The array type's rows of the table. -/
structure ArrTy (P : Program) (t e n : Nat) : Prop where
  hu : P.underlying t = some (.array n e)
  he : P.underlying e = some (.int .u8)
  hi : (P.info? t).map (·.size) = some n
  hie : (P.info? e).map (·.size) = some 1

variable {P : Program} {t e n : Nat}

theorem ArrTy.size_run (T : ArrTy P t e n) (w : World) : (sizeOf t).run P w = .ok n w := by
  have hi := T.hi
  cases hq : P.info? t with
  | none => simp [hq] at hi
  | some i =>
    have hs : i.size = n := by simpa [hq] using hi
    simp [sizeOf, typeInfo, hq, hs]
theorem ArrTy.agg_run (T : ArrTy P t e n) (w : World) : (isAgg t).run P w = .ok true w := by
  unfold isAgg
  rw [Sem.run_bind, run_underlying T.hu w]
  rfl

theorem add_plain (g o i : Nat) : (⟨g, o, none⟩ : Addr).add i = ⟨g, o + i, none⟩ := by
  unfold Addr.add; split <;> simp_all

/-- A whole array read. -/
theorem run_load (T : ArrTy P t e n) {w : World} {ad : Addr} {l : List Nat} (hl : l.length = n) (hc : ∀ j, j < n → w.cell? (ad.add j) = some (.int .u8 ((l.getD j 0 : Nat) : Int))) :
    (loadVar t ad).run P w = .ok (.agg (bys l)) w := by
  have h1 : (loadCells ad (bys l).toList.length).run P w = .ok (bys l).toList.toArray w :=
    run_loadCells_list (P := P) w ad (bys l).toList (fun j v hv => by
      have hj : j < l.length := by
        have := List.getElem?_eq_some_iff.1 hv
        obtain ⟨h, _⟩ := this
        rw [bys_toList] at h
        simpa using h
      rw [hc j (by omega)]
      rw [Array.getElem?_toList, bys_get hj] at hv
      exact hv)
  have h2 : (bys l).toList.length = n := by rw [bys_toList]; simpa using hl
  rw [h2, Array.toArray_toList] at h1
  simp [loadVar, Sem.run_bind, T.agg_run, T.size_run, h1]

section
variable {o : Oper} {a : Act} {w : World} {x y : Operand}

theorem exec_load (T : ArrTy P t e n) {ad : Addr} {l : List Nat} (ho : o.op = .load t x) (hx : a.eval x = .pointer (some ad)) (hl : l.length = n)
    (hc : ∀ j, j < n → w.cell? (ad.add j) = some (.int .u8 ((l.getD j 0 : Nat) : Int))) : (execOp a.eval o).run P w = .ok (.value (.agg (bys l))) w := by
  unfold execOp
  simp only [ho, hx, Instr.loadAt, Instr.sureAddr, Sem.run_bind, Sem.run_pure, Result.andThen_ok, run_load T hl hc]

/-- A part of a block of bytes. -/
def part (l : List Nat) (off n : Nat) : List Nat := (l.drop off).take n
theorem part_length {l : List Nat} {off n : Nat} (h : off + n ≤ l.length) : (part l off n).length = n := by
  unfold part; rw [List.length_take, List.length_drop]; omega
theorem part_get {l : List Nat} {off n j : Nat} (hj : j < n) : (part l off n).getD j 0 = l.getD (off + j) 0 := by
  unfold part
  rw [List.getD_eq_getElem?_getD, List.getD_eq_getElem?_getD, List.getElem?_take_of_lt hj, List.getElem?_drop]
theorem part_all (l : List Nat) : part l 0 l.length = l := by unfold part; simp

theorem cell_bys {g off : Nat} {l : List Nat} {tt : TypeId} (hb : w.heap[g]? = some (.cells (bys l) tt (0, 0))) (h : off < l.length) : w.cell? ⟨g, off, none⟩ = some (.int .u8 ((l.getD off 0 : Nat) : Int)) := by
  rw [cell_of_row w g off (bys l) tt (0, 0) hb, bys_get h]

/-- A whole array read out of a block of bytes. -/
theorem exec_load_part (T : ArrTy P t e n) {g off : Nat} {l : List Nat} {tt : TypeId} (ho : o.op = .load t x) (hx : a.eval x = .pointer (some ⟨g, off, none⟩)) (hb : w.heap[g]? = some (.cells (bys l) tt (0, 0)))
    (hl : off + n ≤ l.length) : (execOp a.eval o).run P w = .ok (.value (.agg (bys (part l off n)))) w :=
  exec_load T ho hx (part_length hl) (fun j hj => by rw [add_plain, cell_bys hb (by omega), part_get hj])
theorem exec_load_all (T : ArrTy P t e n) {g : Nat} {l : List Nat} {tt : TypeId} (ho : o.op = .load t x) (hx : a.eval x = .pointer (some ⟨g, 0, none⟩)) (hb : w.heap[g]? = some (.cells (bys l) tt (0, 0)))
    (hl : l.length = n) : (execOp a.eval o).run P w = .ok (.value (.agg (bys l))) w := by
  have h := exec_load_part T ho hx hb (by omega)
  subst hl
  rwa [part_all] at h

/-- A block of bytes with another array in it. -/
def into (l : List Nat) (off : Nat) (m : List Nat) : List Nat := l.take off ++ m ++ l.drop (off + m.length)
theorem into_length {l m : List Nat} {off : Nat} (h : off + m.length ≤ l.length) : (into l off m).length = l.length := by
  unfold into; simp; omega
theorem into_all {l m : List Nat} (h : l.length = m.length) : into l 0 m = m := by
  unfold into; simp [← h]

theorem run_store_cells {g off : Nat} {l m : List Nat} {tt : TypeId} (hb : w.heap[g]? = some (.cells (bys l) tt (0, 0))) (h : off + m.length ≤ l.length) :
    (storeCells ⟨g, off, none⟩ (bys m).toList).run P w = .ok () (w.setRow g (bys (into l off m))) := by
  have h1 := run_storeCells_at P g off tt (bys m).toList 0 (bys l) w hb (by rw [bys_toList, bys_size]; simpa using h)
    (fun v hv => (Array.all_eq_true_iff_forall_mem.1 (bys_one m)) v (by simpa using hv))
  rw [h1]
  congr 2
  unfold into
  simp [bys, List.map_take, List.map_drop]

/-- A whole array written into a block of bytes. -/
theorem exec_store (T : ArrTy P t e n) {g off : Nat} {l m : List Nat} {tt : TypeId} (ho : o.op = .store t x y) (hx : a.eval x = .pointer (some ⟨g, off, none⟩)) (hy : a.eval y = .agg (bys m))
    (hb : w.heap[g]? = some (.cells (bys l) tt (0, 0))) (hm : m.length = n) (hl : off + n ≤ l.length) : (execOp a.eval o).run P w = .ok .skip (w.setRow g (bys (into l off m))) := by
  have h1 := run_store_cells (P := P) (off := off) hb (m := m) (by omega)
  have h2 : (bys m).size = n := by rw [bys_size, hm]
  unfold execOp
  simp [ho, hx, hy, Instr.storeAt, Instr.sureAddr, storeVar, T.size_run, Value.cells, h2, h1]
theorem exec_store_all (T : ArrTy P t e n) {g : Nat} {l m : List Nat} {tt : TypeId} (ho : o.op = .store t x y) (hx : a.eval x = .pointer (some ⟨g, 0, none⟩)) (hy : a.eval y = .agg (bys m))
    (hb : w.heap[g]? = some (.cells (bys l) tt (0, 0))) (hm : m.length = n) (hl : l.length = n) : (execOp a.eval o).run P w = .ok .skip (w.setRow g (bys m)) := by
  have h := exec_store T ho hx hy hb hm (by omega)
  rwa [into_all (by omega)] at h

/-- A new variable that holds an array. -/
theorem exec_box {cs : Array Value} (ho : o.op = .box t x) (hx : a.eval x = .agg cs) :
    (execOp a.eval o).run P w = .ok (.value (.pointer (some ⟨w.heap.size, 0, none⟩))) (w.alloc (.cells cs t (0, 0))) := by
  unfold execOp
  simp [ho, hx, Instr.box, newVar, newRow, Value.cells]

/-- A new variable. -/
theorem exec_alloc {z : Value} (ho : o.op = .alloc t) (hz : (P.info? t).map (·.zero) = some (some z)) :
    (execOp a.eval o).run P w = .ok (.value (.pointer (some ⟨w.heap.size, 0, none⟩))) (w.alloc (.cells z.cells t (0, 0))) := by
  unfold execOp
  cases hq : P.info? t with
  | none => simp [hq] at hz
  | some i =>
    have hi : i.zero = some z := by simpa [hq] using hz
    simp [ho, Instr.alloc, zeroValue, typeInfo, hq, hi, newVar, newRow]

theorem eqItems_run (T : ArrTy P t e n) (d : Nat) (l m : List Nat) (hce : P.cellsOf e = 1) : ∀ (is : List Nat), (∀ i ∈ is, i < l.length ∧ i < m.length) →
    (Op.eqItems (d + 1) e (P.cellsOf e) (bys l) (bys m) is).run P w = .ok (is.all fun i => l.getD i 0 == m.getD i 0) w
  | [], _ => by simp [Op.eqItems]
  | i :: is, h => by
    have ih := eqItems_run T d l m hce is (fun j hj => h j (by simp [hj]))
    obtain ⟨h1, h2⟩ := h i (by simp)
    have hna : (isAgg e).run P w = .ok false w := by
      unfold isAgg
      rw [Sem.run_bind, run_underlying T.he w]
      rfl
    have p1 : (Go.part e (bys l) (i * P.cellsOf e)).run P w = .ok (.int .u8 ((l.getD i 0 : Nat) : Int)) w := by
      simp [Go.part, hna, hce, bys_get h1]
    have p2 : (Go.part e (bys m) (i * P.cellsOf e)).run P w = .ok (.int .u8 ((m.getD i 0 : Nat) : Int)) w := by
      simp [Go.part, hna, hce, bys_get h2]
    have p3 : (Op.equalIn (d + 1) e (.int .u8 ((l.getD i 0 : Nat) : Int)) (.int .u8 ((m.getD i 0 : Nat) : Int))).run P w = .ok (((l.getD i 0 : Nat) : Int) == ((m.getD i 0 : Nat) : Int)) w := by
      simp [Op.equalIn, run_underlying T.he w]
    simp only [Op.eqItems, Sem.run_bind, p1, p2, p3, Result.andThen_ok]
    have e1 : (((l.getD i 0 : Nat) : Int) == ((m.getD i 0 : Nat) : Int)) = (l.getD i 0 == m.getD i 0) := by
      rw [Bool.eq_iff_iff, beq_iff_eq, beq_iff_eq]; omega
    rw [e1]
    cases hb : (l.getD i 0 == m.getD i 0)
    · simp only [Bool.not_false, if_true, Sem.run_pure, List.all_cons, hb, Bool.false_and]
    · simp only [Bool.not_true, Bool.false_eq_true, if_false, List.all_cons, hb, Bool.true_and]
      exact ih

theorem all_range {l m : List Nat} (hl : l.length = n) (hm : m.length = n) : ((List.range n).all fun i => l.getD i 0 == m.getD i 0) = decide (l = m) := by
  rw [Bool.eq_iff_iff, List.all_eq_true, decide_eq_true_iff]
  constructor
  · intro h
    apply List.ext_getElem (by omega)
    intro i h1 h2
    have := h i (List.mem_range.2 (by omega))
    simp only [beq_iff_eq, List.getD_eq_getElem?_getD, List.getElem?_eq_getElem h1, List.getElem?_eq_getElem h2, Option.getD_some] at this
    exact this
  · intro h i _
    rw [h]; simp

/-- Two arrays compared. -/
theorem exec_eql (T : ArrTy P t e n) {l m : List Nat} {tt : TypeId} (hce : P.cellsOf e = 1) (hg : P.eqGuardType P.depth t = false) (ho : o.op = .binOp .eql t x y tt) (hx : a.eval x = .agg (bys l)) (hy : a.eval y = .agg (bys m))
    (hl : l.length = n) (hm : m.length = n) : (execOp a.eval o).run P w = .ok (.value (.bool (decide (l = m)))) w := by
  have hie := T.hie
  obtain ⟨i, hi, _⟩ := Option.map_eq_some_iff.1 hie
  have h1 := run_equalIn_array (P := P) (w := w) 9999 (bys l) (bys m) T.hu hi
  have h2 := eqItems_run (w := w) T 9998 l m hce (List.range n) (fun j hj => by have := List.mem_range.1 hj; omega)
  rw [h2, all_range hl hm] at h1
  unfold execOp
  simp [ho, hx, hy, eqGuard, hg, binOp, Op.equal, Op.maxDepth, h1]
theorem exec_neq (T : ArrTy P t e n) {l m : List Nat} {tt : TypeId} (hce : P.cellsOf e = 1) (hg : P.eqGuardType P.depth t = false) (ho : o.op = .binOp .neq t x y tt) (hx : a.eval x = .agg (bys l)) (hy : a.eval y = .agg (bys m))
    (hl : l.length = n) (hm : m.length = n) : (execOp a.eval o).run P w = .ok (.value (.bool (!decide (l = m)))) w := by
  have hie := T.hie
  obtain ⟨i, hi, _⟩ := Option.map_eq_some_iff.1 hie
  have h1 := run_equalIn_array (P := P) (w := w) 9999 (bys l) (bys m) T.hu hi
  have h2 := eqItems_run (w := w) T 9998 l m hce (List.range n) (fun j hj => by have := List.mem_range.1 hj; omega)
  rw [h2, all_range hl hm] at h1
  unfold execOp
  simp [ho, hx, hy, eqGuard, hg, binOp, Op.equal, Op.maxDepth, h1]
end

/-! ### lists that are turned from the front on -/
def mix (r a : List Nat) (k : Nat) : List Nat := r.take k ++ a.drop k
theorem mix_zero (r a : List Nat) : mix r a 0 = a := by simp [mix]
theorem mix_full {r a : List Nat} {k : Nat} (h : r.length = k) (h' : a.length = k) : mix r a k = r := by
  unfold mix; rw [List.take_of_length_le (by omega), List.drop_of_length_le (by omega)]; simp
theorem mix_length {r a : List Nat} {k : Nat} (h : r.length = a.length) (hk : k ≤ a.length) : (mix r a k).length = a.length := by
  unfold mix; simp; omega
theorem mix_get {r a : List Nat} {k : Nat} (h : r.length = a.length) (hk : k < a.length) : (mix r a k).getD k 0 = a.getD k 0 := by
  unfold mix
  rw [List.getD_eq_getElem?_getD, List.getElem?_append_right (by simp; omega), List.getElem?_drop, List.length_take, List.getD_eq_getElem?_getD]
  congr 2
  omega
theorem mix_set {r a : List Nat} {k : Nat} (h : r.length = a.length) (hk : k < a.length) : (mix r a k).set k (r.getD k 0) = mix r a (k + 1) := by
  apply List.ext_getElem?
  intro i
  unfold mix
  rw [List.getElem?_set]
  by_cases hi : k = i
  · subst hi
    have hr : k < r.length := by omega
    rw [if_pos rfl, if_pos (by simp; omega), List.getElem?_append_left (by simp; omega), List.getElem?_take_of_lt (by omega), List.getD_eq_getElem?_getD, List.getElem?_eq_getElem hr, Option.getD_some]
  · rw [if_neg hi]
    by_cases hlt : i < k
    · rw [List.getElem?_append_left (by simp; omega), List.getElem?_append_left (by simp; omega), List.getElem?_take_of_lt hlt, List.getElem?_take_of_lt (by omega)]
    · rw [List.getElem?_append_right (by simp; omega), List.getElem?_append_right (by simp; omega), List.getElem?_drop, List.getElem?_drop]
      congr 1
      simp
      omega

/-! ### what blocks hold behind a write -/
theorem setRow_below {w W : World} {g : Nat} {cs : Array Value} (h : Below w.heap.size w W) (hg : w.heap.size ≤ g) : Below w.heap.size w (W.setRow g cs) :=
  h.trans ⟨rfl, rfl, rfl, by simp [World.setRow], fun k hk => setRow_other _ _ _ _ (by omega)⟩
theorem setRow_blk {W : World} {g : Nat} {old cs : Array Value} {t : TypeId} (h : W.heap[g]? = some (.cells old t (0, 0))) : (W.setRow g cs).heap[g]? = some (.cells cs t (0, 0)) := setRow_heap W g old cs t (0, 0) h
theorem setRow_far {W : World} {g k : Nat} {cs : Array Value} {ob : Obj} (h : W.heap[k]? = some ob) (hne : k ≠ g) : (W.setRow g cs).heap[k]? = some ob := (setRow_other W g k cs hne).trans h
theorem setCell_bys {W : World} {g i x : Nat} {l : List Nat} {t : TypeId} (h : W.heap[g]? = some (.cells (bys l) t (0, 0))) : (W.setCell ⟨g, i, none⟩ (.int .u8 (x : Int))).heap[g]? = some (.cells (bys (l.set i x)) t (0, 0)) := by
  have h1 := blk_set h i (.int .u8 (x : Int))
  rwa [bys_set] at h1
end Go.Proofs.Ytonjgbcibjnpoaa.Sc
