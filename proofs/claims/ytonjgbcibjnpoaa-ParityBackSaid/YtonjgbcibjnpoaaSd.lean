/- Loads and stores of whole values and of parts, in blocks of any cells. -/
import Derived.Test.YtonjgbcibjnpoaaSc
namespace Go.Proofs.Ytonjgbcibjnpoaa.Sd
open Go.RowKit Go.Proofs.YtonjgbcibjnpoaaW.PrintWords Go.Proofs.Ytonjgbcibjnpoaa.Sc
variable {P : Program} {t e n : Nat} {o : Oper} {a : Act} {w : World} {x y : Operand}

/-- Cells with others in them. -/
def putc (cs : Array Value) (off : Nat) (ds : Array Value) : Array Value := (cs.toList.take off ++ ds.toList ++ cs.toList.drop (off + ds.size)).toArray
theorem putc_size {cs ds : Array Value} {off : Nat} (h : off + ds.size ≤ cs.size) : (putc cs off ds).size = cs.size := by
  unfold putc; simp; omega
theorem putc_all {cs ds : Array Value} (h : cs.size = ds.size) : putc cs 0 ds = ds := by
  unfold putc
  rw [show cs.toList.drop (0 + ds.size) = [] from List.drop_of_length_le (by simp; omega)]
  simp
theorem putc_bys {l m : List Nat} {off : Nat} : putc (bys l) off (bys m) = bys (into l off m) := by
  unfold putc into
  simp [bys, List.map_take, List.map_drop]
theorem into_one {l : List Nat} {k x : Nat} (h : k < l.length) : into l k [x] = l.set k x := by
  unfold into
  rw [List.set_eq_take_append_cons_drop, if_pos h]
  simp
theorem putc_byte {l : List Nat} {k x : Nat} (h : k < l.length) : putc (bys l) k #[.int .u8 (x : Int)] = bys (l.set k x) := by
  rw [← into_one h, ← putc_bys]
  rfl

theorem one_int {k : IntKind} {z : Int} : (Value.int k z).cells.all (·.oneCell') = true := by simp [Value.cells, Value.oneCell']
theorem one_agg {l : List Nat} : (Value.agg (bys l)).cells.all (·.oneCell') = true := bys_one l
/-- A store. -/
theorem exec_put {g off : Nat} {cs cs' : Array Value} {v : Value} {tt : TypeId} (hs : (P.info? t).map (·.size) = some n) (ho : o.op = .store t x y) (hx : a.eval x = .pointer (some ⟨g, off, none⟩)) (hy : a.eval y = v)
    (hv : v.cells.size = n) (h1 : v.cells.all (·.oneCell') = true) (hb : w.heap[g]? = some (.cells cs tt (0, 0))) (hl : off + n ≤ cs.size) (he : putc cs off v.cells = cs') :
    (execOp a.eval o).run P w = .ok .skip (w.setRow g cs') := by
  have h2 := run_storeCells_at P g off tt v.cells.toList 0 cs w hb (by simp; omega) (fun u hu => (Array.all_eq_true_iff_forall_mem.1 h1) u (by simpa using hu))
  have h3 : (sizeOf t).run P w = .ok n w := by
    cases hq : P.info? t with
    | none => simp [hq] at hs
    | some i =>
      have hs' : i.size = n := by simpa [hq] using hs
      simp [sizeOf, typeInfo, hq, hs']
  rw [← he]
  unfold execOp
  simp only [Nat.add_zero] at h2
  simp [ho, hx, hy, Instr.storeAt, Instr.sureAddr, storeVar, h3, hv, h2, putc]

/-- A load of a value of one cell. -/
theorem exec_one {tb : TypeId} {ad : Addr} {v : Value} (htb : ∀ w, (isAgg tb).run P w = .ok false w) (ho : o.op = .load tb x) (hx : a.eval x = .pointer (some ad)) (hc : w.cell? ad = some v) :
    (execOp a.eval o).run P w = .ok (.value v) w := by
  unfold execOp
  simp [ho, hx, Instr.loadAt, Instr.sureAddr, loadVar, htb, hc]

/-- A load of a value of several cells. -/
theorem exec_row {ad : Addr} {cs : Array Value} (hag : ∀ w, (isAgg t).run P w = .ok true w) (hs : (P.info? t).map (·.size) = some cs.size) (ho : o.op = .load t x) (hx : a.eval x = .pointer (some ad))
    (hc : ∀ j v, cs[j]? = some v → w.cell? (ad.add j) = some v) : (execOp a.eval o).run P w = .ok (.value (.agg cs)) w := by
  have h3 : (sizeOf t).run P w = .ok cs.size w := by
    cases hq : P.info? t with
    | none => simp [hq] at hs
    | some i =>
      have hs' : i.size = cs.size := by simpa [hq] using hs
      simp [sizeOf, typeInfo, hq, hs']
  have h1 : (loadCells ad cs.toList.length).run P w = .ok cs.toList.toArray w :=
    run_loadCells_list (P := P) w ad cs.toList (fun j v hv => hc j v (by simpa using hv))
  simp only [Array.length_toList] at h1
  unfold execOp
  simp [ho, hx, Instr.loadAt, Instr.sureAddr, loadVar, hag, h3, h1]

theorem agg_of {d : TypeDesc} (h : P.underlying t = some d) (hd : (match d with | .struct _ | .array _ _ => true | _ => false) = true) (w : World) : (isAgg t).run P w = .ok true w := by
  unfold isAgg
  rw [Sem.run_bind, run_underlying h w]
  cases d <;> simp_all
theorem agg_not {d : TypeDesc} (h : P.underlying t = some d) (hd : (match d with | .struct _ | .array _ _ => true | _ => false) = false) (w : World) : (isAgg t).run P w = .ok false w := by
  unfold isAgg
  rw [Sem.run_bind, run_underlying h w]
  cases d <;> simp_all

/-- Part of a block. -/
theorem exec_row_at {g off : Nat} {cs ds : Array Value} {tt : TypeId} (hag : ∀ w, (isAgg t).run P w = .ok true w) (hs : (P.info? t).map (·.size) = some n) (ho : o.op = .load t x) (hx : a.eval x = .pointer (some ⟨g, off, none⟩))
    (hb : w.heap[g]? = some (.cells cs tt (0, 0))) (hl : off + n ≤ cs.size) (he : cs.extract off (off + n) = ds) : (execOp a.eval o).run P w = .ok (.value (.agg ds)) w := by
  have hsz : ds.size = n := by rw [← he]; simp; omega
  refine exec_row hag (by rw [hs, hsz]) ho hx (fun j v hv => ?_)
  have hj : j < n := by
    have := Array.getElem?_eq_some_iff.1 hv
    obtain ⟨h, _⟩ := this
    omega
  rw [Sc.add_plain, cell_of_row w g (off + j) cs tt (0, 0) hb]
  rw [← he, Array.getElem?_extract] at hv
  rw [if_pos (by omega)] at hv
  exact hv
theorem exec_row_all {g : Nat} {cs : Array Value} {tt : TypeId} (hag : ∀ w, (isAgg t).run P w = .ok true w) (hs : (P.info? t).map (·.size) = some cs.size) (ho : o.op = .load t x) (hx : a.eval x = .pointer (some ⟨g, 0, none⟩))
    (hb : w.heap[g]? = some (.cells cs tt (0, 0))) : (execOp a.eval o).run P w = .ok (.value (.agg cs)) w :=
  exec_row_at hag hs ho hx hb (by omega) (by simp)

theorem bys_extract {l : List Nat} {off n : Nat} : (bys l).extract off (off + n) = bys (Sc.part l off n) := by
  unfold Sc.part bys
  apply Array.ext'
  simp [List.map_take, List.map_drop]
end Go.Proofs.Ytonjgbcibjnpoaa.Sd
