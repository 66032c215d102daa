import Derived.Test.YtonjgbcibjnpoaaPb
import Derived.Test.YtonjgbcibjnpoaaSd
import Derived.Test.YtonjgbcibjnpoaaSs
import Derived.Test.YtonjgbcibjnpoaaSr
import Derived.Test.YtonjgbcibjnpoaaPw
import Derived.Test.YtonjgbcibjnpoaaPf
import Derived.WalkSpells
import Derived.OpenShut
import Derived.Outline
import Derived.Lib.Hide
namespace Go.Proofs.Ytonjgbcibjnpoaa.Pw
open Go.RowKit Go.Proofs.YtonjgbcibjnpoaaW.PrintWords Go.Proofs.YtonjgbcibjnpoaaW.PrintLast Go.Proofs.YtonjgbcibjnpoaaW.PrintMore Go.Proofs.Ytonjgbcibjnpoaa.Gf Go.Proofs.Ytonjgbcibjnpoaa.Sc Go.Proofs.Ytonjgbcibjnpoaa.Pb Go.Proofs.Ytonjgbcibjnpoaa.Sd Go.Proofs.Ytonjgbcibjnpoaa.Ss Go.Proofs.Ytonjgbcibjnpoaa.Sr Go.Proofs.Ytonjgbcibjnpoaa.Pd Go.Proofs.Ytonjgbcibjnpoaa.Dv Go.Proofs.Ytonjgbcibjnpoaa.Sq
set_option linter.unusedVariables false
set_option linter.unusedSimpArgs false


theorem int_at {w : World} {A : Option Addr} {l : List Int} (h : ReadsInt w .i64 A l.length l) {i : Nat} (hi : i < l.length) : ∃ ad, A = some ad ∧ w.cell? (ad.add i) = some (.int .i64 (l.getD i 0)) := by
  obtain ⟨ad, e, hc⟩ := h.2.2 (by omega)
  exact ⟨ad, e, hc i hi⟩

theorem c_row {W : World} {g N : Nat} {S : List (List Nat)} {sp : Array Value} (hb : W.heap[g]? = some (.cells (bys S.flatten ++ sp) 23 (0, 0))) (hS : Secs S) (hl : S.length = N) (hN : N ≤ 100) : Kd.C seK W (some ⟨g, 0, none⟩) N S := by
  have h := C_block hb (fun l hl => (hS l hl).len) (by omega)
  rwa [hl] at h
theorem first_calls2 (A : Option Addr) (c m g n : Nat) (l : List Int) (w : World) (hn : n = l.length) (hR : ReadsInt w .i64 A l.length l) (hg : w.heap[g]? = some (.cells #[.int .i64 (m : Int)] 3 (0, 0))) :
    Calls Try.prog 35 #[.slice A n c, .func (.func 36) #[] #[.pointer (some ⟨g, 0, none⟩)]] w fun e w' => e = .returned (.int .i64 (Lib.idxBy (fun _ y => decide (y < (m : Int))) l default)) ∧ Below w.heap.size w w' := by
  subst hn
  exact first_calls A c m g l w hR hg
theorem contains_calls2 (A : Option Addr) (c n : Nat) (l : List Int) (x : Int) (w : World) (hn : n = l.length) (hR : ReadsInt w .i64 A l.length l) : Calls Try.prog 38 #[.slice A n c, .int .i64 x] w fun e w' => e = .returned (.bool (l.contains x)) ∧ Below w.heap.size w w' := by
  subst hn
  exact contains_calls A c l x w hR
theorem meas {r a : Nat} (h : a < r) : r - (intOf (.int .i64 ((a : Int) + 1))).toNat < r - (intOf (.int .i64 (a : Int))).toNat := by
  show r - ((a : Int) + 1).toNat < r - ((a : Int)).toNat
  omega
theorem exec_eqi {o : Oper} {a : Act} {x y : Operand} {w : World} {u v : Int} {b : Bool} {tt : TypeId} (ho : o.op = .binOp .eql 3 x y tt) (hx : a.eval x = .int .i64 u) (hy : a.eval y = .int .i64 v) (h : decide (u = v) = b) : (execOp a.eval o).run Try.prog w = .ok (.value (.bool b)) w := by
  subst h
  have h1 : (binOp .eql 3 (.int .i64 u) (.int .i64 v)).run Try.prog w = .ok (.bool (decide (u = v))) w := by
    simp [go_sem]
    rw [Bool.eq_iff_iff]
    simp
  unfold execOp
  simp [ho, hx, hy, eqGuard, h1]
theorem exec_addi {o : Oper} {a : Act} {x y : Operand} {w : World} {u v r : Int} {tt : TypeId} (ho : o.op = .binOp .add 3 x y tt) (hx : a.eval x = .int .i64 u) (hy : a.eval y = .int .i64 v) (h : wrap64 (u + v) = r) : (execOp a.eval o).run Try.prog w = .ok (.value (.int .i64 r)) w := by
  subst h
  have h1 : (binOp .add 3 (.int .i64 u) (.int .i64 v)).run Try.prog w = .ok (.int .i64 (wrap64 (u + v))) w := by
    rw [← i64_w]
    simp [go_sem]
  unfold execOp
  simp [ho, hx, hy, eqGuard, h1]
theorem cell_off {w : World} {ad : Addr} {q : Nat} {v : Value} (h : w.cell? (ad.add q) = some v) : w.cell? ⟨ad.block, ad.off + q, none⟩ = some v := by
  obtain ⟨b, off, sp⟩ := ad
  cases sp with
  | none => rwa [Go.Proofs.Ytonjgbcibjnpoaa.Sq.add_at] at h
  | some x =>
    simp only [Addr.add] at h
    split at h
    · obtain ⟨_, _, e⟩ := addr_none h
      simp at e
    · exact h
theorem exec_gti {o : Oper} {a : Act} {x y : Operand} {w : World} {u v : Int} {b : Bool} {tt : TypeId} (ho : o.op = .binOp .gtr 3 x y tt) (hx : a.eval x = .int .i64 u) (hy : a.eval y = .int .i64 v) (h : decide (v < u) = b) : (execOp a.eval o).run Try.prog w = .ok (.value (.bool b)) w := by
  subst h
  have h1 : (binOp .gtr 3 (.int .i64 u) (.int .i64 v)).run Try.prog w = .ok (.bool (decide (v < u))) w := by
    simp [go_sem]
  unfold execOp
  simp [ho, hx, hy, eqGuard, h1]
theorem exec_negi {o : Oper} {a : Act} {x : Operand} {w : World} {u r : Int} (ho : o.op = .unOp .neg 3 x) (hx : a.eval x = .int .i64 u) (h : wrap64 (-u) = r) : (execOp a.eval o).run Try.prog w = .ok (.value (.int .i64 r)) w := by
  subst h
  rw [← i64_w]
  unfold execOp
  simp only [ho, hx]
  simp [go_sem]
theorem exec_lti {o : Oper} {a : Act} {x y : Operand} {w : World} {u v : Int} {b : Bool} {tt : TypeId} (ho : o.op = .binOp .lss 3 x y tt) (hx : a.eval x = .int .i64 u) (hy : a.eval y = .int .i64 v) (h : decide (u < v) = b) : (execOp a.eval o).run Try.prog w = .ok (.value (.bool b)) w := by
  subst h
  have h1 : (binOp .lss 3 (.int .i64 u) (.int .i64 v)).run Try.prog w = .ok (.bool (decide (u < v))) w := by
    simp [go_sem]
  unfold execOp
  simp [ho, hx, hy, eqGuard, h1]
theorem exec_rsec {o : Oper} {a : Act} {x : Operand} {w : World} {g N i : Nat} {S : List (List Nat)} {sp : Array Value} {d : List Nat} (hb : w.heap[g]? = some (.cells (bys S.flatten ++ sp) 23 (0, 0))) (hS : Secs S) (hl : S.length = N) (hN : N ≤ 100) (hi : i < N) (hd : d = S.getD i []) (ho : o.op = .load 23 x) (hx : a.eval x = .pointer (some ⟨g, i * 64, none⟩)) : (execOp a.eval o).run Try.prog w = .ok (.value (.agg (bys d))) w :=
  exec_sec (c_row hb hS hl hN) hi hd ho (by rw [hx, Go.Proofs.YtonjgbcibjnpoaaW.PrintWords.add_plain])
theorem row_fit {S : List (List Nat)} {sp : Array Value} {N i : Nat} (hS : Secs S) (hl : S.length = N) (hi : i < N) : i * 64 + 64 ≤ (bys S.flatten ++ sp).size := by
  rw [Array.size_append, bys_size, flatten_size (fun l h => (hS l h).len)]; omega

end Go.Proofs.Ytonjgbcibjnpoaa.Pw
