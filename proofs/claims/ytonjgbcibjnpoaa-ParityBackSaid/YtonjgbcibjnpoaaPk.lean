/- Fix of torn right rows; small literals. -/
import Derived.Test.YtonjgbcibjnpoaaFe
import Derived.Test.YtonjgbcibjnpoaaPh
namespace Go.Proofs.Ytonjgbcibjnpoaa.Pw
open Go.RowKit Go.Proofs.Ytonjgbcibjnpoaa.Gf Go.Proofs.Ytonjgbcibjnpoaa.Sc Go.Proofs.Ytonjgbcibjnpoaa.Pb Go.Proofs.Ytonjgbcibjnpoaa.Sd Go.Proofs.Ytonjgbcibjnpoaa.Ss Go.Proofs.Ytonjgbcibjnpoaa.Pd Go.Proofs.YtonjgbcibjnpoaaW.PrintWords Go.Proofs.YtonjgbcibjnpoaaW.PrintLast Go.Proofs.Ytonjgbcibjnpoaa.Sq
theorem unl_nil : unl [] = [] := by simp [unl, Lib.compact, Lib.compactUpTo]
theorem unl_one (a : Int) : unl [a] = [a] := by
  simp [unl, Lib.compact, Lib.compactUpTo, Lib.keeps, List.range_succ]
theorem unl_two (a b : Int) : unl [a, b] = if a < b then [a, b] else if a = b then [a] else [b, a] := by
  by_cases h1 : a < b
  · have e : [a, b].mergeSort (fun x y => decide (x ≤ y)) = [a, b] := List.mergeSort_of_pairwise (by simp; omega)
    rw [if_pos h1, unl, e]
    simp [Lib.compact, Lib.compactUpTo, Lib.keeps, List.range_succ, show ¬ b = a by omega]
  · rw [if_neg h1]
    by_cases h2 : a = b
    · subst h2
      have e : [a, a].mergeSort (fun x y => decide (x ≤ y)) = [a, a] := List.mergeSort_of_pairwise (by simp)
      rw [if_pos rfl, unl, e]
      simp [Lib.compact, Lib.compactUpTo, Lib.keeps, List.range_succ]
    · have e : [a, b].mergeSort (fun x y => decide (x ≤ y)) = [b, a] := by
        simp [List.mergeSort, List.MergeSort.Internal.splitInTwo, show ¬ a ≤ b by omega]
      rw [if_neg h2, unl, e]
      simp [Lib.compact, Lib.compactUpTo, Lib.keeps, List.range_succ, h2]
theorem under45 : Try.prog.underlying 45 = some (.slice 3) := by kernel_rfl
theorem exec_lit2 {o : Oper} {a : Act} {w : World} {x y : Operand} {u v : Int} (ho : o.op = .buildSlice 45 2 #[(0, x), (1, y)]) (hx : a.eval x = .int .i64 u) (hy : a.eval y = .int .i64 v) : (execOp a.eval o).run Try.prog w = .ok (.value (.slice (some ⟨w.heap.size, 0, none⟩) 2 2)) (w.alloc (.cells #[.int .i64 u, .int .i64 v] 3 (0, 0))) := by
  have hz : ∀ w, (zeroValue 3).run Try.prog w = .ok (.int .i64 0) w := Try.zeroValue3
  unfold execOp
  simp [ho, hx, hy, Instr.buildSlice, run_underlying under45, hz, newRow, Instr.fill, Value.cells]
  congr 2
  apply Array.ext'
  simp [List.range_succ]
theorem exec_lit1 {o : Oper} {a : Act} {w : World} {x : Operand} {u : Int} (ho : o.op = .buildSlice 45 1 #[(0, x)]) (hx : a.eval x = .int .i64 u) : (execOp a.eval o).run Try.prog w = .ok (.value (.slice (some ⟨w.heap.size, 0, none⟩) 1 1)) (w.alloc (.cells #[.int .i64 u] 3 (0, 0))) := by
  have hz : ∀ w, (zeroValue 3).run Try.prog w = .ok (.int .i64 0) w := Try.zeroValue3
  unfold execOp
  simp [ho, hx, Instr.buildSlice, run_underlying under45, hz, newRow, Instr.fill, Value.cells]
  congr 2
  apply Array.ext'
  simp [List.range_succ]
theorem wrap8 (u : Int) : ∃ b : Nat, IntKind.u8.wrap u = (b : Int) := by
  have h : IntKind.u8.wrap u = u % 256 := by simp [IntKind.wrap, IntKind.signed, IntKind.bits]
  exact ⟨(u % 256).toNat, by rw [h]; omega⟩
theorem exec_byte {o : Oper} {a : Act} {w : World} {x : Operand} {u r : Int} (ho : o.op = .convert 3 5 x) (hx : a.eval x = .int .i64 u) (h : IntKind.u8.wrap u = r) : (execOp a.eval o).run Try.prog w = .ok (.value (.int .u8 r)) w := by
  subst h
  unfold execOp
  simp only [ho, hx]
  simp [go_sem]

/-- Fix of a row whose lost columns alone may be others than those of a right row. -/
theorem fix_back (A B : Option Addr) (n c m2 c2 m : Nat) (T R : List (List Nat)) (zs : List Int) (w : World) (hC : Kd.C seK w A n T) (hS : Secs T) (hc : n ≤ c) (hcm : c ≤ 9223372036854775807) (hI : ReadsInt w .i64 B m2 zs) (hm2 : m2 ≤ 100)
    (hn : n = m + 2) (h1 : 1 ≤ m) (h62 : m ≤ 62) (hR : Secs R) (hl : R.length = m + 2) (hr : rightB R = true) (ks : List Nat) (el : unl zs = ks.map (fun k : Nat => (k : Int))) (hk : ∀ x ∈ ks, x < m + 2) (h2 : ks.length ≤ 2) (hasc : ∀ i j, ks = [i, j] → i < j)
    (h : ∀ j, j < m + 2 → j ∉ ks → T.getD j [] = R.getD j []) :
    Calls Try.prog 22 #[.slice A n c, .slice B m2 c2] w fun e w' => ∃ v, e = .returned (.tuple #[v, .int .i64 0]) ∧ Own w' w.heap.size v R ∧ Below w.heap.size w w' := by
  subst hn
  obtain ⟨r1, r2⟩ := (right_iff hl h1 h62).1 hr
  have hf := fix_ok A B (m + 2) c m2 c2 T zs _ w hC hS hc hcm hI hm2 (Lib.hid rfl) ks el hk (by omega) (by omega) h2 hasc
  rw [show m + 2 - 2 = m from rfl, fixR_right hR hS hl (len_C hC) h62 r1 r2 hk h2 hasc h] at hf
  exact hf
theorem set_in {S : List (List Nat)} {i j : Nat} {d : List Nat} (h : j ≠ i) : (S.set i d).getD j [] = S.getD j [] := by
  rw [List.getD_eq_getElem?_getD, List.getElem?_set_ne (fun e => h e.symm), ← List.getD_eq_getElem?_getD]
theorem fix1_calls (A : Option Addr) (n c g m i k : Nat) (X Y : List Nat) (R : List (List Nat)) (w : World) (hC : Kd.C seK w A n ((R.set i X).set k Y)) (hX : Sec X) (hY : Sec Y) (hc : n ≤ c) (hcm : c ≤ 9223372036854775807) (hg : w.heap[g]? = some (.cells #[.int .i64 (i : Int), .int .i64 (k : Int)] 3 (0, 0)))
    (hn : n = m + 2) (h1 : 1 ≤ m) (h62 : m ≤ 62) (hR : Secs R) (hl : R.length = n) (hr : rightB R = true) (hi : i < n) (hk : k < n) :
    Calls Try.prog 22 #[.slice A n c, .slice (some ⟨g, 0, none⟩) 2 2] w fun e w' => ∃ v, e = .returned (.tuple #[v, .int .i64 0]) ∧ Own w' w.heap.size v R ∧ Below w.heap.size w w' := by
  obtain ⟨c1, c2⟩ := Wk.cells2 hg
  have hI : ReadsInt w .i64 (some ⟨g, 0, none⟩) 2 [(i : Int), (k : Int)] := ⟨rfl, by decide, fun _ => ⟨_, rfl, fun j hj => by
    rw [Go.Proofs.Ytonjgbcibjnpoaa.Sq.add_at, Nat.zero_add]
    match j, hj with
    | 0, _ => exact c1
    | 1, _ => exact c2⟩⟩
  have hS := set_secs (i := k) (set_secs (i := i) hR hX) hY
  by_cases h : i < k
  · exact fix_back A _ n c 2 2 m _ R _ w hC hS hc hcm hI (by decide) hn h1 h62 hR (hl.trans hn) hr [i, k] (by rw [unl_two, if_pos (by omega)]; rfl) (fun x hx => by simp at hx; omega) (by simp) (fun a b e => by injection e with e1 e2; injection e2 with e2; omega)
      (fun j _ hjk => by simp at hjk; rw [set_in hjk.2, set_in hjk.1])
  · by_cases h2 : i = k
    · exact fix_back A _ n c 2 2 m _ R _ w hC hS hc hcm hI (by decide) hn h1 h62 hR (hl.trans hn) hr [i] (by rw [unl_two, if_neg (by omega), if_pos (by omega)]; rfl) (fun x hx => by simp at hx; omega) (by simp) (fun a b e => by injection e with e1 e2; cases e2)
        (fun j _ hjk => by simp at hjk; rw [set_in (by omega), set_in hjk])
    · exact fix_back A _ n c 2 2 m _ R _ w hC hS hc hcm hI (by decide) hn h1 h62 hR (hl.trans hn) hr [k, i] (by rw [unl_two, if_neg (by omega), if_neg (by omega)]; rfl) (fun x hx => by simp at hx; omega) (by simp) (fun a b e => by injection e with e1 e2; injection e2 with e2; omega)
        (fun j _ hjk => by simp at hjk; rw [set_in hjk.1, set_in hjk.2])
theorem fix2_calls (A : Option Addr) (n c g m k : Nat) (Y : List Nat) (R : List (List Nat)) (w : World) (hC : Kd.C seK w A n (R.set k Y)) (hY : Sec Y) (hc : n ≤ c) (hcm : c ≤ 9223372036854775807) (hg : w.heap[g]? = some (.cells #[.int .i64 (k : Int)] 3 (0, 0)))
    (hn : n = m + 2) (h1 : 1 ≤ m) (h62 : m ≤ 62) (hR : Secs R) (hl : R.length = n) (hr : rightB R = true) (hk : k < n) :
    Calls Try.prog 22 #[.slice A n c, .slice (some ⟨g, 0, none⟩) 1 1] w fun e w' => ∃ v, e = .returned (.tuple #[v, .int .i64 0]) ∧ Own w' w.heap.size v R ∧ Below w.heap.size w w' := by
  have c1 := Wk.cells1 hg
  have hI : ReadsInt w .i64 (some ⟨g, 0, none⟩) 1 [(k : Int)] := ⟨rfl, by decide, fun _ => ⟨_, rfl, fun j hj => by
    rw [Go.Proofs.Ytonjgbcibjnpoaa.Sq.add_at, Nat.zero_add]
    match j, hj with
    | 0, _ => exact c1⟩⟩
  exact fix_back A _ n c 1 1 m _ R _ w hC (set_secs hR hY) hc hcm hI (by decide) hn h1 h62 hR (hl.trans hn) hr [k] (by rw [unl_one]; rfl) (fun x hx => by simp at hx; omega) (by simp) (fun a b e => by injection e with e1 e2; cases e2)
    (fun j _ hjk => by simp at hjk; rw [set_in hjk])
theorem fix3_calls (A : Option Addr) (n c m : Nat) (R : List (List Nat)) (w : World) (hC : Kd.C seK w A n R) (hc : n ≤ c) (hcm : c ≤ 9223372036854775807)
    (hn : n = m + 2) (h1 : 1 ≤ m) (h62 : m ≤ 62) (hR : Secs R) (hl : R.length = n) (hr : rightB R = true) :
    Calls Try.prog 22 #[.slice A n c, .slice none 0 0] w fun e w' => ∃ v, e = .returned (.tuple #[v, .int .i64 0]) ∧ Own w' w.heap.size v R ∧ Below w.heap.size w w' :=
  fix_back A none n c 0 0 m _ R [] w hC hR hc hcm ⟨rfl, by decide, fun h => absurd h (by decide)⟩ (by decide) hn h1 h62 hR (hl.trans hn) hr [] (by rw [unl_nil]; rfl) (fun x hx => by simp at hx) (by simp) (fun a b e => by cases e) (fun j _ _ => rfl)
end Go.Proofs.Ytonjgbcibjnpoaa.Pw
