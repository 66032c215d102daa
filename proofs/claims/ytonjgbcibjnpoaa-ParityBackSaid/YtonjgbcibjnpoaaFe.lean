import Derived.Test.YtonjgbcibjnpoaaPb
import Derived.Test.YtonjgbcibjnpoaaSd
import Derived.Test.YtonjgbcibjnpoaaSs
import Derived.Test.YtonjgbcibjnpoaaSr
import Derived.Test.YtonjgbcibjnpoaaPw
import Derived.Test.YtonjgbcibjnpoaaFb
import Derived.Test.YtonjgbcibjnpoaaFc
import Derived.Test.YtonjgbcibjnpoaaFd
import Derived.WalkSpells
import Derived.OpenShut
import Derived.Outline
import Derived.Lib.Hide
namespace Go.Proofs.Ytonjgbcibjnpoaa.Pw
open Go.RowKit Go.Proofs.YtonjgbcibjnpoaaW.PrintWords Go.Proofs.YtonjgbcibjnpoaaW.PrintLast Go.Proofs.YtonjgbcibjnpoaaW.PrintMore Go.Proofs.Ytonjgbcibjnpoaa.Gf Go.Proofs.Ytonjgbcibjnpoaa.Sc Go.Proofs.Ytonjgbcibjnpoaa.Pb Go.Proofs.Ytonjgbcibjnpoaa.Sd Go.Proofs.Ytonjgbcibjnpoaa.Ss Go.Proofs.Ytonjgbcibjnpoaa.Sr Go.Proofs.Ytonjgbcibjnpoaa.Pd Go.Proofs.Ytonjgbcibjnpoaa.Dv Go.Proofs.Ytonjgbcibjnpoaa.Sq
set_option linter.unusedVariables false
set_option linter.unusedSimpArgs false


/-- Fix where nothing is wrong with what is asked. -/
theorem fix_ok (A B : Option Addr) (n c m2 c2 : Nat) (L : List (List Nat)) (zs l : List Int) (w : World) (hC : Kd.C seK w A n L) (hS : Secs L) (hc : n ≤ c) (hcm : c ≤ 9223372036854775807) (hR : ReadsInt w .i64 B m2 zs) (hm2 : m2 ≤ 100) (EL : Hid (l = unl zs)) (ks : List Nat) (el : l = ks.map (fun k : Nat => (k : Int))) (hkl : ∀ k ∈ ks, k < n) (h : 3 ≤ n) (h64 : n ≤ 64) (h2 : ks.length ≤ 2) (hasc : ∀ i j, ks = [i, j] → i < j) :
    Calls Try.prog 22 #[.slice A n c, .slice B m2 c2] w fun e w' => ∃ v, e = .returned (.tuple #[v, .int .i64 0]) ∧ Own w' w.heap.size v (fixR L (n - 2) ks) ∧ Below w.heap.size w w' := by
  have hl : l.length ≤ 2 := by rw [el, List.length_map]; exact h2
  match hks : ks with
  | [] => exact fix_0 A B n c m2 c2 L zs l w hC hS hc hcm hR hm2 EL [] el hkl h h64 hl rfl
  | [i] =>
    by_cases hi : i < n - 2
    · exact fix_d A B n c m2 c2 L zs l w hC hS hc hcm hR hm2 EL [i] el hkl h h64 hl i rfl hi
    · exact fix_p A B n c m2 c2 L zs l w hC hS hc hcm hR hm2 EL [i] el hkl h h64 hl i rfl (Nat.not_lt.1 hi)
  | [i, j] =>
    have hij := hasc i j rfl
    have hjn := hkl j (by simp)
    by_cases hj : j < n - 2
    · exact fix_dd A B n c m2 c2 L zs l w hC hS hc hcm hR hm2 EL [i, j] el hkl h h64 hl i j rfl hij hj
    · by_cases hi : i < n - 2
      · by_cases hj2 : j = n - 2
        · exact fix_dP A B n c m2 c2 L zs l w hC hS hc hcm hR hm2 EL [i, j] el hkl h h64 hl i j rfl hi hj2
        · exact fix_dQ A B n c m2 c2 L zs l w hC hS hc hcm hR hm2 EL [i, j] el hkl h h64 hl i j rfl hi (by omega)
      · exact fix_pq A B n c m2 c2 L zs l w hC hS hc hcm hR hm2 EL [i, j] el hkl h h64 hl i j rfl (by omega) (by omega)
  | i :: j :: k :: t => exact absurd h2 (by simp)

end Go.Proofs.Ytonjgbcibjnpoaa.Pw
