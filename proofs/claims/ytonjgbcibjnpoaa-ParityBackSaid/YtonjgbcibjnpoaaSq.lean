/- The different numbers of a list, rising: slices.Clone, slices.Sort, slices.Compact by their contracts. -/
import Derived.Test.YtonjgbcibjnpoaaSp
import Derived.Test.YtonjgbcibjnpoaaPb
import Derived.Lib.OwnBridge
import Derived.Sort.Grow
namespace Go.Proofs.Ytonjgbcibjnpoaa.Sq
open Go.RowKit Go.Shelf Go.Sort Go.Proofs.YtonjgbcibjnpoaaW.PrintWords
theorem addr_none {w : World} {ad : Addr} {v : Value} (h : w.cell? ad = some v) : ∃ b off, ad = ⟨b, off, none⟩ := by
  obtain ⟨b, off, r⟩ := ad
  cases r with
  | none => exact ⟨b, off, rfl⟩
  | some x =>
    simp only [World.cell?] at h
    split at h <;> simp_all
theorem add_at (b off i : Nat) : (⟨b, off, none⟩ : Addr).add i = ⟨b, off + i, none⟩ := Sc.add_plain b off i
theorem below_more {B : Nat} {w : World} (h : B ≤ w.heap.size) (os : Array Obj) : Below B w (grow w os) := ⟨rfl, rfl, rfl, by simp, fun k hk => heap_grow_old w os (by omega)⟩
/-- What a copy of one's own is. -/
def Mine (base : Nat) (w : World) (v : Value) (zs : List Int) : Prop :=
  (v = .slice none 0 0 ∧ zs = []) ∨ ∃ g cap, v = .slice (some ⟨g, 0, none⟩) zs.length cap ∧ base ≤ g ∧ g < w.heap.size ∧ zs.length ≤ cap ∧ cap ≤ maxLen ∧ Holds (Value.int .i64) w g 0 zs.toArray
theorem clone_calls (A : Option Addr) (m c : Nat) (zs : List Int) (w : World) (hR : ReadsInt w .i64 A m zs) (hm : m ≤ 100) : Calls Try.prog 43 #[.slice A m c] w fun e w' => ∃ v, e = .returned v ∧ Below w.heap.size w w' ∧ Mine w.heap.size w' v zs := by
  obtain ⟨hl, _, hc⟩ := hR
  by_cases h0 : 0 < m
  · obtain ⟨ad, rfl, hd⟩ := hc h0
    clear hc
    obtain ⟨b, off, rfl⟩ := addr_none (hd 0 h0)
    have h := Any.slices_Clone_int Try.layClone b off m c zs w (by omega) (by omega) (fun j hj => by rw [← add_at]; exact hd j (by omega))
    change Calls Try.prog 43 _ _ _ at h
    refine h.mono ?_
    rintro e w' ⟨v, rfl, ho, hv, hb⟩
    rw [List.take_of_length_le (by omega)] at ho
    obtain ⟨g, cap, rfl, h1, h2, h3, h4, _, h6⟩ := Lib.holds_of_ownsRow ho hv
    exact ⟨_, rfl, hb, .inr ⟨g, cap, by rw [hl], h1, h2, by omega, h4, h6⟩⟩
  · obtain rfl : m = 0 := by omega
    obtain rfl : zs = [] := List.eq_nil_of_length_eq_zero hl
    cases A with
    | none =>
      have h := Any.slices_Clone_int_nil Try.layClone 0 c w
      change Calls Try.prog 43 _ _ _ at h
      refine h.mono ?_
      rintro e w' ⟨rfl, rfl⟩
      exact ⟨_, rfl, Below.refl _ _, .inl ⟨rfl, rfl⟩⟩
    | some ad =>
      have h := Any.slices_Clone_int_zero Try.layClone ad c w
      change Calls Try.prog 43 _ _ _ at h
      refine h.mono ?_
      rintro e w' ⟨v, rfl, ho, hv, hb⟩
      obtain ⟨g, cap, rfl, h1, h2, h3, h4, _, h6⟩ := Lib.holds_of_ownsRow (zs := ([] : List Int)) (enc := Value.int .i64) ho hv
      exact ⟨_, rfl, hb, .inr ⟨g, cap, rfl, h1, h2, h3, h4, h6⟩⟩
theorem sort_calls (base : Nat) (v : Value) (zs : List Int) (w : World) (hM : Mine base w v zs) (hm : zs.length ≤ 100) : Calls Try.prog 44 #[v] w fun e w' => e = .returned (.tuple #[]) ∧ (∀ w0, Below base w0 w → Below base w0 w') ∧ Mine base w' v (zs.mergeSort fun x y => decide (x ≤ y)) := by
  rcases hM with ⟨rfl, rfl⟩ | ⟨g, cap, rfl, h1, h2, h3, h4, h6⟩
  · have h := Any.slices_Sort_int_none Try.laySort none 0 w
    change Calls Try.prog 44 _ _ _ at h
    refine h.mono ?_
    rintro e w' ⟨rfl, rfl⟩
    exact ⟨rfl, fun _ h => h, .inl ⟨rfl, by simp⟩⟩
  · have h := Any.slices_Sort_int Try.laySort g 0 cap zs w h6 h2 (by omega)
    change Calls Try.prog 44 _ _ _ at h
    refine h.mono ?_
    rintro e w' ⟨rfl, n, os, rfl⟩
    have hl : (zs.mergeSort fun x y => decide (x ≤ y)).length = zs.length := List.length_mergeSort zs
    have hp : Holds (Value.int .i64) (putRow (Value.int .i64) (Sort.ahead w n) g 0 (zs.mergeSort fun x y => decide (x ≤ y)).toArray) g 0 (zs.mergeSort fun x y => decide (x ≤ y)).toArray := holds_putRow (Value.int .i64) (Sort.ahead w n) g 0 zs.toArray _ h6 (by simp)
    refine ⟨rfl, fun w0 hb => ?_, .inr ⟨g, cap, by rw [hl], h1, ?_, by omega, h4, holds_grow _ _ _ _ _ _ (by simp [putRow, mapBlock, Sort.ahead]; exact h2) hp⟩⟩
    · have hb2 := Lib.below_putRow (enc := Value.int .i64) (q := n) (d := (zs.mergeSort fun x y => decide (x ≤ y)).toArray) hb h1
      exact hb2.trans (below_more (by simp [putRow, mapBlock, Sort.ahead]; omega) os)
    · simp [grow, putRow, mapBlock, Sort.ahead]; omega
theorem compact_calls (base : Nat) (v : Value) (zs : List Int) (w : World) (hM : Mine base w v zs) (hm : zs.length ≤ 100) : Calls Try.prog 45 #[v] w fun e w' => ∃ v', e = .returned v' ∧ (∀ w0, Below base w0 w → Below base w0 w') ∧ Mine base w' v' (Lib.compact zs) := by
  rcases hM with ⟨rfl, rfl⟩ | ⟨g, cap, rfl, h1, h2, h3, h4, h6⟩
  · have h := Any.slices_Compact_int_empty Try.layCompact none 0 w
    change Calls Try.prog 45 _ _ _ at h
    refine h.mono ?_
    rintro e w' ⟨rfl, rfl⟩
    exact ⟨_, rfl, fun _ h => h, .inl ⟨rfl, rfl⟩⟩
  · have h := Any.slices_Compact_int Try.layCompact g 0 cap zs w h6 (by omega) h3
    change Calls Try.prog 45 _ _ _ at h
    refine h.mono ?_
    rintro e w' ⟨rfl, q, rfl⟩
    have hle := Lib.compact_length_le zs
    have hp := holds_putRow (Value.int .i64) (Sort.ahead w q) g 0 zs.toArray (Lib.compact zs ++ List.replicate (zs.length - (Lib.compact zs).length) 0).toArray h6 (by simp; omega)
    refine ⟨_, rfl, fun w0 hb => Lib.below_putRow hb h1, .inr ⟨g, cap, rfl, h1, by simpa [putRow, mapBlock, Sort.ahead] using h2, by omega, h4, fun j hj => ?_⟩⟩
    have hj' : j < (Lib.compact zs).length := by simpa using hj
    have := hp j (by simp; omega)
    have e : (Lib.compact zs ++ List.replicate (zs.length - (Lib.compact zs).length) 0).toArray[j]! = (Lib.compact zs).toArray[j]! := by
      simp [getElem!_pos, hj', show j < (Lib.compact zs).length + (zs.length - (Lib.compact zs).length) by omega, List.getElem_append_left]
    rw [e] at this
    exact this
/-- The different numbers of a list, rising. -/
def unl (zs : List Int) : List Int := Lib.compact (zs.mergeSort fun x y => decide (x ≤ y))
theorem Mine.reads {base : Nat} {w : World} {v : Value} {zs : List Int} (h : Mine base w v zs) (hm : zs.length ≤ 100) : ∃ A c, v = .slice A zs.length c ∧ zs.length ≤ c ∧ c ≤ 9223372036854775807 ∧ ReadsInt w .i64 A zs.length zs := by
  rcases h with ⟨rfl, rfl⟩ | ⟨g, cap, rfl, h1, h2, h3, h4, h6⟩
  · exact ⟨none, 0, rfl, Nat.le_refl _, by decide, ReadsInt.nil _ _⟩
  · refine ⟨_, cap, rfl, h3, by simpa [maxLen] using h4, rfl, by omega, fun _ => ⟨_, rfl, fun j hj => ?_⟩⟩
    have := (h6 j (by simpa using hj)).1
    rw [add_at, this]
    simp [getElem!_pos, hj, List.getD_eq_getElem?_getD]
theorem unlike_calls (A : Option Addr) (m c : Nat) (zs : List Int) (w : World) (hR : ReadsInt w .i64 A m zs) (hm : m ≤ 100) : Calls Try.prog 33 #[.slice A m c] w fun e w' => ∃ A' c', e = .returned (.slice A' (unl zs).length c') ∧ (unl zs).length ≤ c' ∧ c' ≤ 9223372036854775807 ∧ ReadsInt w' .i64 A' (unl zs).length (unl zs) ∧ Below w.heap.size w w' := by
  have hl : (zs.mergeSort fun x y => decide (x ≤ y)).length = zs.length := List.length_mergeSort zs
  have hz : zs.length ≤ 100 := by rw [hR.1]; exact hm
  have hle := Lib.compact_length_le (zs.mergeSort fun x y => decide (x ≤ y))
  have HR := Aside0.mk hR
  clear hR
  obtain ⟨sz, esz⟩ : ∃ l, l = zs.mergeSort fun x y => decide (x ≤ y) := ⟨_, rfl⟩
  have hu : unl zs = Lib.compact sz := by rw [esz]; rfl
  rw [← esz] at hl hle
  obtain ⟨cz, ecz⟩ : ∃ l, l = Lib.compact sz := ⟨_, rfl⟩
  rw [hu, ← ecz]
  have ES := Aside0.mk esz
  have EC := Aside0.mk ecz
  rw [← ecz] at hle
  clear esz ecz hu
  go_enter Try.func33, Try.ntmps33
  go_wp2_with (first
    | (go_at_call 43; refine (clone_calls A m c zs _ HR.out hm).mono ?_; rintro e w1 ⟨v1, rfl, hb1, hM1⟩)
    | (go_at_call 44; refine (sort_calls w.heap.size v1 zs _ hM1 hz).mono ?_; rintro e w2 ⟨rfl, hb2, hM2⟩; rw [← ES.out] at hM2)
    | (go_at_call 45; refine (compact_calls w.heap.size v1 sz _ hM2 (by omega)).mono ?_; rintro e w3 ⟨v3, rfl, hb3, hM3⟩; rw [← EC.out] at hM3; obtain ⟨A3, c3, rfl, hc3, hcm3, hR3⟩ := hM3.reads (by omega)))
  exact bodyPost_ret (results_single rfl (.tmp .nil)) rfl ⟨A3, c3, rfl, hc3, hcm3, hR3, hb3 _ (hb2 _ hb1)⟩
end Go.Proofs.Ytonjgbcibjnpoaa.Sq
