/- The iterator over the columns of which something holds, walked; a loop over it. -/
import Derived.RangeFuncOwn
import Derived.RangeFuncCalls
import Derived.RangeFuncLeaves
import Derived.Shelf.Abstract
import Derived.WalkKit
import Derived.TacticsIn
import Derived.RegionIn
import Derived.LoopIn
import Derived.Shelf.RegionOpen
import Derived.Below
import Derived.Test.YtdmcbfmpnakdfaaProg
namespace Go.Proofs.Ytdmcbfmpnakdfaa.Rf
open Go Go.RowKit Go.Shelf Go.Proofs
attribute [local go_sem] Oper.semAt_some
abbrev ptr0 (b : Nat) : Value := .pointer (some ⟨b, 0, none⟩)
set_option maxRecDepth 100000 in
set_option maxHeartbeats 2000000 in
theorem which1_in (m : Nat) (w0 : World) (b1 b2 r o h : Nat) (caps : Array Value) (A : Option Addr) (N c : Nat) (p : Nat → Bool)
    (e1 : w0.cell? ⟨b1, 0, none⟩ = some (.pointer (some ⟨r, o, none⟩))) (e2 : w0.cell? ⟨r, o, none⟩ = some (.slice A N c)) (e3 : w0.cell? ⟨b2, 0, none⟩ = some (.func (.func h) #[] caps))
    (hN : N ≤ 64) (eh : ∀ args w, (callFunc h args).run Try.prog w = .ok (.enter h args) w)
    (hh : ∀ (i : Nat) W, i < N → Below w0.heap.size w0 W → Calls Try.prog h (#[.int .i64 i] ++ caps) W fun e W' => e = .returned (.bool (p i)) ∧ Below W.heap.size W W')
    (l : Nat) (J : Nat → World → Prop) (Jx : World → Prop)
    (hJB : ∀ k A, J k A → Below w0.heap.size w0 A) (hJ : ∀ k A A', J k A → Below A.heap.size A A' → J k A')
    (hN0 : ∀ k A, k < N → p k = false → J k A → J (k + 1) A)
    (hY : ∀ k A, k < N → p k = true → J k A → YieldAt Fence.wide (m - 1) Try.prog l #[.int .i64 k] A fun e A' => (e = .returned (.bool true) ∧ J (k + 1) A') ∨ (e = .returned (.bool false) ∧ Jx A'))
    (W : World) (h0 : J 0 W) :
    CallsIn Fence.wide m Try.prog 133 #[.func (.yield l) #[] #[], ptr0 b1, ptr0 b2] W fun e W' => (∃ v, e = .returned v) ∧ (J N W' ∨ Jx W') := by
  have l1 := World.block_lt_of_cell? _ _ e1
  have l2 := World.block_lt_of_cell? _ _ e2
  have l3 := World.block_lt_of_cell? _ _ e3
  have hw0 := hJB 0 W h0
  have f1 := (hw0.cell (p := ⟨b1, 0, none⟩) l1).trans e1
  have f2 := (hw0.cell (p := ⟨r, o, none⟩) l2).trans e2
  refine callsIn_of_wp Try.func133 rfl trivial ?_ rfl
  simp only [Try.ntmps133, List.size_toArray, List.length_cons, List.length_nil, Nat.reduceAdd, Nat.reduceSub, Array.replicate_succ, Array.replicate_zero, List.push_toArray, List.append_toArray, List.nil_append, List.cons_append]
  gi_wp2
  gi_loopw [10] (fun i wr => ∃ k : Nat, k ≤ N ∧ i = .int .i64 k ∧ J k wr) (fun i _ => N - (intOf i).toNat)
  case atStart => exact ⟨0, Nat.zero_le _, rfl, h0⟩
  case round =>
    obtain ⟨k, hk, rfl, hJk⟩ := hrel
    have hwk := hJB k wr hJk
    have f3 := (hwk.cell (p := ⟨b2, 0, none⟩) l3).trans e3
    by_cases hkN : k < N
    · have hlt : (decide ((k : Int) < (N : Int))) = true := decide_eq_true (by omega)
      have hc := hh k wr hkN hwk
      gi_wp2
      refine ⟨trivial, (fun h => by cases h), (callsIn_wide.2 hc).mono ?_⟩
      rintro e W2 ⟨rfl, hb2⟩
      have hJ2 := hJ k wr W2 hJk hb2
      cases hp : p k with
      | false =>
        gi_wp2
        refine ⟨(fun f hf => by cases hf), ?_⟩
        gi_wp2
        go_roundw
        case rel => exact ⟨k + 1, by omega, by simp, hN0 k W2 hkN hp hJ2⟩
        case measure => simp [intOf]; omega
      | true =>
        obtain ⟨fn, tmps, assign, body, hy, hR⟩ := hY k W2 hkN hp hJ2
        gi_wp2
        refine ⟨(fun h => by cases h), hR.mono ?_⟩
        rintro e W3 (⟨rfl, hJ3⟩ | ⟨rfl, hx3⟩)
        · gi_wp2
          go_roundw
          case rel => exact ⟨k + 1, by omega, by simp, hJ3⟩
          case measure => simp [intOf]; omega
        · gi_wp2
          refine bodyPost_ret (results_none rfl _ _ _) rfl ?_
          exact ⟨⟨_, rfl⟩, .inr hx3⟩
    · have hkk : k = N := by omega
      have hlt : (decide ((k : Int) < (N : Int))) = false := decide_eq_false (by omega)
      gi_wp2
      go_end0
      exact ⟨⟨_, rfl⟩, .inl (hkk ▸ hJk)⟩
end Go.Proofs.Ytdmcbfmpnakdfaa.Rf
