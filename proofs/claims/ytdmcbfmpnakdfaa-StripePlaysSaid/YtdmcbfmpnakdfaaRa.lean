/- The iterator over the columns of which something holds, walked; a loop over it. -/
import Derived.RangeFuncOwn
import Derived.RangeFuncCalls
import Derived.RangeFuncLeaves
import Derived.Shelf.Abstract
import Derived.WalkKit
import Derived.TacticsIn
import Derived.RegionIn
import Derived.LoopIn
import Derived.Shelf.RegionOpen
import Derived.Below
import Derived.Test.YtdmcbfmpnakdfaaProg
import Derived.RangeFuncFrom
import Derived.RangeFuncBox
import Derived.OwnWalkIn
import Derived.RangeFuncNested
import Derived.OwnWalk
import Derived.Maps.AppendAt
namespace Go.Proofs.Ytdmcbfmpnakdfaa.Rf
open Go Go.RowKit Go.Shelf Go.Proofs
attribute [local go_sem] Oper.semAt_some
abbrev ptr0 (b : Nat) : Value := .pointer (some ⟨b, 0, none⟩)
set_option maxRecDepth 100000 in
set_option maxHeartbeats 2000000 in
theorem which1_in (m : Nat) (w0 : World) (b1 b2 r o h : Nat) (caps : Array Value) (A : Option Addr) (N c : Nat) (p : Nat → Bool)
    (e1 : w0.cell? ⟨b1, 0, none⟩ = some (.pointer (some ⟨r, o, none⟩))) (e2 : w0.cell? ⟨r, o, none⟩ = some (.slice A N c)) (e3 : w0.cell? ⟨b2, 0, none⟩ = some (.func (.func h) #[] caps))
    (hN : N ≤ 64) (eh : ∀ args w, (callFunc h args).run Try.prog w = .ok (.enter h args) w)
    (hh : ∀ (i : Nat) W, i < N → Below w0.heap.size w0 W → Calls Try.prog h (#[.int .i64 i] ++ caps) W fun e W' => e = .returned (.bool (p i)) ∧ Below W.heap.size W W')
    (l : Nat) (J : Nat → World → Prop) (Jx : World → Prop)
    (hJB : ∀ k A, J k A → Below w0.heap.size w0 A) (hJ : ∀ k A A', J k A → Below A.heap.size A A' → J k A')
    (hN0 : ∀ k A, k < N → p k = false → J k A → J (k + 1) A)
    (hY : ∀ k A, k < N → p k = true → J k A → YieldAt Fence.wide (m - 1) Try.prog l #[.int .i64 k] A fun e A' => (e = .returned (.bool true) ∧ J (k + 1) A') ∨ (e = .returned (.bool false) ∧ Jx A'))
    (W : World) (h0 : J 0 W) :
    CallsIn Fence.wide m Try.prog 133 #[.func (.yield l) #[] #[], ptr0 b1, ptr0 b2] W fun e W' => (∃ v, e = .returned v) ∧ (J N W' ∨ Jx W') := by
  have l1 := World.block_lt_of_cell? _ _ e1
  have l2 := World.block_lt_of_cell? _ _ e2
  have l3 := World.block_lt_of_cell? _ _ e3
  have hw0 := hJB 0 W h0
  have f1 := (hw0.cell (p := ⟨b1, 0, none⟩) l1).trans e1
  have f2 := (hw0.cell (p := ⟨r, o, none⟩) l2).trans e2
  refine callsIn_of_wp Try.func133 rfl trivial ?_ rfl
  simp only [Try.ntmps133, List.size_toArray, List.length_cons, List.length_nil, Nat.reduceAdd, Nat.reduceSub, Array.replicate_succ, Array.replicate_zero, List.push_toArray, List.append_toArray, List.nil_append, List.cons_append]
  gi_wp2
  gi_loopw [10] (fun i wr => ∃ k : Nat, k ≤ N ∧ i = .int .i64 k ∧ J k wr) (fun i _ => N - (intOf i).toNat)
  case atStart => exact ⟨0, Nat.zero_le _, rfl, h0⟩
  case round =>
    obtain ⟨k, hk, rfl, hJk⟩ := hrel
    have hwk := hJB k wr hJk
    have f3 := (hwk.cell (p := ⟨b2, 0, none⟩) l3).trans e3
    by_cases hkN : k < N
    · have hlt : (decide ((k : Int) < (N : Int))) = true := decide_eq_true (by omega)
      have hc := hh k wr hkN hwk
      gi_wp2
      refine ⟨trivial, (fun h => by cases h), (callsIn_wide.2 hc).mono ?_⟩
      rintro e W2 ⟨rfl, hb2⟩
      have hJ2 := hJ k wr W2 hJk hb2
      cases hp : p k with
      | false =>
        gi_wp2
        refine ⟨(fun f hf => by cases hf), ?_⟩
        gi_wp2
        go_roundw
        case rel => exact ⟨k + 1, by omega, by simp, hN0 k W2 hkN hp hJ2⟩
        case measure => simp [intOf]; omega
      | true =>
        obtain ⟨fn, tmps, assign, body, hy, hR⟩ := hY k W2 hkN hp hJ2
        gi_wp2
        refine ⟨(fun h => by cases h), hR.mono ?_⟩
        rintro e W3 (⟨rfl, hJ3⟩ | ⟨rfl, hx3⟩)
        · gi_wp2
          go_roundw
          case rel => exact ⟨k + 1, by omega, by simp, hJ3⟩
          case measure => simp [intOf]; omega
        · gi_wp2
          refine bodyPost_ret (results_none rfl _ _ _) rfl ?_
          exact ⟨⟨_, rfl⟩, .inr hx3⟩
    · have hkk : k = N := by omega
      have hlt : (decide ((k : Int) < (N : Int))) = false := decide_eq_false (by omega)
      gi_wp2
      go_end0
      exact ⟨⟨_, rfl⟩, .inl (hkk ▸ hJk)⟩
end Go.Proofs.Ytdmcbfmpnakdfaa.Rf
namespace Go.Proofs.Ytdmcbfmpnakdfaa.Rf
open Go Go.RowKit Go.Shelf Go.Proofs
attribute [local go_sem] Oper.semAt_some
/-- The numbers below N of which p holds. -/
def hold (p : Nat → Bool) (N : Nat) : List Int := ((List.range N).filter p).map fun k : Nat => (k : Int)
theorem hold_t {p : Nat → Bool} {k : Nat} (h : p k = true) : hold p (k + 1) = hold p k ++ [(k : Int)] := by
  unfold hold
  rw [List.range_succ, List.filter_append, List.map_append]
  simp [h]
theorem hold_f {p : Nat → Bool} {k : Nat} (h : p k = false) : hold p (k + 1) = hold p k := by
  unfold hold
  rw [List.range_succ, List.filter_append, List.map_append]
  simp [h]
theorem hold_len (p : Nat → Bool) (N : Nat) : (hold p N).length ≤ N := by
  unfold hold
  rw [List.length_map]
  have := List.length_filter_le p (List.range N)
  rwa [List.length_range] at this
theorem below_grown {w w' : World} (h : Below w.heap.size w w') : w.grownBy w' none := ⟨h.os, h.tape, h.output, h.size, fun k hk _ => h.block k hk⟩
/-- What holds is seen at the iterator's call. -/
structure HoldsIn (w0 : World) (h : Nat) (caps : Array Value) (N : Nat) (p : Nat → Bool) : Prop where
  enters : ∀ args w, (callFunc h args).run Try.prog w = .ok (.enter h args) w
  says : ∀ (i : Nat) W, i < N → Below w0.heap.size w0 W → Calls Try.prog h (#[.int .i64 i] ++ caps) W fun e W' => e = .returned (.bool (p i)) ∧ Below W.heap.size W W'
structure WhichAt (w0 : World) (b1 b2 : Nat) (N : Nat) (p : Nat → Bool) : Prop where
  le : N ≤ 64
  see : ∃ (r o h : Nat) (caps : Array Value) (A : Option Addr) (c : Nat), w0.cell? ⟨b1, 0, none⟩ = some (.pointer (some ⟨r, o, none⟩)) ∧ w0.cell? ⟨r, o, none⟩ = some (.slice A N c) ∧ w0.cell? ⟨b2, 0, none⟩ = some (.func (.func h) #[] caps) ∧ HoldsIn w0 h caps N p
theorem WhichAt.later {w0 w : World} {b1 b2 N : Nat} {p : Nat → Bool} (h : WhichAt w0 b1 b2 N p) (hb : Below w0.heap.size w0 w) : WhichAt w b1 b2 N p := by
  obtain ⟨h1, r, o, f, caps, A, c, e1, e2, e3, e4, e5⟩ := h
  exact ⟨h1, r, o, f, caps, A, c, (hb.cell (p := ⟨b1, 0, none⟩) (World.block_lt_of_cell? _ _ e1)).trans e1, (hb.cell (p := ⟨r, o, none⟩) (World.block_lt_of_cell? _ _ e2)).trans e2,
    (hb.cell (p := ⟨b2, 0, none⟩) (World.block_lt_of_cell? _ _ e3)).trans e3, e4, fun i W hi hW => e5 i W hi (hb.trans (hW.mono hb.size))⟩
theorem which_seq (m : Nat) {w0 : World} {b1 b2 N : Nat} {p : Nat → Bool} (h : WhichAt w0 b1 b2 N p) :
    SeqStopsK Fence.wide m Try.prog 133 #[ptr0 b1, ptr0 b2] (fun x : Int => #[Value.int .i64 x]) (Below w0.heap.size) (fun xs => xs = hold p N) (fun pre => pre ≠ [] ∧ ∃ k, k < N ∧ p k = true) N w0 := by
  intro l J Jx W hW hJ hJx hY h0
  obtain ⟨hN, r, o, f, caps, A, c, e1, e2, e3, eh, hh⟩ := h
  refine (which1_in m w0 b1 b2 r o f caps A N c p e1 e2 e3 hN eh hh l (fun k A => J (hold p k) A ∧ Below w0.heap.size w0 A) (fun A => ∃ pre, (pre ≠ [] ∧ ∃ k, k < N ∧ p k = true) ∧ Jx pre A) (fun k A hA => hA.2) (fun k A A' hA hb => ⟨hJ _ A A' none hA.1 (below_grown hb) (fun r e => by cases e), hA.2.trans (hb.mono hA.2.size)⟩)
    (fun k A hk hp hA => ⟨by rw [hold_f hp]; exact hA.1, hA.2⟩) (fun k A hk hp hA => ?_) W ⟨h0, hW⟩).mono ?_
  · have hl := hold_len p k
    obtain ⟨fn, tmps, assign, body, hy, hR⟩ := hY (hold p k) (k : Int) A hA.1 (by omega)
    refine ⟨fn, tmps, assign, body, hy, hR.mono fun e A' hr => ?_⟩
    rcases hr with ⟨he, hj, hb⟩ | ⟨he, hj⟩
    · exact .inl ⟨he, by rw [hold_t hp]; exact hj, hA.2.trans hb⟩
    · exact .inr ⟨he, _, ⟨by simp, k, hk, hp⟩, hj⟩
  · rintro e W' ⟨hv, (hj | ⟨pre, h1, h2⟩)⟩
    · exact ⟨hv, .inl ⟨_, rfl, hj.1⟩⟩
    · exact ⟨hv, .inr ⟨pre, h1, h2⟩⟩
theorem info3 : (Try.prog.info? 3).map (fun i => (i.zero, i.size, i.bytes)) = some (some (.int .i64 0), 1, 8) := by kernel_rfl
set_option maxRecDepth 100000 in
set_option maxHeartbeats 2000000 in
/-- What the iterator gives, in a slice of the call's own. -/
theorem appendSeq_in {w : World} {b1 b2 N : Nat} {p : Nat → Bool} (h : WhichAt w b1 b2 N p) :
    CallsIn Fence.wide 3 Try.prog 132 #[.slice none 0 0, .func (.func 133) #[] #[ptr0 b1, ptr0 b2]] w fun e W' => ∃ v, e = .returned v ∧ W'.ownsRow w.heap.size 3 1 v (hold p N).length ((hold p N).map (Value.int .i64)) ∧ (v = .slice none 0 0 ↔ hold p N = []) ∧ Below w.heap.size w W' := by
  obtain ⟨i0, hi, hz0, hz1, hz2⟩ := info_parts info3
  refine callsIn_of_wp_marks Try.func132 rfl trivial ?_ rfl
  simp only [Try.ntmps132, List.size_toArray, List.length_cons, List.length_nil, Nat.reduceAdd, Nat.reduceSub, Array.replicate_succ, Array.replicate_zero, List.push_toArray, List.append_toArray, List.nil_append, List.cons_append]
  gi_wp2
  have bO := Boxed.new w 23 (.slice none 0 0)
  have hB0 : Below w.heap.size w (w.alloc (.cells #[.slice none 0 0] 23)) := (Below.refl _ w).alloc (Nat.le_refl _) _
  refine wpIn_rangeFunc_ownF rfl (by decide) (gf := 133) (lb := #[ptr0 b1, ptr0 b2]) rfl trivial (enters_of Try.func133 (by kernel_rfl) rfl)
    (which_seq 2 h) belowK_t (belowK_b (by simp)) hB0 (fun _ => rfl)
    (fun pre W => (∃ v, Boxed W w.heap.size 23 v ∧ W.ownsRow w.heap.size 3 1 v pre.length (pre.map (Value.int .i64)) ∧ (v = .slice none 0 0 ↔ pre = [])) ∧ Below w.heap.size w W)
    (fun _ _ _ => False)
    (OwnFrom.and (Own.from (holdsRow_own w.heap.size w.heap.size 23 3 1 (fun pre : List Int => pre.length) (fun pre => pre.map (Value.int .i64)) (fun pre v => v = .slice none 0 0 ↔ pre = [])) _) (ownFrom_below (Nat.le_refl _) (by simp)))
    (fun _ _ _ _ _ hs _ _ => hs)
    ⟨⟨_, bO, World.ownsRow_nil _ _ _ _, by simp⟩, hB0⟩
    (fun x => { tmps := #[.slice none 0 0, .func (.func 133) #[] #[ptr0 b1, ptr0 b2], .pointer (some ⟨w.heap.size, 0, none⟩), undef, .slice none 0 0, Value.int .i64 x, .func (.func 133) #[] #[ptr0 b1, ptr0 b2], Value.int .i64 x, undef, undef, undef, undef, undef], defers := [] }) ?assign ?body ?done ?stop
  case assign =>
    intro l x W K hK
    gi_wp2
    exact hK
  case body =>
    rintro l pre x W ⟨⟨v, hv, hrow, hnil⟩, hB⟩ hlt
    have hc := hv.cell
    have hle := h.le
    gi_wp2_with (gi_at_builtin; refine wpListIn_append_own _ rfl _ _ 23 rfl w.heap.size 3 i0 (.int .i64 0) 1 8 Try.underlying23 hi hz0 hz1 hz2 rfl (by decide) _ _ _ rfl (hrow.alloc _) ⟨W.heap.size, 0, none⟩ 1 1 [.int .i64 x] rfl rfl (cell_one_new _ _ _) (by simp [Value.oneCell']) (by simp only [maxLen]; omega) (by omega) (by have := hB.size; simp; omega) ?_; intro v' w1 hown' hgrow _; obtain ⟨g', cap', rfl⟩ := ownsRow_succ hown'; obtain ⟨hv1, hv2, hr2, hk2, hb2⟩ := hv.appended (by decide) hrow hB.size (Nat.le_refl _) hown' hgrow; have hc1 := hv1.cell; have hf1 := hv1.frozen)
    exact ⟨hk2, hb2, ⟨_, hv2, by simpa using hr2, by simp⟩, hB.trans hb2⟩
  case done =>
    rintro D ys W hD rfl ⟨⟨v, hv, hrow, hnil⟩, hB⟩ hK
    have hc := hv.cell
    gi_wp2
    refine ⟨by simp, .inl ⟨_, _, rfl, run_takeDeferred hK, ?_⟩⟩
    exact ⟨_, results_tmp rfl _ _ _, v, rfl, ownsRow_putObj hrow _ hK rfl, hnil, hB.trans (belowK_b (w := w) (Nat.le_refl _) W D _ _ (by simp at hD; omega) hK rfl rfl)⟩
  case stop =>
    rintro D c pre W _ _ h _
    exact h.elim
theorem hold_nil {p : Nat → Bool} {N k : Nat} (hk : k < N) (hp : p k = true) : ¬ hold p N = [] := by
  unfold hold
  intro h
  have h1 : k ∈ (List.range N).filter p := List.mem_filter.2 ⟨List.mem_range.2 hk, hp⟩
  rw [List.map_eq_nil_iff] at h
  rw [h] at h1
  cases h1
set_option maxRecDepth 100000 in
set_option maxHeartbeats 2000000 in
theorem which_in (m : Nat) (w : World) (a : Option Addr) (g : Nat) (caps : Array Value) :
    CallsIn Fence.wide m Try.prog 111 #[.pointer a, .func (.func g) #[] caps] w fun e W' => e = .returned (.func (.func 133) #[] #[ptr0 w.heap.size, ptr0 (w.heap.size + 1)]) ∧ W' = (w.alloc (.cells #[.pointer a] 79)).alloc (.cells #[.func (.func g) #[] caps] 113) := by
  refine callsIn_of_wp Try.func111 rfl trivial ?_ rfl
  simp only [Try.ntmps111, List.size_toArray, List.length_cons, List.length_nil, Nat.reduceAdd, Nat.reduceSub, Array.replicate_succ, Array.replicate_zero, List.push_toArray, List.append_toArray, List.nil_append, List.cons_append]
  gi_wp2
  exact bodyPost_ret (results_tmp rfl _ _ _) rfl ⟨rfl, rfl⟩
theorem info4 : (Try.prog.info? 4).map (fun i => (i.zero, i.size, i.bytes)) = some (some (.bool false), 1, 1) := by kernel_rfl
theorem results_cell {fn : Func} {t : Tmp} (h : fn.results = #[.cell t 4]) (_hi : (Try.prog.info? 4).map (fun i => (i.zero, i.size, i.bytes)) = some (some (.bool false), 1, 1)) {tmps : Array Value} {B : Nat} (ht : tmps.getD t undef = .pointer (some ⟨B, 0, none⟩)) {w : World} {v : Value} (hc : w.cell? ⟨B, 0, none⟩ = some v) :
    (results fn tmps).run Try.prog w = .ok v w := by
  rw [Array.getD_eq_getD_getElem?] at ht
  simp [results, h, go_sem, ht, hc]
set_option maxRecDepth 100000 in
set_option maxHeartbeats 2000000 in
/-- whole: does the iterator give nothing? -/
theorem whole_in {w : World} {r N c : Nat} {A : Option Addr} {p : Nat → Bool} (e1 : w.cell? ⟨r, 0, none⟩ = some (.slice A N c)) (hN : N ≤ 64)
    (hH : ∀ W, Below w.heap.size w W → W.cell? ⟨w.heap.size, 0, none⟩ = some (.pointer (some ⟨r, 0, none⟩)) → HoldsIn W 131 #[ptr0 w.heap.size] N p) :
    CallsIn Fence.wide 3 Try.prog 109 #[.pointer (some ⟨r, 0, none⟩)] w fun e W' => e = .returned (.bool (decide (hold p N = []))) ∧ Below w.heap.size w W' := by
  refine callsIn_of_wp_marks Try.func109 rfl trivial ?_ rfl
  simp only [Try.ntmps109, List.size_toArray, List.length_cons, List.length_nil, Nat.reduceAdd, Nat.reduceSub, Array.replicate_succ, Array.replicate_zero, List.push_toArray, List.append_toArray, List.nil_append, List.cons_append]
  gi_wp2
  refine ⟨trivial, (which_in _ _ _ _ _).mono ?_⟩
  rintro e W1 ⟨rfl, rfl⟩
  gi_wp2
  have eb : w.heap.size + 1 + 1 = w.heap.size + 2 := rfl
  have eb2 : w.heap.size + 1 + 1 + 1 = w.heap.size + 3 := rfl
  rw [eb, eb2]
  obtain ⟨W4, eW⟩ : ∃ W4, (((w.alloc (.cells #[.pointer (some ⟨r, 0, none⟩)] 79)).alloc (.cells #[.bool false] 4)).alloc (.cells #[.pointer (some ⟨r, 0, none⟩)] 79)).alloc (.cells #[.func (.func 131) #[] #[.pointer (some ⟨w.heap.size, 0, none⟩)]] 113) = W4 := ⟨_, rfl⟩
  rw [eW]
  have hs4 : W4.heap.size = w.heap.size + 4 := by rw [← eW]; simp
  have hB0 : Below w.heap.size w W4 := by rw [← eW]; exact ((((Below.refl _ w).alloc (Nat.le_refl _) _).alloc (by simp) _).alloc (by simp; omega) _).alloc (by simp; omega) _
  have bP : Boxed W4 w.heap.size 79 (.pointer (some ⟨r, 0, none⟩)) := by rw [← eW]; exact (((Boxed.new w 79 _).alloc _).alloc _).alloc _
  have bO : Boxed W4 (w.heap.size + 1) 4 (.bool false) := by
    rw [← eW]
    have := Boxed.new (w.alloc (.cells #[.pointer (some ⟨r, 0, none⟩)] 79)) 4 (.bool false)
    rw [World.size_alloc] at this
    exact (this.alloc _).alloc _
  have bR : Boxed W4 (w.heap.size + 2) 79 (.pointer (some ⟨r, 0, none⟩)) := by
    rw [← eW]
    have := Boxed.new ((w.alloc (.cells #[.pointer (some ⟨r, 0, none⟩)] 79)).alloc (.cells #[.bool false] 4)) 79 (.pointer (some ⟨r, 0, none⟩))
    rw [World.size_alloc, World.size_alloc] at this
    exact this.alloc _
  have bF : Boxed W4 (w.heap.size + 3) 113 (.func (.func 131) #[] #[.pointer (some ⟨w.heap.size, 0, none⟩)]) := by
    rw [← eW]
    have := Boxed.new (((w.alloc (.cells #[.pointer (some ⟨r, 0, none⟩)] 79)).alloc (.cells #[.bool false] 4)).alloc (.cells #[.pointer (some ⟨r, 0, none⟩)] 79)) 113 (.func (.func 131) #[] #[.pointer (some ⟨w.heap.size, 0, none⟩)])
    rw [World.size_alloc, World.size_alloc, World.size_alloc] at this
    exact this
  have hW : WhichAt W4 (w.heap.size + 2) (w.heap.size + 3) N p := ⟨hN, r, 0, 131, #[ptr0 w.heap.size], A, c, bR.cell, (hB0.cell (p := ⟨r, 0, none⟩) (World.block_lt_of_cell? _ _ e1)).trans e1, bF.cell, hH W4 hB0 bP.cell⟩
  refine wpIn_rangeFunc_ownF rfl (by decide) (gf := 133) (lb := #[ptr0 (w.heap.size + 2), ptr0 (w.heap.size + 3)]) rfl trivial (enters_of Try.func133 (by kernel_rfl) rfl)
    (which_seq 2 hW) belowK_t (belowK_b (by omega)) (Below.refl _ _) (fun _ => rfl)
    (fun pre W => pre = [] ∧ Boxed W (w.heap.size + 1) 4 (.bool false) ∧ Below w.heap.size w W)
    (fun c pre W => c = .ret ∧ Boxed W (w.heap.size + 1) 4 (.bool false) ∧ Below w.heap.size w W)
    (OwnFrom.and (ownFrom_pure _ fun pre => pre = []) (OwnFrom.and (Own.from (boxed_own _ _ fun _ => Value.bool false) _) (ownFrom_below (Nat.le_refl _) (by omega))))
    (fun c => OwnFrom.and (ownFrom_pure _ fun _ => c = .ret) (OwnFrom.and (Own.from (boxed_own _ _ fun _ => Value.bool false) _) (ownFrom_below (Nat.le_refl _) (by omega))))
    ⟨rfl, bO, hB0⟩
    (fun x => { tmps := #[.pointer (some ⟨r, 0, none⟩), .pointer (some ⟨w.heap.size, 0, none⟩), .pointer (some ⟨w.heap.size + 1, 0, none⟩), .pointer (some ⟨r, 0, none⟩), .func (.func 131) #[] #[.pointer (some ⟨w.heap.size, 0, none⟩)], .func (.func 133) #[] #[ptr0 (w.heap.size + 2), ptr0 (w.heap.size + 3)], .int .i64 x], defers := [] }) ?assign ?body ?done ?stop
  case assign =>
    intro l x W K hK
    gi_wp2
    simpa using hK
  case body =>
    rintro l pre x W ⟨rfl, hv, hB⟩ hlt
    have hc := hv.cell
    have hf := hv.frozen
    gi_wp2
    exact ⟨KeepsOthers.setCell _ _ _, rfl, hv.set _, hB.setCell (by simp) _⟩
  case done =>
    rintro D ys W hD rfl ⟨hn, hv, hB⟩ hK
    have hc := hv.cell
    have hf := hv.frozen
    gi_wp2
    have hv2 := hv.set (Value.bool true)
    have hK2 : (W.setCell ⟨w.heap.size + 1, 0, none⟩ (.bool true)).heap[D]? = some (.deferred (some [])) := (Below.heap_setCell _ _ _ _ (by simp; omega)).trans hK
    refine ⟨by simp, .inl ⟨_, _, rfl, run_takeDeferred hK2, ?_⟩⟩
    have hv3 := Boxed.cell (hv2.kept (grownBy_putObj' _ D (.deferred none)) (by intro e; cases e; omega))
    refine ⟨_, results_cell rfl info4 rfl hv3, by first | rfl | rw [decide_eq_true hn], ?_⟩
    exact (hB.setCell (p := ⟨w.heap.size + 1, 0, none⟩) (by simp) _).trans (belowK_b (w := w) (Nat.le_refl _) _ D _ _ (by omega) hK2 rfl rfl)
  case stop =>
    rintro D c pre W hD ⟨hp, k, hk, hpk⟩ ⟨rfl, hv, hB⟩ hK
    have hc := hv.cell
    gi_wp2
    refine ⟨by simp, .inl ⟨_, _, rfl, run_takeDeferred hK, ?_⟩⟩
    have hv3 := Boxed.cell (hv.kept (grownBy_putObj' _ D (.deferred none)) (by intro e; cases e; omega))
    refine ⟨_, results_cell rfl info4 rfl hv3, by rw [decide_eq_false (hold_nil hk hpk)], ?_⟩
    exact hB.trans (belowK_b (w := w) (Nat.le_refl _) _ D _ _ (by omega) hK rfl rfl)
set_option maxRecDepth 100000 in
set_option maxHeartbeats 2000000 in
/-- Collect: what the iterator gives. -/
theorem collect_in {w : World} {b1 b2 N : Nat} {p : Nat → Bool} (h : WhichAt w b1 b2 N p) :
    CallsIn Fence.wide 4 Try.prog 110 #[.func (.func 133) #[] #[ptr0 b1, ptr0 b2]] w fun e W' => ∃ v, e = .returned v ∧ W'.ownsRow w.heap.size 3 1 v (hold p N).length ((hold p N).map (Value.int .i64)) ∧ (v = .slice none 0 0 ↔ hold p N = []) ∧ Below w.heap.size w W' := by
  refine callsIn_of_wp Try.func110 rfl trivial ?_ rfl
  simp only [Try.ntmps110, List.size_toArray, List.length_cons, List.length_nil, Nat.reduceAdd, Nat.reduceSub, Array.replicate_succ, Array.replicate_zero, List.push_toArray, List.append_toArray, List.nil_append, List.cons_append]
  gi_wp2
  refine ⟨trivial, (appendSeq_in h).mono ?_⟩
  rintro e W1 ⟨v, rfl, h1⟩
  gi_wp2
  exact bodyPost_ret (v := v) (results_tmp (t := 2) rfl _ _ _) rfl ⟨_, rfl, h1⟩
end Go.Proofs.Ytdmcbfmpnakdfaa.Rf
