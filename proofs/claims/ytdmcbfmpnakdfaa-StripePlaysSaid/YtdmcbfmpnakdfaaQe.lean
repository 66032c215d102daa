/- The different numbers of a list: Sort and Compact by the library's contracts. -/
import Derived.Test.YtdmcbfmpnakdfaaQd
import Derived.Test.YtdmcbfmpnakdfaaSp
import Derived.Lib.RowBridge
namespace Go.Proofs.Ytdmcbfmpnakdfaa.Eng
open Go Go.Proofs Go.Sort Go.Shelf
set_option maxRecDepth 20000
set_option maxHeartbeats 4000000
theorem c117 : Callable Try.prog 117 := ⟨⟨_, Try.func117, by kernel_rfl, by kernel_rfl⟩⟩
theorem c118 : Callable Try.prog 118 := ⟨⟨_, Try.func118, by kernel_rfl, by kernel_rfl⟩⟩
theorem c119 : Callable Try.prog 119 := ⟨⟨_, Try.func119, by kernel_rfl, by kernel_rfl⟩⟩
theorem c71 : Callable Try.prog 71 := ⟨⟨_, Try.func71, by kernel_rfl, by kernel_rfl⟩⟩
def intS (z : Int) : Segs := [.one (.raw (.int .i64 z))]
abbrev rowI (zs : List Int) : Option ABlk := some (.row .inx 3 1 (zs.map intS) [])
abbrev rowRI (zs : List Int) : Option ABlk := some (.row .ro 3 1 (zs.map intS) [])
theorem rowDen_int (ρ : Ren) (zs : List Int) : rowDen ρ (zs.map intS) = zs.map (Value.int .i64) := by
  unfold rowDen
  rw [List.flatMap_map]
  induction zs with
  | nil => rfl
  | cons a l ih => simp only [List.flatMap_cons, List.map_cons, ih]; rfl
theorem Sat.grownBy {Γ : Ctx} {ρ : Ren} {hp : AHeap} {w : World} (h : Sat Γ ρ hp w) (os : Array Obj) : Sat Γ ρ hp (Go.Sort.grow w os) := by
  have hg : ∀ c, c < w.heap.size → (Go.Sort.grow w os).heap[c]? = w.heap[c]? := fun c hc => by
    show (w.heap ++ os)[c]? = _
    rw [Array.getElem?_append_left hc]
  refine ⟨fun i b hi => (h.blk i b hi).congr rfl (fun _ _ => rfl) (hg _ (h.blk i b hi).lt), h.inj, h.foot, fun c hc hF => ?_, ?_, h.os, h.tape, h.output, h.fix⟩
  · rw [hg c (Nat.lt_of_lt_of_le hc h.size)]; exact h.frame c hc hF
  · show Γ.W.heap.size ≤ (w.heap ++ os).size
    rw [Array.size_append]; have := h.size; omega
theorem holds_row {Γ : Ctx} {ρ : Ren} {w : World} {id : Nat} {zs : List Int} {J : List Segs} (h : BlkSat Γ ρ w id (.row .inx 3 1 (zs.map intS ++ J) [])) : Holds (Value.int .i64) w (ρ id).b (ρ id).sh zs.toArray := by
  obtain ⟨_, _, _, c, pre, post, h1, h2, h3, _⟩ := h
  intro j hj
  have hj' : j < zs.length := by simpa using hj
  constructor
  · unfold World.cell?
    simp only [h1, Option.isSome_none, Bool.false_eq_true, if_false]
    rw [← Array.getElem?_toList, h2, List.getElem?_append_right (by omega), rowDen_append, rowDen_int, List.append_assoc, List.getElem?_append_left (by simp; omega)]
    rw [show (ρ id).sh + j - pre.length = j by omega, List.getElem?_map, List.getElem?_eq_getElem hj']
    simp [getElem!_pos, hj']
  · unfold World.frozen?
    simp only [h1]
    simp
theorem cells_put {c : Array Value} {pre post : List Value} {zs zs' : List Int} (h : c.toList = pre ++ (zs.map (Value.int .i64) ++ post)) (hl : zs'.length = zs.length) :
    (putCells (Value.int .i64) pre.length zs'.toArray c).toList = pre ++ (zs'.map (Value.int .i64) ++ post) := by
  have hsz : c.size = pre.length + (zs.length + post.length) := by
    have := congrArg List.length h
    simpa using this
  apply List.ext_getElem?
  intro k
  rw [Array.getElem?_toList]
  unfold putCells
  rw [Array.getElem?_mapIdx, ← Array.getElem?_toList, h]
  simp only [List.getElem?_append, List.length_map, hl]
  by_cases h1 : k < pre.length
  · rw [if_pos h1, if_pos h1, List.getElem?_eq_getElem h1, Option.map_some, if_neg (by omega)]
  · rw [if_neg h1, if_neg h1]
    by_cases h2 : k - pre.length < zs.length
    · rw [if_pos h2, if_pos h2, List.getElem?_map, List.getElem?_map, List.getElem?_eq_getElem h2, List.getElem?_eq_getElem (by omega)]
      simp only [Option.map_some]
      rw [if_pos (by simp; omega)]
      have h3 : k - pre.length < zs'.length := by omega
      simp [getElem!_pos, h3]
    · rw [if_neg h2, if_neg h2]
      cases post[k - pre.length - zs.length]? with
      | none => rfl
      | some x =>
        simp only [Option.map_some]
        rw [if_neg (by simp; omega)]
theorem Sat.putInts {Γ : Ctx} {ρ : Ren} {hp : AHeap} {w : World} {id : Nat} {zs zs' : List Int} (h : Sat Γ ρ hp w) (hb : hp id = rowI zs) (hl : zs'.length = zs.length) (n : Nat) :
    Sat Γ ρ (upd hp id (rowI zs')) (putRow (Value.int .i64) (Go.Sort.ahead w n) (ρ id).b (ρ id).sh zs'.toArray) := by
  have hbs := h.blk id _ hb
  obtain ⟨_, _, h3, c, pre, post, a1, a2, a3, a4⟩ := hbs
  rw [rowDen_int] at a2
  have hp1 : (putRow (Value.int .i64) (Go.Sort.ahead w n) (ρ id).b (ρ id).sh zs'.toArray).heap[(ρ id).b]? = some (.cells (putCells (Value.int .i64) (ρ id).sh zs'.toArray c) 3 (0, 0)) := by
    show (w.heap.modify _ _)[_]? = _
    rw [Array.getElem?_modify, if_pos rfl, a1]; rfl
  refine h.write (b' := .row .inx 3 1 (zs'.map intS) []) hb rfl ?_ (fun k hk => ?_) (by simp [Go.Sort.ahead]) rfl rfl rfl
  · refine ⟨fun e he => ?_, fun e he x hx => ?_, ?_, _, pre, post, hp1, ?_, a3, ?_⟩
    · obtain ⟨z, _, rfl⟩ := List.mem_map.1 he; exact ⟨rfl, rfl⟩
    · obtain ⟨z, _, rfl⟩ := List.mem_map.1 he; cases hx
    · rw [List.length_map] at h3 ⊢; omega
    · rw [rowDen_int, ← a3]; exact cells_put a2 hl
    · have : (putCells (Value.int .i64) (ρ id).sh zs'.toArray c).size = c.size := by simp [putCells]
      rw [this]; exact a4
  · show (w.heap.modify _ _)[k]? = _
    rw [Array.getElem?_modify, if_neg (fun e => hk e.symm)]
def sortZ (zs : List Int) : List Int := zs.mergeSort fun x y => decide (x ≤ y)
theorem sort_ok (zs : List Int) (hm : zs.length < 2 ^ 62) : FunT Try.prog 118 [.sc (.sl 0 0 1 zs.length none)] [rowI zs] (.tup []) [rowI (sortZ zs)] := by
  intro Γ ρ w hn hs
  have hb : hpL [rowI zs] 0 = rowI zs := rfl
  have hl : (sortZ zs).length = zs.length := List.length_mergeSort zs
  have hbs := hs.blk 0 _ hb
  have hH := holds_row (J := []) (by rw [List.append_nil]; exact hbs)
  have := Any.slices_Sort_int Try.laySort (ρ 0).b (ρ 0).sh ((ρ 0).tot - 0) zs w hH hbs.lt (by omega)
  change Calls Try.prog 118 _ _ _ at this
  refine Calls.mono this fun e w' he => ?_
  obtain ⟨he1, n, os, hw⟩ := he
  refine ⟨ρ, .tuple #[], he1, .inr rfl, ?_⟩
  have e : hpL [rowI (sortZ zs)] = upd (hpL [rowI zs]) 0 (rowI (sortZ zs)) := by
    funext i
    cases i <;> rfl
  rw [hw, e]
  exact (hs.putInts hb hl n).grownBy os
theorem sort_none (v : SV) (h : LHp) (hv : ∀ ρ, ∃ p c, v.den ρ = .slice p 0 c) : FunT Try.prog 118 [.sc v] h (.tup []) h := by
  intro Γ ρ w hn hs
  obtain ⟨p, c, e⟩ := hv ρ
  have := Any.slices_Sort_int_none Try.laySort p c w
  change Calls Try.prog 118 _ _ _ at this
  have e2 : (AV.dens ρ [.sc v]).toArray = #[Value.slice p 0 c] := by simp only [AV.dens, AV.den, e]
  rw [e2]
  refine Calls.mono this fun e w' he => ?_
  obtain ⟨he1, hw⟩ := he
  exact ⟨ρ, .tuple #[], he1, .inr rfl, hw ▸ hs⟩
/-- A list without repeated neighbours. -/
def compZ (zs : List Int) : List Int := Lib.compact zs
theorem comp_le (zs : List Int) : (compZ zs).length ≤ zs.length := Lib.compact_length_le zs
def junkC (zs : List Int) : List Segs := (List.replicate (zs.length - (compZ zs).length) (0 : Int)).map intS
theorem compact_ok (zs : List Int) (hm : zs.length < 2 ^ 62) : FunT Try.prog 119 [.sc (.sl 0 0 1 zs.length none)] [rowI zs] (.sc (.sl 0 0 1 (compZ zs).length none)) [some (.row .inx 3 1 ((compZ zs).map intS ++ junkC zs) [])] := by
  intro Γ ρ w hn hs
  have hb : hpL [rowI zs] 0 = rowI zs := rfl
  have hl : (compZ zs ++ List.replicate (zs.length - (compZ zs).length) (0 : Int)).length = zs.length := by
    have := comp_le zs
    simp; omega
  have hbs := hs.blk 0 _ hb
  have hH := holds_row (J := []) (by rw [List.append_nil]; exact hbs)
  have htot : zs.length ≤ (ρ 0).tot := by
    have := hbs.2.2.1
    rwa [List.length_map] at this
  have := Any.slices_Compact_int Try.layCompact (ρ 0).b (ρ 0).sh ((ρ 0).tot - 0) zs w hH (by omega) (by omega)
  change Calls Try.prog 119 _ _ _ at this
  refine Calls.mono this fun e w' he => ?_
  obtain ⟨he1, n, hw⟩ := he
  refine ⟨ρ, _, he1, .inr rfl, ?_⟩
  have e : hpL [some (.row .inx 3 1 ((compZ zs).map intS ++ junkC zs) [])] = upd (hpL [rowI zs]) 0 (rowI (compZ zs ++ List.replicate (zs.length - (compZ zs).length) (0 : Int))) := by
    funext i
    cases i
    · show some _ = some _
      rw [List.map_append]; rfl
    · rfl
  rw [hw, e]
  exact hs.putInts hb hl n
theorem compact_none (v : SV) (h : LHp) (hv : ∀ ρ, ∃ p c, v.den ρ = .slice p 0 c) : FunT Try.prog 119 [.sc v] h (.sc v) h := by
  intro Γ ρ w hn hs
  obtain ⟨p, c, e⟩ := hv ρ
  have := Any.slices_Compact_int_empty Try.layCompact p c w
  change Calls Try.prog 119 _ _ _ at this
  have e2 : (AV.dens ρ [.sc v]).toArray = #[Value.slice p 0 c] := by simp only [AV.dens, AV.den, e]
  rw [e2]
  refine Calls.mono this fun e1 w' he => ?_
  obtain ⟨he1, hw⟩ := he
  exact ⟨ρ, _, he1, .inr (by simp only [AV.den, e]), hw ▸ hs⟩
theorem cloneI_nil : FunT Try.prog 117 [.sc nilS] [] (.sc nilS) [] := by
  refine FunT.ev tabOk mixed Try.func117 rfl ?_
  conv => whnf
  repeat (first | (refine ⟨(by kernel_rfl : chkR _ _ _ _ = true), ?_⟩; conv => whnf) | (refine EvOr.go ?_; conv => whnf))
  exact retQ.one rfl (.inr rfl) rfl (Nat.le_of_ble_eq_true rfl) rfl
theorem cloneI_0 (co : Option Nat) : FunT Try.prog 117 [.sc (.sl 0 0 1 0 co)] [rowRI []] (.sc (.sl 1 0 1 0 (some 0))) [rowRI [], none] := by
  cases co <;>
  · refine FunT.ev tabOk mixed Try.func117 rfl ?_
    conv => whnf
    repeat (first | (refine ⟨(by kernel_rfl : chkR _ _ _ _ = true), ?_⟩; conv => whnf) | (refine EvOr.go ?_; conv => whnf))
    refine ⟨Nat.le_refl _, ?_⟩
    conv => whnf
    repeat (first | (refine ⟨(by kernel_rfl : chkR _ _ _ _ = true), ?_⟩; conv => whnf) | (refine EvOr.go ?_; conv => whnf))
    refine ⟨Nat.le_refl _, ?_⟩
    conv => whnf
    repeat (first | (refine ⟨(by kernel_rfl : chkR _ _ _ _ = true), ?_⟩; conv => whnf) | (refine EvOr.go ?_; conv => whnf))
    refine ⟨fun _ => ⟨Nat.le_refl _, ?_⟩, fun h => absurd h (by decide)⟩
    conv => whnf
    repeat (first | (refine ⟨(by kernel_rfl : chkR _ _ _ _ = true), ?_⟩; conv => whnf) | (refine EvOr.go ?_; conv => whnf))
    exact retQ.one rfl (.inr rfl) rfl (Nat.le_of_ble_eq_true rfl) rfl
theorem cloneI_row (zs : List Int) (co : Option Nat) (h0 : 0 < zs.length) (hb : zs.length < 2 ^ 32) : FunT Try.prog 117 [.sc (.sl 0 0 1 zs.length co)] [rowRI zs] (.sc (.sl 1 0 1 zs.length none)) [rowRI zs, rowI zs] := by
  have e1 : zs.map intS = List.take zs.length (List.drop 0 (zs.map intS)) := by
    rw [List.drop_zero, List.take_of_length_le (by simp)]
  have key : FunT Try.prog 117 [.sc (.sl 0 0 1 zs.length co)] [rowRI zs] (.sc (.sl 1 0 1 (0 + zs.length) none)) [rowRI zs, some (.row .inx 3 1 (List.take zs.length (List.drop 0 (zs.map intS))) [])] := by
    cases co <;>
    · refine FunT.ev tabOk mixed Try.func117 rfl ?_
      conv => whnf
      repeat (first | (refine ⟨(by kernel_rfl : chkR _ _ _ _ = true), ?_⟩; conv => whnf) | (refine EvOr.go ?_; conv => whnf))
      refine ⟨by show 0 + zs.length ≤ (zs.map intS).length; simp, ?_⟩
      conv => whnf
      repeat (first | (refine ⟨(by kernel_rfl : chkR _ _ _ _ = true), ?_⟩; conv => whnf) | (refine EvOr.go ?_; conv => whnf))
      refine ⟨Nat.le_refl _, ?_⟩
      conv => whnf
      repeat (first | (refine ⟨(by kernel_rfl : chkR _ _ _ _ = true), ?_⟩; conv => whnf) | (refine EvOr.go ?_; conv => whnf))
      refine ⟨fun h => absurd h (by show ¬ zs.length = 0; omega), fun _ => ⟨⟨by show 0 < 0 + zs.length; omega, by show (2 * (0 + zs.length) + 192) * 8 ≤ _; omega⟩, ?_⟩⟩
      conv => whnf
      repeat (first | (refine ⟨(by kernel_rfl : chkR _ _ _ _ = true), ?_⟩; conv => whnf) | (refine EvOr.go ?_; conv => whnf))
      exact retQ.oneS [0, 2] rfl (by first | exact .inr rfl | exact .inl rfl) rfl (by kernel_rfl) (by first | rfl | kernel_rfl)
  rw [Nat.zero_add, ← e1] at key
  exact key
/-- The different numbers of a list, rising. -/
def unl (zs : List Int) : List Int := compZ (sortZ zs)
theorem sort_len (zs : List Int) : (sortZ zs).length = zs.length := List.length_mergeSort zs
theorem unl_le (zs : List Int) : (unl zs).length ≤ zs.length := by
  have := comp_le (sortZ zs)
  rw [sort_len] at this; exact this
def junkU (zs : List Int) : List Segs := junkC (sortZ zs)
theorem unlike_nil : FunT Try.prog 71 [.sc nilS] [] (.sc nilS) [] := by
  have g2 := sort_none nilS [] (fun ρ => ⟨none, 0, rfl⟩)
  have g3 := compact_none nilS [] (fun ρ => ⟨none, 0, rfl⟩)
  refine FunT.ev tabOk mixed Try.func71 rfl ?_
  conv => whnf
  repeat (first | (refine ⟨(by kernel_rfl : chkR _ _ _ _ = true), ?_⟩; conv => whnf) | (refine EvOr.go ?_; conv => whnf))
  refine CallG.use cloneI_nil c117 [] [] ?_ ?_ ?_ ?_ ?_ ?_; rfl; rfl; kernel_rfl; rfl; rfl
  conv => whnf
  repeat (first | (refine ⟨(by kernel_rfl : chkR _ _ _ _ = true), ?_⟩; conv => whnf) | (refine EvOr.go ?_; conv => whnf))
  refine CallG.use g2 c118 [] [] ?_ ?_ ?_ ?_ ?_ ?_; rfl; rfl; kernel_rfl; rfl; rfl
  conv => whnf
  repeat (first | (refine ⟨(by kernel_rfl : chkR _ _ _ _ = true), ?_⟩; conv => whnf) | (refine EvOr.go ?_; conv => whnf))
  refine CallG.use g3 c119 [] [] ?_ ?_ ?_ ?_ ?_ ?_; rfl; rfl; kernel_rfl; rfl; rfl
  conv => whnf
  repeat (first | (refine ⟨(by kernel_rfl : chkR _ _ _ _ = true), ?_⟩; conv => whnf) | (refine EvOr.go ?_; conv => whnf))
  exact retQ.one rfl (.inr rfl) rfl (Nat.le_of_ble_eq_true rfl) rfl
theorem unlike_0 (co : Option Nat) : FunT Try.prog 71 [.sc (.sl 0 0 1 0 co)] [rowRI []] (.sc (.sl 1 0 1 0 (some 0))) [rowRI [], none] := by
  have g1 := cloneI_0 co
  have g2 := sort_none (.sl 0 0 1 0 (some 0)) [none] (fun ρ => ⟨_, 0, rfl⟩)
  have g3 := compact_none (.sl 0 0 1 0 (some 0)) [none] (fun ρ => ⟨_, 0, rfl⟩)
  cases co <;>
  · refine FunT.ev tabOk mixed Try.func71 rfl ?_
    conv => whnf
    repeat (first | (refine ⟨(by kernel_rfl : chkR _ _ _ _ = true), ?_⟩; conv => whnf) | (refine EvOr.go ?_; conv => whnf))
    refine CallG.use g1 c117 [0] [] ?_ ?_ ?_ ?_ ?_ ?_; rfl; rfl; kernel_rfl; rfl; rfl
    conv => whnf
    repeat (first | (refine ⟨(by kernel_rfl : chkR _ _ _ _ = true), ?_⟩; conv => whnf) | (refine EvOr.go ?_; conv => whnf))
    refine CallG.use g2 c118 [1] [] ?_ ?_ ?_ ?_ ?_ ?_; rfl; rfl; kernel_rfl; rfl; rfl
    conv => whnf
    repeat (first | (refine ⟨(by kernel_rfl : chkR _ _ _ _ = true), ?_⟩; conv => whnf) | (refine EvOr.go ?_; conv => whnf))
    refine CallG.use g3 c119 [1] [] ?_ ?_ ?_ ?_ ?_ ?_; rfl; rfl; kernel_rfl; rfl; rfl
    conv => whnf
    repeat (first | (refine ⟨(by kernel_rfl : chkR _ _ _ _ = true), ?_⟩; conv => whnf) | (refine EvOr.go ?_; conv => whnf))
    exact retQ.one rfl (.inr rfl) rfl (Nat.le_of_ble_eq_true rfl) rfl
theorem unlike_row (zs : List Int) (co : Option Nat) (h0 : 0 < zs.length) (hb : zs.length < 2 ^ 32) : FunT Try.prog 71 [.sc (.sl 0 0 1 zs.length co)] [rowRI zs] (.sc (.sl 1 0 1 (unl zs).length none)) [rowRI zs, some (.row .inx 3 1 ((unl zs).map intS ++ junkU zs) [])] := by
  have g1 := cloneI_row zs co h0 hb
  have g2 := sort_ok zs (by omega)
  have g3 := compact_ok (sortZ zs) (by rw [sort_len]; omega)
  rw [sort_len] at g3
  cases co <;>
  · refine FunT.ev tabOk mixed Try.func71 rfl ?_
    conv => whnf
    repeat (first | (refine ⟨(by kernel_rfl : chkR _ _ _ _ = true), ?_⟩; conv => whnf) | (refine EvOr.go ?_; conv => whnf))
    refine CallG.use g1 c117 [0] [] ?_ ?_ ?_ ?_ ?_ ?_; rfl; rfl; kernel_rfl; rfl; rfl
    conv => whnf
    repeat (first | (refine ⟨(by kernel_rfl : chkR _ _ _ _ = true), ?_⟩; conv => whnf) | (refine EvOr.go ?_; conv => whnf))
    refine CallG.use g2 c118 [1] [0] ?_ ?_ ?_ ?_ ?_ ?_; rfl; rfl; kernel_rfl; rfl; rfl
    conv => whnf
    repeat (first | (refine ⟨(by kernel_rfl : chkR _ _ _ _ = true), ?_⟩; conv => whnf) | (refine EvOr.go ?_; conv => whnf))
    refine CallG.use g3 c119 [1] [0] ?_ ?_ ?_ ?_ ?_ ?_; rfl; rfl; kernel_rfl; rfl; rfl
    conv => whnf
    repeat (first | (refine ⟨(by kernel_rfl : chkR _ _ _ _ = true), ?_⟩; conv => whnf) | (refine EvOr.go ?_; conv => whnf))
    exact retQ.one rfl (.inr rfl) rfl (Nat.le_of_ble_eq_true rfl) rfl
end Go.Proofs.Ytdmcbfmpnakdfaa.Eng
