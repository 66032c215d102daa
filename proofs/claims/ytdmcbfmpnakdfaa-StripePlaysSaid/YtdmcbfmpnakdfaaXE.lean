/- Slices as arguments: where they lie. -/
import Derived.Test.YtdmcbfmpnakdfaaEp
import Derived.OpenShut
import Derived.WideShapes
import Derived.ChangeArms
import Derived.Test.YtdmcbfmpnakdfaaXB
namespace Go.Proofs.Ytdmcbfmpnakdfaa.Oa
open Go Go.ChangeShapes Go.WideShapes Go.RowKit
variable {P : Program} {w : World}
theorem rowAt_off {fits : TypeId → Bool} : ∀ {d : Nat} {e : TypeId} {count off n : Nat}, rowAt P fits d e count off n = true → off ≤ count * P.cellsOf e
  | 0, _, _, _, _, h => by cases h
  | d + 1, e, count, off, n, h => by
    unfold rowAt at h
    by_cases hs : P.cellsOf e = 0
    · simp [hs] at h
    · simp only [hs, if_false, Bool.or_eq_true, Bool.and_eq_true, beq_iff_eq, decide_eq_true_eq] at h
      have hd := Nat.div_add_mod off (P.cellsOf e)
      have hm := Nat.mod_lt off (Nat.pos_of_ne_zero hs)
      rcases h with ⟨⟨h1, h2⟩, _⟩ | ⟨h1, _⟩
      · have : off / P.cellsOf e * P.cellsOf e ≤ count * P.cellsOf e := Nat.mul_le_mul_right _ (by omega)
        rw [Nat.mul_comm] at hd
        omega
      · have : (off / P.cellsOf e + 1) * P.cellsOf e ≤ count * P.cellsOf e := Nat.mul_le_mul_right _ h1
        rw [Nat.add_mul, Nat.one_mul] at this
        rw [Nat.mul_comm] at hd
        omega
theorem liesAt_off : ∀ {d : Nat} {e u : TypeId} {count off n : Nat}, liesAt P d e count off u n = true → off ≤ count * P.cellsOf e
  | 0, _, _, _, _, _, h => by cases h
  | d + 1, e, u, count, off, n, h => by
    unfold liesAt at h
    rw [Bool.or_eq_true] at h
    rcases h with h | h
    · exact rowAt_off h
    · split at h
      · exact liesAt_off h
      · cases h
/-- A slice that is not nil: its block is there, and it begins within it. -/
theorem slice_lies {t e : TypeId} {r : Reach} {b0 : Nat} {v : Value} (ht : P.underlying t = some (.slice e)) (hv : Value.okWide P w r b0 t v) :
    v = .slice none 0 0 ∨ ∃ b off len cap c t' fr, v = .slice (some ⟨b, off, none⟩) len cap ∧ len ≤ cap ∧ w.heap[b]? = some (.cells c t' fr) ∧ off ≤ c.size := by
  obtain ⟨a, len, cap, rfl⟩ := okWide_slice ht hv
  simp only [Value.okWide, ht, Cell.okWide, Cell.ok] at hv
  cases a with
  | none =>
    left
    cases len <;> cases cap <;> simp_all
  | some a =>
    right
    obtain ⟨h1, _, _, h2, row, cells, h3, h4⟩ := hv
    obtain ⟨b, off, spot⟩ := a
    obtain rfl : spot = none := h2
    unfold World.shape? at h3
    split at h3
    · rename_i c elem fr hb
      injection h3 with h3
      injection h3 with h5 h6
      subst h5; subst h6
      exact ⟨b, off, len, cap, c, _, fr, rfl, h1, hb, Nat.le_trans (liesAt_off h4) (Nat.div_mul_le_self _ _)⟩
    · cases h3
end Go.Proofs.Ytdmcbfmpnakdfaa.Oa
namespace Go.Proofs.Ytdmcbfmpnakdfaa.Oa
open Go Go.ChangeShapes Go.WideShapes Go.RowKit
variable {H : Type} {enc : TypeId × Value → H} {P : Program} {w : World} {base : Nat} {spare : Nat → Bool} {held : Bool}
theorem cells_take {c : Array Value} {off : Nat} : ∀ {m : Nat} {cs : List Value}, cs.length = m → (∀ i, i < m → c[off + i]? = cs[i]?) → (c.toList.drop off).take m = cs := by
  intro m cs hl h
  apply List.ext_getElem?
  intro i
  by_cases hi : i < m
  · rw [List.getElem?_take_of_lt hi, List.getElem?_drop, Array.getElem?_toList, h i hi]
  · rw [List.getElem?_eq_none (by rw [List.length_take]; omega), List.getElem?_eq_none (by omega)]
/-- A slice of elements, each as D says of some a. -/
theorem open_rows {α : Type} (D : α → List Value) (W : α → Prop) {t e : TypeId} {sz : Nat} {r : Reach} {b0 : Nat} {v : Value} {d : DataW H} {p : List MemPlace} (ht : P.underlying t = some (.slice e)) (hc : P.cellsOf e = sz)
    (hD : ∀ (n : Nat) (cs : List Value) (x : DataW H × List MemPlace), DataW.trod enc P w base spare held n e cs = some x → ∃ a, cs = D a ∧ W a)
    (hv : Value.okWide P w r b0 t v) (h : DataW.Trod enc P w base spare held t v d p) :
    v = .slice none 0 0 ∨ ∃ (b off cap : Nat) (l : List α) (c : Array Value) (t' : TypeId) (fr : Nat × Nat) (pre post : List Value), v = .slice (some ⟨b, off, none⟩) l.length cap ∧ l.length ≤ cap ∧ (cap : Int) ≤ maxLen ∧ w.heap[b]? = some (.cells c t' fr) ∧ c.toList = pre ++ (l.flatMap D ++ post) ∧ pre.length = off ∧ ∀ a ∈ l, W a := by
  rcases slice_lies ht hv with rfl | ⟨b, off, len, cap, c, t', fr, rfl, hlc, hb, ho⟩
  · exact .inl rfl
  right
  obtain ⟨fuel, hf⟩ := h
  have hcs : (Value.slice (some ⟨b, off, none⟩) len cap).cells.toList = [.slice (some ⟨b, off, none⟩) len cap] := rfl
  rw [hcs] at hf
  rcases DataW.trod_slice ht hf with ⟨he, _⟩ | ⟨ad, len', cap', elems, rest, n, _, he, _, _, _, hcm, hel, hget, _⟩
  · injection he with he; cases he
  injection he with he
  injection he with h1 h2 h3
  injection h1 with h1
  subst h1; subst h2; subst h3
  have one : ∀ i, i < len → ∃ a, W a ∧ (D a).length = sz ∧ ∀ j, j < sz → c[off + i * sz + j]? = (D a)[j]? := by
    intro i hi
    have hg := hget i hi
    rw [hc, List.getElem?_eq_getElem (by omega)] at hg
    obtain ⟨cs, g1, g2⟩ := Option.bind_eq_some_iff.1 hg
    obtain ⟨a, rfl, ha⟩ := hD _ _ _ g2
    obtain ⟨_, g3, g4⟩ := World.cells?_some g1
    refine ⟨a, ha, g3, fun j hj => ?_⟩
    rw [← g4 j hj]
    have ea : ((⟨b, off, none⟩ : Addr).add (i * sz)).add j = ⟨b, off + i * sz + j, none⟩ := by
      unfold Addr.add
      by_cases h1 : i * sz = 0
      · by_cases h2 : j = 0
        · simp [h1, h2]
        · simp [h1, h2]
      · by_cases h2 : j = 0
        · simp [h1, h2]
        · simp [h1, h2]
    rw [ea]
    unfold World.cell?
    simp only [hb]
    rfl
  have all : ∀ k, k ≤ len → ∃ l : List α, l.length = k ∧ (∀ a ∈ l, W a) ∧ (l.flatMap D).length = k * sz ∧ ∀ j, j < k * sz → c[off + j]? = (l.flatMap D)[j]? := by
    intro k
    induction k with
    | zero => exact fun _ => ⟨[], rfl, by simp, by simp, by simp⟩
    | succ k ih =>
      intro hk
      obtain ⟨l, l1, l2, l3, l4⟩ := ih (by omega)
      obtain ⟨a, a1, a2, a3⟩ := one k (by omega)
      refine ⟨l ++ [a], by simp [l1], ?_, by simp [l3, a2, Nat.add_mul], fun j hj => ?_⟩
      · intro x hx
        rcases List.mem_append.1 hx with hx | hx
        · exact l2 x hx
        · rw [List.mem_singleton.1 hx]; exact a1
      · rw [List.flatMap_append]
        by_cases hjk : j < k * sz
        · rw [List.getElem?_append_left (by omega), ← l4 j hjk]
        · rw [List.getElem?_append_right (by omega), l3]
          rw [Nat.add_mul, Nat.one_mul] at hj
          have := a3 (j - k * sz) (by omega)
          rw [show off + k * sz + (j - k * sz) = off + j by omega] at this
          rw [this]; simp
  obtain ⟨l, l1, l2, l3, l4⟩ := all len (Nat.le_refl _)
  refine ⟨b, off, cap, l, c, t', fr, c.toList.take off, (c.toList.drop off).drop (len * sz), by rw [l1], by omega, by exact_mod_cast hcm, hb, ?_, by simp; omega, l2⟩
  have := cells_take (off := off) (c := c) l3 l4
  rw [← this, List.take_append_drop, List.take_append_drop]
end Go.Proofs.Ytdmcbfmpnakdfaa.Oa
/- Arrays of whole numbers, and of such arrays, opened: what an argument that reads as data holds. -/
namespace Go.Proofs.Ytdmcbfmpnakdfaa.Op
open Go.ChangeShapes Go.WideShapes Go.RowKit
variable {H : Type} {enc : TypeId × Value → H} {P : Program} {w : World} {base : Nat} {spare : Nat → Bool} {held : Bool} {fuel : Nat} {t e : TypeId} {cs : List Value} {x : DataW H × List MemPlace}

/-- The number in a cell. -/
def numOf : Value → Int
  | .int _ z => z
  | _ => 0

theorem row_ints {n : Nat} {k : IntKind} (ht : P.underlying t = some (.array n e)) (he : P.underlying e = some (.int k)) (hce : P.cellsOf e = 1) (hct : P.cellsOf t = n)
    (h : DataW.trod enc P w base spare held fuel t cs = some x) : ∃ l : List Int, l.length = n ∧ cs = l.map (Value.int k) ∧ (∀ z ∈ l, (Lit.int k z).wf = true) := by
  obtain ⟨xs, m, _, _, hl, hxs, hget⟩ := DataW.trod_array ht h
  have hlen : cs.length = n := by rw [hl, hct]
  have one : ∀ i, i < n → ∃ z, cs[i]? = some (.int k z) ∧ (Lit.int k z).wf = true := by
    intro i hi
    have hg := hget i hi
    rw [hce, Nat.mul_one] at hg
    have hx : xs[i]? = some xs[i] := List.getElem?_eq_getElem (by omega)
    rw [hx] at hg
    obtain ⟨z, hz, _, hwf⟩ := DataW.trod_int he hg
    refine ⟨z, ?_, hwf⟩
    have : (List.take 1 (List.drop i cs))[0]? = some (.int k z) := by rw [hz]; rfl
    rw [List.getElem?_take_of_lt (by decide), List.getElem?_drop, Nat.add_zero] at this
    exact this
  refine ⟨cs.map numOf, by simp [hlen], ?_, ?_⟩
  · apply List.ext_getElem?
    intro i
    by_cases hi : i < n
    · obtain ⟨z, hz, _⟩ := one i hi
      simp [hz, numOf]
    · rw [List.getElem?_eq_none (by omega), List.getElem?_eq_none (by simp; omega)]
  · intro z hz
    rw [List.mem_map] at hz
    obtain ⟨v, hv, rfl⟩ := hz
    obtain ⟨i, hi, rfl⟩ := List.getElem_of_mem hv
    obtain ⟨z, hz, hwf⟩ := one i (by omega)
    rw [List.getElem?_eq_getElem hi, Option.some.injEq] at hz
    rw [hz]
    exact hwf

/-- An array of whole numbers, by value. -/
theorem open_row {n : Nat} {k : IntKind} {r : Reach} {b0 : Nat} {v : Value} {d : DataW H} {p : List MemPlace} (ht : P.underlying t = some (.array n e)) (he : P.underlying e = some (.int k)) (hct : P.cellsOf t = n) (hce : P.cellsOf e = 1)
    (hv : Value.okWide P w r b0 t v) (h : DataW.Trod enc P w base spare held t v d p) :
    ∃ l : List Int, v = .agg (l.map (Value.int k)).toArray ∧ l.length = n ∧ (∀ z ∈ l, (Lit.int k z).wf = true) := by
  have hv' : ∃ cs : Array Value, v = .agg cs ∧ cs.size = P.cellsOf t := by
    simp only [Value.okWide, ht] at hv
    obtain ⟨cs, h1, h2, _⟩ := hv
    exact ⟨cs, h1, h2⟩
  obtain ⟨cs, rfl, hsz⟩ := hv'
  obtain ⟨fuel, hf⟩ := h
  obtain ⟨l, h1, h2, h3⟩ := row_ints ht he hce hct hf
  refine ⟨l, ?_, h1, h3⟩
  rw [← h2]
  simp [Value.cells]

end Go.Proofs.Ytdmcbfmpnakdfaa.Op
/- Lists of sectors and of acts as arguments; three bytes. -/
namespace Go.Proofs.Ytdmcbfmpnakdfaa.Oa
open Go Go.ChangeShapes Go.WideShapes Go.RowKit Go.Proofs Go.Proofs.Ytdmcbfmpnakdfaa.Eng Go.Proofs.Ytdmcbfmpnakdfaa.Op
set_option maxRecDepth 20000
variable {H : Type} {enc : TypeId × Value → H} {w : World} {base : Nat} {spare : Nat → Bool} {held : Bool}
theorem secs_cells {n : Nat} {cs : List Value} {x : DataW H × List MemPlace} (h : DataW.trod enc Try.prog w base spare held n 34 cs = some x) : ∃ s : List Nat, cs = bysN 64 s ∧ Sec s := by
  obtain ⟨l, hl, rfl, hw⟩ := row_ints (n := 64) Try.underlying34 Try.underlying5 (by kernel_rfl) (by kernel_rfl) h
  have hb : ∀ z ∈ l, 0 ≤ z ∧ z < 256 := fun z hz => by
    have h' := hw z hz
    simp [Lit.wf, IntKind.min, IntKind.max, IntKind.bits, IntKind.signed] at h'
    omega
  refine ⟨l.map Int.toNat, ?_, by simp [hl], fun x hx => ?_⟩
  · apply List.ext_getElem?
    intro i
    unfold bysN
    by_cases hi : i < 64
    · have h0 := hb (l[i]'(by omega)) (List.getElem_mem _)
      have hi' : i < l.length := by omega
      simp only [List.getElem?_map, List.getElem?_eq_getElem hi', Option.map_some, List.getElem?_range hi, List.getD_eq_getElem?_getD, Option.getD_some]
      congr 2
      omega
    · rw [List.getElem?_eq_none (by simp; omega), List.getElem?_eq_none (by simp; omega)]
  · obtain ⟨z, hz, rfl⟩ := List.mem_map.1 hx
    have := hb z hz
    omega
theorem open_secs {r : Reach} {b0 : Nat} {v : Value} {d : DataW H} {p : List MemPlace} (hv : Value.okWide Try.prog w r b0 22 v) (h : DataW.Trod enc Try.prog w base spare held 22 v d p) :
    ∃ (c : Option Nat) (l : List (List Nat)) (s : Spot), (slOk c l ∧ Secs l) ∧ ∀ (Γ : Ctx) (ρ : Ren) (id : Nat), Γ.W = w → ρ id = s → (AV.sc (slA c 64 l.length id)).den ρ = v ∧ ∀ b, secsB c l = some b → BlkSat Γ ρ w id b ∧ b.w = false := by
  rcases open_rows (sz := 64) (fun s : List Nat => bysN 64 s) Sec Try.underlying22 (by kernel_rfl) (fun n cs x h => secs_cells h) hv h with rfl | ⟨b, off, cap, l, c, t', fr, pre, post, rfl, hlc, hcm, hb, hcs, hpre, hW⟩
  · exact ⟨none, [], ⟨0, 0, 0⟩, ⟨rfl, fun _ h => by cases h⟩, fun Γ ρ id _ _ => ⟨rfl, fun b hb => by cases hb⟩⟩
  · refine ⟨some cap, l, ⟨b, off, cap⟩, ⟨⟨hlc, by simp only [maxLen] at hcm; omega⟩, hW⟩, fun Γ ρ id hΓ hρ => ⟨?_, fun bb hbb => ?_⟩⟩
    · show Value.slice (some ⟨(ρ id).b, (ρ id).sh + 0 * 64, none⟩) l.length cap = _
      rw [hρ]; simp
    · injection hbb with hbb
      subst hbb
      refine ⟨⟨fun e he => ?_, fun e he x hx => ?_, ?_, c, t', fr, pre, post, ?_, ?_, ?_, ?_, ?_⟩, rfl⟩
      · obtain ⟨a, ha, rfl⟩ := List.mem_map.1 he
        exact ⟨rfl, rfl⟩
      · obtain ⟨a, ha, rfl⟩ := List.mem_map.1 he
        cases hx
      · rw [hρ, List.length_map]; exact hlc
      · rw [hρ]; exact hb
      · rw [hcs]
        congr 2
        unfold rowDen
        rw [List.flatMap_map]
        simp only [secS, Segs.den, Seg.den, List.append_nil]
      · rw [hρ]; exact hpre
      · rw [hρ, hΓ]; exact (Array.getElem?_eq_some_iff.1 hb).1
      · rw [hΓ]
def DA (a : ActS) : List Value := [.int .i64 a.w, .int .i64 a.c] ++ bysN 64 a.s
theorem i64_wf {z : Int} (h : (Lit.int .i64 z).wf = true) : -2 ^ 63 ≤ z ∧ z < 2 ^ 63 := by
  simp [Lit.wf, IntKind.min, IntKind.max, IntKind.bits, IntKind.signed] at h
  omega
theorem sact_cells {n : Nat} {cs : List Value} {x : DataW H × List MemPlace} (h : DataW.trod enc Try.prog w base spare held n 83 cs = some x) : ∃ a, cs = DA a ∧ ActS.Ok a := by
  obtain ⟨xs, m, _, _, hl, hxl, hget⟩ := DataW.trod_struct Try.underlying83 h
  have hc : Try.prog.cellsOf 83 = 66 := by kernel_rfl
  have hc3 : Try.prog.cellsOf 3 = 1 := by kernel_rfl
  have hc34 : Try.prog.cellsOf 34 = 64 := by kernel_rfl
  have hx5 : xs.length = 3 := hxl
  have g0 := hget 0 _ rfl
  have g1 := hget 1 _ rfl
  have g2 := hget 2 _ rfl
  rw [List.getElem?_eq_getElem (by omega)] at g0 g1 g2
  obtain ⟨d, e0, w0⟩ := DataW.trod_int Try.underlying3 g0
  obtain ⟨i, e1, w1⟩ := DataW.trod_int Try.underlying3 g1
  obtain ⟨s, e2, w2⟩ := secs_cells g2
  refine ⟨⟨d, i, s⟩, ?_, ⟨i64_wf w0.2, i64_wf w1.2, w2⟩⟩
  have h0 : (cs.drop 0).take (Try.prog.cellsOf 3) = [.int .i64 d] := e0
  have h1 : (cs.drop 1).take (Try.prog.cellsOf 3) = [.int .i64 i] := e1
  have h2 : (cs.drop 2).take (Try.prog.cellsOf 34) = bysN 64 s := e2
  rw [hc3] at h0 h1
  rw [hc34] at h2
  have hl : cs.length = 66 := hl.trans hc
  have : cs = (cs.drop 0).take 1 ++ ((cs.drop 1).take 1 ++ (cs.drop 2).take 64) := by
    have st : ∀ a b c : Nat, a + b = c → cs.drop a = (cs.drop a).take b ++ cs.drop c := fun a b c e => by
      rw [← e, ← List.drop_drop, List.take_append_drop]
    have lst : (cs.drop 2).take 64 = cs.drop 2 := List.take_of_length_le (by rw [List.length_drop]; omega)
    rw [lst, ← st 1 1 2 rfl, ← st 0 1 1 rfl]; rfl
  rw [this, h0, h1, h2]
  rfl
theorem open_sacts {r : Reach} {b0 : Nat} {v : Value} {d : DataW H} {p : List MemPlace} (hv : Value.okWide Try.prog w r b0 78 v) (h : DataW.Trod enc Try.prog w base spare held 78 v d p) :
    ∃ (c : Option Nat) (l : List ActS) (s : Spot), (slOk c l ∧ ∀ a ∈ l, ActS.Ok a) ∧ ∀ (Γ : Ctx) (ρ : Ren) (id : Nat), Γ.W = w → ρ id = s → (AV.sc (slA c 66 l.length id)).den ρ = v ∧ ∀ b, actB c l = some b → BlkSat Γ ρ w id b ∧ b.w = false := by
  rcases open_rows (sz := 66) DA ActS.Ok Try.underlying78 (by kernel_rfl) (fun n cs x h => sact_cells h) hv h with rfl | ⟨b, off, cap, l, c, t', fr, pre, post, rfl, hlc, hcm, hb, hcs, hpre, hW⟩
  · exact ⟨none, [], ⟨0, 0, 0⟩, ⟨rfl, fun _ h => by cases h⟩, fun Γ ρ id _ _ => ⟨rfl, fun b hb => by cases hb⟩⟩
  · refine ⟨some cap, l, ⟨b, off, cap⟩, ⟨⟨hlc, by simp only [maxLen] at hcm; omega⟩, hW⟩, fun Γ ρ id hΓ hρ => ⟨?_, fun bb hbb => ?_⟩⟩
    · show Value.slice (some ⟨(ρ id).b, (ρ id).sh + 0 * 66, none⟩) l.length cap = _
      rw [hρ]; simp
    · injection hbb with hbb
      subst hbb
      refine ⟨⟨fun e he => ?_, fun e he x hx => ?_, ?_, c, t', fr, pre, post, ?_, ?_, ?_, ?_, ?_⟩, rfl⟩
      · obtain ⟨a, ha, rfl⟩ := List.mem_map.1 he
        exact ⟨rfl, rfl⟩
      · obtain ⟨a, ha, rfl⟩ := List.mem_map.1 he
        cases hx
      · rw [hρ, List.length_map]; exact hlc
      · rw [hρ]; exact hb
      · rw [hcs]
        congr 2
        unfold rowDen
        rw [List.flatMap_map]
        rfl
      · rw [hρ]; exact hpre
      · rw [hρ, hΓ]; exact (Array.getElem?_eq_some_iff.1 hb).1
      · rw [hΓ]
/-- Three bytes. -/
theorem open_three {r : Reach} {b0 : Nat} {v : Value} {d : DataW H} {p : List MemPlace} (hv : Value.okWide Try.prog w r b0 87 v) (h : DataW.Trod enc Try.prog w base spare held 87 v d p) :
    ∃ x : List Nat, (x.length = 3 ∧ ∀ b ∈ x, b < 256) ∧ ∀ ρ : Ren, (AV.agg [.byt 3 x]).den ρ = v := by
  obtain ⟨l, rfl, hl, hw⟩ := open_row (n := 3) Try.underlying87 Try.underlying5 (by kernel_rfl) (by kernel_rfl) hv h
  have hb : ∀ z ∈ l, 0 ≤ z ∧ z < 256 := fun z hz => by
    have h' := hw z hz
    simp [Lit.wf, IntKind.min, IntKind.max, IntKind.bits, IntKind.signed] at h'
    omega
  refine ⟨l.map Int.toNat, ⟨by simp [hl], fun x hx => ?_⟩, fun ρ => ?_⟩
  · obtain ⟨z, hz, rfl⟩ := List.mem_map.1 hx
    have := hb z hz
    omega
  · show Value.agg _ = _
    congr 2
    simp only [Segs.den, Seg.den, List.append_nil]
    apply List.ext_getElem?
    intro i
    unfold bysN
    by_cases hi : i < 3
    · have h0 := hb (l[i]'(by omega)) (List.getElem_mem _)
      have hi' : i < l.length := by omega
      simp only [List.getElem?_map, List.getElem?_eq_getElem hi', Option.map_some, List.getElem?_range hi, List.getD_eq_getElem?_getD, Option.getD_some]
      congr 2
      omega
    · rw [List.getElem?_eq_none (by simp; omega), List.getElem?_eq_none (by simp; omega)]
/-- A sector, by value. -/
theorem open_sec1 {r : Reach} {b0 : Nat} {v : Value} {d : DataW H} {p : List MemPlace} (hv : Value.okWide Try.prog w r b0 34 v) (h : DataW.Trod enc Try.prog w base spare held 34 v d p) :
    ∃ x : List Nat, (Sec x) ∧ ∀ ρ : Ren, (AV.agg [.byt 64 x]).den ρ = v := by
  obtain ⟨l, rfl, hl, hw⟩ := open_row (n := 64) Try.underlying34 Try.underlying5 (by kernel_rfl) (by kernel_rfl) hv h
  have hb : ∀ z ∈ l, 0 ≤ z ∧ z < 256 := fun z hz => by
    have h' := hw z hz
    simp [Lit.wf, IntKind.min, IntKind.max, IntKind.bits, IntKind.signed] at h'
    omega
  refine ⟨l.map Int.toNat, ⟨by simp [hl], fun x hx => ?_⟩, fun ρ => ?_⟩
  · obtain ⟨z, hz, rfl⟩ := List.mem_map.1 hx
    have := hb z hz
    omega
  · show Value.agg _ = _
    congr 2
    simp only [Segs.den, Seg.den, List.append_nil]
    apply List.ext_getElem?
    intro i
    unfold bysN
    by_cases hi : i < 64
    · have h0 := hb (l[i]'(by omega)) (List.getElem_mem _)
      have hi' : i < l.length := by omega
      simp only [List.getElem?_map, List.getElem?_eq_getElem hi', Option.map_some, List.getElem?_range hi, List.getD_eq_getElem?_getD, Option.getD_some]
      congr 2
      omega
    · rw [List.getElem?_eq_none (by simp; omega), List.getElem?_eq_none (by simp; omega)]
/-- A whole number. -/
theorem open_i64 {r : Reach} {b0 : Nat} {v : Value} {d : DataW H} {p : List MemPlace} (hv : Value.okWide Try.prog w r b0 3 v) (h : DataW.Trod enc Try.prog w base spare held 3 v d p) :
    ∃ z : Int, (-2 ^ 63 ≤ z ∧ z < 2 ^ 63) ∧ ∀ ρ : Ren, (AV.sc (.raw (.int .i64 z))).den ρ = v := by
  obtain ⟨a, rfl, _, _, hw⟩ := open_int Try.underlying3 hv h
  exact ⟨a, i64_wf hw, fun _ => rfl⟩
end Go.Proofs.Ytdmcbfmpnakdfaa.Oa
