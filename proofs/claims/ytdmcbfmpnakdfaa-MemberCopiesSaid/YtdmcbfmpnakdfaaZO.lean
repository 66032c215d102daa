/- Slices as arguments: where they lie. -/
import Derived.Test.YtdmcbfmpnakdfaaEp
import Derived.OpenShut
import Derived.WideShapes
import Derived.ChangeArms
import Derived.Test.YtdmcbfmpnakdfaaMj
import Derived.Test.YtdmcbfmpnakdfaaMu
import Derived.SizedLaws
namespace Go.Proofs.Ytdmcbfmpnakdfaa.Oa
open Go Go.ChangeShapes Go.WideShapes Go.RowKit
variable {P : Program} {w : World}
theorem rowAt_off {fits : TypeId → Bool} : ∀ {d : Nat} {e : TypeId} {count off n : Nat}, rowAt P fits d e count off n = true → off ≤ count * P.cellsOf e
  | 0, _, _, _, _, h => by cases h
  | d + 1, e, count, off, n, h => by
    unfold rowAt at h
    by_cases hs : P.cellsOf e = 0
    · simp [hs] at h
    · simp only [hs, if_false, Bool.or_eq_true, Bool.and_eq_true, beq_iff_eq, decide_eq_true_eq] at h
      have hd := Nat.div_add_mod off (P.cellsOf e)
      have hm := Nat.mod_lt off (Nat.pos_of_ne_zero hs)
      rcases h with ⟨⟨h1, h2⟩, _⟩ | ⟨h1, _⟩
      · have : off / P.cellsOf e * P.cellsOf e ≤ count * P.cellsOf e := Nat.mul_le_mul_right _ (by omega)
        rw [Nat.mul_comm] at hd
        omega
      · have : (off / P.cellsOf e + 1) * P.cellsOf e ≤ count * P.cellsOf e := Nat.mul_le_mul_right _ h1
        rw [Nat.add_mul, Nat.one_mul] at this
        rw [Nat.mul_comm] at hd
        omega
theorem liesAt_off : ∀ {d : Nat} {e u : TypeId} {count off n : Nat}, liesAt P d e count off u n = true → off ≤ count * P.cellsOf e
  | 0, _, _, _, _, _, h => by cases h
  | d + 1, e, u, count, off, n, h => by
    unfold liesAt at h
    rw [Bool.or_eq_true] at h
    rcases h with h | h
    · exact rowAt_off h
    · split at h
      · exact liesAt_off h
      · cases h
/-- A slice that is not nil: its block is there, and it begins within it. -/
theorem slice_lies {t e : TypeId} {r : Reach} {b0 : Nat} {v : Value} (ht : P.underlying t = some (.slice e)) (hv : Value.okWide P w r b0 t v) :
    v = .slice none 0 0 ∨ ∃ b off len cap c t' fr, v = .slice (some ⟨b, off, none⟩) len cap ∧ len ≤ cap ∧ w.heap[b]? = some (.cells c t' fr) ∧ off ≤ c.size := by
  obtain ⟨a, len, cap, rfl⟩ := okWide_slice ht hv
  simp only [Value.okWide, ht, Cell.okWide, Cell.ok] at hv
  cases a with
  | none =>
    left
    cases len <;> cases cap <;> simp_all
  | some a =>
    right
    obtain ⟨h1, _, _, h2, row, cells, h3, h4⟩ := hv
    obtain ⟨b, off, spot⟩ := a
    obtain rfl : spot = none := h2
    unfold World.shape? at h3
    split at h3
    · rename_i c elem fr hb
      injection h3 with h3
      injection h3 with h5 h6
      subst h5; subst h6
      exact ⟨b, off, len, cap, c, _, fr, rfl, h1, hb, Nat.le_trans (liesAt_off h4) (Nat.div_mul_le_self _ _)⟩
    · cases h3
end Go.Proofs.Ytdmcbfmpnakdfaa.Oa
namespace Go.Proofs.Ytdmcbfmpnakdfaa.Oa
open Go Go.ChangeShapes Go.WideShapes Go.RowKit
variable {H : Type} {enc : TypeId × Value → H} {P : Program} {w : World} {base : Nat} {spare : Nat → Bool} {held : Bool}
theorem cells_take {c : Array Value} {off : Nat} : ∀ {m : Nat} {cs : List Value}, cs.length = m → (∀ i, i < m → c[off + i]? = cs[i]?) → (c.toList.drop off).take m = cs := by
  intro m cs hl h
  apply List.ext_getElem?
  intro i
  by_cases hi : i < m
  · rw [List.getElem?_take_of_lt hi, List.getElem?_drop, Array.getElem?_toList, h i hi]
  · rw [List.getElem?_eq_none (by rw [List.length_take]; omega), List.getElem?_eq_none (by omega)]
/-- A slice of elements, each as D says of some a. -/
theorem open_rows {α : Type} (D : α → List Value) (W : α → Prop) {t e : TypeId} {sz : Nat} {r : Reach} {b0 : Nat} {v : Value} {d : DataW H} {p : List MemPlace} (ht : P.underlying t = some (.slice e)) (hc : P.cellsOf e = sz)
    (hD : ∀ (n : Nat) (cs : List Value) (x : DataW H × List MemPlace), DataW.trod enc P w base spare held n e cs = some x → ∃ a, cs = D a ∧ W a)
    (hv : Value.okWide P w r b0 t v) (h : DataW.Trod enc P w base spare held t v d p) :
    v = .slice none 0 0 ∨ ∃ (b off cap : Nat) (l : List α) (c : Array Value) (t' : TypeId) (fr : Nat × Nat) (pre post : List Value), v = .slice (some ⟨b, off, none⟩) l.length cap ∧ l.length ≤ cap ∧ (cap : Int) ≤ maxLen ∧ w.heap[b]? = some (.cells c t' fr) ∧ c.toList = pre ++ (l.flatMap D ++ post) ∧ pre.length = off ∧ ∀ a ∈ l, W a := by
  rcases slice_lies ht hv with rfl | ⟨b, off, len, cap, c, t', fr, rfl, hlc, hb, ho⟩
  · exact .inl rfl
  right
  obtain ⟨fuel, hf⟩ := h
  have hcs : (Value.slice (some ⟨b, off, none⟩) len cap).cells.toList = [.slice (some ⟨b, off, none⟩) len cap] := rfl
  rw [hcs] at hf
  rcases DataW.trod_slice ht hf with ⟨he, _⟩ | ⟨ad, len', cap', elems, rest, n, _, he, _, _, _, hcm, hel, hget, _⟩
  · injection he with he; cases he
  injection he with he
  injection he with h1 h2 h3
  injection h1 with h1
  subst h1; subst h2; subst h3
  have one : ∀ i, i < len → ∃ a, W a ∧ (D a).length = sz ∧ ∀ j, j < sz → c[off + i * sz + j]? = (D a)[j]? := by
    intro i hi
    have hg := hget i hi
    rw [hc, List.getElem?_eq_getElem (by omega)] at hg
    obtain ⟨cs, g1, g2⟩ := Option.bind_eq_some_iff.1 hg
    obtain ⟨a, rfl, ha⟩ := hD _ _ _ g2
    obtain ⟨_, g3, g4⟩ := World.cells?_some g1
    refine ⟨a, ha, g3, fun j hj => ?_⟩
    rw [← g4 j hj]
    have ea : ((⟨b, off, none⟩ : Addr).add (i * sz)).add j = ⟨b, off + i * sz + j, none⟩ := by
      unfold Addr.add
      by_cases h1 : i * sz = 0
      · by_cases h2 : j = 0
        · simp [h1, h2]
        · simp [h1, h2]
      · by_cases h2 : j = 0
        · simp [h1, h2]
        · simp [h1, h2]
    rw [ea]
    unfold World.cell?
    simp only [hb]
    rfl
  have all : ∀ k, k ≤ len → ∃ l : List α, l.length = k ∧ (∀ a ∈ l, W a) ∧ (l.flatMap D).length = k * sz ∧ ∀ j, j < k * sz → c[off + j]? = (l.flatMap D)[j]? := by
    intro k
    induction k with
    | zero => exact fun _ => ⟨[], rfl, by simp, by simp, by simp⟩
    | succ k ih =>
      intro hk
      obtain ⟨l, l1, l2, l3, l4⟩ := ih (by omega)
      obtain ⟨a, a1, a2, a3⟩ := one k (by omega)
      refine ⟨l ++ [a], by simp [l1], ?_, by simp [l3, a2, Nat.add_mul], fun j hj => ?_⟩
      · intro x hx
        rcases List.mem_append.1 hx with hx | hx
        · exact l2 x hx
        · rw [List.mem_singleton.1 hx]; exact a1
      · rw [List.flatMap_append]
        by_cases hjk : j < k * sz
        · rw [List.getElem?_append_left (by omega), ← l4 j hjk]
        · rw [List.getElem?_append_right (by omega), l3]
          rw [Nat.add_mul, Nat.one_mul] at hj
          have := a3 (j - k * sz) (by omega)
          rw [show off + k * sz + (j - k * sz) = off + j by omega] at this
          rw [this]; simp
  obtain ⟨l, l1, l2, l3, l4⟩ := all len (Nat.le_refl _)
  refine ⟨b, off, cap, l, c, t', fr, c.toList.take off, (c.toList.drop off).drop (len * sz), by rw [l1], by omega, by exact_mod_cast hcm, hb, ?_, by simp; omega, l2⟩
  have := cells_take (off := off) (c := c) l3 l4
  rw [← this, List.take_append_drop, List.take_append_drop]
end Go.Proofs.Ytdmcbfmpnakdfaa.Oa
/- Arrays of whole numbers, and of such arrays, opened: what an argument that reads as data holds. -/
namespace Go.Proofs.Ytdmcbfmpnakdfaa.Op
open Go.ChangeShapes Go.WideShapes Go.RowKit
variable {H : Type} {enc : TypeId × Value → H} {P : Program} {w : World} {base : Nat} {spare : Nat → Bool} {held : Bool} {fuel : Nat} {t e : TypeId} {cs : List Value} {x : DataW H × List MemPlace}

/-- The number in a cell. -/
def numOf : Value → Int
  | .int _ z => z
  | _ => 0

theorem row_ints {n : Nat} {k : IntKind} (ht : P.underlying t = some (.array n e)) (he : P.underlying e = some (.int k)) (hce : P.cellsOf e = 1) (hct : P.cellsOf t = n)
    (h : DataW.trod enc P w base spare held fuel t cs = some x) : ∃ l : List Int, l.length = n ∧ cs = l.map (Value.int k) ∧ (∀ z ∈ l, (Lit.int k z).wf = true) := by
  obtain ⟨xs, m, _, _, hl, hxs, hget⟩ := DataW.trod_array ht h
  have hlen : cs.length = n := by rw [hl, hct]
  have one : ∀ i, i < n → ∃ z, cs[i]? = some (.int k z) ∧ (Lit.int k z).wf = true := by
    intro i hi
    have hg := hget i hi
    rw [hce, Nat.mul_one] at hg
    have hx : xs[i]? = some xs[i] := List.getElem?_eq_getElem (by omega)
    rw [hx] at hg
    obtain ⟨z, hz, _, hwf⟩ := DataW.trod_int he hg
    refine ⟨z, ?_, hwf⟩
    have : (List.take 1 (List.drop i cs))[0]? = some (.int k z) := by rw [hz]; rfl
    rw [List.getElem?_take_of_lt (by decide), List.getElem?_drop, Nat.add_zero] at this
    exact this
  refine ⟨cs.map numOf, by simp [hlen], ?_, ?_⟩
  · apply List.ext_getElem?
    intro i
    by_cases hi : i < n
    · obtain ⟨z, hz, _⟩ := one i hi
      simp [hz, numOf]
    · rw [List.getElem?_eq_none (by omega), List.getElem?_eq_none (by simp; omega)]
  · intro z hz
    rw [List.mem_map] at hz
    obtain ⟨v, hv, rfl⟩ := hz
    obtain ⟨i, hi, rfl⟩ := List.getElem_of_mem hv
    obtain ⟨z, hz, hwf⟩ := one i (by omega)
    rw [List.getElem?_eq_getElem hi, Option.some.injEq] at hz
    rw [hz]
    exact hwf

/-- An array of whole numbers, by value. -/
theorem open_row {n : Nat} {k : IntKind} {r : Reach} {b0 : Nat} {v : Value} {d : DataW H} {p : List MemPlace} (ht : P.underlying t = some (.array n e)) (he : P.underlying e = some (.int k)) (hct : P.cellsOf t = n) (hce : P.cellsOf e = 1)
    (hv : Value.okWide P w r b0 t v) (h : DataW.Trod enc P w base spare held t v d p) :
    ∃ l : List Int, v = .agg (l.map (Value.int k)).toArray ∧ l.length = n ∧ (∀ z ∈ l, (Lit.int k z).wf = true) := by
  have hv' : ∃ cs : Array Value, v = .agg cs ∧ cs.size = P.cellsOf t := by
    simp only [Value.okWide, ht] at hv
    obtain ⟨cs, h1, h2, _⟩ := hv
    exact ⟨cs, h1, h2⟩
  obtain ⟨cs, rfl, hsz⟩ := hv'
  obtain ⟨fuel, hf⟩ := h
  obtain ⟨l, h1, h2, h3⟩ := row_ints ht he hce hct hf
  refine ⟨l, ?_, h1, h3⟩
  rw [← h2]
  simp [Value.cells]

end Go.Proofs.Ytdmcbfmpnakdfaa.Op
/- Acts as arguments. -/
namespace Go.Proofs.Ytdmcbfmpnakdfaa.Oa
open Go Go.ChangeShapes Go.WideShapes Go.RowKit Go.Proofs Go.Proofs.Ytdmcbfmpnakdfaa.Eng Go.Proofs.Ytdmcbfmpnakdfaa.Op
variable {H : Type} {enc : TypeId × Value → H} {w : World} {base : Nat} {spare : Nat → Bool} {held : Bool}
def D (a : ActV) : List Value := Segs.den (fun _ => ⟨0, 0, 0⟩) (actSegs a)
theorem sec_cells {n : Nat} {cs : List Value} {x : DataW H × List MemPlace} (h : DataW.trod enc Try.prog w base spare held n 34 cs = some x) : ∃ s : List Nat, cs = bysN 64 s := by
  obtain ⟨l, hl, rfl, hw⟩ := row_ints (n := 64) Try.underlying34 Try.underlying5 (by kernel_rfl) (by kernel_rfl) h
  refine ⟨l.map Int.toNat, ?_⟩
  apply List.ext_getElem?
  intro i
  unfold bysN
  by_cases hi : i < 64
  · have h0 : 0 ≤ l[i]'(by omega) := by
      have h' := hw (l[i]'(by omega)) (List.getElem_mem _)
      simp [Lit.wf, IntKind.min, IntKind.max, IntKind.bits, IntKind.signed] at h'
      omega
    have hi' : i < l.length := by omega
    simp only [List.getElem?_map, List.getElem?_eq_getElem hi', Option.map_some, List.getElem?_range hi, List.getD_eq_getElem?_getD, Option.getD_some]
    congr 2
    omega
  · rw [List.getElem?_eq_none (by simp; omega), List.getElem?_eq_none (by simp; omega)]
set_option maxRecDepth 20000 in
theorem act_cells {n : Nat} {cs : List Value} {x : DataW H × List MemPlace} (h : DataW.trod enc Try.prog w base spare held n 57 cs = some x) : ∃ a, cs = D a ∧ cell1 a.p = true := by
  obtain ⟨xs, m, _, _, hl, hxl, hget⟩ := DataW.trod_struct Try.underlying57 h
  have hc : Try.prog.cellsOf 57 = 68 := by kernel_rfl
  have hc3 : Try.prog.cellsOf 3 = 1 := by kernel_rfl
  have hc34 : Try.prog.cellsOf 34 = 64 := by kernel_rfl
  have hc44 : Try.prog.cellsOf 44 = 1 := by kernel_rfl
  have hc4 : Try.prog.cellsOf 4 = 1 := by kernel_rfl
  have hx5 : xs.length = 5 := hxl
  have g0 := hget 0 _ rfl
  have g1 := hget 1 _ rfl
  have g2 := hget 2 _ rfl
  have g3 := hget 3 _ rfl
  have g4 := hget 4 _ rfl
  rw [List.getElem?_eq_getElem (by omega)] at g0 g1 g2 g3 g4
  obtain ⟨d, e0, _⟩ := DataW.trod_int Try.underlying3 g0
  obtain ⟨i, e1, _⟩ := DataW.trod_int Try.underlying3 g1
  obtain ⟨s, e2⟩ := sec_cells g2
  obtain ⟨on, e4, _⟩ := DataW.trod_bool Try.underlying4 g4
  have e3 : ∃ v, (cs.drop 66).take (Try.prog.cellsOf 44) = [v] ∧ cell1 v = true := by
    rcases DataW.trod_slice Try.underlying44 g3 with ⟨he, _⟩ | ⟨ad, len, cap, _, _, _, _, he, _⟩
    · exact ⟨_, he, rfl⟩
    · exact ⟨_, he, rfl⟩
  obtain ⟨v, e3, hv⟩ := e3
  rw [hc44] at e3
  refine ⟨⟨d, i, s, v, on⟩, ?_, hv⟩
  have h0 : (cs.drop 0).take (Try.prog.cellsOf 3) = [.int .i64 d] := e0
  have h1 : (cs.drop 1).take (Try.prog.cellsOf 3) = [.int .i64 i] := e1
  have h2 : (cs.drop 2).take (Try.prog.cellsOf 34) = bysN 64 s := e2
  have h4 : (cs.drop 67).take (Try.prog.cellsOf 4) = [.bool on] := e4
  rw [hc3] at h0 h1
  rw [hc34] at h2
  rw [hc4] at h4
  have hl : cs.length = 68 := hl.trans hc
  have : cs = (cs.drop 0).take 1 ++ ((cs.drop 1).take 1 ++ ((cs.drop 2).take 64 ++ ((cs.drop 66).take 1 ++ (cs.drop 67).take 1))) := by
    have st : ∀ a b c : Nat, a + b = c → cs.drop a = (cs.drop a).take b ++ cs.drop c := fun a b c e => by
      rw [← e, ← List.drop_drop, List.take_append_drop]
    have lst : (cs.drop 67).take 1 = cs.drop 67 := List.take_of_length_le (by rw [List.length_drop]; omega)
    rw [lst, ← st 66 1 67 rfl, ← st 2 64 66 rfl, ← st 1 1 2 rfl, ← st 0 1 1 rfl]; rfl
  rw [this, h0, h1, h2, e3, h4]
  rfl
end Go.Proofs.Ytdmcbfmpnakdfaa.Oa
/- Slices of acts, and of bytes, as arguments: as the contracts have them. -/
namespace Go.Proofs.Ytdmcbfmpnakdfaa.Oa
open Go Go.ChangeShapes Go.WideShapes Go.RowKit Go.Proofs Go.Proofs.Ytdmcbfmpnakdfaa.Eng Go.Proofs.Ytdmcbfmpnakdfaa.Op
set_option maxRecDepth 20000
variable {H : Type} {enc : TypeId × Value → H} {w : World} {base : Nat} {spare : Nat → Bool} {held : Bool}
theorem actSegs_den (ρ : Ren) (a : ActV) : Segs.den ρ (actSegs a) = D a := rfl
/-- A slice of acts: nil, or a row that is read alone. -/
theorem open_acts {r : Reach} {b0 : Nat} {v : Value} {d : DataW H} {p : List MemPlace} (hv : Value.okWide Try.prog w r b0 43 v) (h : DataW.Trod enc Try.prog w base spare held 43 v d p) :
    ∃ (ar : Ar) (l : List ActV) (s : Spot), ar.ok l ∧ ∀ (Γ : Ctx) (ρ : Ren) (id : Nat), Γ.W = w → ρ id = s → (AV.sc (ar.sv l.length id)).den ρ = v ∧ ∀ b, arB ar l = some b → BlkSat Γ ρ w id b ∧ b.w = false := by
  rcases open_rows (sz := 68) D (fun a => cell1 a.p = true) Try.underlying43 (by kernel_rfl) (fun n cs x h => act_cells h) hv h with rfl | ⟨b, off, cap, l, c, t', fr, pre, post, rfl, hlc, hcm, hb, hcs, hpre, hW⟩
  · exact ⟨.nil, [], ⟨0, 0, 0⟩, rfl, fun Γ ρ id _ _ => ⟨rfl, fun b hb => by cases hb⟩⟩
  · refine ⟨.row, l, ⟨b, off, cap⟩, trivial, fun Γ ρ id hΓ hρ => ⟨?_, fun bb hbb => ?_⟩⟩
    · show Value.slice (some ⟨(ρ id).b, (ρ id).sh + 0 * 68, none⟩) l.length ((ρ id).tot - 0) = _
      rw [hρ]; simp
    · injection hbb with hbb
      subst hbb
      refine ⟨⟨fun e he => ?_, fun e he x hx => ?_, ?_, c, t', fr, pre, post, ?_, ?_, ?_, ?_, ?_⟩, rfl⟩
      · obtain ⟨a, ha, rfl⟩ := List.mem_map.1 he
        refine ⟨rfl, ?_⟩
        have := hW a ha
        simp only [actSegs, Segs.oneB, SV.oneB, this]
        rfl
      · obtain ⟨a, ha, rfl⟩ := List.mem_map.1 he
        cases hx
      · rw [hρ, List.length_map]; exact hlc
      · rw [hρ]; exact hb
      · rw [hcs]
        congr 2
        unfold rowDen
        rw [List.flatMap_map]; rfl
      · rw [hρ]; exact hpre
      · rw [hρ, hΓ]; exact (Array.getElem?_eq_some_iff.1 hb).1
      · rw [hΓ]
end Go.Proofs.Ytdmcbfmpnakdfaa.Oa
/- A slice of bytes as an argument. -/
namespace Go.Proofs.Ytdmcbfmpnakdfaa.Oa
open Go Go.ChangeShapes Go.WideShapes Go.RowKit Go.Proofs Go.Proofs.Ytdmcbfmpnakdfaa.Eng Go.Proofs.Ytdmcbfmpnakdfaa.Op
set_option maxRecDepth 20000
variable {H : Type} {enc : TypeId × Value → H} {w : World} {base : Nat} {spare : Nat → Bool} {held : Bool}
/-- A slice of bytes: nil, or a row that is read alone. -/
theorem open_bytes {r : Reach} {b0 : Nat} {v : Value} {d : DataW H} {p : List MemPlace} (hv : Value.okWide Try.prog w r b0 44 v) (h : DataW.Trod enc Try.prog w base spare held 44 v d p) :
    ∃ (c : Ar) (l : List Int) (s : Spot), c.ok l ∧ ∀ (Γ : Ctx) (ρ : Ren) (id : Nat), Γ.W = w → ρ id = s → (AV.sc (pkS c l id)).den ρ = v ∧ ∀ b, pkB c l = some b → BlkSat Γ ρ w id b ∧ b.w = false := by
  rcases open_rows (sz := 1) (fun z : Int => [Value.int .u8 z]) (fun _ => True) Try.underlying44 (by kernel_rfl) (fun n cs x h => (by obtain ⟨z, rfl, _⟩ := DataW.trod_int Try.underlying5 h; exact ⟨z, rfl, trivial⟩)) hv h with rfl | ⟨b, off, cap, l, c, t', fr, pre, post, rfl, hlc, hcm, hb, hcs, hpre, hW⟩
  · exact ⟨.nil, [], ⟨0, 0, 0⟩, rfl, fun Γ ρ id _ _ => ⟨rfl, fun b hb => by cases hb⟩⟩
  · refine ⟨.row, l, ⟨b, off, cap⟩, trivial, fun Γ ρ id hΓ hρ => ⟨?_, fun bb hbb => ?_⟩⟩
    · show Value.slice (some ⟨(ρ id).b, (ρ id).sh + 0 * 1, none⟩) l.length ((ρ id).tot - 0) = _
      rw [hρ]; simp
    · injection hbb with hbb
      subst hbb
      refine ⟨⟨fun e he => ?_, fun e he x hx => ?_, ?_, c, t', fr, pre, post, ?_, ?_, ?_, ?_, ?_⟩, rfl⟩
      · obtain ⟨a, ha, rfl⟩ := List.mem_map.1 he
        exact ⟨rfl, rfl⟩
      · obtain ⟨a, ha, rfl⟩ := List.mem_map.1 he
        cases hx
      · rw [hρ, List.length_map]; exact hlc
      · rw [hρ]; exact hb
      · rw [hcs]
        congr 2
        unfold rowDen
        rw [List.flatMap_map]; rfl
      · rw [hρ]; exact hpre
      · rw [hρ, hΓ]; exact (Array.getElem?_eq_some_iff.1 hb).1
      · rw [hΓ]
end Go.Proofs.Ytdmcbfmpnakdfaa.Oa
/- Slices of acts as arguments, their picks known. -/
namespace Go.Proofs.Ytdmcbfmpnakdfaa.Oa
open Go Go.ChangeShapes Go.WideShapes Go.RowKit Go.Proofs Go.Proofs.Ytdmcbfmpnakdfaa.Eng Go.Proofs.Ytdmcbfmpnakdfaa.Op
set_option maxRecDepth 20000
variable {H : Type} {enc : TypeId × Value → H} {w : World} {base : Nat} {spare : Nat → Bool} {held : Bool}
/-- A slice of bytes as a value, in the world. -/
def PkW (w : World) (v : Value) (pk : List Int) : Prop :=
  (∃ ad cp, v = .slice ad 0 cp ∧ pk = []) ∨
  ∃ b off cap c t fr pre post, v = .slice (some ⟨b, off, none⟩) pk.length cap ∧ w.heap[b]? = some (.cells c t fr) ∧ c.toList = pre ++ (pk.map (Value.int .u8) ++ post) ∧ pre.length = off ∧ pk.length ≤ cap
theorem pk_cells {n : Nat} {v : Value} {x : DataW H × List MemPlace} (h : DataW.trod enc Try.prog w base spare held n 44 [v] = some x) : ∃ pk, PkW w v pk := by
  rcases DataW.trod_slice Try.underlying44 h with ⟨he, _⟩ | ⟨ad, len, cap, elems, rest, n', _, he, _, _, hlc, _, hel, hget, _⟩
  · injection he with he
    exact ⟨[], .inl ⟨none, 0, he, rfl⟩⟩
  injection he with he
  subst he
  by_cases h0 : len = 0
  · subst h0; exact ⟨[], .inl ⟨_, _, rfl, rfl⟩⟩
  have hc1 : Try.prog.cellsOf 5 = 1 := by kernel_rfl
  have one : ∀ i, i < len → ∃ z : Int, w.cell? (ad.add (i * 1)) = some (.int .u8 z) := by
    intro i hi
    have hg := hget i hi
    rw [hc1, List.getElem?_eq_getElem (by omega)] at hg
    obtain ⟨cs, g1, g2⟩ := Option.bind_eq_some_iff.1 hg
    obtain ⟨z, rfl, _⟩ := DataW.trod_int Try.underlying5 g2
    obtain ⟨_, g3, g4⟩ := World.cells?_some g1
    refine ⟨z, ?_⟩
    have := g4 0 (by decide)
    simpa [Addr.add] using this
  obtain ⟨z0, hz0⟩ := one 0 (by omega)
  have hz0 : w.cell? ad = some (.int .u8 z0) := by simpa [Addr.add] using hz0
  have hz0' := hz0
  unfold World.cell? at hz0
  split at hz0
  case h_2 => cases hz0
  rename_i c t fr hb
  obtain ⟨b, off, spot⟩ := ad
  cases spot with
  | some s => simp at hz0
  | none =>
    have hoff : off < c.size := by
      simp at hz0
      exact (Array.getElem?_eq_some_iff.1 hz0).1
    have hone : ∀ i, i < len → ∃ z : Int, c[off + i]? = some (.int .u8 z) := fun i hi => by
      obtain ⟨z, hz⟩ := one i hi
      refine ⟨z, ?_⟩
      rw [Nat.mul_one, addr_add] at hz
      unfold World.cell? at hz
      simp only [hb] at hz
      simpa using hz
    have all : ∀ k, k ≤ len → ∃ l : List Int, l.length = k ∧ ∀ j, j < k → c[off + j]? = (l.map (Value.int .u8))[j]? := by
      intro k
      induction k with
      | zero => exact fun _ => ⟨[], rfl, fun j hj => absurd hj (by omega)⟩
      | succ k ih =>
        intro hk
        obtain ⟨l, l1, l2⟩ := ih (by omega)
        obtain ⟨z, hz⟩ := hone k (by omega)
        refine ⟨l ++ [z], by simp [l1], fun j hj => ?_⟩
        by_cases hjk : j < k
        · rw [l2 j hjk, List.map_append, List.getElem?_append_left (by simpa [l1] using hjk)]
        · obtain rfl : j = k := by omega
          rw [hz, List.map_append, List.getElem?_append_right (by simp [l1])]
          simp [l1]
    obtain ⟨l, l1, l2⟩ := all len (Nat.le_refl _)
    refine ⟨l, .inr ⟨b, off, cap, c, t, fr, c.toList.take off, (c.toList.drop off).drop len, by rw [l1], hb, ?_, by simp; omega, by omega⟩⟩
    have := cells_take (off := off) (c := c) (m := len) (cs := l.map (Value.int .u8)) (by simp [l1]) l2
    rw [← this, List.take_append_drop, List.take_append_drop]
set_option maxRecDepth 20000 in
theorem act_cells2 {n : Nat} {cs : List Value} {x : DataW H × List MemPlace} (h : DataW.trod enc Try.prog w base spare held n 57 cs = some x) : ∃ a, cs = D a ∧ cell1 a.p = true ∧ ∃ pk, PkW w a.p pk := by
  obtain ⟨a, rfl, ha⟩ := act_cells h
  refine ⟨a, rfl, ha, ?_⟩
  obtain ⟨xs, m, _, _, hl, hxl, hget⟩ := DataW.trod_struct Try.underlying57 h
  have hc44 : Try.prog.cellsOf 44 = 1 := by kernel_rfl
  have hx5 : xs.length = 5 := hxl
  have g3 := hget 3 _ rfl
  rw [List.getElem?_eq_getElem (by omega)] at g3
  have e : ((D a).drop 66).take (Try.prog.cellsOf 44) = [a.p] := by
    rw [hc44]; rfl
  have g3' : DataW.trod enc Try.prog w base spare held m 44 (((D a).drop 66).take (Try.prog.cellsOf 44)) = some xs[3] := g3
  rw [e] at g3'
  exact pk_cells g3'
open Classical in
noncomputable def pksOf (w : World) (a : ActV) : List Int := if h : ∃ pk, PkW w a.p pk then h.choose else []
def famOf (w : World) (b : Nat) (l : List ActV) : List (Nat × Obj) := (b :: l.map (fun a => match a.p with | .slice (some ad) _ _ => ad.block | _ => b)).filterMap fun k => (w.heap[k]?).map fun o => (k, o)
theorem famOf_mem {w : World} {b k : Nat} {l : List ActV} {o : Obj} (hk : k ∈ (b :: l.map (fun a => match a.p with | .slice (some ad) _ _ => ad.block | _ => b))) (ho : w.heap[k]? = some o) : (k, o) ∈ famOf w b l := by
  unfold famOf
  exact List.mem_filterMap.2 ⟨k, hk, by rw [ho]; rfl⟩
theorem famOf_heap {w : World} {b : Nat} {l : List ActV} {x : Nat × Obj} (h : x ∈ famOf w b l) : w.heap[x.1]? = some x.2 := by
  unfold famOf at h
  obtain ⟨k, _, hk⟩ := List.mem_filterMap.1 h
  cases ho : w.heap[k]? with
  | none => rw [ho] at hk; cases hk
  | some o => rw [ho] at hk; cases hk; exact ho
/-- A slice of acts: nil, or a row that is read alone; where the picks lie. -/
theorem open_actsF {r : Reach} {b0 : Nat} {v : Value} {d : DataW H} {p : List MemPlace} (hv : Value.okWide Try.prog w r b0 43 v) (h : DataW.Trod enc Try.prog w base spare held 43 v d p) :
    ∃ (ar : Ar) (l : List ActV) (s : Spot) (R : List (Nat × Obj)) (pks : ActV → List Int), ar.ok l ∧ (∀ x ∈ l, PkOk R x.p (pks x)) ∧ ∀ (Γ : Ctx) (ρ : Ren) (id id2 : Nat), Γ.W = w → (∀ b, ¬ Γ.F b) → ρ id = s → ρ id2 = s →
      (AV.sc (ar.sv l.length id)).den ρ = v ∧ (∀ b, arB ar l = some b → BlkSat Γ ρ w id b ∧ b.w = false) ∧ ∀ b, famO ar R = some b → BlkSat Γ ρ w id2 b ∧ b.w = false := by
  rcases open_rows (sz := 68) D (fun a => cell1 a.p = true ∧ ∃ pk, PkW w a.p pk) Try.underlying43 (by kernel_rfl) (fun n cs x h => act_cells2 h) hv h with rfl | ⟨b, off, cap, l, c, t', fr, pre, post, rfl, hlc, hcm, hb, hcs, hpre, hW⟩
  · exact ⟨.nil, [], ⟨0, 0, 0⟩, [], fun _ => [], rfl, fun x hx => (by cases hx), fun Γ ρ id id2 _ _ _ _ => ⟨rfl, fun b hb => (by cases hb), fun b hb => (by cases hb)⟩⟩
  · refine ⟨.row, l, ⟨b, off, cap⟩, famOf w b l, pksOf w, trivial, fun x hx => ?_, fun Γ ρ id id2 hΓ hF hρ hρ2 => ⟨?_, fun bb hbb => ?_, fun bb hbb => ?_⟩⟩
    · have hpk : PkW w x.p (pksOf w x) := by
        unfold pksOf
        rw [dif_pos (hW x hx).2]
        exact (hW x hx).2.choose_spec
      rcases hpk with h1 | ⟨b1, off1, cap1, c1, t1, fr1, pre1, post1, h1, h2, h3, h4, h5⟩
      · exact .inl h1
      · refine .inr ⟨b1, off1, cap1, c1, t1, fr1, pre1, post1, h1, famOf_mem (List.mem_cons_of_mem _ (List.mem_map.2 ⟨x, hx, by rw [h1]⟩)) h2, h3, h4, h5⟩
    · show Value.slice (some ⟨(ρ id).b, (ρ id).sh + 0 * 68, none⟩) l.length ((ρ id).tot - 0) = _
      rw [hρ]; simp
    · injection hbb with hbb
      subst hbb
      refine ⟨⟨fun e he => ?_, fun e he x hx => ?_, ?_, c, t', fr, pre, post, ?_, ?_, ?_, ?_, ?_⟩, rfl⟩
      · obtain ⟨a, ha, rfl⟩ := List.mem_map.1 he
        refine ⟨rfl, ?_⟩
        have := (hW a ha).1
        simp only [actSegs, Segs.oneB, SV.oneB, this]
        rfl
      · obtain ⟨a, ha, rfl⟩ := List.mem_map.1 he
        cases hx
      · rw [hρ, List.length_map]; exact hlc
      · rw [hρ]; exact hb
      · rw [hcs]
        congr 2
        unfold rowDen
        rw [List.flatMap_map]; rfl
      · rw [hρ]; exact hpre
      · rw [hρ, hΓ]; exact (Array.getElem?_eq_some_iff.1 hb).1
      · rw [hΓ]
    · injection hbb with hbb
      subst hbb
      refine ⟨⟨fun _ h => (by cases h), fun _ h => (by cases h), Nat.zero_le _, ⟨c, t', fr, pre, l.flatMap D ++ post, ?_, by rw [hcs]; rfl, ?_, ?_, ?_⟩, ⟨_, by rw [hρ2]; exact famOf_mem (List.mem_cons_self ..) hb⟩, fun x hx => ?_⟩, rfl⟩
      · rw [hρ2]; exact hb
      · rw [hρ2]; exact hpre
      · rw [hρ2, hΓ]; exact (Array.getElem?_eq_some_iff.1 hb).1
      · rw [hΓ]
      · have := famOf_heap hx
        rw [hΓ]
        exact ⟨(Array.getElem?_eq_some_iff.1 this).1, hF _, this⟩
end Go.Proofs.Ytdmcbfmpnakdfaa.Oa
/- Slices of acts as arguments, their picks known, of a length that a machine bears. -/
namespace Go.Proofs.Ytdmcbfmpnakdfaa.Oa
open Go Go.ChangeShapes Go.WideShapes Go.RowKit Go.Proofs Go.Proofs.Ytdmcbfmpnakdfaa.Eng Go.Proofs.Ytdmcbfmpnakdfaa.Op
set_option maxRecDepth 20000
variable {H : Type} {enc : TypeId × Value → H} {w : World} {base : Nat} {spare : Nat → Bool} {held : Bool}
theorem i64_wfG {z : Int} (h : (Lit.int .i64 z).wf = true) : -2 ^ 63 ≤ z ∧ z < 2 ^ 63 := by
  simp [Lit.wf, IntKind.min, IntKind.max, IntKind.bits, IntKind.signed] at h
  omega
theorem open_i64G {r : Reach} {b0 : Nat} {v : Value} {d : DataW H} {p : List MemPlace} (hv : Value.okWide Try.prog w r b0 3 v) (h : DataW.Trod enc Try.prog w base spare held 3 v d p) :
    ∃ z : Int, (-2 ^ 63 ≤ z ∧ z < 2 ^ 63) ∧ ∀ ρ : Ren, (AV.sc (.raw (.int .i64 z))).den ρ = v := by
  obtain ⟨a, rfl, _, _, hw⟩ := open_int Try.underlying3 hv h
  exact ⟨a, i64_wfG hw, fun _ => rfl⟩
theorem weights_mem_all {P : Program} {e : TypeId} : ∀ {ds : List (DataW H)} {j : Nat} {d : DataW H}, ds[j]? = some d → ∀ m ∈ d.weights P e, m ∈ DataW.weightsAll P e ds
  | d0 :: ds, 0, d, hd, m, hm => by
    simp only [List.getElem?_cons_zero, Option.some.injEq] at hd
    subst hd
    simp only [DataW.weightsAll, List.mem_append]
    exact Or.inl hm
  | d0 :: ds, j + 1, d, hd, m, hm => by
    simp only [List.getElem?_cons_succ] at hd
    simp only [DataW.weightsAll, List.mem_append]
    exact Or.inr (weights_mem_all hd m hm)
  | [], _, _, hd, _, _ => by simp at hd
theorem open_rows2 {P : Program} {α : Type} (D : α → List Value) (W : α → Prop) {t e : TypeId} {sz : Nat} {r : Reach} {b0 : Nat} {v : Value} {d : DataW H} {p : List MemPlace} (ht : P.underlying t = some (.slice e)) (hc : P.cellsOf e = sz)
    (hD : ∀ (n : Nat) (cs : List Value) (x : DataW H × List MemPlace), DataW.trod enc P w base spare held n e cs = some x → (∀ m ∈ x.1.weights P e, m ≤ reachBytes) → ∃ a, cs = D a ∧ W a)
    (hv : Value.okWide P w r b0 t v) (h : DataW.Trod enc P w base spare held t v d p) (hz : ∀ m ∈ d.weights P t, m ≤ reachBytes) :
    v = .slice none 0 0 ∨ ∃ (b off cap : Nat) (l : List α) (c : Array Value) (t' : TypeId) (fr : Nat × Nat) (pre post : List Value), v = .slice (some ⟨b, off, none⟩) l.length cap ∧ l.length ≤ cap ∧ (cap : Int) ≤ maxLen ∧ w.heap[b]? = some (.cells c t' fr) ∧ c.toList = pre ++ (l.flatMap D ++ post) ∧ pre.length = off ∧ ∀ a ∈ l, W a := by
  rcases slice_lies ht hv with rfl | ⟨b, off, len, cap, c, t', fr, rfl, hlc, hb, ho⟩
  · exact .inl rfl
  right
  obtain ⟨fuel, hf⟩ := h
  have hcs : (Value.slice (some ⟨b, off, none⟩) len cap).cells.toList = [.slice (some ⟨b, off, none⟩) len cap] := rfl
  rw [hcs] at hf
  rcases DataW.trod_slice ht hf with ⟨he, _⟩ | ⟨ad, len', cap', elems, rest, n, _, he, hx, _, _, hcm, hel, hget, _⟩
  · injection he with he; cases he
  injection he with he
  injection he with h1 h2 h3
  injection h1 with h1
  subst h1; subst h2; subst h3
  have hd : d = .slice (elems.map (·.1)) (rest.map (·.1)) := (Prod.mk.inj hx).1
  have hwt : ∀ (i : Nat) (x : DataW H × List MemPlace), elems[i]? = some x → ∀ m ∈ x.1.weights P e, m ≤ reachBytes := fun i x hi m hm => by
    refine hz m ?_
    rw [hd]
    simp only [DataW.weights, ht, List.mem_cons, List.mem_append]
    exact .inr (.inl (weights_mem_all (j := i) (by rw [List.getElem?_map, hi]; rfl) m hm))
  have one : ∀ i, i < len → ∃ a, W a ∧ (D a).length = sz ∧ ∀ j, j < sz → c[off + i * sz + j]? = (D a)[j]? := by
    intro i hi
    have hg := hget i hi
    have hie : i < elems.length := by omega
    rw [hc, List.getElem?_eq_getElem hie] at hg
    obtain ⟨cs, g1, g2⟩ := Option.bind_eq_some_iff.1 hg
    obtain ⟨a, rfl, ha⟩ := hD _ _ _ g2 (hwt i _ (List.getElem?_eq_getElem hie))
    obtain ⟨_, g3, g4⟩ := World.cells?_some g1
    refine ⟨a, ha, g3, fun j hj => ?_⟩
    rw [← g4 j hj]
    have ea : ((⟨b, off, none⟩ : Addr).add (i * sz)).add j = ⟨b, off + i * sz + j, none⟩ := by
      unfold Addr.add
      by_cases h1 : i * sz = 0
      · by_cases h2 : j = 0
        · simp [h1, h2]
        · simp [h1, h2]
      · by_cases h2 : j = 0
        · simp [h1, h2]
        · simp [h1, h2]
    rw [ea]
    unfold World.cell?
    simp only [hb]
    rfl
  have all : ∀ k, k ≤ len → ∃ l : List α, l.length = k ∧ (∀ a ∈ l, W a) ∧ (l.flatMap D).length = k * sz ∧ ∀ j, j < k * sz → c[off + j]? = (l.flatMap D)[j]? := by
    intro k
    induction k with
    | zero => exact fun _ => ⟨[], rfl, by simp, by simp, by simp⟩
    | succ k ih =>
      intro hk
      obtain ⟨l, l1, l2, l3, l4⟩ := ih (by omega)
      obtain ⟨a, a1, a2, a3⟩ := one k (by omega)
      refine ⟨l ++ [a], by simp [l1], ?_, by simp [l3, a2, Nat.add_mul], fun j hj => ?_⟩
      · intro x hx
        rcases List.mem_append.1 hx with hx | hx
        · exact l2 x hx
        · rw [List.mem_singleton.1 hx]; exact a1
      · rw [List.flatMap_append]
        by_cases hjk : j < k * sz
        · rw [List.getElem?_append_left (by omega), ← l4 j hjk]
        · rw [List.getElem?_append_right (by omega), l3]
          rw [Nat.add_mul, Nat.one_mul] at hj
          have := a3 (j - k * sz) (by omega)
          rw [show off + k * sz + (j - k * sz) = off + j by omega] at this
          rw [this]; simp
  obtain ⟨l, l1, l2, l3, l4⟩ := all len (Nat.le_refl _)
  refine ⟨b, off, cap, l, c, t', fr, c.toList.take off, (c.toList.drop off).drop (len * sz), by rw [l1], by omega, by exact_mod_cast hcm, hb, ?_, by simp; omega, l2⟩
  have := cells_take (off := off) (c := c) l3 l4
  rw [← this, List.take_append_drop, List.take_append_drop]
theorem pk_len {v : Value} {pk pk2 : List Int} (h : PkW w v pk) (h2 : PkW w v pk2) : pk.length = pk2.length := by
  rcases h with ⟨ad, cp, h1, rfl⟩ | ⟨b, off, cap, c, t, fr, pre, post, h1, _⟩ <;> rcases h2 with ⟨ad2, cp2, g1, rfl⟩ | ⟨b2, off2, cap2, c2, t2, fr2, pre2, post2, g1, _⟩ <;> rw [h1] at g1 <;> injection g1 with _ g2 _ <;> first | rfl | exact g2 | (rw [← g2]; rfl) | (rw [g2]; rfl)
theorem pk_cells3 {n : Nat} {v : Value} {x : DataW H × List MemPlace} (h : DataW.trod enc Try.prog w base spare held n 44 [v] = some x) (hz : ∀ m ∈ x.1.weights Try.prog 44, m ≤ reachBytes) : ∃ pk, PkW w v pk ∧ pk.length ≤ reachBytes := by
  obtain ⟨pk, hpk⟩ := pk_cells h
  refine ⟨pk, hpk, ?_⟩
  rcases DataW.trod_slice Try.underlying44 h with ⟨he, _⟩ | ⟨ad, len, cap, elems, rest, n', _, he, hx, _, hlc, _, hel, _, _⟩
  · injection he with he
    rcases hpk with ⟨_, _, _, rfl⟩ | ⟨b, off, cap, c, t, fr, pre, post, h1, _⟩
    · exact Nat.zero_le _
    · rw [h1] at he; cases he
  · injection he with he
    have hl : pk.length = len := by
      rcases hpk with ⟨_, _, h1, rfl⟩ | ⟨b, off, cap, c, t, fr, pre, post, h1, _⟩
      · rw [h1] at he; injection he
      · rw [h1] at he; injection he
    have hb : Try.prog.bytesOf 5 = 1 := by kernel_rfl
    have := hz ((elems.length + rest.length) * Try.prog.bytesOf 5) (by
      rw [hx]
      simp [DataW.weights, Try.underlying44])
    rw [hb] at this
    omega
set_option maxRecDepth 20000 in
theorem act_cells3 {n : Nat} {cs : List Value} {x : DataW H × List MemPlace} (h : DataW.trod enc Try.prog w base spare held n 57 cs = some x) (hz : ∀ m ∈ x.1.weights Try.prog 57, m ≤ reachBytes) : ∃ a, cs = D a ∧ cell1 a.p = true ∧ ∃ pk, PkW w a.p pk ∧ pk.length ≤ reachBytes := by
  obtain ⟨a, rfl, ha⟩ := act_cells h
  refine ⟨a, rfl, ha, ?_⟩
  obtain ⟨xs, m, _, hx, hl, hxl, hget⟩ := DataW.trod_struct Try.underlying57 h
  have hc44 : Try.prog.cellsOf 44 = 1 := by kernel_rfl
  have hx5 : xs.length = 5 := hxl
  have g3 := hget 3 _ rfl
  rw [List.getElem?_eq_getElem (by omega)] at g3
  have e : ((D a).drop 66).take (Try.prog.cellsOf 44) = [a.p] := by
    rw [hc44]; rfl
  have g3' : DataW.trod enc Try.prog w base spare held m 44 (((D a).drop 66).take (Try.prog.cellsOf 44)) = some xs[3] := g3
  rw [e] at g3'
  refine pk_cells3 g3' fun k hk => hz k ?_
  rw [hx]
  simp only [DataW.weights, Try.underlying57]
  exact DataW.weights_mem_each (j := 3) (t := 44) rfl (by rw [List.getElem?_map, List.getElem?_eq_getElem (by omega)]; rfl) k hk
/-- A slice of acts: nil, or a row that is read alone; where the picks lie, and that they are not too long. -/
theorem open_actsG {r : Reach} {b0 : Nat} {v : Value} {d : DataW H} {p : List MemPlace} (hv : Value.okWide Try.prog w r b0 43 v) (h : DataW.Trod enc Try.prog w base spare held 43 v d p) (hz : ∀ m ∈ d.weights Try.prog 43, m ≤ reachBytes) :
    ∃ (ar : Ar) (l : List ActV) (s : Spot) (R : List (Nat × Obj)) (pks : ActV → List Int), ar.ok l ∧ (∀ x ∈ l, PkOk R x.p (pks x)) ∧ (∀ x ∈ l, (pks x).length ≤ 2 ^ 47 - 4096) ∧ ∀ (Γ : Ctx) (ρ : Ren) (id id2 : Nat), Γ.W = w → (∀ b, ¬ Γ.F b) → ρ id = s → ρ id2 = s →
      (AV.sc (ar.sv l.length id)).den ρ = v ∧ (∀ b, arB ar l = some b → BlkSat Γ ρ w id b ∧ b.w = false) ∧ ∀ b, famO ar R = some b → BlkSat Γ ρ w id2 b ∧ b.w = false := by
  rcases open_rows2 (sz := 68) D (fun a => cell1 a.p = true ∧ ∃ pk, PkW w a.p pk ∧ pk.length ≤ reachBytes) Try.underlying43 (by kernel_rfl) (fun n cs x h hx => act_cells3 h hx) hv h hz with rfl | ⟨b, off, cap, l, c, t', fr, pre, post, rfl, hlc, hcm, hb, hcs, hpre, hW⟩
  · exact ⟨.nil, [], ⟨0, 0, 0⟩, [], fun _ => [], rfl, fun x hx => (by cases hx), fun x hx => (by cases hx), fun Γ ρ id id2 _ _ _ _ => ⟨rfl, fun b hb => (by cases hb), fun b hb => (by cases hb)⟩⟩
  · refine ⟨.row, l, ⟨b, off, cap⟩, famOf w b l, pksOf w, trivial, fun x hx => ?_, fun x hx => ?_, fun Γ ρ id id2 hΓ hF hρ hρ2 => ⟨?_, fun bb hbb => ?_, fun bb hbb => ?_⟩⟩
    · have hpk : PkW w x.p (pksOf w x) := by
        unfold pksOf
        have hex : ∃ pk, PkW w x.p pk := ⟨_, (hW x hx).2.choose_spec.1⟩
        rw [dif_pos hex]
        exact hex.choose_spec
      rcases hpk with h1 | ⟨b1, off1, cap1, c1, t1, fr1, pre1, post1, h1, h2, h3, h4, h5⟩
      · exact .inl h1
      · refine .inr ⟨b1, off1, cap1, c1, t1, fr1, pre1, post1, h1, famOf_mem (List.mem_cons_of_mem _ (List.mem_map.2 ⟨x, hx, by rw [h1]⟩)) h2, h3, h4, h5⟩
    · obtain ⟨pk, h1, h2⟩ := (hW x hx).2
      have hex : ∃ pk, PkW w x.p pk := ⟨pk, h1⟩
      have : (pksOf w x).length = pk.length := by
        unfold pksOf
        rw [dif_pos hex]
        exact pk_len hex.choose_spec h1
      rw [this]
      have h3 : reachBytes = 2 ^ 47 - 4096 := by decide
      omega
    · show Value.slice (some ⟨(ρ id).b, (ρ id).sh + 0 * 68, none⟩) l.length ((ρ id).tot - 0) = _
      rw [hρ]; simp
    · injection hbb with hbb
      subst hbb
      refine ⟨⟨fun e he => ?_, fun e he x hx => ?_, ?_, c, t', fr, pre, post, ?_, ?_, ?_, ?_, ?_⟩, rfl⟩
      · obtain ⟨a, ha, rfl⟩ := List.mem_map.1 he
        refine ⟨rfl, ?_⟩
        have := (hW a ha).1
        simp only [actSegs, Segs.oneB, SV.oneB, this]
        rfl
      · obtain ⟨a, ha, rfl⟩ := List.mem_map.1 he
        cases hx
      · rw [hρ, List.length_map]; exact hlc
      · rw [hρ]; exact hb
      · rw [hcs]
        congr 2
        unfold rowDen
        rw [List.flatMap_map]; rfl
      · rw [hρ]; exact hpre
      · rw [hρ, hΓ]; exact (Array.getElem?_eq_some_iff.1 hb).1
      · rw [hΓ]
    · injection hbb with hbb
      subst hbb
      refine ⟨⟨fun _ h => (by cases h), fun _ h => (by cases h), Nat.zero_le _, ⟨c, t', fr, pre, l.flatMap D ++ post, ?_, by rw [hcs]; rfl, ?_, ?_, ?_⟩, ⟨_, by rw [hρ2]; exact famOf_mem (List.mem_cons_self ..) hb⟩, fun x hx => ?_⟩, rfl⟩
      · rw [hρ2]; exact hb
      · rw [hρ2]; exact hpre
      · rw [hρ2, hΓ]; exact (Array.getElem?_eq_some_iff.1 hb).1
      · rw [hΓ]
      · have := famOf_heap hx
        rw [hΓ]
        exact ⟨(Array.getElem?_eq_some_iff.1 this).1, hF _, this⟩
end Go.Proofs.Ytdmcbfmpnakdfaa.Oa
