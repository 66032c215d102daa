/- Lists of sectors and of whole numbers as arguments. -/
import Derived.Test.YtdmcbfmpnakdfaaOb
import Derived.Test.YtdmcbfmpnakdfaaOp
import Derived.Test.YtdmcbfmpnakdfaaQy
namespace Go.Proofs.Ytdmcbfmpnakdfaa.Oa
open Go Go.ChangeShapes Go.WideShapes Go.RowKit Go.Proofs Go.Proofs.Ytdmcbfmpnakdfaa.Eng Go.Proofs.Ytdmcbfmpnakdfaa.Op
set_option maxRecDepth 20000
variable {H : Type} {enc : TypeId × Value → H} {w : World} {base : Nat} {spare : Nat → Bool} {held : Bool}
/-- A slice that may be nil (none), or of a capacity. -/
def slA (c : Option Nat) (sz n id : Nat) : SV := match c with
  | none => nilS
  | some k => .sl id 0 sz n (some k)
def secsB (c : Option Nat) (l : List (List Nat)) : Option ABlk := match c with
  | none => none
  | some _ => rowS l
def intsB (c : Option Nat) (l : List Int) : Option ABlk := match c with
  | none => none
  | some _ => rowRI (l.take 5)
def slOk {α : Type} (c : Option Nat) (l : List α) : Prop := match c with
  | none => l = []
  | some k => l.length ≤ k
theorem secs_cells {n : Nat} {cs : List Value} {x : DataW H × List MemPlace} (h : DataW.trod enc Try.prog w base spare held n 34 cs = some x) : ∃ s : List Nat, cs = bysN 64 s ∧ Sec s := by
  obtain ⟨l, hl, rfl, hw⟩ := row_ints (n := 64) Try.underlying34 Try.underlying5 (by kernel_rfl) (by kernel_rfl) h
  have hb : ∀ z ∈ l, 0 ≤ z ∧ z < 256 := fun z hz => by
    have h' := hw z hz
    simp [Lit.wf, IntKind.min, IntKind.max, IntKind.bits, IntKind.signed] at h'
    omega
  refine ⟨l.map Int.toNat, ?_, by simp [hl], fun x hx => ?_⟩
  · apply List.ext_getElem?
    intro i
    unfold bysN
    by_cases hi : i < 64
    · have h0 := hb (l[i]'(by omega)) (List.getElem_mem _)
      have hi' : i < l.length := by omega
      simp only [List.getElem?_map, List.getElem?_eq_getElem hi', Option.map_some, List.getElem?_range hi, List.getD_eq_getElem?_getD, Option.getD_some]
      congr 2
      omega
    · rw [List.getElem?_eq_none (by simp; omega), List.getElem?_eq_none (by simp; omega)]
  · obtain ⟨z, hz, rfl⟩ := List.mem_map.1 hx
    have := hb z hz
    omega
theorem open_secs {r : Reach} {b0 : Nat} {v : Value} {d : DataW H} {p : List MemPlace} (hv : Value.okWide Try.prog w r b0 22 v) (h : DataW.Trod enc Try.prog w base spare held 22 v d p) :
    ∃ (c : Option Nat) (l : List (List Nat)) (s : Spot), (slOk c l ∧ Secs l) ∧ ∀ (Γ : Ctx) (ρ : Ren) (id : Nat), Γ.W = w → ρ id = s → (AV.sc (slA c 64 l.length id)).den ρ = v ∧ ∀ b, secsB c l = some b → BlkSat Γ ρ w id b ∧ b.w = false := by
  rcases open_rows (sz := 64) (fun s : List Nat => bysN 64 s) Sec Try.underlying22 (by kernel_rfl) (fun n cs x h => secs_cells h) hv h with rfl | ⟨b, off, cap, l, c, t', fr, pre, post, rfl, hlc, hcm, hb, hcs, hpre, hW⟩
  · exact ⟨none, [], ⟨0, 0, 0⟩, ⟨rfl, fun _ h => by cases h⟩, fun Γ ρ id _ _ => ⟨rfl, fun b hb => by cases hb⟩⟩
  · refine ⟨some cap, l, ⟨b, off, cap⟩, ⟨hlc, hW⟩, fun Γ ρ id hΓ hρ => ⟨?_, fun bb hbb => ?_⟩⟩
    · show Value.slice (some ⟨(ρ id).b, (ρ id).sh + 0 * 64, none⟩) l.length cap = _
      rw [hρ]; simp
    · injection hbb with hbb
      subst hbb
      refine ⟨⟨fun e he => ?_, fun e he x hx => ?_, ?_, c, t', fr, pre, post, ?_, ?_, ?_, ?_, ?_⟩, rfl⟩
      · obtain ⟨a, ha, rfl⟩ := List.mem_map.1 he
        exact ⟨rfl, rfl⟩
      · obtain ⟨a, ha, rfl⟩ := List.mem_map.1 he
        cases hx
      · rw [hρ, List.length_map]; exact hlc
      · rw [hρ]; exact hb
      · rw [hcs]
        congr 2
        unfold rowDen
        rw [List.flatMap_map]
        simp only [secS, Segs.den, Seg.den, List.append_nil]
      · rw [hρ]; exact hpre
      · rw [hρ, hΓ]; exact (Array.getElem?_eq_some_iff.1 hb).1
      · rw [hΓ]
theorem open_ints {r : Reach} {b0 : Nat} {v : Value} {d : DataW H} {p : List MemPlace} (hv : Value.okWide Try.prog w r b0 23 v) (h : DataW.Trod enc Try.prog w base spare held 23 v d p) :
    ∃ (c : Option Nat) (l : List Int) (s : Spot), slOk c l ∧ ∀ (Γ : Ctx) (ρ : Ren) (id : Nat), Γ.W = w → ρ id = s → (AV.sc (slA c 1 l.length id)).den ρ = v ∧ ∀ b, intsB c l = some b → BlkSat Γ ρ w id b ∧ b.w = false := by
  rcases open_rows (sz := 1) (fun z : Int => [Value.int .i64 z]) (fun _ => True) Try.underlying23 (by kernel_rfl) (fun n cs x h => (by obtain ⟨z, rfl, _⟩ := DataW.trod_int Try.underlying3 h; exact ⟨z, rfl, trivial⟩)) hv h with rfl | ⟨b, off, cap, l, c, t', fr, pre, post, rfl, hlc, hcm, hb, hcs, hpre, hW⟩
  · exact ⟨none, [], ⟨0, 0, 0⟩, rfl, fun Γ ρ id _ _ => ⟨rfl, fun b hb => by cases hb⟩⟩
  · refine ⟨some cap, l, ⟨b, off, cap⟩, hlc, fun Γ ρ id hΓ hρ => ⟨?_, fun bb hbb => ?_⟩⟩
    · show Value.slice (some ⟨(ρ id).b, (ρ id).sh + 0 * 1, none⟩) l.length cap = _
      rw [hρ]; simp
    · injection hbb with hbb
      subst hbb
      refine ⟨⟨fun e he => ?_, fun e he x hx => ?_, ?_, c, t', fr, pre, (l.drop 5).flatMap (fun z : Int => [Value.int .i64 z]) ++ post, ?_, ?_, ?_, ?_, ?_⟩, rfl⟩
      · obtain ⟨a, ha, rfl⟩ := List.mem_map.1 he
        exact ⟨rfl, rfl⟩
      · obtain ⟨a, ha, rfl⟩ := List.mem_map.1 he
        cases hx
      · rw [hρ, List.length_map, List.length_take]
        have : l.length ≤ cap := hlc
        show min 5 l.length ≤ cap
        omega
      · rw [hρ]; exact hb
      · rw [hcs]
        congr 1
        rw [← List.append_assoc]
        congr 1
        unfold rowDen
        rw [List.flatMap_map]
        rw [show l.flatMap (fun z : Int => [Value.int .i64 z]) = (l.take 5 ++ l.drop 5).flatMap (fun z : Int => [Value.int .i64 z]) by rw [List.take_append_drop], List.flatMap_append]
        rfl
      · rw [hρ]; exact hpre
      · rw [hρ, hΓ]; exact (Array.getElem?_eq_some_iff.1 hb).1
      · rw [hΓ]
theorem colsAt {c : Option Nat} {l : List (List Nat)} (h : slOk c l) : ∃ co A, ColsAt (slA c 64 l.length 0) (secsB c l) (l.take 70) co A := by
  cases c with
  | none =>
    obtain rfl : l = [] := h
    exact ⟨_, _, .inl ⟨rfl, rfl, rfl, rfl, rfl⟩⟩
  | some k =>
    have h : l.length ≤ k := h
    cases l with
    | nil => exact ⟨_, _, .inr (.inl ⟨k, rfl, rfl, rfl, rfl, rfl⟩)⟩
    | cons a r => exact ⟨_, _, .inr (.inr ⟨a :: r, k, rfl, rfl, by simp, h, rfl, rfl, rfl⟩)⟩
theorem lostAt {c : Option Nat} {l : List Int} (h : slOk c l) : ∃ z, LostAt (slA c 1 l.length 1) (intsB c l) z := by
  cases c with
  | none =>
    obtain rfl : l = [] := h
    exact ⟨_, .inl ⟨rfl, rfl, rfl⟩⟩
  | some k => exact ⟨_, .inr ⟨l.length, k, l.take 5, rfl, rfl, by rw [List.length_take]; omega, h, rfl⟩⟩
theorem parityFix_arg {c d : Option Nat} {l : List (List Nat)} {z : List Int} (hc : slOk c l ∧ Secs l) (hd : slOk d z) :
    FunT Try.prog 3 [.sc (slA c 64 l.length 0), .sc (slA d 1 z.length 1)] [secsB c l, intsB d z] (bv true) [secsB c l, intsB d z] := by
  obtain ⟨co, A, h1⟩ := colsAt hc.1
  obtain ⟨y, h2⟩ := lostAt hd
  exact parityFix_ok _ _ _ _ _ co A y h1 h2 (fun s hs => hc.2 s (List.mem_of_mem_take hs)) (by rw [List.length_take]; omega)
end Go.Proofs.Ytdmcbfmpnakdfaa.Oa
