/- Slices of acts as arguments, their picks known. -/
import Derived.Test.YtdmcbfmpnakdfaaOe
import Derived.Test.YtdmcbfmpnakdfaaMu
namespace Go.Proofs.Ytdmcbfmpnakdfaa.Oa
open Go Go.ChangeShapes Go.WideShapes Go.RowKit Go.Proofs Go.Proofs.Ytdmcbfmpnakdfaa.Eng Go.Proofs.Ytdmcbfmpnakdfaa.Op
set_option maxRecDepth 20000
variable {H : Type} {enc : TypeId × Value → H} {w : World} {base : Nat} {spare : Nat → Bool} {held : Bool}
/-- A slice of bytes as a value, in the world. -/
def PkW (w : World) (v : Value) (pk : List Int) : Prop :=
  (∃ ad cp, v = .slice ad 0 cp ∧ pk = []) ∨
  ∃ b off cap c t fr pre post, v = .slice (some ⟨b, off, none⟩) pk.length cap ∧ w.heap[b]? = some (.cells c t fr) ∧ c.toList = pre ++ (pk.map (Value.int .u8) ++ post) ∧ pre.length = off ∧ pk.length ≤ cap
theorem pk_cells {n : Nat} {v : Value} {x : DataW H × List MemPlace} (h : DataW.trod enc Try.prog w base spare held n 44 [v] = some x) : ∃ pk, PkW w v pk := by
  rcases DataW.trod_slice Try.underlying44 h with ⟨he, _⟩ | ⟨ad, len, cap, elems, rest, n', _, he, _, _, hlc, _, hel, hget, _⟩
  · injection he with he
    exact ⟨[], .inl ⟨none, 0, he, rfl⟩⟩
  injection he with he
  subst he
  by_cases h0 : len = 0
  · subst h0; exact ⟨[], .inl ⟨_, _, rfl, rfl⟩⟩
  have hc1 : Try.prog.cellsOf 5 = 1 := by kernel_rfl
  have one : ∀ i, i < len → ∃ z : Int, w.cell? (ad.add (i * 1)) = some (.int .u8 z) := by
    intro i hi
    have hg := hget i hi
    rw [hc1, List.getElem?_eq_getElem (by omega)] at hg
    obtain ⟨cs, g1, g2⟩ := Option.bind_eq_some_iff.1 hg
    obtain ⟨z, rfl, _⟩ := DataW.trod_int Try.underlying5 g2
    obtain ⟨_, g3, g4⟩ := World.cells?_some g1
    refine ⟨z, ?_⟩
    have := g4 0 (by decide)
    simpa [Addr.add] using this
  obtain ⟨z0, hz0⟩ := one 0 (by omega)
  have hz0 : w.cell? ad = some (.int .u8 z0) := by simpa [Addr.add] using hz0
  have hz0' := hz0
  unfold World.cell? at hz0
  split at hz0
  case h_2 => cases hz0
  rename_i c t fr hb
  obtain ⟨b, off, spot⟩ := ad
  cases spot with
  | some s => simp at hz0
  | none =>
    have hoff : off < c.size := by
      simp at hz0
      exact (Array.getElem?_eq_some_iff.1 hz0).1
    have hone : ∀ i, i < len → ∃ z : Int, c[off + i]? = some (.int .u8 z) := fun i hi => by
      obtain ⟨z, hz⟩ := one i hi
      refine ⟨z, ?_⟩
      rw [Nat.mul_one, addr_add] at hz
      unfold World.cell? at hz
      simp only [hb] at hz
      simpa using hz
    have all : ∀ k, k ≤ len → ∃ l : List Int, l.length = k ∧ ∀ j, j < k → c[off + j]? = (l.map (Value.int .u8))[j]? := by
      intro k
      induction k with
      | zero => exact fun _ => ⟨[], rfl, fun j hj => absurd hj (by omega)⟩
      | succ k ih =>
        intro hk
        obtain ⟨l, l1, l2⟩ := ih (by omega)
        obtain ⟨z, hz⟩ := hone k (by omega)
        refine ⟨l ++ [z], by simp [l1], fun j hj => ?_⟩
        by_cases hjk : j < k
        · rw [l2 j hjk, List.map_append, List.getElem?_append_left (by simpa [l1] using hjk)]
        · obtain rfl : j = k := by omega
          rw [hz, List.map_append, List.getElem?_append_right (by simp [l1])]
          simp [l1]
    obtain ⟨l, l1, l2⟩ := all len (Nat.le_refl _)
    refine ⟨l, .inr ⟨b, off, cap, c, t, fr, c.toList.take off, (c.toList.drop off).drop len, by rw [l1], hb, ?_, by simp; omega, by omega⟩⟩
    have := cells_take (off := off) (c := c) (m := len) (cs := l.map (Value.int .u8)) (by simp [l1]) l2
    rw [← this, List.take_append_drop, List.take_append_drop]
set_option maxRecDepth 20000 in
theorem act_cells2 {n : Nat} {cs : List Value} {x : DataW H × List MemPlace} (h : DataW.trod enc Try.prog w base spare held n 57 cs = some x) : ∃ a, cs = D a ∧ cell1 a.p = true ∧ ∃ pk, PkW w a.p pk := by
  obtain ⟨a, rfl, ha⟩ := act_cells h
  refine ⟨a, rfl, ha, ?_⟩
  obtain ⟨xs, m, _, _, hl, hxl, hget⟩ := DataW.trod_struct Try.underlying57 h
  have hc44 : Try.prog.cellsOf 44 = 1 := by kernel_rfl
  have hx5 : xs.length = 5 := hxl
  have g3 := hget 3 _ rfl
  rw [List.getElem?_eq_getElem (by omega)] at g3
  have e : ((D a).drop 66).take (Try.prog.cellsOf 44) = [a.p] := by
    rw [hc44]; rfl
  have g3' : DataW.trod enc Try.prog w base spare held m 44 (((D a).drop 66).take (Try.prog.cellsOf 44)) = some xs[3] := g3
  rw [e] at g3'
  exact pk_cells g3'
open Classical in
noncomputable def pksOf (w : World) (a : ActV) : List Int := if h : ∃ pk, PkW w a.p pk then h.choose else []
def famOf (w : World) (b : Nat) (l : List ActV) : List (Nat × Obj) := (b :: l.map (fun a => match a.p with | .slice (some ad) _ _ => ad.block | _ => b)).filterMap fun k => (w.heap[k]?).map fun o => (k, o)
theorem famOf_mem {w : World} {b k : Nat} {l : List ActV} {o : Obj} (hk : k ∈ (b :: l.map (fun a => match a.p with | .slice (some ad) _ _ => ad.block | _ => b))) (ho : w.heap[k]? = some o) : (k, o) ∈ famOf w b l := by
  unfold famOf
  exact List.mem_filterMap.2 ⟨k, hk, by rw [ho]; rfl⟩
theorem famOf_heap {w : World} {b : Nat} {l : List ActV} {x : Nat × Obj} (h : x ∈ famOf w b l) : w.heap[x.1]? = some x.2 := by
  unfold famOf at h
  obtain ⟨k, _, hk⟩ := List.mem_filterMap.1 h
  cases ho : w.heap[k]? with
  | none => rw [ho] at hk; cases hk
  | some o => rw [ho] at hk; cases hk; exact ho
/-- A slice of acts: nil, or a row that is read alone; where the picks lie. -/
theorem open_actsF {r : Reach} {b0 : Nat} {v : Value} {d : DataW H} {p : List MemPlace} (hv : Value.okWide Try.prog w r b0 43 v) (h : DataW.Trod enc Try.prog w base spare held 43 v d p) :
    ∃ (ar : Ar) (l : List ActV) (s : Spot) (R : List (Nat × Obj)) (pks : ActV → List Int), ar.ok l ∧ (∀ x ∈ l, PkOk R x.p (pks x)) ∧ ∀ (Γ : Ctx) (ρ : Ren) (id id2 : Nat), Γ.W = w → (∀ b, ¬ Γ.F b) → ρ id = s → ρ id2 = s →
      (AV.sc (ar.sv l.length id)).den ρ = v ∧ (∀ b, arB ar l = some b → BlkSat Γ ρ w id b ∧ b.w = false) ∧ ∀ b, famO ar R = some b → BlkSat Γ ρ w id2 b ∧ b.w = false := by
  rcases open_rows (sz := 68) D (fun a => cell1 a.p = true ∧ ∃ pk, PkW w a.p pk) Try.underlying43 (by kernel_rfl) (fun n cs x h => act_cells2 h) hv h with rfl | ⟨b, off, cap, l, c, t', fr, pre, post, rfl, hlc, hcm, hb, hcs, hpre, hW⟩
  · exact ⟨.nil, [], ⟨0, 0, 0⟩, [], fun _ => [], rfl, fun x hx => (by cases hx), fun Γ ρ id id2 _ _ _ _ => ⟨rfl, fun b hb => (by cases hb), fun b hb => (by cases hb)⟩⟩
  · refine ⟨.row, l, ⟨b, off, cap⟩, famOf w b l, pksOf w, trivial, fun x hx => ?_, fun Γ ρ id id2 hΓ hF hρ hρ2 => ⟨?_, fun bb hbb => ?_, fun bb hbb => ?_⟩⟩
    · have hpk : PkW w x.p (pksOf w x) := by
        unfold pksOf
        rw [dif_pos (hW x hx).2]
        exact (hW x hx).2.choose_spec
      rcases hpk with h1 | ⟨b1, off1, cap1, c1, t1, fr1, pre1, post1, h1, h2, h3, h4, h5⟩
      · exact .inl h1
      · refine .inr ⟨b1, off1, cap1, c1, t1, fr1, pre1, post1, h1, famOf_mem (List.mem_cons_of_mem _ (List.mem_map.2 ⟨x, hx, by rw [h1]⟩)) h2, h3, h4, h5⟩
    · show Value.slice (some ⟨(ρ id).b, (ρ id).sh + 0 * 68, none⟩) l.length ((ρ id).tot - 0) = _
      rw [hρ]; simp
    · injection hbb with hbb
      subst hbb
      refine ⟨⟨fun e he => ?_, fun e he x hx => ?_, ?_, c, t', fr, pre, post, ?_, ?_, ?_, ?_, ?_⟩, rfl⟩
      · obtain ⟨a, ha, rfl⟩ := List.mem_map.1 he
        refine ⟨rfl, ?_⟩
        have := (hW a ha).1
        simp only [actSegs, Segs.oneB, SV.oneB, this]
        rfl
      · obtain ⟨a, ha, rfl⟩ := List.mem_map.1 he
        cases hx
      · rw [hρ, List.length_map]; exact hlc
      · rw [hρ]; exact hb
      · rw [hcs]
        congr 2
        unfold rowDen
        rw [List.flatMap_map]; rfl
      · rw [hρ]; exact hpre
      · rw [hρ, hΓ]; exact (Array.getElem?_eq_some_iff.1 hb).1
      · rw [hΓ]
    · injection hbb with hbb
      subst hbb
      refine ⟨⟨fun _ h => (by cases h), fun _ h => (by cases h), Nat.zero_le _, ⟨c, t', fr, pre, l.flatMap D ++ post, ?_, by rw [hcs]; rfl, ?_, ?_, ?_⟩, ⟨_, by rw [hρ2]; exact famOf_mem (List.mem_cons_self ..) hb⟩, fun x hx => ?_⟩, rfl⟩
      · rw [hρ2]; exact hb
      · rw [hρ2]; exact hpre
      · rw [hρ2, hΓ]; exact (Array.getElem?_eq_some_iff.1 hb).1
      · rw [hΓ]
      · have := famOf_heap hx
        rw [hΓ]
        exact ⟨(Array.getElem?_eq_some_iff.1 this).1, hF _, this⟩
end Go.Proofs.Ytdmcbfmpnakdfaa.Oa
