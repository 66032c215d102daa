/- A contract about a slice that is read, turned to one about its value, where what it holds is known to stay. -/
import Derived.Test.YtdmcbfmpnakdfaaEp
namespace Go.Proofs.Ytdmcbfmpnakdfaa.Eng
open Go
theorem hpL_set {h : LHp} {j i : Nat} {x : ABlk} {b : ABlk} (hb : hpL (h.set j (some x)) i = some b) : (i = j ∧ b = x) ∨ (i ≠ j ∧ hpL h i = some b) := by
  unfold hpL at hb ⊢
  by_cases e : i = j
  · subst e
    left
    rw [List.getD_eq_getElem?_getD] at hb
    by_cases hl : i < h.length
    · rw [List.getElem?_set_self hl] at hb
      simp at hb
      exact ⟨rfl, hb.symm⟩
    · rw [List.getElem?_eq_none (by simp; omega)] at hb
      simp at hb
  · right
    refine ⟨e, ?_⟩
    rw [List.getD_eq_getElem?_getD, List.getElem?_set_ne (fun h => e h.symm)] at hb
    rw [List.getD_eq_getElem?_getD]; exact hb
theorem hpL_set_ne {h : LHp} {j i : Nat} {x : Option ABlk} (e : i ≠ j) : hpL (h.set j x) i = hpL h i := by
  unfold hpL
  rw [List.getD_eq_getElem?_getD, List.getD_eq_getElem?_getD, List.getElem?_set_ne (fun h => e h.symm)]
theorem hpL_set_same {h : LHp} {j : Nat} {x : Option ABlk} (hl : j < h.length) : hpL (h.set j x) j = x := by
  unfold hpL
  rw [List.getD_eq_getElem?_getD, List.getElem?_set_self hl]; rfl
theorem BlkSat.r0 {Γ : Ctx} {ρ : Ren} {w : World} {id : Nat} {b : ABlk} (n0 : Nat) (r0 : Ren) (h : BlkSat Γ ρ w id b) : BlkSat ⟨Γ.W, Γ.F, n0, r0⟩ ρ w id b := by
  cases b with
  | row md t sz L ms => cases md <;> exact h
  | map es ms => exact h
def noId (j : Nat) (h : LHp) : Bool := h.all fun o => match o with
  | some b => !b.ms.contains j
  | none => true
theorem noId_spec {j : Nat} {h : LHp} (hn : noId j h = true) {i : Nat} {b : ABlk} (hb : hpL h i = some b) : ∀ x ∈ b.ms, x ≠ j := by
  intro x hx e
  subst e
  unfold hpL at hb
  rw [List.getD_eq_getElem?_getD] at hb
  have hm : some b ∈ h := by
    cases hg : h[i]? with
    | none => rw [hg] at hb; simp at hb
    | some o =>
      rw [hg] at hb
      simp at hb
      subst hb
      exact List.mem_of_getElem? hg
  have := List.all_eq_true.1 hn _ hm
  simp at this
  exact this hx
abbrev famB (R : List (Nat × Obj)) : ABlk := .row (.fam R) 0 0 [] []
theorem FunT.fam {P : Program} {f : FuncId} {args args2 : List AV} {h h' : LHp} {r : AV} (j : Nat) (hF : FunT P f args h r h') {t : TypeId} {sz : Nat} {L : List Segs} (hj : hpL h j = some (.row .ro t sz L [])) (hjl : j < h.length)
    {R : List (Nat × Obj)} {b off cap : Nat} {c : Array Value} {t' : TypeId} {fr : Nat × Nat} {pre post : List Value} (hb : (b, .cells c t' fr) ∈ R) (hc : ∀ ρ, c.toList = pre ++ (rowDen ρ L ++ post)) (hpre : pre.length = off) (hcap : L.length ≤ cap)
    (hL : ∀ e ∈ L, Segs.size e = sz ∧ Segs.oneB e = true) (hLi : ∀ e ∈ L, Segs.ids e = [])
    (hargs : ∀ ρ, AV.dens (updR ρ j ⟨b, off, cap⟩) args = AV.dens ρ args2) (hm : noId j h = true) (hm' : noId j h' = true) (hr : ∀ x ∈ r.ids, x ≠ j) :
    FunT P f args2 (h.set j (some (famB R))) r (h'.set j (some (famB R))) := by
  intro Γ ρ w hn hs
  have hfam := hs.blk j (famB R) (hpL_set_same hjl)
  obtain ⟨_, _, _, ⟨c0, t0, fr0, pre0, post0, a1, a2, a3, a4, a5⟩, ⟨o, ho⟩, hR⟩ := hfam
  obtain ⟨x1, x2, x3⟩ := hR _ hb
  obtain ⟨y1, y2, y3⟩ := hR _ ho
  have hs2 : Sat ⟨Γ.W, Γ.F, Γ.n0, updR Γ.r0 j ⟨b, off, cap⟩⟩ (updR ρ j ⟨b, off, cap⟩) (hpL h) w := by
    refine ⟨fun i bb hi => ?_, fun i k a bb hi hk haw he => ?_, fun i a hi haw hlt => ?_, hs.frame, hs.size, hs.os, hs.tape, hs.output, fun i hi => ?_⟩
    · by_cases e : i = j
      · subst e
        rw [hj] at hi; cases hi
        refine ⟨hL, fun e he x hx => (by rw [hLi e he] at hx; cases hx), by rw [updR_same]; exact hcap, c, t', fr, pre, post, ?_, hc _, by rw [updR_same]; exact hpre, by rw [updR_same]; exact x1, by rw [updR_same]; exact hs.frame _ x1 x2⟩
        rw [updR_same]
        exact (hs.frame _ x1 x2).trans x3
      · refine BlkSat.r0 _ _ ((hs.blk i bb (by rw [hpL_set_ne e]; exact hi)).congr (updR_ne _ _ e) (fun x hx => updR_ne _ _ (noId_spec hm hi x hx)) rfl)
    · have hi' : i ≠ j := fun e => by
        subst e
        rw [hj] at hi; cases hi; cases haw
      rw [updR_ne _ _ hi'] at he
      have hsi : hpL (h.set j (some (famB R))) i = some a := by rw [hpL_set_ne hi']; exact hi
      by_cases e : k = j
      · subst e
        rw [updR_same] at he
        have q := hs.foot i a hsi haw (by rw [he]; exact x1)
        rw [he] at q
        exact absurd q x2
      · rw [updR_ne _ _ e] at he
        exact hs.inj i k a bb hsi (by rw [hpL_set_ne e]; exact hk) haw he
    · have hi' : i ≠ j := fun e => by
        subst e
        rw [hj] at hi; cases hi; cases haw
      rw [updR_ne _ _ hi'] at hlt ⊢
      exact hs.foot i a (by rw [hpL_set_ne hi']; exact hi) haw hlt
    · by_cases e : i = j
      · subst e; simp only [updR_same]
      · simp only [updR_ne _ _ e]; exact hs.fix i hi
  have hn2 : Γ.n0 = h.length := by rw [hn]; simp
  have := hF ⟨Γ.W, Γ.F, Γ.n0, updR Γ.r0 j ⟨b, off, cap⟩⟩ _ w hn2 hs2
  rw [hargs] at this
  refine this.mono fun e w' he => ?_
  obtain ⟨ρ', v, h1, h2, h3⟩ := he
  refine ⟨updR ρ' j (ρ j), v, h1, h2.imp id fun h => by rw [h]; exact (AV.den_congr r (fun x hx => updR_ne _ _ (hr x hx))).symm, ?_⟩
  refine ⟨fun i bb hi => ?_, fun i k a bb hi hk haw he => ?_, fun i a hi haw hlt => ?_, h3.frame, h3.size, h3.os, h3.tape, h3.output, fun i hi => ?_⟩
  · rcases hpL_set hi with ⟨rfl, rfl⟩ | ⟨e, hi'⟩
    · refine ⟨fun _ h => (by cases h), fun _ h => (by cases h), Nat.zero_le _, ⟨c0, t0, fr0, pre0, post0, ?_, a2, ?_, ?_, ?_⟩, ⟨o, by rw [updR_same]; exact ho⟩, hR⟩
      · rw [updR_same]; exact ((h3.frame _ y1 y2).trans a5.symm).trans a1
      · rw [updR_same]; exact a3
      · rw [updR_same]; exact y1
      · rw [updR_same]; exact h3.frame _ y1 y2
    · exact BlkSat.r0 Γ.n0 Γ.r0 ((h3.blk i bb hi').congr (updR_ne _ _ e) (fun x hx => updR_ne _ _ (noId_spec hm' hi' x hx)) rfl)
  · rcases hpL_set hi with ⟨rfl, rfl⟩ | ⟨e, hi'⟩
    · cases haw
    · rw [updR_ne _ _ e] at he
      rcases hpL_set hk with ⟨rfl, rfl⟩ | ⟨e2, hk'⟩
      · rw [updR_same] at he
        have q := h3.foot i a hi' haw (by rw [he]; exact y1)
        rw [he] at q
        exact absurd q y2
      · rw [updR_ne _ _ e2] at he
        exact h3.inj i k a bb hi' hk' haw he
  · rcases hpL_set hi with ⟨rfl, rfl⟩ | ⟨e, hi'⟩
    · cases haw
    · rw [updR_ne _ _ e] at hlt ⊢
      exact h3.foot i a hi' haw hlt
  · by_cases e : i = j
    · subst e; rw [updR_same]; exact hs.fix i hi
    · rw [updR_ne _ _ e]
      have := h3.fix i hi
      simp only [updR_ne _ _ e] at this
      exact this
end Go.Proofs.Ytdmcbfmpnakdfaa.Eng
