/- Loops whose next state may hang on where things lie. -/
import Derived.Test.YtdmcbfmpnakdfaaEq
namespace Go.Proofs.Ytdmcbfmpnakdfaa.Eng
open Go
/-- Some blocks seen otherwise, in the same places. -/
theorem Sat.swap {Γ : Ctx} {ρ : Ren} {hp hp2 : AHeap} {w : World} (h : Sat Γ ρ hp w) (hb : ∀ i b, hp2 i = some b → hp i = some b ∨ ∃ b1, hp i = some b1 ∧ b1.w = b.w ∧ BlkSat Γ ρ w i b) : Sat Γ ρ hp2 w := by
  have hw : ∀ i b, hp2 i = some b → ∃ b1, hp i = some b1 ∧ b1.w = b.w := fun i b hi => by
    rcases hb i b hi with h1 | ⟨b1, h1, h2, _⟩
    · exact ⟨b, h1, rfl⟩
    · exact ⟨b1, h1, h2⟩
  refine ⟨fun i b hi => ?_, fun i j a b hi hj haw he => ?_, fun i a hi haw hlt => ?_, h.frame, h.size, h.os, h.tape, h.output, h.fix⟩
  · rcases hb i b hi with h1 | ⟨_, _, _, h3⟩
    · exact h.blk i b h1
    · exact h3
  · obtain ⟨a1, h1, h2⟩ := hw i a hi
    obtain ⟨b1, h3, _⟩ := hw j b hj
    exact h.inj i j a1 b1 h1 h3 (h2 ▸ haw) he
  · obtain ⟨a1, h1, h2⟩ := hw i a hi
    exact h.foot i a1 h1 (h2 ▸ haw) hlt
/-- A row whose elements read alike. -/
theorem BlkSat.alike {Γ : Ctx} {ρ : Ren} {w : World} {id sz : Nat} {md : Md} {t : TypeId} {L L2 : List Segs} {ms ms2 : List Nat} (h : BlkSat Γ ρ w id (.row md t sz L ms)) (hd : rowDen ρ L2 = rowDen ρ L) (hl : L2.length = L.length)
    (hs : ∀ e ∈ L2, Segs.size e = sz ∧ Segs.oneB e = true) (hi : ∀ e ∈ L2, ∀ x ∈ Segs.ids e, x ∈ ms2) : BlkSat Γ ρ w id (.row md t sz L2 ms2) := by
  obtain ⟨h1, h2, h3, h4⟩ := h
  refine ⟨hs, hi, by rw [hl]; exact h3, ?_⟩
  cases md <;> (simp only [hd, hl]; exact h4)
/-- A state that is, wherever things lie, one of those that I speaks of. -/
def SeenAs {X : Type} (n : Nat) (I : X → LTm × LHp) (p : X → Prop) (l : LTm) (h : LHp) : Prop :=
  ∀ (Γ : Ctx) (ρ : Ren) (w : World) (tm : Array Value), Γ.n0 = n → Sat Γ ρ (hpL h) w → TSat ρ l.length (tmL l) tm →
      ∃ x' ρ', p x' ∧ n ≤ (I x').2.length ∧ Sat Γ ρ' (hpL (I x').2) w ∧ TSat ρ' l.length (tmL (I x').1) tm
def loopXQ {X : Type} (n : Nat) (I : X → LTm × LHp) (μ : X → Nat) (x : X) (Q : Post) : Post := fun e l' h' => match e with
  | .normal => SeenAs n I (fun x' => μ x' < μ x) l' h'
  | e => Q e l' h'
section
variable {P : Program} {n : Nat} {l : LTm} {h : LHp} {Q : Post}
theorem CodeT.loopX {c : Code} {X : Type} (I : X → LTm × LHp) (μ : X → Nat) (h0 : SeenAs n I (fun _ => True) l h)
    (round : ∀ x, CodeT P n c (I x).1 (I x).2 (loopXQ n I μ x Q)) (hlen : ∀ x, (I x).1.length = l.length) : CodeT P n (.loop c) l h Q := by
  intro Γ ρ w a hg hn hs ht hd
  have key : ∀ (m : Nat) (b : Frame) (k : List Item) (cs : List Frame) (x : X) (ρ : Ren) (w : World) (a : Act), μ x = m → n ≤ (I x).2.length → Sat Γ ρ (hpL (I x).2) w → TSat ρ l.length (tmL (I x).1) a.tmps → a.defers = [] →
      ∃ e a' w', (∃ ρ' l' h', l'.length = l.length ∧ n ≤ h'.length ∧ Sat Γ ρ' (hpL h') w' ∧ TSat ρ' l.length (tmL l') a'.tmps ∧ a'.defers = [] ∧ Q e l' h') ∧
        Arrives P (lone (b.at a (.code c :: .inLoop c :: k)) cs w) b k cs e a' w' := by
    intro m b k cs
    induction m using Nat.strongRecOn with
    | _ m ih =>
      intro x ρ w a hμ hn hs ht hd
      obtain ⟨e, a1, w1, ⟨ρ1, l1, h1, g1, g2, g3, g4, g5, g6⟩, harr⟩ := round x Γ ρ w a hg hn hs (by rw [hlen]; exact ht) hd b (.inLoop c :: k) cs
      rw [hlen] at g1 g4
      cases e with
      | normal =>
        obtain ⟨x', ρ2, hlt, hn2, hs2, ht2⟩ := g6 Γ ρ1 w1 a1.tmps hg g3 (by rw [g1]; exact g4)
        rw [g1] at ht2
        obtain ⟨e2', a2, w2, hq2, harr2⟩ := ih (μ x') (hμ ▸ hlt) x' ρ2 w1 a1 rfl hn2 hs2 ht2 g5
        exact ⟨e2', a2, w2, hq2, .of_steps (Steps.trans harr (.one step_inLoop)) harr2⟩
      | exit id => exact ⟨_, a1, w1, ⟨ρ1, l1, h1, g1, g2, g3, g4, g5, g6⟩, .pass (x := .inLoop c) rfl (fun _ _ => .inl (by simp)) harr⟩
      | goto l => exact ⟨_, a1, w1, ⟨ρ1, l1, h1, g1, g2, g3, g4, g5, g6⟩, .pass (x := .inLoop c) rfl (fun _ _ => .inl (by simp)) harr⟩
      | ret => exact ⟨_, a1, w1, ⟨ρ1, l1, h1, g1, g2, g3, g4, g5, g6⟩, .pass (x := .inLoop c) rfl (fun _ _ => .inl (by simp)) harr⟩
      | panic ch => exact ⟨_, a1, w1, ⟨ρ1, l1, h1, g1, g2, g3, g4, g5, g6⟩, .pass (x := .inLoop c) rfl (fun _ _ => .inl (by simp)) harr⟩
      | outgrown => exact ⟨_, a1, w1, ⟨ρ1, l1, h1, g1, g2, g3, g4, g5, g6⟩, .pass (x := .inLoop c) rfl (fun _ _ => .inl (by simp)) harr⟩
  intro b k cs
  obtain ⟨x0, ρ0, _, q1, q2, q3⟩ := h0 Γ ρ w a.tmps hg hs ht
  obtain ⟨e, a', w', hq, harr⟩ := key _ b k cs x0 ρ0 w a rfl q1 q2 q3 hd
  exact ⟨e, a', w', hq, .of_steps (.one step_loop) harr⟩
theorem CodeT.loopXE {T : Tab} (hT : TabOk P T) (hm : P.follows .mixedOrders = true) {c : Code} {X : Type} (I : X → LTm × LHp) (μ : X → Nat) (h0 : SeenAs n I (fun _ => True) l h)
    (hlen : ∀ x, (I x).1.length = l.length) (round : ∀ x, evC P T n c (I x).1 (I x).2 (loopXQ n I μ x Q)) : CodeS P n (.loop c) l h Q :=
  ⟨CodeT.loopX I μ h0 (fun x => evC_sound hT hm _ _ _ _ (round x)) hlen⟩
end
/-- The state behind a round, its ids said otherwise first. -/
theorem SeenAs.of {n : Nat} {X : Type} {I : X → LTm × LHp} {p : X → Prop} {l l1 : LTm} {h h1 : LHp} (σ : Nat → Nat) (hw : StW n σ l h l1 h1)
    (hx : ∀ (Γ : Ctx) (ρ : Ren) (w : World), Γ.n0 = n → Sat Γ ρ (hpL h1) w → ∃ x', p x' ∧ n ≤ (I x').2.length ∧ Sat Γ ρ (hpL (I x').2) w ∧ ∀ i, tmL (I x').1 i = .junk ∨ (tmL l1 i ≠ .junk ∧ (tmL (I x').1 i).den ρ = (tmL l1 i).den ρ)) :
    SeenAs n I p l h := by
  intro Γ ρ w tm hg hs ht
  obtain ⟨x', h1, h2, h3, h4⟩ := hx Γ (fun i => ρ (σ i)) w hg (hs.reid hw.hp hw.inj (by rw [hg]; exact hw.fix))
  have ht1 := ht.reid hw.tm
  refine ⟨x', _, h1, h2, h3, ht1.size, fun i => ?_⟩
  rcases h4 i with h5 | ⟨h5, h6⟩
  · exact .inl h5
  · right
    rw [h6]
    exact (ht1.val i).resolve_left h5
theorem StW.ofP2 {n : Nat} (σ : List Nat) {l l0 : LTm} {h h0 : LHp} (hB : (decide (n ≤ h0.length) && (List.range n).all (fun i => sL σ i == i)) = true) (hw : wfH h0 = true) (hnd : nodupB' ((presL 0 h0).map (sL σ)) = true) (ht : maskT l l0 = renT (sL σ) l0) (hs : pickH h (sL σ) 0 h0 = renH (sL σ) h0) : StW n (sL σ) l h l0 h0 :=
  StW.ofP σ (by unfold stP; rw [hB, hw, hnd]; rfl) ht hs
end Go.Proofs.Ytdmcbfmpnakdfaa.Eng
