/- MemberPlays: the first state; members that are none. -/
import Derived.Test.YtdmcbfmpnakdfaaZ7
import Derived.Test.YtdmcbfmpnakdfaaZ8
import Derived.Test.YtdmcbfmpnakdfaaMh
import Derived.Deep.LoopGhost
import Derived.Test.YtdmcbfmpnakdfaaMg
import Derived.Test.YtdmcbfmpnakdfaaZ4
namespace Go.Proofs.Ytdmcbfmpnakdfaa.Eng.Rm
open Go Go.Proofs
set_option maxRecDepth 20000
set_option maxHeartbeats 8000000
theorem SeenF.imp {X : Type} {n : Nat} {I : X → LTm × LHp} {p q : X → Prop} {l : LTm} {h : LHp} (hs : SeenF n I p l h) (hpq : ∀ x, p x → q x) : SeenF n I q l h := fun Γ ρ w tm h1 h2 h3 => by
  obtain ⟨x, ρ', g, r⟩ := hs Γ ρ w tm h1 h2 h3
  exact ⟨x, ρ', hpq x g, r⟩
def s8 (i : Nat) : Nat := if 8 ≤ i then (if i ≤ 10 then 1 else i) else i
theorem s8_lt {i : Nat} (h : i < 8) : s8 i = i := if_neg (by omega)
abbrev pl0H (al : List ActV) (R0 : List (Nat × Obj)) (n : Int) : LHp := [arB .row al, some (famB R0), some (memG (newM n) .nil .nil 3 4 5 6), imB [], imB [], none, none, refS n nilS nilS nilS false false]
theorem pl_0 (al : List ActV) (R0 : List (Nat × Obj)) (n at_ : Int) (hn : 0 < n) : SeenF 2 (plI al R0 n at_) (fun _ => True) (plT al at_ 0) (pl0H al R0 n) := by
  refine SeenF.mk2 s8 (fun i hi => s8_lt (by omega)) fun Γ ρ w tm hg hs ht => ?_
  refine ⟨⟨⟨newM n, .nil, [], nilSl, nilSl, [], [], [], [], R0, 0⟩, ⟨⟨rfl, ⟨hn, EqM_nil, EqM_nil, Nat.le_refl _⟩, .inl ⟨rfl, rfl⟩, .inl ⟨rfl, rfl⟩, by show (0 : Nat) < 1000; decide⟩, ⟨rfl, rfl, rfl, Nat.zero_le _, fun j b S h => by simp at h, fun j v A h => by simp at h, fun j S A h => by simp at h, fun A h => by cases h⟩, Nat.zero_le _, rfl, fun y h => h, .inl rfl⟩⟩, trivial, by show 2 ≤ 12; decide, ?_, ?_, ?_⟩
  · show ∀ i b2, hpL (plG al R0 (newM n) .nil .nil nilS nilS R0 none none) i = some b2 → ∃ b, _ ∧ _ ∧ BlkSat (reb w 2 Γ.r0 (fun i => ρ (s8 i)) (hpL (plG al R0 (newM n) .nil .nil nilS nilS R0 none none))) _ _ _ _
    have hw : ∀ (i : Nat) (a : ABlk), hpL (plG al R0 (newM n) .nil .nil nilS nilS R0 none none) i = some a → a.w = true → i < 8 ∧ hpL (pl0H al R0 n) i = some a := fun i a ha haw => by
      match i, ha with
      | 0, ha => cases ha; cases haw
      | 1, ha => cases ha; cases haw
      | 2, ha => exact ⟨by decide, ha⟩
      | 3, ha => exact ⟨by decide, ha⟩
      | 4, ha => exact ⟨by decide, ha⟩
      | 5, ha => cases ha
      | 6, ha => cases ha
      | 7, ha => exact ⟨by decide, ha⟩
      | 8, ha => cases ha; cases haw
      | 9, ha => cases ha; cases haw
      | 10, ha => cases ha; cases haw
      | 11, ha => cases ha
      | i + 12, ha => cases ha
    have hF : Fams (reb w 2 Γ.r0 (fun i => ρ (s8 i)) (hpL (plG al R0 (newM n) .nil .nil nilS nilS R0 none none))) R0 := fun x hx => by
      obtain ⟨h1, h2, h3⟩ := fam_R (hs.blk 1 _ rfl) x hx
      refine ⟨Nat.lt_of_lt_of_le h1 hs.size, ?_, (hs.frame _ h1 h2).trans h3⟩
      rintro ⟨i, a, ha, haw, e⟩
      obtain ⟨hi, ha2⟩ := hw i a ha haw
      have e2 : (ρ i).b = x.1 := by rw [← e]; show _ = (ρ (s8 i)).b; rw [s8_lt hi]
      exact h2 (e2 ▸ hs.foot i a ha2 haw (e2 ▸ h1))
    have hfam : ∀ i, s8 i = 1 → BlkSat (reb w 2 Γ.r0 (fun i => ρ (s8 i)) (hpL (plG al R0 (newM n) .nil .nil nilS nilS R0 none none))) (fun i => ρ (s8 i)) w i (famB R0) := fun i hi => by
      have hb := hs.blk 1 _ rfl
      have hb2 : BlkSat Γ (fun i => ρ (s8 i)) w i (famB R0) := hb.congr (by show ρ (s8 i) = _; rw [hi]) (fun x hx => by cases hx) rfl
      have hlt := hb2.lt
      obtain ⟨a1, a2, a3, ⟨c0, t0, fr0, pre0, post0, b1, b2, b3, b4, b5⟩, ⟨o, ho⟩, _⟩ := hb2
      exact ⟨a1, a2, a3, ⟨c0, t0, fr0, pre0, post0, b1, b2, b3, hlt, rfl⟩, ⟨o, ho⟩, hF⟩
    have hsame : ∀ (i : Nat) (b : ABlk), i < 8 → hpL (pl0H al R0 n) i = some b → b.w = true → (∀ x ∈ b.ms, x < 8) → BlkSat (reb w 2 Γ.r0 (fun i => ρ (s8 i)) (hpL (plG al R0 (newM n) .nil .nil nilS nilS R0 none none))) (fun i => ρ (s8 i)) w i b := fun i b hi hb hbw hms =>
      ((hs.blk i b hb).congr (ρ' := fun i => ρ (s8 i)) (id' := i) (by show ρ (s8 i) = _; rw [s8_lt hi]) (fun x hx => by show ρ (s8 x) = _; rw [s8_lt (hms x hx)]) rfl).ctx hbw
    intro i b2 hb
    match i, hb with
    | 0, hb =>
      cases hb
      refine ⟨_, rfl, rfl, ?_⟩
      have hb2 : BlkSat Γ (fun i => ρ (s8 i)) w 0 (.row .ro 57 68 (al.map actSegs) []) := (hs.blk 0 _ rfl).congr rfl (fun x hx => by cases hx) rfl
      exact hb2.ctx_ro (fun R t sz L ms h => by cases h) fun _ => ⟨hb2.lt, rfl⟩
    | 1, hb => cases hb; exact ⟨_, rfl, rfl, hfam 1 rfl⟩
    | 2, hb => cases hb; exact ⟨_, rfl, rfl, hsame 2 _ (by decide) rfl rfl (fun x hx => by
      have hx : x ∈ [3, 4] := hx
      simp at hx; omega)⟩
    | 3, hb => cases hb; exact ⟨_, rfl, rfl, hsame 3 _ (by decide) rfl rfl (fun x hx => by cases hx)⟩
    | 4, hb => cases hb; exact ⟨_, rfl, rfl, hsame 4 _ (by decide) rfl rfl (fun x hx => by cases hx)⟩
    | 5, hb => cases hb
    | 6, hb => cases hb
    | 7, hb => cases hb; exact ⟨_, rfl, rfl, hsame 7 _ (by decide) rfl rfl (fun x hx => by cases hx)⟩
    | 8, hb => cases hb; exact ⟨_, rfl, rfl, hfam 8 rfl⟩
    | 9, hb => cases hb; exact ⟨_, rfl, rfl, hfam 9 rfl⟩
    | 10, hb => cases hb; exact ⟨_, rfl, rfl, hfam 10 rfl⟩
    | 11, hb => cases hb
    | i + 12, hb => cases hb
  · show ∀ i j a b, hpL (plG al R0 (newM n) .nil .nil nilS nilS R0 none none) i = some a → hpL (plG al R0 (newM n) .nil .nil nilS nilS R0 none none) j = some b → _ → _ → _
    intro i j a b ha hb haw he
    have hi : i < 8 ∧ i ≠ 1 := by
      match i, ha with
      | 0, ha => cases ha; cases haw
      | 1, ha => cases ha; cases haw
      | 2, ha => decide
      | 3, ha => decide
      | 4, ha => decide
      | 5, ha => cases ha
      | 6, ha => cases ha
      | 7, ha => decide
      | 8, ha => cases ha; cases haw
      | 9, ha => cases ha; cases haw
      | 10, ha => cases ha; cases haw
      | 11, ha => cases ha
      | i + 12, ha => cases ha
    have hj := hpL_lt hb
    rw [s8_lt hi.1] at he
    unfold s8 at he
    split at he
    · split at he
      · exact absurd he hi.2
      · exact he
    · exact he
  · show TSat (fun i => ρ (s8 i)) _ (tmL (plT al at_ 0)) tm
    have hall : (plT al at_ 0).all (fun v => v.ids.all (fun x => decide (x < 8))) = true := rfl
    refine ⟨ht.size, fun i => ?_⟩
    rcases ht.val i with h | h
    · exact .inl h
    · right
      rw [h]
      refine (AV.den_congr _ fun x hx => ?_).symm
      have hx8 : x < 8 := by
        have : tmL (plT al at_ 0) i = .junk ∨ tmL (plT al at_ 0) i ∈ plT al at_ 0 := by
          unfold tmL
          rw [List.getD_eq_getElem?_getD]
          by_cases hi : i < (plT al at_ 0).length
          · rw [List.getElem?_eq_getElem hi]; exact .inr (List.getElem_mem hi)
          · rw [List.getElem?_eq_none (by omega)]; exact .inl rfl
        rcases this with e | e
        · rw [e] at hx; cases hx
        · have := List.all_eq_true.1 (List.all_eq_true.1 hall _ e) x hx
          exact of_decide_eq_true this
      show ρ (s8 x) = ρ x
      rw [s8_lt hx8]
theorem newB (n : Int) (h : ¬ (1 ≤ n ∧ n ≤ 65536)) : FunT Try.prog 27 [iv n] [] (.tup [nonV, iv 2]) [] := by
  by_cases h1 : n < 1
  · refine FunT.ev tabOk mixed Try.func27 rfl ?_
    conv => whnf
    repeat (first | (refine ⟨(by kernel_rfl : chkR _ _ _ _ = true), ?_⟩; conv => whnf) | (refine EvOr.go ?_; conv => whnf))
    intro c hc
    obtain rfl : c = true := by rw [hc]; exact decide_eq_true (by omega)
    conv => whnf
    repeat (first | (refine ⟨(by kernel_rfl : chkR _ _ _ _ = true), ?_⟩; conv => whnf) | (refine EvOr.go ?_; conv => whnf))
    exact retQ.all tabOk _ [nonV, iv 2] rfl (by first | exact .inr rfl | exact .inl rfl) (by repeat' (first | exact trivial | rfl | (intro h; cases h; done) | (refine ⟨?_, ?_⟩))) rfl (by rfl) (Nat.le_of_ble_eq_true rfl) (by rfl)
  · refine FunT.ev tabOk mixed Try.func27 rfl ?_
    conv => whnf
    repeat (first | (refine ⟨(by kernel_rfl : chkR _ _ _ _ = true), ?_⟩; conv => whnf) | (refine EvOr.go ?_; conv => whnf))
    intro c hc
    obtain rfl : c = false := by rw [hc]; exact decide_eq_false (by omega)
    conv => whnf
    repeat (first | (refine ⟨(by kernel_rfl : chkR _ _ _ _ = true), ?_⟩; conv => whnf) | (refine EvOr.go ?_; conv => whnf))
    intro c hc
    obtain rfl : c = true := by rw [hc]; exact decide_eq_true (by omega)
    conv => whnf
    repeat (first | (refine ⟨(by kernel_rfl : chkR _ _ _ _ = true), ?_⟩; conv => whnf) | (refine EvOr.go ?_; conv => whnf))
    exact retQ.all tabOk _ [nonV, iv 2] rfl (by first | exact .inr rfl | exact .inl rfl) (by repeat' (first | exact trivial | rfl | (intro h; cases h; done) | (refine ⟨?_, ?_⟩))) rfl (by rfl) (Nat.le_of_ble_eq_true rfl) (by rfl)
end Go.Proofs.Ytdmcbfmpnakdfaa.Eng.Rm
/- A loop whose rounds begin anew, and what follows it, run where the last round ended. -/
namespace Go.Proofs.Ytdmcbfmpnakdfaa.Eng
open Go
/-- What is shown in a context begun anew, for that of the whole. -/
def thawQ (n : Nat) (h0 : LHp) (Q : Post) : Post := fun e l' h' => ∃ h2, Q e l' h2 ∧ Thaw n h0 h' h2
def loopSQ {X : Type} (P : Program) (n : Nat) (h0 : LHp) (I : X → LTm × LHp) (μ : X → Nat) (x : X) (id : Nat) (rest : Code) (Q : Post) : Post := fun e l' h' => match e with
  | .normal => SeenF n I (fun x' => μ x' < μ x) l' h'
  | .exit i => if i = id then CodeT P n rest l' h' (thawQ n h0 Q) else thawQ n h0 Q (.exit i) l' h'
  | e => thawQ n h0 Q e l' h'
section
variable {P : Program} {n : Nat} {l : LTm} {h : LHp} {Q : Post}
theorem loopFS_wp {Γ : Ctx} {ρ : Ren} {w : World} {a : Act} {c rest : Code} {id : Nat} {X : Type} (I : X → LTm × LHp) (μ : X → Nat) {l1 : LTm} (h0 : SeenF Γ.n0 I (fun _ => True) l1 h) (hl1 : l1.length = l.length)
    (hro : ∀ x i b, i < Γ.n0 → hpL h i = some b → b.w = false → hpL (I x).2 i = some b) (hlen : ∀ x, (I x).1.length = l.length)
    (round : ∀ x, CodeT P Γ.n0 c (I x).1 (I x).2 (loopSQ P Γ.n0 h I μ x id rest Q)) (hs : Sat Γ ρ (hpL h) w) (ht : TSat ρ l.length (tmL l1) a.tmps) (hd : a.defers = []) :
    (Code.block id (.loop c)).wp P (Exit.then (rest.wp P (fun e a' w' => ∃ ρ' l' h', l'.length = l.length ∧ Γ.n0 ≤ h'.length ∧ Sat Γ ρ' (hpL h') w' ∧ TSat ρ' l.length (tmL l') a'.tmps ∧ a'.defers = [] ∧ Q e l' h'))
      (fun e a' w' => ∃ ρ' l' h', l'.length = l.length ∧ Γ.n0 ≤ h'.length ∧ Sat Γ ρ' (hpL h') w' ∧ TSat ρ' l.length (tmL l') a'.tmps ∧ a'.defers = [] ∧ Q e l' h')) a w := by
  refine wp_block ?_
  obtain ⟨x0, ρ0, _, q1, q2, q3, q4, q5, q6⟩ := h0 Γ ρ w a.tmps rfl hs (by rw [hl1]; exact ht)
  rw [hl1] at q6
  have hl0 := Link.first hs (hx := (I x0).2) q2 q4 q5 (hro x0)
  have hs0 : Sat (reb w Γ.n0 Γ.r0 ρ0 (hpL (I x0).2)) ρ0 (hpL (I x0).2) w := Sat.reb q3 q4 fun i hi => by rw [q2 i hi, hs.fix i hi]
  refine wp_loop_ghost (fun m a w => ∃ (x : X) (Γk : Ctx) (ρ : Ren), μ x = m ∧ Link Γ h Γk ∧ Γ.n0 ≤ (I x).2.length ∧ Sat Γk ρ (hpL (I x).2) w ∧ TSat ρ l.length (tmL (I x).1) a.tmps ∧ a.defers = []) (μ x0)
    ⟨x0, _, ρ0, rfl, hl0, q1, hs0, q6, hd⟩ ?_
  rintro m a w ⟨x, Γk, ρ, hμ, hl, hn, hs, ht, hd⟩
  refine wp_mono (round x Γk ρ w a hl.n0 hn hs (by rw [hlen]; exact ht) hd) ?_
  rintro e a1 w1 ⟨ρ1, l1, h1, g1, g2, g3, g4, g5, g6⟩
  rw [hlen] at g1 g4
  have ext : ∀ e, thawQ Γ.n0 h Q e l1 h1 → ∃ ρ' l' h', l'.length = l.length ∧ Γ.n0 ≤ h'.length ∧ Sat Γ ρ' (hpL h') w1 ∧ TSat ρ' l.length (tmL l') a1.tmps ∧ a1.defers = [] ∧ Q e l' h' := fun e ⟨h2, t1, t2⟩ =>
    ⟨ρ1, l1, h2, g1, t2.1, hl.out g3 t2, g4, g5, t1⟩
  cases e with
  | normal =>
    obtain ⟨x', ρ2, hlt, hn2, hf2, hb2, hi2, hw2, ht2⟩ := g6 Γk ρ1 w1 a1.tmps hl.n0 g3 (by rw [g1]; exact g4)
    rw [g1] at ht2
    rw [hl.r0] at hb2
    have hl2 := hl.next g3 (hx := (I x').2) hf2 hi2 hw2 (hro x')
    have hs2 : Sat (reb w1 Γ.n0 Γ.r0 ρ2 (hpL (I x').2)) ρ2 (hpL (I x').2) w1 := Sat.reb hb2 hi2 fun i hi => by rw [hf2 i hi, g3.fix i (by rw [hl.n0]; exact hi), hl.r0]
    exact ⟨μ x', hμ ▸ hlt, x', _, ρ2, rfl, hl2, hn2, hs2, ht2, g5⟩
  | exit i =>
    by_cases hi : i = id
    · subst hi
      have g6 : CodeT P Γ.n0 rest l1 h1 (thawQ Γ.n0 h Q) := by
        have := g6
        simp only [loopSQ, if_true] at this
        exact this
      have hw : rest.wp P _ a1 w1 := g6 Γk ρ1 w1 a1 hl.n0 g2 g3 (by rw [g1]; exact g4) g5
      show Exit.inBlock i _ (.exit i) a1 w1
      unfold Exit.inBlock
      simp only [if_true]
      refine wp_mono hw ?_
      rintro e2 a2 w2 ⟨ρ2, l2, h2, k1, k2, k3, k4, k5, h3, t1, t2⟩
      exact ⟨ρ2, l2, h3, k1.trans g1, t2.1, hl.out k3 t2, by rw [← g1]; exact k4, k5, t1⟩
    · have g6 : thawQ Γ.n0 h Q (.exit i) l1 h1 := by
        have := g6
        simp only [loopSQ, if_neg hi] at this
        exact this
      show Exit.inBlock id _ (.exit i) a1 w1
      unfold Exit.inBlock
      simp only [if_neg hi]
      exact ext _ g6
  | goto i => exact ext _ g6
  | ret => exact ext _ g6
  | panic ch => exact ext _ g6
  | outgrown => exact ext _ g6
theorem CodeT.loopFS2 {x c rest : Code} {id : Nat} {X : Type} (I : X → LTm × LHp) (μ : X → Nat) (hx : CodeT P n x l h (fun e l1 h1 => e = .normal ∧ h1 = h ∧ SeenF n I (fun _ => True) l1 h))
    (hro : ∀ x i b, i < n → hpL h i = some b → b.w = false → hpL (I x).2 i = some b) (hlen : ∀ x, (I x).1.length = l.length)
    (round : ∀ x, CodeT P n c (I x).1 (I x).2 (loopSQ P n h I μ x id rest Q)) : CodeT P n (.seq (.seq x (.block id (.loop c))) rest) l h Q := by
  intro Γ ρ w a hg hn hs ht hd
  subst hg
  refine wp_seq (wp_seq (wp_mono (hx Γ ρ w a rfl hn hs ht hd) ?_))
  rintro e a1 w1 ⟨ρ1, l1, h1, g1, g2, g3, g4, g5, rfl, rfl, g6⟩
  exact loopFS_wp I μ g6 g1 hro hlen round g3 g4 g5
/-- A post that asks just for the result, in temporary t. -/
def Fin (t : Nat) (r : AV) (Q : Post) : Prop := ∀ l' h', tmL l' t = r → Q .ret l' h'
theorem Fin.thaw {t : Nat} {r : AV} {h0 : LHp} (hQ : Fin t r Q) : Fin t r (thawQ n h0 Q) := fun l' h' ht => ⟨List.replicate n Option.none, hQ l' _ ht, Thaw.none n (Nat.le_refl _)⟩
end
end Go.Proofs.Ytdmcbfmpnakdfaa.Eng
/- Members copied, marks and all. -/
namespace Go.Proofs.Ytdmcbfmpnakdfaa.Eng
open Go Go.Proofs
set_option maxRecDepth 20000
set_option maxHeartbeats 8000000
theorem clone92_row (B : List Nat) (h0 : 0 < B.length) (hb : B.length ≤ 64) : FunT Try.prog 92 [.sc (.sl 0 0 1 B.length none)] [mkF B] (.sc (.sl 1 0 1 B.length none)) [mkF B, mkF B] := by
  have e1 : B.map mapE = List.take B.length (List.drop 0 (B.map mapE)) := by
    rw [List.drop_zero, List.take_of_length_le (by rw [List.length_map]; exact Nat.le_refl _)]
  have key : FunT Try.prog 92 [.sc (.sl 0 0 1 B.length none)] [mkF B] (.sc (.sl 1 0 1 (0 + B.length) none)) [mkF B, some (.row .inx 73 1 (List.take B.length (List.drop 0 (B.map mapE))) [])] := by
    refine FunT.ev tabOk mixed Try.func92 rfl ?_
    conv => whnf
    repeat (first | (refine ⟨(by kernel_rfl : chkR _ _ _ _ = true), ?_⟩; conv => whnf) | (refine EvOr.go ?_; conv => whnf))
    refine ⟨by show 0 + B.length ≤ (B.map mapE).length; simp, ?_⟩
    conv => whnf
    repeat (first | (refine ⟨(by kernel_rfl : chkR _ _ _ _ = true), ?_⟩; conv => whnf) | (refine EvOr.go ?_; conv => whnf))
    refine ⟨Nat.le_refl _, ?_⟩
    conv => whnf
    repeat (first | (refine ⟨(by kernel_rfl : chkR _ _ _ _ = true), ?_⟩; conv => whnf) | (refine EvOr.go ?_; conv => whnf))
    refine ⟨fun h => absurd h (by show ¬ B.length = 0; omega), fun _ => ⟨⟨by show 0 < 0 + B.length; omega, by show (2 * (0 + B.length) + 192) * 8 ≤ _; omega⟩, ?_⟩⟩
    conv => whnf
    repeat (first | (refine ⟨(by kernel_rfl : chkR _ _ _ _ = true), ?_⟩; conv => whnf) | (refine EvOr.go ?_; conv => whnf))
    exact retQ.oneS [0, 2] rfl (by first | exact .inr rfl | exact .inl rfl) rfl (by kernel_rfl) (by first | rfl | kernel_rfl)
  rw [Nat.zero_add, ← e1] at key
  exact key
abbrev hMk (M : Mem) (lg : Lg) (B : List Nat) : LHp := [some (memB M lg (.row B.length)), imB M.seen, imB M.dur, logB M lg, mkF B]
theorem copyM_ok (M : Mem) (lg : Lg) (B : List Nat) (hlg : lg.ok M.log) (hn : 0 < M.n) (hb : M.log.length < 2 ^ 32) (h0 : 0 < B.length) (h64 : B.length ≤ 64) :
    FunT Try.prog 31 [mpv] (hMk M lg B) (.sc (.ptr 5 0 7 0)) (hMk M lg B ++ [some (memG M (lg.cp M.log) (.row B.length) 6 7 8 9), imB M.seen, imB M.dur, logB M (lg.cp M.log), mkF B]) := by
  have hI := is_ok M lg (.row B.length) hn
  have hC1 := clone_ok M.seen
  have hC2 := clone_ok M.dur
  have hC4 := clone92_row B h0 h64
  obtain ⟨Mn, Ms, Md, Ml, Mf, Mh⟩ := M
  cases lg with
  | nil =>
    obtain rfl : Ml = [] := hlg
    have hC3 := clone91_nil
    refine FunT.ev tabOk mixed Try.func31 rfl ?_
    conv => whnf
    repeat (first | (refine ⟨(by kernel_rfl : chkR _ _ _ _ = true), ?_⟩; conv => whnf) | (refine EvOr.go ?_; conv => whnf))
    refine CallG.use hI c89 [0, 1, 2, 3, 4] [] ?_ ?_ ?_ ?_ ?_ ?_; rfl; rfl; kernel_rfl; rfl; rfl
    conv => whnf
    repeat (first | (refine ⟨(by kernel_rfl : chkR _ _ _ _ = true), ?_⟩; conv => whnf) | (refine EvOr.go ?_; conv => whnf))
    refine CallG.use hC1 c90 [1] [] ?_ ?_ ?_ ?_ ?_ ?_; rfl; rfl; kernel_rfl; rfl; rfl
    conv => whnf
    repeat (first | (refine ⟨(by kernel_rfl : chkR _ _ _ _ = true), ?_⟩; conv => whnf) | (refine EvOr.go ?_; conv => whnf))
    refine CallG.use hC2 c90 [2] [] ?_ ?_ ?_ ?_ ?_ ?_; rfl; rfl; kernel_rfl; rfl; rfl
    conv => whnf
    repeat (first | (refine ⟨(by kernel_rfl : chkR _ _ _ _ = true), ?_⟩; conv => whnf) | (refine EvOr.go ?_; conv => whnf))
    refine CallG.use hC3 c91 [] [] ?_ ?_ ?_ ?_ ?_ ?_; rfl; rfl; kernel_rfl; rfl; rfl
    conv => whnf
    repeat (first | (refine ⟨(by kernel_rfl : chkR _ _ _ _ = true), ?_⟩; conv => whnf) | (refine EvOr.go ?_; conv => whnf))
    refine CallG.use hC4 c92 [4] [] ?_ ?_ ?_ ?_ ?_ ?_; rfl; rfl; kernel_rfl; rfl; rfl
    conv => whnf
    repeat (first | (refine ⟨(by kernel_rfl : chkR _ _ _ _ = true), ?_⟩; conv => whnf) | (refine EvOr.go ?_; conv => whnf))
    exact retQ.oneS [0, 1, 2, 3, 4, 5, 6, 7, 3, 8] rfl (by first | exact .inr rfl | exact .inl rfl) rfl (by kernel_rfl) (by first | rfl | kernel_rfl)
  | ex =>
    obtain rfl : Ml = [] := hlg
    have hC3 := clone91_ex
    refine FunT.ev tabOk mixed Try.func31 rfl ?_
    conv => whnf
    repeat (first | (refine ⟨(by kernel_rfl : chkR _ _ _ _ = true), ?_⟩; conv => whnf) | (refine EvOr.go ?_; conv => whnf))
    refine CallG.use hI c89 [0, 1, 2, 3, 4] [] ?_ ?_ ?_ ?_ ?_ ?_; rfl; rfl; kernel_rfl; rfl; rfl
    conv => whnf
    repeat (first | (refine ⟨(by kernel_rfl : chkR _ _ _ _ = true), ?_⟩; conv => whnf) | (refine EvOr.go ?_; conv => whnf))
    refine CallG.use hC1 c90 [1] [] ?_ ?_ ?_ ?_ ?_ ?_; rfl; rfl; kernel_rfl; rfl; rfl
    conv => whnf
    repeat (first | (refine ⟨(by kernel_rfl : chkR _ _ _ _ = true), ?_⟩; conv => whnf) | (refine EvOr.go ?_; conv => whnf))
    refine CallG.use hC2 c90 [2] [] ?_ ?_ ?_ ?_ ?_ ?_; rfl; rfl; kernel_rfl; rfl; rfl
    conv => whnf
    repeat (first | (refine ⟨(by kernel_rfl : chkR _ _ _ _ = true), ?_⟩; conv => whnf) | (refine EvOr.go ?_; conv => whnf))
    refine CallG.use hC3 c91 [3] [] ?_ ?_ ?_ ?_ ?_ ?_; rfl; rfl; kernel_rfl; rfl; rfl
    conv => whnf
    repeat (first | (refine ⟨(by kernel_rfl : chkR _ _ _ _ = true), ?_⟩; conv => whnf) | (refine EvOr.go ?_; conv => whnf))
    refine CallG.use hC4 c92 [4] [] ?_ ?_ ?_ ?_ ?_ ?_; rfl; rfl; kernel_rfl; rfl; rfl
    conv => whnf
    repeat (first | (refine ⟨(by kernel_rfl : chkR _ _ _ _ = true), ?_⟩; conv => whnf) | (refine EvOr.go ?_; conv => whnf))
    exact retQ.oneS [0, 1, 2, 3, 4, 5, 6, 7, 8, 9] rfl (by first | exact .inr rfl | exact .inl rfl) rfl (by kernel_rfl) (by first | rfl | kernel_rfl)
  | inx J =>
    cases Ml with
    | nil =>
      have hC3 := clone91_0 J
      refine FunT.ev tabOk mixed Try.func31 rfl ?_
      conv => whnf
      repeat (first | (refine ⟨(by kernel_rfl : chkR _ _ _ _ = true), ?_⟩; conv => whnf) | (refine EvOr.go ?_; conv => whnf))
      refine CallG.use hI c89 [0, 1, 2, 3, 4] [] ?_ ?_ ?_ ?_ ?_ ?_; rfl; rfl; kernel_rfl; rfl; rfl
      conv => whnf
      repeat (first | (refine ⟨(by kernel_rfl : chkR _ _ _ _ = true), ?_⟩; conv => whnf) | (refine EvOr.go ?_; conv => whnf))
      refine CallG.use hC1 c90 [1] [] ?_ ?_ ?_ ?_ ?_ ?_; rfl; rfl; kernel_rfl; rfl; rfl
      conv => whnf
      repeat (first | (refine ⟨(by kernel_rfl : chkR _ _ _ _ = true), ?_⟩; conv => whnf) | (refine EvOr.go ?_; conv => whnf))
      refine CallG.use hC2 c90 [2] [] ?_ ?_ ?_ ?_ ?_ ?_; rfl; rfl; kernel_rfl; rfl; rfl
      conv => whnf
      repeat (first | (refine ⟨(by kernel_rfl : chkR _ _ _ _ = true), ?_⟩; conv => whnf) | (refine EvOr.go ?_; conv => whnf))
      refine CallG.use hC3 c91 [3] [] ?_ ?_ ?_ ?_ ?_ ?_; rfl; rfl; kernel_rfl; rfl; rfl
      conv => whnf
      repeat (first | (refine ⟨(by kernel_rfl : chkR _ _ _ _ = true), ?_⟩; conv => whnf) | (refine EvOr.go ?_; conv => whnf))
      refine CallG.use hC4 c92 [4] [] ?_ ?_ ?_ ?_ ?_ ?_; rfl; rfl; kernel_rfl; rfl; rfl
      conv => whnf
      repeat (first | (refine ⟨(by kernel_rfl : chkR _ _ _ _ = true), ?_⟩; conv => whnf) | (refine EvOr.go ?_; conv => whnf))
      exact retQ.oneS [0, 1, 2, 3, 4, 5, 6, 7, 8, 9] rfl (by first | exact .inr rfl | exact .inl rfl) rfl (by kernel_rfl) (by first | rfl | kernel_rfl)
    | cons p r =>
      have hC3 := clone91_1 (p :: r) J (by simp) hb
      refine FunT.ev tabOk mixed Try.func31 rfl ?_
      conv => whnf
      repeat (first | (refine ⟨(by kernel_rfl : chkR _ _ _ _ = true), ?_⟩; conv => whnf) | (refine EvOr.go ?_; conv => whnf))
      refine CallG.use hI c89 [0, 1, 2, 3, 4] [] ?_ ?_ ?_ ?_ ?_ ?_; rfl; rfl; kernel_rfl; rfl; rfl
      conv => whnf
      repeat (first | (refine ⟨(by kernel_rfl : chkR _ _ _ _ = true), ?_⟩; conv => whnf) | (refine EvOr.go ?_; conv => whnf))
      refine CallG.use hC1 c90 [1] [] ?_ ?_ ?_ ?_ ?_ ?_; rfl; rfl; kernel_rfl; rfl; rfl
      conv => whnf
      repeat (first | (refine ⟨(by kernel_rfl : chkR _ _ _ _ = true), ?_⟩; conv => whnf) | (refine EvOr.go ?_; conv => whnf))
      refine CallG.use hC2 c90 [2] [] ?_ ?_ ?_ ?_ ?_ ?_; rfl; rfl; kernel_rfl; rfl; rfl
      conv => whnf
      repeat (first | (refine ⟨(by kernel_rfl : chkR _ _ _ _ = true), ?_⟩; conv => whnf) | (refine EvOr.go ?_; conv => whnf))
      refine CallG.use hC3 c91 [3] [] ?_ ?_ ?_ ?_ ?_ ?_; rfl; rfl; kernel_rfl; rfl; rfl
      conv => whnf
      repeat (first | (refine ⟨(by kernel_rfl : chkR _ _ _ _ = true), ?_⟩; conv => whnf) | (refine EvOr.go ?_; conv => whnf))
      refine CallG.use hC4 c92 [4] [] ?_ ?_ ?_ ?_ ?_ ?_; rfl; rfl; kernel_rfl; rfl; rfl
      conv => whnf
      repeat (first | (refine ⟨(by kernel_rfl : chkR _ _ _ _ = true), ?_⟩; conv => whnf) | (refine EvOr.go ?_; conv => whnf))
      exact retQ.oneS [0, 1, 2, 3, 4, 5, 6, 7, 8, 9] rfl (by first | exact .inr rfl | exact .inl rfl) rfl (by kernel_rfl) (by first | rfl | kernel_rfl)
end Go.Proofs.Ytdmcbfmpnakdfaa.Eng
/- A member, and the document's, whose slices are raw: looked at alone. -/
namespace Go.Proofs.Ytdmcbfmpnakdfaa.Eng.Rm
open Go Go.Proofs
set_option maxRecDepth 20000
set_option maxHeartbeats 8000000
def memRs (M : Mem) (lv mv : Sl) (a b : Nat) : Segs := [.one (.raw (.int .i64 M.n)), .one (.mp a), .one (.mp b), .one (.raw lv.v), .one (.raw mv.v), .one (.raw (.bool M.fails)), .one (.raw (.bool M.hurt))]
def memR (M : Mem) (lv mv : Sl) (a b : Nat) : ABlk := .row .one 77 7 [memRs M lv mv a b] (Segs.ids (memRs M lv mv a b))
abbrev hR (M : Mem) (lv mv : Sl) : LHp := [some (memR M lv mv 1 2), none, none]
variable (M : Mem) (lv mv : Sl)
theorem isR (hn : 0 < M.n) : FunT Try.prog 89 [mpv] (hR M lv mv) (bv true) (hR M lv mv) := by
  refine FunT.ev tabOk mixed Try.func89 rfl ?_
  conv => whnf
  repeat (first | (refine ⟨(by kernel_rfl : chkR _ _ _ _ = true), ?_⟩; conv => whnf) | (refine EvOr.go ?_; conv => whnf))
  intro c hc
  obtain rfl : c = true := by first | (rw [hc]; rfl) | (rw [hc]; simp; done) | (rw [hc]; simp; omega) | (simp at hc; omega)
  conv => whnf
  repeat (first | (refine ⟨(by kernel_rfl : chkR _ _ _ _ = true), ?_⟩; conv => whnf) | (refine EvOr.go ?_; conv => whnf))
  exact retQ.one rfl (.inr rfl) rfl (Nat.le_of_ble_eq_true rfl) rfl
theorem mayR (i : Int) (hn : 0 < M.n) : FunT Try.prog 95 [mpv, iv i] (hR M lv mv) (iv (mayE M i)) (hR M lv mv) := by
  have hI := isR M lv mv hn
  refine FunT.ev tabOk mixed Try.func95 rfl ?_
  conv => whnf
  repeat (first | (refine ⟨(by kernel_rfl : chkR _ _ _ _ = true), ?_⟩; conv => whnf) | (refine EvOr.go ?_; conv => whnf))
  refine CallG.use hI c89 [0, 1, 2] [] ?_ ?_ ?_ ?_ ?_ ?_; rfl; rfl; kernel_rfl; rfl; rfl
  conv => whnf
  repeat (first | (refine ⟨(by kernel_rfl : chkR _ _ _ _ = true), ?_⟩; conv => whnf) | (refine EvOr.go ?_; conv => whnf))
  intro c hc
  cases c
  · conv => whnf
    repeat (first | (refine ⟨(by kernel_rfl : chkR _ _ _ _ = true), ?_⟩; conv => whnf) | (refine EvOr.go ?_; conv => whnf))
    intro c hc2
    cases c
    · conv => whnf
      repeat (first | (refine ⟨(by kernel_rfl : chkR _ _ _ _ = true), ?_⟩; conv => whnf) | (refine EvOr.go ?_; conv => whnf))
      refine retQ.one rfl (.inr rfl) ?_ (Nat.le_of_ble_eq_true rfl) rfl
      have : mayE M i = 0 := by unfold mayE; rw [if_neg]; simp at hc hc2; omega
      rw [this]; rfl
    · conv => whnf
      repeat (first | (refine ⟨(by kernel_rfl : chkR _ _ _ _ = true), ?_⟩; conv => whnf) | (refine EvOr.go ?_; conv => whnf))
      refine retQ.one rfl (.inr rfl) ?_ (Nat.le_of_ble_eq_true rfl) rfl
      have : mayE M i = 2 := by unfold mayE; rw [if_pos]; simp at hc hc2; omega
      rw [this]; rfl
  · conv => whnf
    repeat (first | (refine ⟨(by kernel_rfl : chkR _ _ _ _ = true), ?_⟩; conv => whnf) | (refine EvOr.go ?_; conv => whnf))
    refine retQ.one rfl (.inr rfl) ?_ (Nat.le_of_ble_eq_true rfl) rfl
    have : mayE M i = 2 := by unfold mayE; rw [if_pos]; simp at hc; omega
    rw [this]; rfl
theorem ioR_ok (i : Int) (hn : 0 < M.n) : FunT Try.prog 86 [mpv, iv i] (hR M lv mv) (iv (ioE M i)) (hR M lv mv) := by
  have hI := mayR M lv mv i hn
  have h1 : mayE M i ≠ 0 → ioE M i = mayE M i := fun hm => by unfold mayE at hm ⊢; unfold ioE; split <;> simp_all
  have h2 : mayE M i = 0 → ioE M i = if M.fails then 10 else 0 := fun hm => by unfold mayE at hm; unfold ioE; split <;> simp_all
  generalize mayE M i = me at hI h1 h2
  generalize ioE M i = ie at h1 h2
  obtain ⟨Mn, Ms, Md, Ml, Mf, Mh⟩ := M
  refine FunT.ev tabOk mixed Try.func86 rfl ?_
  conv => whnf
  repeat (first | (refine ⟨(by kernel_rfl : chkR _ _ _ _ = true), ?_⟩; conv => whnf) | (refine EvOr.go ?_; conv => whnf))
  refine CallG.use hI c95 [0, 1, 2] [] ?_ ?_ ?_ ?_ ?_ ?_; rfl; rfl; kernel_rfl; rfl; rfl
  conv => whnf
  repeat (first | (refine ⟨(by kernel_rfl : chkR _ _ _ _ = true), ?_⟩; conv => whnf) | (refine EvOr.go ?_; conv => whnf))
  intro c hc
  cases c
  · conv => whnf
    repeat (first | (refine ⟨(by kernel_rfl : chkR _ _ _ _ = true), ?_⟩; conv => whnf) | (refine EvOr.go ?_; conv => whnf))
    have hm : me = 0 := by simpa using hc
    rw [h2 hm]
    cases Mf
    · conv => whnf
      repeat (first | (refine ⟨(by kernel_rfl : chkR _ _ _ _ = true), ?_⟩; conv => whnf) | (refine EvOr.go ?_; conv => whnf))
      refine retQ.one rfl (.inr rfl) ?_ (Nat.le_of_ble_eq_true rfl) rfl
      rw [hm]; rfl
    · conv => whnf
      repeat (first | (refine ⟨(by kernel_rfl : chkR _ _ _ _ = true), ?_⟩; conv => whnf) | (refine EvOr.go ?_; conv => whnf))
      exact retQ.one rfl (.inr rfl) rfl (Nat.le_of_ble_eq_true rfl) rfl
  · conv => whnf
    repeat (first | (refine ⟨(by kernel_rfl : chkR _ _ _ _ = true), ?_⟩; conv => whnf) | (refine EvOr.go ?_; conv => whnf))
    refine retQ.one rfl (.inr rfl) ?_ (Nat.le_of_ble_eq_true rfl) rfl
    rw [h1 (by simpa using hc)]; rfl
theorem touchedR (hn : 0 < M.n) : FunT Try.prog 35 [mpv] (hR M lv mv) (bv M.hurt) (hR M lv mv) := by
  have hI := isR M lv mv hn
  refine FunT.ev tabOk mixed Try.func35 rfl ?_
  conv => whnf
  repeat (first | (refine ⟨(by kernel_rfl : chkR _ _ _ _ = true), ?_⟩; conv => whnf) | (refine EvOr.go ?_; conv => whnf))
  refine CallG.use hI c89 [0, 1, 2] [] ?_ ?_ ?_ ?_ ?_ ?_; rfl; rfl; kernel_rfl; rfl; rfl
  conv => whnf
  repeat (first | (refine ⟨(by kernel_rfl : chkR _ _ _ _ = true), ?_⟩; conv => whnf) | (refine EvOr.go ?_; conv => whnf))
  exact retQ.one rfl (.inr rfl) rfl (Nat.le_of_ble_eq_true rfl) rfl
theorem lenR (hn : 0 < M.n) : FunT Try.prog 49 [mpv] (hR M lv mv) (iv M.n) (hR M lv mv) := by
  have hI := isR M lv mv hn
  refine FunT.ev tabOk mixed Try.func49 rfl ?_
  conv => whnf
  repeat (first | (refine ⟨(by kernel_rfl : chkR _ _ _ _ = true), ?_⟩; conv => whnf) | (refine EvOr.go ?_; conv => whnf))
  refine CallG.use hI c89 [0, 1, 2] [] ?_ ?_ ?_ ?_ ?_ ?_; rfl; rfl; kernel_rfl; rfl; rfl
  conv => whnf
  repeat (first | (refine ⟨(by kernel_rfl : chkR _ _ _ _ = true), ?_⟩; conv => whnf) | (refine EvOr.go ?_; conv => whnf))
  exact retQ.one rfl (.inr rfl) rfl (Nat.le_of_ble_eq_true rfl) rfl
theorem unflR (hn : 0 < M.n) (hl : lv.n = M.log.length) : FunT Try.prog 30 [mpv] (hR M lv mv) (iv (M.log.length : Nat)) (hR M lv mv) := by
  have hI := isR M lv mv hn
  rw [← hl]
  refine FunT.ev tabOk mixed Try.func30 rfl ?_
  conv => whnf
  repeat (first | (refine ⟨(by kernel_rfl : chkR _ _ _ _ = true), ?_⟩; conv => whnf) | (refine EvOr.go ?_; conv => whnf))
  refine CallG.use hI c89 [0, 1, 2] [] ?_ ?_ ?_ ?_ ?_ ?_; rfl; rfl; kernel_rfl; rfl; rfl
  conv => whnf
  repeat (first | (refine ⟨(by kernel_rfl : chkR _ _ _ _ = true), ?_⟩; conv => whnf) | (refine EvOr.go ?_; conv => whnf))
  exact retQ.one rfl (.inr rfl) rfl (Nat.le_of_ble_eq_true rfl) rfl
abbrev hRs (M : Mem) (lv mv : Sl) : LHp := [some (memR M lv mv 1 2), imB M.seen, none]
abbrev hRd (M : Mem) (lv mv : Sl) : LHp := [some (memR M lv mv 1 2), none, imB M.dur]
theorem readR (i : Int) (hn : 0 < M.n) : FunT Try.prog 33 [mpv, iv i] (hRs M lv mv) (.tup [secV (if ioE M i = 0 then getI M.seen i else zs 64), iv (ioE M i)]) (hRs M lv mv) := by
  have hI := ioR_ok M lv mv i hn
  have hlv := look_val M.seen i
  have hk := keysOk_enc M.seen
  by_cases h0 : ioE M i = 0
  · rw [if_pos h0]
    rw [h0] at hI ⊢
    obtain ⟨Mn, Ms, Md, Ml, Mf, Mh⟩ := M
    refine FunT.ev tabOk mixed Try.func33 rfl ?_
    conv => whnf
    repeat (first | (refine ⟨(by kernel_rfl : chkR _ _ _ _ = true), ?_⟩; conv => whnf) | (refine EvOr.go ?_; conv => whnf))
    refine CallG.use hI c86 [0, 1, 2] [] ?_ ?_ ?_ ?_ ?_ ?_; rfl; rfl; kernel_rfl; rfl; rfl
    conv => whnf
    repeat (first | (refine ⟨(by kernel_rfl : chkR _ _ _ _ = true), ?_⟩; conv => whnf) | (refine EvOr.go ?_; conv => whnf))
    intro c hc
    obtain rfl : c = false := by rw [hc]; rfl
    conv => whnf
    repeat (first | (refine ⟨(by kernel_rfl : chkR _ _ _ _ = true), ?_⟩; conv => whnf) | (refine EvOr.go ?_; conv => whnf))
    refine ⟨hk, ?_⟩
    obtain ⟨a, fd, h1, rfl⟩ := hlv
    refine ⟨_, fd, h1, ?_⟩
    conv => whnf
    repeat (first | (refine ⟨(by kernel_rfl : chkR _ _ _ _ = true), ?_⟩; conv => whnf) | (refine EvOr.go ?_; conv => whnf))
    exact retQ.all tabOk _ [.agg [.byt 64 (getI Ms i)], iv 0] rfl (by first | exact .inr rfl | exact .inl rfl) (by repeat' (first | exact trivial | rfl | (intro h; cases h; done) | (refine ⟨?_, ?_⟩))) rfl (by rfl) (Nat.le_of_ble_eq_true rfl) (by rfl)
  · rw [if_neg h0]
    generalize ioE M i = e at hI h0
    refine FunT.ev tabOk mixed Try.func33 rfl ?_
    conv => whnf
    repeat (first | (refine ⟨(by kernel_rfl : chkR _ _ _ _ = true), ?_⟩; conv => whnf) | (refine EvOr.go ?_; conv => whnf))
    refine CallG.use hI c86 [0, 1, 2] [] ?_ ?_ ?_ ?_ ?_ ?_; rfl; rfl; kernel_rfl; rfl; rfl
    conv => whnf
    repeat (first | (refine ⟨(by kernel_rfl : chkR _ _ _ _ = true), ?_⟩; conv => whnf) | (refine EvOr.go ?_; conv => whnf))
    intro c hc
    obtain rfl : c = true := by rw [hc]; simp [h0]
    conv => whnf
    repeat (first | (refine ⟨(by kernel_rfl : chkR _ _ _ _ = true), ?_⟩; conv => whnf) | (refine EvOr.go ?_; conv => whnf))
    exact retQ.all tabOk _ [secV (zs 64), iv e] rfl (by first | exact .inr rfl | exact .inl rfl) (by repeat' (first | exact trivial | rfl | (intro h; cases h; done) | (refine ⟨?_, ?_⟩))) rfl (by rfl) (Nat.le_of_ble_eq_true rfl) (by rfl)
theorem lookR (i : Int) (hn : 0 < M.n) : FunT Try.prog 39 [mpv, iv i] (hRd M lv mv) (.tup [secV (if mayE M i = 0 then getI M.dur i else zs 64), iv (mayE M i)]) (hRd M lv mv) := by
  have hI := mayR M lv mv i hn
  have hlv := look_val M.dur i
  have hk := keysOk_enc M.dur
  by_cases h0 : mayE M i = 0
  · rw [if_pos h0]
    rw [h0] at hI ⊢
    obtain ⟨Mn, Ms, Md, Ml, Mf, Mh⟩ := M
    refine FunT.ev tabOk mixed Try.func39 rfl ?_
    conv => whnf
    repeat (first | (refine ⟨(by kernel_rfl : chkR _ _ _ _ = true), ?_⟩; conv => whnf) | (refine EvOr.go ?_; conv => whnf))
    refine CallG.use hI c95 [0, 1, 2] [] ?_ ?_ ?_ ?_ ?_ ?_; rfl; rfl; kernel_rfl; rfl; rfl
    conv => whnf
    repeat (first | (refine ⟨(by kernel_rfl : chkR _ _ _ _ = true), ?_⟩; conv => whnf) | (refine EvOr.go ?_; conv => whnf))
    intro c hc
    obtain rfl : c = false := by rw [hc]; rfl
    conv => whnf
    repeat (first | (refine ⟨(by kernel_rfl : chkR _ _ _ _ = true), ?_⟩; conv => whnf) | (refine EvOr.go ?_; conv => whnf))
    refine ⟨hk, ?_⟩
    obtain ⟨a, fd, h1, rfl⟩ := hlv
    refine ⟨_, fd, h1, ?_⟩
    conv => whnf
    repeat (first | (refine ⟨(by kernel_rfl : chkR _ _ _ _ = true), ?_⟩; conv => whnf) | (refine EvOr.go ?_; conv => whnf))
    exact retQ.all tabOk _ [.agg [.byt 64 (getI Md i)], iv 0] rfl (by first | exact .inr rfl | exact .inl rfl) (by repeat' (first | exact trivial | rfl | (intro h; cases h; done) | (refine ⟨?_, ?_⟩))) rfl (by rfl) (Nat.le_of_ble_eq_true rfl) (by rfl)
  · rw [if_neg h0]
    generalize mayE M i = e at hI h0
    refine FunT.ev tabOk mixed Try.func39 rfl ?_
    conv => whnf
    repeat (first | (refine ⟨(by kernel_rfl : chkR _ _ _ _ = true), ?_⟩; conv => whnf) | (refine EvOr.go ?_; conv => whnf))
    refine CallG.use hI c95 [0, 1, 2] [] ?_ ?_ ?_ ?_ ?_ ?_; rfl; rfl; kernel_rfl; rfl; rfl
    conv => whnf
    repeat (first | (refine ⟨(by kernel_rfl : chkR _ _ _ _ = true), ?_⟩; conv => whnf) | (refine EvOr.go ?_; conv => whnf))
    intro c hc
    obtain rfl : c = true := by rw [hc]; simp [h0]
    conv => whnf
    repeat (first | (refine ⟨(by kernel_rfl : chkR _ _ _ _ = true), ?_⟩; conv => whnf) | (refine EvOr.go ?_; conv => whnf))
    exact retQ.all tabOk _ [secV (zs 64), iv e] rfl (by first | exact .inr rfl | exact .inl rfl) (by repeat' (first | exact trivial | rfl | (intro h; cases h; done) | (refine ⟨?_, ?_⟩))) rfl (by rfl) (Nat.le_of_ble_eq_true rfl) (by rfl)
section
variable (n : Int) (d l rv : Sl) (f h : Bool) (R : List (Nat × Obj)) (D L : Img) (i : Int)
abbrev rRef (n : Int) (d l rv : Sl) (f h : Bool) : Option ABlk := refS n (.raw d.v) (.raw l.v) (.raw rv.v) f h
abbrev HXR (n : Int) (d l rv : Sl) (f h : Bool) (R : List (Nat × Obj)) : LHp := [rRef n d l rv f h, some (famB R)]
theorem ymay : FunT Try.prog 126 [rpt, iv i] [rRef n d l rv f h, none] (bv (mayB n i)) [rRef n d l rv f h, none] := by
  unfold mayB
  by_cases h1 : 0 ≤ i
  · by_cases h2 : i < n
    · rw [show decide (0 ≤ i ∧ i < n) = true from decide_eq_true ⟨h1, h2⟩]
      refine FunT.ev tabOk mixed Try.func126 rfl ?_
      conv => whnf
      repeat (first | (refine ⟨(by kernel_rfl : chkR _ _ _ _ = true), ?_⟩; conv => whnf) | (refine EvOr.go ?_; conv => whnf))
      intro c hc
      obtain rfl : c = true := by rw [hc]; exact decide_eq_true (by omega)
      conv => whnf
      repeat (first | (refine ⟨(by kernel_rfl : chkR _ _ _ _ = true), ?_⟩; conv => whnf) | (refine EvOr.go ?_; conv => whnf))
      intro c hc
      obtain rfl : c = true := by rw [hc]; exact decide_eq_true (by omega)
      conv => whnf
      repeat (first | (refine ⟨(by kernel_rfl : chkR _ _ _ _ = true), ?_⟩; conv => whnf) | (refine EvOr.go ?_; conv => whnf))
      exact retQ.one rfl (.inr rfl) rfl (Nat.le_of_ble_eq_true rfl) rfl
    · rw [show decide (0 ≤ i ∧ i < n) = false from decide_eq_false (by omega)]
      refine FunT.ev tabOk mixed Try.func126 rfl ?_
      conv => whnf
      repeat (first | (refine ⟨(by kernel_rfl : chkR _ _ _ _ = true), ?_⟩; conv => whnf) | (refine EvOr.go ?_; conv => whnf))
      intro c hc
      obtain rfl : c = true := by rw [hc]; exact decide_eq_true (by omega)
      conv => whnf
      repeat (first | (refine ⟨(by kernel_rfl : chkR _ _ _ _ = true), ?_⟩; conv => whnf) | (refine EvOr.go ?_; conv => whnf))
      intro c hc
      obtain rfl : c = false := by rw [hc]; exact decide_eq_false (by omega)
      conv => whnf
      repeat (first | (refine ⟨(by kernel_rfl : chkR _ _ _ _ = true), ?_⟩; conv => whnf) | (refine EvOr.go ?_; conv => whnf))
      exact retQ.one rfl (.inr rfl) rfl (Nat.le_of_ble_eq_true rfl) rfl
  · rw [show decide (0 ≤ i ∧ i < n) = false from decide_eq_false (by omega)]
    refine FunT.ev tabOk mixed Try.func126 rfl ?_
    conv => whnf
    repeat (first | (refine ⟨(by kernel_rfl : chkR _ _ _ _ = true), ?_⟩; conv => whnf) | (refine EvOr.go ?_; conv => whnf))
    intro c hc
    obtain rfl : c = false := by rw [hc]; exact decide_eq_false (by omega)
    conv => whnf
    repeat (first | (refine ⟨(by kernel_rfl : chkR _ _ _ _ = true), ?_⟩; conv => whnf) | (refine EvOr.go ?_; conv => whnf))
    exact retQ.one rfl (.inr rfl) rfl (Nat.le_of_ble_eq_true rfl) rfl
theorem yseen (hd : RawAt R D d.v) (hl : RawAt R L l.v) (hb : D.length < 2 ^ 30) (hb2 : L.length < 2 ^ 30) :
    FunT Try.prog 128 [rpt, iv i] (HXR n d l rv f h R) (secV (seenE D L i)) (HXR n d l rv f h R) := by
  have g1 := find_raw hl i (by omega)
  have g2 := find_raw hd i (by omega)
  unfold seenE
  cases hq : (findE L i).2 with
  | true =>
    rw [hq] at g1
    rw [if_pos rfl]
    generalize (findE L i).1 = s1 at *
    refine FunT.ev tabOk mixed Try.func128 rfl ?_
    conv => whnf
    repeat (first | (refine ⟨(by kernel_rfl : chkR _ _ _ _ = true), ?_⟩; conv => whnf) | (refine EvOr.go ?_; conv => whnf))
    refine CallG.use g1 c129 [1] [] ?_ ?_ ?_ ?_ ?_ ?_; rfl; rfl; kernel_rfl; rfl; rfl
    conv => whnf
    repeat (first | (refine ⟨(by kernel_rfl : chkR _ _ _ _ = true), ?_⟩; conv => whnf) | (refine EvOr.go ?_; conv => whnf))
    exact retQ.all tabOk _ [secV s1] rfl (by first | exact .inr rfl | exact .inl rfl) (by repeat' (first | exact trivial | rfl | (intro h; cases h; done) | (refine ⟨?_, ?_⟩))) rfl (by rfl) (Nat.le_of_ble_eq_true rfl) (by rfl)
  | false =>
    rw [hq] at g1
    rw [if_neg (by decide)]
    generalize (findE L i).1 = s1 at *
    generalize (findE D i).1 = s2 at *
    generalize (findE D i).2 = b2 at *
    refine FunT.ev tabOk mixed Try.func128 rfl ?_
    conv => whnf
    repeat (first | (refine ⟨(by kernel_rfl : chkR _ _ _ _ = true), ?_⟩; conv => whnf) | (refine EvOr.go ?_; conv => whnf))
    refine CallG.use g1 c129 [1] [] ?_ ?_ ?_ ?_ ?_ ?_; rfl; rfl; kernel_rfl; rfl; rfl
    conv => whnf
    repeat (first | (refine ⟨(by kernel_rfl : chkR _ _ _ _ = true), ?_⟩; conv => whnf) | (refine EvOr.go ?_; conv => whnf))
    refine CallG.use g2 c129 [1] [] ?_ ?_ ?_ ?_ ?_ ?_; rfl; rfl; kernel_rfl; rfl; rfl
    conv => whnf
    repeat (first | (refine ⟨(by kernel_rfl : chkR _ _ _ _ = true), ?_⟩; conv => whnf) | (refine EvOr.go ?_; conv => whnf))
    exact retQ.all tabOk _ [secV s2] rfl (by first | exact .inr rfl | exact .inl rfl) (by repeat' (first | exact trivial | rfl | (intro h; cases h; done) | (refine ⟨?_, ?_⟩))) rfl (by rfl) (Nat.le_of_ble_eq_true rfl) (by rfl)
theorem ylook (hd : RawAt R D d.v) (hb : D.length < 2 ^ 30) :
    FunT Try.prog 104 [rpt, iv i] (HXR n d l rv f h R) (.tup [secV (if mayB n i then (findE D i).1 else zs 64), iv (if mayB n i then 0 else 2)]) (HXR n d l rv f h R) := by
  have g0 := ymay n d l rv f h i
  have g1 := find_raw hd i (by omega)
  generalize (findE D i).1 = s at *
  generalize (findE D i).2 = b at *
  cases hm : mayB n i with
  | false =>
    rw [hm] at g0
    refine FunT.ev tabOk mixed Try.func104 rfl ?_
    conv => whnf
    repeat (first | (refine ⟨(by kernel_rfl : chkR _ _ _ _ = true), ?_⟩; conv => whnf) | (refine EvOr.go ?_; conv => whnf))
    refine CallG.use g0 c126 [0, 1] [] ?_ ?_ ?_ ?_ ?_ ?_; rfl; rfl; kernel_rfl; rfl; rfl
    conv => whnf
    repeat (first | (refine ⟨(by kernel_rfl : chkR _ _ _ _ = true), ?_⟩; conv => whnf) | (refine EvOr.go ?_; conv => whnf))
    exact retQ.all tabOk _ [secV (zs 64), iv 2] rfl (by first | exact .inr rfl | exact .inl rfl) (by repeat' (first | exact trivial | rfl | (intro h; cases h; done) | (refine ⟨?_, ?_⟩))) rfl (by rfl) (Nat.le_of_ble_eq_true rfl) (by rfl)
  | true =>
    rw [hm] at g0
    refine FunT.ev tabOk mixed Try.func104 rfl ?_
    conv => whnf
    repeat (first | (refine ⟨(by kernel_rfl : chkR _ _ _ _ = true), ?_⟩; conv => whnf) | (refine EvOr.go ?_; conv => whnf))
    refine CallG.use g0 c126 [0, 1] [] ?_ ?_ ?_ ?_ ?_ ?_; rfl; rfl; kernel_rfl; rfl; rfl
    conv => whnf
    repeat (first | (refine ⟨(by kernel_rfl : chkR _ _ _ _ = true), ?_⟩; conv => whnf) | (refine EvOr.go ?_; conv => whnf))
    refine CallG.use g1 c129 [1] [] ?_ ?_ ?_ ?_ ?_ ?_; rfl; rfl; kernel_rfl; rfl; rfl
    conv => whnf
    repeat (first | (refine ⟨(by kernel_rfl : chkR _ _ _ _ = true), ?_⟩; conv => whnf) | (refine EvOr.go ?_; conv => whnf))
    exact retQ.all tabOk _ [secV s, iv 0] rfl (by first | exact .inr rfl | exact .inl rfl) (by repeat' (first | exact trivial | rfl | (intro h; cases h; done) | (refine ⟨?_, ?_⟩))) rfl (by rfl) (Nat.le_of_ble_eq_true rfl) (by rfl)
theorem yread (hd : RawAt R D d.v) (hl : RawAt R L l.v) (hb : D.length < 2 ^ 30) (hb2 : L.length < 2 ^ 30) :
    FunT Try.prog 103 [rpt, iv i] (HXR n d l rv f h R) (.tup [secV (if ioR n f i = 0 then seenE D L i else zs 64), iv (ioR n f i)]) (HXR n d l rv f h R) := by
  have g0 := ymay n d l rv f h i
  have g1 := yseen n d l rv f h R D L i hd hl hb hb2
  unfold ioR
  generalize seenE D L i = s at *
  cases hm : mayB n i with
  | false =>
    rw [hm] at g0
    refine FunT.ev tabOk mixed Try.func103 rfl ?_
    conv => whnf
    repeat (first | (refine ⟨(by kernel_rfl : chkR _ _ _ _ = true), ?_⟩; conv => whnf) | (refine EvOr.go ?_; conv => whnf))
    refine CallG.use g0 c126 [0, 1] [] ?_ ?_ ?_ ?_ ?_ ?_; rfl; rfl; kernel_rfl; rfl; rfl
    conv => whnf
    repeat (first | (refine ⟨(by kernel_rfl : chkR _ _ _ _ = true), ?_⟩; conv => whnf) | (refine EvOr.go ?_; conv => whnf))
    exact retQ.all tabOk _ [secV (zs 64), iv 2] rfl (by first | exact .inr rfl | exact .inl rfl) (by repeat' (first | exact trivial | rfl | (intro h; cases h; done) | (refine ⟨?_, ?_⟩))) rfl (by rfl) (Nat.le_of_ble_eq_true rfl) (by rfl)
  | true =>
    rw [hm] at g0
    cases f with
    | true =>
      refine FunT.ev tabOk mixed Try.func103 rfl ?_
      conv => whnf
      repeat (first | (refine ⟨(by kernel_rfl : chkR _ _ _ _ = true), ?_⟩; conv => whnf) | (refine EvOr.go ?_; conv => whnf))
      refine CallG.use g0 c126 [0, 1] [] ?_ ?_ ?_ ?_ ?_ ?_; rfl; rfl; kernel_rfl; rfl; rfl
      conv => whnf
      repeat (first | (refine ⟨(by kernel_rfl : chkR _ _ _ _ = true), ?_⟩; conv => whnf) | (refine EvOr.go ?_; conv => whnf))
      exact retQ.all tabOk _ [secV (zs 64), iv 10] rfl (by first | exact .inr rfl | exact .inl rfl) (by repeat' (first | exact trivial | rfl | (intro h; cases h; done) | (refine ⟨?_, ?_⟩))) rfl (by rfl) (Nat.le_of_ble_eq_true rfl) (by rfl)
    | false =>
      refine FunT.ev tabOk mixed Try.func103 rfl ?_
      conv => whnf
      repeat (first | (refine ⟨(by kernel_rfl : chkR _ _ _ _ = true), ?_⟩; conv => whnf) | (refine EvOr.go ?_; conv => whnf))
      refine CallG.use g0 c126 [0, 1] [] ?_ ?_ ?_ ?_ ?_ ?_; rfl; rfl; kernel_rfl; rfl; rfl
      conv => whnf
      repeat (first | (refine ⟨(by kernel_rfl : chkR _ _ _ _ = true), ?_⟩; conv => whnf) | (refine EvOr.go ?_; conv => whnf))
      refine CallG.use g1 c128 [0, 1] [] ?_ ?_ ?_ ?_ ?_ ?_; rfl; rfl; kernel_rfl; rfl; rfl
      conv => whnf
      repeat (first | (refine ⟨(by kernel_rfl : chkR _ _ _ _ = true), ?_⟩; conv => whnf) | (refine EvOr.go ?_; conv => whnf))
      exact retQ.all tabOk _ [secV s, iv 0] rfl (by first | exact .inr rfl | exact .inl rfl) (by repeat' (first | exact trivial | rfl | (intro h; cases h; done) | (refine ⟨?_, ?_⟩))) rfl (by rfl) (Nat.le_of_ble_eq_true rfl) (by rfl)
end
abbrev lkR (M : Mem) (lv mv d l rv : Sl) (R : List (Nat × Obj)) : LHp := [some (memR M lv mv 1 2), imB M.seen, imB M.dur, rRef M.n d l rv M.fails M.hurt, some (famB R)]
theorem looksR (d l rv : Sl) (R : List (Nat × Obj)) (D : Img) (i : Int) (hn : 0 < M.n) (hd : RawAt R D d.v) (hl : RawAt R M.log l.v) (hb : D.length < 2 ^ 29) (hb2 : M.log.length < 2 ^ 29) (hlv : lv.n = M.log.length)
    (hs : bysN 64 (getI M.seen i) = bysN 64 (seenE D M.log i)) (hu : bysN 64 (getI M.dur i) = bysN 64 (findE D i).1) :
    FunT Try.prog 42 [mpv, .sc (.ptr 3 0 6 0), iv i] (lkR M lv mv d l rv R) (bv true) (lkR M lv mv d l rv R) := by
  have gR := readR M lv mv i hn
  have gL := lookR M lv mv i hn
  have gT := touchedR M lv mv hn
  have gU := unflR M lv mv hn hlv
  have gN := lenR M lv mv hn
  have xR := yread M.n d l rv M.fails M.hurt R D M.log i hd hl (by omega) (by omega)
  have xL := ylook M.n d l rv M.fails M.hurt R D i hd (by omega)
  have e1 : ioR M.n M.fails i = ioE M i := io_eq M i
  have e2 : (if mayB M.n i then (0 : Int) else 2) = mayE M i := may_eq M i
  have e3 : (if mayB M.n i then (findE D i).1 else zs 64) = if mayE M i = 0 then (findE D i).1 else zs 64 := by
    cases hm : mayB M.n i with
    | true => rw [← e2, hm]; rfl
    | false => rw [← e2, hm]; rfl
  rw [e2, e3] at xL
  rw [e1] at xR
  have q1 : bysN 64 (if ioE M i = 0 then getI M.seen i else zs 64) = bysN 64 (if ioE M i = 0 then seenE D M.log i else zs 64) := by
    split
    · exact hs
    · rfl
  have q2 : bysN 64 (if mayE M i = 0 then getI M.dur i else zs 64) = bysN 64 (if mayE M i = 0 then (findE D i).1 else zs 64) := by
    split
    · exact hu
    · rfl
  generalize (if ioE M i = 0 then getI M.seen i else zs 64) = s1 at *
  generalize (if ioE M i = 0 then seenE D M.log i else zs 64) = s2 at *
  generalize (if mayE M i = 0 then getI M.dur i else zs 64) = s3 at *
  generalize (if mayE M i = 0 then (findE D i).1 else zs 64) = s4 at *
  generalize ioE M i = ie at *
  generalize mayE M i = me at *
  have hll : l.n = M.log.length := by
    rcases hl with ⟨h1, h2⟩ | ⟨_, b, off, cap, c, t', fr, pre, post, h1, _⟩
    · injection h1 with _ h3 _
      rw [h3, h2]; rfl
    · injection h1 with _ h3 _
  clear e1 e2 e3 hs hu hd hl
  obtain ⟨Mn, Ms, Md, Ml, Mf, Mh⟩ := M
  replace hll : l.n = Ml.length := hll
  cases Mh <;>
  · refine FunT.ev tabOk mixed Try.func42 rfl ?_
    conv => whnf
    repeat (first | (refine ⟨(by kernel_rfl : chkR _ _ _ _ = true), ?_⟩; conv => whnf) | (refine EvOr.go ?_; conv => whnf))
    refine CallG.use gR c33 [0, 1, 2] [] ?_ ?_ ?_ ?_ ?_ ?_; rfl; rfl; kernel_rfl; rfl; rfl
    conv => whnf
    repeat (first | (refine ⟨(by kernel_rfl : chkR _ _ _ _ = true), ?_⟩; conv => whnf) | (refine EvOr.go ?_; conv => whnf))
    refine CallG.use xR c103 [3, 4] [] ?_ ?_ ?_ ?_ ?_ ?_; rfl; rfl; kernel_rfl; rfl; rfl
    conv => whnf
    repeat (first | (refine ⟨(by kernel_rfl : chkR _ _ _ _ = true), ?_⟩; conv => whnf) | (refine EvOr.go ?_; conv => whnf))
    refine CallG.use gL c39 [0, 1, 2] [] ?_ ?_ ?_ ?_ ?_ ?_; rfl; rfl; kernel_rfl; rfl; rfl
    conv => whnf
    repeat (first | (refine ⟨(by kernel_rfl : chkR _ _ _ _ = true), ?_⟩; conv => whnf) | (refine EvOr.go ?_; conv => whnf))
    refine CallG.use xL c104 [3, 4] [] ?_ ?_ ?_ ?_ ?_ ?_; rfl; rfl; kernel_rfl; rfl; rfl
    conv => whnf
    repeat (first | (refine ⟨(by kernel_rfl : chkR _ _ _ _ = true), ?_⟩; conv => whnf) | (refine EvOr.go ?_; conv => whnf))
    refine ⟨rfl, ?_⟩
    refine ⟨eq34, ?_⟩
    conv => whnf
    repeat (first | (refine ⟨(by kernel_rfl : chkR _ _ _ _ = true), ?_⟩; conv => whnf) | (refine EvOr.go ?_; conv => whnf))
    intro c hc
    obtain rfl : c = true := hc.2 q1
    conv => whnf
    repeat (first | (refine ⟨(by kernel_rfl : chkR _ _ _ _ = true), ?_⟩; conv => whnf) | (refine EvOr.go ?_; conv => whnf))
    intro c hc
    obtain rfl : c = true := by rw [hc]; exact decide_eq_true rfl
    conv => whnf
    repeat (first | (refine ⟨(by kernel_rfl : chkR _ _ _ _ = true), ?_⟩; conv => whnf) | (refine EvOr.go ?_; conv => whnf))
    refine ⟨rfl, ?_⟩
    refine ⟨eq34, ?_⟩
    conv => whnf
    repeat (first | (refine ⟨(by kernel_rfl : chkR _ _ _ _ = true), ?_⟩; conv => whnf) | (refine EvOr.go ?_; conv => whnf))
    intro c hc
    obtain rfl : c = true := hc.2 q2
    conv => whnf
    repeat (first | (refine ⟨(by kernel_rfl : chkR _ _ _ _ = true), ?_⟩; conv => whnf) | (refine EvOr.go ?_; conv => whnf))
    intro c hc
    obtain rfl : c = true := by rw [hc]; exact decide_eq_true rfl
    conv => whnf
    repeat (first | (refine ⟨(by kernel_rfl : chkR _ _ _ _ = true), ?_⟩; conv => whnf) | (refine EvOr.go ?_; conv => whnf))
    refine CallG.use gT c35 [0, 1, 2] [] ?_ ?_ ?_ ?_ ?_ ?_; rfl; rfl; kernel_rfl; rfl; rfl
    conv => whnf
    repeat (first | (refine ⟨(by kernel_rfl : chkR _ _ _ _ = true), ?_⟩; conv => whnf) | (refine EvOr.go ?_; conv => whnf))
    refine CallG.use gU c30 [0, 1, 2] [] ?_ ?_ ?_ ?_ ?_ ?_; rfl; rfl; kernel_rfl; rfl; rfl
    conv => whnf
    repeat (first | (refine ⟨(by kernel_rfl : chkR _ _ _ _ = true), ?_⟩; conv => whnf) | (refine EvOr.go ?_; conv => whnf))
    intro c hc
    obtain rfl : c = true := by rw [hc]; exact decide_eq_true (by rw [hll])
    conv => whnf
    repeat (first | (refine ⟨(by kernel_rfl : chkR _ _ _ _ = true), ?_⟩; conv => whnf) | (refine EvOr.go ?_; conv => whnf))
    refine CallG.use gN c49 [0, 1, 2] [] ?_ ?_ ?_ ?_ ?_ ?_; rfl; rfl; kernel_rfl; rfl; rfl
    conv => whnf
    repeat (first | (refine ⟨(by kernel_rfl : chkR _ _ _ _ = true), ?_⟩; conv => whnf) | (refine EvOr.go ?_; conv => whnf))
    intro c hc
    obtain rfl : c = true := by rw [hc]; exact decide_eq_true rfl
    conv => whnf
    repeat (first | (refine ⟨(by kernel_rfl : chkR _ _ _ _ = true), ?_⟩; conv => whnf) | (refine EvOr.go ?_; conv => whnf))
    exact retQ.one rfl (.inr rfl) rfl (Nat.le_of_ble_eq_true rfl) rfl
end Go.Proofs.Ytdmcbfmpnakdfaa.Eng.Rm
