/- Freezing: the blocks of a state begun anew, one by one. -/
import Derived.Test.YtdmcbfmpnakdfaaZ1
import Derived.Test.YtdmcbfmpnakdfaaZ6
namespace Go.Proofs.Ytdmcbfmpnakdfaa.Eng
open Go
/-- What a block was, and what it is to be in a context begun anew. -/
def FrzB (Γ : Ctx) (ρ : Ren) (w : World) (Γ' : Ctx) (i : Nat) (b b2 : ABlk) : Prop :=
  (b = b2 ∧ (b.w = true ∨ ∃ t sz L ms, b = .row .ro t sz L ms)) ∨ (∃ R R2, b = famB R ∧ b2 = famB R2 ∧ (∀ x ∈ R, x ∈ R2) ∧ Fams Γ' R2) ∨ (b.w = true ∧ b2.w = true ∧ BlkSat Γ ρ w i b2)
theorem FrzB.w {Γ : Ctx} {ρ : Ren} {w : World} {Γ' : Ctx} {i : Nat} {b b2 : ABlk} (h : FrzB Γ ρ w Γ' i b b2) : b.w = b2.w := by
  rcases h with ⟨rfl, _⟩ | ⟨R, R2, rfl, rfl, _⟩ | ⟨h1, h2, _⟩
  · rfl
  · rfl
  · rw [h1, h2]
theorem FrzB.sat {Γ : Ctx} {ρ : Ren} {w : World} {n : Nat} {r0 : Ren} {hx : AHeap} {i : Nat} {b b2 : ABlk} (h : FrzB Γ ρ w (reb w n r0 ρ hx) i b b2) (hb : BlkSat Γ ρ w i b) : BlkSat (reb w n r0 ρ hx) ρ w i b2 := by
  rcases h with ⟨rfl, h⟩ | ⟨R, R2, rfl, rfl, hR, hF⟩ | ⟨h1, h2, h3⟩
  · rcases h with h | ⟨t, sz, L, ms, rfl⟩
    · exact hb.ctx h
    · exact hb.ctx_ro (fun R t sz L ms h => by cases h) fun _ => ⟨hb.lt, rfl⟩
  · have hlt := hb.lt
    obtain ⟨a1, a2, a3, ⟨c0, t0, fr0, pre0, post0, b1, b2, b3, b4, b5⟩, ⟨o, ho⟩, _⟩ := hb
    exact ⟨a1, a2, a3, ⟨c0, t0, fr0, pre0, post0, b1, b2, b3, hlt, rfl⟩, ⟨o, hR _ ho⟩, hF⟩
  · exact h3.ctx h2
/-- A state frozen. -/
theorem SeenF.mk {X : Type} {n : Nat} {I : X → LTm × LHp} {p : X → Prop} {l : LTm} {h : LHp}
    (H : ∀ (Γ : Ctx) (ρ : Ren) (w : World) (tm : Array Value), Γ.n0 = n → Sat Γ ρ (hpL h) w → TSat ρ l.length (tmL l) tm →
      ∃ x', p x' ∧ n ≤ (I x').2.length ∧ (∀ i b2, hpL (I x').2 i = some b2 → ∃ b, hpL h i = some b ∧ FrzB Γ ρ w (reb w n Γ.r0 ρ (hpL (I x').2)) i b b2) ∧ TSat ρ l.length (tmL (I x').1) tm) : SeenF n I p l h := by
  intro Γ ρ w tm hn hs ht
  obtain ⟨x', h1, h2, h3, h4⟩ := H Γ ρ w tm hn hs ht
  refine ⟨x', ρ, h1, h2, fun _ _ => rfl, fun i b hb => ?_, fun i j a b ha hb haw he => ?_, fun i a ha haw => ?_, h4⟩
  · obtain ⟨b0, hb0, hf⟩ := h3 i b hb
    exact hf.sat (hs.blk i b0 hb0)
  · obtain ⟨a0, ha0, hfa⟩ := h3 i a ha
    obtain ⟨b0, hb0, _⟩ := h3 j b hb
    exact hs.inj i j a0 b0 ha0 hb0 (hfa.w ▸ haw) he
  · obtain ⟨a0, ha0, hfa⟩ := h3 i a ha
    exact ⟨i, a0, ha0, hfa.w ▸ haw, rfl⟩
/-- A state seen as another, and that frozen. -/
theorem SeenF.of {X : Type} {n : Nat} {I : X → LTm × LHp} {p : X → Prop} {l l0 : LTm} {h h0 : LHp} (σ : Nat → Nat) (hS : StW n σ l h l0 h0) (hl : l0.length = l.length) (H : SeenF n I p l0 h0) : SeenF n I p l h := by
  intro Γ ρ w tm hn hs ht
  have hs1 := hs.reid hS.hp hS.inj (by rw [hn]; exact hS.fix)
  have ht1 : TSat (fun i => ρ (σ i)) l.length (tmL l0) tm := ht.reid hS.tm
  obtain ⟨x', ρ', h1, h2, h3, h4, h5, h6, h7⟩ := H Γ _ w tm hn hs1 (by rw [hl]; exact ht1)
  refine ⟨x', ρ', h1, h2, fun i hi => ?_, h4, h5, fun i a ha haw => ?_, by rw [hl] at h7; exact h7⟩
  · rw [h3 i hi, hS.fix i hi]
  · obtain ⟨j, b, hb, hbw, he⟩ := h6 i a ha haw
    exact ⟨σ j, _, (hS.hp j b hb).1, by rw [ABlk.ren_w]; exact hbw, he⟩
end Go.Proofs.Ytdmcbfmpnakdfaa.Eng
/- Freezing, ids said otherwise; the loop's rule as it is read off. -/
namespace Go.Proofs.Ytdmcbfmpnakdfaa.Eng
open Go
theorem SeenF.mk2 {X : Type} {n : Nat} {I : X → LTm × LHp} {p : X → Prop} {l : LTm} {h : LHp} (σ : Nat → Nat) (hσ : ∀ i, i < n → σ i = i)
    (H : ∀ (Γ : Ctx) (ρ : Ren) (w : World) (tm : Array Value), Γ.n0 = n → Sat Γ ρ (hpL h) w → TSat ρ l.length (tmL l) tm →
      ∃ x', p x' ∧ n ≤ (I x').2.length ∧ (∀ i b2, hpL (I x').2 i = some b2 → ∃ b, hpL h (σ i) = some b ∧ b.w = b2.w ∧ BlkSat (reb w n Γ.r0 (fun i => ρ (σ i)) (hpL (I x').2)) (fun i => ρ (σ i)) w i b2) ∧
        (∀ i j a b, hpL (I x').2 i = some a → hpL (I x').2 j = some b → a.w = true → σ i = σ j → i = j) ∧ TSat (fun i => ρ (σ i)) l.length (tmL (I x').1) tm) : SeenF n I p l h := by
  intro Γ ρ w tm hn hs ht
  obtain ⟨x', h1, h2, h3, h4, h5⟩ := H Γ ρ w tm hn hs ht
  refine ⟨x', fun i => ρ (σ i), h1, h2, fun i hi => congrArg ρ (hσ i hi), fun i b hb => ?_, fun i j a b ha hb haw he => ?_, fun i a ha haw => ?_, h5⟩
  · obtain ⟨b0, _, _, hf⟩ := h3 i b hb
    exact hf
  · obtain ⟨a0, ha0, hwa, _⟩ := h3 i a ha
    obtain ⟨b0, hb0, _⟩ := h3 j b hb
    exact h4 i j a b ha hb haw (hs.inj _ _ a0 b0 ha0 hb0 (hwa ▸ haw) he)
  · obtain ⟨a0, ha0, hwa, _⟩ := h3 i a ha
    exact ⟨σ i, a0, ha0, hwa ▸ haw, rfl⟩
theorem CodeT.loopFE {P : Program} {n : Nat} {l : LTm} {h : LHp} {Q : Post} {T : Tab} (hT : TabOk P T) (hm : P.follows .mixedOrders = true) {c : Code} {X : Type} (I : X → LTm × LHp) (μ : X → Nat) (h0 : SeenF n I (fun _ => True) l h)
    (hro : ∀ x i b, i < n → hpL h i = some b → b.w = false → hpL (I x).2 i = some b) (hlen : ∀ x, (I x).1.length = l.length) (round : ∀ x, evC P T n c (I x).1 (I x).2 (loopFQ n h I μ x Q)) : CodeS P n (.loop c) l h Q :=
  ⟨CodeT.loopF I μ h0 hro (fun x => evC_sound hT hm _ _ _ _ (round x)) hlen⟩
theorem Thaw.none {n : Nat} {h h' : LHp} (m : Nat) (hm : n ≤ m) : Thaw n h h' (List.replicate m Option.none) := by
  refine ⟨by simpa using hm, fun i b hb => ?_⟩
  unfold hpL at hb
  rw [List.getD_eq_getElem?_getD, List.getElem?_replicate] at hb
  split at hb <;> cases hb
end Go.Proofs.Ytdmcbfmpnakdfaa.Eng
/- MemberPlays: a round's end, its lists frozen. -/
namespace Go.Proofs.Ytdmcbfmpnakdfaa.Eng.Rm
open Go Go.Proofs
set_option maxRecDepth 20000
set_option maxHeartbeats 8000000
theorem RawAt.mono {R R2 : List (Nat × Obj)} {A : Img} {v : Value} (h : RawAt R A v) (hR : ∀ x ∈ R, x ∈ R2) : RawAt R2 A v := by
  rcases h with h | ⟨h0, b, off, cap, c, t', fr, pre, post, h1, h2, h3, h4⟩
  · exact .inl h
  · exact .inr ⟨h0, b, off, cap, c, t', fr, pre, post, h1, h2, hR _ h3, h4⟩
theorem Mrk.mono {R R2 : List (Nat × Obj)} {B : List Nat} {V : List Sl} {MS MA : List Img} {k k2 : Nat} (h : Mrk R B V MS MA k) (hR : ∀ x ∈ R, x ∈ R2) (hk : k ≤ k2) : Mrk R2 B V MS MA k2 where
  lv := h.lv
  ls := h.ls
  la := h.la
  le := h.le
  map j b S h1 h2 := by
    obtain ⟨ob, g1, g2⟩ := h.map j b S h1 h2
    exact ⟨ob, hR _ g1, g2⟩
  raw j v A h1 h2 := (h.raw j v A h1 h2).mono hR
  eq := h.eq
  len A hA := Nat.le_trans (h.len A hA) hk
/-- A list frozen. -/
theorem frz_list {Γ : Ctx} {ρ : Ren} {w : World} {h : LHp} {R : List (Nat × Obj)} (hs : Sat Γ ρ (hpL h) w) (A : Img) (x : Option Sl) (id : Nat) (hx : hpL h id = hB A x) (hok : hOk R A x) :
    ∃ (s : Sl) (R1 : List (Nat × Obj)), RawAt (R ++ R1) A s.v ∧ (AV.sc (.raw s.v)).den ρ = (AV.sc (hS A x id)).den ρ ∧
      ∀ n' r0 (hy : AHeap), (∀ i a, hy i = some a → a.w = true → i ≠ id ∧ ∃ b, hpL h i = some b ∧ b.w = true) → Fams (reb w n' r0 ρ hy) R1 := by
  cases x with
  | some s => exact ⟨s, [], by rw [List.append_nil]; exact hok, rfl, fun _ _ _ _ x hx => by cases hx⟩
  | none =>
    have hx : hpL h id = rowN A := hx
    obtain ⟨g1, g2, g3, c, pre, post, g4, g5, g6, g7⟩ := hs.blk id _ hx
    refine ⟨⟨some ⟨(ρ id).b, (ρ id).sh + 0 * 65, none⟩, A.length, (ρ id).tot - 0⟩, [((ρ id).b, .cells c 154 (0, 0))], .inr ⟨hok, _, _, _, c, 154, (0, 0), pre, post, rfl, by rw [List.length_map] at g3; omega, by simp, fun ρ' => ?_, by omega⟩, rfl, fun n' r0 hy hw => ?_⟩
    · rw [g5, rowDen_congr (ρ := ρ) (ρ' := ρ') _ (fun e he i hi => by rw [enc_ids A e he] at hi; cases hi)]
    · obtain ⟨o, h1, h2⟩ := fam_new (n := n') (r0 := r0) hs hx hw
      rw [g4] at h1
      cases h1
      exact h2
structure XS where
  M : Mem
  lg : Lg
  D : Img
  d : Sl
  l : Sl
  B : List Nat
  V : List Sl
  MS : List Img
  MA : List Img
  R : List (Nat × Obj)
  k : Nat
structure Inv (al : List ActV) (R0 : List (Nat × Obj)) (n : Int) (x : XS) : Prop where
  st : St x.M x.lg x.D x.d x.l x.R x.k
  mrk : Mrk x.R x.B x.V x.MS x.MA x.k
  k : x.k ≤ al.length
  n : x.M.n = n
  R : ∀ y ∈ R0, y ∈ x.R
  lg : x.lg = .nil ∨ ∃ J, x.lg = .inx J
abbrev plT (al : List ActV) (at_ : Int) (k : Nat) : LTm := [.junk, .sc (Ar.row.sv al.length 0), iv at_, .junk, .junk, .junk, .junk, .sc (.ptr 2 0 7 0), .junk, .sc (.ptr 7 0 6 0), iv (k : Nat), .junk, .junk, .junk, .junk, .junk, .junk, .junk, .junk, .junk, .junk, .junk, .junk, .junk, .junk, .junk, .junk, .junk, .junk, .junk, .junk, .junk, .junk, .junk, .junk, .junk, .junk, .junk, .junk, .junk, .junk, .junk, .junk, .junk, .junk, .junk, .junk, .junk, .junk, .junk, .junk, .junk, .junk, .junk, .junk, .junk, .junk, .junk, .junk, .junk, .junk, .junk, .junk, .junk, .junk, .junk, .junk, .junk, .junk, .junk, .junk, .junk, .junk, .junk, .junk, .junk, .junk, .junk, .junk, .junk, .junk, .junk, .junk, .junk, .junk, .junk, .junk, .junk]
abbrev plG (al : List ActV) (R0 : List (Nat × Obj)) (M : Mem) (lg : Lg) (mk : Mk) (dS lS : SV) (R : List (Nat × Obj)) (X Y : Option ABlk) : LHp :=
  [arB .row al, some (famB R0), some (memG M lg mk 3 4 5 6), imB M.seen, imB M.dur, logB M lg, X, refS M.n dS lS (mk.sv 11) M.fails M.hurt, some (famB R), some (famB R), some (famB R), Y]
def plI (al : List ActV) (R0 : List (Nat × Obj)) (n at_ : Int) (x : {x : XS // Inv al R0 n x}) : LTm × LHp :=
  (plT al at_ x.1.k, plG al R0 x.1.M x.1.lg (mkO x.1.B) (.raw x.1.d.v) (.raw x.1.l.v) x.1.R (mBo x.1.B) (vBo x.1.V))
theorem log_w {M : Mem} {lg : Lg} {b : ABlk} (h : logB M lg = some b) : b.w = true := by
  cases lg with
  | nil => cases h
  | ex => cases h
  | inx J => cases h; rfl
theorem mBo_w {B : List Nat} {b : ABlk} (h : mBo B = some b) : b.w = true := by
  cases B with
  | nil => cases h
  | cons x B => cases h; rfl
theorem vBo_w {V : List Sl} {b : ABlk} (h : vBo V = some b) : b.w = true := by
  cases V with
  | nil => cases h
  | cons x B => cases h; rfl
theorem ref_alike {Γ : Ctx} {ρ : Ren} {w : World} {id : Nat} {n : Int} {d l d2 l2 m : SV} {f h : Bool} (hb : BlkSat Γ ρ w id (.row .one 133 6 [refGs n d l m f h] (Segs.ids (refGs n d l m f h))))
    (hd : d2.den ρ = d.den ρ) (hl : l2.den ρ = l.den ρ) (h1 : d2.oneB = true) (h2 : l2.oneB = true) (h3 : m.oneB = true) : BlkSat Γ ρ w id (.row .one 133 6 [refGs n d2 l2 m f h] (Segs.ids (refGs n d2 l2 m f h))) := by
  refine hb.alike ?_ rfl (fun e he => ?_) (fun e he x hx => ?_)
  · simp [rowDen, Segs.den, Seg.den, hd, hl]
  · obtain rfl := List.mem_singleton.1 he
    refine ⟨rfl, ?_⟩
    simp only [refGs, Segs.oneB, h1, h2, h3]
    rfl
  · obtain rfl := List.mem_singleton.1 he
    exact hx
theorem mkO_one (B : List Nat) (id : Nat) : ((mkO B).sv id).oneB = true := by
  cases B <;> rfl
end Go.Proofs.Ytdmcbfmpnakdfaa.Eng.Rm
/- MemberPlays: rounds' ends and the first state, frozen. -/
namespace Go.Proofs.Ytdmcbfmpnakdfaa.Eng.Rm
open Go Go.Proofs
set_option maxRecDepth 20000
set_option maxHeartbeats 8000000
theorem hS_one (A : Img) (x : Option Sl) (id : Nat) : (hS A x id).oneB = true := by
  cases x <;> rfl
theorem fam_R {Γ : Ctx} {ρ : Ren} {w : World} {i : Nat} {R : List (Nat × Obj)} (h : BlkSat Γ ρ w i (famB R)) : Fams Γ R := h.2.2.2.2.2
section
variable (al : List ActV) (R0 : List (Nat × Obj)) (n at_ : Int)
/-- Behind an act that was no mark. -/
theorem pl_A {M : Mem} {lg : Lg} {D : Img} {dh lh : Option Sl} {R : List (Nat × Obj)} {B : List Nat} {V : List Sl} {MS MA : List Img} {k : Nat} {lg0 : Lg} (hA : StA lg0 M lg D dh lh R (k + 1) n) (hm : Mrk R B V MS MA k) (hR : ∀ y ∈ R0, y ∈ R) (hk : k < al.length) (hal : al.length ≤ 60)
    (hlg : lg = .nil ∨ ∃ J, lg = .inx J) :
    SeenF 2 (plI al R0 n at_) (fun x' => x'.1.k = k + 1) (plT al at_ (k + 1)) (plG al R0 M lg (mkO B) (hS D dh 12) (hS M.log lh 13) R (mBo B) (vBo V) ++ [hB D dh, hB M.log lh]) := by
  refine SeenF.mk fun Γ ρ w tm hn hs ht => ?_
  obtain ⟨d, R1, d1, d2, d3⟩ := frz_list (R := R) hs D dh 12 rfl hA.hd
  obtain ⟨l, R2, l1, l2, l3⟩ := frz_list (R := R) hs M.log lh 13 rfl hA.hl
  have l1 : RawAt ((R ++ R1) ++ R2) M.log l.v := l1.mono fun x hx => by
    rcases List.mem_append.1 hx with hx | hx
    · exact List.mem_append_left _ (List.mem_append_left _ hx)
    · exact List.mem_append_right _ hx
  have hsub : ∀ x ∈ R, x ∈ (R ++ R1) ++ R2 := fun x hx => List.mem_append_left _ (List.mem_append_left _ hx)
  refine ⟨⟨⟨M, lg, D, d, l, B, V, MS, MA, (R ++ R1) ++ R2, k + 1⟩, ⟨⟨hA.ok, hA.rel, d1.mono fun x hx => List.mem_append_left _ hx, l1, by show k + 1 < 1000; omega⟩, hm.mono hsub (Nat.le_succ k), hk, hA.n, fun y hy => hsub y (hR y hy), hlg⟩⟩, rfl, by show 2 ≤ 12; decide, ?_, ht⟩
  have hw : ∀ (i : Nat) (a : ABlk), hpL (plG al R0 M lg (mkO B) (.raw d.v) (.raw l.v) ((R ++ R1) ++ R2) (mBo B) (vBo V)) i = some a → a.w = true → i < 12 ∧ ∃ b, hpL (plG al R0 M lg (mkO B) (hS D dh 12) (hS M.log lh 13) R (mBo B) (vBo V) ++ [hB D dh, hB M.log lh]) i = some b ∧ b.w = true := fun i a ha haw => by
    refine ⟨hpL_lt ha, ?_⟩
    match i, ha with
    | 0, ha => cases ha; cases haw
    | 1, ha => cases ha; cases haw
    | 2, ha => exact ⟨_, rfl, rfl⟩
    | 3, ha => exact ⟨_, rfl, rfl⟩
    | 4, ha => exact ⟨_, rfl, rfl⟩
    | 5, ha => exact ⟨a, ha, haw⟩
    | 6, ha => exact ⟨a, ha, haw⟩
    | 7, ha => exact ⟨_, rfl, rfl⟩
    | 8, ha => cases ha; cases haw
    | 9, ha => cases ha; cases haw
    | 10, ha => cases ha; cases haw
    | 11, ha => exact ⟨a, ha, haw⟩
    | i + 12, ha => cases ha
  have hF : ∀ n' r0, Fams (reb w n' r0 ρ (hpL (plG al R0 M lg (mkO B) (.raw d.v) (.raw l.v) ((R ++ R1) ++ R2) (mBo B) (vBo V)))) ((R ++ R1) ++ R2) := fun n' r0 x hx => by
    rcases List.mem_append.1 hx with hx | hx
    · rcases List.mem_append.1 hx with hx | hx
      · exact fams_reb hs (fam_R (hs.blk 8 _ rfl)) (fun i a ha haw => (hw i a ha haw).2) x hx
      · exact d3 n' r0 _ (fun i a ha haw => ⟨by have := (hw i a ha haw).1; omega, (hw i a ha haw).2⟩) x hx
    · exact l3 n' r0 _ (fun i a ha haw => ⟨by have := (hw i a ha haw).1; omega, (hw i a ha haw).2⟩) x hx
  intro i b2 hb
  match i, hb with
  | 0, hb => cases hb; exact ⟨_, rfl, .inl ⟨rfl, .inr ⟨_, _, _, _, rfl⟩⟩⟩
  | 1, hb => cases hb; exact ⟨_, rfl, .inr (.inl ⟨_, _, rfl, rfl, fun x hx => hx, fams_reb hs (fam_R (hs.blk 1 _ rfl)) (fun i a ha haw => (hw i a ha haw).2)⟩)⟩
  | 2, hb => cases hb; exact ⟨_, rfl, .inl ⟨rfl, .inl rfl⟩⟩
  | 3, hb => cases hb; exact ⟨_, rfl, .inl ⟨rfl, .inl rfl⟩⟩
  | 4, hb => cases hb; exact ⟨_, rfl, .inl ⟨rfl, .inl rfl⟩⟩
  | 5, hb => exact ⟨_, hb, .inl ⟨rfl, .inl (log_w hb)⟩⟩
  | 6, hb => exact ⟨_, hb, .inl ⟨rfl, .inl (mBo_w hb)⟩⟩
  | 7, hb => cases hb; exact ⟨_, rfl, .inr (.inr ⟨rfl, rfl, ref_alike (hs.blk 7 _ rfl) d2 l2 rfl rfl (mkO_one B 11)⟩)⟩
  | 8, hb => cases hb; exact ⟨_, rfl, .inr (.inl ⟨_, _, rfl, rfl, hsub, hF _ _⟩)⟩
  | 9, hb => cases hb; exact ⟨_, rfl, .inr (.inl ⟨_, _, rfl, rfl, hsub, hF _ _⟩)⟩
  | 10, hb => cases hb; exact ⟨_, rfl, .inr (.inl ⟨_, _, rfl, rfl, hsub, hF _ _⟩)⟩
  | 11, hb => exact ⟨_, hb, .inl ⟨rfl, .inl (vBo_w hb)⟩⟩
  | i + 12, hb => cases hb
/-- How the mark's list lies. -/
def mlS (A : Img) : SV := match A with
  | [] => nilS
  | A => .sl 13 0 65 A.length none
abbrev mB1 (B : List Nat) : Option ABlk := some (.row .inx 73 1 (B.map mapE ++ [[.one (.mp 12)]]) [12])
abbrev vBA (V : List Sl) (A : Img) : Option ABlk := some (.row .inx 130 1 (V.map rawK ++ [[.one (mlS A)]]) (SV.ids (mlS A)))
/-- Behind a mark. -/
theorem pl_B {M : Mem} {lg : Lg} {D : Img} {d l : Sl} {R : List (Nat × Obj)} {B : List Nat} {V : List Sl} {MS MA : List Img} {k : Nat} (h : St M lg D d l R k) (hM : M.n = n) (hm : Mrk R B V MS MA k) (h64 : B.length < 64) (hR : ∀ y ∈ R0, y ∈ R) (hk : k < al.length) (hal : al.length ≤ 60)
    (hlg : lg = .nil ∨ ∃ J, lg = .inx J) :
    SeenF 2 (plI al R0 n at_) (fun x' => x'.1.k = k + 1) (plT al at_ (k + 1)) ([arB .row al, some (famB R0), some (memG M lg (.row (B.length + 1)) 3 4 5 6), imB M.seen, imB M.dur, logB M lg, mB1 B, refS M.n (.raw d.v) (.raw l.v) (.sl 11 0 1 (B.length + 1) none) M.fails M.hurt, some (famB R), some (famB R), some (famB R), vBA V (D ++ M.log), imB M.seen, jB (D ++ M.log)]) := by
  refine SeenF.mk fun Γ ρ w tm hn hs ht => ?_
  have hlv := hm.lv
  have hls := hm.ls
  have hla := hm.la
  generalize hAA : D ++ M.log = A at *
  obtain ⟨a, R1, a1, a2, a3⟩ : ∃ (s : Sl) (R1 : List (Nat × Obj)), RawAt (R ++ R1) A s.v ∧ (AV.sc (.raw s.v)).den ρ = (AV.sc (mlS A)).den ρ ∧
      ∀ n' r0 (hy : AHeap), (∀ i a, hy i = some a → a.w = true → i ≠ 13 ∧ ∃ b, hpL ([arB .row al, some (famB R0), some (memG M lg (.row (B.length + 1)) 3 4 5 6), imB M.seen, imB M.dur, logB M lg, mB1 B, refS M.n (.raw d.v) (.raw l.v) (.sl 11 0 1 (B.length + 1) none) M.fails M.hurt, some (famB R), some (famB R), some (famB R), vBA V A, imB M.seen, jB A]) i = some b ∧ b.w = true) → Fams (reb w n' r0 ρ hy) R1 := by
    cases A with
    | nil => exact ⟨nilSl, [], .inl ⟨rfl, rfl⟩, rfl, fun _ _ _ _ x hx => by cases hx⟩
    | cons p A => exact frz_list hs (p :: A) none 13 rfl (Nat.succ_pos _)
  obtain ⟨o, o1, o2⟩ := map_obj (hs.blk 12 _ rfl) (enc_noids M.seen)
  have hsub : ∀ x ∈ R, x ∈ (R ++ R1) ++ [((ρ 12).b, o)] := fun x hx => List.mem_append_left _ (List.mem_append_left _ hx)
  have hcB : mkO (B ++ [(ρ 12).b]) = .row (B.length + 1) ∧ mBo (B ++ [(ρ 12).b]) = mkF (B ++ [(ρ 12).b]) := by
    cases B with
    | nil => exact ⟨rfl, rfl⟩
    | cons b B => exact ⟨by show Mk.row _ = _; simp, rfl⟩
  have hcV : vBo (V ++ [a]) = rowK (V ++ [a]) := by
    cases V with
    | nil => rfl
    | cons b B => rfl
  have hM2 : Mrk ((R ++ R1) ++ [((ρ 12).b, o)]) (B ++ [(ρ 12).b]) (V ++ [a]) (MS ++ [M.seen]) (MA ++ [A]) (k + 1) := by
    have hm2 := hm.mono hsub (Nat.le_succ k)
    have hsn : ∀ {α : Type} (L : List α) (x y : α) (j : Nat), (L ++ [x])[j]? = some y → (j < L.length ∧ L[j]? = some y) ∨ (j = L.length ∧ y = x) := fun L x y j h => by
      by_cases hj : j < L.length
      · rw [List.getElem?_append_left hj] at h; exact .inl ⟨hj, h⟩
      · rw [List.getElem?_append_right (by omega)] at h
        by_cases e : j - L.length = 0
        · rw [e] at h; simp at h; exact .inr ⟨by omega, h.symm⟩
        · rw [List.getElem?_eq_none (by simp; omega)] at h; cases h
    refine ⟨by simp [hlv], by simp [hls], by simp [hla], by simp; omega, fun j b S h1 h2 => ?_, fun j v A' h1 h2 => ?_, fun j S A' h1 h2 => ?_, fun A' hA' => ?_⟩
    · rcases hsn _ _ _ _ h1 with ⟨g1, g2⟩ | ⟨g1, g2⟩
      · rcases hsn _ _ _ _ h2 with ⟨g3, g4⟩ | ⟨g3, g4⟩
        · exact hm2.map j b S g2 g4
        · omega
      · rcases hsn _ _ _ _ h2 with ⟨g3, g4⟩ | ⟨g3, g4⟩
        · omega
        · subst g2; subst g4
          exact ⟨o, List.mem_append_right _ (List.mem_singleton.2 rfl), o2⟩
    · rcases hsn _ _ _ _ h1 with ⟨g1, g2⟩ | ⟨g1, g2⟩
      · rcases hsn _ _ _ _ h2 with ⟨g3, g4⟩ | ⟨g3, g4⟩
        · exact hm2.raw j v A' g2 g4
        · omega
      · rcases hsn _ _ _ _ h2 with ⟨g3, g4⟩ | ⟨g3, g4⟩
        · omega
        · subst g2; subst g4
          exact a1.mono fun x hx => List.mem_append_left _ hx
    · rcases hsn _ _ _ _ h1 with ⟨g1, g2⟩ | ⟨g1, g2⟩
      · rcases hsn _ _ _ _ h2 with ⟨g3, g4⟩ | ⟨g3, g4⟩
        · exact hm2.eq j S A' g2 g4
        · omega
      · rcases hsn _ _ _ _ h2 with ⟨g3, g4⟩ | ⟨g3, g4⟩
        · omega
        · subst g2; subst g4
          have := h.rel.seen
          rw [hAA] at this; exact this
    · rcases List.mem_append.1 hA' with hA' | hA'
      · exact hm2.len A' hA'
      · rw [List.mem_singleton.1 hA', ← hAA, List.length_append]
        exact Nat.le_succ_of_le h.rel.len
  refine ⟨⟨⟨M, lg, D, d, l, B ++ [(ρ 12).b], V ++ [a], MS ++ [M.seen], MA ++ [A], (R ++ R1) ++ [((ρ 12).b, o)], k + 1⟩, ⟨⟨h.ok, h.rel.mono (Nat.le_succ k), h.rd.mono hsub, h.rl.mono hsub, by show k + 1 < 1000; omega⟩, hM2, hk, hM, fun y hy => hsub y (hR y hy), hlg⟩⟩, rfl, by show 2 ≤ 12; decide, ?_, ht⟩
  show ∀ i b2, hpL (plG al R0 M lg (mkO (B ++ [(ρ 12).b])) (.raw d.v) (.raw l.v) ((R ++ R1) ++ [((ρ 12).b, o)]) (mBo (B ++ [(ρ 12).b])) (vBo (V ++ [a]))) i = some b2 → ∃ b, _ ∧ FrzB Γ ρ w (reb w 2 Γ.r0 ρ (hpL (plG al R0 M lg (mkO (B ++ [(ρ 12).b])) (.raw d.v) (.raw l.v) ((R ++ R1) ++ [((ρ 12).b, o)]) (mBo (B ++ [(ρ 12).b])) (vBo (V ++ [a]))))) i b b2
  rw [hcB.1, hcB.2, hcV]
  have hw : ∀ (i : Nat) (c : ABlk), hpL (plG al R0 M lg (.row (B.length + 1)) (.raw d.v) (.raw l.v) ((R ++ R1) ++ [((ρ 12).b, o)]) (mkF (B ++ [(ρ 12).b])) (rowK (V ++ [a]))) i = some c → c.w = true → i < 12 ∧ ∃ b, hpL ([arB .row al, some (famB R0), some (memG M lg (.row (B.length + 1)) 3 4 5 6), imB M.seen, imB M.dur, logB M lg, mB1 B, refS M.n (.raw d.v) (.raw l.v) (.sl 11 0 1 (B.length + 1) none) M.fails M.hurt, some (famB R), some (famB R), some (famB R), vBA V A, imB M.seen, jB A]) i = some b ∧ b.w = true := fun i c ha haw => by
    refine ⟨hpL_lt ha, ?_⟩
    match i, ha with
    | 0, ha => cases ha; cases haw
    | 1, ha => cases ha; cases haw
    | 2, ha => exact ⟨_, rfl, rfl⟩
    | 3, ha => exact ⟨_, rfl, rfl⟩
    | 4, ha => exact ⟨_, rfl, rfl⟩
    | 5, ha => exact ⟨c, ha, haw⟩
    | 6, ha => exact ⟨_, rfl, rfl⟩
    | 7, ha => exact ⟨_, rfl, rfl⟩
    | 8, ha => cases ha; cases haw
    | 9, ha => cases ha; cases haw
    | 10, ha => cases ha; cases haw
    | 11, ha => exact ⟨_, rfl, rfl⟩
    | i + 12, ha => cases ha
  have hF : ∀ n' r0, Fams (reb w n' r0 ρ (hpL (plG al R0 M lg (.row (B.length + 1)) (.raw d.v) (.raw l.v) ((R ++ R1) ++ [((ρ 12).b, o)]) (mkF (B ++ [(ρ 12).b])) (rowK (V ++ [a]))))) ((R ++ R1) ++ [((ρ 12).b, o)]) := fun n' r0 x hx => by
    rcases List.mem_append.1 hx with hx | hx
    · rcases List.mem_append.1 hx with hx | hx
      · exact fams_reb hs (fam_R (hs.blk 8 _ rfl)) (fun i a ha haw => (hw i a ha haw).2) x hx
      · exact a3 n' r0 _ (fun i a ha haw => ⟨by have := (hw i a ha haw).1; omega, (hw i a ha haw).2⟩) x hx
    · obtain ⟨o', p1, p2⟩ := fam_new (n := n') (r0 := r0) (hx := hpL (plG al R0 M lg (.row (B.length + 1)) (.raw d.v) (.raw l.v) ((R ++ R1) ++ [((ρ 12).b, o)]) (mkF (B ++ [(ρ 12).b])) (rowK (V ++ [a])))) hs (j := 12) rfl (fun i a ha haw => ⟨by have := (hw i a ha haw).1; omega, (hw i a ha haw).2⟩)
      rw [o1] at p1
      cases p1
      exact p2 x hx
  intro i b2 hb
  match i, hb with
  | 0, hb => cases hb; exact ⟨_, rfl, .inl ⟨rfl, .inr ⟨_, _, _, _, rfl⟩⟩⟩
  | 1, hb => cases hb; exact ⟨_, rfl, .inr (.inl ⟨_, _, rfl, rfl, fun x hx => hx, fams_reb hs (fam_R (hs.blk 1 _ rfl)) (fun i a ha haw => (hw i a ha haw).2)⟩)⟩
  | 2, hb => cases hb; exact ⟨_, rfl, .inl ⟨rfl, .inl rfl⟩⟩
  | 3, hb => cases hb; exact ⟨_, rfl, .inl ⟨rfl, .inl rfl⟩⟩
  | 4, hb => cases hb; exact ⟨_, rfl, .inl ⟨rfl, .inl rfl⟩⟩
  | 5, hb => exact ⟨_, hb, .inl ⟨rfl, .inl (log_w hb)⟩⟩
  | 6, hb =>
    cases hb
    refine ⟨_, rfl, .inr (.inr ⟨rfl, rfl, (hs.blk 6 _ rfl).alike ?_ (by simp) (fun e he => ?_) (fun e he x hx => ?_)⟩)⟩
    · rw [List.map_append, rowDen_append, rowDen_append]; rfl
    · obtain ⟨v, hv', rfl⟩ := List.mem_map.1 he
      exact ⟨rfl, rfl⟩
    · obtain ⟨v, _, rfl⟩ := List.mem_map.1 he
      cases hx
  | 7, hb => cases hb; exact ⟨_, rfl, .inl ⟨rfl, .inl rfl⟩⟩
  | 8, hb => cases hb; exact ⟨_, rfl, .inr (.inl ⟨_, _, rfl, rfl, hsub, hF _ _⟩)⟩
  | 9, hb => cases hb; exact ⟨_, rfl, .inr (.inl ⟨_, _, rfl, rfl, hsub, hF _ _⟩)⟩
  | 10, hb => cases hb; exact ⟨_, rfl, .inr (.inl ⟨_, _, rfl, rfl, hsub, hF _ _⟩)⟩
  | 11, hb =>
    cases hb
    refine ⟨_, rfl, .inr (.inr ⟨rfl, rfl, (hs.blk 11 _ rfl).alike ?_ (by simp) (fun e he => ?_) (fun e he x hx => ?_)⟩)⟩
    · rw [List.map_append, rowDen_append, rowDen_append]
      congr 1
      show [(AV.sc (.raw a.v)).den ρ] = [(AV.sc (mlS A)).den ρ]
      rw [a2]
    · obtain ⟨v, hv', rfl⟩ := List.mem_map.1 he
      exact ⟨rfl, rfl⟩
    · obtain ⟨v, _, rfl⟩ := List.mem_map.1 he
      cases hx
  | i + 12, hb => cases hb
end
end Go.Proofs.Ytdmcbfmpnakdfaa.Eng.Rm
