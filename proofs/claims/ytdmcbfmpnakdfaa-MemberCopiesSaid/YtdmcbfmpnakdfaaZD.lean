/- MemberCopies: rounds' ends of both loops, frozen. -/
import Derived.Test.YtdmcbfmpnakdfaaZB
namespace Go.Proofs.Ytdmcbfmpnakdfaa.Eng.Rm
open Go Go.Proofs
set_option maxRecDepth 20000
set_option maxHeartbeats 8000000
theorem arB_ro {a : Ar} {al : List ActV} {b : ABlk} (h : arB a al = some b) : ∃ t sz L ms, b = .row .ro t sz L ms := by
  cases a with
  | nil => cases h
  | row => cases h; exact ⟨_, _, _, _, rfl⟩
theorem famO_fam {a : Ar} {R : List (Nat × Obj)} {b : ABlk} (h : famO a R = some b) : b = famB R := by
  cases a with
  | nil => cases h
  | row => cases h; rfl
/-- What is known at a round's head; k0: what was done ahead of the loop. -/
structure InvC (nx : Prop) (bl : List ActV) (k0 : Nat) (Rb : List (Nat × Obj)) (x : XS) : Prop where
  st : St x.M x.lg x.D x.d x.l x.R (k0 + x.k)
  mrk : Mrk x.R x.B x.V x.MS x.MA (k0 + x.k)
  k : x.k ≤ bl.length
  n : x.M.n = 6
  R : ∀ y ∈ Rb, y ∈ x.R
  ex : nx → x.lg ≠ .ex
/-- The arguments' blocks. -/
structure CArg where
  a : Ar
  al : List ActV
  R0 : List (Nat × Obj)
  b : Ar
  bl : List ActV
  R1 : List (Nat × Obj)
/-- A member that is looked at alone. -/
structure CFix where
  M : Mem
  lv : Sl
  mv : Sl
  d : Sl
  l : Sl
  rv : Sl
structure FxOk (F : CFix) (D : Img) (R : List (Nat × Obj)) : Prop where
  rel : Rel F.M D 1000
  rd : RawAt R D F.d.v
  rl : RawAt R F.M.log F.l.v
  len : F.lv.n = F.M.log.length

abbrev cT1 (A : CArg) (k : Nat) : LTm := [.sc (A.a.sv A.al.length 0), .sc (A.b.sv A.bl.length 2), .junk, .junk, .junk, .sc (.ptr 4 0 7 0), .junk, .sc (.ptr 9 0 6 0), iv (k : Nat), .junk, .junk, .junk, .junk, .junk, .junk, .junk, .junk, .junk, .junk, .junk, .junk, .junk, .junk, .junk, .junk, .junk, .junk, .junk, .junk, .junk, .junk, .junk, .junk, .junk, .junk, .junk, .junk, .junk, .junk, .junk, .junk, .junk, .junk, .junk, .junk, .junk, .junk, .junk, .junk, .junk, .junk, .junk, .junk, .junk, .junk, .junk, .junk, .junk, .junk, .junk, .junk, .junk, .junk, .junk, .junk, .junk, .junk, .junk, .junk, .junk, .junk, .junk, .junk, .junk, .junk, .junk, .junk, .junk, .junk, .junk, .junk]
abbrev cH1 (A : CArg) (M : Mem) (lg : Lg) (mk : Mk) (dS lS : SV) (R : List (Nat × Obj)) (X Y : Option ABlk) : LHp :=
  [arB A.a A.al, famO A.a A.R0, arB A.b A.bl, famO A.b A.R1, some (memG M lg mk 5 6 7 8), imB M.seen, imB M.dur, logB M lg, X, refS M.n dS lS (mk.sv 10) M.fails M.hurt, Y, some (famB R), some (famB R), some (famB R)]
def cI1 (A : CArg) (x : {x : XS // InvC True A.al 0 [] x}) : LTm × LHp :=
  (cT1 A x.1.k, cH1 A x.1.M x.1.lg (mkO x.1.B) (.raw x.1.d.v) (.raw x.1.l.v) x.1.R (mBo x.1.B) (vBo x.1.V))
/-- Behind an act that was no mark. -/
theorem c1_A (A : CArg) {M : Mem} {lg0 lg : Lg} {D : Img} {dh lh : Option Sl} {R : List (Nat × Obj)} {B : List Nat} {V : List Sl} {MS MA : List Img} {k : Nat} (hA : StA lg0 M lg D dh lh R (0 + k + 1) 6) (hm : Mrk R B V MS MA (0 + k)) (hR : ∀ y ∈ ([] : List (Nat × Obj)), y ∈ R) (hk : k < A.al.length) (hal : A.al.length ≤ 40) (hex : True → lg ≠ .ex) :
    SeenF 4 (cI1 A) (fun x' => x'.1.k = k + 1) (cT1 A (k + 1)) (cH1 A M lg (mkO B) (hS D dh 14) (hS M.log lh 15) R (mBo B) (vBo V) ++ [hB D dh, hB M.log lh]) := by
  refine SeenF.mk fun Γ ρ w tm hn hs ht => ?_
  obtain ⟨d, R1, d1, d2, d3⟩ := frz_list (R := R) hs D dh 14 rfl hA.hd
  obtain ⟨l, R2, l1, l2, l3⟩ := frz_list (R := R) hs M.log lh 15 rfl hA.hl
  have l1 : RawAt ((R ++ R1) ++ R2) M.log l.v := l1.mono fun x hx => by
    rcases List.mem_append.1 hx with hx | hx
    · exact List.mem_append_left _ (List.mem_append_left _ hx)
    · exact List.mem_append_right _ hx
  have hsub : ∀ x ∈ R, x ∈ (R ++ R1) ++ R2 := fun x hx => List.mem_append_left _ (List.mem_append_left _ hx)
  refine ⟨⟨⟨M, lg, D, d, l, B, V, MS, MA, (R ++ R1) ++ R2, k + 1⟩, ⟨⟨hA.ok, hA.rel, d1.mono fun x hx => List.mem_append_left _ hx, l1, by show 0 + (k + 1) < 1000; omega⟩, hm.mono hsub (by show _ ≤ 0 + (k + 1); omega), hk, hA.n, fun y hy => hsub y (hR y hy), hex⟩⟩, rfl, by show 4 ≤ 14; decide, ?_, ht⟩
  have hw : ∀ (i : Nat) (a : ABlk), hpL (cH1 A M lg (mkO B) (.raw d.v) (.raw l.v) ((R ++ R1) ++ R2) (mBo B) (vBo V)) i = some a → a.w = true → i < 14 ∧ ∃ b, hpL (cH1 A M lg (mkO B) (hS D dh 14) (hS M.log lh 15) R (mBo B) (vBo V) ++ [hB D dh, hB M.log lh]) i = some b ∧ b.w = true := fun i a ha haw => by
    refine ⟨hpL_lt ha, ?_⟩
    match i, ha with
    | 0, ha => obtain ⟨_, _, _, _, rfl⟩ := arB_ro ha; cases haw
    | 1, ha => have e := famO_fam ha; subst e; cases haw
    | 2, ha => obtain ⟨_, _, _, _, rfl⟩ := arB_ro ha; cases haw
    | 3, ha => have e := famO_fam ha; subst e; cases haw
    | 4, ha => exact ⟨_, rfl, rfl⟩
    | 5, ha => exact ⟨_, rfl, rfl⟩
    | 6, ha => exact ⟨_, rfl, rfl⟩
    | 7, ha => exact ⟨a, ha, haw⟩
    | 8, ha => exact ⟨a, ha, haw⟩
    | 9, ha => exact ⟨_, rfl, rfl⟩
    | 10, ha => exact ⟨a, ha, haw⟩
    | 11, ha => cases ha; cases haw
    | 12, ha => cases ha; cases haw
    | 13, ha => cases ha; cases haw
    | i + 14, ha => cases ha
  have hF : ∀ n' r0, Fams (reb w n' r0 ρ (hpL (cH1 A M lg (mkO B) (.raw d.v) (.raw l.v) ((R ++ R1) ++ R2) (mBo B) (vBo V)))) ((R ++ R1) ++ R2) := fun n' r0 x hx => by
    rcases List.mem_append.1 hx with hx | hx
    · rcases List.mem_append.1 hx with hx | hx
      · exact fams_reb hs (fam_R (hs.blk 11 _ rfl)) (fun i a ha haw => (hw i a ha haw).2) x hx
      · exact d3 n' r0 _ (fun i a ha haw => ⟨by have := (hw i a ha haw).1; omega, (hw i a ha haw).2⟩) x hx
    · exact l3 n' r0 _ (fun i a ha haw => ⟨by have := (hw i a ha haw).1; omega, (hw i a ha haw).2⟩) x hx
  intro i b2 hb
  match i, hb with
  | 0, hb => obtain ⟨_, _, _, _, e⟩ := arB_ro hb; exact ⟨_, hb, .inl ⟨rfl, .inr ⟨_, _, _, _, e⟩⟩⟩
  | 1, hb => have e := famO_fam hb; subst e; exact ⟨_, hb, .inr (.inl ⟨_, _, rfl, rfl, fun x hx => hx, fams_reb hs (fam_R (hs.blk 1 _ hb)) (fun i a ha haw => (hw i a ha haw).2)⟩)⟩
  | 2, hb => obtain ⟨_, _, _, _, e⟩ := arB_ro hb; exact ⟨_, hb, .inl ⟨rfl, .inr ⟨_, _, _, _, e⟩⟩⟩
  | 3, hb => have e := famO_fam hb; subst e; exact ⟨_, hb, .inr (.inl ⟨_, _, rfl, rfl, fun x hx => hx, fams_reb hs (fam_R (hs.blk 3 _ hb)) (fun i a ha haw => (hw i a ha haw).2)⟩)⟩
  | 4, hb => cases hb; exact ⟨_, rfl, .inl ⟨rfl, .inl rfl⟩⟩
  | 5, hb => cases hb; exact ⟨_, rfl, .inl ⟨rfl, .inl rfl⟩⟩
  | 6, hb => cases hb; exact ⟨_, rfl, .inl ⟨rfl, .inl rfl⟩⟩
  | 7, hb => exact ⟨_, hb, .inl ⟨rfl, .inl (log_w hb)⟩⟩
  | 8, hb => exact ⟨_, hb, .inl ⟨rfl, .inl (mBo_w hb)⟩⟩
  | 9, hb => cases hb; exact ⟨_, rfl, .inr (.inr ⟨rfl, rfl, ref_alike (hs.blk 9 _ rfl) d2 l2 rfl rfl (mkO_one B 10)⟩)⟩
  | 10, hb => exact ⟨_, hb, .inl ⟨rfl, .inl (vBo_w hb)⟩⟩
  | 11, hb => cases hb; exact ⟨_, rfl, .inr (.inl ⟨_, _, rfl, rfl, hsub, hF _ _⟩)⟩
  | 12, hb => cases hb; exact ⟨_, rfl, .inr (.inl ⟨_, _, rfl, rfl, hsub, hF _ _⟩)⟩
  | 13, hb => cases hb; exact ⟨_, rfl, .inr (.inl ⟨_, _, rfl, rfl, hsub, hF _ _⟩)⟩
  | i + 14, hb => cases hb

def ml1 (A : Img) : SV := match A with
  | [] => nilS
  | A => .sl 15 0 65 A.length none
abbrev mB1c (B : List Nat) : Option ABlk := some (.row .inx 73 1 (B.map mapE ++ [[.one (.mp 14)]]) [14])
abbrev vB1c (V : List Sl) (A : Img) : Option ABlk := some (.row .inx 130 1 (V.map rawK ++ [[.one (ml1 A)]]) (SV.ids (ml1 A)))
/-- Behind a mark. -/
theorem c1_B (A : CArg) {M : Mem} {lg : Lg} {D : Img} {d l : Sl} {R : List (Nat × Obj)} {B : List Nat} {V : List Sl} {MS MA : List Img} {k : Nat} (h : St M lg D d l R (0 + k)) (hM : M.n = 6) (hm : Mrk R B V MS MA (0 + k)) (h64 : B.length < 64) (hR : ∀ y ∈ ([] : List (Nat × Obj)), y ∈ R) (hk : k < A.al.length) (hal : A.al.length ≤ 40) (hex : True → lg ≠ .ex) :
    SeenF 4 (cI1 A) (fun x' => x'.1.k = k + 1) (cT1 A (k + 1)) ([arB A.a A.al, famO A.a A.R0, arB A.b A.bl, famO A.b A.R1, some (memG M lg (.row (B.length + 1)) 5 6 7 8), imB M.seen, imB M.dur, logB M lg, mB1c B, refS M.n (.raw d.v) (.raw l.v) (.sl 10 0 1 (B.length + 1) none) M.fails M.hurt, vB1c V (D ++ M.log), some (famB (R)), some (famB (R)), some (famB (R)), imB M.seen, jB (D ++ M.log)]) := by
  refine SeenF.mk fun Γ ρ w tm hn hs ht => ?_
  have hlv := hm.lv
  have hls := hm.ls
  have hla := hm.la
  generalize hAA : D ++ M.log = C at *
  obtain ⟨a, R1, a1, a2, a3⟩ : ∃ (s : Sl) (R1 : List (Nat × Obj)), RawAt (R ++ R1) C s.v ∧ (AV.sc (.raw s.v)).den ρ = (AV.sc (ml1 C)).den ρ ∧
      ∀ n' r0 (hy : AHeap), (∀ i a, hy i = some a → a.w = true → i ≠ 15 ∧ ∃ b, hpL ([arB A.a A.al, famO A.a A.R0, arB A.b A.bl, famO A.b A.R1, some (memG M lg (.row (B.length + 1)) 5 6 7 8), imB M.seen, imB M.dur, logB M lg, mB1c B, refS M.n (.raw d.v) (.raw l.v) (.sl 10 0 1 (B.length + 1) none) M.fails M.hurt, vB1c V C, some (famB (R)), some (famB (R)), some (famB (R)), imB M.seen, jB C]) i = some b ∧ b.w = true) → Fams (reb w n' r0 ρ hy) R1 := by
    cases C with
    | nil => exact ⟨nilSl, [], .inl ⟨rfl, rfl⟩, rfl, fun _ _ _ _ x hx => by cases hx⟩
    | cons p C => exact frz_list hs (p :: C) none 15 rfl (Nat.succ_pos _)
  obtain ⟨o, o1, o2⟩ := map_obj (hs.blk 14 _ rfl) (enc_noids M.seen)
  have hsub : ∀ x ∈ R, x ∈ (R ++ R1) ++ [((ρ 14).b, o)] := fun x hx => List.mem_append_left _ (List.mem_append_left _ hx)
  have hcB : mkO (B ++ [(ρ 14).b]) = .row (B.length + 1) ∧ mBo (B ++ [(ρ 14).b]) = mkF (B ++ [(ρ 14).b]) := by
    cases B with
    | nil => exact ⟨rfl, rfl⟩
    | cons b B => exact ⟨by show Mk.row _ = _; simp, rfl⟩
  have hcV : vBo (V ++ [a]) = rowK (V ++ [a]) := by
    cases V with
    | nil => rfl
    | cons b B => rfl
  have hM2 : Mrk ((R ++ R1) ++ [((ρ 14).b, o)]) (B ++ [(ρ 14).b]) (V ++ [a]) (MS ++ [M.seen]) (MA ++ [C]) (0 + (k + 1)) := by
    have hm2 := hm.mono hsub (show 0 + k ≤ 0 + (k + 1) by omega)
    have hsn : ∀ {α : Type} (L : List α) (x y : α) (j : Nat), (L ++ [x])[j]? = some y → (j < L.length ∧ L[j]? = some y) ∨ (j = L.length ∧ y = x) := fun L x y j h => by
      by_cases hj : j < L.length
      · rw [List.getElem?_append_left hj] at h; exact .inl ⟨hj, h⟩
      · rw [List.getElem?_append_right (by omega)] at h
        by_cases e : j - L.length = 0
        · rw [e] at h; simp at h; exact .inr ⟨by omega, h.symm⟩
        · rw [List.getElem?_eq_none (by simp; omega)] at h; cases h
    refine ⟨by simp [hlv], by simp [hls], by simp [hla], by simp; omega, fun j b S h1 h2 => ?_, fun j v A' h1 h2 => ?_, fun j S A' h1 h2 => ?_, fun A' hA' => ?_⟩
    · rcases hsn _ _ _ _ h1 with ⟨g1, g2⟩ | ⟨g1, g2⟩
      · rcases hsn _ _ _ _ h2 with ⟨g3, g4⟩ | ⟨g3, g4⟩
        · exact hm2.map j b S g2 g4
        · omega
      · rcases hsn _ _ _ _ h2 with ⟨g3, g4⟩ | ⟨g3, g4⟩
        · omega
        · subst g2; subst g4
          exact ⟨o, List.mem_append_right _ (List.mem_singleton.2 rfl), o2⟩
    · rcases hsn _ _ _ _ h1 with ⟨g1, g2⟩ | ⟨g1, g2⟩
      · rcases hsn _ _ _ _ h2 with ⟨g3, g4⟩ | ⟨g3, g4⟩
        · exact hm2.raw j v A' g2 g4
        · omega
      · rcases hsn _ _ _ _ h2 with ⟨g3, g4⟩ | ⟨g3, g4⟩
        · omega
        · subst g2; subst g4
          exact a1.mono fun x hx => List.mem_append_left _ hx
    · rcases hsn _ _ _ _ h1 with ⟨g1, g2⟩ | ⟨g1, g2⟩
      · rcases hsn _ _ _ _ h2 with ⟨g3, g4⟩ | ⟨g3, g4⟩
        · exact hm2.eq j S A' g2 g4
        · omega
      · rcases hsn _ _ _ _ h2 with ⟨g3, g4⟩ | ⟨g3, g4⟩
        · omega
        · subst g2; subst g4
          have := h.rel.seen
          rw [hAA] at this; exact this
    · rcases List.mem_append.1 hA' with hA' | hA'
      · exact hm2.len A' hA'
      · rw [List.mem_singleton.1 hA', ← hAA, List.length_append]
        have := h.rel.len; omega
  refine ⟨⟨⟨M, lg, D, d, l, B ++ [(ρ 14).b], V ++ [a], MS ++ [M.seen], MA ++ [C], (R ++ R1) ++ [((ρ 14).b, o)], k + 1⟩, ⟨⟨h.ok, h.rel.mono (by show _ ≤ 0 + (k + 1); omega), h.rd.mono hsub, h.rl.mono hsub, by show 0 + (k + 1) < 1000; omega⟩, hM2, hk, hM, fun y hy => hsub y (hR y hy), hex⟩⟩, rfl, by show 4 ≤ 14; decide, ?_, ht⟩
  show ∀ i b2, hpL (cH1 A M lg (mkO (B ++ [(ρ 14).b])) (.raw d.v) (.raw l.v) ((R ++ R1) ++ [((ρ 14).b, o)]) (mBo (B ++ [(ρ 14).b])) (vBo (V ++ [a]))) i = some b2 → ∃ b, _ ∧ FrzB Γ ρ w (reb w 4 Γ.r0 ρ (hpL (cH1 A M lg (mkO (B ++ [(ρ 14).b])) (.raw d.v) (.raw l.v) ((R ++ R1) ++ [((ρ 14).b, o)]) (mBo (B ++ [(ρ 14).b])) (vBo (V ++ [a]))))) i b b2
  rw [hcB.1, hcB.2, hcV]
  have hw : ∀ (i : Nat) (c : ABlk), hpL ([arB A.a A.al, famO A.a A.R0, arB A.b A.bl, famO A.b A.R1, some (memG M lg (.row (B.length + 1)) 5 6 7 8), imB M.seen, imB M.dur, logB M lg, mkF (B ++ [(ρ 14).b]), refS M.n (.raw d.v) (.raw l.v) (.sl 10 0 1 (B.length + 1) none) M.fails M.hurt, rowK (V ++ [a]), some (famB ((R ++ R1) ++ [((ρ 14).b, o)])), some (famB ((R ++ R1) ++ [((ρ 14).b, o)])), some (famB ((R ++ R1) ++ [((ρ 14).b, o)]))]) i = some c → c.w = true → i < 14 ∧ ∃ b, hpL ([arB A.a A.al, famO A.a A.R0, arB A.b A.bl, famO A.b A.R1, some (memG M lg (.row (B.length + 1)) 5 6 7 8), imB M.seen, imB M.dur, logB M lg, mB1c B, refS M.n (.raw d.v) (.raw l.v) (.sl 10 0 1 (B.length + 1) none) M.fails M.hurt, vB1c V C, some (famB (R)), some (famB (R)), some (famB (R)), imB M.seen, jB C]) i = some b ∧ b.w = true := fun i c ha haw => by
    refine ⟨hpL_lt ha, ?_⟩
    match i, ha with
    | 0, ha => obtain ⟨_, _, _, _, rfl⟩ := arB_ro ha; cases haw
    | 1, ha => have e := famO_fam ha; subst e; cases haw
    | 2, ha => obtain ⟨_, _, _, _, rfl⟩ := arB_ro ha; cases haw
    | 3, ha => have e := famO_fam ha; subst e; cases haw
    | 4, ha => exact ⟨_, rfl, rfl⟩
    | 5, ha => exact ⟨_, rfl, rfl⟩
    | 6, ha => exact ⟨_, rfl, rfl⟩
    | 7, ha => exact ⟨c, ha, haw⟩
    | 8, ha => exact ⟨_, rfl, rfl⟩
    | 9, ha => exact ⟨_, rfl, rfl⟩
    | 10, ha => exact ⟨_, rfl, rfl⟩
    | 11, ha => cases ha; cases haw
    | 12, ha => cases ha; cases haw
    | 13, ha => cases ha; cases haw
    | i + 14, ha => cases ha
  have hF : ∀ n' r0, Fams (reb w n' r0 ρ (hpL ([arB A.a A.al, famO A.a A.R0, arB A.b A.bl, famO A.b A.R1, some (memG M lg (.row (B.length + 1)) 5 6 7 8), imB M.seen, imB M.dur, logB M lg, mkF (B ++ [(ρ 14).b]), refS M.n (.raw d.v) (.raw l.v) (.sl 10 0 1 (B.length + 1) none) M.fails M.hurt, rowK (V ++ [a]), some (famB ((R ++ R1) ++ [((ρ 14).b, o)])), some (famB ((R ++ R1) ++ [((ρ 14).b, o)])), some (famB ((R ++ R1) ++ [((ρ 14).b, o)]))]))) ((R ++ R1) ++ [((ρ 14).b, o)]) := fun n' r0 x hx => by
    rcases List.mem_append.1 hx with hx | hx
    · rcases List.mem_append.1 hx with hx | hx
      · exact fams_reb hs (fam_R (hs.blk 11 _ rfl)) (fun i a ha haw => (hw i a ha haw).2) x hx
      · exact a3 n' r0 _ (fun i a ha haw => ⟨by have := (hw i a ha haw).1; omega, (hw i a ha haw).2⟩) x hx
    · obtain ⟨o', p1, p2⟩ := fam_new (n := n') (r0 := r0) (hx := hpL ([arB A.a A.al, famO A.a A.R0, arB A.b A.bl, famO A.b A.R1, some (memG M lg (.row (B.length + 1)) 5 6 7 8), imB M.seen, imB M.dur, logB M lg, mkF (B ++ [(ρ 14).b]), refS M.n (.raw d.v) (.raw l.v) (.sl 10 0 1 (B.length + 1) none) M.fails M.hurt, rowK (V ++ [a]), some (famB ((R ++ R1) ++ [((ρ 14).b, o)])), some (famB ((R ++ R1) ++ [((ρ 14).b, o)])), some (famB ((R ++ R1) ++ [((ρ 14).b, o)]))])) hs (j := 14) rfl (fun i a ha haw => ⟨by have := (hw i a ha haw).1; omega, (hw i a ha haw).2⟩)
      rw [o1] at p1
      cases p1
      exact p2 x hx
  intro i b2 hb
  match i, hb with
  | 0, hb => obtain ⟨_, _, _, _, e⟩ := arB_ro hb; exact ⟨_, hb, .inl ⟨rfl, .inr ⟨_, _, _, _, e⟩⟩⟩
  | 1, hb => have e := famO_fam hb; subst e; exact ⟨_, hb, .inr (.inl ⟨_, _, rfl, rfl, fun x hx => hx, fams_reb hs (fam_R (hs.blk 1 _ hb)) (fun i a ha haw => (hw i a ha haw).2)⟩)⟩
  | 2, hb => obtain ⟨_, _, _, _, e⟩ := arB_ro hb; exact ⟨_, hb, .inl ⟨rfl, .inr ⟨_, _, _, _, e⟩⟩⟩
  | 3, hb => have e := famO_fam hb; subst e; exact ⟨_, hb, .inr (.inl ⟨_, _, rfl, rfl, fun x hx => hx, fams_reb hs (fam_R (hs.blk 3 _ hb)) (fun i a ha haw => (hw i a ha haw).2)⟩)⟩
  | 4, hb => cases hb; exact ⟨_, rfl, .inl ⟨rfl, .inl rfl⟩⟩
  | 5, hb => cases hb; exact ⟨_, rfl, .inl ⟨rfl, .inl rfl⟩⟩
  | 6, hb => cases hb; exact ⟨_, rfl, .inl ⟨rfl, .inl rfl⟩⟩
  | 7, hb => exact ⟨_, hb, .inl ⟨rfl, .inl (log_w hb)⟩⟩
  | 8, hb =>
    cases hb
    refine ⟨_, rfl, .inr (.inr ⟨rfl, rfl, (hs.blk 8 _ rfl).alike ?_ (by simp) (fun e he => ?_) (fun e he x hx => ?_)⟩)⟩
    · rw [List.map_append, rowDen_append, rowDen_append]; rfl
    · obtain ⟨v, hv', rfl⟩ := List.mem_map.1 he
      exact ⟨rfl, rfl⟩
    · obtain ⟨v, _, rfl⟩ := List.mem_map.1 he
      cases hx
  | 9, hb => cases hb; exact ⟨_, rfl, .inl ⟨rfl, .inl rfl⟩⟩
  | 10, hb =>
    cases hb
    refine ⟨_, rfl, .inr (.inr ⟨rfl, rfl, (hs.blk 10 _ rfl).alike ?_ (by simp) (fun e he => ?_) (fun e he x hx => ?_)⟩)⟩
    · rw [List.map_append, rowDen_append, rowDen_append]
      congr 1
      show [(AV.sc (.raw a.v)).den ρ] = [(AV.sc (ml1 C)).den ρ]
      rw [a2]
    · obtain ⟨v, hv', rfl⟩ := List.mem_map.1 he
      exact ⟨rfl, rfl⟩
    · obtain ⟨v, _, rfl⟩ := List.mem_map.1 he
      cases hx
  | 11, hb => cases hb; exact ⟨_, rfl, .inr (.inl ⟨_, _, rfl, rfl, hsub, hF _ _⟩)⟩
  | 12, hb => cases hb; exact ⟨_, rfl, .inr (.inl ⟨_, _, rfl, rfl, hsub, hF _ _⟩)⟩
  | 13, hb => cases hb; exact ⟨_, rfl, .inr (.inl ⟨_, _, rfl, rfl, hsub, hF _ _⟩)⟩
  | i + 14, hb => cases hb

abbrev cT2 (A : CArg) (k : Nat) : LTm := [.junk, .sc (A.b.sv A.bl.length 2), .junk, .junk, .junk, .sc (.ptr 4 0 7 0), .junk, .sc (.ptr 9 0 6 0), .junk, .sc (.ptr 14 0 7 0), .sc (.ptr 19 0 6 0), iv (k : Nat), .junk, .junk, .junk, .junk, .junk, .junk, .junk, .junk, .junk, .junk, .junk, .junk, .junk, .junk, .junk, .junk, .junk, .junk, .junk, .junk, .junk, .junk, .junk, .junk, .junk, .junk, .junk, .junk, .junk, .junk, .junk, .junk, .junk, .junk, .junk, .junk, .junk, .junk, .junk, .junk, .junk, .junk, .junk, .junk, .junk, .junk, .junk, .junk, .junk, .junk, .junk, .junk, .junk, .junk, .junk, .junk, .junk, .junk, .junk, .junk, .junk, .junk, .junk, .junk, .junk, .junk, .junk, .junk, .junk]
abbrev cH2 (A : CArg) (F : CFix) (M : Mem) (lg : Lg) (mk : Mk) (dS lS : SV) (R : List (Nat × Obj)) (X Y : Option ABlk) : LHp :=
  [arB A.a A.al, famO A.a A.R0, arB A.b A.bl, famO A.b A.R1, some (memR F.M F.lv F.mv 5 6), imB F.M.seen, imB F.M.dur, none, none, rRef F.M.n F.d F.l F.rv F.M.fails F.M.hurt, none, some (famB R), some (famB R), some (famB R), some (memG M lg mk 15 16 17 18), imB M.seen, imB M.dur, logB M lg, X, refS M.n dS lS (mk.sv 20) M.fails M.hurt, Y]
def cI2 (A : CArg) (D0 : Img) (Rb : List (Nat × Obj)) (x : {x : XS × CFix // InvC False A.bl 40 Rb x.1 ∧ FxOk x.2 D0 Rb}) : LTm × LHp :=
  (cT2 A x.1.1.k, cH2 A x.1.2 x.1.1.M x.1.1.lg (mkO x.1.1.B) (.raw x.1.1.d.v) (.raw x.1.1.l.v) x.1.1.R (mBo x.1.1.B) (vBo x.1.1.V))
/-- Behind an act that was no mark. -/
theorem c2_A (A : CArg) (F : CFix) (D0 : Img) (Rb : List (Nat × Obj)) {M : Mem} {lg0 lg : Lg} {D : Img} {dh lh : Option Sl} {R : List (Nat × Obj)} {B : List Nat} {V : List Sl} {MS MA : List Img} {k : Nat} (hA : StA lg0 M lg D dh lh R (40 + k + 1) 6) (hm : Mrk R B V MS MA (40 + k)) (hR : ∀ y ∈ (Rb : List (Nat × Obj)), y ∈ R) (hk : k < A.bl.length) (hal : A.bl.length ≤ 40) (hF : FxOk F D0 Rb) (hex : False → lg ≠ .ex) :
    SeenF 4 (cI2 A D0 Rb) (fun x' => x'.1.1.k = k + 1) (cT2 A (k + 1)) (cH2 A F M lg (mkO B) (hS D dh 21) (hS M.log lh 22) R (mBo B) (vBo V) ++ [hB D dh, hB M.log lh]) := by
  refine SeenF.mk fun Γ ρ w tm hn hs ht => ?_
  obtain ⟨d, R1, d1, d2, d3⟩ := frz_list (R := R) hs D dh 21 rfl hA.hd
  obtain ⟨l, R2, l1, l2, l3⟩ := frz_list (R := R) hs M.log lh 22 rfl hA.hl
  have l1 : RawAt ((R ++ R1) ++ R2) M.log l.v := l1.mono fun x hx => by
    rcases List.mem_append.1 hx with hx | hx
    · exact List.mem_append_left _ (List.mem_append_left _ hx)
    · exact List.mem_append_right _ hx
  have hsub : ∀ x ∈ R, x ∈ (R ++ R1) ++ R2 := fun x hx => List.mem_append_left _ (List.mem_append_left _ hx)
  refine ⟨⟨(⟨M, lg, D, d, l, B, V, MS, MA, (R ++ R1) ++ R2, k + 1⟩, F), ⟨⟨⟨hA.ok, hA.rel, d1.mono fun x hx => List.mem_append_left _ hx, l1, by show 40 + (k + 1) < 1000; omega⟩, hm.mono hsub (by show _ ≤ 40 + (k + 1); omega), hk, hA.n, fun y hy => hsub y (hR y hy), hex⟩, hF⟩⟩, rfl, by show 4 ≤ 21; decide, ?_, ht⟩
  have hw : ∀ (i : Nat) (a : ABlk), hpL (cH2 A F M lg (mkO B) (.raw d.v) (.raw l.v) ((R ++ R1) ++ R2) (mBo B) (vBo V)) i = some a → a.w = true → i < 21 ∧ ∃ b, hpL (cH2 A F M lg (mkO B) (hS D dh 21) (hS M.log lh 22) R (mBo B) (vBo V) ++ [hB D dh, hB M.log lh]) i = some b ∧ b.w = true := fun i a ha haw => by
    refine ⟨hpL_lt ha, ?_⟩
    match i, ha with
    | 0, ha => obtain ⟨_, _, _, _, rfl⟩ := arB_ro ha; cases haw
    | 1, ha => have e := famO_fam ha; subst e; cases haw
    | 2, ha => obtain ⟨_, _, _, _, rfl⟩ := arB_ro ha; cases haw
    | 3, ha => have e := famO_fam ha; subst e; cases haw
    | 4, ha => exact ⟨_, rfl, rfl⟩
    | 5, ha => exact ⟨_, rfl, rfl⟩
    | 6, ha => exact ⟨_, rfl, rfl⟩
    | 7, ha => cases ha
    | 8, ha => cases ha
    | 9, ha => exact ⟨_, rfl, rfl⟩
    | 10, ha => cases ha
    | 11, ha => cases ha; cases haw
    | 12, ha => cases ha; cases haw
    | 13, ha => cases ha; cases haw
    | 14, ha => exact ⟨_, rfl, rfl⟩
    | 15, ha => exact ⟨_, rfl, rfl⟩
    | 16, ha => exact ⟨_, rfl, rfl⟩
    | 17, ha => exact ⟨a, ha, haw⟩
    | 18, ha => exact ⟨a, ha, haw⟩
    | 19, ha => exact ⟨_, rfl, rfl⟩
    | 20, ha => exact ⟨a, ha, haw⟩
    | i + 21, ha => cases ha
  have hF : ∀ n' r0, Fams (reb w n' r0 ρ (hpL (cH2 A F M lg (mkO B) (.raw d.v) (.raw l.v) ((R ++ R1) ++ R2) (mBo B) (vBo V)))) ((R ++ R1) ++ R2) := fun n' r0 x hx => by
    rcases List.mem_append.1 hx with hx | hx
    · rcases List.mem_append.1 hx with hx | hx
      · exact fams_reb hs (fam_R (hs.blk 11 _ rfl)) (fun i a ha haw => (hw i a ha haw).2) x hx
      · exact d3 n' r0 _ (fun i a ha haw => ⟨by have := (hw i a ha haw).1; omega, (hw i a ha haw).2⟩) x hx
    · exact l3 n' r0 _ (fun i a ha haw => ⟨by have := (hw i a ha haw).1; omega, (hw i a ha haw).2⟩) x hx
  intro i b2 hb
  match i, hb with
  | 0, hb => obtain ⟨_, _, _, _, e⟩ := arB_ro hb; exact ⟨_, hb, .inl ⟨rfl, .inr ⟨_, _, _, _, e⟩⟩⟩
  | 1, hb => have e := famO_fam hb; subst e; exact ⟨_, hb, .inr (.inl ⟨_, _, rfl, rfl, fun x hx => hx, fams_reb hs (fam_R (hs.blk 1 _ hb)) (fun i a ha haw => (hw i a ha haw).2)⟩)⟩
  | 2, hb => obtain ⟨_, _, _, _, e⟩ := arB_ro hb; exact ⟨_, hb, .inl ⟨rfl, .inr ⟨_, _, _, _, e⟩⟩⟩
  | 3, hb => have e := famO_fam hb; subst e; exact ⟨_, hb, .inr (.inl ⟨_, _, rfl, rfl, fun x hx => hx, fams_reb hs (fam_R (hs.blk 3 _ hb)) (fun i a ha haw => (hw i a ha haw).2)⟩)⟩
  | 4, hb => cases hb; exact ⟨_, rfl, .inl ⟨rfl, .inl rfl⟩⟩
  | 5, hb => cases hb; exact ⟨_, rfl, .inl ⟨rfl, .inl rfl⟩⟩
  | 6, hb => cases hb; exact ⟨_, rfl, .inl ⟨rfl, .inl rfl⟩⟩
  | 7, hb => cases hb
  | 8, hb => cases hb
  | 9, hb => cases hb; exact ⟨_, rfl, .inl ⟨rfl, .inl rfl⟩⟩
  | 10, hb => cases hb
  | 11, hb => cases hb; exact ⟨_, rfl, .inr (.inl ⟨_, _, rfl, rfl, hsub, hF _ _⟩)⟩
  | 12, hb => cases hb; exact ⟨_, rfl, .inr (.inl ⟨_, _, rfl, rfl, hsub, hF _ _⟩)⟩
  | 13, hb => cases hb; exact ⟨_, rfl, .inr (.inl ⟨_, _, rfl, rfl, hsub, hF _ _⟩)⟩
  | 14, hb => cases hb; exact ⟨_, rfl, .inl ⟨rfl, .inl rfl⟩⟩
  | 15, hb => cases hb; exact ⟨_, rfl, .inl ⟨rfl, .inl rfl⟩⟩
  | 16, hb => cases hb; exact ⟨_, rfl, .inl ⟨rfl, .inl rfl⟩⟩
  | 17, hb => exact ⟨_, hb, .inl ⟨rfl, .inl (log_w hb)⟩⟩
  | 18, hb => exact ⟨_, hb, .inl ⟨rfl, .inl (mBo_w hb)⟩⟩
  | 19, hb => cases hb; exact ⟨_, rfl, .inr (.inr ⟨rfl, rfl, ref_alike (hs.blk 19 _ rfl) d2 l2 rfl rfl (mkO_one B 20)⟩)⟩
  | 20, hb => exact ⟨_, hb, .inl ⟨rfl, .inl (vBo_w hb)⟩⟩
  | i + 21, hb => cases hb

def ml2 (A : Img) : SV := match A with
  | [] => nilS
  | A => .sl 22 0 65 A.length none
abbrev mB2c (B : List Nat) : Option ABlk := some (.row .inx 73 1 (B.map mapE ++ [[.one (.mp 21)]]) [21])
abbrev vB2c (V : List Sl) (A : Img) : Option ABlk := some (.row .inx 130 1 (V.map rawK ++ [[.one (ml2 A)]]) (SV.ids (ml2 A)))
/-- Behind a mark. -/
theorem c2_B (A : CArg) (F : CFix) (D0 : Img) (Rb : List (Nat × Obj)) {M : Mem} {lg : Lg} {D : Img} {d l : Sl} {R : List (Nat × Obj)} {B : List Nat} {V : List Sl} {MS MA : List Img} {k : Nat} (h : St M lg D d l R (40 + k)) (hM : M.n = 6) (hm : Mrk R B V MS MA (40 + k)) (h64 : B.length < 64) (hR : ∀ y ∈ (Rb : List (Nat × Obj)), y ∈ R) (hk : k < A.bl.length) (hal : A.bl.length ≤ 40) (hF : FxOk F D0 Rb) (hex : False → lg ≠ .ex) :
    SeenF 4 (cI2 A D0 Rb) (fun x' => x'.1.1.k = k + 1) (cT2 A (k + 1)) ([arB A.a A.al, famO A.a A.R0, arB A.b A.bl, famO A.b A.R1, some (memR F.M F.lv F.mv 5 6), imB F.M.seen, imB F.M.dur, none, none, rRef F.M.n F.d F.l F.rv F.M.fails F.M.hurt, none, some (famB (R)), some (famB (R)), some (famB (R)), some (memG M lg (.row (B.length + 1)) 15 16 17 18), imB M.seen, imB M.dur, logB M lg, mB2c B, refS M.n (.raw d.v) (.raw l.v) (.sl 20 0 1 (B.length + 1) none) M.fails M.hurt, vB2c V (D ++ M.log), imB M.seen, jB (D ++ M.log)]) := by
  refine SeenF.mk fun Γ ρ w tm hn hs ht => ?_
  have hlv := hm.lv
  have hls := hm.ls
  have hla := hm.la
  generalize hAA : D ++ M.log = C at *
  obtain ⟨a, R1, a1, a2, a3⟩ : ∃ (s : Sl) (R1 : List (Nat × Obj)), RawAt (R ++ R1) C s.v ∧ (AV.sc (.raw s.v)).den ρ = (AV.sc (ml2 C)).den ρ ∧
      ∀ n' r0 (hy : AHeap), (∀ i a, hy i = some a → a.w = true → i ≠ 22 ∧ ∃ b, hpL ([arB A.a A.al, famO A.a A.R0, arB A.b A.bl, famO A.b A.R1, some (memR F.M F.lv F.mv 5 6), imB F.M.seen, imB F.M.dur, none, none, rRef F.M.n F.d F.l F.rv F.M.fails F.M.hurt, none, some (famB (R)), some (famB (R)), some (famB (R)), some (memG M lg (.row (B.length + 1)) 15 16 17 18), imB M.seen, imB M.dur, logB M lg, mB2c B, refS M.n (.raw d.v) (.raw l.v) (.sl 20 0 1 (B.length + 1) none) M.fails M.hurt, vB2c V C, imB M.seen, jB C]) i = some b ∧ b.w = true) → Fams (reb w n' r0 ρ hy) R1 := by
    cases C with
    | nil => exact ⟨nilSl, [], .inl ⟨rfl, rfl⟩, rfl, fun _ _ _ _ x hx => by cases hx⟩
    | cons p C => exact frz_list hs (p :: C) none 22 rfl (Nat.succ_pos _)
  obtain ⟨o, o1, o2⟩ := map_obj (hs.blk 21 _ rfl) (enc_noids M.seen)
  have hsub : ∀ x ∈ R, x ∈ (R ++ R1) ++ [((ρ 21).b, o)] := fun x hx => List.mem_append_left _ (List.mem_append_left _ hx)
  have hcB : mkO (B ++ [(ρ 21).b]) = .row (B.length + 1) ∧ mBo (B ++ [(ρ 21).b]) = mkF (B ++ [(ρ 21).b]) := by
    cases B with
    | nil => exact ⟨rfl, rfl⟩
    | cons b B => exact ⟨by show Mk.row _ = _; simp, rfl⟩
  have hcV : vBo (V ++ [a]) = rowK (V ++ [a]) := by
    cases V with
    | nil => rfl
    | cons b B => rfl
  have hM2 : Mrk ((R ++ R1) ++ [((ρ 21).b, o)]) (B ++ [(ρ 21).b]) (V ++ [a]) (MS ++ [M.seen]) (MA ++ [C]) (40 + (k + 1)) := by
    have hm2 := hm.mono hsub (show 40 + k ≤ 40 + (k + 1) by omega)
    have hsn : ∀ {α : Type} (L : List α) (x y : α) (j : Nat), (L ++ [x])[j]? = some y → (j < L.length ∧ L[j]? = some y) ∨ (j = L.length ∧ y = x) := fun L x y j h => by
      by_cases hj : j < L.length
      · rw [List.getElem?_append_left hj] at h; exact .inl ⟨hj, h⟩
      · rw [List.getElem?_append_right (by omega)] at h
        by_cases e : j - L.length = 0
        · rw [e] at h; simp at h; exact .inr ⟨by omega, h.symm⟩
        · rw [List.getElem?_eq_none (by simp; omega)] at h; cases h
    refine ⟨by simp [hlv], by simp [hls], by simp [hla], by simp; omega, fun j b S h1 h2 => ?_, fun j v A' h1 h2 => ?_, fun j S A' h1 h2 => ?_, fun A' hA' => ?_⟩
    · rcases hsn _ _ _ _ h1 with ⟨g1, g2⟩ | ⟨g1, g2⟩
      · rcases hsn _ _ _ _ h2 with ⟨g3, g4⟩ | ⟨g3, g4⟩
        · exact hm2.map j b S g2 g4
        · omega
      · rcases hsn _ _ _ _ h2 with ⟨g3, g4⟩ | ⟨g3, g4⟩
        · omega
        · subst g2; subst g4
          exact ⟨o, List.mem_append_right _ (List.mem_singleton.2 rfl), o2⟩
    · rcases hsn _ _ _ _ h1 with ⟨g1, g2⟩ | ⟨g1, g2⟩
      · rcases hsn _ _ _ _ h2 with ⟨g3, g4⟩ | ⟨g3, g4⟩
        · exact hm2.raw j v A' g2 g4
        · omega
      · rcases hsn _ _ _ _ h2 with ⟨g3, g4⟩ | ⟨g3, g4⟩
        · omega
        · subst g2; subst g4
          exact a1.mono fun x hx => List.mem_append_left _ hx
    · rcases hsn _ _ _ _ h1 with ⟨g1, g2⟩ | ⟨g1, g2⟩
      · rcases hsn _ _ _ _ h2 with ⟨g3, g4⟩ | ⟨g3, g4⟩
        · exact hm2.eq j S A' g2 g4
        · omega
      · rcases hsn _ _ _ _ h2 with ⟨g3, g4⟩ | ⟨g3, g4⟩
        · omega
        · subst g2; subst g4
          have := h.rel.seen
          rw [hAA] at this; exact this
    · rcases List.mem_append.1 hA' with hA' | hA'
      · exact hm2.len A' hA'
      · rw [List.mem_singleton.1 hA', ← hAA, List.length_append]
        have := h.rel.len; omega
  refine ⟨⟨(⟨M, lg, D, d, l, B ++ [(ρ 21).b], V ++ [a], MS ++ [M.seen], MA ++ [C], (R ++ R1) ++ [((ρ 21).b, o)], k + 1⟩, F), ⟨⟨⟨h.ok, h.rel.mono (by show _ ≤ 40 + (k + 1); omega), h.rd.mono hsub, h.rl.mono hsub, by show 40 + (k + 1) < 1000; omega⟩, hM2, hk, hM, fun y hy => hsub y (hR y hy), hex⟩, hF⟩⟩, rfl, by show 4 ≤ 21; decide, ?_, ht⟩
  show ∀ i b2, hpL (cH2 A F M lg (mkO (B ++ [(ρ 21).b])) (.raw d.v) (.raw l.v) ((R ++ R1) ++ [((ρ 21).b, o)]) (mBo (B ++ [(ρ 21).b])) (vBo (V ++ [a]))) i = some b2 → ∃ b, _ ∧ FrzB Γ ρ w (reb w 4 Γ.r0 ρ (hpL (cH2 A F M lg (mkO (B ++ [(ρ 21).b])) (.raw d.v) (.raw l.v) ((R ++ R1) ++ [((ρ 21).b, o)]) (mBo (B ++ [(ρ 21).b])) (vBo (V ++ [a]))))) i b b2
  rw [hcB.1, hcB.2, hcV]
  have hw : ∀ (i : Nat) (c : ABlk), hpL ([arB A.a A.al, famO A.a A.R0, arB A.b A.bl, famO A.b A.R1, some (memR F.M F.lv F.mv 5 6), imB F.M.seen, imB F.M.dur, none, none, rRef F.M.n F.d F.l F.rv F.M.fails F.M.hurt, none, some (famB ((R ++ R1) ++ [((ρ 21).b, o)])), some (famB ((R ++ R1) ++ [((ρ 21).b, o)])), some (famB ((R ++ R1) ++ [((ρ 21).b, o)])), some (memG M lg (.row (B.length + 1)) 15 16 17 18), imB M.seen, imB M.dur, logB M lg, mkF (B ++ [(ρ 21).b]), refS M.n (.raw d.v) (.raw l.v) (.sl 20 0 1 (B.length + 1) none) M.fails M.hurt, rowK (V ++ [a])]) i = some c → c.w = true → i < 21 ∧ ∃ b, hpL ([arB A.a A.al, famO A.a A.R0, arB A.b A.bl, famO A.b A.R1, some (memR F.M F.lv F.mv 5 6), imB F.M.seen, imB F.M.dur, none, none, rRef F.M.n F.d F.l F.rv F.M.fails F.M.hurt, none, some (famB (R)), some (famB (R)), some (famB (R)), some (memG M lg (.row (B.length + 1)) 15 16 17 18), imB M.seen, imB M.dur, logB M lg, mB2c B, refS M.n (.raw d.v) (.raw l.v) (.sl 20 0 1 (B.length + 1) none) M.fails M.hurt, vB2c V C, imB M.seen, jB C]) i = some b ∧ b.w = true := fun i c ha haw => by
    refine ⟨hpL_lt ha, ?_⟩
    match i, ha with
    | 0, ha => obtain ⟨_, _, _, _, rfl⟩ := arB_ro ha; cases haw
    | 1, ha => have e := famO_fam ha; subst e; cases haw
    | 2, ha => obtain ⟨_, _, _, _, rfl⟩ := arB_ro ha; cases haw
    | 3, ha => have e := famO_fam ha; subst e; cases haw
    | 4, ha => exact ⟨_, rfl, rfl⟩
    | 5, ha => exact ⟨_, rfl, rfl⟩
    | 6, ha => exact ⟨_, rfl, rfl⟩
    | 7, ha => cases ha
    | 8, ha => cases ha
    | 9, ha => exact ⟨_, rfl, rfl⟩
    | 10, ha => cases ha
    | 11, ha => cases ha; cases haw
    | 12, ha => cases ha; cases haw
    | 13, ha => cases ha; cases haw
    | 14, ha => exact ⟨_, rfl, rfl⟩
    | 15, ha => exact ⟨_, rfl, rfl⟩
    | 16, ha => exact ⟨_, rfl, rfl⟩
    | 17, ha => exact ⟨c, ha, haw⟩
    | 18, ha => exact ⟨_, rfl, rfl⟩
    | 19, ha => exact ⟨_, rfl, rfl⟩
    | 20, ha => exact ⟨_, rfl, rfl⟩
    | i + 21, ha => cases ha
  have hF : ∀ n' r0, Fams (reb w n' r0 ρ (hpL ([arB A.a A.al, famO A.a A.R0, arB A.b A.bl, famO A.b A.R1, some (memR F.M F.lv F.mv 5 6), imB F.M.seen, imB F.M.dur, none, none, rRef F.M.n F.d F.l F.rv F.M.fails F.M.hurt, none, some (famB ((R ++ R1) ++ [((ρ 21).b, o)])), some (famB ((R ++ R1) ++ [((ρ 21).b, o)])), some (famB ((R ++ R1) ++ [((ρ 21).b, o)])), some (memG M lg (.row (B.length + 1)) 15 16 17 18), imB M.seen, imB M.dur, logB M lg, mkF (B ++ [(ρ 21).b]), refS M.n (.raw d.v) (.raw l.v) (.sl 20 0 1 (B.length + 1) none) M.fails M.hurt, rowK (V ++ [a])]))) ((R ++ R1) ++ [((ρ 21).b, o)]) := fun n' r0 x hx => by
    rcases List.mem_append.1 hx with hx | hx
    · rcases List.mem_append.1 hx with hx | hx
      · exact fams_reb hs (fam_R (hs.blk 11 _ rfl)) (fun i a ha haw => (hw i a ha haw).2) x hx
      · exact a3 n' r0 _ (fun i a ha haw => ⟨by have := (hw i a ha haw).1; omega, (hw i a ha haw).2⟩) x hx
    · obtain ⟨o', p1, p2⟩ := fam_new (n := n') (r0 := r0) (hx := hpL ([arB A.a A.al, famO A.a A.R0, arB A.b A.bl, famO A.b A.R1, some (memR F.M F.lv F.mv 5 6), imB F.M.seen, imB F.M.dur, none, none, rRef F.M.n F.d F.l F.rv F.M.fails F.M.hurt, none, some (famB ((R ++ R1) ++ [((ρ 21).b, o)])), some (famB ((R ++ R1) ++ [((ρ 21).b, o)])), some (famB ((R ++ R1) ++ [((ρ 21).b, o)])), some (memG M lg (.row (B.length + 1)) 15 16 17 18), imB M.seen, imB M.dur, logB M lg, mkF (B ++ [(ρ 21).b]), refS M.n (.raw d.v) (.raw l.v) (.sl 20 0 1 (B.length + 1) none) M.fails M.hurt, rowK (V ++ [a])])) hs (j := 21) rfl (fun i a ha haw => ⟨by have := (hw i a ha haw).1; omega, (hw i a ha haw).2⟩)
      rw [o1] at p1
      cases p1
      exact p2 x hx
  intro i b2 hb
  match i, hb with
  | 0, hb => obtain ⟨_, _, _, _, e⟩ := arB_ro hb; exact ⟨_, hb, .inl ⟨rfl, .inr ⟨_, _, _, _, e⟩⟩⟩
  | 1, hb => have e := famO_fam hb; subst e; exact ⟨_, hb, .inr (.inl ⟨_, _, rfl, rfl, fun x hx => hx, fams_reb hs (fam_R (hs.blk 1 _ hb)) (fun i a ha haw => (hw i a ha haw).2)⟩)⟩
  | 2, hb => obtain ⟨_, _, _, _, e⟩ := arB_ro hb; exact ⟨_, hb, .inl ⟨rfl, .inr ⟨_, _, _, _, e⟩⟩⟩
  | 3, hb => have e := famO_fam hb; subst e; exact ⟨_, hb, .inr (.inl ⟨_, _, rfl, rfl, fun x hx => hx, fams_reb hs (fam_R (hs.blk 3 _ hb)) (fun i a ha haw => (hw i a ha haw).2)⟩)⟩
  | 4, hb => cases hb; exact ⟨_, rfl, .inl ⟨rfl, .inl rfl⟩⟩
  | 5, hb => cases hb; exact ⟨_, rfl, .inl ⟨rfl, .inl rfl⟩⟩
  | 6, hb => cases hb; exact ⟨_, rfl, .inl ⟨rfl, .inl rfl⟩⟩
  | 7, hb => cases hb
  | 8, hb => cases hb
  | 9, hb => cases hb; exact ⟨_, rfl, .inl ⟨rfl, .inl rfl⟩⟩
  | 10, hb => cases hb
  | 11, hb => cases hb; exact ⟨_, rfl, .inr (.inl ⟨_, _, rfl, rfl, hsub, hF _ _⟩)⟩
  | 12, hb => cases hb; exact ⟨_, rfl, .inr (.inl ⟨_, _, rfl, rfl, hsub, hF _ _⟩)⟩
  | 13, hb => cases hb; exact ⟨_, rfl, .inr (.inl ⟨_, _, rfl, rfl, hsub, hF _ _⟩)⟩
  | 14, hb => cases hb; exact ⟨_, rfl, .inl ⟨rfl, .inl rfl⟩⟩
  | 15, hb => cases hb; exact ⟨_, rfl, .inl ⟨rfl, .inl rfl⟩⟩
  | 16, hb => cases hb; exact ⟨_, rfl, .inl ⟨rfl, .inl rfl⟩⟩
  | 17, hb => exact ⟨_, hb, .inl ⟨rfl, .inl (log_w hb)⟩⟩
  | 18, hb =>
    cases hb
    refine ⟨_, rfl, .inr (.inr ⟨rfl, rfl, (hs.blk 18 _ rfl).alike ?_ (by simp) (fun e he => ?_) (fun e he x hx => ?_)⟩)⟩
    · rw [List.map_append, rowDen_append, rowDen_append]; rfl
    · obtain ⟨v, hv', rfl⟩ := List.mem_map.1 he
      exact ⟨rfl, rfl⟩
    · obtain ⟨v, _, rfl⟩ := List.mem_map.1 he
      cases hx
  | 19, hb => cases hb; exact ⟨_, rfl, .inl ⟨rfl, .inl rfl⟩⟩
  | 20, hb =>
    cases hb
    refine ⟨_, rfl, .inr (.inr ⟨rfl, rfl, (hs.blk 20 _ rfl).alike ?_ (by simp) (fun e he => ?_) (fun e he x hx => ?_)⟩)⟩
    · rw [List.map_append, rowDen_append, rowDen_append]
      congr 1
      show [(AV.sc (.raw a.v)).den ρ] = [(AV.sc (ml2 C)).den ρ]
      rw [a2]
    · obtain ⟨v, hv', rfl⟩ := List.mem_map.1 he
      exact ⟨rfl, rfl⟩
    · obtain ⟨v, _, rfl⟩ := List.mem_map.1 he
      cases hx
  | i + 21, hb => cases hb

end Go.Proofs.Ytdmcbfmpnakdfaa.Eng.Rm
/- MemberCopies, from its end: both are looked at. -/
namespace Go.Proofs.Ytdmcbfmpnakdfaa.Eng.Rm
open Go Go.Proofs
set_option maxRecDepth 20000
set_option maxHeartbeats 16000000
theorem c9 : Callable Try.prog 9 := ⟨⟨_, Try.func9, by kernel_rfl, by kernel_rfl⟩⟩
abbrev A0 : CArg := ⟨.nil, [], [], .nil, [], []⟩
abbrev cT3 : LTm := [.junk, .junk, .junk, .junk, .junk, .sc (.ptr 4 0 7 0), .junk, .sc (.ptr 9 0 6 0), .junk, .sc (.ptr 14 0 7 0), .sc (.ptr 19 0 6 0), .junk, .junk, .junk, .junk, .junk, .junk, .junk, .junk, .junk, .junk, .junk, .junk, .junk, .junk, .junk, .junk, .junk, .junk, .junk, .junk, .junk, .junk, .junk, .junk, .junk, .junk, .junk, .junk, .junk, .junk, .junk, .junk, .junk, .junk, .junk, .junk, .junk, .junk, .junk, .junk, .junk, .junk, .junk, .junk, .junk, .junk, .junk, .junk, .junk, .junk, .junk, .junk, .junk, .junk, .junk, .junk, .junk, .junk, .junk, .junk, .junk, .junk, .junk, .junk, .junk, .junk, .junk, .junk, .junk, .junk]
def cI3 (F : CFix) (M : Mem) (lg : Lg) (mk : Mk) (d l : Sl) (R : List (Nat × Obj)) (k : Nat) : LTm × LHp :=
  ([.junk, .junk, .junk, .junk, .junk, .sc (.ptr 4 0 7 0), .junk, .sc (.ptr 9 0 6 0), .junk, .sc (.ptr 14 0 7 0), .sc (.ptr 19 0 6 0), .junk, iv (k : Nat), .junk, .junk, .junk, .junk, .junk, .junk, .junk, .junk, .junk, .junk, .junk, .junk, .junk, .junk, .junk, .junk, .junk, .junk, .junk, .junk, .junk, .junk, .junk, .junk, .junk, .junk, .junk, .junk, .junk, .junk, .junk, .junk, .junk, .junk, .junk, .junk, .junk, .junk, .junk, .junk, .junk, .junk, .junk, .junk, .junk, .junk, .junk, .junk, .junk, .junk, .junk, .junk, .junk, .junk, .junk, .junk, .junk, .junk, .junk, .junk, .junk, .junk, .junk, .junk, .junk, .junk, .junk, .junk], cH2 A0 F M lg mk (.raw d.v) (.raw l.v) R none none)
/-- What is known of a member and the document's that are looked at. -/
structure LkOk (M : Mem) (lg : Lg) (D : Img) (d l : Sl) (R : List (Nat × Obj)) : Prop where
  ok : lg.ok M.log
  rel : Rel M D 1000
  rd : RawAt R D d.v
  rl : RawAt R M.log l.v
theorem LkOk.looks {M : Mem} {lg : Lg} {D : Img} {d l : Sl} {R : List (Nat × Obj)} (h : LkOk M lg D d l R) (mk : Mk) (i : Int) :
    FunT Try.prog 42 [mpv, .sc (.ptr 5 0 6 0), iv i] (lkH M lg mk D (some d) (some l) R) (bv true) (lkH M lg mk D (some d) (some l) R) :=
  looks_ok M lg mk D (some d) (some l) R i h.ok h.rel.n h.rd h.rl (by have := h.rel.len; omega) (by have := h.rel.len; omega) (by rw [seen_app]; exact h.rel.seen.2 i) (h.rel.dur.2 i)
theorem FxOk.looks {F : CFix} {D : Img} {R : List (Nat × Obj)} (h : FxOk F D R) (i : Int) :
    FunT Try.prog 42 [mpv, .sc (.ptr 3 0 6 0), iv i] (lkR F.M F.lv F.mv F.d F.l F.rv R) (bv true) (lkR F.M F.lv F.mv F.d F.l F.rv R) :=
  looksR F.M F.lv F.mv F.d F.l F.rv R D i h.rel.n h.rd h.rl (by have := h.rel.len; omega) (by have := h.rel.len; omega) h.len (by rw [seen_app]; exact h.rel.seen.2 i) (h.rel.dur.2 i)
theorem FxOk.mono {F : CFix} {D : Img} {R R2 : List (Nat × Obj)} (h : FxOk F D R) (hR : ∀ x ∈ R, x ∈ R2) : FxOk F D R2 := ⟨h.rel, h.rd.mono hR, h.rl.mono hR, h.len⟩
theorem cop3 (F : CFix) (M : Mem) (lg : Lg) (mk : Mk) (D0 D : Img) (d l : Sl) (R : List (Nat × Obj)) (h0 : FxOk F D0 R) (h1 : LkOk M lg D d l R) (Q : Post) (hQ : Fin 4 (bv true) Q) :
    CodeT Try.prog 4 (suf 8 (bodyC Try.f9)) cT3 (cH2 A0 F M lg mk (.raw d.v) (.raw l.v) R none none) Q := by
  have gL := fun k : Nat => h0.looks (k : Nat)
  have gM := fun k : Nat => h1.looks mk (k : Nat)
  have gZ := awake_ok
  clear h0 h1
  obtain ⟨I, hI⟩ : ∃ I, I = cI3 F M lg mk d l R := ⟨_, rfl⟩
  cases lg <;> cases mk <;>
  · refine evC_sound tabOk mixed _ _ _ _ ?_
    conv => whnf
    repeat (first | (refine ⟨(by kernel_rfl : chkR _ _ _ _ = true), ?_⟩; conv => whnf) | (refine EvOr.go ?_; conv => whnf))
    refine CodeT.loopN tabOk mixed I 6 _ (StW.ofP [0, 1, 2, 3, 4, 5, 6, 7, 8, 9, 10, 11, 12, 13, 14, 15, 16, 17, 18, 19, 20] ?_ ?_ ?_) (fun k => by subst hI; rfl) ?_
    · subst hI; kernel_rfl
    · subst hI; rfl
    · subst hI; rfl
    intro k hkl
    subst hI
    conv => whnf
    repeat (first | (refine ⟨(by kernel_rfl : chkR _ _ _ _ = true), ?_⟩; conv => whnf) | (refine EvOr.go ?_; conv => whnf))
    intro c hc
    by_cases hk : k < 6
    · obtain rfl : c = true := by rw [hc]; exact decide_eq_true (by omega)
      conv => whnf
      repeat (first | (refine ⟨(by kernel_rfl : chkR _ _ _ _ = true), ?_⟩; conv => whnf) | (refine EvOr.go ?_; conv => whnf))
      refine CallG.use (gL k) c42 [4, 5, 6, 9, 11] [] ?_ ?_ ?_ ?_ ?_ ?_; rfl; rfl; kernel_rfl; rfl; rfl
      conv => whnf
      repeat (first | (refine ⟨(by kernel_rfl : chkR _ _ _ _ = true), ?_⟩; conv => whnf) | (refine EvOr.go ?_; conv => whnf))
      refine CallG.use (gM k) c42 [14, 15, 16, 17, 18, 19, 11, 12, 13, 20, 8, 10] [] ?_ ?_ ?_ ?_ ?_ ?_; rfl; rfl; kernel_rfl; rfl; rfl
      conv => whnf
      repeat (first | (refine ⟨(by kernel_rfl : chkR _ _ _ _ = true), ?_⟩; conv => whnf) | (refine EvOr.go ?_; conv => whnf))
      refine ⟨_, inc_nat (by omega), ?_⟩
      conv => whnf
      repeat (first | (refine ⟨(by kernel_rfl : chkR _ _ _ _ = true), ?_⟩; conv => whnf) | (refine EvOr.go ?_; conv => whnf))
      refine ⟨by first | exact hk | omega, _, StW.ofP [0, 1, 2, 3, 4, 5, 6, 7, 8, 9, 10, 11, 12, 13, 14, 15, 16, 17, 18, 19, 20] ?_ ?_ ?_⟩
      · kernel_rfl
      · rfl
      · rfl
    · obtain rfl : c = false := by rw [hc]; exact decide_eq_false (by omega)
      conv => whnf
      repeat (first | (refine ⟨(by kernel_rfl : chkR _ _ _ _ = true), ?_⟩; conv => whnf) | (refine EvOr.go ?_; conv => whnf))
      refine CallG.use gZ c26 [] [] ?_ ?_ ?_ ?_ ?_ ?_; rfl; rfl; kernel_rfl; rfl; rfl
      conv => whnf
      repeat (first | (refine ⟨(by kernel_rfl : chkR _ _ _ _ = true), ?_⟩; conv => whnf) | (refine EvOr.go ?_; conv => whnf))
      exact hQ _ _ rfl
end Go.Proofs.Ytdmcbfmpnakdfaa.Eng.Rm
/- MemberCopies: the copy's loop. -/
namespace Go.Proofs.Ytdmcbfmpnakdfaa.Eng.Rm
open Go Go.Proofs
set_option maxRecDepth 20000
set_option maxHeartbeats 16000000
abbrev AB (b : Ar) (bl : List ActV) (R1 : List (Nat × Obj)) : CArg := ⟨.nil, [], [], b, bl, R1⟩
abbrev cT2p (b : Ar) (bl : List ActV) : LTm := [.junk, .sc (b.sv bl.length 2), .junk, .junk, .junk, .sc (.ptr 4 0 7 0), .junk, .sc (.ptr 9 0 6 0), .junk, .sc (.ptr 14 0 7 0), .sc (.ptr 19 0 6 0), .junk, .junk, .junk, .junk, .junk, .junk, .junk, .junk, .junk, .junk, .junk, .junk, .junk, .junk, .junk, .junk, .junk, .junk, .junk, .junk, .junk, .junk, .junk, .junk, .junk, .junk, .junk, .junk, .junk, .junk, .junk, .junk, .junk, .junk, .junk, .junk, .junk, .junk, .junk, .junk, .junk, .junk, .junk, .junk, .junk, .junk, .junk, .junk, .junk, .junk, .junk, .junk, .junk, .junk, .junk, .junk, .junk, .junk, .junk, .junk, .junk, .junk, .junk, .junk, .junk, .junk, .junk, .junk, .junk, .junk]
abbrev hC2 (b : Ar) (bl : List ActV) (R1 : List (Nat × Obj)) (M : Mem) (lg lc : Lg) (mk : Mk) (d l : Sl) (R : List (Nat × Obj)) (X Y : Option ABlk) : LHp :=
  [none, none, arB b bl, famO b R1, some (memG M lg mk 5 6 7 8), imB M.seen, imB M.dur, logB M lg, none, refS M.n (.raw d.v) (.raw l.v) (mk.sv 10) M.fails M.hurt, none, some (famB R), some (famB R), some (famB R), some (memG M lc mk 15 16 17 18), imB M.seen, imB M.dur, logB M lc, X, refS M.n (.raw d.v) (.raw l.v) (mk.sv 20) M.fails M.hurt, Y]
theorem lg_raw (lg : Lg) (L : Img) (id : Nat) (ρ : Ren) (h : lg.ok L) : ∃ s : Sl, (SV.raw s.v).den ρ = (lg.sv L.length id).den ρ ∧ s.n = L.length := by
  cases lg with
  | nil => obtain rfl : L = [] := h; exact ⟨nilSl, rfl, rfl⟩
  | ex => obtain rfl : L = [] := h; exact ⟨⟨some ⟨(ρ id).b, (ρ id).sh + 0 * 65, none⟩, 0, 0⟩, rfl, rfl⟩
  | inx J => exact ⟨⟨some ⟨(ρ id).b, (ρ id).sh + 0 * 65, none⟩, L.length, (ρ id).tot - 0⟩, rfl, rfl⟩
theorem mk_raw (mk : Mk) (id : Nat) (ρ : Ren) : ∃ s : Sl, (SV.raw s.v).den ρ = (mk.sv id).den ρ := by
  cases mk with
  | nil => exact ⟨nilSl, rfl⟩
  | row n => exact ⟨⟨some ⟨(ρ id).b, (ρ id).sh + 0 * 1, none⟩, n, (ρ id).tot - 0⟩, rfl⟩
theorem c2_0 (b : Ar) (bl : List ActV) (R1 : List (Nat × Obj)) {M : Mem} {lg lc : Lg} {D : Img} {d l : Sl} {B : List Nat} {V : List Sl} {MS MA : List Img} {R : List (Nat × Obj)} (hlg : lg.ok M.log) (hst : St M lc D d l R 40) (hmk : Mrk R B V MS MA 40) (hn : M.n = 6) :
    SeenF 4 (cI2 (AB b bl R1) D R) (fun _ => True) (cT2 (AB b bl R1) 0) (hC2 b bl R1 M lg lc (mkO B) d l R (mBo B) (vBo V)) := by
  refine SeenF.mk fun Γ ρ w tm hg hs ht => ?_
  obtain ⟨lv, v1, v2⟩ := lg_raw lg M.log 7 ρ hlg
  obtain ⟨mv, v3⟩ := mk_raw (mkO B) 8 ρ
  obtain ⟨rv, v4⟩ := mk_raw (mkO B) 10 ρ
  refine ⟨⟨(⟨M, lc, D, d, l, B, V, MS, MA, R, 0⟩, ⟨M, lv, mv, d, l, rv⟩), ⟨⟨hst, hmk, Nat.zero_le _, hn, fun y h => h, fun h => h.elim⟩, ⟨hst.rel.mono (by decide), hst.rd, hst.rl, v2⟩⟩⟩, trivial, by show 4 ≤ 21; decide, ?_, ht⟩
  show ∀ i b2, hpL (cH2 (AB b bl R1) ⟨M, lv, mv, d, l, rv⟩ M lc (mkO B) (.raw d.v) (.raw l.v) R (mBo B) (vBo V)) i = some b2 → ∃ b0, _ ∧ FrzB Γ ρ w (reb w 4 Γ.r0 ρ (hpL (cH2 (AB b bl R1) ⟨M, lv, mv, d, l, rv⟩ M lc (mkO B) (.raw d.v) (.raw l.v) R (mBo B) (vBo V)))) i b0 b2
  have hw : ∀ (i : Nat) (a : ABlk), hpL (cH2 (AB b bl R1) ⟨M, lv, mv, d, l, rv⟩ M lc (mkO B) (.raw d.v) (.raw l.v) R (mBo B) (vBo V)) i = some a → a.w = true → ∃ b0, hpL (hC2 b bl R1 M lg lc (mkO B) d l R (mBo B) (vBo V)) i = some b0 ∧ b0.w = true := fun i a ha haw => by
    match i, ha with
    | 0, ha => cases ha
    | 1, ha => cases ha
    | 2, ha => obtain ⟨_, _, _, _, rfl⟩ := arB_ro ha; cases haw
    | 3, ha => have e := famO_fam ha; subst e; cases haw
    | 4, ha => exact ⟨_, rfl, rfl⟩
    | 5, ha => exact ⟨_, rfl, rfl⟩
    | 6, ha => exact ⟨_, rfl, rfl⟩
    | 7, ha => cases ha
    | 8, ha => cases ha
    | 9, ha => exact ⟨_, rfl, rfl⟩
    | 10, ha => cases ha
    | 11, ha => cases ha; cases haw
    | 12, ha => cases ha; cases haw
    | 13, ha => cases ha; cases haw
    | 14, ha => exact ⟨_, rfl, rfl⟩
    | 15, ha => exact ⟨_, rfl, rfl⟩
    | 16, ha => exact ⟨_, rfl, rfl⟩
    | 17, ha => exact ⟨a, ha, haw⟩
    | 18, ha => exact ⟨a, ha, haw⟩
    | 19, ha => exact ⟨_, rfl, rfl⟩
    | 20, ha => exact ⟨a, ha, haw⟩
    | i + 21, ha => cases ha
  have hF : ∀ n' r0, Fams (reb w n' r0 ρ (hpL (cH2 (AB b bl R1) ⟨M, lv, mv, d, l, rv⟩ M lc (mkO B) (.raw d.v) (.raw l.v) R (mBo B) (vBo V)))) R := fun n' r0 => fams_reb hs (fam_R (hs.blk 11 _ rfl)) (fun i a ha haw => hw i a ha haw)
  intro i b2 hb
  match i, hb with
  | 0, hb => cases hb
  | 1, hb => cases hb
  | 2, hb => obtain ⟨_, _, _, _, e⟩ := arB_ro hb; exact ⟨_, hb, .inl ⟨rfl, .inr ⟨_, _, _, _, e⟩⟩⟩
  | 3, hb => have e := famO_fam hb; subst e; exact ⟨_, hb, .inr (.inl ⟨_, _, rfl, rfl, fun x hx => hx, fams_reb hs (fam_R (hs.blk 3 _ hb)) (fun i a ha haw => hw i a ha haw)⟩)⟩
  | 4, hb =>
    cases hb
    refine ⟨_, rfl, .inr (.inr ⟨rfl, rfl, (hs.blk 4 _ rfl).alike ?_ rfl (fun e he => ?_) (fun e he x hx => ?_)⟩)⟩
    · simp only [rowDen, List.flatMap_cons, List.flatMap_nil, memRs, memSegs, Segs.den, Seg.den, v1, v3]
    · obtain rfl := List.mem_singleton.1 he
      exact ⟨rfl, rfl⟩
    · obtain rfl := List.mem_singleton.1 he
      exact hx
  | 5, hb => cases hb; exact ⟨_, rfl, .inl ⟨rfl, .inl rfl⟩⟩
  | 6, hb => cases hb; exact ⟨_, rfl, .inl ⟨rfl, .inl rfl⟩⟩
  | 7, hb => cases hb
  | 8, hb => cases hb
  | 9, hb =>
    cases hb
    refine ⟨_, rfl, .inr (.inr ⟨rfl, rfl, (hs.blk 9 _ rfl).alike ?_ rfl (fun e he => ?_) (fun e he x hx => ?_)⟩)⟩
    · simp only [rowDen, List.flatMap_cons, List.flatMap_nil, refGs, Segs.den, Seg.den, v4]
    · obtain rfl := List.mem_singleton.1 he
      exact ⟨rfl, rfl⟩
    · obtain rfl := List.mem_singleton.1 he
      exact hx
  | 10, hb => cases hb
  | 11, hb => cases hb; exact ⟨_, rfl, .inr (.inl ⟨_, _, rfl, rfl, fun x hx => hx, hF _ _⟩)⟩
  | 12, hb => cases hb; exact ⟨_, rfl, .inr (.inl ⟨_, _, rfl, rfl, fun x hx => hx, hF _ _⟩)⟩
  | 13, hb => cases hb; exact ⟨_, rfl, .inr (.inl ⟨_, _, rfl, rfl, fun x hx => hx, hF _ _⟩)⟩
  | 14, hb => cases hb; exact ⟨_, rfl, .inl ⟨rfl, .inl rfl⟩⟩
  | 15, hb => cases hb; exact ⟨_, rfl, .inl ⟨rfl, .inl rfl⟩⟩
  | 16, hb => cases hb; exact ⟨_, rfl, .inl ⟨rfl, .inl rfl⟩⟩
  | 17, hb => exact ⟨_, hb, .inl ⟨rfl, .inl (log_w hb)⟩⟩
  | 18, hb => exact ⟨_, hb, .inl ⟨rfl, .inl (mBo_w hb)⟩⟩
  | 19, hb => cases hb; exact ⟨_, rfl, .inl ⟨rfl, .inl rfl⟩⟩
  | 20, hb => exact ⟨_, hb, .inl ⟨rfl, .inl (vBo_w hb)⟩⟩
  | i + 21, hb => cases hb
theorem loopSQ_exit {P : Program} {n : Nat} {h0 : LHp} {X : Type} {I : X → LTm × LHp} {μ : X → Nat} {x : X} {id : Nat} {rest : Code} {Q : Post} {l' : LTm} {h' : LHp} (h : CodeT P n rest l' h' (thawQ n h0 Q)) : loopSQ P n h0 I μ x id rest Q (.exit id) l' h' := by
  simp only [loopSQ, if_true]; exact h
/-- The body of a loop that stands behind one statement. -/
def loopBody : Code → Code
  | .seq (.seq _ (.block _ (.loop c))) _ => c
  | c => c
/-- A round of the copy's loop. -/
theorem round2 (bl : List ActV) (R1 : List (Nat × Obj)) (pks : ActV → List Int) (hR : ∀ x ∈ bl, PkOk R1 x.p (pks x)) (hpb : ∀ x ∈ bl, (pks x).length ≤ 2 ^ 47 - 4096) (h20 : bl.length ≤ 20) {M : Mem} {lg : Lg} {D D0 : Img} {d l : Sl} {B : List Nat} {V : List Sl} {MS MA : List Img} {R Rb : List (Nat × Obj)} {k : Nat} {F : CFix}
    (hI : InvC False bl 40 Rb ⟨M, lg, D, d, l, B, V, MS, MA, R, k⟩) (hFx : FxOk F D0 Rb) (hka : k < bl.length) (Qp : Post) (hQn : ∀ l' h', SeenF 4 (cI2 (AB .row bl R1) D0 Rb) (fun x' => bl.length - x'.1.1.k < bl.length - k) l' h' → Qp .normal l' h') :
    evC Try.prog tab 4 (loopBody (suf 7 (bodyC Try.f9))) (cT2 (AB .row bl R1) k) (cH2 (AB .row bl R1) F M lg (mkO B) (.raw d.v) (.raw l.v) R (mBo B) (vBo V)) Qp := by
  have hst : St M lg D d l R (40 + k) := hI.st
  have hmk : Mrk R B V MS MA (40 + k) := hI.mrk
  have hnn : M.n = 6 := hI.n
  have hlv := hmk.lv
  have hg := act_get hka
  have hdo := do_any (R0 := R1) hst hmk bl[k] (pks bl[k]) (hR _ (List.getElem_mem _)) (hpb _ (List.getElem_mem _))
  obtain ⟨ad, nn, cp, hp⟩ := pk_sl (hR _ (List.getElem_mem hka))
  generalize bl[k] = a at *
  obtain ⟨aD, aI, aS, aP, aO⟩ := a
  replace hp : aP = .slice ad nn cp := hp
  subst hp
  rcases hdo with ⟨M', lg', D', dh, lh, hA, hF⟩ | hB
  · have hend := SeenF.imp (c2_A (A := AB .row bl R1) (F := F) (D0 := D0) (Rb := Rb) (lg0 := lg) (hA := ⟨hA.ex, hA.ok, hA.rel, hA.hd, hA.hl, hA.n.trans hnn⟩) hmk hI.R hka (by show bl.length ≤ 40; omega) hFx (fun h => h.elim)) (q := fun x' => bl.length - x'.1.1.k < bl.length - k) (fun x' hx' => by omega)
    skip
    unfold doF at hF
    clear hA hst hmk hI
    rcases mk_cases hlv with ⟨rfl, rfl⟩ | ⟨hp, e1, e2, e3⟩
    · cases lg <;> cases lg' <;> skip
      all_goals cases dh <;> cases lh
      all_goals
        conv => whnf
        repeat (first | (refine ⟨(by kernel_rfl : chkR _ _ _ _ = true), ?_⟩; conv => whnf) | (refine EvOr.go ?_; conv => whnf))
        intro c hc
        obtain rfl : c = true := by rw [hc]; exact decide_eq_true (by show (k : Int) < ((bl.length : Nat) : Int); omega)
        conv => whnf
        repeat (first | (refine ⟨(by kernel_rfl : chkR _ _ _ _ = true), ?_⟩; conv => whnf) | (refine EvOr.go ?_; conv => whnf))
        refine ⟨⟨by omega, by show (k : Int) < ((bl.length : Nat) : Int); omega⟩, ?_⟩
        conv => whnf
        repeat (first | (refine ⟨(by kernel_rfl : chkR _ _ _ _ = true), ?_⟩; conv => whnf) | (refine EvOr.go ?_; conv => whnf))
        refine ⟨_, hg, ?_⟩
        conv => whnf
        repeat (first | (refine ⟨(by kernel_rfl : chkR _ _ _ _ = true), ?_⟩; conv => whnf) | (refine EvOr.go ?_; conv => whnf))
        refine CallG.use hF c41 [14, 15, 16, 17, 18, 19, 11, 12, 13, 20, 3] [0, 1, 2, 3, 5] ?_ ?_ ?_ ?_ ?_ ?_; rfl; rfl; kernel_rfl; rfl; rfl
        conv => whnf
        repeat (first | (refine ⟨(by kernel_rfl : chkR _ _ _ _ = true), ?_⟩; conv => whnf) | (refine EvOr.go ?_; conv => whnf))
        refine ⟨_, inc_nat (by omega), ?_⟩
        conv => whnf
        repeat (first | (refine ⟨(by kernel_rfl : chkR _ _ _ _ = true), ?_⟩; conv => whnf) | (refine EvOr.go ?_; conv => whnf))
        refine hQn _ _ (SeenF.of (sL [0, 1, 2, 3, 4, 5, 6, 7, 8, 9, 10, 11, 12, 13, 14, 21, 22, 23, 18, 19, 20, 24, 25]) (StW.ofP [0, 1, 2, 3, 4, 5, 6, 7, 8, 9, 10, 11, 12, 13, 14, 21, 22, 23, 18, 19, 20, 24, 25] ?_ ?_ ?_) ?_ hend)
        · kernel_rfl
        · rfl
        · rfl
        · rfl
    · simp only [e1, e2, e3] at hF hend ⊢
      cases lg <;> cases lg' <;> skip
      all_goals cases dh <;> cases lh
      all_goals
        conv => whnf
        repeat (first | (refine ⟨(by kernel_rfl : chkR _ _ _ _ = true), ?_⟩; conv => whnf) | (refine EvOr.go ?_; conv => whnf))
        intro c hc
        obtain rfl : c = true := by rw [hc]; exact decide_eq_true (by show (k : Int) < ((bl.length : Nat) : Int); omega)
        conv => whnf
        repeat (first | (refine ⟨(by kernel_rfl : chkR _ _ _ _ = true), ?_⟩; conv => whnf) | (refine EvOr.go ?_; conv => whnf))
        refine ⟨⟨by omega, by show (k : Int) < ((bl.length : Nat) : Int); omega⟩, ?_⟩
        conv => whnf
        repeat (first | (refine ⟨(by kernel_rfl : chkR _ _ _ _ = true), ?_⟩; conv => whnf) | (refine EvOr.go ?_; conv => whnf))
        refine ⟨_, hg, ?_⟩
        conv => whnf
        repeat (first | (refine ⟨(by kernel_rfl : chkR _ _ _ _ = true), ?_⟩; conv => whnf) | (refine EvOr.go ?_; conv => whnf))
        refine CallG.use hF c41 [14, 15, 16, 17, 18, 19, 11, 12, 13, 20, 3] [0, 1, 2, 3, 5] ?_ ?_ ?_ ?_ ?_ ?_; rfl; rfl; kernel_rfl; rfl; rfl
        conv => whnf
        repeat (first | (refine ⟨(by kernel_rfl : chkR _ _ _ _ = true), ?_⟩; conv => whnf) | (refine EvOr.go ?_; conv => whnf))
        refine ⟨_, inc_nat (by omega), ?_⟩
        conv => whnf
        repeat (first | (refine ⟨(by kernel_rfl : chkR _ _ _ _ = true), ?_⟩; conv => whnf) | (refine EvOr.go ?_; conv => whnf))
        refine hQn _ _ (SeenF.of (sL [0, 1, 2, 3, 4, 5, 6, 7, 8, 9, 10, 11, 12, 13, 14, 21, 22, 23, 18, 19, 20, 24, 25]) (StW.ofP [0, 1, 2, 3, 4, 5, 6, 7, 8, 9, 10, 11, 12, 13, 14, 21, 22, 23, 18, 19, 20, 24, 25] ?_ ?_ ?_) ?_ hend)
        · kernel_rfl
        · rfl
        · rfl
        · rfl
  · obtain ⟨h64, hB⟩ := hB
    have hend := SeenF.imp (c2_B (A := AB .row bl R1) (F := F) (D0 := D0) (Rb := Rb) hst hnn hmk h64 hI.R hka (by show bl.length ≤ 40; omega) hFx (fun h => h.elim)) (q := fun x' => bl.length - x'.1.1.k < bl.length - k) (fun x' hx' => by omega)
    skip
    clear hst hmk hI
    unfold doF at hB
    rcases hB with ⟨h0, hF⟩ | ⟨h0, hF⟩
    · generalize hAA : D ++ M.log = C at *
      obtain ⟨c0, C, rfl⟩ : ∃ c0 C', C = c0 :: C' := by
        cases C with
        | nil => exact absurd rfl h0
        | cons c0 C => exact ⟨c0, C, rfl⟩
      rcases mk_cases hlv with ⟨rfl, rfl⟩ | ⟨hp, e1, e2, e3⟩
      · cases lg <;> skip
        all_goals
          conv => whnf
          repeat (first | (refine ⟨(by kernel_rfl : chkR _ _ _ _ = true), ?_⟩; conv => whnf) | (refine EvOr.go ?_; conv => whnf))
          intro c hc
          obtain rfl : c = true := by rw [hc]; exact decide_eq_true (by show (k : Int) < ((bl.length : Nat) : Int); omega)
          conv => whnf
          repeat (first | (refine ⟨(by kernel_rfl : chkR _ _ _ _ = true), ?_⟩; conv => whnf) | (refine EvOr.go ?_; conv => whnf))
          refine ⟨⟨by omega, by show (k : Int) < ((bl.length : Nat) : Int); omega⟩, ?_⟩
          conv => whnf
          repeat (first | (refine ⟨(by kernel_rfl : chkR _ _ _ _ = true), ?_⟩; conv => whnf) | (refine EvOr.go ?_; conv => whnf))
          refine ⟨_, hg, ?_⟩
          conv => whnf
          repeat (first | (refine ⟨(by kernel_rfl : chkR _ _ _ _ = true), ?_⟩; conv => whnf) | (refine EvOr.go ?_; conv => whnf))
          refine CallG.use hF c41 [14, 15, 16, 17, 18, 19, 11, 12, 13, 20, 3] [0, 4, 5, 9] ?_ ?_ ?_ ?_ ?_ ?_; rfl; rfl; kernel_rfl; rfl; rfl
          conv => whnf
          repeat (first | (refine ⟨(by kernel_rfl : chkR _ _ _ _ = true), ?_⟩; conv => whnf) | (refine EvOr.go ?_; conv => whnf))
          refine ⟨_, inc_nat (by omega), ?_⟩
          conv => whnf
          repeat (first | (refine ⟨(by kernel_rfl : chkR _ _ _ _ = true), ?_⟩; conv => whnf) | (refine EvOr.go ?_; conv => whnf))
          refine hQn _ _ (SeenF.of (sL [0, 1, 2, 3, 4, 5, 6, 7, 8, 9, 10, 11, 12, 13, 14, 15, 16, 17, 21, 19, 22, 23, 24]) (StW.ofP [0, 1, 2, 3, 4, 5, 6, 7, 8, 9, 10, 11, 12, 13, 14, 15, 16, 17, 21, 19, 22, 23, 24] ?_ ?_ ?_) ?_ hend)
          · kernel_rfl
          · rfl
          · rfl
          · rfl
      · have hw1 : ABlk.wfB (.row .inx 73 1 (B.map mapE ++ [[.one (.mp 21)]]) [21]) = true := by
          simp only [ABlk.wfB, List.all_append, List.all_map, Bool.and_eq_true]
          exact ⟨List.all_eq_true.2 fun x hx => rfl, rfl⟩
        have hw2 : ABlk.wfB (.row .inx 130 1 (V.map rawK ++ [[.one (ml2 (c0 :: C))]]) (SV.ids (ml2 (c0 :: C)))) = true := by
          show ABlk.wfB (.row .inx 130 1 (V.map rawK ++ [[.one (.sl 22 0 65 (c0 :: C).length none)]]) [22]) = true
          simp only [ABlk.wfB, List.all_append, List.all_map, Bool.and_eq_true]
          exact ⟨List.all_eq_true.2 fun x hx => rfl, rfl⟩
        have eR : ∀ π : Nat → Nat, (V.map rawK).map (Segs.ren π) = V.map rawK := fun π => by rw [List.map_map]; rfl
        have eM : ∀ π : Nat → Nat, (B.map mapE).map (Segs.ren π) = B.map mapE := fun π => by rw [List.map_map]; rfl
        simp only [e1, e2, e3] at hF ⊢
        cases lg <;> skip
        all_goals
          conv => whnf
          repeat (first | (refine ⟨(by kernel_rfl : chkR _ _ _ _ = true), ?_⟩; conv => whnf) | (refine EvOr.go ?_; conv => whnf))
          intro c hc
          obtain rfl : c = true := by rw [hc]; exact decide_eq_true (by show (k : Int) < ((bl.length : Nat) : Int); omega)
          conv => whnf
          repeat (first | (refine ⟨(by kernel_rfl : chkR _ _ _ _ = true), ?_⟩; conv => whnf) | (refine EvOr.go ?_; conv => whnf))
          refine ⟨⟨by omega, by show (k : Int) < ((bl.length : Nat) : Int); omega⟩, ?_⟩
          conv => whnf
          repeat (first | (refine ⟨(by kernel_rfl : chkR _ _ _ _ = true), ?_⟩; conv => whnf) | (refine EvOr.go ?_; conv => whnf))
          refine ⟨_, hg, ?_⟩
          conv => whnf
          repeat (first | (refine ⟨(by kernel_rfl : chkR _ _ _ _ = true), ?_⟩; conv => whnf) | (refine EvOr.go ?_; conv => whnf))
          refine CallG.use hF c41 [14, 15, 16, 17, 18, 19, 11, 12, 13, 20, 3] [0, 4, 5, 9] ?_ ?_ ?_ ?_ ?_ ?_; rfl; rfl; kernel_rfl; rfl; rfl
          conv => whnf
          repeat (first | (refine ⟨(by kernel_rfl : chkR _ _ _ _ = true), ?_⟩; conv => whnf) | (refine EvOr.go ?_; conv => whnf))
          refine ⟨_, inc_nat (by omega), ?_⟩
          conv => whnf
          repeat (first | (refine ⟨(by kernel_rfl : chkR _ _ _ _ = true), ?_⟩; conv => whnf) | (refine EvOr.go ?_; conv => whnf))
          refine hQn _ _ (SeenF.of (sL [0, 1, 2, 3, 4, 5, 6, 7, 8, 9, 10, 11, 12, 13, 14, 15, 16, 17, 21, 19, 22, 23, 24]) (StW.ofP2 [0, 1, 2, 3, 4, 5, 6, 7, 8, 9, 10, 11, 12, 13, 14, 15, 16, 17, 21, 19, 22, 23, 24] rfl ?_ rfl ?_ ?_) ?_ hend)
          · unfold wfH
            simp only [List.all_cons, List.all_nil, hw1, hw2, Bool.and_true]
            rfl
          · rfl
          · show pickH _ _ 0 _ = renH _ _
            simp only [renH, ABlk.ren, List.map_append, eR, eM, arB, famO, mB2c, vB2c, ml2, SV.ids, refS, rowN, jB, imB, logB]
            rfl
          · rfl
    · rw [h0] at hend
      rcases mk_cases hlv with ⟨rfl, rfl⟩ | ⟨hp, e1, e2, e3⟩
      · cases lg <;> skip
        all_goals
          conv => whnf
          repeat (first | (refine ⟨(by kernel_rfl : chkR _ _ _ _ = true), ?_⟩; conv => whnf) | (refine EvOr.go ?_; conv => whnf))
          intro c hc
          obtain rfl : c = true := by rw [hc]; exact decide_eq_true (by show (k : Int) < ((bl.length : Nat) : Int); omega)
          conv => whnf
          repeat (first | (refine ⟨(by kernel_rfl : chkR _ _ _ _ = true), ?_⟩; conv => whnf) | (refine EvOr.go ?_; conv => whnf))
          refine ⟨⟨by omega, by show (k : Int) < ((bl.length : Nat) : Int); omega⟩, ?_⟩
          conv => whnf
          repeat (first | (refine ⟨(by kernel_rfl : chkR _ _ _ _ = true), ?_⟩; conv => whnf) | (refine EvOr.go ?_; conv => whnf))
          refine ⟨_, hg, ?_⟩
          conv => whnf
          repeat (first | (refine ⟨(by kernel_rfl : chkR _ _ _ _ = true), ?_⟩; conv => whnf) | (refine EvOr.go ?_; conv => whnf))
          refine CallG.use hF c41 [14, 15, 16, 17, 18, 19, 11, 12, 13, 20, 3] [0, 4, 5, 9] ?_ ?_ ?_ ?_ ?_ ?_; rfl; rfl; kernel_rfl; rfl; rfl
          conv => whnf
          repeat (first | (refine ⟨(by kernel_rfl : chkR _ _ _ _ = true), ?_⟩; conv => whnf) | (refine EvOr.go ?_; conv => whnf))
          refine ⟨_, inc_nat (by omega), ?_⟩
          conv => whnf
          repeat (first | (refine ⟨(by kernel_rfl : chkR _ _ _ _ = true), ?_⟩; conv => whnf) | (refine EvOr.go ?_; conv => whnf))
          refine hQn _ _ (SeenF.of (sL [0, 1, 2, 3, 4, 5, 6, 7, 8, 9, 10, 11, 12, 13, 14, 15, 16, 17, 21, 19, 22, 23, 24]) (StW.ofP [0, 1, 2, 3, 4, 5, 6, 7, 8, 9, 10, 11, 12, 13, 14, 15, 16, 17, 21, 19, 22, 23, 24] ?_ ?_ ?_) ?_ hend)
          · kernel_rfl
          · rfl
          · rfl
          · rfl
      · have hw1 : ABlk.wfB (.row .inx 73 1 (B.map mapE ++ [[.one (.mp 21)]]) [21]) = true := by
          simp only [ABlk.wfB, List.all_append, List.all_map, Bool.and_eq_true]
          exact ⟨List.all_eq_true.2 fun x hx => rfl, rfl⟩
        have eM : ∀ π : Nat → Nat, (B.map mapE).map (Segs.ren π) = B.map mapE := fun π => by rw [List.map_map]; rfl
        simp only [e1, e2, e3] at hF ⊢
        cases lg <;> skip
        all_goals
          conv => whnf
          repeat (first | (refine ⟨(by kernel_rfl : chkR _ _ _ _ = true), ?_⟩; conv => whnf) | (refine EvOr.go ?_; conv => whnf))
          intro c hc
          obtain rfl : c = true := by rw [hc]; exact decide_eq_true (by show (k : Int) < ((bl.length : Nat) : Int); omega)
          conv => whnf
          repeat (first | (refine ⟨(by kernel_rfl : chkR _ _ _ _ = true), ?_⟩; conv => whnf) | (refine EvOr.go ?_; conv => whnf))
          refine ⟨⟨by omega, by show (k : Int) < ((bl.length : Nat) : Int); omega⟩, ?_⟩
          conv => whnf
          repeat (first | (refine ⟨(by kernel_rfl : chkR _ _ _ _ = true), ?_⟩; conv => whnf) | (refine EvOr.go ?_; conv => whnf))
          refine ⟨_, hg, ?_⟩
          conv => whnf
          repeat (first | (refine ⟨(by kernel_rfl : chkR _ _ _ _ = true), ?_⟩; conv => whnf) | (refine EvOr.go ?_; conv => whnf))
          refine CallG.use hF c41 [14, 15, 16, 17, 18, 19, 11, 12, 13, 20, 3] [0, 4, 5, 9] ?_ ?_ ?_ ?_ ?_ ?_; rfl; rfl; kernel_rfl; rfl; rfl
          conv => whnf
          repeat (first | (refine ⟨(by kernel_rfl : chkR _ _ _ _ = true), ?_⟩; conv => whnf) | (refine EvOr.go ?_; conv => whnf))
          refine ⟨_, inc_nat (by omega), ?_⟩
          conv => whnf
          repeat (first | (refine ⟨(by kernel_rfl : chkR _ _ _ _ = true), ?_⟩; conv => whnf) | (refine EvOr.go ?_; conv => whnf))
          refine hQn _ _ (SeenF.of (sL [0, 1, 2, 3, 4, 5, 6, 7, 8, 9, 10, 11, 12, 13, 14, 15, 16, 17, 21, 19, 22, 23, 24]) (StW.ofP2 [0, 1, 2, 3, 4, 5, 6, 7, 8, 9, 10, 11, 12, 13, 14, 15, 16, 17, 21, 19, 22, 23, 24] rfl ?_ rfl ?_ ?_) ?_ hend)
          · unfold wfH
            simp only [List.all_cons, List.all_nil, hw1, Bool.and_true]
            rfl
          · rfl
          · show pickH _ _ 0 _ = renH _ _
            simp only [renH, ABlk.ren, List.map_append, eM, arB, famO, mB2c, vB2c, ml2, SV.ids, refS, jB, imB, logB]
            rfl
          · rfl
theorem cop2 (b : Ar) (bl : List ActV) (R1 : List (Nat × Obj)) (pks : ActV → List Int) (hb : b.ok bl) (hR : ∀ x ∈ bl, PkOk R1 x.p (pks x)) (hpb : ∀ x ∈ bl, (pks x).length ≤ 2 ^ 47 - 4096) (h20 : bl.length ≤ 20)
    {M : Mem} {lg lc : Lg} {D : Img} {d l : Sl} {B : List Nat} {V : List Sl} {MS MA : List Img} {R : List (Nat × Obj)} (hlg : lg.ok M.log) (hst : St M lc D d l R 40) (hmk : Mrk R B V MS MA 40) (hn : M.n = 6) (Q : Post) (hQ : Fin 4 (bv true) Q) :
    CodeT Try.prog 4 (suf 7 (bodyC Try.f9)) (cT2p b bl) (hC2 b bl R1 M lg lc (mkO B) d l R (mBo B) (vBo V)) Q := by
  have h0 := c2_0 b bl R1 hlg hst hmk hn
  have hlv := hmk.lv
  have hrd := hst.rd
  show CodeT Try.prog 4 (.seq (.seq _ (.block _ (.loop _))) _) _ _ _
  refine CodeT.loopFS2 (cI2 (AB b bl R1) D R) (fun x => bl.length - x.1.1.k) ?_ ?_ (fun _ => rfl) ?_
  · clear hst hmk hlg
    refine evC_sound tabOk mixed _ _ _ _ ?_
    cases b <;> cases lg <;> cases lc <;> cases B <;> cases V <;> first | (exfalso; simp at hlv; done) | skip
    all_goals
      conv => whnf
      repeat (first | (refine ⟨(by kernel_rfl : chkR _ _ _ _ = true), ?_⟩; conv => whnf) | (refine EvOr.go ?_; conv => whnf))
      exact ⟨rfl, rfl, h0⟩
  · intro x i b0 hi hb0 hw
    match i, hi, hb0 with
    | 0, _, hb0 => cases hb0
    | 1, _, hb0 => cases hb0
    | 2, _, hb0 => exact hb0
    | 3, _, hb0 => exact hb0
  · intro ⟨⟨⟨M', lg', D', d', l', B', V', MS', MA', R', k⟩, F⟩, ⟨hI, hF⟩⟩
    refine evC_sound tabOk mixed _ _ _ _ ?_
    show evC Try.prog tab _ _ (cT2 (AB b bl R1) k) (cH2 (AB b bl R1) F M' lg' (mkO B') (.raw d'.v) (.raw l'.v) R' (mBo B') (vBo V')) _
    by_cases hka : k < bl.length
    · cases b with
      | nil => exact absurd hka (by rw [show bl = [] from hb]; exact Nat.not_lt_zero _)
      | row => exact round2 bl R1 pks hR hpb h20 hI hF hka _ (fun l' h' h => h)
    · have hkk : k ≤ bl.length := hI.k
      obtain rfl : k = bl.length := by omega
      generalize hQ' : loopSQ _ _ _ _ _ _ _ _ _ = Qp
      have hQe : ∀ l' h', CodeT Try.prog 4 (suf 8 (bodyC Try.f9)) l' h' (thawQ 4 (hC2 b bl R1 M lg lc (mkO B) d l R (mBo B) (vBo V)) Q) → Qp (.exit 2) l' h' := by
        rw [← hQ']; intro l' h' h; exact loopSQ_exit h
      clear hQ'
      have h3 := cop3 F M' lg' (mkO B') D D' d' l' R' (hF.mono hI.R) ⟨hI.st.ok, hI.st.rel.mono (by have := hI.st.lt; omega), hI.st.rd, hI.st.rl⟩ _ (hQ.thaw (n := 4) (h0 := hC2 b bl R1 M lg lc (mkO B) d l R (mBo B) (vBo V)))
      have hlv' := hI.mrk.lv
      replace hlv' : B'.length = V'.length := hlv'
      clear hI h0 hst hmk hlg
      rcases mk_cases hlv' with ⟨rfl, rfl⟩ | ⟨hp, e1, e2, e3⟩
      · cases b <;> cases lg' <;>
        · conv => whnf
          repeat (first | (refine ⟨(by kernel_rfl : chkR _ _ _ _ = true), ?_⟩; conv => whnf) | (refine EvOr.go ?_; conv => whnf))
          intro c hc
          obtain rfl : c = false := by rw [hc]; exact decide_eq_false (by first | (show ¬ ((bl.length : Nat) : Int) < ((bl.length : Nat) : Int); omega) | (show ¬ ((bl.length : Nat) : Int) < ((0 : Nat) : Int); omega))
          conv => whnf
          repeat (first | (refine ⟨(by kernel_rfl : chkR _ _ _ _ = true), ?_⟩; conv => whnf) | (refine EvOr.go ?_; conv => whnf))
          refine hQe _ _ (CodeT.weaken _ (StW.ofP [0, 1, 2, 3, 4, 5, 6, 7, 8, 9, 10, 11, 12, 13, 14, 15, 16, 17, 18, 19, 20] ?_ ?_ ?_) h3)
          · kernel_rfl
          · rfl
          · rfl
      · simp only [e1, e2, e3] at h3 ⊢
        cases b <;> cases lg' <;>
        · conv => whnf
          repeat (first | (refine ⟨(by kernel_rfl : chkR _ _ _ _ = true), ?_⟩; conv => whnf) | (refine EvOr.go ?_; conv => whnf))
          intro c hc
          obtain rfl : c = false := by rw [hc]; exact decide_eq_false (by first | (show ¬ ((bl.length : Nat) : Int) < ((bl.length : Nat) : Int); omega) | (show ¬ ((bl.length : Nat) : Int) < ((0 : Nat) : Int); omega))
          conv => whnf
          repeat (first | (refine ⟨(by kernel_rfl : chkR _ _ _ _ = true), ?_⟩; conv => whnf) | (refine EvOr.go ?_; conv => whnf))
          refine hQe _ _ (CodeT.weaken _ (StW.ofP [0, 1, 2, 3, 4, 5, 6, 7, 8, 9, 10, 11, 12, 13, 14, 15, 16, 17, 18, 19, 20] ?_ ?_ ?_) h3)
          · kernel_rfl
          · rfl
          · rfl
end Go.Proofs.Ytdmcbfmpnakdfaa.Eng.Rm
