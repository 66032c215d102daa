/- MemberCopies: the copy is made. -/
import Derived.Test.YtdmcbfmpnakdfaaZD
namespace Go.Proofs.Ytdmcbfmpnakdfaa.Eng.Rm
open Go Go.Proofs
set_option maxRecDepth 20000
set_option maxHeartbeats 16000000
abbrev cT1p (b : Ar) (bl : List ActV) : LTm := [.junk, .sc (b.sv bl.length 2), .junk, .junk, .junk, .sc (.ptr 4 0 7 0), .junk, .sc (.ptr 9 0 6 0), .junk, .junk, .junk, .junk, .junk, .junk, .junk, .junk, .junk, .junk, .junk, .junk, .junk, .junk, .junk, .junk, .junk, .junk, .junk, .junk, .junk, .junk, .junk, .junk, .junk, .junk, .junk, .junk, .junk, .junk, .junk, .junk, .junk, .junk, .junk, .junk, .junk, .junk, .junk, .junk, .junk, .junk, .junk, .junk, .junk, .junk, .junk, .junk, .junk, .junk, .junk, .junk, .junk, .junk, .junk, .junk, .junk, .junk, .junk, .junk, .junk, .junk, .junk, .junk, .junk, .junk, .junk, .junk, .junk, .junk, .junk, .junk, .junk]
theorem copC (b : Ar) (bl : List ActV) (R1 : List (Nat × Obj)) (pks : ActV → List Int) (hb : b.ok bl) (hR : ∀ x ∈ bl, PkOk R1 x.p (pks x)) (hpb : ∀ x ∈ bl, (pks x).length ≤ 2 ^ 47 - 4096) (h20 : bl.length ≤ 20)
    {M : Mem} {lg : Lg} {D : Img} {d l : Sl} {B : List Nat} {V : List Sl} {MS MA : List Img} {R : List (Nat × Obj)} (hst : St M lg D d l R 40) (hmk : Mrk R B V MS MA 40) (hn : M.n = 6) (Q : Post) (hQ : Fin 4 (bv true) Q) :
    CodeT Try.prog 4 (suf 6 (bodyC Try.f9)) (cT1p b bl) (cH1 (AB b bl R1) M lg (mkO B) (.raw d.v) (.raw l.v) R (mBo B) (vBo V)) Q := by
  have hlv := hmk.lv
  have hle := hmk.le
  have hlen := hst.rel.len
  have hc3 : (lg = .nil ∧ lg.cp M.log = .nil) ∨ (lg = .ex ∧ lg.cp M.log = .ex) ∨ ∃ J, lg = .inx J ∧ (lg.cp M.log = .ex ∨ lg.cp M.log = .inx []) := by
    cases lg with
    | nil => exact .inl ⟨rfl, rfl⟩
    | ex => exact .inr (.inl ⟨rfl, rfl⟩)
    | inx J => exact .inr (.inr ⟨J, rfl, by cases hl : M.log <;> simp [Lg.cp]⟩)
  have gS := cop2 b bl R1 pks hb hR hpb h20 (lg := lg) (lc := lg.cp M.log) hst.ok ⟨Lg.cp_ok lg _ hst.ok, hst.rel, hst.rd, hst.rl, hst.lt⟩ hmk hn Q hQ
  have gD := rcopy_ok M.n d l (mkO B) M.fails M.hurt
  rcases mk_cases hlv with ⟨rfl, rfl⟩ | ⟨hp, e1, e2, e3⟩
  · have gC := copy_ok M lg hst.ok hst.rel.n (by omega)
    generalize lg.cp M.log = lc at *
    clear hst hmk
    rcases hc3 with ⟨rfl, rfl⟩ | ⟨rfl, rfl⟩ | ⟨J, rfl, rfl | rfl⟩ <;> cases b <;>
    · refine evC_sound tabOk mixed _ _ _ _ ?_
      conv => whnf
      repeat (first | (refine ⟨(by kernel_rfl : chkR _ _ _ _ = true), ?_⟩; conv => whnf) | (refine EvOr.go ?_; conv => whnf))
      refine CallG.use gC c31 [4, 5, 6, 7, 8] [] ?_ ?_ ?_ ?_ ?_ ?_; rfl; rfl; kernel_rfl; rfl; rfl
      conv => whnf
      repeat (first | (refine ⟨(by kernel_rfl : chkR _ _ _ _ = true), ?_⟩; conv => whnf) | (refine EvOr.go ?_; conv => whnf))
      refine CallG.use gD c45 [9, 11, 12, 10] [] ?_ ?_ ?_ ?_ ?_ ?_; rfl; rfl; kernel_rfl; rfl; rfl
      conv => whnf
      repeat (refine ⟨(by kernel_rfl : chkR _ _ _ _ = true), ?_⟩; conv => whnf)
      refine EvOr.cut (CodeT.weaken _ (StW.ofP [0, 1, 2, 3, 4, 5, 6, 7, 8, 9, 10, 11, 12, 13, 14, 15, 16, 17, 18, 19, 10] ?_ ?_ ?_) gS)
      · kernel_rfl
      · rfl
      · rfl
  · have gC := copyM_ok M lg B hst.ok hst.rel.n (by omega) hp hle
    generalize lg.cp M.log = lc at *
    simp only [e1, e2, e3] at gS gD ⊢
    clear hst hmk
    rcases hc3 with ⟨rfl, rfl⟩ | ⟨rfl, rfl⟩ | ⟨J, rfl, rfl | rfl⟩ <;> cases b <;>
    · refine evC_sound tabOk mixed _ _ _ _ ?_
      conv => whnf
      repeat (first | (refine ⟨(by kernel_rfl : chkR _ _ _ _ = true), ?_⟩; conv => whnf) | (refine EvOr.go ?_; conv => whnf))
      refine CallG.use gC c31 [4, 5, 6, 7, 8] [] ?_ ?_ ?_ ?_ ?_ ?_; rfl; rfl; kernel_rfl; rfl; rfl
      conv => whnf
      repeat (first | (refine ⟨(by kernel_rfl : chkR _ _ _ _ = true), ?_⟩; conv => whnf) | (refine EvOr.go ?_; conv => whnf))
      refine CallG.use gD c45 [9, 11, 12, 10] [] ?_ ?_ ?_ ?_ ?_ ?_; rfl; rfl; kernel_rfl; rfl; rfl
      conv => whnf
      repeat (refine ⟨(by kernel_rfl : chkR _ _ _ _ = true), ?_⟩; conv => whnf)
      refine EvOr.cut (CodeT.weaken _ (StW.ofP [0, 1, 2, 3, 4, 5, 6, 7, 8, 9, 10, 11, 12, 13, 14, 15, 16, 17, 18, 19, 10] ?_ ?_ ?_) gS)
      · kernel_rfl
      · rfl
      · rfl
end Go.Proofs.Ytdmcbfmpnakdfaa.Eng.Rm
/- MemberCopies: the first loop. -/
namespace Go.Proofs.Ytdmcbfmpnakdfaa.Eng.Rm
open Go Go.Proofs
set_option maxRecDepth 20000
set_option maxHeartbeats 16000000
/-- A round of the first loop. -/
theorem round1 (b : Ar) (al bl : List ActV) (R0 R1 : List (Nat × Obj)) (pks : ActV → List Int) (hR : ∀ x ∈ al, PkOk R0 x.p (pks x)) (hpb : ∀ x ∈ al, (pks x).length ≤ 2 ^ 47 - 4096) (h20 : al.length ≤ 40) {M : Mem} {lg : Lg} {D : Img} {d l : Sl} {B : List Nat} {V : List Sl} {MS MA : List Img} {R : List (Nat × Obj)} {k : Nat}
    (hI : InvC True al 0 [] ⟨M, lg, D, d, l, B, V, MS, MA, R, k⟩) (hka : k < al.length) (Qp : Post) (hQn : ∀ l' h', SeenF 4 (cI1 ⟨.row, al, R0, b, bl, R1⟩) (fun x' => al.length - x'.1.k < al.length - k) l' h' → Qp .normal l' h') :
    evC Try.prog tab 4 (loopBody (suf 5 (bodyC Try.f9))) (cT1 ⟨.row, al, R0, b, bl, R1⟩ k) (cH1 ⟨.row, al, R0, b, bl, R1⟩ M lg (mkO B) (.raw d.v) (.raw l.v) R (mBo B) (vBo V)) Qp := by
  have hst : St M lg D d l R (0 + k) := hI.st
  have hmk : Mrk R B V MS MA (0 + k) := hI.mrk
  have hnn : M.n = 6 := hI.n
  have hlv := hmk.lv
  have hg := act_get hka
  have hdo := do_any (R0 := R0) hst hmk al[k] (pks al[k]) (hR _ (List.getElem_mem _)) (hpb _ (List.getElem_mem _))
  obtain ⟨ad, nn, cp, hp⟩ := pk_sl (hR _ (List.getElem_mem hka))
  generalize al[k] = a at *
  obtain ⟨aD, aI, aS, aP, aO⟩ := a
  replace hp : aP = .slice ad nn cp := hp
  subst hp
  rcases hdo with ⟨M', lg', D', dh, lh, hA, hF⟩ | hB
  · have hend := SeenF.imp (c1_A (A := ⟨.row, al, R0, b, bl, R1⟩) (lg0 := lg) (hA := ⟨hA.ex, hA.ok, hA.rel, hA.hd, hA.hl, hA.n.trans hnn⟩) hmk (fun _ h => by cases h) hka (by show al.length ≤ 40; omega) (fun _ => hA.ex (hI.ex trivial))) (q := fun x' => al.length - x'.1.k < al.length - k) (fun x' hx' => by omega)
    have hlx := hI.ex trivial
    replace hlx : lg ≠ .ex := hlx
    have hlx2 := hA.ex hlx
    unfold doF at hF
    clear hA hst hmk hI
    rcases mk_cases hlv with ⟨rfl, rfl⟩ | ⟨hp, e1, e2, e3⟩
    · cases b <;> cases lg <;> cases lg' <;> first | exact absurd rfl hlx | exact absurd rfl hlx2 | skip
      all_goals cases dh <;> cases lh
      all_goals
        conv => whnf
        repeat (first | (refine ⟨(by kernel_rfl : chkR _ _ _ _ = true), ?_⟩; conv => whnf) | (refine EvOr.go ?_; conv => whnf))
        intro c hc
        obtain rfl : c = true := by rw [hc]; exact decide_eq_true (by show (k : Int) < ((al.length : Nat) : Int); omega)
        conv => whnf
        repeat (first | (refine ⟨(by kernel_rfl : chkR _ _ _ _ = true), ?_⟩; conv => whnf) | (refine EvOr.go ?_; conv => whnf))
        refine ⟨⟨by omega, by show (k : Int) < ((al.length : Nat) : Int); omega⟩, ?_⟩
        conv => whnf
        repeat (first | (refine ⟨(by kernel_rfl : chkR _ _ _ _ = true), ?_⟩; conv => whnf) | (refine EvOr.go ?_; conv => whnf))
        refine ⟨_, hg, ?_⟩
        conv => whnf
        repeat (first | (refine ⟨(by kernel_rfl : chkR _ _ _ _ = true), ?_⟩; conv => whnf) | (refine EvOr.go ?_; conv => whnf))
        refine CallG.use hF c41 [4, 5, 6, 7, 8, 9, 11, 12, 13, 10, 1] [0, 1, 2, 3, 5] ?_ ?_ ?_ ?_ ?_ ?_; rfl; rfl; kernel_rfl; rfl; rfl
        conv => whnf
        repeat (first | (refine ⟨(by kernel_rfl : chkR _ _ _ _ = true), ?_⟩; conv => whnf) | (refine EvOr.go ?_; conv => whnf))
        refine ⟨_, inc_nat (by omega), ?_⟩
        conv => whnf
        repeat (first | (refine ⟨(by kernel_rfl : chkR _ _ _ _ = true), ?_⟩; conv => whnf) | (refine EvOr.go ?_; conv => whnf))
        refine hQn _ _ (SeenF.of (sL [0, 1, 2, 3, 4, 14, 15, 16, 8, 9, 10, 11, 12, 13, 17, 18]) (StW.ofP [0, 1, 2, 3, 4, 14, 15, 16, 8, 9, 10, 11, 12, 13, 17, 18] ?_ ?_ ?_) ?_ hend)
        · kernel_rfl
        · rfl
        · rfl
        · rfl
    · simp only [e1, e2, e3] at hF hend ⊢
      cases b <;> cases lg <;> cases lg' <;> first | exact absurd rfl hlx | exact absurd rfl hlx2 | skip
      all_goals cases dh <;> cases lh
      all_goals
        conv => whnf
        repeat (first | (refine ⟨(by kernel_rfl : chkR _ _ _ _ = true), ?_⟩; conv => whnf) | (refine EvOr.go ?_; conv => whnf))
        intro c hc
        obtain rfl : c = true := by rw [hc]; exact decide_eq_true (by show (k : Int) < ((al.length : Nat) : Int); omega)
        conv => whnf
        repeat (first | (refine ⟨(by kernel_rfl : chkR _ _ _ _ = true), ?_⟩; conv => whnf) | (refine EvOr.go ?_; conv => whnf))
        refine ⟨⟨by omega, by show (k : Int) < ((al.length : Nat) : Int); omega⟩, ?_⟩
        conv => whnf
        repeat (first | (refine ⟨(by kernel_rfl : chkR _ _ _ _ = true), ?_⟩; conv => whnf) | (refine EvOr.go ?_; conv => whnf))
        refine ⟨_, hg, ?_⟩
        conv => whnf
        repeat (first | (refine ⟨(by kernel_rfl : chkR _ _ _ _ = true), ?_⟩; conv => whnf) | (refine EvOr.go ?_; conv => whnf))
        refine CallG.use hF c41 [4, 5, 6, 7, 8, 9, 11, 12, 13, 10, 1] [0, 1, 2, 3, 5] ?_ ?_ ?_ ?_ ?_ ?_; rfl; rfl; kernel_rfl; rfl; rfl
        conv => whnf
        repeat (first | (refine ⟨(by kernel_rfl : chkR _ _ _ _ = true), ?_⟩; conv => whnf) | (refine EvOr.go ?_; conv => whnf))
        refine ⟨_, inc_nat (by omega), ?_⟩
        conv => whnf
        repeat (first | (refine ⟨(by kernel_rfl : chkR _ _ _ _ = true), ?_⟩; conv => whnf) | (refine EvOr.go ?_; conv => whnf))
        refine hQn _ _ (SeenF.of (sL [0, 1, 2, 3, 4, 14, 15, 16, 8, 9, 10, 11, 12, 13, 17, 18]) (StW.ofP [0, 1, 2, 3, 4, 14, 15, 16, 8, 9, 10, 11, 12, 13, 17, 18] ?_ ?_ ?_) ?_ hend)
        · kernel_rfl
        · rfl
        · rfl
        · rfl
  · obtain ⟨h64, hB⟩ := hB
    have hend := SeenF.imp (c1_B (A := ⟨.row, al, R0, b, bl, R1⟩) hst hnn hmk h64 (fun _ h => by cases h) hka (by show al.length ≤ 40; omega) hI.ex) (q := fun x' => al.length - x'.1.k < al.length - k) (fun x' hx' => by omega)
    have hlx := hI.ex trivial
    replace hlx : lg ≠ .ex := hlx
    clear hst hmk hI
    unfold doF at hB
    rcases hB with ⟨h0, hF⟩ | ⟨h0, hF⟩
    · generalize hAA : D ++ M.log = C at *
      obtain ⟨c0, C, rfl⟩ : ∃ c0 C', C = c0 :: C' := by
        cases C with
        | nil => exact absurd rfl h0
        | cons c0 C => exact ⟨c0, C, rfl⟩
      rcases mk_cases hlv with ⟨rfl, rfl⟩ | ⟨hp, e1, e2, e3⟩
      · cases b <;> cases lg <;> first | exact absurd rfl hlx | skip
        all_goals
          conv => whnf
          repeat (first | (refine ⟨(by kernel_rfl : chkR _ _ _ _ = true), ?_⟩; conv => whnf) | (refine EvOr.go ?_; conv => whnf))
          intro c hc
          obtain rfl : c = true := by rw [hc]; exact decide_eq_true (by show (k : Int) < ((al.length : Nat) : Int); omega)
          conv => whnf
          repeat (first | (refine ⟨(by kernel_rfl : chkR _ _ _ _ = true), ?_⟩; conv => whnf) | (refine EvOr.go ?_; conv => whnf))
          refine ⟨⟨by omega, by show (k : Int) < ((al.length : Nat) : Int); omega⟩, ?_⟩
          conv => whnf
          repeat (first | (refine ⟨(by kernel_rfl : chkR _ _ _ _ = true), ?_⟩; conv => whnf) | (refine EvOr.go ?_; conv => whnf))
          refine ⟨_, hg, ?_⟩
          conv => whnf
          repeat (first | (refine ⟨(by kernel_rfl : chkR _ _ _ _ = true), ?_⟩; conv => whnf) | (refine EvOr.go ?_; conv => whnf))
          refine CallG.use hF c41 [4, 5, 6, 7, 8, 9, 11, 12, 13, 10, 1] [0, 4, 5, 9] ?_ ?_ ?_ ?_ ?_ ?_; rfl; rfl; kernel_rfl; rfl; rfl
          conv => whnf
          repeat (first | (refine ⟨(by kernel_rfl : chkR _ _ _ _ = true), ?_⟩; conv => whnf) | (refine EvOr.go ?_; conv => whnf))
          refine ⟨_, inc_nat (by omega), ?_⟩
          conv => whnf
          repeat (first | (refine ⟨(by kernel_rfl : chkR _ _ _ _ = true), ?_⟩; conv => whnf) | (refine EvOr.go ?_; conv => whnf))
          refine hQn _ _ (SeenF.of (sL [0, 1, 2, 3, 4, 5, 6, 7, 14, 9, 15, 11, 12, 13, 16, 17]) (StW.ofP [0, 1, 2, 3, 4, 5, 6, 7, 14, 9, 15, 11, 12, 13, 16, 17] ?_ ?_ ?_) ?_ hend)
          · kernel_rfl
          · rfl
          · rfl
          · rfl
      · have hw1 : ABlk.wfB (.row .inx 73 1 (B.map mapE ++ [[.one (.mp 14)]]) [14]) = true := by
          simp only [ABlk.wfB, List.all_append, List.all_map, Bool.and_eq_true]
          exact ⟨List.all_eq_true.2 fun x hx => rfl, rfl⟩
        have hw2 : ABlk.wfB (.row .inx 130 1 (V.map rawK ++ [[.one (ml1 (c0 :: C))]]) (SV.ids (ml1 (c0 :: C)))) = true := by
          show ABlk.wfB (.row .inx 130 1 (V.map rawK ++ [[.one (.sl 15 0 65 (c0 :: C).length none)]]) [15]) = true
          simp only [ABlk.wfB, List.all_append, List.all_map, Bool.and_eq_true]
          exact ⟨List.all_eq_true.2 fun x hx => rfl, rfl⟩
        have eR : ∀ π : Nat → Nat, (V.map rawK).map (Segs.ren π) = V.map rawK := fun π => by rw [List.map_map]; rfl
        have eM : ∀ π : Nat → Nat, (B.map mapE).map (Segs.ren π) = B.map mapE := fun π => by rw [List.map_map]; rfl
        simp only [e1, e2, e3] at hF ⊢
        cases b <;> cases lg <;> first | exact absurd rfl hlx | skip
        all_goals
          conv => whnf
          repeat (first | (refine ⟨(by kernel_rfl : chkR _ _ _ _ = true), ?_⟩; conv => whnf) | (refine EvOr.go ?_; conv => whnf))
          intro c hc
          obtain rfl : c = true := by rw [hc]; exact decide_eq_true (by show (k : Int) < ((al.length : Nat) : Int); omega)
          conv => whnf
          repeat (first | (refine ⟨(by kernel_rfl : chkR _ _ _ _ = true), ?_⟩; conv => whnf) | (refine EvOr.go ?_; conv => whnf))
          refine ⟨⟨by omega, by show (k : Int) < ((al.length : Nat) : Int); omega⟩, ?_⟩
          conv => whnf
          repeat (first | (refine ⟨(by kernel_rfl : chkR _ _ _ _ = true), ?_⟩; conv => whnf) | (refine EvOr.go ?_; conv => whnf))
          refine ⟨_, hg, ?_⟩
          conv => whnf
          repeat (first | (refine ⟨(by kernel_rfl : chkR _ _ _ _ = true), ?_⟩; conv => whnf) | (refine EvOr.go ?_; conv => whnf))
          refine CallG.use hF c41 [4, 5, 6, 7, 8, 9, 11, 12, 13, 10, 1] [0, 4, 5, 9] ?_ ?_ ?_ ?_ ?_ ?_; rfl; rfl; kernel_rfl; rfl; rfl
          conv => whnf
          repeat (first | (refine ⟨(by kernel_rfl : chkR _ _ _ _ = true), ?_⟩; conv => whnf) | (refine EvOr.go ?_; conv => whnf))
          refine ⟨_, inc_nat (by omega), ?_⟩
          conv => whnf
          repeat (first | (refine ⟨(by kernel_rfl : chkR _ _ _ _ = true), ?_⟩; conv => whnf) | (refine EvOr.go ?_; conv => whnf))
          refine hQn _ _ (SeenF.of (sL [0, 1, 2, 3, 4, 5, 6, 7, 14, 9, 15, 11, 12, 13, 16, 17]) (StW.ofP2 [0, 1, 2, 3, 4, 5, 6, 7, 14, 9, 15, 11, 12, 13, 16, 17] rfl ?_ rfl ?_ ?_) ?_ hend)
          · unfold wfH
            simp only [List.all_cons, List.all_nil, hw1, hw2, Bool.and_true]
            rfl
          · rfl
          · show pickH _ _ 0 _ = renH _ _
            simp only [renH, ABlk.ren, List.map_append, eR, eM, arB, famO, mB1c, vB1c, ml1, SV.ids, refS, rowN, jB, imB, logB]
            rfl
          · rfl
    · rw [h0] at hend
      rcases mk_cases hlv with ⟨rfl, rfl⟩ | ⟨hp, e1, e2, e3⟩
      · cases b <;> cases lg <;> first | exact absurd rfl hlx | skip
        all_goals
          conv => whnf
          repeat (first | (refine ⟨(by kernel_rfl : chkR _ _ _ _ = true), ?_⟩; conv => whnf) | (refine EvOr.go ?_; conv => whnf))
          intro c hc
          obtain rfl : c = true := by rw [hc]; exact decide_eq_true (by show (k : Int) < ((al.length : Nat) : Int); omega)
          conv => whnf
          repeat (first | (refine ⟨(by kernel_rfl : chkR _ _ _ _ = true), ?_⟩; conv => whnf) | (refine EvOr.go ?_; conv => whnf))
          refine ⟨⟨by omega, by show (k : Int) < ((al.length : Nat) : Int); omega⟩, ?_⟩
          conv => whnf
          repeat (first | (refine ⟨(by kernel_rfl : chkR _ _ _ _ = true), ?_⟩; conv => whnf) | (refine EvOr.go ?_; conv => whnf))
          refine ⟨_, hg, ?_⟩
          conv => whnf
          repeat (first | (refine ⟨(by kernel_rfl : chkR _ _ _ _ = true), ?_⟩; conv => whnf) | (refine EvOr.go ?_; conv => whnf))
          refine CallG.use hF c41 [4, 5, 6, 7, 8, 9, 11, 12, 13, 10, 1] [0, 4, 5, 9] ?_ ?_ ?_ ?_ ?_ ?_; rfl; rfl; kernel_rfl; rfl; rfl
          conv => whnf
          repeat (first | (refine ⟨(by kernel_rfl : chkR _ _ _ _ = true), ?_⟩; conv => whnf) | (refine EvOr.go ?_; conv => whnf))
          refine ⟨_, inc_nat (by omega), ?_⟩
          conv => whnf
          repeat (first | (refine ⟨(by kernel_rfl : chkR _ _ _ _ = true), ?_⟩; conv => whnf) | (refine EvOr.go ?_; conv => whnf))
          refine hQn _ _ (SeenF.of (sL [0, 1, 2, 3, 4, 5, 6, 7, 14, 9, 15, 11, 12, 13, 16, 17]) (StW.ofP [0, 1, 2, 3, 4, 5, 6, 7, 14, 9, 15, 11, 12, 13, 16, 17] ?_ ?_ ?_) ?_ hend)
          · kernel_rfl
          · rfl
          · rfl
          · rfl
      · have hw1 : ABlk.wfB (.row .inx 73 1 (B.map mapE ++ [[.one (.mp 14)]]) [14]) = true := by
          simp only [ABlk.wfB, List.all_append, List.all_map, Bool.and_eq_true]
          exact ⟨List.all_eq_true.2 fun x hx => rfl, rfl⟩
        have eM : ∀ π : Nat → Nat, (B.map mapE).map (Segs.ren π) = B.map mapE := fun π => by rw [List.map_map]; rfl
        simp only [e1, e2, e3] at hF ⊢
        cases b <;> cases lg <;> first | exact absurd rfl hlx | skip
        all_goals
          conv => whnf
          repeat (first | (refine ⟨(by kernel_rfl : chkR _ _ _ _ = true), ?_⟩; conv => whnf) | (refine EvOr.go ?_; conv => whnf))
          intro c hc
          obtain rfl : c = true := by rw [hc]; exact decide_eq_true (by show (k : Int) < ((al.length : Nat) : Int); omega)
          conv => whnf
          repeat (first | (refine ⟨(by kernel_rfl : chkR _ _ _ _ = true), ?_⟩; conv => whnf) | (refine EvOr.go ?_; conv => whnf))
          refine ⟨⟨by omega, by show (k : Int) < ((al.length : Nat) : Int); omega⟩, ?_⟩
          conv => whnf
          repeat (first | (refine ⟨(by kernel_rfl : chkR _ _ _ _ = true), ?_⟩; conv => whnf) | (refine EvOr.go ?_; conv => whnf))
          refine ⟨_, hg, ?_⟩
          conv => whnf
          repeat (first | (refine ⟨(by kernel_rfl : chkR _ _ _ _ = true), ?_⟩; conv => whnf) | (refine EvOr.go ?_; conv => whnf))
          refine CallG.use hF c41 [4, 5, 6, 7, 8, 9, 11, 12, 13, 10, 1] [0, 4, 5, 9] ?_ ?_ ?_ ?_ ?_ ?_; rfl; rfl; kernel_rfl; rfl; rfl
          conv => whnf
          repeat (first | (refine ⟨(by kernel_rfl : chkR _ _ _ _ = true), ?_⟩; conv => whnf) | (refine EvOr.go ?_; conv => whnf))
          refine ⟨_, inc_nat (by omega), ?_⟩
          conv => whnf
          repeat (first | (refine ⟨(by kernel_rfl : chkR _ _ _ _ = true), ?_⟩; conv => whnf) | (refine EvOr.go ?_; conv => whnf))
          refine hQn _ _ (SeenF.of (sL [0, 1, 2, 3, 4, 5, 6, 7, 14, 9, 15, 11, 12, 13, 16, 17]) (StW.ofP2 [0, 1, 2, 3, 4, 5, 6, 7, 14, 9, 15, 11, 12, 13, 16, 17] rfl ?_ rfl ?_ ?_) ?_ hend)
          · unfold wfH
            simp only [List.all_cons, List.all_nil, hw1, Bool.and_true]
            rfl
          · rfl
          · show pickH _ _ 0 _ = renH _ _
            simp only [renH, ABlk.ren, List.map_append, eM, arB, famO, mB1c, vB1c, ml1, SV.ids, refS, jB, imB, logB]
            rfl
          · rfl
end Go.Proofs.Ytdmcbfmpnakdfaa.Eng.Rm
/- MemberCopies: the first state; the loop of acts; members that nothing is done to. -/
namespace Go.Proofs.Ytdmcbfmpnakdfaa.Eng.Rm
open Go Go.Proofs
set_option maxRecDepth 20000
set_option maxHeartbeats 16000000
def s13 (sd i : Nat) : Nat := if 11 ≤ i then (if i ≤ 13 then sd else i) else i
theorem s13_lt {sd i : Nat} (h : i < 11) : s13 sd i = i := if_neg (by omega)
abbrev cp0H (A : CArg) : LHp := [arB A.a A.al, famO A.a A.R0, arB A.b A.bl, famO A.b A.R1, some (memG (newM 6) .nil .nil 5 6 7 8), imB [], imB [], none, none, refS 6 nilS nilS nilS false false]
theorem c1_0 (A : CArg) (sd : Nat) (RS : List (Nat × Obj)) (hsd : sd < 4) (hseed : hpL (cp0H A) sd = some (famB RS)) : SeenF 4 (cI1 A) (fun _ => True) (cT1 A 0) (cp0H A) := by
  refine SeenF.mk2 (s13 sd) (fun i hi => s13_lt (by omega)) fun Γ ρ w tm hg hs ht => ?_
  refine ⟨⟨⟨newM 6, .nil, [], nilSl, nilSl, [], [], [], [], RS, 0⟩, ⟨⟨rfl, ⟨by show (0 : Int) < 6; decide, EqM_nil, EqM_nil, Nat.le_refl _⟩, .inl ⟨rfl, rfl⟩, .inl ⟨rfl, rfl⟩, by show 0 + 0 < 1000; decide⟩, ⟨rfl, rfl, rfl, Nat.zero_le _, fun j b S h => by simp at h, fun j v A h => by simp at h, fun j S A h => by simp at h, fun A h => by cases h⟩, Nat.zero_le _, rfl, fun y h => (by cases h), fun _ h => by cases h⟩⟩, trivial, by show 4 ≤ 14; decide, ?_, ?_, ?_⟩
  · show ∀ i b2, hpL (cH1 A (newM 6) .nil .nil nilS nilS RS none none) i = some b2 → ∃ b, _ ∧ _ ∧ BlkSat (reb w 4 Γ.r0 (fun i => ρ (s13 sd i)) (hpL (cH1 A (newM 6) .nil .nil nilS nilS RS none none))) _ _ _ _
    have hw : ∀ (i : Nat) (a : ABlk), hpL (cH1 A (newM 6) .nil .nil nilS nilS RS none none) i = some a → a.w = true → i < 10 ∧ hpL (cp0H A) i = some a := fun i a ha haw => by
      match i, ha with
      | 0, ha => obtain ⟨_, _, _, _, rfl⟩ := arB_ro ha; cases haw
      | 1, ha => have e := famO_fam ha; subst e; cases haw
      | 2, ha => obtain ⟨_, _, _, _, rfl⟩ := arB_ro ha; cases haw
      | 3, ha => have e := famO_fam ha; subst e; cases haw
      | 4, ha => exact ⟨by decide, ha⟩
      | 5, ha => exact ⟨by decide, ha⟩
      | 6, ha => exact ⟨by decide, ha⟩
      | 7, ha => cases ha
      | 8, ha => cases ha
      | 9, ha => exact ⟨by decide, ha⟩
      | 10, ha => cases ha
      | 11, ha => cases ha; cases haw
      | 12, ha => cases ha; cases haw
      | 13, ha => cases ha; cases haw
      | i + 14, ha => cases ha
    have hFa : ∀ (R : List (Nat × Obj)), Fams Γ R → Fams (reb w 4 Γ.r0 (fun i => ρ (s13 sd i)) (hpL (cH1 A (newM 6) .nil .nil nilS nilS RS none none))) R := fun R hR x hx => by
      obtain ⟨h1, h2, h3⟩ := hR x hx
      refine ⟨Nat.lt_of_lt_of_le h1 hs.size, ?_, (hs.frame _ h1 h2).trans h3⟩
      rintro ⟨i, a, ha, haw, e⟩
      obtain ⟨hi, ha2⟩ := hw i a ha haw
      have e2 : (ρ i).b = x.1 := by rw [← e]; show _ = (ρ (s13 sd i)).b; rw [s13_lt (by omega)]
      exact h2 (e2 ▸ hs.foot i a ha2 haw (e2 ▸ h1))
    have hfam : ∀ (i j : Nat) (R : List (Nat × Obj)), s13 sd i = j → hpL (cp0H A) j = some (famB R) → BlkSat (reb w 4 Γ.r0 (fun i => ρ (s13 sd i)) (hpL (cH1 A (newM 6) .nil .nil nilS nilS RS none none))) (fun i => ρ (s13 sd i)) w i (famB R) := fun i j R hi hj => by
      have hb := hs.blk j _ hj
      have hb2 : BlkSat Γ (fun i => ρ (s13 sd i)) w i (famB R) := hb.congr (by show ρ (s13 sd i) = _; rw [hi]) (fun x hx => by cases hx) rfl
      have hlt := hb2.lt
      have hF := fam_R hb2
      obtain ⟨a1, a2, a3, ⟨c0, t0, fr0, pre0, post0, b1, b2, b3, b4, b5⟩, ⟨o, ho⟩, _⟩ := hb2
      exact ⟨a1, a2, a3, ⟨c0, t0, fr0, pre0, post0, b1, b2, b3, hlt, rfl⟩, ⟨o, ho⟩, hFa R hF⟩
    have hsame : ∀ (i : Nat) (b : ABlk), i < 10 → hpL (cp0H A) i = some b → b.w = true → (∀ x ∈ b.ms, x < 11) → BlkSat (reb w 4 Γ.r0 (fun i => ρ (s13 sd i)) (hpL (cH1 A (newM 6) .nil .nil nilS nilS RS none none))) (fun i => ρ (s13 sd i)) w i b := fun i b hi hb hbw hms =>
      ((hs.blk i b hb).congr (ρ' := fun i => ρ (s13 sd i)) (id' := i) (by show ρ (s13 sd i) = _; rw [s13_lt (by omega)]) (fun x hx => by show ρ (s13 sd x) = _; rw [s13_lt (hms x hx)]) rfl).ctx hbw
    have hargs : ∀ (i : Nat) (b : ABlk), i < 4 → hpL (cp0H A) i = some b → (∃ t sz L ms, b = .row .ro t sz L ms ∧ ms = []) → BlkSat (reb w 4 Γ.r0 (fun i => ρ (s13 sd i)) (hpL (cH1 A (newM 6) .nil .nil nilS nilS RS none none))) (fun i => ρ (s13 sd i)) w i b := fun i b hi hb ⟨t, sz, L, ms, hro, hms⟩ => by
      subst hro; subst hms
      have hb2 : BlkSat Γ (fun i => ρ (s13 sd i)) w i (.row .ro t sz L []) := (hs.blk i _ hb).congr (by show ρ (s13 sd i) = _; rw [s13_lt (by omega)]) (fun x hx => by cases hx) rfl
      exact hb2.ctx_ro (fun R t sz L ms h => by cases h) fun _ => ⟨hb2.lt, rfl⟩
    have hro : ∀ {a : Ar} {al : List ActV} {b : ABlk}, arB a al = some b → ∃ t sz L ms, b = .row .ro t sz L ms ∧ ms = [] := fun {a al b} h => by
      cases a with
      | nil => cases h
      | row => cases h; exact ⟨_, _, _, _, rfl, rfl⟩
    intro i b2 hb
    match i, hb with
    | 0, hb => exact ⟨_, hb, rfl, hargs 0 _ (by decide) hb (hro hb)⟩
    | 1, hb => have e := famO_fam hb; subst e; exact ⟨_, hb, rfl, hfam 1 1 _ (s13_lt (by decide)) hb⟩
    | 2, hb => exact ⟨_, hb, rfl, hargs 2 _ (by decide) hb (hro hb)⟩
    | 3, hb => have e := famO_fam hb; subst e; exact ⟨_, hb, rfl, hfam 3 3 _ (s13_lt (by decide)) hb⟩
    | 4, hb => cases hb; exact ⟨_, rfl, rfl, hsame 4 _ (by decide) rfl rfl (fun x hx => by
        have hx : x ∈ [5, 6] := hx
        simp at hx; omega)⟩
    | 5, hb => cases hb; exact ⟨_, rfl, rfl, hsame 5 _ (by decide) rfl rfl (fun x hx => by cases hx)⟩
    | 6, hb => cases hb; exact ⟨_, rfl, rfl, hsame 6 _ (by decide) rfl rfl (fun x hx => by cases hx)⟩
    | 7, hb => cases hb
    | 8, hb => cases hb
    | 9, hb => cases hb; exact ⟨_, rfl, rfl, hsame 9 _ (by decide) rfl rfl (fun x hx => by cases hx)⟩
    | 10, hb => cases hb
    | 11, hb => cases hb; exact ⟨_, hseed, rfl, hfam 11 sd _ rfl hseed⟩
    | 12, hb => cases hb; exact ⟨_, hseed, rfl, hfam 12 sd _ rfl hseed⟩
    | 13, hb => cases hb; exact ⟨_, hseed, rfl, hfam 13 sd _ rfl hseed⟩
    | i + 14, hb => cases hb
  · show ∀ i j a b, hpL (cH1 A (newM 6) .nil .nil nilS nilS RS none none) i = some a → hpL (cH1 A (newM 6) .nil .nil nilS nilS RS none none) j = some b → _ → _ → _
    intro i j a b ha hb haw he
    have hi : i < 10 ∧ 4 ≤ i := by
      match i, ha with
      | 0, ha => obtain ⟨_, _, _, _, rfl⟩ := arB_ro ha; cases haw
      | 1, ha => have e := famO_fam ha; subst e; cases haw
      | 2, ha => obtain ⟨_, _, _, _, rfl⟩ := arB_ro ha; cases haw
      | 3, ha => have e := famO_fam ha; subst e; cases haw
      | 4, ha => decide
      | 5, ha => decide
      | 6, ha => decide
      | 7, ha => cases ha
      | 8, ha => cases ha
      | 9, ha => decide
      | 10, ha => cases ha
      | 11, ha => cases ha; cases haw
      | 12, ha => cases ha; cases haw
      | 13, ha => cases ha; cases haw
      | i + 14, ha => cases ha
    rw [s13_lt (by omega)] at he
    unfold s13 at he
    split at he
    · split at he
      · omega
      · exact he
    · exact he
  · show TSat (fun i => ρ (s13 sd i)) _ (tmL (cT1 A 0)) tm
    have hall : (cT1 A 0).all (fun v => v.ids.all (fun x => decide (x < 11))) = true := by
      obtain ⟨a, al, R0, b, bl, R1⟩ := A
      cases a <;> cases b <;> rfl
    refine ⟨ht.size, fun i => ?_⟩
    rcases ht.val i with h | h
    · exact .inl h
    · right
      rw [h]
      refine (AV.den_congr _ fun x hx => ?_).symm
      have hx8 : x < 11 := by
        have : tmL (cT1 A 0) i = .junk ∨ tmL (cT1 A 0) i ∈ cT1 A 0 := by
          unfold tmL
          rw [List.getD_eq_getElem?_getD]
          by_cases hi : i < (cT1 A 0).length
          · rw [List.getElem?_eq_getElem hi]; exact .inr (List.getElem_mem hi)
          · rw [List.getElem?_eq_none (by omega)]; exact .inl rfl
        rcases this with e | e
        · rw [e] at hx; cases hx
        · have := List.all_eq_true.1 (List.all_eq_true.1 hall _ e) x hx
          exact of_decide_eq_true this
      show ρ (s13 sd x) = ρ x
      rw [s13_lt hx8]
abbrev cT0p (a b : Ar) (al bl : List ActV) : LTm := [.sc (a.sv al.length 0), .sc (b.sv bl.length 2), .junk, .junk, .junk, .sc (.ptr 4 0 7 0), .junk, .sc (.ptr 9 0 6 0), .junk, .junk, .junk, .junk, .junk, .junk, .junk, .junk, .junk, .junk, .junk, .junk, .junk, .junk, .junk, .junk, .junk, .junk, .junk, .junk, .junk, .junk, .junk, .junk, .junk, .junk, .junk, .junk, .junk, .junk, .junk, .junk, .junk, .junk, .junk, .junk, .junk, .junk, .junk, .junk, .junk, .junk, .junk, .junk, .junk, .junk, .junk, .junk, .junk, .junk, .junk, .junk, .junk, .junk, .junk, .junk, .junk, .junk, .junk, .junk, .junk, .junk, .junk, .junk, .junk, .junk, .junk, .junk, .junk, .junk, .junk, .junk, .junk]
theorem cop1 (a b : Ar) (al bl : List ActV) (R0 R1 : List (Nat × Obj)) (pa pb : ActV → List Int) (sd : Nat) (RS : List (Nat × Obj)) (hsd : sd < 4) (hseed : hpL (cp0H ⟨a, al, R0, b, bl, R1⟩) sd = some (famB RS))
    (ha : a.ok al) (hb : b.ok bl) (hRa : ∀ x ∈ al, PkOk R0 x.p (pa x)) (hpa : ∀ x ∈ al, (pa x).length ≤ 2 ^ 47 - 4096) (hRb : ∀ x ∈ bl, PkOk R1 x.p (pb x)) (hpb : ∀ x ∈ bl, (pb x).length ≤ 2 ^ 47 - 4096) (h40 : al.length ≤ 40) (h20 : bl.length ≤ 20) (Q : Post) (hQ : Fin 4 (bv true) Q) :
    CodeT Try.prog 4 (suf 5 (bodyC Try.f9)) (cT0p a b al bl) (cp0H ⟨a, al, R0, b, bl, R1⟩) Q := by
  have h0 := c1_0 ⟨a, al, R0, b, bl, R1⟩ sd RS hsd hseed
  show CodeT Try.prog 4 (.seq (.seq _ (.block _ (.loop _))) _) _ _ _
  refine CodeT.loopFS2 (cI1 ⟨a, al, R0, b, bl, R1⟩) (fun x => al.length - x.1.k) ?_ ?_ (fun _ => rfl) ?_
  · refine evC_sound tabOk mixed _ _ _ _ ?_
    cases a <;> cases b
    all_goals
      conv => whnf
      repeat (first | (refine ⟨(by kernel_rfl : chkR _ _ _ _ = true), ?_⟩; conv => whnf) | (refine EvOr.go ?_; conv => whnf))
      exact ⟨rfl, rfl, h0⟩
  · intro x i b0 hi hb0 hw
    match i, hi, hb0 with
    | 0, _, hb0 => exact hb0
    | 1, _, hb0 => exact hb0
    | 2, _, hb0 => exact hb0
    | 3, _, hb0 => exact hb0
  · intro ⟨⟨M, lg, D, d, l, B, V, MS, MA, R, k⟩, hI⟩
    refine evC_sound tabOk mixed _ _ _ _ ?_
    show evC Try.prog tab _ _ (cT1 ⟨a, al, R0, b, bl, R1⟩ k) (cH1 ⟨a, al, R0, b, bl, R1⟩ M lg (mkO B) (.raw d.v) (.raw l.v) R (mBo B) (vBo V)) _
    by_cases hka : k < al.length
    · cases a with
      | nil => exact absurd hka (by rw [show al = [] from ha]; exact Nat.not_lt_zero _)
      | row => exact round1 b al bl R0 R1 pa hRa hpa h40 hI hka _ (fun l' h' h => h)
    · have hkk : k ≤ al.length := hI.k
      obtain rfl : k = al.length := by omega
      generalize hQ' : loopSQ _ _ _ _ _ _ _ _ _ = Qp
      have hQe : ∀ l' h', CodeT Try.prog 4 (suf 6 (bodyC Try.f9)) l' h' (thawQ 4 (cp0H ⟨a, al, R0, b, bl, R1⟩) Q) → Qp (.exit 0) l' h' := by
        rw [← hQ']; intro l' h' h; exact loopSQ_exit h
      clear hQ'
      have hmk : Mrk R B V MS MA 40 := hI.mrk.mono (fun x h => h) (by show 0 + al.length ≤ 40; omega)
      have hst : St M lg D d l R 40 := ⟨hI.st.ok, hI.st.rel.mono (by show 0 + al.length ≤ 40; omega), hI.st.rd, hI.st.rl, by decide⟩
      have h3 := copC b bl R1 pb hb hRb hpb h20 hst hmk hI.n _ (hQ.thaw (n := 4) (h0 := cp0H ⟨a, al, R0, b, bl, R1⟩))
      have hlv' := hmk.lv
      clear hI h0 hst hmk hseed
      rcases mk_cases hlv' with ⟨rfl, rfl⟩ | ⟨hp, e1, e2, e3⟩
      · cases a <;> cases b <;> cases lg <;>
        · conv => whnf
          repeat (first | (refine ⟨(by kernel_rfl : chkR _ _ _ _ = true), ?_⟩; conv => whnf) | (refine EvOr.go ?_; conv => whnf))
          intro c hc
          obtain rfl : c = false := by rw [hc]; exact decide_eq_false (by first | (show ¬ ((al.length : Nat) : Int) < ((al.length : Nat) : Int); omega) | (show ¬ ((al.length : Nat) : Int) < ((0 : Nat) : Int); omega))
          conv => whnf
          repeat (first | (refine ⟨(by kernel_rfl : chkR _ _ _ _ = true), ?_⟩; conv => whnf) | (refine EvOr.go ?_; conv => whnf))
          refine hQe _ _ (CodeT.weaken _ (StW.ofP [0, 1, 2, 3, 4, 5, 6, 7, 8, 9, 10, 11, 12, 13] ?_ ?_ ?_) h3)
          · kernel_rfl
          · rfl
          · rfl
      · simp only [e1, e2, e3] at h3 ⊢
        cases a <;> cases b <;> cases lg <;>
        · conv => whnf
          repeat (first | (refine ⟨(by kernel_rfl : chkR _ _ _ _ = true), ?_⟩; conv => whnf) | (refine EvOr.go ?_; conv => whnf))
          intro c hc
          obtain rfl : c = false := by rw [hc]; exact decide_eq_false (by first | (show ¬ ((al.length : Nat) : Int) < ((al.length : Nat) : Int); omega) | (show ¬ ((al.length : Nat) : Int) < ((0 : Nat) : Int); omega))
          conv => whnf
          repeat (first | (refine ⟨(by kernel_rfl : chkR _ _ _ _ = true), ?_⟩; conv => whnf) | (refine EvOr.go ?_; conv => whnf))
          refine hQe _ _ (CodeT.weaken _ (StW.ofP [0, 1, 2, 3, 4, 5, 6, 7, 8, 9, 10, 11, 12, 13] ?_ ?_ ?_) h3)
          · kernel_rfl
          · rfl
          · rfl
end Go.Proofs.Ytdmcbfmpnakdfaa.Eng.Rm
/- MemberCopies, walked whole. -/
namespace Go.Proofs.Ytdmcbfmpnakdfaa.Eng.Rm
open Go Go.Proofs
set_option maxRecDepth 20000
set_option maxHeartbeats 16000000
/-- A fresh member and the document's, looked at: nothing frozen is there. -/
theorem find0 (i : Int) : FunT Try.prog 129 [.sc nilS, iv i] [] (.tup [secV (zs 64), bv false]) [] := by
  refine FunT.ev tabOk mixed Try.func129 rfl ?_
  conv => whnf
  repeat (first | (refine ⟨(by kernel_rfl : chkR _ _ _ _ = true), ?_⟩; conv => whnf) | (refine EvOr.go ?_; conv => whnf))
  refine ⟨-1, rfl, ?_⟩
  conv => whnf
  repeat (first | (refine ⟨(by kernel_rfl : chkR _ _ _ _ = true), ?_⟩; conv => whnf) | (refine EvOr.go ?_; conv => whnf))
  refine CodeS.loop0 tabOk mixed (Nat.le_of_ble_eq_true rfl) ?_
  conv => whnf
  repeat (first | (refine ⟨(by kernel_rfl : chkR _ _ _ _ = true), ?_⟩; conv => whnf) | (refine EvOr.go ?_; conv => whnf))
  intro c hc
  obtain rfl : c = false := by rw [hc]; rfl
  conv => whnf
  repeat (first | (refine ⟨(by kernel_rfl : chkR _ _ _ _ = true), ?_⟩; conv => whnf) | (refine EvOr.go ?_; conv => whnf))
  exact retQ.all tabOk _ [secV (zs 64), bv false] rfl (by first | exact .inr rfl | exact .inl rfl) (by repeat' (first | exact trivial | rfl | (intro h; cases h; done) | (refine ⟨?_, ?_⟩))) rfl (by rfl) (Nat.le_of_ble_eq_true rfl) (by rfl)
abbrev ref0 : Option ABlk := refS 6 nilS nilS nilS false false
theorem may0 (k : Nat) (hk : k < 6) : FunT Try.prog 126 [rpt, iv (k : Nat)] [ref0] (bv true) [ref0] := by
  refine FunT.ev tabOk mixed Try.func126 rfl ?_
  conv => whnf
  repeat (first | (refine ⟨(by kernel_rfl : chkR _ _ _ _ = true), ?_⟩; conv => whnf) | (refine EvOr.go ?_; conv => whnf))
  intro c hc
  obtain rfl : c = true := by rw [hc]; exact decide_eq_true (by omega)
  conv => whnf
  repeat (first | (refine ⟨(by kernel_rfl : chkR _ _ _ _ = true), ?_⟩; conv => whnf) | (refine EvOr.go ?_; conv => whnf))
  intro c hc
  obtain rfl : c = true := by rw [hc]; exact decide_eq_true (by omega)
  conv => whnf
  repeat (first | (refine ⟨(by kernel_rfl : chkR _ _ _ _ = true), ?_⟩; conv => whnf) | (refine EvOr.go ?_; conv => whnf))
  exact retQ.one rfl (.inr rfl) rfl (Nat.le_of_ble_eq_true rfl) rfl
theorem seen0 (k : Nat) : FunT Try.prog 128 [rpt, iv (k : Nat)] [ref0] (secV (zs 64)) [ref0] := by
  have g := find0 (k : Nat)
  refine FunT.ev tabOk mixed Try.func128 rfl ?_
  conv => whnf
  repeat (first | (refine ⟨(by kernel_rfl : chkR _ _ _ _ = true), ?_⟩; conv => whnf) | (refine EvOr.go ?_; conv => whnf))
  refine CallG.use g c129 [] [] ?_ ?_ ?_ ?_ ?_ ?_; rfl; rfl; kernel_rfl; rfl; rfl
  conv => whnf
  repeat (first | (refine ⟨(by kernel_rfl : chkR _ _ _ _ = true), ?_⟩; conv => whnf) | (refine EvOr.go ?_; conv => whnf))
  refine CallG.use g c129 [] [] ?_ ?_ ?_ ?_ ?_ ?_; rfl; rfl; kernel_rfl; rfl; rfl
  conv => whnf
  repeat (first | (refine ⟨(by kernel_rfl : chkR _ _ _ _ = true), ?_⟩; conv => whnf) | (refine EvOr.go ?_; conv => whnf))
  exact retQ.all tabOk _ [secV (zs 64)] rfl (by first | exact .inr rfl | exact .inl rfl) (by repeat' (first | exact trivial | rfl | (intro h; cases h; done) | (refine ⟨?_, ?_⟩))) rfl (by rfl) (Nat.le_of_ble_eq_true rfl) (by rfl)
theorem read0 (k : Nat) (hk : k < 6) : FunT Try.prog 103 [rpt, iv (k : Nat)] [ref0] (.tup [secV (zs 64), iv 0]) [ref0] := by
  have g0 := may0 k hk
  have g1 := seen0 k
  refine FunT.ev tabOk mixed Try.func103 rfl ?_
  conv => whnf
  repeat (first | (refine ⟨(by kernel_rfl : chkR _ _ _ _ = true), ?_⟩; conv => whnf) | (refine EvOr.go ?_; conv => whnf))
  refine CallG.use g0 c126 [0] [] ?_ ?_ ?_ ?_ ?_ ?_; rfl; rfl; kernel_rfl; rfl; rfl
  conv => whnf
  repeat (first | (refine ⟨(by kernel_rfl : chkR _ _ _ _ = true), ?_⟩; conv => whnf) | (refine EvOr.go ?_; conv => whnf))
  refine CallG.use g1 c128 [0] [] ?_ ?_ ?_ ?_ ?_ ?_; rfl; rfl; kernel_rfl; rfl; rfl
  conv => whnf
  repeat (first | (refine ⟨(by kernel_rfl : chkR _ _ _ _ = true), ?_⟩; conv => whnf) | (refine EvOr.go ?_; conv => whnf))
  exact retQ.all tabOk _ [secV (zs 64), iv 0] rfl (by first | exact .inr rfl | exact .inl rfl) (by repeat' (first | exact trivial | rfl | (intro h; cases h; done) | (refine ⟨?_, ?_⟩))) rfl (by rfl) (Nat.le_of_ble_eq_true rfl) (by rfl)
theorem look0 (k : Nat) (hk : k < 6) : FunT Try.prog 104 [rpt, iv (k : Nat)] [ref0] (.tup [secV (zs 64), iv 0]) [ref0] := by
  have g0 := may0 k hk
  have g1 := find0 (k : Nat)
  refine FunT.ev tabOk mixed Try.func104 rfl ?_
  conv => whnf
  repeat (first | (refine ⟨(by kernel_rfl : chkR _ _ _ _ = true), ?_⟩; conv => whnf) | (refine EvOr.go ?_; conv => whnf))
  refine CallG.use g0 c126 [0] [] ?_ ?_ ?_ ?_ ?_ ?_; rfl; rfl; kernel_rfl; rfl; rfl
  conv => whnf
  repeat (first | (refine ⟨(by kernel_rfl : chkR _ _ _ _ = true), ?_⟩; conv => whnf) | (refine EvOr.go ?_; conv => whnf))
  refine CallG.use g1 c129 [] [] ?_ ?_ ?_ ?_ ?_ ?_; rfl; rfl; kernel_rfl; rfl; rfl
  conv => whnf
  repeat (first | (refine ⟨(by kernel_rfl : chkR _ _ _ _ = true), ?_⟩; conv => whnf) | (refine EvOr.go ?_; conv => whnf))
  exact retQ.all tabOk _ [secV (zs 64), iv 0] rfl (by first | exact .inr rfl | exact .inl rfl) (by repeat' (first | exact trivial | rfl | (intro h; cases h; done) | (refine ⟨?_, ?_⟩))) rfl (by rfl) (Nat.le_of_ble_eq_true rfl) (by rfl)
abbrev lk0H : LHp := [some (memB (newM 6) .nil .nil), imB [], imB [], none, none, ref0]
theorem looks0 (k : Nat) (hk : k < 6) : FunT Try.prog 42 [mpv, .sc (.ptr 5 0 6 0), iv (k : Nat)] lk0H (bv true) lk0H := by
  have i0 : ioE (newM 6) (k : Nat) = 0 := by unfold ioE; rw [if_neg (by show ¬ ((k : Int) < 0 ∨ (6 : Int) ≤ k); omega)]; rfl
  have m0 : mayE (newM 6) (k : Nat) = 0 := by unfold mayE; rw [if_neg (by show ¬ ((k : Int) < 0 ∨ (6 : Int) ≤ k); omega)]
  have gR : FunT Try.prog 33 [mpv, iv (k : Nat)] (hMs (newM 6) .nil .nil) (.tup [secV (zs 64), iv 0]) (hMs (newM 6) .nil .nil) := read_ok (newM 6) .nil .nil (k : Nat) (by decide) i0
  have gL : FunT Try.prog 39 [mpv, iv (k : Nat)] (hMd (newM 6) .nil .nil) (.tup [secV (zs 64), iv 0]) (hMd (newM 6) .nil .nil) := look_ok (newM 6) .nil .nil (k : Nat) (by decide) m0
  have gT := touched_ok (newM 6) .nil .nil (by decide)
  have gU := unflushed_ok (newM 6) .nil .nil rfl (by decide)
  have gN := len_ok (newM 6) .nil .nil (by decide)
  have xR := read0 k hk
  have xL := look0 k hk
  refine FunT.ev tabOk mixed Try.func42 rfl ?_
  conv => whnf
  repeat (first | (refine ⟨(by kernel_rfl : chkR _ _ _ _ = true), ?_⟩; conv => whnf) | (refine EvOr.go ?_; conv => whnf))
  refine CallG.use gR c33 [0, 1, 2, 3, 4] [] ?_ ?_ ?_ ?_ ?_ ?_; rfl; rfl; kernel_rfl; rfl; rfl
  conv => whnf
  repeat (first | (refine ⟨(by kernel_rfl : chkR _ _ _ _ = true), ?_⟩; conv => whnf) | (refine EvOr.go ?_; conv => whnf))
  refine CallG.use xR c103 [5] [] ?_ ?_ ?_ ?_ ?_ ?_; rfl; rfl; kernel_rfl; rfl; rfl
  conv => whnf
  repeat (first | (refine ⟨(by kernel_rfl : chkR _ _ _ _ = true), ?_⟩; conv => whnf) | (refine EvOr.go ?_; conv => whnf))
  refine CallG.use gL c39 [0, 1, 2, 3, 4] [] ?_ ?_ ?_ ?_ ?_ ?_; rfl; rfl; kernel_rfl; rfl; rfl
  conv => whnf
  repeat (first | (refine ⟨(by kernel_rfl : chkR _ _ _ _ = true), ?_⟩; conv => whnf) | (refine EvOr.go ?_; conv => whnf))
  refine CallG.use xL c104 [5] [] ?_ ?_ ?_ ?_ ?_ ?_; rfl; rfl; kernel_rfl; rfl; rfl
  conv => whnf
  repeat (first | (refine ⟨(by kernel_rfl : chkR _ _ _ _ = true), ?_⟩; conv => whnf) | (refine EvOr.go ?_; conv => whnf))
  refine ⟨rfl, ?_⟩
  refine ⟨eq34, ?_⟩
  conv => whnf
  repeat (first | (refine ⟨(by kernel_rfl : chkR _ _ _ _ = true), ?_⟩; conv => whnf) | (refine EvOr.go ?_; conv => whnf))
  intro c hc
  obtain rfl : c = true := hc.2 rfl
  conv => whnf
  repeat (first | (refine ⟨(by kernel_rfl : chkR _ _ _ _ = true), ?_⟩; conv => whnf) | (refine EvOr.go ?_; conv => whnf))
  intro c hc
  obtain rfl : c = true := by rw [hc]; rfl
  conv => whnf
  repeat (first | (refine ⟨(by kernel_rfl : chkR _ _ _ _ = true), ?_⟩; conv => whnf) | (refine EvOr.go ?_; conv => whnf))
  refine ⟨rfl, ?_⟩
  refine ⟨eq34, ?_⟩
  conv => whnf
  repeat (first | (refine ⟨(by kernel_rfl : chkR _ _ _ _ = true), ?_⟩; conv => whnf) | (refine EvOr.go ?_; conv => whnf))
  intro c hc
  obtain rfl : c = true := hc.2 rfl
  conv => whnf
  repeat (first | (refine ⟨(by kernel_rfl : chkR _ _ _ _ = true), ?_⟩; conv => whnf) | (refine EvOr.go ?_; conv => whnf))
  intro c hc
  obtain rfl : c = true := by rw [hc]; rfl
  conv => whnf
  repeat (first | (refine ⟨(by kernel_rfl : chkR _ _ _ _ = true), ?_⟩; conv => whnf) | (refine EvOr.go ?_; conv => whnf))
  refine CallG.use gT c35 [0, 1, 2, 3, 4] [] ?_ ?_ ?_ ?_ ?_ ?_; rfl; rfl; kernel_rfl; rfl; rfl
  conv => whnf
  repeat (first | (refine ⟨(by kernel_rfl : chkR _ _ _ _ = true), ?_⟩; conv => whnf) | (refine EvOr.go ?_; conv => whnf))
  refine CallG.use gU c30 [0, 1, 2, 3, 4] [] ?_ ?_ ?_ ?_ ?_ ?_; rfl; rfl; kernel_rfl; rfl; rfl
  conv => whnf
  repeat (first | (refine ⟨(by kernel_rfl : chkR _ _ _ _ = true), ?_⟩; conv => whnf) | (refine EvOr.go ?_; conv => whnf))
  intro c hc
  obtain rfl : c = true := by rw [hc]; rfl
  conv => whnf
  repeat (first | (refine ⟨(by kernel_rfl : chkR _ _ _ _ = true), ?_⟩; conv => whnf) | (refine EvOr.go ?_; conv => whnf))
  refine CallG.use gN c49 [0, 1, 2, 3, 4] [] ?_ ?_ ?_ ?_ ?_ ?_; rfl; rfl; kernel_rfl; rfl; rfl
  conv => whnf
  repeat (first | (refine ⟨(by kernel_rfl : chkR _ _ _ _ = true), ?_⟩; conv => whnf) | (refine EvOr.go ?_; conv => whnf))
  intro c hc
  obtain rfl : c = true := by rw [hc]; rfl
  conv => whnf
  repeat (first | (refine ⟨(by kernel_rfl : chkR _ _ _ _ = true), ?_⟩; conv => whnf) | (refine EvOr.go ?_; conv => whnf))
  exact retQ.one rfl (.inr rfl) rfl (Nat.le_of_ble_eq_true rfl) rfl
abbrev cp00 : LHp := [none, none, none, none, some (memG (newM 6) .nil .nil 5 6 7 8), imB [], imB [], none, none, ref0, some (memG (newM 6) .nil .nil 11 12 13 14), imB [], imB [], none, none, ref0]
def cI00 (k : Nat) : LTm × LHp := ([.junk, .junk, .junk, .junk, .junk, .sc (.ptr 4 0 7 0), .junk, .sc (.ptr 9 0 6 0), .junk, .sc (.ptr 10 0 7 0), .sc (.ptr 15 0 6 0), .junk, iv (k : Nat), .junk, .junk, .junk, .junk, .junk, .junk, .junk, .junk, .junk, .junk, .junk, .junk, .junk, .junk, .junk, .junk, .junk, .junk, .junk, .junk, .junk, .junk, .junk, .junk, .junk, .junk, .junk, .junk, .junk, .junk, .junk, .junk, .junk, .junk, .junk, .junk, .junk, .junk, .junk, .junk, .junk, .junk, .junk, .junk, .junk, .junk, .junk, .junk, .junk, .junk, .junk, .junk, .junk, .junk, .junk, .junk, .junk, .junk, .junk, .junk, .junk, .junk, .junk, .junk, .junk, .junk, .junk, .junk], cp00)
/-- No acts at all. -/
theorem copies_none : FunT Try.prog 9 [.sc nilS, .sc nilS] [none, none, none, none] (bv true) [none, none, none, none] := by
  have gZ := awake_ok
  have gN := new_ok 6 (by decide) (by decide)
  have gM := made_ok 6
  have gC := copy_ok (newM 6) .nil rfl (by decide) (by decide)
  have gD := rcopy_ok 6 nilSl nilSl .nil false false
  have gL := looks0
  obtain ⟨I, hI⟩ : ∃ I, I = cI00 := ⟨_, rfl⟩
  refine FunT.ev tabOk mixed Try.func9 rfl ?_
  conv => whnf
  repeat (first | (refine ⟨(by kernel_rfl : chkR _ _ _ _ = true), ?_⟩; conv => whnf) | (refine EvOr.go ?_; conv => whnf))
  intro c hc
  obtain rfl : c = false := by rw [hc]; rfl
  conv => whnf
  repeat (first | (refine ⟨(by kernel_rfl : chkR _ _ _ _ = true), ?_⟩; conv => whnf) | (refine EvOr.go ?_; conv => whnf))
  intro c hc
  obtain rfl : c = false := by rw [hc]; rfl
  conv => whnf
  repeat (first | (refine ⟨(by kernel_rfl : chkR _ _ _ _ = true), ?_⟩; conv => whnf) | (refine EvOr.go ?_; conv => whnf))
  refine CallG.use gN c27 [] [] ?_ ?_ ?_ ?_ ?_ ?_; rfl; rfl; kernel_rfl; rfl; rfl
  conv => whnf
  repeat (first | (refine ⟨(by kernel_rfl : chkR _ _ _ _ = true), ?_⟩; conv => whnf) | (refine EvOr.go ?_; conv => whnf))
  intro c hc
  obtain rfl : c = false := by rw [hc]; rfl
  conv => whnf
  repeat (first | (refine ⟨(by kernel_rfl : chkR _ _ _ _ = true), ?_⟩; conv => whnf) | (refine EvOr.go ?_; conv => whnf))
  refine CallG.use gM c40 [] [] ?_ ?_ ?_ ?_ ?_ ?_; rfl; rfl; kernel_rfl; rfl; rfl
  conv => whnf
  repeat (first | (refine ⟨(by kernel_rfl : chkR _ _ _ _ = true), ?_⟩; conv => whnf) | (refine EvOr.go ?_; conv => whnf))
  refine CodeS.loop0 tabOk mixed (Nat.le_of_ble_eq_true rfl) ?_
  conv => whnf
  repeat (first | (refine ⟨(by kernel_rfl : chkR _ _ _ _ = true), ?_⟩; conv => whnf) | (refine EvOr.go ?_; conv => whnf))
  intro c hc
  obtain rfl : c = false := by rw [hc]; rfl
  conv => whnf
  repeat (first | (refine ⟨(by kernel_rfl : chkR _ _ _ _ = true), ?_⟩; conv => whnf) | (refine EvOr.go ?_; conv => whnf))
  refine CallG.use gC c31 [4, 5, 6, 7, 8] [] ?_ ?_ ?_ ?_ ?_ ?_; rfl; rfl; kernel_rfl; rfl; rfl
  conv => whnf
  repeat (first | (refine ⟨(by kernel_rfl : chkR _ _ _ _ = true), ?_⟩; conv => whnf) | (refine EvOr.go ?_; conv => whnf))
  refine CallG.use gD c45 [9, 0, 1, 2] [] ?_ ?_ ?_ ?_ ?_ ?_; rfl; rfl; kernel_rfl; rfl; rfl
  conv => whnf
  repeat (first | (refine ⟨(by kernel_rfl : chkR _ _ _ _ = true), ?_⟩; conv => whnf) | (refine EvOr.go ?_; conv => whnf))
  refine CodeS.loop0 tabOk mixed (Nat.le_of_ble_eq_true rfl) ?_
  conv => whnf
  repeat (first | (refine ⟨(by kernel_rfl : chkR _ _ _ _ = true), ?_⟩; conv => whnf) | (refine EvOr.go ?_; conv => whnf))
  intro c hc
  obtain rfl : c = false := by rw [hc]; rfl
  conv => whnf
  repeat (first | (refine ⟨(by kernel_rfl : chkR _ _ _ _ = true), ?_⟩; conv => whnf) | (refine EvOr.go ?_; conv => whnf))
  refine CodeT.loopN tabOk mixed I 6 _ (StW.ofP [0, 1, 2, 3, 4, 5, 6, 7, 8, 9, 10, 11, 12, 13, 14, 15] ?_ ?_ ?_) (fun k => by subst hI; rfl) ?_
  · subst hI; kernel_rfl
  · subst hI; rfl
  · subst hI; rfl
  intro k hkl
  subst hI
  conv => whnf
  repeat (first | (refine ⟨(by kernel_rfl : chkR _ _ _ _ = true), ?_⟩; conv => whnf) | (refine EvOr.go ?_; conv => whnf))
  intro c hc
  by_cases hk : k < 6
  · obtain rfl : c = true := by rw [hc]; exact decide_eq_true (by omega)
    conv => whnf
    repeat (first | (refine ⟨(by kernel_rfl : chkR _ _ _ _ = true), ?_⟩; conv => whnf) | (refine EvOr.go ?_; conv => whnf))
    refine CallG.use (gL k hk) c42 [4, 5, 6, 7, 8, 9] [] ?_ ?_ ?_ ?_ ?_ ?_; rfl; rfl; kernel_rfl; rfl; rfl
    conv => whnf
    repeat (first | (refine ⟨(by kernel_rfl : chkR _ _ _ _ = true), ?_⟩; conv => whnf) | (refine EvOr.go ?_; conv => whnf))
    refine CallG.use (gL k hk) c42 [10, 11, 12, 13, 14, 15] [] ?_ ?_ ?_ ?_ ?_ ?_; rfl; rfl; kernel_rfl; rfl; rfl
    conv => whnf
    repeat (first | (refine ⟨(by kernel_rfl : chkR _ _ _ _ = true), ?_⟩; conv => whnf) | (refine EvOr.go ?_; conv => whnf))
    refine ⟨_, inc_nat (by omega), ?_⟩
    conv => whnf
    repeat (first | (refine ⟨(by kernel_rfl : chkR _ _ _ _ = true), ?_⟩; conv => whnf) | (refine EvOr.go ?_; conv => whnf))
    refine ⟨by first | exact hk | omega, _, StW.ofP [0, 1, 2, 3, 4, 5, 6, 7, 8, 9, 10, 11, 12, 13, 14, 15] ?_ ?_ ?_⟩
    · kernel_rfl
    · rfl
    · rfl
  · obtain rfl : c = false := by rw [hc]; exact decide_eq_false (by omega)
    conv => whnf
    repeat (first | (refine ⟨(by kernel_rfl : chkR _ _ _ _ = true), ?_⟩; conv => whnf) | (refine EvOr.go ?_; conv => whnf))
    refine CallG.use gZ c26 [] [] ?_ ?_ ?_ ?_ ?_ ?_; rfl; rfl; kernel_rfl; rfl; rfl
    conv => whnf
    repeat (first | (refine ⟨(by kernel_rfl : chkR _ _ _ _ = true), ?_⟩; conv => whnf) | (refine EvOr.go ?_; conv => whnf))
    exact retQ.oneS [0, 1, 2, 3] rfl (by first | exact .inr rfl | exact .inl rfl) rfl (by kernel_rfl) (by first | rfl | kernel_rfl)
theorem fin9 : Fin 4 (bv true) (retQ Try.prog Try.f9 4 (bv true) [none, none, none, none]) := fun l' h' ht => retQ.oneS [0, 1, 2, 3] rfl (.inr rfl) (by rw [ht]; rfl) (by kernel_rfl) (by rfl)
theorem copies_ok (a b : Ar) (al bl : List ActV) (R0 R1 : List (Nat × Obj)) (pa pb : ActV → List Int) (ha : a.ok al) (hb : b.ok bl) (hRa : ∀ x ∈ al, PkOk R0 x.p (pa x)) (hpa : ∀ x ∈ al, (pa x).length ≤ 2 ^ 47 - 4096) (hRb : ∀ x ∈ bl, PkOk R1 x.p (pb x)) (hpb : ∀ x ∈ bl, (pb x).length ≤ 2 ^ 47 - 4096) :
    FunT Try.prog 9 [.sc (a.sv al.length 0), .sc (b.sv bl.length 2)] [arB a al, famO a R0, arB b bl, famO b R1] (bv true) [none, none, none, none] := by
  have gZ := awake_ok
  have gN := new_ok 6 (by decide) (by decide)
  have gM := made_ok 6
  by_cases h40 : al.length ≤ 40
  · by_cases h20 : bl.length ≤ 20
    · by_cases hn : a = .nil ∧ b = .nil
      · obtain ⟨rfl, rfl⟩ := hn
        obtain rfl : al = [] := ha
        obtain rfl : bl = [] := hb
        exact copies_none
      · have hseed : ∃ sd RS, sd < 4 ∧ hpL (cp0H ⟨a, al, R0, b, bl, R1⟩) sd = some (famB RS) := by
          cases a with
          | row => exact ⟨1, R0, by decide, rfl⟩
          | nil =>
            cases b with
            | row => exact ⟨3, R1, by decide, rfl⟩
            | nil => exact absurd ⟨rfl, rfl⟩ hn
        obtain ⟨sd, RS, h1, h2⟩ := hseed
        have gS := cop1 a b al bl R0 R1 pa pb sd RS h1 h2 ha hb hRa hpa hRb hpb h40 h20 _ fin9
        have hla : a = .nil → al = [] := fun h => by subst h; exact ha
        have hlb : b = .nil → bl = [] := fun h => by subst h; exact hb
        cases a <;> cases b <;>
        · refine FunT.ev tabOk mixed Try.func9 rfl ?_
          conv => whnf
          repeat (first | (refine ⟨(by kernel_rfl : chkR _ _ _ _ = true), ?_⟩; conv => whnf) | (refine EvOr.go ?_; conv => whnf))
          intro c hc
          obtain rfl : c = false := by rw [hc]; first | exact decide_eq_false (by omega) | (rw [hla rfl]; rfl)
          conv => whnf
          repeat (first | (refine ⟨(by kernel_rfl : chkR _ _ _ _ = true), ?_⟩; conv => whnf) | (refine EvOr.go ?_; conv => whnf))
          intro c hc
          obtain rfl : c = false := by rw [hc]; first | exact decide_eq_false (by omega) | (rw [hlb rfl]; rfl)
          conv => whnf
          repeat (first | (refine ⟨(by kernel_rfl : chkR _ _ _ _ = true), ?_⟩; conv => whnf) | (refine EvOr.go ?_; conv => whnf))
          refine CallG.use gN c27 [] [] ?_ ?_ ?_ ?_ ?_ ?_; rfl; rfl; kernel_rfl; rfl; rfl
          conv => whnf
          repeat (first | (refine ⟨(by kernel_rfl : chkR _ _ _ _ = true), ?_⟩; conv => whnf) | (refine EvOr.go ?_; conv => whnf))
          intro c hc
          obtain rfl : c = false := by rw [hc]; rfl
          conv => whnf
          repeat (first | (refine ⟨(by kernel_rfl : chkR _ _ _ _ = true), ?_⟩; conv => whnf) | (refine EvOr.go ?_; conv => whnf))
          refine CallG.use gM c40 [] [] ?_ ?_ ?_ ?_ ?_ ?_; rfl; rfl; kernel_rfl; rfl; rfl
          conv => whnf
          repeat (refine ⟨(by kernel_rfl : chkR _ _ _ _ = true), ?_⟩; conv => whnf)
          refine EvOr.cut (CodeT.weaken _ (StW.ofP [0, 1, 2, 3, 4, 5, 6, 7, 8, 9] ?_ ?_ ?_) gS)
          · kernel_rfl
          · rfl
          · rfl
    · cases a <;> cases b <;>
      · refine FunT.ev tabOk mixed Try.func9 rfl ?_
        conv => whnf
        repeat (first | (refine ⟨(by kernel_rfl : chkR _ _ _ _ = true), ?_⟩; conv => whnf) | (refine EvOr.go ?_; conv => whnf))
        intro c hc
        obtain rfl : c = false := by rw [hc]; first | exact decide_eq_false (by omega) | rfl
        conv => whnf
        repeat (first | (refine ⟨(by kernel_rfl : chkR _ _ _ _ = true), ?_⟩; conv => whnf) | (refine EvOr.go ?_; conv => whnf))
        intro c hc
        obtain rfl : c = true := by rw [hc]; first | exact decide_eq_true (by omega) | (exfalso; rw [show bl = [] from hb] at h20; exact h20 (Nat.zero_le _))
        conv => whnf
        repeat (first | (refine ⟨(by kernel_rfl : chkR _ _ _ _ = true), ?_⟩; conv => whnf) | (refine EvOr.go ?_; conv => whnf))
        refine CallG.use gZ c26 [] [] ?_ ?_ ?_ ?_ ?_ ?_; rfl; rfl; kernel_rfl; rfl; rfl
        conv => whnf
        repeat (first | (refine ⟨(by kernel_rfl : chkR _ _ _ _ = true), ?_⟩; conv => whnf) | (refine EvOr.go ?_; conv => whnf))
        exact retQ.oneS [0, 1, 2, 3] rfl (by first | exact .inr rfl | exact .inl rfl) rfl (by kernel_rfl) (by first | rfl | kernel_rfl)
  · cases a with
    | nil => exact absurd (by rw [show al = [] from ha]; exact Nat.zero_le _) h40
    | row =>
      cases b <;>
      · refine FunT.ev tabOk mixed Try.func9 rfl ?_
        conv => whnf
        repeat (first | (refine ⟨(by kernel_rfl : chkR _ _ _ _ = true), ?_⟩; conv => whnf) | (refine EvOr.go ?_; conv => whnf))
        intro c hc
        obtain rfl : c = true := by rw [hc]; exact decide_eq_true (by omega)
        conv => whnf
        repeat (first | (refine ⟨(by kernel_rfl : chkR _ _ _ _ = true), ?_⟩; conv => whnf) | (refine EvOr.go ?_; conv => whnf))
        refine CallG.use gZ c26 [] [] ?_ ?_ ?_ ?_ ?_ ?_; rfl; rfl; kernel_rfl; rfl; rfl
        conv => whnf
        repeat (first | (refine ⟨(by kernel_rfl : chkR _ _ _ _ = true), ?_⟩; conv => whnf) | (refine EvOr.go ?_; conv => whnf))
        exact retQ.oneS [0, 1, 2, 3] rfl (by first | exact .inr rfl | exact .inl rfl) rfl (by kernel_rfl) (by first | rfl | kernel_rfl)
end Go.Proofs.Ytdmcbfmpnakdfaa.Eng.Rm
