/- MemberBack, walked whole. -/
import Derived.Test.YtdmcbfmpnakdfaaMw
namespace Go.Proofs.Ytdmcbfmpnakdfaa.Eng
open Go Go.Proofs
set_option maxRecDepth 20000
set_option maxHeartbeats 4000000
/-- One act's contract in a run of acts. -/
theorem aM_does (M : Mem) (lg : Lg) (mk : Mk) (pks : ActV → List Int) (l : List ActV) (R : List (Nat × Obj)) (n : Int) (m : Nat) (hn : 0 < n) (hK : Keep M lg n m) (hb : m + l.length < 2 ^ 32) (hR : ∀ x ∈ l, PkOk R x.p (pks x)) (k : Nat) (hk : k < l.length) :
    ∃ x : ActV, (l.map actSegs)[0 + (k : Int).toNat]? = some (actSegs x) ∧ (∃ ad n cp, x.p = .slice ad n cp) ∧
      FunT Try.prog 36 [mpv, .agg (actSegs x)] (hM4 (aM M lg pks l k).1 (aM M lg pks l k).2 mk ++ [some (famB R)]) (.tup []) [some (memG (aM M lg pks l (k + 1)).1 (aM M lg pks l (k + 1)).2 mk 6 2 7 4), none, imB (aM M lg pks l (k + 1)).1.dur, none, none, some (famB R), imB (aM M lg pks l (k + 1)).1.seen, logB (aM M lg pks l (k + 1)).1 (aM M lg pks l (k + 1)).2] := by
  have hKk := keep_aM pks l hK k
  exact ⟨l[k], act_get hk, pk_sl (hR _ (List.getElem_mem _)), doesF (aM M lg pks l k).1 (aM M lg pks l (k + 1)).1 (aM M lg pks l k).2 (aM M lg pks l (k + 1)).2 mk l[k] (pks l[k]) R (hR _ (List.getElem_mem _))
    (aM_succ hk).1 (aM_succ hk).2 hKk.ok (by rw [hKk.n]; exact hn) hKk.fails (by have := hKk.len; omega)⟩
def bacI2 (bl : List ActV) (R : List (Nat × Obj)) (W : Mem) (lw : Lg) (A : Mem × Lg) (k : Nat) : LTm × LHp :=
  ([.junk, .sc (Ar.row.sv bl.length 1), .junk, .junk, .junk, .sc (.ptr 4 0 7 0), .junk, .junk, .sc (.ptr 9 0 7 0), iv 0, iv 0, iv (k : Nat), .junk, .junk, .junk, .junk, .junk, .junk, .junk, .junk, .junk, .junk, .junk, .junk, .junk, .junk, .junk, .junk, .junk, .junk, .junk, .junk, .junk, .junk, .junk, .junk, .junk, .junk, .junk, .junk, .junk, .junk, .junk, .junk, .junk, .junk, .junk, .junk, .junk, .junk, .junk, .junk, .junk, .junk, .junk, .junk, .junk, .junk, .junk, .junk, .junk, .junk, .junk, .junk, .junk, .junk, .junk, .junk, .junk, .junk, .junk, .junk, .junk, .junk, .junk, .junk, .junk, .junk, .junk, .junk, .junk, .junk, .junk, .junk, .junk, .junk, .junk, .junk, .junk, .junk, .junk, .junk, .junk, .junk, .junk, .junk, .junk, .junk, .junk, .junk, .junk, .junk, .junk, .junk, .junk, .junk, .junk, .junk, .junk, .junk, .junk, .junk, .junk, .junk, .junk, .junk], [none, arB .row bl, none, some (famB R)] ++ bacH A.1 W A.2 lw)
theorem bac7 (b : Ar) (bl : List ActV) (R : List (Nat × Obj)) (pks : ActV → List Int) (M W : Mem) (lg lw : Lg) (hb : b.ok bl) (hbl : bl.length ≤ 30) (hR : ∀ x ∈ bl, PkOk R x.p (pks x)) (hK : Keep M lg 6 30) (hW : W.n = 6 ∧ W.fails = false) (hl0 : lw = .nil ∨ lw = .ex ∨ lw = .inx []) :
    CodeT Try.prog 4 (suf 7 (bodyC Try.f8)) ([.junk, .sc (b.sv bl.length 1), .junk, .junk, .junk, .sc (.ptr 4 0 7 0), .junk, .junk, .sc (.ptr 9 0 7 0), iv 0, iv 0, .junk, .junk, .junk, .junk, .junk, .junk, .junk, .junk, .junk, .junk, .junk, .junk, .junk, .junk, .junk, .junk, .junk, .junk, .junk, .junk, .junk, .junk, .junk, .junk, .junk, .junk, .junk, .junk, .junk, .junk, .junk, .junk, .junk, .junk, .junk, .junk, .junk, .junk, .junk, .junk, .junk, .junk, .junk, .junk, .junk, .junk, .junk, .junk, .junk, .junk, .junk, .junk, .junk, .junk, .junk, .junk, .junk, .junk, .junk, .junk, .junk, .junk, .junk, .junk, .junk, .junk, .junk, .junk, .junk, .junk, .junk, .junk, .junk, .junk, .junk, .junk, .junk, .junk, .junk, .junk, .junk, .junk, .junk, .junk, .junk, .junk, .junk, .junk, .junk, .junk, .junk, .junk, .junk, .junk, .junk, .junk, .junk, .junk, .junk, .junk, .junk, .junk, .junk, .junk, .junk]) ([none, arB b bl, none, famO b R] ++ bacH M W lg lw) (retQ Try.prog Try.f8 4 (bv true) [none, none, none, none]) := by
  have hKe := keep_aM pks bl hK bl.length
  have gS := bac8 (aM M lg pks bl bl.length).1 W (aM M lg pks bl bl.length).2 lw ⟨hKe.n, hKe.fails⟩ hW
  by_cases hbn : b = .nil
  · subst hbn
    obtain rfl : bl = [] := hb
    have gS : CodeT Try.prog 4 (suf 8 (bodyC Try.f8)) _ ([none, none, none, none] ++ bacH M W lg lw) _ := gS
    cases lg <;> rcases hl0 with rfl | rfl | rfl <;>
    · refine evC_sound tabOk mixed _ _ _ _ ?_
      conv => whnf
      repeat (first | (refine ⟨(by kernel_rfl : chkR _ _ _ _ = true), ?_⟩; conv => whnf) | (refine EvOr.go ?_; conv => whnf))
      refine CodeS.loop0 tabOk mixed (Nat.le_of_ble_eq_true rfl) ?_
      conv => whnf
      repeat (first | (refine ⟨(by kernel_rfl : chkR _ _ _ _ = true), ?_⟩; conv => whnf) | (refine EvOr.go ?_; conv => whnf))
      intro c hc
      obtain rfl : c = false := by rw [hc]; rfl
      conv => whnf
      refine ⟨(by kernel_rfl : chkR _ _ _ _ = true), ?_⟩
      conv => whnf
      refine EvOr.go ?_
      conv => whnf
      refine EvOr.cut (CodeT.weaken _ (StW.ofP [0, 1, 2, 3, 4, 5, 6, 7, 8, 9, 10, 11, 12, 13, 14] ?_ ?_ ?_) (gS))
      · kernel_rfl
      · rfl
      · rfl
  obtain rfl : b = .row := by
    cases b
    · exact absurd rfl hbn
    · rfl
  have gD := aM_does M lg (.row 1) pks bl R 6 30 (by decide) hK (by omega) hR
  have hF0 : aM M lg pks bl 0 = (M, lg) := rfl
  obtain ⟨F, hF⟩ : ∃ F, F = aM M lg pks bl := ⟨_, rfl⟩
  rw [← hF] at gD gS hF0
  obtain ⟨I, hI⟩ : ∃ I, I = fun k => bacI2 bl R W lw (F k) k := ⟨_, rfl⟩
  clear hF hKe
  cases lg <;> rcases hl0 with rfl | rfl | rfl <;>
  · refine evC_sound tabOk mixed _ _ _ _ ?_
    conv => whnf
    repeat (first | (refine ⟨(by kernel_rfl : chkR _ _ _ _ = true), ?_⟩; conv => whnf) | (refine EvOr.go ?_; conv => whnf))
    refine CodeT.loopN tabOk mixed I bl.length _ (StW.ofP [0, 1, 2, 3, 4, 5, 6, 7, 8, 9, 10, 11, 12, 13, 14] ?_ ?_ ?_) (fun k => by subst hI; rfl) ?_
    · subst hI
      show stP _ _ (bacI2 bl R W _ (F 0) 0).2 = true
      rw [hF0]; kernel_rfl
    · subst hI
      show maskT _ (bacI2 bl R W _ (F 0) 0).1 = renT _ (bacI2 bl R W _ (F 0) 0).1
      rw [hF0]; rfl
    · subst hI
      show pickH _ _ 0 (bacI2 bl R W _ (F 0) 0).2 = renH _ (bacI2 bl R W _ (F 0) 0).2
      rw [hF0]; rfl
    intro k hkl
    subst hI
    have gD := gD k
    have hkk : k = bl.length → F k = F bl.length := fun h => by rw [h]
    show evC Try.prog tab _ _ (bacI2 bl R W _ (F k) k).1 (bacI2 bl R W _ (F k) k).2 _
    generalize F bl.length = AE at gS hkk
    generalize hN : F (k + 1) = AN at gD
    generalize F k = A at gD hkk ⊢
    obtain ⟨M1, lg⟩ := A
    obtain ⟨M', lg'⟩ := AN
    cases lg <;> cases lg' <;>
    · conv => whnf
      repeat (first | (refine ⟨(by kernel_rfl : chkR _ _ _ _ = true), ?_⟩; conv => whnf) | (refine EvOr.go ?_; conv => whnf))
      intro c hc
      by_cases hk : k < bl.length
      · obtain rfl : c = true := by rw [hc]; exact decide_eq_true (by omega)
        conv => whnf
        repeat (first | (refine ⟨(by kernel_rfl : chkR _ _ _ _ = true), ?_⟩; conv => whnf) | (refine EvOr.go ?_; conv => whnf))
        refine ⟨⟨by omega, by omega⟩, ?_⟩
        conv => whnf
        repeat (first | (refine ⟨(by kernel_rfl : chkR _ _ _ _ = true), ?_⟩; conv => whnf) | (refine EvOr.go ?_; conv => whnf))
        obtain ⟨⟨aD, aI, aS, aP, aO⟩, g1, ⟨ad, n, cp, g3⟩, g2⟩ := gD hk
        replace g3 : aP = .slice ad n cp := g3
        subst g3
        refine ⟨_, g1, ?_⟩
        conv => whnf
        repeat (first | (refine ⟨(by kernel_rfl : chkR _ _ _ _ = true), ?_⟩; conv => whnf) | (refine EvOr.go ?_; conv => whnf))
        refine CallG.use g2 c36 [4, 5, 6, 7, 8, 3] [0, 1, 2, 3] ?_ ?_ ?_ ?_ ?_ ?_; rfl; rfl; kernel_rfl; rfl; rfl
        conv => whnf
        repeat (first | (refine ⟨(by kernel_rfl : chkR _ _ _ _ = true), ?_⟩; conv => whnf) | (refine EvOr.go ?_; conv => whnf))
        refine ⟨_, inc_nat (by omega), ?_⟩
        conv => whnf
        repeat (first | (refine ⟨(by kernel_rfl : chkR _ _ _ _ = true), ?_⟩; conv => whnf) | (refine EvOr.go ?_; conv => whnf))
        refine ⟨by omega, _, StW.ofP [0, 1, 2, 3, 4, 15, 6, 16, 8, 9, 10, 11, 12, 13, 14] ?_ ?_ ?_⟩
        · show stP _ _ (bacI2 bl R W _ _ (k + 1)).2 = true
          rw [hN]; kernel_rfl
        · show maskT _ (bacI2 bl R W _ _ (k + 1)).1 = renT _ (bacI2 bl R W _ _ (k + 1)).1
          rw [hN]; rfl
        · show pickH _ _ 0 (bacI2 bl R W _ _ (k + 1)).2 = renH _ (bacI2 bl R W _ _ (k + 1)).2
          rw [hN]; rfl
      · obtain rfl : c = false := by rw [hc]; exact decide_eq_false (by omega)
        obtain rfl := hkk (by omega)
        conv => whnf
        refine ⟨(by kernel_rfl : chkR _ _ _ _ = true), ?_⟩
        conv => whnf
        refine EvOr.go ?_
        conv => whnf
        refine EvOr.cut (CodeT.weaken _ (StW.ofP [0, 1, 2, 3, 4, 5, 6, 7, 8, 9, 10, 11, 12, 13, 14] ?_ ?_ ?_) (gS))
        · kernel_rfl
        · rfl
        · rfl
end Go.Proofs.Ytdmcbfmpnakdfaa.Eng
