/- MemberBack: the whole. -/
import Derived.Test.YtdmcbfmpnakdfaaMz
namespace Go.Proofs.Ytdmcbfmpnakdfaa.Eng
open Go Go.Proofs
set_option maxRecDepth 20000
set_option maxHeartbeats 4000000
theorem bac5 (b : Ar) (bl : List ActV) (R : List (Nat × Obj)) (pks : ActV → List Int) (M : Mem) (lg : Lg) (hb : b.ok bl) (hbl : bl.length ≤ 30) (hR : ∀ x ∈ bl, PkOk R x.p (pks x)) (hK : Keep M lg 6 30) :
    CodeT Try.prog 4 (suf 5 (bodyC Try.f8)) ([.junk, .sc (b.sv bl.length 1), .junk, .junk, .junk, .sc (.ptr 4 0 7 0), .junk, .junk, .junk, .junk, .junk, .junk, .junk, .junk, .junk, .junk, .junk, .junk, .junk, .junk, .junk, .junk, .junk, .junk, .junk, .junk, .junk, .junk, .junk, .junk, .junk, .junk, .junk, .junk, .junk, .junk, .junk, .junk, .junk, .junk, .junk, .junk, .junk, .junk, .junk, .junk, .junk, .junk, .junk, .junk, .junk, .junk, .junk, .junk, .junk, .junk, .junk, .junk, .junk, .junk, .junk, .junk, .junk, .junk, .junk, .junk, .junk, .junk, .junk, .junk, .junk, .junk, .junk, .junk, .junk, .junk, .junk, .junk, .junk, .junk, .junk, .junk, .junk, .junk, .junk, .junk, .junk, .junk, .junk, .junk, .junk, .junk, .junk, .junk, .junk, .junk, .junk, .junk, .junk, .junk, .junk, .junk, .junk, .junk, .junk, .junk, .junk, .junk, .junk, .junk, .junk, .junk, .junk, .junk, .junk, .junk]) [none, arB b bl, none, famO b R, some (memG M lg .nil 5 6 7 8), imB M.seen, imB M.dur, logB M lg, none] (retQ Try.prog Try.f8 4 (bv true) [none, none, none, none]) := by
  obtain ⟨h1, h2, h3, h4, _, _⟩ := id hK
  have gC := copy_ok M lg h3 (by omega) (by omega)
  have gM := mark_ok M lg (by omega)
  have hc3 : lg.cp M.log = .nil ∨ lg.cp M.log = .ex ∨ lg.cp M.log = .inx [] := by
    cases lg <;> cases hl : M.log <;> simp [Lg.cp]
  have gS := bac7 b bl R pks M M lg (lg.cp M.log) hb hbl hR hK ⟨h1, h2⟩ hc3
  generalize lg.cp M.log = lc at gC gS hc3
  cases b <;> cases lg <;> rcases hc3 with rfl | rfl | rfl <;>
  · refine evC_sound tabOk mixed _ _ _ _ ?_
    conv => whnf
    repeat (first | (refine ⟨(by kernel_rfl : chkR _ _ _ _ = true), ?_⟩; conv => whnf) | (refine EvOr.go ?_; conv => whnf))
    refine CallG.use gC c31 [4, 5, 6, 7, 8] [] ?_ ?_ ?_ ?_ ?_ ?_; rfl; rfl; kernel_rfl; rfl; rfl
    conv => whnf
    repeat (first | (refine ⟨(by kernel_rfl : chkR _ _ _ _ = true), ?_⟩; conv => whnf) | (refine EvOr.go ?_; conv => whnf))
    refine CallG.use gM c43 [4, 5, 6, 7, 8] [0] ?_ ?_ ?_ ?_ ?_ ?_; rfl; rfl; kernel_rfl; rfl; rfl
    conv => whnf
    repeat (refine ⟨(by kernel_rfl : chkR _ _ _ _ = true), ?_⟩; conv => whnf)
    refine EvOr.cut (CodeT.weaken _ (StW.ofP [0, 1, 2, 3, 4, 5, 6, 7, 15, 9, 10, 11, 12, 13, 14] ?_ ?_ ?_) gS)
    · kernel_rfl
    · rfl
    · rfl
def bacI1 (b : Ar) (al bl : List ActV) (R : List (Nat × Obj)) (Rb : Option ABlk) (A : Mem × Lg) (k : Nat) : LTm × LHp :=
  ([.sc (Ar.row.sv al.length 0), .sc (b.sv bl.length 1), .junk, .junk, .junk, .sc (.ptr 4 0 7 0), .junk, iv (k : Nat), .junk, .junk, .junk, .junk, .junk, .junk, .junk, .junk, .junk, .junk, .junk, .junk, .junk, .junk, .junk, .junk, .junk, .junk, .junk, .junk, .junk, .junk, .junk, .junk, .junk, .junk, .junk, .junk, .junk, .junk, .junk, .junk, .junk, .junk, .junk, .junk, .junk, .junk, .junk, .junk, .junk, .junk, .junk, .junk, .junk, .junk, .junk, .junk, .junk, .junk, .junk, .junk, .junk, .junk, .junk, .junk, .junk, .junk, .junk, .junk, .junk, .junk, .junk, .junk, .junk, .junk, .junk, .junk, .junk, .junk, .junk, .junk, .junk, .junk, .junk, .junk, .junk, .junk, .junk, .junk, .junk, .junk, .junk, .junk, .junk, .junk, .junk, .junk, .junk, .junk, .junk, .junk, .junk, .junk, .junk, .junk, .junk, .junk, .junk, .junk, .junk, .junk, .junk, .junk, .junk, .junk, .junk, .junk],
   [arB .row al, arB b bl, some (famB R), Rb, some (memG A.1 A.2 .nil 5 6 7 8), imB A.1.seen, imB A.1.dur, logB A.1 A.2, none])
theorem back_ok (a b : Ar) (al bl : List ActV) (R Rb : List (Nat × Obj)) (pks pksb : ActV → List Int) (ha : a.ok al) (hb : b.ok bl) (hR : ∀ x ∈ al, PkOk R x.p (pks x)) (hRb : ∀ x ∈ bl, PkOk Rb x.p (pksb x)) :
    FunT Try.prog 8 [.sc (a.sv al.length 0), .sc (b.sv bl.length 1)] [arB a al, arB b bl, famO a R, famO b Rb] (bv true) [none, none, none, none] := by
  have gZ := awake_ok
  have gN := new_ok 6 (by decide) (by decide)
  have hK0 : Keep (newM 6) .nil 6 0 := ⟨rfl, rfl, rfl, Nat.le_refl _, List.nodup_nil, List.nodup_nil⟩
  have hal : ∀ n : Nat, false = decide ((n : Int) > 30) → n ≤ 30 := fun n h => by simp at h; omega
  have gS := fun (h1 : al.length ≤ 30) (h2 : bl.length ≤ 30) => bac5 b bl Rb pksb (aM (newM 6) .nil pks al al.length).1 (aM (newM 6) .nil pks al al.length).2 hb h2 hRb (by
    have := keep_aM pks al hK0 al.length
    exact ⟨this.n, this.fails, this.ok, by have := this.len; omega, this.ks, this.kd⟩)
  by_cases han : a = .nil
  · subst han
    obtain rfl : al = [] := ha
    have gS := gS (Nat.zero_le _)
    cases b <;>
    · refine FunT.ev tabOk mixed Try.func8 rfl ?_
      conv => whnf
      repeat (first | (refine ⟨(by kernel_rfl : chkR _ _ _ _ = true), ?_⟩; conv => whnf) | (refine EvOr.go ?_; conv => whnf))
      intro c1 hc1
      obtain rfl : c1 = false := by rw [hc1]; rfl
      conv => whnf
      repeat (first | (refine ⟨(by kernel_rfl : chkR _ _ _ _ = true), ?_⟩; conv => whnf) | (refine EvOr.go ?_; conv => whnf))
      intro c2 hc2
      cases c2
      · conv => whnf
        repeat (first | (refine ⟨(by kernel_rfl : chkR _ _ _ _ = true), ?_⟩; conv => whnf) | (refine EvOr.go ?_; conv => whnf))
        refine CallG.use gN c27 [] [] ?_ ?_ ?_ ?_ ?_ ?_; rfl; rfl; kernel_rfl; rfl; rfl
        conv => whnf
        repeat (first | (refine ⟨(by kernel_rfl : chkR _ _ _ _ = true), ?_⟩; conv => whnf) | (refine EvOr.go ?_; conv => whnf))
        intro c hc
        obtain rfl : c = false := by rw [hc]; rfl
        conv => whnf
        repeat (first | (refine ⟨(by kernel_rfl : chkR _ _ _ _ = true), ?_⟩; conv => whnf) | (refine EvOr.go ?_; conv => whnf))
        refine CodeS.loop0 tabOk mixed (Nat.le_of_ble_eq_true rfl) ?_
        conv => whnf
        repeat (first | (refine ⟨(by kernel_rfl : chkR _ _ _ _ = true), ?_⟩; conv => whnf) | (refine EvOr.go ?_; conv => whnf))
        intro c hc
        obtain rfl : c = false := by rw [hc]; rfl
        conv => whnf
        refine ⟨(by kernel_rfl : chkR _ _ _ _ = true), ?_⟩
        conv => whnf
        refine EvOr.go ?_
        conv => whnf
        refine EvOr.cut (CodeT.weaken _ (StW.ofP [0, 1, 2, 3, 4, 5, 6, 7, 8] ?_ ?_ ?_) (gS (by first | exact hal _ hc2 | (rw [show bl = [] from hb]; exact Nat.zero_le _))))
        · kernel_rfl
        · rfl
        · rfl
      · conv => whnf
        repeat (first | (refine ⟨(by kernel_rfl : chkR _ _ _ _ = true), ?_⟩; conv => whnf) | (refine EvOr.go ?_; conv => whnf))
        refine CallG.use gZ c26 [] [] ?_ ?_ ?_ ?_ ?_ ?_; rfl; rfl; kernel_rfl; rfl; rfl
        conv => whnf
        repeat (first | (refine ⟨(by kernel_rfl : chkR _ _ _ _ = true), ?_⟩; conv => whnf) | (refine EvOr.go ?_; conv => whnf))
        exact retQ.one rfl (.inr rfl) rfl (Nat.le_of_ble_eq_true rfl) rfl
  obtain rfl : a = .row := by
    cases a
    · exact absurd rfl han
    · rfl
  have gD := fun (h1 : al.length ≤ 30) => aM_does (newM 6) .nil .nil pks al R 6 0 (by decide) hK0 (by omega) hR
  have hF0 : aM (newM 6) .nil pks al 0 = (newM 6, .nil) := rfl
  obtain ⟨F, hF⟩ : ∃ F, F = aM (newM 6) .nil pks al := ⟨_, rfl⟩
  rw [← hF] at gD gS hF0
  obtain ⟨I, hI⟩ : ∃ I, I = fun k => bacI1 b al bl R (famO b Rb) (F k) k := ⟨_, rfl⟩
  clear hF hK0
  cases b <;>
  · refine FunT.ev tabOk mixed Try.func8 rfl ?_
    conv => whnf
    repeat (first | (refine ⟨(by kernel_rfl : chkR _ _ _ _ = true), ?_⟩; conv => whnf) | (refine EvOr.go ?_; conv => whnf))
    intro c1 hc1
    cases c1
    · have hl1 := hal _ hc1
      conv => whnf
      repeat (first | (refine ⟨(by kernel_rfl : chkR _ _ _ _ = true), ?_⟩; conv => whnf) | (refine EvOr.go ?_; conv => whnf))
      intro c2 hc2
      cases c2
      · have hl2 : bl.length ≤ 30 := by first | exact hal _ hc2 | (rw [show bl = [] from hb]; exact Nat.zero_le _)
        conv => whnf
        repeat (first | (refine ⟨(by kernel_rfl : chkR _ _ _ _ = true), ?_⟩; conv => whnf) | (refine EvOr.go ?_; conv => whnf))
        refine CallG.use gN c27 [] [] ?_ ?_ ?_ ?_ ?_ ?_; rfl; rfl; kernel_rfl; rfl; rfl
        conv => whnf
        repeat (first | (refine ⟨(by kernel_rfl : chkR _ _ _ _ = true), ?_⟩; conv => whnf) | (refine EvOr.go ?_; conv => whnf))
        intro c hc
        obtain rfl : c = false := by rw [hc]; rfl
        conv => whnf
        repeat (first | (refine ⟨(by kernel_rfl : chkR _ _ _ _ = true), ?_⟩; conv => whnf) | (refine EvOr.go ?_; conv => whnf))
        refine CodeT.loopN tabOk mixed I al.length _ (StW.ofP [0, 1, 2, 3, 4, 5, 6, 7, 8] ?_ ?_ ?_) (fun k => by subst hI; rfl) ?_
        · subst hI
          show stP _ _ (bacI1 _ al bl R _ (F 0) 0).2 = true
          rw [hF0]; kernel_rfl
        · subst hI
          show maskT _ (bacI1 _ al bl R _ (F 0) 0).1 = renT _ (bacI1 _ al bl R _ (F 0) 0).1
          rw [hF0]; rfl
        · subst hI
          show pickH _ _ 0 (bacI1 _ al bl R _ (F 0) 0).2 = renH _ (bacI1 _ al bl R _ (F 0) 0).2
          rw [hF0]; rfl
        intro k hkl
        subst hI
        have gS := gS hl1 hl2
        have gD := gD hl1 k
        have hkk : k = al.length → F k = F al.length := fun h => by rw [h]
        show evC Try.prog tab _ _ (bacI1 _ al bl R _ (F k) k).1 (bacI1 _ al bl R _ (F k) k).2 _
        generalize F al.length = AE at gS hkk
        generalize hN : F (k + 1) = AN at gD
        generalize F k = A at gD hkk ⊢
        obtain ⟨M, lg⟩ := A
        obtain ⟨M', lg'⟩ := AN
        cases lg <;> cases lg' <;>
        · conv => whnf
          repeat (first | (refine ⟨(by kernel_rfl : chkR _ _ _ _ = true), ?_⟩; conv => whnf) | (refine EvOr.go ?_; conv => whnf))
          intro c hc
          by_cases hk : k < al.length
          · obtain rfl : c = true := by rw [hc]; exact decide_eq_true (by omega)
            conv => whnf
            repeat (first | (refine ⟨(by kernel_rfl : chkR _ _ _ _ = true), ?_⟩; conv => whnf) | (refine EvOr.go ?_; conv => whnf))
            refine ⟨⟨by omega, by omega⟩, ?_⟩
            conv => whnf
            repeat (first | (refine ⟨(by kernel_rfl : chkR _ _ _ _ = true), ?_⟩; conv => whnf) | (refine EvOr.go ?_; conv => whnf))
            obtain ⟨⟨aD, aI, aS, aP, aO⟩, g1, ⟨ad, n, cp, g3⟩, g2⟩ := gD hk
            replace g3 : aP = .slice ad n cp := g3
            subst g3
            refine ⟨_, g1, ?_⟩
            conv => whnf
            repeat (first | (refine ⟨(by kernel_rfl : chkR _ _ _ _ = true), ?_⟩; conv => whnf) | (refine EvOr.go ?_; conv => whnf))
            refine CallG.use g2 c36 [4, 5, 6, 7, 8, 2] [0, 1, 2, 3] ?_ ?_ ?_ ?_ ?_ ?_; rfl; rfl; kernel_rfl; rfl; rfl
            conv => whnf
            repeat (first | (refine ⟨(by kernel_rfl : chkR _ _ _ _ = true), ?_⟩; conv => whnf) | (refine EvOr.go ?_; conv => whnf))
            refine ⟨_, inc_nat (by omega), ?_⟩
            conv => whnf
            repeat (first | (refine ⟨(by kernel_rfl : chkR _ _ _ _ = true), ?_⟩; conv => whnf) | (refine EvOr.go ?_; conv => whnf))
            refine ⟨by omega, _, StW.ofP [0, 1, 2, 3, 4, 9, 6, 10, 8] ?_ ?_ ?_⟩
            · show stP _ _ (bacI1 _ al bl R _ (F (k + 1)) (k + 1)).2 = true
              rw [hN]; kernel_rfl
            · show maskT _ (bacI1 _ al bl R _ (F (k + 1)) (k + 1)).1 = renT _ (bacI1 _ al bl R _ (F (k + 1)) (k + 1)).1
              rw [hN]; rfl
            · show pickH _ _ 0 (bacI1 _ al bl R _ (F (k + 1)) (k + 1)).2 = renH _ (bacI1 _ al bl R _ (F (k + 1)) (k + 1)).2
              rw [hN]; rfl
          · obtain rfl : c = false := by rw [hc]; exact decide_eq_false (by omega)
            obtain rfl := hkk (by omega)
            conv => whnf
            refine ⟨(by kernel_rfl : chkR _ _ _ _ = true), ?_⟩
            conv => whnf
            refine EvOr.go ?_
            conv => whnf
            refine EvOr.cut (CodeT.weaken _ (StW.ofP [0, 1, 2, 3, 4, 5, 6, 7, 8] ?_ ?_ ?_) (gS))
            · kernel_rfl
            · rfl
            · rfl
      · conv => whnf
        repeat (first | (refine ⟨(by kernel_rfl : chkR _ _ _ _ = true), ?_⟩; conv => whnf) | (refine EvOr.go ?_; conv => whnf))
        refine CallG.use gZ c26 [] [] ?_ ?_ ?_ ?_ ?_ ?_; rfl; rfl; kernel_rfl; rfl; rfl
        conv => whnf
        repeat (first | (refine ⟨(by kernel_rfl : chkR _ _ _ _ = true), ?_⟩; conv => whnf) | (refine EvOr.go ?_; conv => whnf))
        exact retQ.one rfl (.inr rfl) rfl (Nat.le_of_ble_eq_true rfl) rfl
    · conv => whnf
      repeat (first | (refine ⟨(by kernel_rfl : chkR _ _ _ _ = true), ?_⟩; conv => whnf) | (refine EvOr.go ?_; conv => whnf))
      refine CallG.use gZ c26 [] [] ?_ ?_ ?_ ?_ ?_ ?_; rfl; rfl; kernel_rfl; rfl; rfl
      conv => whnf
      repeat (first | (refine ⟨(by kernel_rfl : chkR _ _ _ _ = true), ?_⟩; conv => whnf) | (refine EvOr.go ?_; conv => whnf))
      exact retQ.one rfl (.inr rfl) rfl (Nat.le_of_ble_eq_true rfl) rfl
end Go.Proofs.Ytdmcbfmpnakdfaa.Eng
