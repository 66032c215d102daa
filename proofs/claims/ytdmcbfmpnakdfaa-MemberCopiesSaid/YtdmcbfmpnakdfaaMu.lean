/- MemberFails, walked whole. -/
import Derived.Test.YtdmcbfmpnakdfaaMs
namespace Go.Proofs.Ytdmcbfmpnakdfaa.Eng
open Go Go.Proofs
set_option maxRecDepth 20000
set_option maxHeartbeats 4000000
theorem fai1 (b : Ar) (bl : List ActV) (M : Mem) (lg : Lg) (hb : b.ok bl) (hbl : bl.length ≤ 30) (hK : Keep M lg 6 30) :
    CodeT Try.prog 3 (suf 5 (bodyC Try.f6)) ([.junk, .sc (b.sv bl.length 1), .junk, .junk, .junk, .sc (.ptr 3 0 7 0), .junk, .junk, .junk, .junk, .junk, .junk, .junk, .junk, .junk, .junk, .junk, .junk, .junk, .junk, .junk, .junk, .junk, .junk, .junk, .junk, .junk, .junk, .junk, .junk, .junk, .junk, .junk, .junk, .junk, .junk, .junk, .junk, .junk, .junk, .junk, .junk, .junk, .junk, .junk, .junk, .junk, .junk, .junk, .junk, .junk, .junk, .junk, .junk, .junk, .junk, .junk, .junk, .junk, .junk, .junk, .junk, .junk, .junk, .junk, .junk, .junk, .junk, .junk, .junk, .junk, .junk, .junk, .junk, .junk, .junk, .junk, .junk, .junk, .junk, .junk, .junk, .junk, .junk, .junk, .junk, .junk, .junk, .junk, .junk, .junk, .junk, .junk, .junk, .junk, .junk, .junk, .junk, .junk, .junk, .junk, .junk, .junk, .junk, .junk, .junk, .junk, .junk, .junk, .junk, .junk, .junk, .junk, .junk, .junk, .junk, .junk, .junk, .junk, .junk, .junk, .junk, .junk, .junk, .junk, .junk, .junk, .junk, .junk, .junk, .junk, .junk, .junk, .junk, .junk, .junk, .junk, .junk, .junk, .junk, .junk, .junk, .junk, .junk, .junk, .junk, .junk, .junk, .junk]) [none, arB b bl, none, some (memG M lg .nil 4 5 6 7), imB M.seen, imB M.dur, logB M lg, none] (retQ Try.prog Try.f6 3 (bv true) [none, none, none]) := by
  obtain ⟨h1, h2, h3, h4, _, _⟩ := hK
  have gC := copy_ok M lg h3 (by omega) (by omega)
  have gF := fail_ok M lg .nil true (by omega)
  rw [Bool.or_true] at gF
  have gS := fai2 b bl M M lg (lg.cp M.log) hb hbl h1 h3 (Lg.cp_ok lg _ h3) ⟨h1, h2, rfl, rfl, rfl⟩
  have hc3 : lg.cp M.log = .nil ∨ lg.cp M.log = .ex ∨ lg.cp M.log = .inx [] := by
    cases lg <;> cases hl : M.log <;> simp [Lg.cp]
  generalize lg.cp M.log = lc at gC gS hc3
  obtain ⟨M2, hM2⟩ : ∃ A : Mem, A = { M with fails := true, hurt := true } := ⟨_, rfl⟩
  rw [← hM2] at gF gS
  have s2 : M2.seen = M.seen ∧ M2.dur = M.dur ∧ logB M2 lg = logB M lg := by rw [hM2]; exact ⟨rfl, rfl, rfl⟩
  unfold faiH at gS
  rw [s2.1, s2.2.1, s2.2.2] at gS
  clear hM2 s2
  cases b <;> cases lg <;> rcases hc3 with rfl | rfl | rfl <;>
  · refine evC_sound tabOk mixed _ _ _ _ ?_
    conv => whnf
    repeat (first | (refine ⟨(by kernel_rfl : chkR _ _ _ _ = true), ?_⟩; conv => whnf) | (refine EvOr.go ?_; conv => whnf))
    refine CallG.use gC c31 [3, 4, 5, 6, 7] [] ?_ ?_ ?_ ?_ ?_ ?_; rfl; rfl; kernel_rfl; rfl; rfl
    conv => whnf
    repeat (first | (refine ⟨(by kernel_rfl : chkR _ _ _ _ = true), ?_⟩; conv => whnf) | (refine EvOr.go ?_; conv => whnf))
    refine CallG.use gF c37 [3, 4, 5, 6, 7] [0] ?_ ?_ ?_ ?_ ?_ ?_; rfl; rfl; kernel_rfl; rfl; rfl
    conv => whnf
    repeat (refine ⟨(by kernel_rfl : chkR _ _ _ _ = true), ?_⟩; conv => whnf)
    refine EvOr.cut (CodeT.weaken _ (StW.ofP [0, 1, 2, 3, 4, 5, 6, 7, 8, 9, 10, 11, 12] ?_ ?_ ?_) gS)
    · kernel_rfl
    · rfl
    · rfl
theorem pk_sl {R : List (Nat × Obj)} {v : Value} {pk : List Int} (h : PkOk R v pk) : ∃ ad n cp, v = .slice ad n cp := by
  rcases h with ⟨ad, cp, h, _⟩ | ⟨b, off, cap, c, t, fr, pre, post, h, _⟩
  · exact ⟨_, _, _, h⟩
  · exact ⟨_, _, _, h⟩
def famO (a : Ar) (R : List (Nat × Obj)) : Option ABlk := match a with
  | .nil => none
  | .row => some (famB R)
def faiI1 (b : Ar) (al bl : List ActV) (R : List (Nat × Obj)) (A : Mem × Lg) (k : Nat) : LTm × LHp :=
  ([.sc (Ar.row.sv al.length 0), .sc (b.sv bl.length 1), .junk, .junk, .junk, .sc (.ptr 3 0 7 0), .junk, iv (k : Nat), .junk, .junk, .junk, .junk, .junk, .junk, .junk, .junk, .junk, .junk, .junk, .junk, .junk, .junk, .junk, .junk, .junk, .junk, .junk, .junk, .junk, .junk, .junk, .junk, .junk, .junk, .junk, .junk, .junk, .junk, .junk, .junk, .junk, .junk, .junk, .junk, .junk, .junk, .junk, .junk, .junk, .junk, .junk, .junk, .junk, .junk, .junk, .junk, .junk, .junk, .junk, .junk, .junk, .junk, .junk, .junk, .junk, .junk, .junk, .junk, .junk, .junk, .junk, .junk, .junk, .junk, .junk, .junk, .junk, .junk, .junk, .junk, .junk, .junk, .junk, .junk, .junk, .junk, .junk, .junk, .junk, .junk, .junk, .junk, .junk, .junk, .junk, .junk, .junk, .junk, .junk, .junk, .junk, .junk, .junk, .junk, .junk, .junk, .junk, .junk, .junk, .junk, .junk, .junk, .junk, .junk, .junk, .junk, .junk, .junk, .junk, .junk, .junk, .junk, .junk, .junk, .junk, .junk, .junk, .junk, .junk, .junk, .junk, .junk, .junk, .junk, .junk, .junk, .junk, .junk, .junk, .junk, .junk, .junk, .junk, .junk, .junk, .junk, .junk, .junk, .junk],
   [arB .row al, arB b bl, some (famB R), some (memG A.1 A.2 .nil 4 5 6 7), imB A.1.seen, imB A.1.dur, logB A.1 A.2, none])
theorem fails_ok (a b : Ar) (al bl : List ActV) (R : List (Nat × Obj)) (pks : ActV → List Int) (ha : a.ok al) (hb : b.ok bl) (hR : ∀ x ∈ al, PkOk R x.p (pks x)) :
    FunT Try.prog 6 [.sc (a.sv al.length 0), .sc (b.sv bl.length 1)] [arB a al, arB b bl, famO a R] (bv true) [none, none, none] := by
  have gZ := awake_ok
  have gN := new_ok 6 (by decide) (by decide)
  have hK0 : Keep (newM 6) .nil 6 0 := ⟨rfl, rfl, rfl, Nat.le_refl _, List.nodup_nil, List.nodup_nil⟩
  have hal : ∀ n : Nat, false = decide ((n : Int) > 30) → n ≤ 30 := fun n h => by simp at h; omega
  have gS := fun (h1 : al.length ≤ 30) (h2 : bl.length ≤ 30) => fai1 b bl (aM (newM 6) .nil pks al al.length).1 (aM (newM 6) .nil pks al al.length).2 hb h2 (by
    have := keep_aM pks al hK0 al.length
    exact ⟨this.n, this.fails, this.ok, by have := this.len; omega, this.ks, this.kd⟩)
  by_cases han : a = .nil
  · subst han
    obtain rfl : al = [] := ha
    have gS := gS (Nat.zero_le _)
    cases b <;>
    · refine FunT.ev tabOk mixed Try.func6 rfl ?_
      conv => whnf
      repeat (first | (refine ⟨(by kernel_rfl : chkR _ _ _ _ = true), ?_⟩; conv => whnf) | (refine EvOr.go ?_; conv => whnf))
      intro c1 hc1
      obtain rfl : c1 = false := by rw [hc1]; rfl
      conv => whnf
      repeat (first | (refine ⟨(by kernel_rfl : chkR _ _ _ _ = true), ?_⟩; conv => whnf) | (refine EvOr.go ?_; conv => whnf))
      intro c2 hc2
      cases c2
      · conv => whnf
        repeat (first | (refine ⟨(by kernel_rfl : chkR _ _ _ _ = true), ?_⟩; conv => whnf) | (refine EvOr.go ?_; conv => whnf))
        refine CallG.use gN c27 [] [] ?_ ?_ ?_ ?_ ?_ ?_; rfl; rfl; kernel_rfl; rfl; rfl
        conv => whnf
        repeat (first | (refine ⟨(by kernel_rfl : chkR _ _ _ _ = true), ?_⟩; conv => whnf) | (refine EvOr.go ?_; conv => whnf))
        intro c hc
        obtain rfl : c = false := by rw [hc]; rfl
        conv => whnf
        repeat (first | (refine ⟨(by kernel_rfl : chkR _ _ _ _ = true), ?_⟩; conv => whnf) | (refine EvOr.go ?_; conv => whnf))
        refine CodeS.loop0 tabOk mixed (Nat.le_of_ble_eq_true rfl) ?_
        conv => whnf
        repeat (first | (refine ⟨(by kernel_rfl : chkR _ _ _ _ = true), ?_⟩; conv => whnf) | (refine EvOr.go ?_; conv => whnf))
        intro c hc
        obtain rfl : c = false := by rw [hc]; rfl
        conv => whnf
        refine ⟨(by kernel_rfl : chkR _ _ _ _ = true), ?_⟩
        conv => whnf
        refine EvOr.go ?_
        conv => whnf
        refine EvOr.cut (CodeT.weaken _ (StW.ofP [0, 1, 2, 3, 4, 5, 6, 7] ?_ ?_ ?_) (gS (by first | exact hal _ hc2 | (rw [show bl = [] from hb]; exact Nat.zero_le _))))
        · kernel_rfl
        · rfl
        · rfl
      · conv => whnf
        repeat (first | (refine ⟨(by kernel_rfl : chkR _ _ _ _ = true), ?_⟩; conv => whnf) | (refine EvOr.go ?_; conv => whnf))
        refine CallG.use gZ c26 [] [] ?_ ?_ ?_ ?_ ?_ ?_; rfl; rfl; kernel_rfl; rfl; rfl
        conv => whnf
        repeat (first | (refine ⟨(by kernel_rfl : chkR _ _ _ _ = true), ?_⟩; conv => whnf) | (refine EvOr.go ?_; conv => whnf))
        exact retQ.one rfl (.inr rfl) rfl (Nat.le_of_ble_eq_true rfl) rfl
  obtain rfl : a = .row := by
    cases a
    · exact absurd rfl han
    · rfl
  have hKk := fun k => keep_aM pks al hK0 k
  have gD : ∀ k, k < al.length → al.length ≤ 30 → ∃ x : ActV, (al.map actSegs)[0 + (k : Int).toNat]? = some (actSegs x) ∧ (∃ ad n cp, x.p = .slice ad n cp) ∧
      FunT Try.prog 36 [mpv, .agg (actSegs x)] (hM4 (aM (newM 6) .nil pks al k).1 (aM (newM 6) .nil pks al k).2 .nil ++ [some (famB R)]) (.tup []) [some (memG (aM (newM 6) .nil pks al (k + 1)).1 (aM (newM 6) .nil pks al (k + 1)).2 .nil 6 2 7 4), none, imB (aM (newM 6) .nil pks al (k + 1)).1.dur, none, none, some (famB R), imB (aM (newM 6) .nil pks al (k + 1)).1.seen, logB (aM (newM 6) .nil pks al (k + 1)).1 (aM (newM 6) .nil pks al (k + 1)).2] := fun k hk h1 => ⟨al[k], act_get hk, pk_sl (hR _ (List.getElem_mem _)), doesF (aM (newM 6) .nil pks al k).1 (aM (newM 6) .nil pks al (k + 1)).1 (aM (newM 6) .nil pks al k).2 (aM (newM 6) .nil pks al (k + 1)).2 .nil al[k] (pks al[k]) R (hR _ (List.getElem_mem _))
    (aM_succ hk).1 (aM_succ hk).2 (hKk k).ok (by rw [(hKk k).n]; decide) (hKk k).fails (by have := (hKk k).len; omega)⟩
  have e0 : aM (newM 6) .nil pks al 0 = (newM 6, .nil) := rfl
  obtain ⟨I, hI⟩ : ∃ I, I = fun k => faiI1 b al bl R (aM (newM 6) .nil pks al k) k := ⟨_, rfl⟩
  cases b <;>
  · refine FunT.ev tabOk mixed Try.func6 rfl ?_
    conv => whnf
    repeat (first | (refine ⟨(by kernel_rfl : chkR _ _ _ _ = true), ?_⟩; conv => whnf) | (refine EvOr.go ?_; conv => whnf))
    intro c1 hc1
    cases c1
    · have hl1 := hal _ hc1
      conv => whnf
      repeat (first | (refine ⟨(by kernel_rfl : chkR _ _ _ _ = true), ?_⟩; conv => whnf) | (refine EvOr.go ?_; conv => whnf))
      intro c2 hc2
      cases c2
      · have hl2 : bl.length ≤ 30 := by first | exact hal _ hc2 | (rw [show bl = [] from hb]; exact Nat.zero_le _)
        conv => whnf
        repeat (first | (refine ⟨(by kernel_rfl : chkR _ _ _ _ = true), ?_⟩; conv => whnf) | (refine EvOr.go ?_; conv => whnf))
        refine CallG.use gN c27 [] [] ?_ ?_ ?_ ?_ ?_ ?_; rfl; rfl; kernel_rfl; rfl; rfl
        conv => whnf
        repeat (first | (refine ⟨(by kernel_rfl : chkR _ _ _ _ = true), ?_⟩; conv => whnf) | (refine EvOr.go ?_; conv => whnf))
        intro c hc
        obtain rfl : c = false := by rw [hc]; rfl
        conv => whnf
        repeat (first | (refine ⟨(by kernel_rfl : chkR _ _ _ _ = true), ?_⟩; conv => whnf) | (refine EvOr.go ?_; conv => whnf))
        refine CodeT.loopN tabOk mixed I al.length _ (StW.ofP [0, 1, 2, 3, 4, 5, 6, 7] ?_ ?_ ?_) (fun k => by subst hI; rfl) ?_
        · subst hI; kernel_rfl
        · subst hI; rfl
        · subst hI; rfl
        intro k hkl
        subst hI
        have gS := gS hl1 hl2
        clear hKk gZ gN hK0 e0
        have gD := fun hk => gD k hk hl1
        have hkk : k = al.length → aM (newM 6) .nil pks al k = aM (newM 6) .nil pks al al.length := fun h => by rw [h]
        show evC Try.prog tab _ _ (faiI1 _ al bl R (aM (newM 6) .nil pks al k) k).1 (faiI1 _ al bl R (aM (newM 6) .nil pks al k) k).2 _
        generalize aM (newM 6) .nil pks al al.length = AE at gS hkk
        generalize hN : aM (newM 6) .nil pks al (k + 1) = AN at gD
        generalize aM (newM 6) .nil pks al k = A at gD hkk ⊢
        obtain ⟨M, lg⟩ := A
        obtain ⟨M', lg'⟩ := AN
        cases lg <;> cases lg' <;>
        · conv => whnf
          repeat (first | (refine ⟨(by kernel_rfl : chkR _ _ _ _ = true), ?_⟩; conv => whnf) | (refine EvOr.go ?_; conv => whnf))
          intro c hc
          by_cases hk : k < al.length
          · obtain rfl : c = true := by rw [hc]; exact decide_eq_true (by omega)
            conv => whnf
            repeat (first | (refine ⟨(by kernel_rfl : chkR _ _ _ _ = true), ?_⟩; conv => whnf) | (refine EvOr.go ?_; conv => whnf))
            refine ⟨⟨by omega, by omega⟩, ?_⟩
            conv => whnf
            repeat (first | (refine ⟨(by kernel_rfl : chkR _ _ _ _ = true), ?_⟩; conv => whnf) | (refine EvOr.go ?_; conv => whnf))
            obtain ⟨⟨aD, aI, aS, aP, aO⟩, g1, ⟨ad, n, cp, g3⟩, g2⟩ := gD hk
            replace g3 : aP = .slice ad n cp := g3
            subst g3
            refine ⟨_, g1, ?_⟩
            conv => whnf
            repeat (first | (refine ⟨(by kernel_rfl : chkR _ _ _ _ = true), ?_⟩; conv => whnf) | (refine EvOr.go ?_; conv => whnf))
            refine CallG.use g2 c36 [3, 4, 5, 6, 7, 2] [0, 1, 2, 3] ?_ ?_ ?_ ?_ ?_ ?_; rfl; rfl; kernel_rfl; rfl; rfl
            conv => whnf
            repeat (first | (refine ⟨(by kernel_rfl : chkR _ _ _ _ = true), ?_⟩; conv => whnf) | (refine EvOr.go ?_; conv => whnf))
            refine ⟨_, inc_nat (by omega), ?_⟩
            conv => whnf
            repeat (first | (refine ⟨(by kernel_rfl : chkR _ _ _ _ = true), ?_⟩; conv => whnf) | (refine EvOr.go ?_; conv => whnf))
            refine ⟨by omega, _, StW.ofP [0, 1, 2, 3, 8, 5, 9, 7] ?_ ?_ ?_⟩
            · show stP _ _ (faiI1 _ al bl R _ (k + 1)).2 = true
              rw [hN]; kernel_rfl
            · show maskT _ (faiI1 _ al bl R _ (k + 1)).1 = renT _ (faiI1 _ al bl R _ (k + 1)).1
              rw [hN]; rfl
            · show pickH _ _ 0 (faiI1 _ al bl R _ (k + 1)).2 = renH _ (faiI1 _ al bl R _ (k + 1)).2
              rw [hN]; rfl
          · obtain rfl : c = false := by rw [hc]; exact decide_eq_false (by omega)
            obtain rfl := hkk (by omega)
            conv => whnf
            refine ⟨(by kernel_rfl : chkR _ _ _ _ = true), ?_⟩
            conv => whnf
            refine EvOr.go ?_
            conv => whnf
            refine EvOr.cut (CodeT.weaken _ (StW.ofP [0, 1, 2, 3, 4, 5, 6, 7] ?_ ?_ ?_) (gS))
            · kernel_rfl
            · rfl
            · rfl
      · conv => whnf
        repeat (first | (refine ⟨(by kernel_rfl : chkR _ _ _ _ = true), ?_⟩; conv => whnf) | (refine EvOr.go ?_; conv => whnf))
        refine CallG.use gZ c26 [] [] ?_ ?_ ?_ ?_ ?_ ?_; rfl; rfl; kernel_rfl; rfl; rfl
        conv => whnf
        repeat (first | (refine ⟨(by kernel_rfl : chkR _ _ _ _ = true), ?_⟩; conv => whnf) | (refine EvOr.go ?_; conv => whnf))
        exact retQ.one rfl (.inr rfl) rfl (Nat.le_of_ble_eq_true rfl) rfl
    · conv => whnf
      repeat (first | (refine ⟨(by kernel_rfl : chkR _ _ _ _ = true), ?_⟩; conv => whnf) | (refine EvOr.go ?_; conv => whnf))
      refine CallG.use gZ c26 [] [] ?_ ?_ ?_ ?_ ?_ ?_; rfl; rfl; kernel_rfl; rfl; rfl
      conv => whnf
      repeat (first | (refine ⟨(by kernel_rfl : chkR _ _ _ _ = true), ?_⟩; conv => whnf) | (refine EvOr.go ?_; conv => whnf))
      exact retQ.one rfl (.inr rfl) rfl (Nat.le_of_ble_eq_true rfl) rfl
end Go.Proofs.Ytdmcbfmpnakdfaa.Eng
