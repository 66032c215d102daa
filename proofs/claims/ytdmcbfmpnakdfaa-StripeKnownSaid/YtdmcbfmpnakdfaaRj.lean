/- StripeKnown, walked whole. -/
import Derived.Test.YtdmcbfmpnakdfaaRi
namespace Go.Proofs.Ytdmcbfmpnakdfaa.Eng.St
open Go Go.RowKit Go.Shelf Go.Proofs Go.Proofs.Ytdmcbfmpnakdfaa.Gf Go.Proofs.Ytdmcbfmpnakdfaa.Rf
set_option maxRecDepth 20000
set_option maxHeartbeats 8000000
abbrev kC : List Nat := [1, 2, 3, 5]
def kL (k : Nat) : List (List Nat) := (kC.take k).map rep ++ List.replicate (4 - k) (zs 64)
def kK (k : Nat) : List Nat := List.replicate k 1 ++ List.replicate (4 - k) 0
abbrev bytE : Option ABlk := some (.row .ex 5 1 [[.one (.raw (.int .u8 1))], [.one (.raw (.int .u8 2))], [.one (.raw (.int .u8 3))], [.one (.raw (.int .u8 5))]] [])
def knoI (k : Nat) : LTm × LHp :=
  ([.junk, rpV, iv 0, .sc (.sl 3 0 1 4 none), .junk, iv 7, .junk, .junk, .junk, .junk, .junk, .junk, .junk, .junk, .junk, .junk, .junk, .junk, .junk, .junk, .junk, .junk, .junk, .junk, .junk, .junk, .junk, .junk, .junk, .junk, .junk, .junk, .junk, .junk, .junk, .junk, .junk, .junk, .junk, .junk, .junk, .junk, .junk, .junk, .junk, .junk, .sc (.sl 4 0 1 4 (some 4)), iv 4, iv (k : Nat), .junk, .junk, .junk, .junk, .junk, .junk, .junk, .junk, .junk, .junk, .junk, .junk, .junk, .junk, .junk, .junk, .junk, .junk, .junk, .junk, .junk, .junk, .junk, .junk, .junk, .junk, .junk, .junk, .junk, .junk, .junk, .junk, .junk, .junk, .junk, .junk, .junk, .junk, .junk, .junk, .junk, .junk, .junk, .junk, .junk, .junk, .junk, .junk, .junk, .junk, .junk, .junk, .junk, .junk, .junk, .junk, .junk, .junk, .junk, .junk, .junk, .junk, .junk, .junk, .junk, .junk, .junk, .junk, .junk, .junk, .junk, .junk, .junk, .junk, .junk, .junk, .junk, .junk, .junk, .junk, .junk, .junk, .junk, .junk, .junk, .junk, .junk, .junk, .junk, .junk, .junk, .junk, .junk, .junk, .junk, .junk, .junk, .junk, .junk, .junk, .junk, .junk, .junk, .junk, .junk, .junk, .junk, .junk, .junk, .junk, .junk, .junk, .junk, .junk, .junk, .junk, .junk, .junk, .junk, .junk, .junk, .junk, .junk, .junk, .junk, .junk, .junk, .junk, .junk, .junk, .junk, .junk, .junk, .junk, .junk, .junk, .junk, .junk, .junk, .junk, .junk, .junk, .junk, .junk, .junk, .junk, .junk, .junk, .junk, .junk, .junk, .junk, .junk, .junk, .junk, .junk, .junk, .junk, .junk, .junk, .junk, .junk, .junk, .junk, .junk, .junk, .junk, .junk, .junk, .junk, .junk, .junk, .junk, .junk, .junk, .junk, .junk, .junk, .junk, .junk, .junk, .junk, .junk, .junk, .junk, .junk, .junk, .junk, .junk, .junk, .junk, .junk, .junk, .junk, .junk, .junk, .junk, .junk, .junk, .junk, .junk, .junk, .junk, .junk, .junk, .junk, .junk, .junk, .junk, .junk, .junk, .junk], rw3 false 4 (kL k) (kK k) ++ [rowI [0, 1, 2, 3], bytE])
theorem known_str : FunT Try.prog 15 [] [] (bv true) [] := by
  have n0 := new_ok 4 (by decide) (by decide)
  have l0 := lost_ok false 4 (List.replicate 4 (zs 64)) (List.replicate 4 0) (by decide) (by decide) rfl
  have hl0 : lostL 4 (List.replicate 4 0) = [0, 1, 2, 3] := by decide
  rw [hl0] at l0
  have l0' : FunT Try.prog 59 [rpV] (rw3 false 4 (List.replicate 4 (zs 64)) (List.replicate 4 0)) (.sc (.sl 3 0 1 4 none)) (rw3 false 4 (List.replicate 4 (zs 64)) (List.replicate 4 0) ++ [rowI [0, 1, 2, 3]]) := l0
  have hS0 : Secs (List.replicate 4 (zs 64)) := fun l hl => by rw [(List.mem_replicate.1 hl).2]; exact rep_sec (c := 0) (by decide)
  have m0 := mend_full false 4 (List.replicate 4 (zs 64)) (List.replicate 4 0) (by decide) (by decide) rfl rfl hS0 (by decide)
  have fc : ∀ k : Nat, k < 4 → FunT Try.prog 53 [ub (kC.getD k 0)] [] (secV (rep (kC.getD k 0))) [] := fun k hk => fill_ok _ (by
    match k, hk with
    | 0, _ | 1, _ | 2, _ | 3, _ => decide)
  have f0 := fill_ok 0 (by decide)
  have f1 := fill_ok 1 (by decide)
  have pc : ∀ k : Nat, k < 4 → FunT Try.prog 52 [rpV, iv (k : Nat), secV (rep (kC.getD k 0))] (rw3 false 4 (kL k) (kK k)) (iv 0) (rw3 false 4 (kL (k + 1)) (kK (k + 1))) := fun k hk => by
    match k, hk with
    | 0, _ => exact put_in false 4 (kL 0) (kK 0) 0 (rep 1) (by decide) (by decide) rfl rfl (by decide)
    | 1, _ => exact put_in false 4 (kL 1) (kK 1) 1 (rep 2) (by decide) (by decide) rfl rfl (by decide)
    | 2, _ => exact put_in false 4 (kL 2) (kK 2) 2 (rep 3) (by decide) (by decide) rfl rfl (by decide)
    | 3, _ => exact put_in false 4 (kL 3) (kK 3) 3 (rep 5) (by decide) (by decide) rfl rfl (by decide)
  have bc : ∀ k : Nat, k < 4 → ([[.one (.raw (.int .u8 1))], [.one (.raw (.int .u8 2))], [.one (.raw (.int .u8 3))], [.one (.raw (.int .u8 5))]] : List Segs)[0 + (k : Int).toNat]? = some [.one (.raw (.int .u8 (kC.getD k 0 : Nat)))] := fun k hk => by
    match k, hk with
    | 0, _ | 1, _ | 2, _ | 3, _ => rfl
  have hS : ∀ a b c d : Nat, a < 256 → b < 256 → c < 256 → d < 256 → Secs [rep a, rep b, rep c, rep d] := fun a b c d ha hb hc hd l hl => by
    simp only [List.mem_cons, List.not_mem_nil, or_false] at hl
    rcases hl with rfl | rfl | rfl | rfl
    · exact rep_sec ha
    · exact rep_sec hb
    · exact rep_sec hc
    · exact rep_sec hd
  have S1 := hS 1 2 3 5 (by decide) (by decide) (by decide) (by decide)
  have S2 := hS 1 1 0 3 (by decide) (by decide) (by decide) (by decide)
  have r1 := rright_ok false 4 [rep 1, rep 2, rep 3, rep 5] [1, 1, 1, 1] (by decide) (by decide) rfl rfl S1
  have hb1 : rightB [rep 1, rep 2, rep 3, rep 5] = true := by decide +kernel
  have hl1 : lostL 4 [1, 1, 1, 1] = [] := by decide
  rw [hb1, decide_eq_true hl1] at r1
  have x1 := lose_in false 4 [rep 1, rep 2, rep 3, rep 5] [1, 1, 1, 1] 0 (by decide) rfl
  have x2 := lose_in false 4 [rep 1, rep 2, rep 3, rep 5] [0, 1, 1, 1] 3 (by decide) rfl
  have g1 : FunT Try.prog 57 [rpV, iv 0] (rw3 false 4 [rep 1, rep 2, rep 3, rep 5] [0, 1, 1, 0]) (.tup [secV (zs 64), iv 5]) (rw3 false 4 [rep 1, rep 2, rep 3, rep 5] [0, 1, 1, 0]) := get_in false 4 _ _ 0 (by decide) rfl rfl
  have hl2 : lostN 4 [0, 1, 1, 0] = [0, 3] := by decide
  have m1 := mend_ok false 4 [rep 1, rep 2, rep 3, rep 5] [0, 1, 1, 0] (by decide) (by decide) rfl rfl S1 (by rw [hl2]; decide)
  have hF : fixR [rep 1, rep 2, rep 3, rep 5] 2 [0, 3] = [rep 1, rep 2, rep 3, rep 5] := by decide +kernel
  rw [hl2, hF] at m1
  have m1' : FunT Try.prog 55 [rpV] (rw3 false 4 [rep 1, rep 2, rep 3, rep 5] [0, 1, 1, 0]) (.tup [.sc (.sl 4 0 1 2 none), iv 0]) [rowM 4, colB false [rep 1, rep 2, rep 3, rep 5], knB [1, 1, 1, 1], rowX [rep 1, rep 2, rep 3, rep 5], rowI [0, 3]] := m1
  have g2 : FunT Try.prog 57 [rpV, iv 0] (rw3 true 4 [rep 1, rep 2, rep 3, rep 5] [1, 1, 1, 1]) (.tup [secV (rep 1), iv 0]) (rw3 true 4 [rep 1, rep 2, rep 3, rep 5] [1, 1, 1, 1]) := get_in true 4 _ _ 0 (by decide) rfl rfl
  have w1 := write_ok true 2 [rep 1, rep 2, rep 3, rep 5] [1, 1, 1, 1] 1 (rep 1) (by decide) (by decide) rfl rfl S1 (rep_sec (by decide)) hl1
  have hW1 : wri 2 [rep 1, rep 2, rep 3, rep 5] 1 (rep 1) = [rep 1, rep 1, rep 0, rep 3] := by decide +kernel
  have hO1 : othL (2 + 2) [rep 1, rep 2, rep 3, rep 5] [rep 1, rep 1, rep 0, rep 3] = [1, 2, 3] := by decide +kernel
  rw [hW1, hO1] at w1
  have w1' : FunT Try.prog 60 [rpV, iv 1, secV (rep 1)] (rw3 true 4 [rep 1, rep 2, rep 3, rep 5] [1, 1, 1, 1]) (.tup [.sc (.sl 3 0 1 3 none), iv 0]) (rw3 true 4 [rep 1, rep 1, rep 0, rep 3] [1, 1, 1, 1] ++ [rowI [1, 2, 3]]) := w1
  have g3 : FunT Try.prog 57 [rpV, iv 2] (rw3 true 4 [rep 1, rep 1, rep 0, rep 3] [1, 1, 1, 1]) (.tup [secV (rep 0), iv 0]) (rw3 true 4 [rep 1, rep 1, rep 0, rep 3] [1, 1, 1, 1]) := get_in true 4 _ _ 2 (by decide) rfl rfl
  have w2 := write_ok true 2 [rep 1, rep 1, rep 0, rep 3] [1, 1, 1, 1] 1 (rep 1) (by decide) (by decide) rfl rfl S2 (rep_sec (by decide)) hl1
  have hW2 : wri 2 [rep 1, rep 1, rep 0, rep 3] 1 (rep 1) = [rep 1, rep 1, rep 0, rep 3] := by decide +kernel
  have hO2 : othL (2 + 2) [rep 1, rep 1, rep 0, rep 3] [rep 1, rep 1, rep 0, rep 3] = [] := by decide +kernel
  rw [hW2, hO2] at w2
  have w2' : FunT Try.prog 60 [rpV, iv 1, secV (rep 1)] (rw3 true 4 [rep 1, rep 1, rep 0, rep 3] [1, 1, 1, 1]) (.tup [.sc nilS, iv 0]) (rw3 true 4 [rep 1, rep 1, rep 0, rep 3] [1, 1, 1, 1] ++ [none]) := w2
  have w3 : FunT Try.prog 60 [rpV, iv 2, secV (rep 1)] (rw3 true 4 [rep 1, rep 1, rep 0, rep 3] [1, 1, 1, 1]) (.tup [.sc nilS, iv 2]) (rw3 true 4 [rep 1, rep 1, rep 0, rep 3] [1, 1, 1, 1]) := write_out true 2 _ _ 2 _ (by decide) (by decide)
  have r2 := rright_ok true 4 [rep 1, rep 1, rep 0, rep 3] [1, 1, 1, 1] (by decide) (by decide) rfl rfl S2
  have hb2 : rightB [rep 1, rep 1, rep 0, rep 3] = true := by decide +kernel
  rw [hb2, decide_eq_true hl1] at r2
  have b1 := new_bad 3 (by decide)
  have b2 := new_bad 65 (by decide)
  have eL : kL 4 = [rep 1, rep 2, rep 3, rep 5] := rfl
  have eK : kK 4 = [1, 1, 1, 1] := rfl
  clear hb1 hb2 hF hW1 hO1 hW2 hO2 S1 S2 hS w1 w2 m1
  obtain ⟨I, hI⟩ : ∃ I, I = knoI := ⟨_, rfl⟩
  refine FunT.ev tabOk mixed Try.func15 rfl ?_
  conv => whnf
  repeat (first | (refine ⟨(by kernel_rfl : chkR _ _ _ _ = true), ?_⟩; conv => whnf) | (refine EvOr.go ?_; conv => whnf))
  refine CallG.use n0 c50 [] [] ?_ ?_ ?_ ?_ ?_ ?_; rfl; rfl; kernel_rfl; rfl; rfl
  conv => whnf
  repeat (first | (refine ⟨(by kernel_rfl : chkR _ _ _ _ = true), ?_⟩; conv => whnf) | (refine EvOr.go ?_; conv => whnf))
  refine CallG.use l0' c59 [0, 1, 2] [] ?_ ?_ ?_ ?_ ?_ ?_; rfl; rfl; kernel_rfl; rfl; rfl
  conv => whnf
  repeat (first | (refine ⟨(by kernel_rfl : chkR _ _ _ _ = true), ?_⟩; conv => whnf) | (refine EvOr.go ?_; conv => whnf))
  refine CallG.use m0 c55 [0, 1, 2] [] ?_ ?_ ?_ ?_ ?_ ?_; rfl; rfl; kernel_rfl; rfl; rfl
  conv => whnf
  repeat (first | (refine ⟨(by kernel_rfl : chkR _ _ _ _ = true), ?_⟩; conv => whnf) | (refine EvOr.go ?_; conv => whnf))
  refine CodeT.loopN tabOk mixed I 4 _ (StW.ofP [0, 1, 2, 3, 4] ?_ ?_ ?_) (fun k => by subst hI; rfl) ?_
  · subst hI; kernel_rfl
  · subst hI; rfl
  · subst hI; rfl
  intro k hkl
  subst hI
  show evC Try.prog tab _ _ (knoI k).1 (rw3 false 4 (kL k) (kK k) ++ [rowI [0, 1, 2, 3], bytE]) _
  by_cases hk : k < 4
  · have fc := fc k hk
    have pc := pc k hk
    have bc := bc k hk
    generalize kC.getD k 0 = c at *
    generalize rep c = sc at *
    conv => whnf
    repeat (first | (refine ⟨(by kernel_rfl : chkR _ _ _ _ = true), ?_⟩; conv => whnf) | (refine EvOr.go ?_; conv => whnf))
    intro c hc
    obtain rfl : c = true := by rw [hc]; exact decide_eq_true (by omega)
    conv => whnf
    repeat (first | (refine ⟨(by kernel_rfl : chkR _ _ _ _ = true), ?_⟩; conv => whnf) | (refine EvOr.go ?_; conv => whnf))
    refine ⟨⟨by omega, by show (k : Int) < 4; omega⟩, ?_⟩
    conv => whnf
    repeat (first | (refine ⟨(by kernel_rfl : chkR _ _ _ _ = true), ?_⟩; conv => whnf) | (refine EvOr.go ?_; conv => whnf))
    refine ⟨_, bc, ?_⟩
    conv => whnf
    repeat (first | (refine ⟨(by kernel_rfl : chkR _ _ _ _ = true), ?_⟩; conv => whnf) | (refine EvOr.go ?_; conv => whnf))
    refine CallG.use fc c53 [] [] ?_ ?_ ?_ ?_ ?_ ?_; rfl; rfl; kernel_rfl; rfl; rfl
    conv => whnf
    repeat (first | (refine ⟨(by kernel_rfl : chkR _ _ _ _ = true), ?_⟩; conv => whnf) | (refine EvOr.go ?_; conv => whnf))
    refine CallG.use pc c52 [0, 1, 2] [1, 2] ?_ ?_ ?_ ?_ ?_ ?_; rfl; rfl; kernel_rfl; rfl; rfl
    conv => whnf
    repeat (first | (refine ⟨(by kernel_rfl : chkR _ _ _ _ = true), ?_⟩; conv => whnf) | (refine EvOr.go ?_; conv => whnf))
    intro c hc
    obtain rfl : c = false := by rw [hc]; rfl
    conv => whnf
    repeat (first | (refine ⟨(by kernel_rfl : chkR _ _ _ _ = true), ?_⟩; conv => whnf) | (refine EvOr.go ?_; conv => whnf))
    refine ⟨_, inc_nat (by omega), ?_⟩
    conv => whnf
    repeat (first | (refine ⟨(by kernel_rfl : chkR _ _ _ _ = true), ?_⟩; conv => whnf) | (refine EvOr.go ?_; conv => whnf))
    refine ⟨by first | exact hk | omega, _, StW.ofP [0, 1, 2, 3, 4] ?_ ?_ ?_⟩
    · kernel_rfl
    · rfl
    · rfl
  · obtain rfl : k = 4 := by omega
    rw [eL, eK]
    conv => whnf
    repeat (first | (refine ⟨(by kernel_rfl : chkR _ _ _ _ = true), ?_⟩; conv => whnf) | (refine EvOr.go ?_; conv => whnf))
    intro c hc
    obtain rfl : c = false := by rw [hc]; rfl
    conv => whnf
    repeat (first | (refine ⟨(by kernel_rfl : chkR _ _ _ _ = true), ?_⟩; conv => whnf) | (refine EvOr.go ?_; conv => whnf))
    generalize [rep 1, rep 2, rep 3, rep 5] = R at *
    generalize [rep 1, rep 1, rep 0, rep 3] = M at *
    generalize rep 1 = a1 at *
    generalize rep 0 = a0 at *
    refine CallG.use r1 c56 [0, 1, 2] [] ?_ ?_ ?_ ?_ ?_ ?_; rfl; rfl; kernel_rfl; rfl; rfl
    conv => whnf
    repeat (first | (refine ⟨(by kernel_rfl : chkR _ _ _ _ = true), ?_⟩; conv => whnf) | (refine EvOr.go ?_; conv => whnf))
    refine CallG.use x1 c54 [0, 1, 2] [2] ?_ ?_ ?_ ?_ ?_ ?_; rfl; rfl; kernel_rfl; rfl; rfl
    conv => whnf
    repeat (first | (refine ⟨(by kernel_rfl : chkR _ _ _ _ = true), ?_⟩; conv => whnf) | (refine EvOr.go ?_; conv => whnf))
    refine CallG.use x2 c54 [0, 1, 2] [2] ?_ ?_ ?_ ?_ ?_ ?_; rfl; rfl; kernel_rfl; rfl; rfl
    conv => whnf
    repeat (first | (refine ⟨(by kernel_rfl : chkR _ _ _ _ = true), ?_⟩; conv => whnf) | (refine EvOr.go ?_; conv => whnf))
    refine CallG.use g1 c57 [0, 1, 2] [] ?_ ?_ ?_ ?_ ?_ ?_; rfl; rfl; kernel_rfl; rfl; rfl
    conv => whnf
    repeat (first | (refine ⟨(by kernel_rfl : chkR _ _ _ _ = true), ?_⟩; conv => whnf) | (refine EvOr.go ?_; conv => whnf))
    refine CallG.use m1' c55 [0, 1, 2] [0, 2] ?_ ?_ ?_ ?_ ?_ ?_; rfl; rfl; kernel_rfl; rfl; rfl
    conv => whnf
    repeat (first | (refine ⟨(by kernel_rfl : chkR _ _ _ _ = true), ?_⟩; conv => whnf) | (refine EvOr.go ?_; conv => whnf))
    refine CallG.use g2 c57 [0, 6, 2] [] ?_ ?_ ?_ ?_ ?_ ?_; rfl; rfl; kernel_rfl; rfl; rfl
    conv => whnf
    repeat (first | (refine ⟨(by kernel_rfl : chkR _ _ _ _ = true), ?_⟩; conv => whnf) | (refine EvOr.go ?_; conv => whnf))
    refine CallG.use f1 c53 [] [] ?_ ?_ ?_ ?_ ?_ ?_; rfl; rfl; kernel_rfl; rfl; rfl
    conv => whnf
    repeat (first | (refine ⟨(by kernel_rfl : chkR _ _ _ _ = true), ?_⟩; conv => whnf) | (refine EvOr.go ?_; conv => whnf))
    refine CallG.use w1' c60 [0, 6, 2] [1] ?_ ?_ ?_ ?_ ?_ ?_; rfl; rfl; kernel_rfl; rfl; rfl
    conv => whnf
    repeat (first | (refine ⟨(by kernel_rfl : chkR _ _ _ _ = true), ?_⟩; conv => whnf) | (refine EvOr.go ?_; conv => whnf))
    refine CallG.use g3 c57 [0, 6, 2] [] ?_ ?_ ?_ ?_ ?_ ?_; rfl; rfl; kernel_rfl; rfl; rfl
    conv => whnf
    repeat (first | (refine ⟨(by kernel_rfl : chkR _ _ _ _ = true), ?_⟩; conv => whnf) | (refine EvOr.go ?_; conv => whnf))
    refine CallG.use f1 c53 [] [] ?_ ?_ ?_ ?_ ?_ ?_; rfl; rfl; kernel_rfl; rfl; rfl
    conv => whnf
    repeat (first | (refine ⟨(by kernel_rfl : chkR _ _ _ _ = true), ?_⟩; conv => whnf) | (refine EvOr.go ?_; conv => whnf))
    refine CallG.use w2' c60 [0, 6, 2] [1] ?_ ?_ ?_ ?_ ?_ ?_; rfl; rfl; kernel_rfl; rfl; rfl
    conv => whnf
    repeat (first | (refine ⟨(by kernel_rfl : chkR _ _ _ _ = true), ?_⟩; conv => whnf) | (refine EvOr.go ?_; conv => whnf))
    refine CallG.use f1 c53 [] [] ?_ ?_ ?_ ?_ ?_ ?_; rfl; rfl; kernel_rfl; rfl; rfl
    conv => whnf
    repeat (first | (refine ⟨(by kernel_rfl : chkR _ _ _ _ = true), ?_⟩; conv => whnf) | (refine EvOr.go ?_; conv => whnf))
    refine CallG.use w3 c60 [0, 6, 2] [] ?_ ?_ ?_ ?_ ?_ ?_; rfl; rfl; kernel_rfl; rfl; rfl
    conv => whnf
    repeat (first | (refine ⟨(by kernel_rfl : chkR _ _ _ _ = true), ?_⟩; conv => whnf) | (refine EvOr.go ?_; conv => whnf))
    repeat (intro c hc; simp [] at hc; subst hc; (conv => whnf); repeat (first | (refine ⟨(by kernel_rfl : chkR _ _ _ _ = true), ?_⟩; (conv => whnf)) | (refine EvOr.go ?_; (conv => whnf))))
    refine ⟨⟨by decide, by decide⟩, ?_⟩
    conv => whnf
    repeat (first | (refine ⟨(by kernel_rfl : chkR _ _ _ _ = true), ?_⟩; conv => whnf) | (refine EvOr.go ?_; conv => whnf))
    refine ⟨_, rfl, ?_⟩
    conv => whnf
    repeat (first | (refine ⟨(by kernel_rfl : chkR _ _ _ _ = true), ?_⟩; conv => whnf) | (refine EvOr.go ?_; conv => whnf))
    repeat (intro c hc; simp [] at hc; subst hc; (conv => whnf); repeat (first | (refine ⟨(by kernel_rfl : chkR _ _ _ _ = true), ?_⟩; (conv => whnf)) | (refine EvOr.go ?_; (conv => whnf))))
    refine ⟨⟨by decide, by decide⟩, ?_⟩
    conv => whnf
    repeat (first | (refine ⟨(by kernel_rfl : chkR _ _ _ _ = true), ?_⟩; conv => whnf) | (refine EvOr.go ?_; conv => whnf))
    refine ⟨_, rfl, ?_⟩
    conv => whnf
    repeat (first | (refine ⟨(by kernel_rfl : chkR _ _ _ _ = true), ?_⟩; conv => whnf) | (refine EvOr.go ?_; conv => whnf))
    repeat (intro c hc; simp [] at hc; subst hc; (conv => whnf); repeat (first | (refine ⟨(by kernel_rfl : chkR _ _ _ _ = true), ?_⟩; (conv => whnf)) | (refine EvOr.go ?_; (conv => whnf))))
    refine CallG.use f1 c53 [] [] ?_ ?_ ?_ ?_ ?_ ?_; rfl; rfl; kernel_rfl; rfl; rfl
    conv => whnf
    repeat (first | (refine ⟨(by kernel_rfl : chkR _ _ _ _ = true), ?_⟩; conv => whnf) | (refine EvOr.go ?_; conv => whnf))
    refine ⟨rfl, ?_⟩
    refine ⟨eq34, ?_⟩
    conv => whnf
    repeat (first | (refine ⟨(by kernel_rfl : chkR _ _ _ _ = true), ?_⟩; conv => whnf) | (refine EvOr.go ?_; conv => whnf))
    intro c hc
    obtain rfl : c = false := by
      cases c
      · rfl
      · exact absurd rfl (hc.1 rfl)
    conv => whnf
    repeat (first | (refine ⟨(by kernel_rfl : chkR _ _ _ _ = true), ?_⟩; conv => whnf) | (refine EvOr.go ?_; conv => whnf))
    conv => whnf
    repeat (first | (refine ⟨(by kernel_rfl : chkR _ _ _ _ = true), ?_⟩; conv => whnf) | (refine EvOr.go ?_; conv => whnf))
    repeat (intro c hc; simp [] at hc; subst hc; (conv => whnf); repeat (first | (refine ⟨(by kernel_rfl : chkR _ _ _ _ = true), ?_⟩; (conv => whnf)) | (refine EvOr.go ?_; (conv => whnf))))
    refine CallG.use f0 c53 [] [] ?_ ?_ ?_ ?_ ?_ ?_; rfl; rfl; kernel_rfl; rfl; rfl
    conv => whnf
    repeat (first | (refine ⟨(by kernel_rfl : chkR _ _ _ _ = true), ?_⟩; conv => whnf) | (refine EvOr.go ?_; conv => whnf))
    refine ⟨rfl, ?_⟩
    refine ⟨eq34, ?_⟩
    conv => whnf
    repeat (first | (refine ⟨(by kernel_rfl : chkR _ _ _ _ = true), ?_⟩; conv => whnf) | (refine EvOr.go ?_; conv => whnf))
    intro c hc
    obtain rfl : c = false := by
      cases c
      · rfl
      · exact absurd rfl (hc.1 rfl)
    conv => whnf
    repeat (first | (refine ⟨(by kernel_rfl : chkR _ _ _ _ = true), ?_⟩; conv => whnf) | (refine EvOr.go ?_; conv => whnf))
    conv => whnf
    repeat (first | (refine ⟨(by kernel_rfl : chkR _ _ _ _ = true), ?_⟩; conv => whnf) | (refine EvOr.go ?_; conv => whnf))
    repeat (intro c hc; simp [] at hc; subst hc; (conv => whnf); repeat (first | (refine ⟨(by kernel_rfl : chkR _ _ _ _ = true), ?_⟩; (conv => whnf)) | (refine EvOr.go ?_; (conv => whnf))))
    refine CallG.use r2 c56 [0, 6, 2] [] ?_ ?_ ?_ ?_ ?_ ?_; rfl; rfl; kernel_rfl; rfl; rfl
    conv => whnf
    repeat (first | (refine ⟨(by kernel_rfl : chkR _ _ _ _ = true), ?_⟩; conv => whnf) | (refine EvOr.go ?_; conv => whnf))
    refine CallG.use b1 c50 [] [] ?_ ?_ ?_ ?_ ?_ ?_; rfl; rfl; kernel_rfl; rfl; rfl
    conv => whnf
    repeat (first | (refine ⟨(by kernel_rfl : chkR _ _ _ _ = true), ?_⟩; conv => whnf) | (refine EvOr.go ?_; conv => whnf))
    refine CallG.use b2 c50 [] [] ?_ ?_ ?_ ?_ ?_ ?_; rfl; rfl; kernel_rfl; rfl; rfl
    conv => whnf
    repeat (first | (refine ⟨(by kernel_rfl : chkR _ _ _ _ = true), ?_⟩; conv => whnf) | (refine EvOr.go ?_; conv => whnf))
    refine CallG.use mend_nil c55 [] [] ?_ ?_ ?_ ?_ ?_ ?_; rfl; rfl; kernel_rfl; rfl; rfl
    conv => whnf
    repeat (first | (refine ⟨(by kernel_rfl : chkR _ _ _ _ = true), ?_⟩; conv => whnf) | (refine EvOr.go ?_; conv => whnf))
    refine CallG.use (write_emp 0 a1) c60 [12] [] ?_ ?_ ?_ ?_ ?_ ?_; rfl; rfl; kernel_rfl; rfl; rfl
    conv => whnf
    repeat (first | (refine ⟨(by kernel_rfl : chkR _ _ _ _ = true), ?_⟩; conv => whnf) | (refine EvOr.go ?_; conv => whnf))
    refine CallG.use (get_nil 0) c57 [] [] ?_ ?_ ?_ ?_ ?_ ?_; rfl; rfl; kernel_rfl; rfl; rfl
    conv => whnf
    repeat (first | (refine ⟨(by kernel_rfl : chkR _ _ _ _ = true), ?_⟩; conv => whnf) | (refine EvOr.go ?_; conv => whnf))
    repeat (intro c hc; simp [] at hc; subst hc; (conv => whnf); repeat (first | (refine ⟨(by kernel_rfl : chkR _ _ _ _ = true), ?_⟩; (conv => whnf)) | (refine EvOr.go ?_; (conv => whnf))))
    refine CallG.use (put_nil 0 a1) c52 [] [] ?_ ?_ ?_ ?_ ?_ ?_; rfl; rfl; kernel_rfl; rfl; rfl
    conv => whnf
    repeat (first | (refine ⟨(by kernel_rfl : chkR _ _ _ _ = true), ?_⟩; conv => whnf) | (refine EvOr.go ?_; conv => whnf))
    repeat (intro c hc; simp [] at hc; subst hc; (conv => whnf); repeat (first | (refine ⟨(by kernel_rfl : chkR _ _ _ _ = true), ?_⟩; (conv => whnf)) | (refine EvOr.go ?_; (conv => whnf))))
    refine CallG.use (lose_emp 0) c54 [12] [] ?_ ?_ ?_ ?_ ?_ ?_; rfl; rfl; kernel_rfl; rfl; rfl
    conv => whnf
    repeat (first | (refine ⟨(by kernel_rfl : chkR _ _ _ _ = true), ?_⟩; conv => whnf) | (refine EvOr.go ?_; conv => whnf))
    repeat (intro c hc; simp [] at hc; subst hc; (conv => whnf); repeat (first | (refine ⟨(by kernel_rfl : chkR _ _ _ _ = true), ?_⟩; (conv => whnf)) | (refine EvOr.go ?_; (conv => whnf))))
    refine CallG.use lost_nil c59 [] [] ?_ ?_ ?_ ?_ ?_ ?_; rfl; rfl; kernel_rfl; rfl; rfl
    conv => whnf
    repeat (first | (refine ⟨(by kernel_rfl : chkR _ _ _ _ = true), ?_⟩; conv => whnf) | (refine EvOr.go ?_; conv => whnf))
    repeat (intro c hc; simp [] at hc; subst hc; (conv => whnf); repeat (first | (refine ⟨(by kernel_rfl : chkR _ _ _ _ = true), ?_⟩; (conv => whnf)) | (refine EvOr.go ?_; (conv => whnf))))
    refine CallG.use rright_emp c56 [12] [] ?_ ?_ ?_ ?_ ?_ ?_; rfl; rfl; kernel_rfl; rfl; rfl
    conv => whnf
    repeat (first | (refine ⟨(by kernel_rfl : chkR _ _ _ _ = true), ?_⟩; conv => whnf) | (refine EvOr.go ?_; conv => whnf))
    repeat (intro c hc; simp [] at hc; subst hc; (conv => whnf); repeat (first | (refine ⟨(by kernel_rfl : chkR _ _ _ _ = true), ?_⟩; (conv => whnf)) | (refine EvOr.go ?_; (conv => whnf))))
    refine CallG.use cols_nil c70 [] [] ?_ ?_ ?_ ?_ ?_ ?_; rfl; rfl; kernel_rfl; rfl; rfl
    conv => whnf
    repeat (first | (refine ⟨(by kernel_rfl : chkR _ _ _ _ = true), ?_⟩; conv => whnf) | (refine EvOr.go ?_; conv => whnf))
    repeat (intro c hc; simp [] at hc; subst hc; (conv => whnf); repeat (first | (refine ⟨(by kernel_rfl : chkR _ _ _ _ = true), ?_⟩; (conv => whnf)) | (refine EvOr.go ?_; (conv => whnf))))
    refine CallG.use works51 c51 [] [] ?_ ?_ ?_ ?_ ?_ ?_; rfl; rfl; kernel_rfl; rfl; rfl
    conv => whnf
    repeat (first | (refine ⟨(by kernel_rfl : chkR _ _ _ _ = true), ?_⟩; conv => whnf) | (refine EvOr.go ?_; conv => whnf))
    exact retQ.one rfl (.inr rfl) rfl (Nat.le_of_ble_eq_true rfl) rfl
end Go.Proofs.Ytdmcbfmpnakdfaa.Eng.St
