/- MemberKnown, walked whole. -/
import Derived.Test.YtdmcbfmpnakdfaaNc
namespace Go.Proofs.Ytdmcbfmpnakdfaa.Eng
open Go Go.Proofs
set_option maxRecDepth 20000
set_option maxHeartbeats 4000000
abbrev r1 : List Nat := List.replicate 64 1
abbrev r2 : List Nat := List.replicate 64 2
theorem new_to (n : Int) (M : Mem) (hM : M = newM n) (h1 : 1 ≤ n) (h2 : n ≤ 65536) : FunT Try.prog 27 [iv n] [] (.tup [mpv, iv 0]) [some (memB M .nil .nil), imB [], imB [], none, none] := by
  subst hM; exact new_ok n h1 h2
theorem known_ok : FunT Try.prog 10 [] [] (bv true) [] := by
  have gZ := awake_ok
  have g1 := full_ok 1
  have g2 := full_ok 2
  obtain ⟨M0, hM0⟩ : ∃ A, A = newM 4 := ⟨_, rfl⟩
  obtain ⟨M1, hM1⟩ : ∃ A, A = wrote M0 1 r1 := ⟨_, rfl⟩
  obtain ⟨M2, hM2⟩ : ∃ A, A = wrote M1 1 r2 := ⟨_, rfl⟩
  obtain ⟨M3, hM3⟩ : ∃ A, A = crashed M2 (picked [1, 0]) := ⟨_, rfl⟩
  obtain ⟨M5, hM5⟩ : ∃ A, A = setM M3 1 r2 := ⟨_, rfl⟩
  obtain ⟨M6, hM6⟩ : ∃ A, A = backM M5 M3.seen := ⟨_, rfl⟩
  obtain ⟨M7, hM7⟩ : ∃ A, A = wrote M6 2 r1 := ⟨_, rfl⟩
  obtain ⟨M8, hM8⟩ : ∃ A, A = setM M7 2 r2 := ⟨_, rfl⟩
  obtain ⟨lg8, hlg8⟩ : ∃ A, A = (Lg.inx []).set M7.log 2 := ⟨_, rfl⟩
  obtain ⟨M9, hM9⟩ : ∃ A : Mem, A = { M8 with fails := true, hurt := M8.hurt || true } := ⟨_, rfl⟩
  obtain ⟨M10, hM10⟩ : ∃ A : Mem, A = { M9 with fails := false, hurt := M9.hurt || false } := ⟨_, rfl⟩
  have gN := new_to 4 M0 hM0 (by decide) (by decide)
  have gW1 := write_to M0 M1 .nil .nil 1 r1 hM1 (by subst hM0; rfl) (by subst hM0; decide) (by subst hM0; decide) (by subst hM0; decide)
  have gW2 := write_to M1 M2 (.inx []) .nil 1 r2 hM2 trivial (by subst hM1 hM0; decide) (by subst hM1 hM0; decide) (by subst hM1 hM0; decide)
  have gX := crashS_to M2 M3 (.inx []) .nil [1, 0] hM3 trivial (by subst hM2 hM1 hM0; decide) (by subst hM2 hM1 hM0; decide)
  have n3 : M3.n = 4 ∧ M3.fails = false ∧ M3.log = [] := by subst hM3 hM2 hM1 hM0; exact ⟨rfl, rfl, rfl⟩
  have i3 : ∀ M : Mem, M.n = 4 → M.fails = false → ∀ i : Int, 0 ≤ i → i < 4 → ioE M i = 0 := fun M h1 h2 i h3 h4 => by unfold ioE; rw [if_neg (by omega), h2]; rfl
  have s3 : getI M3.seen 1 = r1 := by subst hM3 hM2 hM1 hM0; decide +kernel
  have k3 : NK M3.seen := by subst hM3 hM2 hM1 hM0; exact NK_kept (D := ([] : Img)) (show NK [] from List.nodup_nil) _ _
  have gR3 := reads_ok M3 .nil .nil 1 r1 (by omega) (i3 M3 n3.1 n3.2.1 1 (by decide) (by decide)) true ⟨fun _ => by rw [s3], fun _ => rfl⟩
  have gMk := mark_ok M3 .nil (by omega)
  have gS5 := set_to M3 M5 .nil (.row 1) 1 r2 hM5 n3.2.2 (by omega) (by unfold mayE; rw [if_neg (by omega)]) (by rw [n3.2.2]; decide)
  have n5 : M5.n = 4 ∧ M5.fails = false ∧ M5.hurt = true := by rw [hM5]; exact ⟨n3.1, n3.2.1, rfl⟩
  have gT5 := touched_ok M5 .nil (.row 1) (by omega)
  rw [n5.2.2] at gT5
  have gB := back_to M5 M6 .nil M3.seen hM6 (by omega)
  have n6 : M6.n = 4 ∧ M6.fails = false ∧ M6.log = [] := by rw [hM6]; exact ⟨n5.1, n5.2.1, rfl⟩
  have e6 : M6.seen = M3.seen ∧ M6.dur = M3.seen := by rw [hM6]; exact ⟨rfl, rfl⟩
  have gR6 := reads_ok M6 .nil (.row 1) 1 r1 (by omega) (i3 M6 n6.1 n6.2.1 1 (by decide) (by decide)) true ⟨fun _ => by rw [e6.1, s3], fun _ => rfl⟩
  have gBE := back_err M6 .nil 1 1 (by omega) (.inr (by decide))
  have gW7 := write_to M6 M7 .nil (.row 1) 2 r1 hM7 n6.2.2 (by omega) (i3 M6 n6.1 n6.2.1 2 (by decide) (by decide)) (by rw [n6.2.2]; decide)
  have n7 : M7.n = 4 ∧ M7.fails = false ∧ M7.log = [(2, r1)] ∧ M7.dur = M3.seen := by rw [hM7]; exact ⟨n6.1, n6.2.1, by show M6.log ++ [(2, r1)] = _; rw [n6.2.2]; rfl, e6.2⟩
  have gS8 := set_to M7 M8 (.inx []) (.row 1) 2 r2 hM8 trivial (by omega) (by unfold mayE; rw [if_neg (by omega)]) (by rw [n7.2.2.1]; decide)
  rw [← hlg8] at gS8
  have n8 : M8.n = 4 ∧ M8.fails = false ∧ M8.log = [] := by rw [hM8]; exact ⟨n7.1, n7.2.1, by show delW 2 M7.log = []; rw [n7.2.2.1]; rfl⟩
  have lk8 : lg8 = .inx (junkD M7.log 2 []) := hlg8
  have gU8 := unflushed_ok M8 lg8 (.row 1) (by rw [lk8]; trivial) (by omega)
  rw [n8.2.2] at gU8
  have k7 : NK M7.seen := by rw [hM7]; exact NK_putI (M := M6.seen) (by rw [e6.1]; exact k3) 2 r1
  have gR8 := reads_ok M8 lg8 (.row 1) 2 r2 (by omega) (i3 M8 n8.1 n8.2.1 2 (by decide) (by decide)) true ⟨fun _ => by rw [hM8]; exact get_put k7 2 r2, fun _ => rfl⟩
  have gF9 := fail_ok M8 lg8 (.row 1) true (by omega)
  rw [← hM9] at gF9
  have n9 : M9.n = 4 ∧ M9.fails = true := by rw [hM9]; exact ⟨n8.1, rfl⟩
  have i9 : ioE M9 1 = 10 ∧ ioE M9 4 = 2 := by unfold ioE; rw [n9.1, n9.2]; exact ⟨rfl, rfl⟩
  have gE9 := read_err M9 lg8 (.row 1) 1 (by omega) (by rw [i9.1]; decide)
  rw [i9.1] at gE9
  have gE4 := read_err M9 lg8 (.row 1) 4 (by omega) (by rw [i9.2]; decide)
  rw [i9.2] at gE4
  have gFl := flush_err M9 lg8 (.row 1) (by omega) n9.2
  have gF10 := fail_ok M9 lg8 (.row 1) false (by omega)
  rw [← hM10] at gF10
  have gEnd := knoB M10 lg8 (by rw [hM10]; show 0 < M9.n; omega)
  have e0 : M0.seen = [] ∧ M0.dur = [] := by rw [hM0]; exact ⟨rfl, rfl⟩
  have e1 : M1.dur = [] := by rw [hM1]; exact e0.2
  have e2 : M2.dur = [] := by rw [hM2]; exact e1
  have e10 : M10.seen = M8.seen := by rw [hM10, hM9]
  obtain ⟨S3, hS3⟩ : ∃ S, S = M3.seen := ⟨_, rfl⟩
  rw [← hS3] at gB e6 n7 gMk
  clear hM0 hM1 hM2 hM3 hM5 hM6 hM7 hM8 hM9 hM10 hlg8 s3 k3 i3 n8 k7 i9
  subst lk8
  generalize junkD M7.log 2 [] = J8 at *
  obtain ⟨_, _, _, _, _, _⟩ := M0
  obtain ⟨rfl, rfl⟩ := e0
  obtain ⟨_, _, _, _, _, _⟩ := M1
  obtain rfl := e1
  obtain ⟨_, _, _, _, _, _⟩ := M2
  obtain rfl := e2
  obtain ⟨a3, s3, d3, l3, f3, h3⟩ := M3
  obtain rfl : s3 = S3 := hS3.symm
  obtain ⟨a6, s6, d6, l6, f6, h6⟩ := M6
  obtain rfl : s6 = s3 := e6.1
  obtain rfl : d6 = s6 := e6.2
  obtain ⟨a7, s7, d7, l7, f7, h7⟩ := M7
  obtain rfl : d7 = d6 := n7.2.2.2
  obtain ⟨a10, s10, d10, l10, f10, h10⟩ := M10
  obtain rfl : s10 = M8.seen := e10
  refine FunT.ev tabOk mixed Try.func10 rfl ?_
  conv => whnf
  repeat (first | (refine ⟨(by kernel_rfl : chkR _ _ _ _ = true), ?_⟩; conv => whnf) | (refine EvOr.go ?_; conv => whnf))
  refine CallG.use gN c27 [] [] ?_ ?_ ?_ ?_ ?_ ?_; rfl; rfl; kernel_rfl; rfl; rfl
  conv => whnf
  repeat (first | (refine ⟨(by kernel_rfl : chkR _ _ _ _ = true), ?_⟩; conv => whnf) | (refine EvOr.go ?_; conv => whnf))
  refine CallG.use gZ c26 [] [] ?_ ?_ ?_ ?_ ?_ ?_; rfl; rfl; kernel_rfl; rfl; rfl
  conv => whnf
  repeat (first | (refine ⟨(by kernel_rfl : chkR _ _ _ _ = true), ?_⟩; conv => whnf) | (refine EvOr.go ?_; conv => whnf))
  repeat (intro c hc; simp [] at hc; subst hc; (conv => whnf); repeat (first | (refine ⟨(by kernel_rfl : chkR _ _ _ _ = true), ?_⟩; (conv => whnf)) | (refine EvOr.go ?_; (conv => whnf))))
  refine CallG.use g1 c46 [] [] ?_ ?_ ?_ ?_ ?_ ?_; rfl; rfl; kernel_rfl; rfl; rfl
  conv => whnf
  repeat (first | (refine ⟨(by kernel_rfl : chkR _ _ _ _ = true), ?_⟩; conv => whnf) | (refine EvOr.go ?_; conv => whnf))
  refine CallG.use gW1 c38 [0, 1, 2, 3, 4] [0, 1, 3] ?_ ?_ ?_ ?_ ?_ ?_; rfl; rfl; kernel_rfl; rfl; rfl
  conv => whnf
  repeat (first | (refine ⟨(by kernel_rfl : chkR _ _ _ _ = true), ?_⟩; conv => whnf) | (refine EvOr.go ?_; conv => whnf))
  refine CallG.use g2 c46 [] [] ?_ ?_ ?_ ?_ ?_ ?_; rfl; rfl; kernel_rfl; rfl; rfl
  conv => whnf
  repeat (first | (refine ⟨(by kernel_rfl : chkR _ _ _ _ = true), ?_⟩; conv => whnf) | (refine EvOr.go ?_; conv => whnf))
  refine CallG.use gW2 c38 [0, 1, 2, 5, 4] [0, 1, 3] ?_ ?_ ?_ ?_ ?_ ?_; rfl; rfl; kernel_rfl; rfl; rfl
  conv => whnf
  repeat (first | (refine ⟨(by kernel_rfl : chkR _ _ _ _ = true), ?_⟩; conv => whnf) | (refine EvOr.go ?_; conv => whnf))
  refine CallG.use gX c32 [0, 1, 2, 6, 4, 7] [0, 1, 2, 3] ?_ ?_ ?_ ?_ ?_ ?_; rfl; rfl; kernel_rfl; rfl; rfl
  conv => whnf
  repeat (first | (refine ⟨(by kernel_rfl : chkR _ _ _ _ = true), ?_⟩; conv => whnf) | (refine EvOr.go ?_; conv => whnf))
  repeat (intro c hc; simp [] at hc; subst hc; (conv => whnf); repeat (first | (refine ⟨(by kernel_rfl : chkR _ _ _ _ = true), ?_⟩; (conv => whnf)) | (refine EvOr.go ?_; (conv => whnf))))
  refine CallG.use g1 c46 [] [] ?_ ?_ ?_ ?_ ?_ ?_; rfl; rfl; kernel_rfl; rfl; rfl
  conv => whnf
  repeat (first | (refine ⟨(by kernel_rfl : chkR _ _ _ _ = true), ?_⟩; conv => whnf) | (refine EvOr.go ?_; conv => whnf))
  refine CallG.use gR3 c34 [0, 8, 2, 6, 4] [] ?_ ?_ ?_ ?_ ?_ ?_; rfl; rfl; kernel_rfl; rfl; rfl
  conv => whnf
  repeat (first | (refine ⟨(by kernel_rfl : chkR _ _ _ _ = true), ?_⟩; conv => whnf) | (refine EvOr.go ?_; conv => whnf))
  refine CallG.use gMk c43 [0, 8, 2, 6, 4] [0] ?_ ?_ ?_ ?_ ?_ ?_; rfl; rfl; kernel_rfl; rfl; rfl
  conv => whnf
  repeat (first | (refine ⟨(by kernel_rfl : chkR _ _ _ _ = true), ?_⟩; conv => whnf) | (refine EvOr.go ?_; conv => whnf))
  repeat (intro c hc; simp [] at hc; subst hc; (conv => whnf); repeat (first | (refine ⟨(by kernel_rfl : chkR _ _ _ _ = true), ?_⟩; (conv => whnf)) | (refine EvOr.go ?_; (conv => whnf))))
  refine CallG.use g2 c46 [] [] ?_ ?_ ?_ ?_ ?_ ?_; rfl; rfl; kernel_rfl; rfl; rfl
  conv => whnf
  repeat (first | (refine ⟨(by kernel_rfl : chkR _ _ _ _ = true), ?_⟩; conv => whnf) | (refine EvOr.go ?_; conv => whnf))
  refine CallG.use gS5 c47 [0, 8, 2, 6, 10] [0, 1, 2, 3] ?_ ?_ ?_ ?_ ?_ ?_; rfl; rfl; kernel_rfl; rfl; rfl
  conv => whnf
  repeat (first | (refine ⟨(by kernel_rfl : chkR _ _ _ _ = true), ?_⟩; conv => whnf) | (refine EvOr.go ?_; conv => whnf))
  repeat (intro c hc; simp [] at hc; subst hc; (conv => whnf); repeat (first | (refine ⟨(by kernel_rfl : chkR _ _ _ _ = true), ?_⟩; (conv => whnf)) | (refine EvOr.go ?_; (conv => whnf))))
  refine CallG.use gT5 c35 [0, 8, 2, 6, 10] [] ?_ ?_ ?_ ?_ ?_ ?_; rfl; rfl; kernel_rfl; rfl; rfl
  conv => whnf
  repeat (first | (refine ⟨(by kernel_rfl : chkR _ _ _ _ = true), ?_⟩; conv => whnf) | (refine EvOr.go ?_; conv => whnf))
  refine CallG.use gB c44 [0, 8, 2, 6, 10, 9] [0] ?_ ?_ ?_ ?_ ?_ ?_; rfl; rfl; kernel_rfl; rfl; rfl
  conv => whnf
  repeat (first | (refine ⟨(by kernel_rfl : chkR _ _ _ _ = true), ?_⟩; conv => whnf) | (refine EvOr.go ?_; conv => whnf))
  repeat (intro c hc; simp [] at hc; subst hc; (conv => whnf); repeat (first | (refine ⟨(by kernel_rfl : chkR _ _ _ _ = true), ?_⟩; (conv => whnf)) | (refine EvOr.go ?_; (conv => whnf))))
  refine CallG.use g1 c46 [] [] ?_ ?_ ?_ ?_ ?_ ?_; rfl; rfl; kernel_rfl; rfl; rfl
  conv => whnf
  repeat (first | (refine ⟨(by kernel_rfl : chkR _ _ _ _ = true), ?_⟩; conv => whnf) | (refine EvOr.go ?_; conv => whnf))
  refine CallG.use gR6 c34 [0, 11, 12, 6, 10] [] ?_ ?_ ?_ ?_ ?_ ?_; rfl; rfl; kernel_rfl; rfl; rfl
  conv => whnf
  repeat (first | (refine ⟨(by kernel_rfl : chkR _ _ _ _ = true), ?_⟩; conv => whnf) | (refine EvOr.go ?_; conv => whnf))
  refine CallG.use gBE c44 [0, 11, 12, 6, 10] [] ?_ ?_ ?_ ?_ ?_ ?_; rfl; rfl; kernel_rfl; rfl; rfl
  conv => whnf
  repeat (first | (refine ⟨(by kernel_rfl : chkR _ _ _ _ = true), ?_⟩; conv => whnf) | (refine EvOr.go ?_; conv => whnf))
  repeat (intro c hc; simp [] at hc; subst hc; (conv => whnf); repeat (first | (refine ⟨(by kernel_rfl : chkR _ _ _ _ = true), ?_⟩; (conv => whnf)) | (refine EvOr.go ?_; (conv => whnf))))
  refine CallG.use g1 c46 [] [] ?_ ?_ ?_ ?_ ?_ ?_; rfl; rfl; kernel_rfl; rfl; rfl
  conv => whnf
  repeat (first | (refine ⟨(by kernel_rfl : chkR _ _ _ _ = true), ?_⟩; conv => whnf) | (refine EvOr.go ?_; conv => whnf))
  refine CallG.use gW7 c38 [0, 11, 12, 6, 10] [0, 1, 3] ?_ ?_ ?_ ?_ ?_ ?_; rfl; rfl; kernel_rfl; rfl; rfl
  conv => whnf
  repeat (first | (refine ⟨(by kernel_rfl : chkR _ _ _ _ = true), ?_⟩; conv => whnf) | (refine EvOr.go ?_; conv => whnf))
  refine CallG.use g2 c46 [] [] ?_ ?_ ?_ ?_ ?_ ?_; rfl; rfl; kernel_rfl; rfl; rfl
  conv => whnf
  repeat (first | (refine ⟨(by kernel_rfl : chkR _ _ _ _ = true), ?_⟩; conv => whnf) | (refine EvOr.go ?_; conv => whnf))
  refine CallG.use gS8 c47 [0, 11, 12, 13, 10] [0, 1, 2, 3] ?_ ?_ ?_ ?_ ?_ ?_; rfl; rfl; kernel_rfl; rfl; rfl
  conv => whnf
  repeat (first | (refine ⟨(by kernel_rfl : chkR _ _ _ _ = true), ?_⟩; conv => whnf) | (refine EvOr.go ?_; conv => whnf))
  repeat (intro c hc; simp [] at hc; subst hc; (conv => whnf); repeat (first | (refine ⟨(by kernel_rfl : chkR _ _ _ _ = true), ?_⟩; (conv => whnf)) | (refine EvOr.go ?_; (conv => whnf))))
  refine CallG.use gU8 c30 [0, 11, 12, 13, 10] [] ?_ ?_ ?_ ?_ ?_ ?_; rfl; rfl; kernel_rfl; rfl; rfl
  conv => whnf
  repeat (first | (refine ⟨(by kernel_rfl : chkR _ _ _ _ = true), ?_⟩; conv => whnf) | (refine EvOr.go ?_; conv => whnf))
  repeat (intro c hc; simp [] at hc; subst hc; (conv => whnf); repeat (first | (refine ⟨(by kernel_rfl : chkR _ _ _ _ = true), ?_⟩; (conv => whnf)) | (refine EvOr.go ?_; (conv => whnf))))
  refine CallG.use g2 c46 [] [] ?_ ?_ ?_ ?_ ?_ ?_; rfl; rfl; kernel_rfl; rfl; rfl
  conv => whnf
  repeat (first | (refine ⟨(by kernel_rfl : chkR _ _ _ _ = true), ?_⟩; conv => whnf) | (refine EvOr.go ?_; conv => whnf))
  refine CallG.use gR8 c34 [0, 11, 12, 13, 10] [] ?_ ?_ ?_ ?_ ?_ ?_; rfl; rfl; kernel_rfl; rfl; rfl
  conv => whnf
  repeat (first | (refine ⟨(by kernel_rfl : chkR _ _ _ _ = true), ?_⟩; conv => whnf) | (refine EvOr.go ?_; conv => whnf))
  refine CallG.use gF9 c37 [0, 11, 12, 13, 10] [0] ?_ ?_ ?_ ?_ ?_ ?_; rfl; rfl; kernel_rfl; rfl; rfl
  conv => whnf
  repeat (first | (refine ⟨(by kernel_rfl : chkR _ _ _ _ = true), ?_⟩; conv => whnf) | (refine EvOr.go ?_; conv => whnf))
  repeat (intro c hc; simp [] at hc; subst hc; (conv => whnf); repeat (first | (refine ⟨(by kernel_rfl : chkR _ _ _ _ = true), ?_⟩; (conv => whnf)) | (refine EvOr.go ?_; (conv => whnf))))
  refine CallG.use gE9 c33 [0, 11, 12, 13, 10] [] ?_ ?_ ?_ ?_ ?_ ?_; rfl; rfl; kernel_rfl; rfl; rfl
  conv => whnf
  repeat (first | (refine ⟨(by kernel_rfl : chkR _ _ _ _ = true), ?_⟩; conv => whnf) | (refine EvOr.go ?_; conv => whnf))
  refine CallG.use gFl c29 [0, 11, 12, 13, 10] [] ?_ ?_ ?_ ?_ ?_ ?_; rfl; rfl; kernel_rfl; rfl; rfl
  conv => whnf
  repeat (first | (refine ⟨(by kernel_rfl : chkR _ _ _ _ = true), ?_⟩; conv => whnf) | (refine EvOr.go ?_; conv => whnf))
  refine CallG.use gE4 c33 [0, 11, 12, 13, 10] [] ?_ ?_ ?_ ?_ ?_ ?_; rfl; rfl; kernel_rfl; rfl; rfl
  conv => whnf
  repeat (first | (refine ⟨(by kernel_rfl : chkR _ _ _ _ = true), ?_⟩; conv => whnf) | (refine EvOr.go ?_; conv => whnf))
  refine CallG.use gF10 c37 [0, 11, 12, 13, 10] [0] ?_ ?_ ?_ ?_ ?_ ?_; rfl; rfl; kernel_rfl; rfl; rfl
  conv => whnf
  repeat (refine ⟨(by kernel_rfl : chkR _ _ _ _ = true), ?_⟩; conv => whnf)
  refine EvOr.cut (CodeT.weaken _ (StW.ofP [0, 11, 12, 13, 10, 9] ?_ ?_ ?_) gEnd)
  · kernel_rfl
  · rfl
  · rfl
end Go.Proofs.Ytdmcbfmpnakdfaa.Eng
