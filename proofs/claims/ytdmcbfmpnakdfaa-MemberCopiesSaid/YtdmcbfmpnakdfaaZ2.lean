/- The document's member: lists that are frozen; found in them; joined. -/
import Derived.Test.YtdmcbfmpnakdfaaTf
import Derived.Test.YtdmcbfmpnakdfaaMp
import Derived.Test.YtdmcbfmpnakdfaaZ1
namespace Go.Proofs.Ytdmcbfmpnakdfaa.Eng.Rm
open Go Go.Proofs
set_option maxRecDepth 20000
set_option maxHeartbeats 8000000
theorem c40 : Callable Try.prog 40 := ⟨⟨_, Try.func40, by kernel_rfl, by kernel_rfl⟩⟩
theorem c96 : Callable Try.prog 96 := ⟨⟨_, Try.func96, by kernel_rfl, by kernel_rfl⟩⟩
theorem c97 : Callable Try.prog 97 := ⟨⟨_, Try.func97, by kernel_rfl, by kernel_rfl⟩⟩
theorem c98 : Callable Try.prog 98 := ⟨⟨_, Try.func98, by kernel_rfl, by kernel_rfl⟩⟩
theorem c99 : Callable Try.prog 99 := ⟨⟨_, Try.func99, by kernel_rfl, by kernel_rfl⟩⟩
theorem c100 : Callable Try.prog 100 := ⟨⟨_, Try.func100, by kernel_rfl, by kernel_rfl⟩⟩
theorem c101 : Callable Try.prog 101 := ⟨⟨_, Try.func101, by kernel_rfl, by kernel_rfl⟩⟩
theorem c102 : Callable Try.prog 102 := ⟨⟨_, Try.func102, by kernel_rfl, by kernel_rfl⟩⟩
theorem c103 : Callable Try.prog 103 := ⟨⟨_, Try.func103, by kernel_rfl, by kernel_rfl⟩⟩
theorem c104 : Callable Try.prog 104 := ⟨⟨_, Try.func104, by kernel_rfl, by kernel_rfl⟩⟩
theorem c126 : Callable Try.prog 126 := ⟨⟨_, Try.func126, by kernel_rfl, by kernel_rfl⟩⟩
theorem c127 : Callable Try.prog 127 := ⟨⟨_, Try.func127, by kernel_rfl, by kernel_rfl⟩⟩
theorem c128 : Callable Try.prog 128 := ⟨⟨_, Try.func128, by kernel_rfl, by kernel_rfl⟩⟩
theorem c129 : Callable Try.prog 129 := ⟨⟨_, Try.func129, by kernel_rfl, by kernel_rfl⟩⟩
theorem c45 : Callable Try.prog 45 := ⟨⟨_, Try.func45, by kernel_rfl, by kernel_rfl⟩⟩
abbrev rowE (A : Img) : Option ABlk := some (.row .ro 154 65 (A.map encW) [])
abbrev rowN (A : Img) : Option ABlk := some (.row .inx 154 65 (A.map encW) [])
/-- The last with a number. -/
def fIdx (A : Img) (i : Int) : Nat := A.reverse.findIdx (fun p => p.1 == i)
def findE (A : Img) (i : Int) : List Nat × Bool := match A.reverse.find? (fun p => p.1 == i) with
  | some p => (p.2, true)
  | none => (zs 64, false)
theorem rev_get {A : Img} {k : Nat} (hk : k < A.length) : A.reverse[k]'(by simpa using hk) = A[A.length - 1 - k] := by
  rw [List.getElem_reverse]
theorem f_not {A : Img} {i : Int} {k : Nat} (hk : k < A.length) (h : k < fIdx A i) : (A[A.length - 1 - k].1 == i) = false := by
  have h1 := List.not_of_lt_findIdx h
  rw [rev_get hk] at h1
  simpa using h1
theorem f_at {A : Img} {i : Int} (h : fIdx A i < A.length) : (A[A.length - 1 - fIdx A i].1 == i) = true ∧ findE A i = (A[A.length - 1 - fIdx A i].2, true) := by
  have hw : A.reverse.findIdx (fun p : Int × List Nat => p.1 == i) < A.reverse.length := by simpa [fIdx] using h
  have h1 := List.findIdx_getElem (xs := A.reverse) (p := fun p : Int × List Nat => p.1 == i) (w := hw)
  have h2 : A.reverse.find? (fun p => p.1 == i) = some (A.reverse[A.reverse.findIdx (fun p : Int × List Nat => p.1 == i)]'hw) := List.find?_eq_some_iff_getElem.2 ⟨h1, _, hw, rfl, fun j hj => by
    have := List.not_of_lt_findIdx hj
    simpa using this⟩
  have hr : A.reverse[A.reverse.findIdx (fun p : Int × List Nat => p.1 == i)]'hw = A[A.length - 1 - fIdx A i] := rev_get h
  rw [hr] at h1 h2
  refine ⟨h1, ?_⟩
  unfold findE
  rw [h2]
theorem f_none {A : Img} {i : Int} (h : ¬ fIdx A i < A.length) : findE A i = (zs 64, false) := by
  unfold findE
  have : A.reverse.find? (fun p => p.1 == i) = none := by
    rw [List.find?_eq_none]
    intro p hp
    obtain ⟨j, hj, rfl⟩ := List.getElem_of_mem hp
    have := List.not_of_lt_findIdx (p := fun p : Int × List Nat => p.1 == i) (xs := A.reverse) (i := j) (by
      have h9 : A.length ≤ List.findIdx (fun p => p.1 == i) A.reverse := Nat.le_of_not_lt h
      simp at hj; omega)
    simpa using this
  rw [this]
def finI (A : Img) (i : Int) (k : Nat) : LTm × LHp :=
  ([.sc (.sl 0 0 65 A.length none), iv i, .junk, .junk, .sc (.ptr 1 0 64 0), .junk, iv ((A.length : Int) - 1 - k), .junk, .junk, .junk, .junk, .junk, .junk, .junk, .junk, .junk, .junk, .junk, .junk, .junk, .junk, .junk, .junk, .junk, .junk, .junk, .junk], [rowE A, some (.row .one 34 64 [[.byt 64 (zs 64)]] [])])
theorem find_row (A : Img) (i : Int) (hb : A.length < 2 ^ 32) : FunT Try.prog 129 [.sc (.sl 0 0 65 A.length none), iv i] [rowE A] (.tup [secV (findE A i).1, bv (findE A i).2]) [rowE A] := by
  have hle : fIdx A i ≤ A.length := by have := List.findIdx_le_length (xs := A.reverse) (p := fun p => p.1 == i); simpa [fIdx] using this
  have e0 : arithI .sub .i64 (A.length : Nat) 1 = some ((A.length : Int) - 1 - ((0 : Nat) : Int)) := by
    show some (IntKind.i64.wrap _) = _
    rw [IntWalk.i64_in _ ⟨by omega, by omega⟩]
    congr 1; omega
  obtain ⟨I, hI⟩ : ∃ I, I = finI A i := ⟨_, rfl⟩
  refine FunT.ev tabOk mixed Try.func129 rfl ?_
  conv => whnf
  repeat (first | (refine ⟨(by kernel_rfl : chkR _ _ _ _ = true), ?_⟩; conv => whnf) | (refine EvOr.go ?_; conv => whnf))
  refine ⟨_, e0, ?_⟩
  conv => whnf
  repeat (first | (refine ⟨(by kernel_rfl : chkR _ _ _ _ = true), ?_⟩; conv => whnf) | (refine EvOr.go ?_; conv => whnf))
  refine CodeT.loopN tabOk mixed I (fIdx A i) _ (StW.ofP [0, 1] ?_ ?_ ?_) (fun k => by subst hI; rfl) ?_
  · subst hI; kernel_rfl
  · subst hI; rfl
  · subst hI; rfl
  intro k hk
  subst hI
  show evC Try.prog tab _ _ (finI A i k).1 (finI A i k).2 _
  by_cases hkA : k < A.length
  · have hi : A.length - 1 - k < A.length := by omega
    have hg : (A.map encW)[0 + ((A.length : Int) - 1 - k).toNat]? = some (encW A[A.length - 1 - k]) := by
      rw [show 0 + ((A.length : Int) - 1 - k).toNat = A.length - 1 - k by omega]
      simp [hi]
    by_cases hf : k < fIdx A i
    · have hn := f_not hkA hf
      have e1 : arithI .sub .i64 ((A.length : Int) - 1 - k) 1 = some ((A.length : Int) - 1 - ((k + 1 : Nat) : Int)) := by
        show some (IntKind.i64.wrap _) = _
        rw [IntWalk.i64_in _ ⟨by omega, by omega⟩]
        congr 1; omega
      unfold finI
      generalize A[A.length - 1 - k] = p at *
      conv => whnf
      repeat (first | (refine ⟨(by kernel_rfl : chkR _ _ _ _ = true), ?_⟩; conv => whnf) | (refine EvOr.go ?_; conv => whnf))
      intro c hc
      obtain rfl : c = true := by rw [hc]; exact decide_eq_true (by omega)
      conv => whnf
      repeat (first | (refine ⟨(by kernel_rfl : chkR _ _ _ _ = true), ?_⟩; conv => whnf) | (refine EvOr.go ?_; conv => whnf))
      refine ⟨⟨by omega, by omega⟩, ?_⟩
      conv => whnf
      repeat (first | (refine ⟨(by kernel_rfl : chkR _ _ _ _ = true), ?_⟩; conv => whnf) | (refine EvOr.go ?_; conv => whnf))
      refine ⟨_, hg, ?_⟩
      conv => whnf
      repeat (first | (refine ⟨(by kernel_rfl : chkR _ _ _ _ = true), ?_⟩; conv => whnf) | (refine EvOr.go ?_; conv => whnf))
      intro c hc
      obtain rfl : c = false := by rw [hc, hn]
      conv => whnf
      repeat (first | (refine ⟨(by kernel_rfl : chkR _ _ _ _ = true), ?_⟩; conv => whnf) | (refine EvOr.go ?_; conv => whnf))
      refine ⟨_, e1, ?_⟩
      conv => whnf
      repeat (first | (refine ⟨(by kernel_rfl : chkR _ _ _ _ = true), ?_⟩; conv => whnf) | (refine EvOr.go ?_; conv => whnf))
      refine ⟨by omega, _, StW.ofP [0, 1] ?_ ?_ ?_⟩
      · kernel_rfl
      · rfl
      · rfl
    · obtain rfl : k = fIdx A i := by omega
      obtain ⟨h1, h2⟩ := f_at hkA
      rw [h2]
      unfold finI
      generalize A[A.length - 1 - fIdx A i] = p at *
      conv => whnf
      repeat (first | (refine ⟨(by kernel_rfl : chkR _ _ _ _ = true), ?_⟩; conv => whnf) | (refine EvOr.go ?_; conv => whnf))
      intro c hc
      obtain rfl : c = true := by rw [hc]; exact decide_eq_true (by omega)
      conv => whnf
      repeat (first | (refine ⟨(by kernel_rfl : chkR _ _ _ _ = true), ?_⟩; conv => whnf) | (refine EvOr.go ?_; conv => whnf))
      refine ⟨⟨by omega, by omega⟩, ?_⟩
      conv => whnf
      repeat (first | (refine ⟨(by kernel_rfl : chkR _ _ _ _ = true), ?_⟩; conv => whnf) | (refine EvOr.go ?_; conv => whnf))
      refine ⟨_, hg, ?_⟩
      conv => whnf
      repeat (first | (refine ⟨(by kernel_rfl : chkR _ _ _ _ = true), ?_⟩; conv => whnf) | (refine EvOr.go ?_; conv => whnf))
      intro c hc
      obtain rfl : c = true := by rw [hc, h1]
      conv => whnf
      repeat (first | (refine ⟨(by kernel_rfl : chkR _ _ _ _ = true), ?_⟩; conv => whnf) | (refine EvOr.go ?_; conv => whnf))
      refine ⟨⟨by omega, by omega⟩, ?_⟩
      conv => whnf
      repeat (first | (refine ⟨(by kernel_rfl : chkR _ _ _ _ = true), ?_⟩; conv => whnf) | (refine EvOr.go ?_; conv => whnf))
      refine ⟨_, hg, ?_⟩
      conv => whnf
      repeat (first | (refine ⟨(by kernel_rfl : chkR _ _ _ _ = true), ?_⟩; conv => whnf) | (refine EvOr.go ?_; conv => whnf))
      exact retQ.all tabOk _ [secV p.2, bv true] rfl (by first | exact .inr rfl | exact .inl rfl) (by repeat' (first | exact trivial | rfl | (intro h; cases h; done) | (refine ⟨?_, ?_⟩))) rfl (by rfl) (Nat.le_of_ble_eq_true rfl) (by rfl)
  · have hkk : fIdx A i = A.length := by omega
    obtain rfl : k = A.length := by omega
    rw [f_none (by omega)]
    unfold finI
    conv => whnf
    repeat (first | (refine ⟨(by kernel_rfl : chkR _ _ _ _ = true), ?_⟩; conv => whnf) | (refine EvOr.go ?_; conv => whnf))
    intro c hc
    obtain rfl : c = false := by rw [hc]; exact decide_eq_false (by omega)
    conv => whnf
    repeat (first | (refine ⟨(by kernel_rfl : chkR _ _ _ _ = true), ?_⟩; conv => whnf) | (refine EvOr.go ?_; conv => whnf))
    exact retQ.all tabOk _ [secV (zs 64), bv false] rfl (by first | exact .inr rfl | exact .inl rfl) (by repeat' (first | exact trivial | rfl | (intro h; cases h; done) | (refine ⟨?_, ?_⟩))) rfl (by rfl) (Nat.le_of_ble_eq_true rfl) (by rfl)
theorem find_nil (R : List (Nat × Obj)) (i : Int) : FunT Try.prog 129 [.sc nilS, iv i] [some (famB R)] (.tup [secV (zs 64), bv false]) [some (famB R)] := by
  refine FunT.ev tabOk mixed Try.func129 rfl ?_
  conv => whnf
  repeat (first | (refine ⟨(by kernel_rfl : chkR _ _ _ _ = true), ?_⟩; conv => whnf) | (refine EvOr.go ?_; conv => whnf))
  refine ⟨-1, rfl, ?_⟩
  conv => whnf
  repeat (first | (refine ⟨(by kernel_rfl : chkR _ _ _ _ = true), ?_⟩; conv => whnf) | (refine EvOr.go ?_; conv => whnf))
  refine CodeS.loop0 tabOk mixed (Nat.le_of_ble_eq_true rfl) ?_
  conv => whnf
  repeat (first | (refine ⟨(by kernel_rfl : chkR _ _ _ _ = true), ?_⟩; conv => whnf) | (refine EvOr.go ?_; conv => whnf))
  intro c hc
  obtain rfl : c = false := by rw [hc]; rfl
  conv => whnf
  repeat (first | (refine ⟨(by kernel_rfl : chkR _ _ _ _ = true), ?_⟩; conv => whnf) | (refine EvOr.go ?_; conv => whnf))
  exact retQ.all tabOk _ [secV (zs 64), bv false] rfl (by first | exact .inr rfl | exact .inl rfl) (by repeat' (first | exact trivial | rfl | (intro h; cases h; done) | (refine ⟨?_, ?_⟩))) rfl (by rfl) (Nat.le_of_ble_eq_true rfl) (by rfl)
/-- A list that is frozen. -/
def RawAt (R : List (Nat × Obj)) (A : Img) (v : Value) : Prop :=
  (v = .slice none 0 0 ∧ A = []) ∨ 0 < A.length ∧ ∃ b off cap c t' fr pre post, v = .slice (some ⟨b, off, none⟩) A.length cap ∧ A.length ≤ cap ∧ (b, Obj.cells c t' fr) ∈ R ∧ (∀ ρ, c.toList = pre ++ (rowDen ρ (A.map encW) ++ post)) ∧ pre.length = off
theorem enc_ok (A : Img) : ∀ e ∈ A.map encW, Segs.size e = 65 ∧ Segs.oneB e = true := fun e he => by
  obtain ⟨p, _, rfl⟩ := List.mem_map.1 he
  exact ⟨rfl, rfl⟩
theorem enc_ids (A : Img) : ∀ e ∈ A.map encW, Segs.ids e = [] := fun e he => by
  obtain ⟨p, _, rfl⟩ := List.mem_map.1 he
  rfl
theorem find_raw {R : List (Nat × Obj)} {A : Img} {v : Value} (h : RawAt R A v) (i : Int) (hb : A.length < 2 ^ 32) : FunT Try.prog 129 [.sc (.raw v), iv i] [some (famB R)] (.tup [secV (findE A i).1, bv (findE A i).2]) [some (famB R)] := by
  rcases h with ⟨rfl, rfl⟩ | ⟨_, b, off, cap, c, t', fr, pre, post, rfl, hc, hR, hcs, hp⟩
  · exact find_nil R i
  · exact FunT.fam (h := [rowE A]) (h' := [rowE A]) 0 (find_row A i hb) rfl (by show 0 < 1; decide) hR hcs hp (by simpa using hc) (enc_ok A) (enc_ids A) (fun ρ => by simp [AV.dens, AV.den, SV.den, updR_same]) rfl rfl (fun x hx => by cases hx)
def jS (A : Img) (id : Nat) : SV := match A with
  | [] => nilS
  | A => .sl id 0 65 A.length none
def jB (A : Img) : Option ABlk := match A with
  | [] => none
  | A => rowN A
theorem j_row {A : Img} (id : Nat) (h : 0 < A.length) : jS A id = .sl id 0 65 A.length none ∧ jB A = rowN A := by
  cases A with
  | nil => cases h
  | cons a r => exact ⟨rfl, rfl⟩
theorem enc_take (A : Img) : List.take A.length (List.drop 0 (A.map encW)) = A.map encW := by
  rw [List.drop_zero]; exact List.take_of_length_le (by rw [List.length_map]; exact Nat.le_refl _)
theorem join_rr (A B : Img) (co : Option Nat) (hA : 0 < A.length) (hB : 0 < B.length) (hb : A.length < 2 ^ 30) (hb2 : B.length < 2 ^ 30) : FunT Try.prog 127 [.sc (.sl 0 0 65 A.length none), .sc (.sl 1 0 65 B.length co)] [rowE A, rowE B] (.sc (.sl 2 0 65 (A.length + B.length) none)) [rowE A, rowE B, rowN (A ++ B)] := by
  have e : rowN (A ++ B) = some (.row .inx 154 65 (List.take A.length (List.drop 0 (List.take A.length (List.drop 0 (A.map encW)))) ++ List.take B.length (List.drop 0 (B.map encW))) []) := by
    rw [enc_take, enc_take, enc_take, ← List.map_append]
  rw [e]
  cases co <;>
  · refine FunT.ev tabOk mixed Try.func127 rfl ?_
    conv => whnf
    repeat (first | (refine ⟨(by kernel_rfl : chkR _ _ _ _ = true), ?_⟩; conv => whnf) | (refine EvOr.go ?_; conv => whnf))
    refine ⟨by rw [List.length_map]; omega, ?_⟩
    conv => whnf
    repeat (first | (refine ⟨(by kernel_rfl : chkR _ _ _ _ = true), ?_⟩; conv => whnf) | (refine EvOr.go ?_; conv => whnf))
    refine ⟨fun h => absurd h (by show ¬ A.length = 0; omega), fun _ => ⟨by show (2 * A.length + 192) * 72 ≤ 2 ^ 48; omega, ?_⟩⟩
    conv => whnf
    repeat (first | (refine ⟨(by kernel_rfl : chkR _ _ _ _ = true), ?_⟩; conv => whnf) | (refine EvOr.go ?_; conv => whnf))
    refine ⟨by rw [List.length_map]; omega, ?_⟩
    conv => whnf
    repeat (first | (refine ⟨(by kernel_rfl : chkR _ _ _ _ = true), ?_⟩; conv => whnf) | (refine EvOr.go ?_; conv => whnf))
    refine ⟨by rw [enc_take, List.length_map]; omega, fun h => absurd h (by omega), fun _ => ⟨by show (2 * (A.length + B.length) + 192) * 72 ≤ 2 ^ 48; omega, ?_⟩⟩
    conv => whnf
    repeat (first | (refine ⟨(by kernel_rfl : chkR _ _ _ _ = true), ?_⟩; conv => whnf) | (refine EvOr.go ?_; conv => whnf))
    exact retQ.oneS [0, 1, 3] rfl (by first | exact .inr rfl | exact .inl rfl) rfl (by kernel_rfl) (by first | rfl | kernel_rfl)
theorem join_rn (A : Img) (hA : 0 < A.length) (hb : A.length < 2 ^ 30) (R : List (Nat × Obj)) : FunT Try.prog 127 [.sc (.sl 0 0 65 A.length none), .sc nilS] [rowE A, some (famB R)] (.sc (.sl 2 0 65 A.length none)) [rowE A, some (famB R), rowN A] := by
  have e : rowN A = some (.row .inx 154 65 (List.take A.length (List.drop 0 (A.map encW))) []) := by rw [enc_take]
  rw [e]
  refine FunT.ev tabOk mixed Try.func127 rfl ?_
  conv => whnf
  repeat (first | (refine ⟨(by kernel_rfl : chkR _ _ _ _ = true), ?_⟩; conv => whnf) | (refine EvOr.go ?_; conv => whnf))
  refine ⟨by rw [List.length_map]; omega, ?_⟩
  conv => whnf
  repeat (first | (refine ⟨(by kernel_rfl : chkR _ _ _ _ = true), ?_⟩; conv => whnf) | (refine EvOr.go ?_; conv => whnf))
  refine ⟨fun h => absurd h (by show ¬ A.length = 0; omega), fun _ => ⟨by show (2 * A.length + 192) * 72 ≤ 2 ^ 48; omega, ?_⟩⟩
  conv => whnf
  repeat (first | (refine ⟨(by kernel_rfl : chkR _ _ _ _ = true), ?_⟩; conv => whnf) | (refine EvOr.go ?_; conv => whnf))
  refine ⟨by rw [enc_take, List.length_map]; omega, fun _ => ?_, fun h => absurd h (by decide)⟩
  conv => whnf
  repeat (first | (refine ⟨(by kernel_rfl : chkR _ _ _ _ = true), ?_⟩; conv => whnf) | (refine EvOr.go ?_; conv => whnf))
  exact retQ.oneS [0, 1, 2] rfl (by first | exact .inr rfl | exact .inl rfl) rfl (by kernel_rfl) (by first | rfl | kernel_rfl)
theorem join_nr (B : Img) (co : Option Nat) (hB : 0 < B.length) (hb : B.length < 2 ^ 30) (R : List (Nat × Obj)) : FunT Try.prog 127 [.sc nilS, .sc (.sl 1 0 65 B.length co)] [some (famB R), rowE B] (.sc (.sl 2 0 65 B.length none)) [some (famB R), rowE B, rowN B] := by
  have e : rowN B = some (.row .inx 154 65 (List.take B.length (List.drop 0 (B.map encW))) []) := by rw [enc_take]
  rw [e]
  cases co <;>
  · refine FunT.ev tabOk mixed Try.func127 rfl ?_
    conv => whnf
    repeat (first | (refine ⟨(by kernel_rfl : chkR _ _ _ _ = true), ?_⟩; conv => whnf) | (refine EvOr.go ?_; conv => whnf))
    refine ⟨fun _ => ?_, fun h => absurd h (by decide)⟩
    conv => whnf
    repeat (first | (refine ⟨(by kernel_rfl : chkR _ _ _ _ = true), ?_⟩; conv => whnf) | (refine EvOr.go ?_; conv => whnf))
    refine ⟨by rw [List.length_map]; omega, ?_⟩
    conv => whnf
    repeat (first | (refine ⟨(by kernel_rfl : chkR _ _ _ _ = true), ?_⟩; conv => whnf) | (refine EvOr.go ?_; conv => whnf))
    refine ⟨fun h => absurd h (by show ¬ B.length = 0; omega), fun _ => ⟨by show (2 * B.length + 192) * 72 ≤ 2 ^ 48; omega, ?_⟩⟩
    conv => whnf
    repeat (first | (refine ⟨(by kernel_rfl : chkR _ _ _ _ = true), ?_⟩; conv => whnf) | (refine EvOr.go ?_; conv => whnf))
    exact retQ.oneS [0, 1, 2] rfl (by first | exact .inr rfl | exact .inl rfl) rfl (by kernel_rfl) (by first | rfl | kernel_rfl)
theorem join_nn (R : List (Nat × Obj)) : FunT Try.prog 127 [.sc nilS, .sc nilS] [some (famB R), some (famB R)] (.sc nilS) [some (famB R), some (famB R), none] := by
  refine FunT.ev tabOk mixed Try.func127 rfl ?_
  conv => whnf
  repeat (first | (refine ⟨(by kernel_rfl : chkR _ _ _ _ = true), ?_⟩; conv => whnf) | (refine EvOr.go ?_; conv => whnf))
  refine ⟨fun _ => ?_, fun h => absurd h (by decide)⟩
  conv => whnf
  repeat (first | (refine ⟨(by kernel_rfl : chkR _ _ _ _ = true), ?_⟩; conv => whnf) | (refine EvOr.go ?_; conv => whnf))
  refine ⟨fun _ => ?_, fun h => absurd h (by decide)⟩
  conv => whnf
  repeat (first | (refine ⟨(by kernel_rfl : chkR _ _ _ _ = true), ?_⟩; conv => whnf) | (refine EvOr.go ?_; conv => whnf))
  exact retQ.oneS [0, 1, 2] rfl (by first | exact .inr rfl | exact .inl rfl) rfl (by kernel_rfl) (by first | rfl | kernel_rfl)
/-- Two frozen lists joined. -/
theorem join_raw {R : List (Nat × Obj)} {A B : Img} {v u : Value} (hA : RawAt R A v) (hB : RawAt R B u) (hb : A.length < 2 ^ 30) (hb2 : B.length < 2 ^ 30) :
    FunT Try.prog 127 [.sc (.raw v), .sc (.raw u)] [some (famB R), some (famB R)] (.sc (jS (A ++ B) 2)) [some (famB R), some (famB R), jB (A ++ B)] := by
  rcases hA with ⟨rfl, rfl⟩ | ⟨h0, b, off, cap, c, t', fr, pre, post, rfl, hc, hR, hcs, hp⟩
  · rcases hB with ⟨rfl, rfl⟩ | ⟨h1, b1, off1, cap1, c1, t1, fr1, pre1, post1, rfl, hc1, hR1, hcs1, hp1⟩
    · exact join_nn R
    · obtain ⟨q1, q2⟩ := j_row (A := B) 2 h1
      rw [List.nil_append, q1, q2]
      exact FunT.fam (h := [some (famB R), rowE B]) (h' := [some (famB R), rowE B, rowN B]) 1 (join_nr B none h1 hb2 R) rfl (by show 1 < 2; decide) hR1 hcs1 hp1 (by simpa using hc1) (enc_ok B) (enc_ids B) (fun ρ => by simp [AV.dens, AV.den, SV.den, updR_same]) rfl rfl (fun x hx => by simp [AV.ids, SV.ids] at hx; omega)
  · rcases hB with ⟨rfl, rfl⟩ | ⟨h1, b1, off1, cap1, c1, t1, fr1, pre1, post1, rfl, hc1, hR1, hcs1, hp1⟩
    · obtain ⟨q1, q2⟩ := j_row (A := A) 2 h0
      rw [List.append_nil, q1, q2]
      exact FunT.fam (h := [rowE A, some (famB R)]) (h' := [rowE A, some (famB R), rowN A]) 0 (join_rn A h0 hb R) rfl (by show 0 < 2; decide) hR hcs hp (by simpa using hc) (enc_ok A) (enc_ids A) (fun ρ => by simp [AV.dens, AV.den, SV.den, updR_same]) rfl rfl (fun x hx => by simp [AV.ids, SV.ids] at hx; omega)
    · obtain ⟨q1, q2⟩ := j_row (A := A ++ B) 2 (by simp; omega)
      rw [q1, q2, List.length_append]
      have f1 := FunT.fam (h := [rowE A, rowE B]) (h' := [rowE A, rowE B, rowN (A ++ B)]) (args2 := [.sc (.raw (.slice (some ⟨b, off, none⟩) A.length cap)), .sc (.sl 1 0 65 B.length none)]) 0 (join_rr A B none h0 h1 hb hb2) rfl (by show 0 < 2; decide) hR hcs hp (by simpa using hc) (enc_ok A) (enc_ids A) (fun ρ => by simp [AV.dens, AV.den, SV.den, updR_same, updR]) rfl rfl (fun x hx => by simp [AV.ids, SV.ids] at hx; omega)
      exact FunT.fam (h := [some (famB R), rowE B]) (h' := [some (famB R), rowE B, rowN (A ++ B)]) 1 f1 rfl (by show 1 < 2; decide) hR1 hcs1 hp1 (by simpa using hc1) (enc_ok B) (enc_ids B) (fun ρ => by simp [AV.dens, AV.den, SV.den, updR_same]) rfl rfl (fun x hx => by simp [AV.ids, SV.ids] at hx; omega)
/-- A frozen list and one of one entry. -/
theorem join_one {R : List (Nat × Obj)} {A : Img} {v : Value} (p : Int × List Nat) (hA : RawAt R A v) (hb : A.length < 2 ^ 30) :
    FunT Try.prog 127 [.sc (.raw v), .sc (.sl 1 0 65 1 (some 1))] [some (famB R), rowE [p]] (.sc (.sl 2 0 65 (A.length + 1) none)) [some (famB R), rowE [p], rowN (A ++ [p])] := by
  rcases hA with ⟨rfl, rfl⟩ | ⟨h0, b, off, cap, c, t', fr, pre, post, rfl, hc, hR, hcs, hp⟩
  · exact join_nr [p] (some 1) (by simp) (by simp) R
  · exact FunT.fam (h := [rowE A, rowE [p]]) (h' := [rowE A, rowE [p], rowN (A ++ [p])]) 0 (join_rr A [p] (some 1) h0 (by simp) hb (by simp)) rfl (by show 0 < 2; decide) hR hcs hp (by simpa using hc) (enc_ok A) (enc_ids A) (fun ρ => by simp [AV.dens, AV.den, SV.den, updR_same, updR]) rfl rfl (fun x hx => by simp [AV.ids, SV.ids] at hx; omega)
end Go.Proofs.Ytdmcbfmpnakdfaa.Eng.Rm
/- The document's member: what its small functions do. -/
namespace Go.Proofs.Ytdmcbfmpnakdfaa.Eng.Rm
open Go Go.Proofs
set_option maxRecDepth 20000
set_option maxHeartbeats 8000000
/-- A slice's raw value. -/
structure Sl where
  a : Option Addr
  n : Nat
  c : Nat
abbrev Sl.v (s : Sl) : Value := .slice s.a s.n s.c
/-- The document's member; d, l, m: its lists. -/
abbrev refGs (n : Int) (d l m : SV) (f h : Bool) : Segs := [.one (.raw (.int .i64 n)), .one d, .one l, .one m, .one (.raw (.bool f)), .one (.raw (.bool h))]
abbrev refS (n : Int) (d l m : SV) (f h : Bool) : Option ABlk := some (.row .one 133 6 [refGs n d l m f h] (Segs.ids (refGs n d l m f h)))
abbrev refG (n : Int) (d l : Sl) (mk : Mk) (f h : Bool) : Option ABlk := refS n (.raw d.v) (.raw l.v) (mk.sv 3) f h
abbrev rpt : AV := .sc (.ptr 0 0 6 0)
def mayB (n i : Int) : Bool := decide (0 ≤ i ∧ i < n)
theorem may_ok (n : Int) (d l : Sl) (mk : Mk) (f h : Bool) (i : Int) : FunT Try.prog 126 [rpt, iv i] [refG n d l mk f h, none, none, none] (bv (mayB n i)) [refG n d l mk f h, none, none, none] := by
  unfold mayB
  cases mk <;>
  · by_cases h1 : 0 ≤ i
    · by_cases h2 : i < n
      · rw [show decide (0 ≤ i ∧ i < n) = true from decide_eq_true ⟨h1, h2⟩]
        refine FunT.ev tabOk mixed Try.func126 rfl ?_
        conv => whnf
        repeat (first | (refine ⟨(by kernel_rfl : chkR _ _ _ _ = true), ?_⟩; conv => whnf) | (refine EvOr.go ?_; conv => whnf))
        intro c hc
        obtain rfl : c = true := by rw [hc]; exact decide_eq_true (by omega)
        conv => whnf
        repeat (first | (refine ⟨(by kernel_rfl : chkR _ _ _ _ = true), ?_⟩; conv => whnf) | (refine EvOr.go ?_; conv => whnf))
        intro c hc
        obtain rfl : c = true := by rw [hc]; exact decide_eq_true (by omega)
        conv => whnf
        repeat (first | (refine ⟨(by kernel_rfl : chkR _ _ _ _ = true), ?_⟩; conv => whnf) | (refine EvOr.go ?_; conv => whnf))
        exact retQ.one rfl (.inr rfl) rfl (Nat.le_of_ble_eq_true rfl) rfl
      · rw [show decide (0 ≤ i ∧ i < n) = false from decide_eq_false (by omega)]
        refine FunT.ev tabOk mixed Try.func126 rfl ?_
        conv => whnf
        repeat (first | (refine ⟨(by kernel_rfl : chkR _ _ _ _ = true), ?_⟩; conv => whnf) | (refine EvOr.go ?_; conv => whnf))
        intro c hc
        obtain rfl : c = true := by rw [hc]; exact decide_eq_true (by omega)
        conv => whnf
        repeat (first | (refine ⟨(by kernel_rfl : chkR _ _ _ _ = true), ?_⟩; conv => whnf) | (refine EvOr.go ?_; conv => whnf))
        intro c hc
        obtain rfl : c = false := by rw [hc]; exact decide_eq_false (by omega)
        conv => whnf
        repeat (first | (refine ⟨(by kernel_rfl : chkR _ _ _ _ = true), ?_⟩; conv => whnf) | (refine EvOr.go ?_; conv => whnf))
        exact retQ.one rfl (.inr rfl) rfl (Nat.le_of_ble_eq_true rfl) rfl
    · rw [show decide (0 ≤ i ∧ i < n) = false from decide_eq_false (by omega)]
      refine FunT.ev tabOk mixed Try.func126 rfl ?_
      conv => whnf
      repeat (first | (refine ⟨(by kernel_rfl : chkR _ _ _ _ = true), ?_⟩; conv => whnf) | (refine EvOr.go ?_; conv => whnf))
      intro c hc
      obtain rfl : c = false := by rw [hc]; exact decide_eq_false (by omega)
      conv => whnf
      repeat (first | (refine ⟨(by kernel_rfl : chkR _ _ _ _ = true), ?_⟩; conv => whnf) | (refine EvOr.go ?_; conv => whnf))
      exact retQ.one rfl (.inr rfl) rfl (Nat.le_of_ble_eq_true rfl) rfl
def seenE (D L : Img) (i : Int) : List Nat := if (findE L i).2 then (findE L i).1 else (findE D i).1
abbrev HR (n : Int) (d l : Sl) (mk : Mk) (f h : Bool) (R : List (Nat × Obj)) : LHp := [refG n d l mk f h, some (famB R), some (famB R), none]
theorem seen_ok (n : Int) (d l : Sl) (mk : Mk) (f h : Bool) (R : List (Nat × Obj)) (D L : Img) (i : Int) (hd : RawAt R D d.v) (hl : RawAt R L l.v) (hb : D.length < 2 ^ 30) (hb2 : L.length < 2 ^ 30) :
    FunT Try.prog 128 [rpt, iv i] (HR n d l mk f h R) (secV (seenE D L i)) (HR n d l mk f h R) := by
  have g1 := find_raw hl i (by omega)
  have g2 := find_raw hd i (by omega)
  unfold seenE
  cases mk <;>
  · cases hq : (findE L i).2 with
    | true =>
      rw [hq] at g1
      rw [if_pos rfl]
      generalize (findE L i).1 = s1 at *
      refine FunT.ev tabOk mixed Try.func128 rfl ?_
      conv => whnf
      repeat (first | (refine ⟨(by kernel_rfl : chkR _ _ _ _ = true), ?_⟩; conv => whnf) | (refine EvOr.go ?_; conv => whnf))
      refine CallG.use g1 c129 [1] [] ?_ ?_ ?_ ?_ ?_ ?_; rfl; rfl; kernel_rfl; rfl; rfl
      conv => whnf
      repeat (first | (refine ⟨(by kernel_rfl : chkR _ _ _ _ = true), ?_⟩; conv => whnf) | (refine EvOr.go ?_; conv => whnf))
      exact retQ.all tabOk _ [secV s1] rfl (by first | exact .inr rfl | exact .inl rfl) (by repeat' (first | exact trivial | rfl | (intro h; cases h; done) | (refine ⟨?_, ?_⟩))) rfl (by rfl) (Nat.le_of_ble_eq_true rfl) (by rfl)
    | false =>
      rw [hq] at g1
      rw [if_neg (by decide)]
      generalize (findE L i).1 = s1 at *
      generalize (findE D i).1 = s2 at *
      generalize (findE D i).2 = b2 at *
      refine FunT.ev tabOk mixed Try.func128 rfl ?_
      conv => whnf
      repeat (first | (refine ⟨(by kernel_rfl : chkR _ _ _ _ = true), ?_⟩; conv => whnf) | (refine EvOr.go ?_; conv => whnf))
      refine CallG.use g1 c129 [1] [] ?_ ?_ ?_ ?_ ?_ ?_; rfl; rfl; kernel_rfl; rfl; rfl
      conv => whnf
      repeat (first | (refine ⟨(by kernel_rfl : chkR _ _ _ _ = true), ?_⟩; conv => whnf) | (refine EvOr.go ?_; conv => whnf))
      refine CallG.use g2 c129 [1] [] ?_ ?_ ?_ ?_ ?_ ?_; rfl; rfl; kernel_rfl; rfl; rfl
      conv => whnf
      repeat (first | (refine ⟨(by kernel_rfl : chkR _ _ _ _ = true), ?_⟩; conv => whnf) | (refine EvOr.go ?_; conv => whnf))
      exact retQ.all tabOk _ [secV s2] rfl (by first | exact .inr rfl | exact .inl rfl) (by repeat' (first | exact trivial | rfl | (intro h; cases h; done) | (refine ⟨?_, ?_⟩))) rfl (by rfl) (Nat.le_of_ble_eq_true rfl) (by rfl)
def ioR (n : Int) (f : Bool) (i : Int) : Int := if mayB n i then (if f then 10 else 0) else 2
theorem rread_ok (n : Int) (d l : Sl) (mk : Mk) (f h : Bool) (R : List (Nat × Obj)) (D L : Img) (i : Int) (hd : RawAt R D d.v) (hl : RawAt R L l.v) (hb : D.length < 2 ^ 30) (hb2 : L.length < 2 ^ 30) :
    FunT Try.prog 103 [rpt, iv i] (HR n d l mk f h R) (.tup [secV (if ioR n f i = 0 then seenE D L i else zs 64), iv (ioR n f i)]) (HR n d l mk f h R) := by
  have g0 := may_ok n d l mk f h i
  have g1 := seen_ok n d l mk f h R D L i hd hl hb hb2
  unfold ioR
  generalize seenE D L i = s at *
  cases mk <;>
  · cases hm : mayB n i with
    | false =>
      rw [hm] at g0
      refine FunT.ev tabOk mixed Try.func103 rfl ?_
      conv => whnf
      repeat (first | (refine ⟨(by kernel_rfl : chkR _ _ _ _ = true), ?_⟩; conv => whnf) | (refine EvOr.go ?_; conv => whnf))
      refine CallG.use g0 c126 [0, 1, 2, 3] [] ?_ ?_ ?_ ?_ ?_ ?_; rfl; rfl; kernel_rfl; rfl; rfl
      conv => whnf
      repeat (first | (refine ⟨(by kernel_rfl : chkR _ _ _ _ = true), ?_⟩; conv => whnf) | (refine EvOr.go ?_; conv => whnf))
      exact retQ.all tabOk _ [secV (zs 64), iv 2] rfl (by first | exact .inr rfl | exact .inl rfl) (by repeat' (first | exact trivial | rfl | (intro h; cases h; done) | (refine ⟨?_, ?_⟩))) rfl (by rfl) (Nat.le_of_ble_eq_true rfl) (by rfl)
    | true =>
      rw [hm] at g0
      cases f with
      | true =>
        refine FunT.ev tabOk mixed Try.func103 rfl ?_
        conv => whnf
        repeat (first | (refine ⟨(by kernel_rfl : chkR _ _ _ _ = true), ?_⟩; conv => whnf) | (refine EvOr.go ?_; conv => whnf))
        refine CallG.use g0 c126 [0, 1, 2, 3] [] ?_ ?_ ?_ ?_ ?_ ?_; rfl; rfl; kernel_rfl; rfl; rfl
        conv => whnf
        repeat (first | (refine ⟨(by kernel_rfl : chkR _ _ _ _ = true), ?_⟩; conv => whnf) | (refine EvOr.go ?_; conv => whnf))
        exact retQ.all tabOk _ [secV (zs 64), iv 10] rfl (by first | exact .inr rfl | exact .inl rfl) (by repeat' (first | exact trivial | rfl | (intro h; cases h; done) | (refine ⟨?_, ?_⟩))) rfl (by rfl) (Nat.le_of_ble_eq_true rfl) (by rfl)
      | false =>
        refine FunT.ev tabOk mixed Try.func103 rfl ?_
        conv => whnf
        repeat (first | (refine ⟨(by kernel_rfl : chkR _ _ _ _ = true), ?_⟩; conv => whnf) | (refine EvOr.go ?_; conv => whnf))
        refine CallG.use g0 c126 [0, 1, 2, 3] [] ?_ ?_ ?_ ?_ ?_ ?_; rfl; rfl; kernel_rfl; rfl; rfl
        conv => whnf
        repeat (first | (refine ⟨(by kernel_rfl : chkR _ _ _ _ = true), ?_⟩; conv => whnf) | (refine EvOr.go ?_; conv => whnf))
        refine CallG.use g1 c128 [0, 1, 2, 3] [] ?_ ?_ ?_ ?_ ?_ ?_; rfl; rfl; kernel_rfl; rfl; rfl
        conv => whnf
        repeat (first | (refine ⟨(by kernel_rfl : chkR _ _ _ _ = true), ?_⟩; conv => whnf) | (refine EvOr.go ?_; conv => whnf))
        exact retQ.all tabOk _ [secV s, iv 0] rfl (by first | exact .inr rfl | exact .inl rfl) (by repeat' (first | exact trivial | rfl | (intro h; cases h; done) | (refine ⟨?_, ?_⟩))) rfl (by rfl) (Nat.le_of_ble_eq_true rfl) (by rfl)
theorem rlook_ok (n : Int) (d l : Sl) (mk : Mk) (f h : Bool) (R : List (Nat × Obj)) (D : Img) (i : Int) (hd : RawAt R D d.v) (hb : D.length < 2 ^ 30) :
    FunT Try.prog 104 [rpt, iv i] (HR n d l mk f h R) (.tup [secV (if mayB n i then (findE D i).1 else zs 64), iv (if mayB n i then 0 else 2)]) (HR n d l mk f h R) := by
  have g0 := may_ok n d l mk f h i
  have g1 := find_raw hd i (by omega)
  generalize (findE D i).1 = s at *
  generalize (findE D i).2 = b at *
  cases mk <;>
  · cases hm : mayB n i with
    | false =>
      rw [hm] at g0
      refine FunT.ev tabOk mixed Try.func104 rfl ?_
      conv => whnf
      repeat (first | (refine ⟨(by kernel_rfl : chkR _ _ _ _ = true), ?_⟩; conv => whnf) | (refine EvOr.go ?_; conv => whnf))
      refine CallG.use g0 c126 [0, 1, 2, 3] [] ?_ ?_ ?_ ?_ ?_ ?_; rfl; rfl; kernel_rfl; rfl; rfl
      conv => whnf
      repeat (first | (refine ⟨(by kernel_rfl : chkR _ _ _ _ = true), ?_⟩; conv => whnf) | (refine EvOr.go ?_; conv => whnf))
      exact retQ.all tabOk _ [secV (zs 64), iv 2] rfl (by first | exact .inr rfl | exact .inl rfl) (by repeat' (first | exact trivial | rfl | (intro h; cases h; done) | (refine ⟨?_, ?_⟩))) rfl (by rfl) (Nat.le_of_ble_eq_true rfl) (by rfl)
    | true =>
      rw [hm] at g0
      refine FunT.ev tabOk mixed Try.func104 rfl ?_
      conv => whnf
      repeat (first | (refine ⟨(by kernel_rfl : chkR _ _ _ _ = true), ?_⟩; conv => whnf) | (refine EvOr.go ?_; conv => whnf))
      refine CallG.use g0 c126 [0, 1, 2, 3] [] ?_ ?_ ?_ ?_ ?_ ?_; rfl; rfl; kernel_rfl; rfl; rfl
      conv => whnf
      repeat (first | (refine ⟨(by kernel_rfl : chkR _ _ _ _ = true), ?_⟩; conv => whnf) | (refine EvOr.go ?_; conv => whnf))
      refine CallG.use g1 c129 [1] [] ?_ ?_ ?_ ?_ ?_ ?_; rfl; rfl; kernel_rfl; rfl; rfl
      conv => whnf
      repeat (first | (refine ⟨(by kernel_rfl : chkR _ _ _ _ = true), ?_⟩; conv => whnf) | (refine EvOr.go ?_; conv => whnf))
      exact retQ.all tabOk _ [secV s, iv 0] rfl (by first | exact .inr rfl | exact .inl rfl) (by repeat' (first | exact trivial | rfl | (intro h; cases h; done) | (refine ⟨?_, ?_⟩))) rfl (by rfl) (Nat.le_of_ble_eq_true rfl) (by rfl)
end Go.Proofs.Ytdmcbfmpnakdfaa.Eng.Rm
/- The document's member: written, flushed. -/
namespace Go.Proofs.Ytdmcbfmpnakdfaa.Eng.Rm
open Go Go.Proofs
set_option maxRecDepth 20000
set_option maxHeartbeats 8000000
theorem rwrite_err (n : Int) (d l : Sl) (mk : Mk) (f h : Bool) (R : List (Nat × Obj)) (i : Int) (s : List Nat) (h0 : ioR n f i ≠ 0) :
    FunT Try.prog 96 [rpt, iv i, secV s] (HR n d l mk f h R) (iv (ioR n f i)) (HR n d l mk f h R) := by
  have g0 := may_ok n d l mk f h i
  unfold ioR at *
  cases mk <;>
  · cases hm : mayB n i with
    | false =>
      rw [hm] at g0
      refine FunT.ev tabOk mixed Try.func96 rfl ?_
      conv => whnf
      repeat (first | (refine ⟨(by kernel_rfl : chkR _ _ _ _ = true), ?_⟩; conv => whnf) | (refine EvOr.go ?_; conv => whnf))
      refine CallG.use g0 c126 [0, 1, 2, 3] [] ?_ ?_ ?_ ?_ ?_ ?_; rfl; rfl; kernel_rfl; rfl; rfl
      conv => whnf
      repeat (first | (refine ⟨(by kernel_rfl : chkR _ _ _ _ = true), ?_⟩; conv => whnf) | (refine EvOr.go ?_; conv => whnf))
      exact retQ.one rfl (.inr rfl) rfl (Nat.le_of_ble_eq_true rfl) rfl
    | true =>
      rw [hm] at g0
      cases f with
      | true =>
        refine FunT.ev tabOk mixed Try.func96 rfl ?_
        conv => whnf
        repeat (first | (refine ⟨(by kernel_rfl : chkR _ _ _ _ = true), ?_⟩; conv => whnf) | (refine EvOr.go ?_; conv => whnf))
        refine CallG.use g0 c126 [0, 1, 2, 3] [] ?_ ?_ ?_ ?_ ?_ ?_; rfl; rfl; kernel_rfl; rfl; rfl
        conv => whnf
        repeat (first | (refine ⟨(by kernel_rfl : chkR _ _ _ _ = true), ?_⟩; conv => whnf) | (refine EvOr.go ?_; conv => whnf))
        exact retQ.one rfl (.inr rfl) rfl (Nat.le_of_ble_eq_true rfl) rfl
      | false => rw [hm] at h0; exact absurd rfl h0
theorem rwrite_ok (n : Int) (d l : Sl) (mk : Mk) (f h : Bool) (R : List (Nat × Obj)) (L : Img) (i : Int) (s : List Nat) (h0 : ioR n f i = 0) (hl : RawAt R L l.v) (hb : L.length < 2 ^ 30) :
    FunT Try.prog 96 [rpt, iv i, secV s] (HR n d l mk f h R) (iv 0) [refS n (.raw d.v) (.sl 4 0 65 (L.length + 1) none) (mk.sv 3) f h, some (famB R), some (famB R), none, rowN (L ++ [(i, s)])] := by
  have g0 := may_ok n d l mk f h i
  have g1 := join_one (i, s) hl hb
  unfold ioR at h0
  cases mk <;>
  · cases hm : mayB n i with
    | false => rw [hm] at h0; cases h0
    | true =>
      rw [hm] at g0 h0
      cases f with
      | true => cases h0
      | false =>
        refine FunT.ev tabOk mixed Try.func96 rfl ?_
        conv => whnf
        repeat (first | (refine ⟨(by kernel_rfl : chkR _ _ _ _ = true), ?_⟩; conv => whnf) | (refine EvOr.go ?_; conv => whnf))
        refine CallG.use g0 c126 [0, 1, 2, 3] [] ?_ ?_ ?_ ?_ ?_ ?_; rfl; rfl; kernel_rfl; rfl; rfl
        conv => whnf
        repeat (first | (refine ⟨(by kernel_rfl : chkR _ _ _ _ = true), ?_⟩; conv => whnf) | (refine EvOr.go ?_; conv => whnf))
        refine CallG.use g1 c127 [1, 5] [] ?_ ?_ ?_ ?_ ?_ ?_; rfl; rfl; kernel_rfl; rfl; rfl
        conv => whnf
        repeat (first | (refine ⟨(by kernel_rfl : chkR _ _ _ _ = true), ?_⟩; conv => whnf) | (refine EvOr.go ?_; conv => whnf))
        exact retQ.oneS [0, 1, 2, 3, 6] rfl (by first | exact .inr rfl | exact .inl rfl) rfl (by kernel_rfl) (by first | rfl | kernel_rfl)
theorem rflush_err (n : Int) (d l : Sl) (mk : Mk) (h : Bool) (R : List (Nat × Obj)) : FunT Try.prog 97 [rpt] (HR n d l mk true h R) (iv 10) (HR n d l mk true h R) := by
  cases mk <;>
  · refine FunT.ev tabOk mixed Try.func97 rfl ?_
    conv => whnf
    repeat (first | (refine ⟨(by kernel_rfl : chkR _ _ _ _ = true), ?_⟩; conv => whnf) | (refine EvOr.go ?_; conv => whnf))
    exact retQ.one rfl (.inr rfl) rfl (Nat.le_of_ble_eq_true rfl) rfl
theorem rflush_row (n : Int) (d l : Sl) (mk : Mk) (h : Bool) (R : List (Nat × Obj)) (D L : Img) (hd : RawAt R D d.v) (hl : RawAt R L l.v) (hb : D.length < 2 ^ 30) (hb2 : L.length < 2 ^ 30) (h0 : 0 < (D ++ L).length) :
    FunT Try.prog 97 [rpt] (HR n d l mk false h R) (iv 0) [refS n (.sl 4 0 65 (D ++ L).length none) nilS (mk.sv 3) false h, some (famB R), some (famB R), none, rowN (D ++ L)] := by
  have g1 := join_raw hd hl hb hb2
  obtain ⟨q1, q2⟩ := j_row 2 h0
  rw [q1, q2] at g1
  generalize D ++ L = A at *
  cases mk <;>
  · refine FunT.ev tabOk mixed Try.func97 rfl ?_
    conv => whnf
    repeat (first | (refine ⟨(by kernel_rfl : chkR _ _ _ _ = true), ?_⟩; conv => whnf) | (refine EvOr.go ?_; conv => whnf))
    refine CallG.use g1 c127 [1, 2] [] ?_ ?_ ?_ ?_ ?_ ?_; rfl; rfl; kernel_rfl; rfl; rfl
    conv => whnf
    repeat (first | (refine ⟨(by kernel_rfl : chkR _ _ _ _ = true), ?_⟩; conv => whnf) | (refine EvOr.go ?_; conv => whnf))
    exact retQ.oneS [0, 1, 2, 3, 4] rfl (by first | exact .inr rfl | exact .inl rfl) rfl (by kernel_rfl) (by first | rfl | kernel_rfl)
theorem rflush_nil (n : Int) (d l : Sl) (mk : Mk) (h : Bool) (R : List (Nat × Obj)) (hd : RawAt R [] d.v) (hl : RawAt R [] l.v) :
    FunT Try.prog 97 [rpt] (HR n d l mk false h R) (iv 0) [refS n nilS nilS (mk.sv 3) false h, some (famB R), some (famB R), none] := by
  have g1 : FunT Try.prog 127 [.sc (.raw d.v), .sc (.raw l.v)] [some (famB R), some (famB R)] (.sc nilS) [some (famB R), some (famB R), none] := join_raw hd hl (by decide) (by decide)
  cases mk <;>
  · refine FunT.ev tabOk mixed Try.func97 rfl ?_
    conv => whnf
    repeat (first | (refine ⟨(by kernel_rfl : chkR _ _ _ _ = true), ?_⟩; conv => whnf) | (refine EvOr.go ?_; conv => whnf))
    refine CallG.use g1 c127 [1, 2] [] ?_ ?_ ?_ ?_ ?_ ?_; rfl; rfl; kernel_rfl; rfl; rfl
    conv => whnf
    repeat (first | (refine ⟨(by kernel_rfl : chkR _ _ _ _ = true), ?_⟩; conv => whnf) | (refine EvOr.go ?_; conv => whnf))
    exact retQ.one rfl (.inr rfl) rfl (Nat.le_of_ble_eq_true rfl) rfl
theorem rfail_ok (n : Int) (d l : Sl) (mk : Mk) (f h : Bool) (R : List (Nat × Obj)) (on : Bool) : FunT Try.prog 102 [rpt, bv on] (HR n d l mk f h R) (.tup []) (HR n d l mk on (h || on) R) := by
  cases mk <;>
  · cases on
    · rw [Bool.or_false]
      refine FunT.ev tabOk mixed Try.func102 rfl ?_
      conv => whnf
      repeat (first | (refine ⟨(by kernel_rfl : chkR _ _ _ _ = true), ?_⟩; conv => whnf) | (refine EvOr.go ?_; conv => whnf))
      exact retQ.zero rfl (by first | exact .inl rfl | exact .inr rfl) rfl (Nat.le_of_ble_eq_true rfl) rfl
    · rw [Bool.or_true]
      refine FunT.ev tabOk mixed Try.func102 rfl ?_
      conv => whnf
      repeat (first | (refine ⟨(by kernel_rfl : chkR _ _ _ _ = true), ?_⟩; conv => whnf) | (refine EvOr.go ?_; conv => whnf))
      exact retQ.zero rfl (by first | exact .inl rfl | exact .inr rfl) rfl (Nat.le_of_ble_eq_true rfl) rfl
end Go.Proofs.Ytdmcbfmpnakdfaa.Eng.Rm
/- The document's member: marks. -/
namespace Go.Proofs.Ytdmcbfmpnakdfaa.Eng.Rm
open Go Go.Proofs
set_option maxRecDepth 20000
set_option maxHeartbeats 8000000
abbrev rawK (s : Sl) : Segs := [.one (.raw s.v)]
abbrev rowK (V : List Sl) : Option ABlk := some (.row .inx 130 1 (V.map rawK) [])
abbrev HK (n : Int) (d l : Sl) (V : List Sl) (f h : Bool) (R : List (Nat × Obj)) : LHp := [refG n d l (.row V.length) f h, some (famB R), some (famB R), rowK V]
theorem rback_nil (n : Int) (d l : Sl) (f h : Bool) (R : List (Nat × Obj)) (i : Int) : FunT Try.prog 101 [rpt, iv i] (HR n d l .nil f h R) (iv 2) (HR n d l .nil f h R) := by
  by_cases h0 : i < 0
  · refine FunT.ev tabOk mixed Try.func101 rfl ?_
    conv => whnf
    repeat (first | (refine ⟨(by kernel_rfl : chkR _ _ _ _ = true), ?_⟩; conv => whnf) | (refine EvOr.go ?_; conv => whnf))
    intro c hc
    obtain rfl : c = true := by rw [hc]; exact decide_eq_true (by omega)
    conv => whnf
    repeat (first | (refine ⟨(by kernel_rfl : chkR _ _ _ _ = true), ?_⟩; conv => whnf) | (refine EvOr.go ?_; conv => whnf))
    exact retQ.one rfl (.inr rfl) rfl (Nat.le_of_ble_eq_true rfl) rfl
  · refine FunT.ev tabOk mixed Try.func101 rfl ?_
    conv => whnf
    repeat (first | (refine ⟨(by kernel_rfl : chkR _ _ _ _ = true), ?_⟩; conv => whnf) | (refine EvOr.go ?_; conv => whnf))
    intro c hc
    obtain rfl : c = false := by rw [hc]; exact decide_eq_false (by omega)
    conv => whnf
    repeat (first | (refine ⟨(by kernel_rfl : chkR _ _ _ _ = true), ?_⟩; conv => whnf) | (refine EvOr.go ?_; conv => whnf))
    intro c hc
    obtain rfl : c = true := by rw [hc]; exact decide_eq_true (by omega)
    conv => whnf
    repeat (first | (refine ⟨(by kernel_rfl : chkR _ _ _ _ = true), ?_⟩; conv => whnf) | (refine EvOr.go ?_; conv => whnf))
    exact retQ.one rfl (.inr rfl) rfl (Nat.le_of_ble_eq_true rfl) rfl
theorem rback_err (n : Int) (d l : Sl) (V : List Sl) (f h : Bool) (R : List (Nat × Obj)) (i : Int) (hi : ¬ (0 ≤ i ∧ i < (V.length : Nat))) : FunT Try.prog 101 [rpt, iv i] (HK n d l V f h R) (iv 2) (HK n d l V f h R) := by
  by_cases h0 : i < 0
  · refine FunT.ev tabOk mixed Try.func101 rfl ?_
    conv => whnf
    repeat (first | (refine ⟨(by kernel_rfl : chkR _ _ _ _ = true), ?_⟩; conv => whnf) | (refine EvOr.go ?_; conv => whnf))
    intro c hc
    obtain rfl : c = true := by rw [hc]; exact decide_eq_true (by omega)
    conv => whnf
    repeat (first | (refine ⟨(by kernel_rfl : chkR _ _ _ _ = true), ?_⟩; conv => whnf) | (refine EvOr.go ?_; conv => whnf))
    exact retQ.one rfl (.inr rfl) rfl (Nat.le_of_ble_eq_true rfl) rfl
  · refine FunT.ev tabOk mixed Try.func101 rfl ?_
    conv => whnf
    repeat (first | (refine ⟨(by kernel_rfl : chkR _ _ _ _ = true), ?_⟩; conv => whnf) | (refine EvOr.go ?_; conv => whnf))
    intro c hc
    obtain rfl : c = false := by rw [hc]; exact decide_eq_false (by omega)
    conv => whnf
    repeat (first | (refine ⟨(by kernel_rfl : chkR _ _ _ _ = true), ?_⟩; conv => whnf) | (refine EvOr.go ?_; conv => whnf))
    intro c hc
    obtain rfl : c = true := by rw [hc]; exact decide_eq_true (by omega)
    conv => whnf
    repeat (first | (refine ⟨(by kernel_rfl : chkR _ _ _ _ = true), ?_⟩; conv => whnf) | (refine EvOr.go ?_; conv => whnf))
    exact retQ.one rfl (.inr rfl) rfl (Nat.le_of_ble_eq_true rfl) rfl
theorem rback_ok (n : Int) (d l : Sl) (V : List Sl) (f h : Bool) (R : List (Nat × Obj)) (k : Nat) (hk : k < V.length) :
    FunT Try.prog 101 [rpt, iv (k : Nat)] (HK n d l V f h R) (iv 0) [refS n (.raw V[k].v) nilS (.sl 3 0 1 V.length none) f true, some (famB R), some (famB R), rowK V] := by
  have hg : (V.map rawK)[0 + (k : Int).toNat]? = some (rawK V[k]) := by simp [hk]
  generalize V[k] = s at *
  refine FunT.ev tabOk mixed Try.func101 rfl ?_
  conv => whnf
  repeat (first | (refine ⟨(by kernel_rfl : chkR _ _ _ _ = true), ?_⟩; conv => whnf) | (refine EvOr.go ?_; conv => whnf))
  intro c hc
  obtain rfl : c = false := by rw [hc]; exact decide_eq_false (by omega)
  conv => whnf
  repeat (first | (refine ⟨(by kernel_rfl : chkR _ _ _ _ = true), ?_⟩; conv => whnf) | (refine EvOr.go ?_; conv => whnf))
  intro c hc
  obtain rfl : c = false := by rw [hc]; exact decide_eq_false (by omega)
  conv => whnf
  repeat (first | (refine ⟨(by kernel_rfl : chkR _ _ _ _ = true), ?_⟩; conv => whnf) | (refine EvOr.go ?_; conv => whnf))
  refine ⟨⟨by omega, by omega⟩, ?_⟩
  conv => whnf
  repeat (first | (refine ⟨(by kernel_rfl : chkR _ _ _ _ = true), ?_⟩; conv => whnf) | (refine EvOr.go ?_; conv => whnf))
  refine ⟨_, hg, ?_⟩
  conv => whnf
  repeat (first | (refine ⟨(by kernel_rfl : chkR _ _ _ _ = true), ?_⟩; conv => whnf) | (refine EvOr.go ?_; conv => whnf))
  exact retQ.one rfl (.inr rfl) rfl (Nat.le_of_ble_eq_true rfl) rfl
theorem rmark_full (n : Int) (d l : Sl) (V : List Sl) (f h : Bool) (R : List (Nat × Obj)) (hV : 64 ≤ V.length) : FunT Try.prog 100 [rpt] (HK n d l V f h R) (.tup [iv 0, iv 7]) (HK n d l V f h R) := by
  refine FunT.ev tabOk mixed Try.func100 rfl ?_
  conv => whnf
  repeat (first | (refine ⟨(by kernel_rfl : chkR _ _ _ _ = true), ?_⟩; conv => whnf) | (refine EvOr.go ?_; conv => whnf))
  intro c hc
  obtain rfl : c = true := by rw [hc]; exact decide_eq_true (by omega)
  conv => whnf
  repeat (first | (refine ⟨(by kernel_rfl : chkR _ _ _ _ = true), ?_⟩; conv => whnf) | (refine EvOr.go ?_; conv => whnf))
  exact retQ.all tabOk _ [iv 0, iv 7] rfl (by first | exact .inr rfl | exact .inl rfl) (by repeat' (first | exact trivial | rfl | (intro h; cases h; done) | (refine ⟨?_, ?_⟩))) rfl (by rfl) (Nat.le_of_ble_eq_true rfl) (by rfl)
end Go.Proofs.Ytdmcbfmpnakdfaa.Eng.Rm
/- The document's member: one mark more . -/
namespace Go.Proofs.Ytdmcbfmpnakdfaa.Eng.Rm
open Go Go.Proofs
set_option maxRecDepth 20000
set_option maxHeartbeats 8000000
theorem rmark_first (n : Int) (d l : Sl) (f h : Bool) (R : List (Nat × Obj)) (D L : Img) (hd : RawAt R D d.v) (hl : RawAt R L l.v) (hb : D.length < 2 ^ 30) (hb2 : L.length < 2 ^ 30) (h0 : 0 < (D ++ L).length) :
    FunT Try.prog 100 [rpt] (HR n d l .nil f h R) (.tup [iv 0, iv 0]) [refS n (.raw d.v) (.raw l.v) (.sl 5 0 1 1 none) f h, some (famB R), some (famB R), none, rowN (D ++ L), some (.row .inx 130 1 [[.one (.sl 4 0 65 (D ++ L).length none)]] [4])] := by
  have g1 := join_raw hd hl hb hb2
  obtain ⟨q1, q2⟩ := j_row 2 h0
  rw [q1, q2] at g1
  generalize D ++ L = A at *
  refine FunT.ev tabOk mixed Try.func100 rfl ?_
  conv => whnf
  repeat (first | (refine ⟨(by kernel_rfl : chkR _ _ _ _ = true), ?_⟩; conv => whnf) | (refine EvOr.go ?_; conv => whnf))
  intro c hc
  obtain rfl : c = false := by rw [hc]; rfl
  conv => whnf
  repeat (first | (refine ⟨(by kernel_rfl : chkR _ _ _ _ = true), ?_⟩; conv => whnf) | (refine EvOr.go ?_; conv => whnf))
  refine ⟨⟨rfl, rfl, rfl⟩, ?_⟩
  conv => whnf
  repeat (first | (refine ⟨(by kernel_rfl : chkR _ _ _ _ = true), ?_⟩; conv => whnf) | (refine EvOr.go ?_; conv => whnf))
  refine CallG.use g1 c127 [1, 2] [] ?_ ?_ ?_ ?_ ?_ ?_; rfl; rfl; kernel_rfl; rfl; rfl
  conv => whnf
  repeat (first | (refine ⟨(by kernel_rfl : chkR _ _ _ _ = true), ?_⟩; conv => whnf) | (refine EvOr.go ?_; conv => whnf))
  refine ⟨by simp, ?_⟩
  conv => whnf
  repeat (first | (refine ⟨(by kernel_rfl : chkR _ _ _ _ = true), ?_⟩; conv => whnf) | (refine EvOr.go ?_; conv => whnf))
  refine ⟨fun h => absurd h (by decide), fun _ => ⟨by decide, ?_⟩⟩
  conv => whnf
  repeat (first | (refine ⟨(by kernel_rfl : chkR _ _ _ _ = true), ?_⟩; conv => whnf) | (refine EvOr.go ?_; conv => whnf))
  refine ⟨0, rfl, ?_⟩
  conv => whnf
  repeat (first | (refine ⟨(by kernel_rfl : chkR _ _ _ _ = true), ?_⟩; conv => whnf) | (refine EvOr.go ?_; conv => whnf))
  exact retQ.allS tabOk [0, 1, 2, 3, 4, 6] _ [iv 0, iv 0] rfl (by first | exact .inr rfl | exact .inl rfl) (by repeat' (first | exact trivial | rfl | (intro h; cases h; done) | (refine ⟨?_, ?_⟩))) rfl (by rfl) (by kernel_rfl) (by first | rfl | kernel_rfl)
theorem rmark_row (n : Int) (d l : Sl) (V : List Sl) (f h : Bool) (R : List (Nat × Obj)) (D L : Img) (hV : V.length < 64) (hV0 : 0 < V.length) (hd : RawAt R D d.v) (hl : RawAt R L l.v) (hb : D.length < 2 ^ 30) (hb2 : L.length < 2 ^ 30) (h0 : 0 < (D ++ L).length) :
    FunT Try.prog 100 [rpt] (HK n d l V f h R) (.tup [iv (V.length : Nat), iv 0]) [refS n (.raw d.v) (.raw l.v) (.sl 5 0 1 (V.length + 1) none) f h, some (famB R), some (famB R), rowK V, rowN (D ++ L), some (.row .inx 130 1 (V.map rawK ++ [[.one (.sl 4 0 65 (D ++ L).length none)]]) [4])] := by
  have g1 := join_raw hd hl hb hb2
  obtain ⟨q1, q2⟩ := j_row 2 h0
  rw [q1, q2] at g1
  generalize D ++ L = A at *
  have eL : ((V.length : Int) - ((0 : Nat) : Int)).toNat = V.length := by omega
  have e3 : arithI .sub .i64 ((((V.length : Int) - ((0 : Nat) : Int)).toNat + 1 : Nat) : Int) 1 = some ((V.length : Nat) : Int) := by
    rw [eL]
    show some (IntKind.i64.wrap _) = _
    rw [IntWalk.i64_in _ ⟨by omega, by omega⟩]
    congr 1; omega
  have eT : List.take ((V.length : Int) - ((0 : Nat) : Int)).toNat (List.drop 0 (V.map rawK)) = V.map rawK := by
    rw [eL, List.drop_zero]; exact List.take_of_length_le (by rw [List.length_map]; exact Nat.le_refl _)
  rw [← eT]
  suffices key : FunT Try.prog 100 [rpt] (HK n d l V f h R) (.tup [iv (V.length : Nat), iv 0]) [refS n (.raw d.v) (.raw l.v) (.sl 5 0 1 (((V.length : Int) - ((0 : Nat) : Int)).toNat + 1) none) f h, some (famB R), some (famB R), rowK V, rowN A, some (.row .inx 130 1 (List.take ((V.length : Int) - ((0 : Nat) : Int)).toNat (List.drop 0 (V.map rawK)) ++ [[.one (.sl 4 0 65 A.length none)]]) [4])] by
    rw [eL] at key
    rw [eL]
    exact key
  refine FunT.ev tabOk mixed Try.func100 rfl ?_
  conv => whnf
  repeat (first | (refine ⟨(by kernel_rfl : chkR _ _ _ _ = true), ?_⟩; conv => whnf) | (refine EvOr.go ?_; conv => whnf))
  intro c hc
  obtain rfl : c = false := by rw [hc]; exact decide_eq_false (by omega)
  conv => whnf
  repeat (first | (refine ⟨(by kernel_rfl : chkR _ _ _ _ = true), ?_⟩; conv => whnf) | (refine EvOr.go ?_; conv => whnf))
  refine ⟨⟨by omega, by omega, by omega, by omega, _, _, _, _, _, rfl, by rw [List.length_map]; omega⟩, fun _ => ?_, fun h1 h2 => absurd h2 (by decide)⟩
  conv => whnf
  repeat (first | (refine ⟨(by kernel_rfl : chkR _ _ _ _ = true), ?_⟩; conv => whnf) | (refine EvOr.go ?_; conv => whnf))
  refine CallG.use g1 c127 [1, 2] [] ?_ ?_ ?_ ?_ ?_ ?_; rfl; rfl; kernel_rfl; rfl; rfl
  conv => whnf
  repeat (first | (refine ⟨(by kernel_rfl : chkR _ _ _ _ = true), ?_⟩; conv => whnf) | (refine EvOr.go ?_; conv => whnf))
  refine ⟨by simp, ?_⟩
  conv => whnf
  repeat (first | (refine ⟨(by kernel_rfl : chkR _ _ _ _ = true), ?_⟩; conv => whnf) | (refine EvOr.go ?_; conv => whnf))
  refine ⟨by rw [List.length_map]; omega, fun h => absurd h (by decide), fun _ => ⟨⟨by omega, by show (2 * (V.length + 1) + 192) * 24 ≤ 2 ^ 48; omega⟩, ?_⟩⟩
  conv => whnf
  repeat (first | (refine ⟨(by kernel_rfl : chkR _ _ _ _ = true), ?_⟩; conv => whnf) | (refine EvOr.go ?_; conv => whnf))
  refine ⟨_, e3, ?_⟩
  conv => whnf
  repeat (first | (refine ⟨(by kernel_rfl : chkR _ _ _ _ = true), ?_⟩; conv => whnf) | (refine EvOr.go ?_; conv => whnf))
  refine retQ.of (.inr rfl) (ResT.all tabOk (rs := _) (vs := [iv (V.length : Nat), iv 0]) rfl (by repeat' (first | exact trivial | rfl | (intro h; cases h; done) | (refine ⟨?_, ?_⟩))) rfl) (sL [0, 1, 2, 3, 4, 6]) rfl (StW.ofP2 [0, 1, 2, 3, 4, 6] rfl ?_ rfl rfl ?_)
  · have h1 : ABlk.wfB (.row .inx 130 1 (List.take ((V.length : Int) - ((0 : Nat) : Int)).toNat (List.drop 0 (V.map rawK)) ++ [[.one (.sl 4 0 65 A.length none)]]) [4]) = true := by
      rw [eT]
      simp only [ABlk.wfB, List.all_append, List.all_map, Bool.and_eq_true]
      refine ⟨List.all_eq_true.2 fun x hx => rfl, rfl⟩
    unfold wfH
    simp only [List.all_cons, List.all_nil, h1, Bool.and_true]
    rfl
  · show pickH _ _ 0 _ = renH _ _
    have eR : (V.map rawK).map (Segs.ren (sL [0, 1, 2, 3, 4, 6])) = V.map rawK := by rw [List.map_map]; rfl
    simp only [renH, ABlk.ren, List.map_append, List.map_take, List.map_drop, eR]
    rfl
/-- A mark of nothing. -/
theorem rmark_first0 (n : Int) (d l : Sl) (f h : Bool) (R : List (Nat × Obj)) (hd : RawAt R [] d.v) (hl : RawAt R [] l.v) :
    FunT Try.prog 100 [rpt] (HR n d l .nil f h R) (.tup [iv 0, iv 0]) [refS n (.raw d.v) (.raw l.v) (.sl 4 0 1 1 none) f h, some (famB R), some (famB R), none, some (.row .inx 130 1 [[.one nilS]] [])] := by
  have g1 : FunT Try.prog 127 [.sc (.raw d.v), .sc (.raw l.v)] [some (famB R), some (famB R)] (.sc nilS) [some (famB R), some (famB R), none] := join_raw hd hl (by decide) (by decide)
  refine FunT.ev tabOk mixed Try.func100 rfl ?_
  conv => whnf
  repeat (first | (refine ⟨(by kernel_rfl : chkR _ _ _ _ = true), ?_⟩; conv => whnf) | (refine EvOr.go ?_; conv => whnf))
  intro c hc
  obtain rfl : c = false := by rw [hc]; rfl
  conv => whnf
  repeat (first | (refine ⟨(by kernel_rfl : chkR _ _ _ _ = true), ?_⟩; conv => whnf) | (refine EvOr.go ?_; conv => whnf))
  refine ⟨⟨rfl, rfl, rfl⟩, ?_⟩
  conv => whnf
  repeat (first | (refine ⟨(by kernel_rfl : chkR _ _ _ _ = true), ?_⟩; conv => whnf) | (refine EvOr.go ?_; conv => whnf))
  refine CallG.use g1 c127 [1, 2] [] ?_ ?_ ?_ ?_ ?_ ?_; rfl; rfl; kernel_rfl; rfl; rfl
  conv => whnf
  repeat (first | (refine ⟨(by kernel_rfl : chkR _ _ _ _ = true), ?_⟩; conv => whnf) | (refine EvOr.go ?_; conv => whnf))
  refine ⟨by simp, ?_⟩
  conv => whnf
  repeat (first | (refine ⟨(by kernel_rfl : chkR _ _ _ _ = true), ?_⟩; conv => whnf) | (refine EvOr.go ?_; conv => whnf))
  refine ⟨fun h => absurd h (by decide), fun _ => ⟨by decide, ?_⟩⟩
  conv => whnf
  repeat (first | (refine ⟨(by kernel_rfl : chkR _ _ _ _ = true), ?_⟩; conv => whnf) | (refine EvOr.go ?_; conv => whnf))
  refine ⟨0, rfl, ?_⟩
  conv => whnf
  repeat (first | (refine ⟨(by kernel_rfl : chkR _ _ _ _ = true), ?_⟩; conv => whnf) | (refine EvOr.go ?_; conv => whnf))
  exact retQ.allS tabOk [0, 1, 2, 3, 6] _ [iv 0, iv 0] rfl (by first | exact .inr rfl | exact .inl rfl) (by repeat' (first | exact trivial | rfl | (intro h; cases h; done) | (refine ⟨?_, ?_⟩))) rfl (by rfl) (by kernel_rfl) (by first | rfl | kernel_rfl)
theorem rmark_row0 (n : Int) (d l : Sl) (V : List Sl) (f h : Bool) (R : List (Nat × Obj)) (hV : V.length < 64) (hV0 : 0 < V.length) (hd : RawAt R [] d.v) (hl : RawAt R [] l.v) :
    FunT Try.prog 100 [rpt] (HK n d l V f h R) (.tup [iv (V.length : Nat), iv 0]) [refS n (.raw d.v) (.raw l.v) (.sl 4 0 1 (V.length + 1) none) f h, some (famB R), some (famB R), rowK V, some (.row .inx 130 1 (V.map rawK ++ [[.one nilS]]) [])] := by
  have g1 : FunT Try.prog 127 [.sc (.raw d.v), .sc (.raw l.v)] [some (famB R), some (famB R)] (.sc nilS) [some (famB R), some (famB R), none] := join_raw hd hl (by decide) (by decide)
  have eL : ((V.length : Int) - ((0 : Nat) : Int)).toNat = V.length := by omega
  have e3 : arithI .sub .i64 ((((V.length : Int) - ((0 : Nat) : Int)).toNat + 1 : Nat) : Int) 1 = some ((V.length : Nat) : Int) := by
    rw [eL]
    show some (IntKind.i64.wrap _) = _
    rw [IntWalk.i64_in _ ⟨by omega, by omega⟩]
    congr 1; omega
  have eT : List.take ((V.length : Int) - ((0 : Nat) : Int)).toNat (List.drop 0 (V.map rawK)) = V.map rawK := by
    rw [eL, List.drop_zero]; exact List.take_of_length_le (by rw [List.length_map]; exact Nat.le_refl _)
  rw [← eT]
  suffices key : FunT Try.prog 100 [rpt] (HK n d l V f h R) (.tup [iv (V.length : Nat), iv 0]) [refS n (.raw d.v) (.raw l.v) (.sl 4 0 1 (((V.length : Int) - ((0 : Nat) : Int)).toNat + 1) none) f h, some (famB R), some (famB R), rowK V, some (.row .inx 130 1 (List.take ((V.length : Int) - ((0 : Nat) : Int)).toNat (List.drop 0 (V.map rawK)) ++ [[.one nilS]]) [])] by
    rw [eL] at key
    rw [eL]
    exact key
  refine FunT.ev tabOk mixed Try.func100 rfl ?_
  conv => whnf
  repeat (first | (refine ⟨(by kernel_rfl : chkR _ _ _ _ = true), ?_⟩; conv => whnf) | (refine EvOr.go ?_; conv => whnf))
  intro c hc
  obtain rfl : c = false := by rw [hc]; exact decide_eq_false (by omega)
  conv => whnf
  repeat (first | (refine ⟨(by kernel_rfl : chkR _ _ _ _ = true), ?_⟩; conv => whnf) | (refine EvOr.go ?_; conv => whnf))
  refine ⟨⟨by omega, by omega, by omega, by omega, _, _, _, _, _, rfl, by rw [List.length_map]; omega⟩, fun _ => ?_, fun h1 h2 => absurd h2 (by decide)⟩
  conv => whnf
  repeat (first | (refine ⟨(by kernel_rfl : chkR _ _ _ _ = true), ?_⟩; conv => whnf) | (refine EvOr.go ?_; conv => whnf))
  refine CallG.use g1 c127 [1, 2] [] ?_ ?_ ?_ ?_ ?_ ?_; rfl; rfl; kernel_rfl; rfl; rfl
  conv => whnf
  repeat (first | (refine ⟨(by kernel_rfl : chkR _ _ _ _ = true), ?_⟩; conv => whnf) | (refine EvOr.go ?_; conv => whnf))
  refine ⟨by simp, ?_⟩
  conv => whnf
  repeat (first | (refine ⟨(by kernel_rfl : chkR _ _ _ _ = true), ?_⟩; conv => whnf) | (refine EvOr.go ?_; conv => whnf))
  refine ⟨by rw [List.length_map]; omega, fun h => absurd h (by decide), fun _ => ⟨⟨by omega, by show (2 * (V.length + 1) + 192) * 24 ≤ 2 ^ 48; omega⟩, ?_⟩⟩
  conv => whnf
  repeat (first | (refine ⟨(by kernel_rfl : chkR _ _ _ _ = true), ?_⟩; conv => whnf) | (refine EvOr.go ?_; conv => whnf))
  refine ⟨_, e3, ?_⟩
  conv => whnf
  repeat (first | (refine ⟨(by kernel_rfl : chkR _ _ _ _ = true), ?_⟩; conv => whnf) | (refine EvOr.go ?_; conv => whnf))
  exact retQ.allS tabOk [0, 1, 2, 3, 6] _ [iv (V.length : Nat), iv 0] rfl (by first | exact .inr rfl | exact .inl rfl) (by repeat' (first | exact trivial | rfl | (intro h; cases h; done) | (refine ⟨?_, ?_⟩))) rfl (by rfl) (by kernel_rfl) (by first | rfl | kernel_rfl)
end Go.Proofs.Ytdmcbfmpnakdfaa.Eng.Rm
