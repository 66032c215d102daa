/- The document's different numbers, walked. -/
import Derived.Test.YtdmcbfmpnakdfaaQr
import Derived.Test.YtdmcbfmpnakdfaaQz
namespace Go.Proofs.Ytdmcbfmpnakdfaa.Eng
open Go Go.Proofs Go.Proofs.Ytdmcbfmpnakdfaa.Gf
set_option maxRecDepth 20000
set_option maxHeartbeats 4000000
theorem c81 : Callable Try.prog 81 := ⟨⟨_, Try.func81, by kernel_rfl, by kernel_rfl⟩⟩
def unI1 (zs : List Int) (co : Option Nat) (i : Nat) : LTm × LHp :=
  ([.sc (.sl 0 0 1 zs.length co), .junk, .junk, .sc (nrS ((zs.take i).foldl insZ []) 1), iv (i : Nat), .junk, .junk, .junk, .junk, .junk, .junk, .junk, .junk, .junk, .junk, .junk, .junk, .junk, .junk, .junk, .junk, .junk, .junk, .junk, .junk, .junk, .junk, .junk, .junk, .junk, .junk, .junk, .junk, .junk, .junk, .junk, .junk, .junk, .junk, .junk, .junk, .junk, .junk, .junk, .junk, .junk, .junk, .junk, .junk, .junk, .junk, .junk, .junk, .junk, .junk, .junk, .junk, .junk, .junk, .junk, .junk, .junk, .junk], [rowRI zs, nrB ((zs.take i).foldl insZ [])])
def unI3 (zs : List Int) (co : Option Nat) (O : List Int) (i k : Nat) : LTm × LHp :=
  ([.sc (.sl 0 0 1 zs.length co), .junk, .junk, .sc (.sl 1 0 1 O.length none), iv (i : Nat), iv (k : Nat), .junk, .junk, .junk, .junk, .junk, .junk, .junk, .junk, .junk, .junk, .junk, .junk, .junk, .junk, .junk, .junk, .junk, .junk, .junk, .junk, .junk, .junk, .junk, .junk, .junk, .junk, .junk, .junk, .junk, .junk, .junk, .junk, .junk, .junk, .junk, .junk, .junk, .junk, .junk, .junk, .junk, .junk, .junk, .junk, .junk, .junk, .junk, .junk, .junk, .junk, .junk, .junk, .junk, .junk, .junk, .junk, .junk], [rowRI zs, rowI O])
theorem intg {zs : List Int} {k : Nat} (hk : k < zs.length) : (zs.map intS)[0 + (k : Int).toNat]? = some (intS zs[k]) := by
  have := int_get (l := zs) (J := []) hk
  rwa [List.append_nil] at this
theorem un_rw1 (O : List Int) (z : Int) (k : Nat) (hk : k < O.length) : (O.take k ++ [z] ++ O.drop k).map intS = List.take (((k : Int) - 0).toNat + 1) (List.drop 0 (List.take ((k : Int) - 0).toNat (List.drop 0 (List.take ((k : Int) - 0).toNat (List.drop (0 + (0 : Int).toNat) (O.map intS)))) ++ [intS z])) ++ List.take ((O.length : Int) - (k : Nat)).toNat (List.drop (0 + (k : Int).toNat) (O.map intS)) := by
  have a : ((k : Int) - 0).toNat = k := by omega
  have b : ((O.length : Int) - (k : Nat)).toNat = O.length - k := by omega
  have c : 0 + (k : Int).toNat = k := by omega
  rw [a, b, c, show 0 + (0 : Int).toNat = 0 from rfl]
  simp only [List.drop_zero, List.take_take, Nat.min_self]
  have d : List.take (O.length - k) (List.drop k (O.map intS)) = List.drop k (O.map intS) := List.take_of_length_le (by simp)
  have e : List.take (k + 1) (List.take k (O.map intS) ++ [intS z]) = List.take k (O.map intS) ++ [intS z] := List.take_of_length_le (by simp; omega)
  rw [d, e]
  simp [List.map_take, List.map_drop]
theorem un_rw2 (O : List Int) (z : Int) : (O.take O.length ++ [z] ++ O.drop O.length).map intS = List.take ((O.length : Int) - 0).toNat (List.drop 0 (List.take ((O.length : Int) - 0).toNat (List.drop (0 + (0 : Int).toNat) (O.map intS)))) ++ [intS z] := by
  have a : ((O.length : Int) - 0).toNat = O.length := by omega
  rw [a, show 0 + (0 : Int).toNat = 0 from rfl]
  simp only [List.drop_zero, List.take_take, Nat.min_self]
  have d : List.take O.length (O.map intS) = O.map intS := List.take_of_length_le (by simp)
  rw [d]
  simp
theorem unlikeR_row (zs : List Int) (co : Option Nat) (hb : zs.length < 2 ^ 30) :
    FunT Try.prog 81 [.sc (.sl 0 0 1 zs.length co)] [rowRI zs] (.sc (nrS (unl zs) 1)) [rowRI zs, nrB (unl zs)] := by
  rw [← fold_unl]
  obtain ⟨I, hI⟩ : ∃ I, I = unI1 zs co := ⟨_, rfl⟩
  obtain ⟨J2, hJ2⟩ : ∃ J, J = unI3 zs co := ⟨_, rfl⟩
  cases co <;>
  · refine FunT.ev tabOk mixed Try.func81 rfl ?_
    conv => whnf
    repeat (first | (refine ⟨(by kernel_rfl : chkR _ _ _ _ = true), ?_⟩; conv => whnf) | (refine EvOr.go ?_; conv => whnf))
    refine CodeT.loopN tabOk mixed I zs.length _ (StW.ofP [0, 1] ?_ ?_ ?_) (fun k => by subst hI; rfl) ?_
    · subst hI; kernel_rfl
    · subst hI; rfl
    · subst hI; rfl
    intro i hil
    subst hI
    have hlen := fold_len (zs.take i) []
    rw [List.length_take, List.length_nil] at hlen
    have hend : i = zs.length → (zs.take i).foldl insZ [] = zs.foldl insZ [] := fun h => by rw [h, List.take_length]
    show evC Try.prog tab _ _ ([.sc (.sl 0 0 1 zs.length _), .junk, .junk, .sc (nrS ((zs.take i).foldl insZ []) 1), iv (i : Nat), .junk, .junk, .junk, .junk, .junk, .junk, .junk, .junk, .junk, .junk, .junk, .junk, .junk, .junk, .junk, .junk, .junk, .junk, .junk, .junk, .junk, .junk, .junk, .junk, .junk, .junk, .junk, .junk, .junk, .junk, .junk, .junk, .junk, .junk, .junk, .junk, .junk, .junk, .junk, .junk, .junk, .junk, .junk, .junk, .junk, .junk, .junk, .junk, .junk, .junk, .junk, .junk, .junk, .junk, .junk, .junk, .junk, .junk]) [rowRI zs, nrB ((zs.take i).foldl insZ [])] _
    by_cases hi : i < zs.length
    · have hs : (zs.take (i + 1)).foldl insZ [] = insZ ((zs.take i).foldl insZ []) zs[i] := by
        rw [List.take_add_one, List.foldl_append, List.getElem?_eq_getElem hi]; rfl
      have hz := intg hi
      generalize (zs.take i).foldl insZ [] = o at *
      generalize zs[i] = z at *
      have hcl := cnt_le z o
      cases o with
      | nil =>
        have hs' : (zs.take (i + 1)).foldl insZ [] = [z] := by rw [hs]; rfl
        conv => whnf
        repeat (first | (refine ⟨(by kernel_rfl : chkR _ _ _ _ = true), ?_⟩; conv => whnf) | (refine EvOr.go ?_; conv => whnf))
        intro c hc
        obtain rfl : c = true := by rw [hc]; exact decide_eq_true (by omega)
        conv => whnf
        repeat (first | (refine ⟨(by kernel_rfl : chkR _ _ _ _ = true), ?_⟩; conv => whnf) | (refine EvOr.go ?_; conv => whnf))
        refine CodeS.loop0 tabOk mixed (Nat.le_of_ble_eq_true rfl) ?_
        conv => whnf
        repeat (first | (refine ⟨(by kernel_rfl : chkR _ _ _ _ = true), ?_⟩; conv => whnf) | (refine EvOr.go ?_; conv => whnf))
        intro c hc
        obtain rfl : c = false := by rw [hc]; rfl
        conv => whnf
        repeat (first | (refine ⟨(by kernel_rfl : chkR _ _ _ _ = true), ?_⟩; conv => whnf) | (refine EvOr.go ?_; conv => whnf))
        intro c hc
        obtain rfl : c = false := by rw [hc]; rfl
        conv => whnf
        repeat (first | (refine ⟨(by kernel_rfl : chkR _ _ _ _ = true), ?_⟩; conv => whnf) | (refine EvOr.go ?_; conv => whnf))
        refine ⟨⟨rfl, rfl⟩, ?_⟩
        conv => whnf
        repeat (first | (refine ⟨(by kernel_rfl : chkR _ _ _ _ = true), ?_⟩; conv => whnf) | (refine EvOr.go ?_; conv => whnf))
        refine ⟨fun _ => ?_, fun h => absurd h (by decide)⟩
        conv => whnf
        repeat (first | (refine ⟨(by kernel_rfl : chkR _ _ _ _ = true), ?_⟩; conv => whnf) | (refine EvOr.go ?_; conv => whnf))
        refine ⟨⟨by omega, by omega⟩, ?_⟩
        conv => whnf
        repeat (first | (refine ⟨(by kernel_rfl : chkR _ _ _ _ = true), ?_⟩; conv => whnf) | (refine EvOr.go ?_; conv => whnf))
        refine ⟨_, hz, ?_⟩
        conv => whnf
        repeat (first | (refine ⟨(by kernel_rfl : chkR _ _ _ _ = true), ?_⟩; conv => whnf) | (refine EvOr.go ?_; conv => whnf))
        refine ⟨Nat.le_refl _, ?_⟩
        conv => whnf
        repeat (first | (refine ⟨(by kernel_rfl : chkR _ _ _ _ = true), ?_⟩; conv => whnf) | (refine EvOr.go ?_; conv => whnf))
        refine ⟨fun h => absurd h (by decide), fun _ => ⟨by decide, ?_⟩⟩
        conv => whnf
        repeat (first | (refine ⟨(by kernel_rfl : chkR _ _ _ _ = true), ?_⟩; conv => whnf) | (refine EvOr.go ?_; conv => whnf))
        refine ⟨⟨rfl, rfl⟩, ?_⟩
        conv => whnf
        repeat (first | (refine ⟨(by kernel_rfl : chkR _ _ _ _ = true), ?_⟩; conv => whnf) | (refine EvOr.go ?_; conv => whnf))
        refine ⟨Nat.le_refl _, fun _ => ?_, fun h => absurd h (by decide)⟩
        conv => whnf
        repeat (first | (refine ⟨(by kernel_rfl : chkR _ _ _ _ = true), ?_⟩; conv => whnf) | (refine EvOr.go ?_; conv => whnf))
        refine ⟨_, inc_nat (by omega), ?_⟩
        conv => whnf
        repeat (first | (refine ⟨(by kernel_rfl : chkR _ _ _ _ = true), ?_⟩; conv => whnf) | (refine EvOr.go ?_; conv => whnf))
        refine ⟨by omega, _, StW.ofP [0, 3] ?_ ?_ ?_⟩
        · show stP _ _ ([rowRI zs, nrB ((zs.take (i + 1)).foldl insZ [])]) = true
          rw [hs']; kernel_rfl
        · show maskT _ (unI1 zs _ (i + 1)).1 = renT _ (unI1 zs _ (i + 1)).1
          simp only [unI1, hs']; rfl
        · show pickH _ _ 0 (unI1 zs _ (i + 1)).2 = renH _ (unI1 zs _ (i + 1)).2
          simp only [unI1, hs']; rfl
      | cons a r =>
        obtain ⟨O, hO⟩ : ∃ O, O = a :: r := ⟨_, rfl⟩
        have e1 : nrS (a :: r) 1 = .sl 1 0 1 O.length none := by rw [hO]; rfl
        have e2 : nrB (a :: r) = rowI O := by rw [hO]; rfl
        have hO0 : 0 < O.length := by rw [hO]; simp
        rw [e1, e2]
        rw [← hO] at hlen hend hs hcl
        clear e1 e2 hO
        obtain ⟨c, hcz⟩ : ∃ c, c = cntL z O := ⟨_, rfl⟩
        rw [← hcz] at hcl
        obtain ⟨I2, hI2⟩ : ∃ I2, I2 = J2 O i := ⟨_, rfl⟩
        conv => whnf
        repeat (first | (refine ⟨(by kernel_rfl : chkR _ _ _ _ = true), ?_⟩; conv => whnf) | (refine EvOr.go ?_; conv => whnf))
        intro c hc
        obtain rfl : c = true := by rw [hc]; exact decide_eq_true (by omega)
        conv => whnf
        repeat (first | (refine ⟨(by kernel_rfl : chkR _ _ _ _ = true), ?_⟩; conv => whnf) | (refine EvOr.go ?_; conv => whnf))
        refine CodeT.loopN tabOk mixed I2 c _ (StW.ofP [0, 1] ?_ ?_ ?_) (fun k => by subst hI2 hJ2; rfl) ?_
        · subst hI2 hJ2; kernel_rfl
        · subst hI2 hJ2; rfl
        · subst hI2 hJ2; rfl
        intro k hkc
        subst hI2 hJ2
        by_cases hkc2 : k < c
        · have hkO : k < O.length := by omega
          have hlt := cnt_lt (z := z) hkO (by omega)
          have hk' := intg hkO
          conv => whnf
          repeat (first | (refine ⟨(by kernel_rfl : chkR _ _ _ _ = true), ?_⟩; conv => whnf) | (refine EvOr.go ?_; conv => whnf))
          intro c hc
          obtain rfl : c = true := by rw [hc]; exact decide_eq_true (by omega)
          conv => whnf
          repeat (first | (refine ⟨(by kernel_rfl : chkR _ _ _ _ = true), ?_⟩; conv => whnf) | (refine EvOr.go ?_; conv => whnf))
          refine ⟨⟨by omega, by omega⟩, ?_⟩
          conv => whnf
          repeat (first | (refine ⟨(by kernel_rfl : chkR _ _ _ _ = true), ?_⟩; conv => whnf) | (refine EvOr.go ?_; conv => whnf))
          refine ⟨_, hk', ?_⟩
          conv => whnf
          repeat (first | (refine ⟨(by kernel_rfl : chkR _ _ _ _ = true), ?_⟩; conv => whnf) | (refine EvOr.go ?_; conv => whnf))
          refine ⟨⟨by omega, by omega⟩, ?_⟩
          conv => whnf
          repeat (first | (refine ⟨(by kernel_rfl : chkR _ _ _ _ = true), ?_⟩; conv => whnf) | (refine EvOr.go ?_; conv => whnf))
          refine ⟨_, hz, ?_⟩
          conv => whnf
          repeat (first | (refine ⟨(by kernel_rfl : chkR _ _ _ _ = true), ?_⟩; conv => whnf) | (refine EvOr.go ?_; conv => whnf))
          intro c hc
          obtain rfl : c = true := by rw [hc]; exact decide_eq_true hlt
          conv => whnf
          repeat (first | (refine ⟨(by kernel_rfl : chkR _ _ _ _ = true), ?_⟩; conv => whnf) | (refine EvOr.go ?_; conv => whnf))
          refine ⟨_, inc_nat (by omega), ?_⟩
          conv => whnf
          repeat (first | (refine ⟨(by kernel_rfl : chkR _ _ _ _ = true), ?_⟩; conv => whnf) | (refine EvOr.go ?_; conv => whnf))
          refine ⟨by first | exact hk | omega, _, StW.ofP [0, 1] ?_ ?_ ?_⟩
          · kernel_rfl
          · rfl
          · rfl
        · obtain rfl : k = c := by omega
          by_cases hkO : k < O.length
          · have hk' := intg hkO
            have hnl := cnt_at (z := z) (o := O) (by omega)
            have hnl' : ¬ O[k] < z := by
              have : ∀ (j : Nat) (hj : j < O.length), k = j → ¬ O[j] < z → ¬ O[k] < z := fun j hj e h => by subst e; exact h
              exact this _ (by omega) hcz hnl
            conv => whnf
            repeat (first | (refine ⟨(by kernel_rfl : chkR _ _ _ _ = true), ?_⟩; conv => whnf) | (refine EvOr.go ?_; conv => whnf))
            intro c hc
            obtain rfl : c = true := by rw [hc]; exact decide_eq_true (by omega)
            conv => whnf
            repeat (first | (refine ⟨(by kernel_rfl : chkR _ _ _ _ = true), ?_⟩; conv => whnf) | (refine EvOr.go ?_; conv => whnf))
            refine ⟨⟨by omega, by omega⟩, ?_⟩
            conv => whnf
            repeat (first | (refine ⟨(by kernel_rfl : chkR _ _ _ _ = true), ?_⟩; conv => whnf) | (refine EvOr.go ?_; conv => whnf))
            refine ⟨_, hk', ?_⟩
            conv => whnf
            repeat (first | (refine ⟨(by kernel_rfl : chkR _ _ _ _ = true), ?_⟩; conv => whnf) | (refine EvOr.go ?_; conv => whnf))
            refine ⟨⟨by omega, by omega⟩, ?_⟩
            conv => whnf
            repeat (first | (refine ⟨(by kernel_rfl : chkR _ _ _ _ = true), ?_⟩; conv => whnf) | (refine EvOr.go ?_; conv => whnf))
            refine ⟨_, hz, ?_⟩
            conv => whnf
            repeat (first | (refine ⟨(by kernel_rfl : chkR _ _ _ _ = true), ?_⟩; conv => whnf) | (refine EvOr.go ?_; conv => whnf))
            intro c hc
            obtain rfl : c = false := by rw [hc]; exact decide_eq_false hnl'
            conv => whnf
            repeat (first | (refine ⟨(by kernel_rfl : chkR _ _ _ _ = true), ?_⟩; conv => whnf) | (refine EvOr.go ?_; conv => whnf))
            intro c hc
            obtain rfl : c = true := by rw [hc]; exact decide_eq_true (by omega)
            conv => whnf
            repeat (first | (refine ⟨(by kernel_rfl : chkR _ _ _ _ = true), ?_⟩; conv => whnf) | (refine EvOr.go ?_; conv => whnf))
            refine ⟨⟨by omega, by omega⟩, ?_⟩
            conv => whnf
            repeat (first | (refine ⟨(by kernel_rfl : chkR _ _ _ _ = true), ?_⟩; conv => whnf) | (refine EvOr.go ?_; conv => whnf))
            refine ⟨_, hk', ?_⟩
            conv => whnf
            repeat (first | (refine ⟨(by kernel_rfl : chkR _ _ _ _ = true), ?_⟩; conv => whnf) | (refine EvOr.go ?_; conv => whnf))
            refine ⟨⟨by omega, by omega⟩, ?_⟩
            conv => whnf
            repeat (first | (refine ⟨(by kernel_rfl : chkR _ _ _ _ = true), ?_⟩; conv => whnf) | (refine EvOr.go ?_; conv => whnf))
            refine ⟨_, hz, ?_⟩
            conv => whnf
            repeat (first | (refine ⟨(by kernel_rfl : chkR _ _ _ _ = true), ?_⟩; conv => whnf) | (refine EvOr.go ?_; conv => whnf))
            intro q hq
            by_cases hqz : O[k] = z
            · obtain rfl : q = true := by rw [hq, hqz]; simp
              have hT : insZ O z = O := by
                unfold insZ
                rw [← hcz, List.getElem?_eq_getElem hkO, hqz, if_pos rfl]
              rw [hT] at hs
              conv => whnf
              repeat (first | (refine ⟨(by kernel_rfl : chkR _ _ _ _ = true), ?_⟩; conv => whnf) | (refine EvOr.go ?_; conv => whnf))
              refine ⟨_, inc_nat (by omega), ?_⟩
              conv => whnf
              repeat (first | (refine ⟨(by kernel_rfl : chkR _ _ _ _ = true), ?_⟩; conv => whnf) | (refine EvOr.go ?_; conv => whnf))
              have hn := nr_row 1 hO0
              refine ⟨by omega, _, StW.ofP [0, 1] ?_ ?_ ?_⟩
              · show stP _ _ ([rowRI zs, nrB ((zs.take (i + 1)).foldl insZ [])]) = true
                rw [hs, hn.2]; kernel_rfl
              · show maskT _ (unI1 zs _ (i + 1)).1 = renT _ (unI1 zs _ (i + 1)).1
                simp only [unI1, hs, hn.1]; rfl
              · show pickH _ _ 0 (unI1 zs _ (i + 1)).2 = renH _ (unI1 zs _ (i + 1)).2
                simp only [unI1, hs, hn.2]; rfl
            · obtain rfl : q = false := by rw [hq]; simpa using hqz
              have hT : insZ O z = O.take k ++ [z] ++ O.drop k := by
                unfold insZ
                rw [← hcz, List.getElem?_eq_getElem hkO, if_neg (by simpa using hqz)]
              rw [hT] at hs
              by_cases hk0 : k = 0
              · subst hk0
                conv => whnf
                repeat (first | (refine ⟨(by kernel_rfl : chkR _ _ _ _ = true), ?_⟩; conv => whnf) | (refine EvOr.go ?_; conv => whnf))
                refine ⟨⟨by decide, by decide, by show (0 : Int) ≤ (O.length : Nat); omega, fun _ => ⟨_, _, _, _, _, rfl, by rw [List.length_map]; omega⟩⟩, fun _ => ?_, fun _ h => absurd h (by decide)⟩
                conv => whnf
                repeat (first | (refine ⟨(by kernel_rfl : chkR _ _ _ _ = true), ?_⟩; conv => whnf) | (refine EvOr.go ?_; conv => whnf))
                refine ⟨Nat.zero_le _, ?_⟩
                conv => whnf
                repeat (first | (refine ⟨(by kernel_rfl : chkR _ _ _ _ = true), ?_⟩; conv => whnf) | (refine EvOr.go ?_; conv => whnf))
                refine ⟨fun _ => ?_, fun h => absurd h (by decide)⟩
                conv => whnf
                repeat (first | (refine ⟨(by kernel_rfl : chkR _ _ _ _ = true), ?_⟩; conv => whnf) | (refine EvOr.go ?_; conv => whnf))
                refine ⟨⟨by omega, by omega⟩, ?_⟩
                conv => whnf
                repeat (first | (refine ⟨(by kernel_rfl : chkR _ _ _ _ = true), ?_⟩; conv => whnf) | (refine EvOr.go ?_; conv => whnf))
                refine ⟨_, hz, ?_⟩
                conv => whnf
                repeat (first | (refine ⟨(by kernel_rfl : chkR _ _ _ _ = true), ?_⟩; conv => whnf) | (refine EvOr.go ?_; conv => whnf))
                refine ⟨Nat.le_refl _, ?_⟩
                conv => whnf
                repeat (first | (refine ⟨(by kernel_rfl : chkR _ _ _ _ = true), ?_⟩; conv => whnf) | (refine EvOr.go ?_; conv => whnf))
                refine ⟨fun h => absurd h (by decide), fun _ => ⟨by decide, ?_⟩⟩
                conv => whnf
                repeat (first | (refine ⟨(by kernel_rfl : chkR _ _ _ _ = true), ?_⟩; conv => whnf) | (refine EvOr.go ?_; conv => whnf))
                refine ⟨⟨by decide, by omega, Int.le_refl _, fun _ => ⟨_, _, _, _, _, rfl, by rw [List.length_map]; omega⟩⟩, fun _ => ?_, fun _ h => absurd h (by decide)⟩
                conv => whnf
                repeat (first | (refine ⟨(by kernel_rfl : chkR _ _ _ _ = true), ?_⟩; conv => whnf) | (refine EvOr.go ?_; conv => whnf))
                refine ⟨by rw [List.length_map]; omega, ?_⟩
                conv => whnf
                repeat (first | (refine ⟨(by kernel_rfl : chkR _ _ _ _ = true), ?_⟩; conv => whnf) | (refine EvOr.go ?_; conv => whnf))
                refine ⟨Nat.le_refl _, fun h => absurd h (by omega), fun _ => ⟨by show (2 * (0 + 1 + ((O.length : Int) - 0).toNat) + 192) * 8 ≤ _; omega, ?_⟩⟩
                conv => whnf
                repeat (first | (refine ⟨(by kernel_rfl : chkR _ _ _ _ = true), ?_⟩; conv => whnf) | (refine EvOr.go ?_; conv => whnf))
                refine ⟨_, inc_nat (by omega), ?_⟩
                conv => whnf
                repeat (first | (refine ⟨(by kernel_rfl : chkR _ _ _ _ = true), ?_⟩; conv => whnf) | (refine EvOr.go ?_; conv => whnf))
                have hn := nr_row (T := O.take 0 ++ [z] ++ O.drop 0) 1 (by simp)
                have hln : (O.take 0 ++ [z] ++ O.drop 0).length = 1 + O.length := by simp; omega
                have hrw : (O.take 0 ++ [z] ++ O.drop 0).map intS = [intS z] ++ List.take O.length (List.drop 0 (O.map intS)) := by
                  have t : List.take O.length (List.drop 0 (O.map intS)) = O.map intS := by rw [List.drop_zero]; exact List.take_of_length_le (by simp)
                  rw [t]; simp
                refine ⟨by omega, _, StW.ofP [0, 4] ?_ ?_ ?_⟩
                · show stP _ _ ([rowRI zs, nrB ((zs.take (i + 1)).foldl insZ [])]) = true
                  rw [hs, hn.2]; kernel_rfl
                · show maskT _ (unI1 zs _ (i + 1)).1 = renT _ (unI1 zs _ (i + 1)).1
                  simp only [unI1, hs, hn.1, hln]; rfl
                · show pickH _ _ 0 (unI1 zs _ (i + 1)).2 = renH _ (unI1 zs _ (i + 1)).2
                  simp only [unI1, hs, hn.2, rowI, hrw]; rfl
              · conv => whnf
                repeat (first | (refine ⟨(by kernel_rfl : chkR _ _ _ _ = true), ?_⟩; conv => whnf) | (refine EvOr.go ?_; conv => whnf))
                refine ⟨⟨by decide, by omega, by show ((k : Nat) : Int) ≤ (O.length : Nat); omega, fun _ => ⟨_, _, _, _, _, rfl, by rw [List.length_map]; omega⟩⟩, fun _ => ?_, fun _ h => absurd h (by decide)⟩
                conv => whnf
                repeat (first | (refine ⟨(by kernel_rfl : chkR _ _ _ _ = true), ?_⟩; conv => whnf) | (refine EvOr.go ?_; conv => whnf))
                refine ⟨by rw [List.length_map]; omega, ?_⟩
                conv => whnf
                repeat (first | (refine ⟨(by kernel_rfl : chkR _ _ _ _ = true), ?_⟩; conv => whnf) | (refine EvOr.go ?_; conv => whnf))
                refine ⟨fun h => absurd h (by omega), fun _ => ⟨by show (2 * ((k : Int) - 0).toNat + 192) * 8 ≤ _; omega, ?_⟩⟩
                conv => whnf
                repeat (first | (refine ⟨(by kernel_rfl : chkR _ _ _ _ = true), ?_⟩; conv => whnf) | (refine EvOr.go ?_; conv => whnf))
                refine ⟨⟨by omega, by omega⟩, ?_⟩
                conv => whnf
                repeat (first | (refine ⟨(by kernel_rfl : chkR _ _ _ _ = true), ?_⟩; conv => whnf) | (refine EvOr.go ?_; conv => whnf))
                refine ⟨_, hz, ?_⟩
                conv => whnf
                repeat (first | (refine ⟨(by kernel_rfl : chkR _ _ _ _ = true), ?_⟩; conv => whnf) | (refine EvOr.go ?_; conv => whnf))
                refine ⟨Nat.le_refl _, ?_⟩
                conv => whnf
                repeat (first | (refine ⟨(by kernel_rfl : chkR _ _ _ _ = true), ?_⟩; conv => whnf) | (refine EvOr.go ?_; conv => whnf))
                refine ⟨by simp only [List.length_append, List.length_take, List.length_drop, List.length_map, List.length_set, List.length_replicate]; omega, fun h => absurd h (by decide), fun _ => ⟨by show (2 * (((k : Int) - 0).toNat + (0 + 1)) + 192) * 8 ≤ _; omega, ?_⟩⟩
                conv => whnf
                repeat (first | (refine ⟨(by kernel_rfl : chkR _ _ _ _ = true), ?_⟩; conv => whnf) | (refine EvOr.go ?_; conv => whnf))
                refine ⟨⟨by omega, by omega, Int.le_refl _, fun _ => ⟨_, _, _, _, _, rfl, by rw [List.length_map]; omega⟩⟩, fun _ => ?_, fun h => absurd h (by omega)⟩
                conv => whnf
                repeat (first | (refine ⟨(by kernel_rfl : chkR _ _ _ _ = true), ?_⟩; conv => whnf) | (refine EvOr.go ?_; conv => whnf))
                refine ⟨by rw [List.length_map]; omega, ?_⟩
                conv => whnf
                repeat (first | (refine ⟨(by kernel_rfl : chkR _ _ _ _ = true), ?_⟩; conv => whnf) | (refine EvOr.go ?_; conv => whnf))
                refine ⟨by simp only [List.length_append, List.length_take, List.length_drop, List.length_map, List.length_set, List.length_replicate]; omega, fun h => absurd h (by omega), fun _ => ⟨by show (2 * (((k : Int) - 0).toNat + 1 + ((O.length : Int) - k).toNat) + 192) * 8 ≤ _; omega, ?_⟩⟩
                conv => whnf
                repeat (first | (refine ⟨(by kernel_rfl : chkR _ _ _ _ = true), ?_⟩; conv => whnf) | (refine EvOr.go ?_; conv => whnf))
                refine ⟨_, inc_nat (by omega), ?_⟩
                conv => whnf
                repeat (first | (refine ⟨(by kernel_rfl : chkR _ _ _ _ = true), ?_⟩; conv => whnf) | (refine EvOr.go ?_; conv => whnf))
                have hn := nr_row (T := O.take k ++ [z] ++ O.drop k) 1 (by simp; omega)
                have hln : (O.take k ++ [z] ++ O.drop k).length = ((k : Int) - 0).toNat + 1 + ((O.length : Int) - k).toNat := by simp; omega
                have hrw := un_rw1 O z k (by omega)
                refine ⟨by omega, _, StW.ofP [0, 5] ?_ ?_ ?_⟩
                · show stP _ _ ([rowRI zs, nrB ((zs.take (i + 1)).foldl insZ [])]) = true
                  rw [hs, hn.2]; kernel_rfl
                · show maskT _ (unI1 zs _ (i + 1)).1 = renT _ (unI1 zs _ (i + 1)).1
                  simp only [unI1, hs, hn.1, hln]; rfl
                · show pickH _ _ 0 (unI1 zs _ (i + 1)).2 = renH _ (unI1 zs _ (i + 1)).2
                  simp only [unI1, hs, hn.2, rowI, hrw]; rfl
          · obtain rfl : k = O.length := by omega
            have hT : insZ O z = O.take O.length ++ [z] ++ O.drop O.length := by
              unfold insZ
              rw [← hcz, List.getElem?_eq_none (Nat.le_refl _), if_neg (by simp)]
            rw [hT] at hs
            conv => whnf
            repeat (first | (refine ⟨(by kernel_rfl : chkR _ _ _ _ = true), ?_⟩; conv => whnf) | (refine EvOr.go ?_; conv => whnf))
            intro c hc
            obtain rfl : c = false := by rw [hc]; exact decide_eq_false (by omega)
            conv => whnf
            repeat (first | (refine ⟨(by kernel_rfl : chkR _ _ _ _ = true), ?_⟩; conv => whnf) | (refine EvOr.go ?_; conv => whnf))
            intro c hc
            obtain rfl : c = false := by rw [hc]; exact decide_eq_false (by omega)
            conv => whnf
            repeat (first | (refine ⟨(by kernel_rfl : chkR _ _ _ _ = true), ?_⟩; conv => whnf) | (refine EvOr.go ?_; conv => whnf))
            refine ⟨⟨by decide, by omega, Int.le_refl _, fun _ => ⟨_, _, _, _, _, rfl, by rw [List.length_map]; omega⟩⟩, fun _ => ?_, fun _ h => absurd h (by decide)⟩
            conv => whnf
            repeat (first | (refine ⟨(by kernel_rfl : chkR _ _ _ _ = true), ?_⟩; conv => whnf) | (refine EvOr.go ?_; conv => whnf))
            refine ⟨by rw [List.length_map]; omega, ?_⟩
            conv => whnf
            repeat (first | (refine ⟨(by kernel_rfl : chkR _ _ _ _ = true), ?_⟩; conv => whnf) | (refine EvOr.go ?_; conv => whnf))
            refine ⟨fun h => absurd h (by omega), fun _ => ⟨by show (2 * ((O.length : Int) - 0).toNat + 192) * 8 ≤ _; omega, ?_⟩⟩
            conv => whnf
            repeat (first | (refine ⟨(by kernel_rfl : chkR _ _ _ _ = true), ?_⟩; conv => whnf) | (refine EvOr.go ?_; conv => whnf))
            refine ⟨⟨by omega, by omega⟩, ?_⟩
            conv => whnf
            repeat (first | (refine ⟨(by kernel_rfl : chkR _ _ _ _ = true), ?_⟩; conv => whnf) | (refine EvOr.go ?_; conv => whnf))
            refine ⟨_, hz, ?_⟩
            conv => whnf
            repeat (first | (refine ⟨(by kernel_rfl : chkR _ _ _ _ = true), ?_⟩; conv => whnf) | (refine EvOr.go ?_; conv => whnf))
            refine ⟨Nat.le_refl _, ?_⟩
            conv => whnf
            repeat (first | (refine ⟨(by kernel_rfl : chkR _ _ _ _ = true), ?_⟩; conv => whnf) | (refine EvOr.go ?_; conv => whnf))
            refine ⟨by simp only [List.length_append, List.length_take, List.length_drop, List.length_map, List.length_set, List.length_replicate]; omega, fun h => absurd h (by decide), fun _ => ⟨by show (2 * (((O.length : Int) - 0).toNat + (0 + 1)) + 192) * 8 ≤ _; omega, ?_⟩⟩
            conv => whnf
            repeat (first | (refine ⟨(by kernel_rfl : chkR _ _ _ _ = true), ?_⟩; conv => whnf) | (refine EvOr.go ?_; conv => whnf))
            refine ⟨⟨by omega, by omega, Int.le_refl _, fun _ => ⟨_, _, _, _, _, rfl, by rw [List.length_map]; omega⟩⟩, fun h => absurd h (by omega), fun _ _ => ?_⟩
            conv => whnf
            repeat (first | (refine ⟨(by kernel_rfl : chkR _ _ _ _ = true), ?_⟩; conv => whnf) | (refine EvOr.go ?_; conv => whnf))
            refine ⟨rfl, ?_⟩
            conv => whnf
            repeat (first | (refine ⟨(by kernel_rfl : chkR _ _ _ _ = true), ?_⟩; conv => whnf) | (refine EvOr.go ?_; conv => whnf))
            refine ⟨by simp only [List.length_append, List.length_take, List.length_drop, List.length_map, List.length_set, List.length_replicate]; omega, fun _ => ?_, fun h => absurd h (by decide)⟩
            conv => whnf
            repeat (first | (refine ⟨(by kernel_rfl : chkR _ _ _ _ = true), ?_⟩; conv => whnf) | (refine EvOr.go ?_; conv => whnf))
            refine ⟨_, inc_nat (by omega), ?_⟩
            conv => whnf
            repeat (first | (refine ⟨(by kernel_rfl : chkR _ _ _ _ = true), ?_⟩; conv => whnf) | (refine EvOr.go ?_; conv => whnf))
            have hn := nr_row (T := O.take O.length ++ [z] ++ O.drop O.length) 1 (by simp)
            have hln : (O.take O.length ++ [z] ++ O.drop O.length).length = ((O.length : Int) - 0).toNat + 1 := by simp
            have hrw := un_rw2 O z
            refine ⟨by omega, _, StW.ofP [0, 4] ?_ ?_ ?_⟩
            · show stP _ _ ([rowRI zs, nrB ((zs.take (i + 1)).foldl insZ [])]) = true
              rw [hs, hn.2]; kernel_rfl
            · show maskT _ (unI1 zs _ (i + 1)).1 = renT _ (unI1 zs _ (i + 1)).1
              simp only [unI1, hs, hn.1, hln]; rfl
            · show pickH _ _ 0 (unI1 zs _ (i + 1)).2 = renH _ (unI1 zs _ (i + 1)).2
              simp only [unI1, hs, hn.2, rowI, hrw]; rfl
    · have e := hend (by omega)
      rw [← e]
      generalize (zs.take i).foldl insZ [] = T at *
      cases T with
      | nil =>
        conv => whnf
        repeat (first | (refine ⟨(by kernel_rfl : chkR _ _ _ _ = true), ?_⟩; conv => whnf) | (refine EvOr.go ?_; conv => whnf))
        intro c hc
        obtain rfl : c = false := by rw [hc]; exact decide_eq_false (by omega)
        conv => whnf
        repeat (first | (refine ⟨(by kernel_rfl : chkR _ _ _ _ = true), ?_⟩; conv => whnf) | (refine EvOr.go ?_; conv => whnf))
        exact retQ.one rfl (.inr rfl) rfl (Nat.le_of_ble_eq_true rfl) rfl
      | cons a r =>
        conv => whnf
        repeat (first | (refine ⟨(by kernel_rfl : chkR _ _ _ _ = true), ?_⟩; conv => whnf) | (refine EvOr.go ?_; conv => whnf))
        intro c hc
        obtain rfl : c = false := by rw [hc]; exact decide_eq_false (by omega)
        conv => whnf
        repeat (first | (refine ⟨(by kernel_rfl : chkR _ _ _ _ = true), ?_⟩; conv => whnf) | (refine EvOr.go ?_; conv => whnf))
        exact retQ.one rfl (.inr rfl) rfl (Nat.le_of_ble_eq_true rfl) rfl
end Go.Proofs.Ytdmcbfmpnakdfaa.Eng
