/- MemberPlays: the first state; members that are none. -/
import Derived.Test.YtdmcbfmpnakdfaaZ7
import Derived.Test.YtdmcbfmpnakdfaaZ8
import Derived.Test.YtdmcbfmpnakdfaaMh
namespace Go.Proofs.Ytdmcbfmpnakdfaa.Eng.Rm
open Go Go.Proofs
set_option maxRecDepth 20000
set_option maxHeartbeats 8000000
theorem SeenF.imp {X : Type} {n : Nat} {I : X → LTm × LHp} {p q : X → Prop} {l : LTm} {h : LHp} (hs : SeenF n I p l h) (hpq : ∀ x, p x → q x) : SeenF n I q l h := fun Γ ρ w tm h1 h2 h3 => by
  obtain ⟨x, ρ', g, r⟩ := hs Γ ρ w tm h1 h2 h3
  exact ⟨x, ρ', hpq x g, r⟩
def s8 (i : Nat) : Nat := if 8 ≤ i then (if i ≤ 10 then 1 else i) else i
theorem s8_lt {i : Nat} (h : i < 8) : s8 i = i := if_neg (by omega)
abbrev pl0H (al : List ActV) (R0 : List (Nat × Obj)) (n : Int) : LHp := [arB .row al, some (famB R0), some (memG (newM n) .nil .nil 3 4 5 6), imB [], imB [], none, none, refS n nilS nilS nilS false false]
theorem pl_0 (al : List ActV) (R0 : List (Nat × Obj)) (n at_ : Int) (hn : 0 < n) : SeenF 2 (plI al R0 n at_) (fun _ => True) (plT al at_ 0) (pl0H al R0 n) := by
  refine SeenF.mk2 s8 (fun i hi => s8_lt (by omega)) fun Γ ρ w tm hg hs ht => ?_
  refine ⟨⟨⟨newM n, .nil, [], nilSl, nilSl, [], [], [], [], R0, 0⟩, ⟨⟨rfl, ⟨hn, EqM_nil, EqM_nil, Nat.le_refl _⟩, .inl ⟨rfl, rfl⟩, .inl ⟨rfl, rfl⟩, by show (0 : Nat) < 1000; decide⟩, ⟨rfl, rfl, rfl, Nat.zero_le _, fun j b S h => by simp at h, fun j v A h => by simp at h, fun j S A h => by simp at h, fun A h => by cases h⟩, Nat.zero_le _, rfl, fun y h => h, .inl rfl⟩⟩, trivial, by show 2 ≤ 12; decide, ?_, ?_, ?_⟩
  · show ∀ i b2, hpL (plG al R0 (newM n) .nil .nil nilS nilS R0 none none) i = some b2 → ∃ b, _ ∧ _ ∧ BlkSat (reb w 2 Γ.r0 (fun i => ρ (s8 i)) (hpL (plG al R0 (newM n) .nil .nil nilS nilS R0 none none))) _ _ _ _
    have hw : ∀ (i : Nat) (a : ABlk), hpL (plG al R0 (newM n) .nil .nil nilS nilS R0 none none) i = some a → a.w = true → i < 8 ∧ hpL (pl0H al R0 n) i = some a := fun i a ha haw => by
      match i, ha with
      | 0, ha => cases ha; cases haw
      | 1, ha => cases ha; cases haw
      | 2, ha => exact ⟨by decide, ha⟩
      | 3, ha => exact ⟨by decide, ha⟩
      | 4, ha => exact ⟨by decide, ha⟩
      | 5, ha => cases ha
      | 6, ha => cases ha
      | 7, ha => exact ⟨by decide, ha⟩
      | 8, ha => cases ha; cases haw
      | 9, ha => cases ha; cases haw
      | 10, ha => cases ha; cases haw
      | 11, ha => cases ha
      | i + 12, ha => cases ha
    have hF : Fams (reb w 2 Γ.r0 (fun i => ρ (s8 i)) (hpL (plG al R0 (newM n) .nil .nil nilS nilS R0 none none))) R0 := fun x hx => by
      obtain ⟨h1, h2, h3⟩ := fam_R (hs.blk 1 _ rfl) x hx
      refine ⟨Nat.lt_of_lt_of_le h1 hs.size, ?_, (hs.frame _ h1 h2).trans h3⟩
      rintro ⟨i, a, ha, haw, e⟩
      obtain ⟨hi, ha2⟩ := hw i a ha haw
      have e2 : (ρ i).b = x.1 := by rw [← e]; show _ = (ρ (s8 i)).b; rw [s8_lt hi]
      exact h2 (e2 ▸ hs.foot i a ha2 haw (e2 ▸ h1))
    have hfam : ∀ i, s8 i = 1 → BlkSat (reb w 2 Γ.r0 (fun i => ρ (s8 i)) (hpL (plG al R0 (newM n) .nil .nil nilS nilS R0 none none))) (fun i => ρ (s8 i)) w i (famB R0) := fun i hi => by
      have hb := hs.blk 1 _ rfl
      have hb2 : BlkSat Γ (fun i => ρ (s8 i)) w i (famB R0) := hb.congr (by show ρ (s8 i) = _; rw [hi]) (fun x hx => by cases hx) rfl
      have hlt := hb2.lt
      obtain ⟨a1, a2, a3, ⟨c0, t0, fr0, pre0, post0, b1, b2, b3, b4, b5⟩, ⟨o, ho⟩, _⟩ := hb2
      exact ⟨a1, a2, a3, ⟨c0, t0, fr0, pre0, post0, b1, b2, b3, hlt, rfl⟩, ⟨o, ho⟩, hF⟩
    have hsame : ∀ (i : Nat) (b : ABlk), i < 8 → hpL (pl0H al R0 n) i = some b → b.w = true → (∀ x ∈ b.ms, x < 8) → BlkSat (reb w 2 Γ.r0 (fun i => ρ (s8 i)) (hpL (plG al R0 (newM n) .nil .nil nilS nilS R0 none none))) (fun i => ρ (s8 i)) w i b := fun i b hi hb hbw hms =>
      ((hs.blk i b hb).congr (ρ' := fun i => ρ (s8 i)) (id' := i) (by show ρ (s8 i) = _; rw [s8_lt hi]) (fun x hx => by show ρ (s8 x) = _; rw [s8_lt (hms x hx)]) rfl).ctx hbw
    intro i b2 hb
    match i, hb with
    | 0, hb =>
      cases hb
      refine ⟨_, rfl, rfl, ?_⟩
      have hb2 : BlkSat Γ (fun i => ρ (s8 i)) w 0 (.row .ro 57 68 (al.map actSegs) []) := (hs.blk 0 _ rfl).congr rfl (fun x hx => by cases hx) rfl
      exact hb2.ctx_ro (fun R t sz L ms h => by cases h) fun _ => ⟨hb2.lt, rfl⟩
    | 1, hb => cases hb; exact ⟨_, rfl, rfl, hfam 1 rfl⟩
    | 2, hb => cases hb; exact ⟨_, rfl, rfl, hsame 2 _ (by decide) rfl rfl (fun x hx => by
      have hx : x ∈ [3, 4] := hx
      simp at hx; omega)⟩
    | 3, hb => cases hb; exact ⟨_, rfl, rfl, hsame 3 _ (by decide) rfl rfl (fun x hx => by cases hx)⟩
    | 4, hb => cases hb; exact ⟨_, rfl, rfl, hsame 4 _ (by decide) rfl rfl (fun x hx => by cases hx)⟩
    | 5, hb => cases hb
    | 6, hb => cases hb
    | 7, hb => cases hb; exact ⟨_, rfl, rfl, hsame 7 _ (by decide) rfl rfl (fun x hx => by cases hx)⟩
    | 8, hb => cases hb; exact ⟨_, rfl, rfl, hfam 8 rfl⟩
    | 9, hb => cases hb; exact ⟨_, rfl, rfl, hfam 9 rfl⟩
    | 10, hb => cases hb; exact ⟨_, rfl, rfl, hfam 10 rfl⟩
    | 11, hb => cases hb
    | i + 12, hb => cases hb
  · show ∀ i j a b, hpL (plG al R0 (newM n) .nil .nil nilS nilS R0 none none) i = some a → hpL (plG al R0 (newM n) .nil .nil nilS nilS R0 none none) j = some b → _ → _ → _
    intro i j a b ha hb haw he
    have hi : i < 8 ∧ i ≠ 1 := by
      match i, ha with
      | 0, ha => cases ha; cases haw
      | 1, ha => cases ha; cases haw
      | 2, ha => decide
      | 3, ha => decide
      | 4, ha => decide
      | 5, ha => cases ha
      | 6, ha => cases ha
      | 7, ha => decide
      | 8, ha => cases ha; cases haw
      | 9, ha => cases ha; cases haw
      | 10, ha => cases ha; cases haw
      | 11, ha => cases ha
      | i + 12, ha => cases ha
    have hj := hpL_lt hb
    rw [s8_lt hi.1] at he
    unfold s8 at he
    split at he
    · split at he
      · exact absurd he hi.2
      · exact he
    · exact he
  · show TSat (fun i => ρ (s8 i)) _ (tmL (plT al at_ 0)) tm
    have hall : (plT al at_ 0).all (fun v => v.ids.all (fun x => decide (x < 8))) = true := rfl
    refine ⟨ht.size, fun i => ?_⟩
    rcases ht.val i with h | h
    · exact .inl h
    · right
      rw [h]
      refine (AV.den_congr _ fun x hx => ?_).symm
      have hx8 : x < 8 := by
        have : tmL (plT al at_ 0) i = .junk ∨ tmL (plT al at_ 0) i ∈ plT al at_ 0 := by
          unfold tmL
          rw [List.getD_eq_getElem?_getD]
          by_cases hi : i < (plT al at_ 0).length
          · rw [List.getElem?_eq_getElem hi]; exact .inr (List.getElem_mem hi)
          · rw [List.getElem?_eq_none (by omega)]; exact .inl rfl
        rcases this with e | e
        · rw [e] at hx; cases hx
        · have := List.all_eq_true.1 (List.all_eq_true.1 hall _ e) x hx
          exact of_decide_eq_true this
      show ρ (s8 x) = ρ x
      rw [s8_lt hx8]
theorem newB (n : Int) (h : ¬ (1 ≤ n ∧ n ≤ 65536)) : FunT Try.prog 27 [iv n] [] (.tup [nonV, iv 2]) [] := by
  by_cases h1 : n < 1
  · refine FunT.ev tabOk mixed Try.func27 rfl ?_
    conv => whnf
    repeat (first | (refine ⟨(by kernel_rfl : chkR _ _ _ _ = true), ?_⟩; conv => whnf) | (refine EvOr.go ?_; conv => whnf))
    intro c hc
    obtain rfl : c = true := by rw [hc]; exact decide_eq_true (by omega)
    conv => whnf
    repeat (first | (refine ⟨(by kernel_rfl : chkR _ _ _ _ = true), ?_⟩; conv => whnf) | (refine EvOr.go ?_; conv => whnf))
    exact retQ.all tabOk _ [nonV, iv 2] rfl (by first | exact .inr rfl | exact .inl rfl) (by repeat' (first | exact trivial | rfl | (intro h; cases h; done) | (refine ⟨?_, ?_⟩))) rfl (by rfl) (Nat.le_of_ble_eq_true rfl) (by rfl)
  · refine FunT.ev tabOk mixed Try.func27 rfl ?_
    conv => whnf
    repeat (first | (refine ⟨(by kernel_rfl : chkR _ _ _ _ = true), ?_⟩; conv => whnf) | (refine EvOr.go ?_; conv => whnf))
    intro c hc
    obtain rfl : c = false := by rw [hc]; exact decide_eq_false (by omega)
    conv => whnf
    repeat (first | (refine ⟨(by kernel_rfl : chkR _ _ _ _ = true), ?_⟩; conv => whnf) | (refine EvOr.go ?_; conv => whnf))
    intro c hc
    obtain rfl : c = true := by rw [hc]; exact decide_eq_true (by omega)
    conv => whnf
    repeat (first | (refine ⟨(by kernel_rfl : chkR _ _ _ _ = true), ?_⟩; conv => whnf) | (refine EvOr.go ?_; conv => whnf))
    exact retQ.all tabOk _ [nonV, iv 2] rfl (by first | exact .inr rfl | exact .inl rfl) (by repeat' (first | exact trivial | rfl | (intro h; cases h; done) | (refine ⟨?_, ?_⟩))) rfl (by rfl) (Nat.le_of_ble_eq_true rfl) (by rfl)
end Go.Proofs.Ytdmcbfmpnakdfaa.Eng.Rm
/- MemberPlays, walked whole. -/
namespace Go.Proofs.Ytdmcbfmpnakdfaa.Eng.Rm
open Go Go.Proofs
set_option maxRecDepth 20000
set_option maxHeartbeats 16000000
theorem c7 : Callable Try.prog 7 := ⟨⟨_, Try.func7, by kernel_rfl, by kernel_rfl⟩⟩
theorem mlS_ne {A : Img} (h : A ≠ []) : mlS A = .sl 13 0 65 A.length none := by
  cases A with
  | nil => exact absurd rfl h
  | cons a r => rfl
theorem plays_row (al : List ActV) (R0 : List (Nat × Obj)) (n at_ : Int) (pks : ActV → List Int) (hR : ∀ x ∈ al, PkOk R0 x.p (pks x)) (hpb : ∀ x ∈ al, (pks x).length ≤ 2 ^ 47 - 4096) (h60 : al.length ≤ 60) (h1 : 1 ≤ n) (h2 : n ≤ 65536) :
    FunT Try.prog 7 [iv n, .sc (Ar.row.sv al.length 0), iv at_] [arB .row al, some (famB R0)] (bv true) [none, none] := by
  have gZ := awake_ok
  have gN := new_ok n h1 h2
  have gM := made_ok n
  refine FunT.ev tabOk mixed Try.func7 rfl ?_
  conv => whnf
  repeat (first | (refine ⟨(by kernel_rfl : chkR _ _ _ _ = true), ?_⟩; conv => whnf) | (refine EvOr.go ?_; conv => whnf))
  intro c hc
  obtain rfl : c = false := by rw [hc]; exact decide_eq_false (by omega)
  conv => whnf
  repeat (first | (refine ⟨(by kernel_rfl : chkR _ _ _ _ = true), ?_⟩; conv => whnf) | (refine EvOr.go ?_; conv => whnf))
  refine CallG.use gN c27 [] [] ?_ ?_ ?_ ?_ ?_ ?_; rfl; rfl; kernel_rfl; rfl; rfl
  conv => whnf
  repeat (first | (refine ⟨(by kernel_rfl : chkR _ _ _ _ = true), ?_⟩; conv => whnf) | (refine EvOr.go ?_; conv => whnf))
  intro c hc
  obtain rfl : c = false := by rw [hc]; exact decide_eq_false (by omega)
  conv => whnf
  repeat (first | (refine ⟨(by kernel_rfl : chkR _ _ _ _ = true), ?_⟩; conv => whnf) | (refine EvOr.go ?_; conv => whnf))
  intro c hc
  obtain rfl : c = false := by rw [hc]; exact decide_eq_false (by omega)
  conv => whnf
  repeat (first | (refine ⟨(by kernel_rfl : chkR _ _ _ _ = true), ?_⟩; conv => whnf) | (refine EvOr.go ?_; conv => whnf))
  intro c hc
  obtain rfl : c = false := by rw [hc]; rfl
  conv => whnf
  repeat (first | (refine ⟨(by kernel_rfl : chkR _ _ _ _ = true), ?_⟩; conv => whnf) | (refine EvOr.go ?_; conv => whnf))
  refine CallG.use gM c40 [] [] ?_ ?_ ?_ ?_ ?_ ?_; rfl; rfl; kernel_rfl; rfl; rfl
  conv => whnf
  repeat (first | (refine ⟨(by kernel_rfl : chkR _ _ _ _ = true), ?_⟩; conv => whnf) | (refine EvOr.go ?_; conv => whnf))
  refine CodeT.loopFE tabOk mixed (plI al R0 n at_) (fun x => al.length - x.1.k) (SeenF.of (l0 := plT al at_ 0) (h0 := pl0H al R0 n) (sL [0, 1, 2, 3, 4, 5, 6, 7]) (StW.ofP [0, 1, 2, 3, 4, 5, 6, 7] ?_ ?_ ?_) rfl (pl_0 al R0 n at_ (by omega))) ?_ (fun _ => rfl) ?_
  · kernel_rfl
  · rfl
  · rfl
  · intro x i b hi hb hw
    match i, hi, hb with
    | 0, _, hb => exact hb
    | 1, _, hb => exact hb
  intro ⟨⟨M, lg, D, d, l, B, V, MS, MA, R, k⟩, ⟨hst, hmk, hk, hn, hRR, hlg⟩⟩
  replace hst : St M lg D d l R k := hst
  replace hmk : Mrk R B V MS MA k := hmk
  replace hk : k ≤ al.length := hk
  replace hn : M.n = n := hn
  replace hRR : ∀ y ∈ R0, y ∈ R := hRR
  replace hlg : lg = .nil ∨ ∃ J, lg = .inx J := hlg
  show evC Try.prog tab _ _ (plT al at_ k) (plG al R0 M lg (mkO B) (.raw d.v) (.raw l.v) R (mBo B) (vBo V)) _
  have hlv := hmk.lv
  by_cases hka : k < al.length
  · generalize hQ : loopFQ _ _ _ _ _ _ = Qp
    have hQn : ∀ l' h', SeenF 2 (plI al R0 n at_) (fun x' => al.length - x'.1.k < al.length - k) l' h' → Qp .normal l' h' := by
      rw [← hQ]; exact fun l' h' h => h
    clear hQ
    have hg := act_get hka
    have hdo := do_any hst hmk al[k] (pks al[k]) (hR _ (List.getElem_mem _)) (hpb _ (List.getElem_mem _))
    obtain ⟨ad, nn, cp, hp⟩ := pk_sl (hR _ (List.getElem_mem hka))
    generalize al[k] = a at *
    obtain ⟨aD, aI, aS, aP, aO⟩ := a
    replace hp : aP = .slice ad nn cp := hp
    subst hp
    have hlx : lg ≠ .ex := by rcases hlg with rfl | ⟨J, rfl⟩ <;> (intro h; cases h)
    rcases hdo with ⟨M', lg', D', dh, lh, hA, hF⟩ | hB
    · have hend := SeenF.imp (pl_A al R0 n at_ (hA := ⟨hA.ex, hA.ok, hA.rel, hA.hd, hA.hl, hA.n.trans hn⟩) hmk hRR hka h60 (by
        have := hA.ex hlx
        cases lg' with
        | nil => exact .inl rfl
        | ex => exact absurd rfl this
        | inx J => exact .inr ⟨J, rfl⟩)) (q := fun x' => al.length - x'.1.k < al.length - k) (fun x' hx' => by omega)
      have gL := fun i => looks_ok M' lg' (mkO B) D' dh lh R i hA.ok hA.rel.n hA.hd hA.hl (by have := hA.rel.len; have := hst.lt; omega) (by have := hA.rel.len; have := hst.lt; omega) (by rw [seen_app]; exact hA.rel.seen.2 i) (hA.rel.dur.2 i)
      have hlx' := hA.ex hlx
      clear hA gN gM gZ hst hmk
      unfold doF at hF
      rcases mk_cases hlv with ⟨rfl, rfl⟩ | ⟨hp, e1, e2, e3⟩
      · rcases hlg with rfl | ⟨J, rfl⟩ <;> cases lg' <;> first | exact absurd rfl hlx' | skip
        all_goals cases dh <;> cases lh
        all_goals
          conv => whnf
          repeat (first | (refine ⟨(by kernel_rfl : chkR _ _ _ _ = true), ?_⟩; conv => whnf) | (refine EvOr.go ?_; conv => whnf))
          intro c hc
          obtain rfl : c = true := by rw [hc]; exact decide_eq_true (by omega)
          conv => whnf
          repeat (first | (refine ⟨(by kernel_rfl : chkR _ _ _ _ = true), ?_⟩; conv => whnf) | (refine EvOr.go ?_; conv => whnf))
          refine ⟨⟨by omega, by omega⟩, ?_⟩
          conv => whnf
          repeat (first | (refine ⟨(by kernel_rfl : chkR _ _ _ _ = true), ?_⟩; conv => whnf) | (refine EvOr.go ?_; conv => whnf))
          refine ⟨_, hg, ?_⟩
          conv => whnf
          repeat (first | (refine ⟨(by kernel_rfl : chkR _ _ _ _ = true), ?_⟩; conv => whnf) | (refine EvOr.go ?_; conv => whnf))
          refine CallG.use hF c41 [2, 3, 4, 5, 6, 7, 8, 9, 10, 11, 1] [0, 1, 2, 3, 5] ?_ ?_ ?_ ?_ ?_ ?_; rfl; rfl; kernel_rfl; rfl; rfl
          conv => whnf
          repeat (first | (refine ⟨(by kernel_rfl : chkR _ _ _ _ = true), ?_⟩; conv => whnf) | (refine EvOr.go ?_; conv => whnf))
          refine ⟨⟨by omega, by omega⟩, ?_⟩
          conv => whnf
          repeat (first | (refine ⟨(by kernel_rfl : chkR _ _ _ _ = true), ?_⟩; conv => whnf) | (refine EvOr.go ?_; conv => whnf))
          refine ⟨_, hg, ?_⟩
          conv => whnf
          repeat (first | (refine ⟨(by kernel_rfl : chkR _ _ _ _ = true), ?_⟩; conv => whnf) | (refine EvOr.go ?_; conv => whnf))
          refine CallG.use (gL aI) c42 [2, 12, 13, 14, 6, 7, 8, 9, 10, 11, 15, 16] [] ?_ ?_ ?_ ?_ ?_ ?_; rfl; rfl; kernel_rfl; rfl; rfl
          conv => whnf
          repeat (first | (refine ⟨(by kernel_rfl : chkR _ _ _ _ = true), ?_⟩; conv => whnf) | (refine EvOr.go ?_; conv => whnf))
          refine CallG.use (gL at_) c42 [2, 12, 13, 14, 6, 7, 8, 9, 10, 11, 15, 16] [] ?_ ?_ ?_ ?_ ?_ ?_; rfl; rfl; kernel_rfl; rfl; rfl
          conv => whnf
          repeat (first | (refine ⟨(by kernel_rfl : chkR _ _ _ _ = true), ?_⟩; conv => whnf) | (refine EvOr.go ?_; conv => whnf))
          refine CallG.use (gL 0) c42 [2, 12, 13, 14, 6, 7, 8, 9, 10, 11, 15, 16] [] ?_ ?_ ?_ ?_ ?_ ?_; rfl; rfl; kernel_rfl; rfl; rfl
          conv => whnf
          repeat (first | (refine ⟨(by kernel_rfl : chkR _ _ _ _ = true), ?_⟩; conv => whnf) | (refine EvOr.go ?_; conv => whnf))
          refine CallG.use (gL 1) c42 [2, 12, 13, 14, 6, 7, 8, 9, 10, 11, 15, 16] [] ?_ ?_ ?_ ?_ ?_ ?_; rfl; rfl; kernel_rfl; rfl; rfl
          conv => whnf
          repeat (first | (refine ⟨(by kernel_rfl : chkR _ _ _ _ = true), ?_⟩; conv => whnf) | (refine EvOr.go ?_; conv => whnf))
          refine ⟨_, inc_nat (by omega), ?_⟩
          conv => whnf
          repeat (first | (refine ⟨(by kernel_rfl : chkR _ _ _ _ = true), ?_⟩; conv => whnf) | (refine EvOr.go ?_; conv => whnf))
          refine hQn _ _ (SeenF.of (sL [0, 1, 2, 12, 13, 14, 6, 7, 8, 9, 10, 11, 15, 16]) (StW.ofP [0, 1, 2, 12, 13, 14, 6, 7, 8, 9, 10, 11, 15, 16] ?_ ?_ ?_) ?_ hend)
          · kernel_rfl
          · rfl
          · rfl
          · rfl
      · simp only [e1, e2, e3] at hF gL hend ⊢
        rcases hlg with rfl | ⟨J, rfl⟩ <;> cases lg' <;> first | exact absurd rfl hlx' | skip
        all_goals cases dh <;> cases lh
        all_goals
          conv => whnf
          repeat (first | (refine ⟨(by kernel_rfl : chkR _ _ _ _ = true), ?_⟩; conv => whnf) | (refine EvOr.go ?_; conv => whnf))
          intro c hc
          obtain rfl : c = true := by rw [hc]; exact decide_eq_true (by omega)
          conv => whnf
          repeat (first | (refine ⟨(by kernel_rfl : chkR _ _ _ _ = true), ?_⟩; conv => whnf) | (refine EvOr.go ?_; conv => whnf))
          refine ⟨⟨by omega, by omega⟩, ?_⟩
          conv => whnf
          repeat (first | (refine ⟨(by kernel_rfl : chkR _ _ _ _ = true), ?_⟩; conv => whnf) | (refine EvOr.go ?_; conv => whnf))
          refine ⟨_, hg, ?_⟩
          conv => whnf
          repeat (first | (refine ⟨(by kernel_rfl : chkR _ _ _ _ = true), ?_⟩; conv => whnf) | (refine EvOr.go ?_; conv => whnf))
          refine CallG.use hF c41 [2, 3, 4, 5, 6, 7, 8, 9, 10, 11, 1] [0, 1, 2, 3, 5] ?_ ?_ ?_ ?_ ?_ ?_; rfl; rfl; kernel_rfl; rfl; rfl
          conv => whnf
          repeat (first | (refine ⟨(by kernel_rfl : chkR _ _ _ _ = true), ?_⟩; conv => whnf) | (refine EvOr.go ?_; conv => whnf))
          refine ⟨⟨by omega, by omega⟩, ?_⟩
          conv => whnf
          repeat (first | (refine ⟨(by kernel_rfl : chkR _ _ _ _ = true), ?_⟩; conv => whnf) | (refine EvOr.go ?_; conv => whnf))
          refine ⟨_, hg, ?_⟩
          conv => whnf
          repeat (first | (refine ⟨(by kernel_rfl : chkR _ _ _ _ = true), ?_⟩; conv => whnf) | (refine EvOr.go ?_; conv => whnf))
          refine CallG.use (gL aI) c42 [2, 12, 13, 14, 6, 7, 8, 9, 10, 11, 15, 16] [] ?_ ?_ ?_ ?_ ?_ ?_; rfl; rfl; kernel_rfl; rfl; rfl
          conv => whnf
          repeat (first | (refine ⟨(by kernel_rfl : chkR _ _ _ _ = true), ?_⟩; conv => whnf) | (refine EvOr.go ?_; conv => whnf))
          refine CallG.use (gL at_) c42 [2, 12, 13, 14, 6, 7, 8, 9, 10, 11, 15, 16] [] ?_ ?_ ?_ ?_ ?_ ?_; rfl; rfl; kernel_rfl; rfl; rfl
          conv => whnf
          repeat (first | (refine ⟨(by kernel_rfl : chkR _ _ _ _ = true), ?_⟩; conv => whnf) | (refine EvOr.go ?_; conv => whnf))
          refine CallG.use (gL 0) c42 [2, 12, 13, 14, 6, 7, 8, 9, 10, 11, 15, 16] [] ?_ ?_ ?_ ?_ ?_ ?_; rfl; rfl; kernel_rfl; rfl; rfl
          conv => whnf
          repeat (first | (refine ⟨(by kernel_rfl : chkR _ _ _ _ = true), ?_⟩; conv => whnf) | (refine EvOr.go ?_; conv => whnf))
          refine CallG.use (gL 1) c42 [2, 12, 13, 14, 6, 7, 8, 9, 10, 11, 15, 16] [] ?_ ?_ ?_ ?_ ?_ ?_; rfl; rfl; kernel_rfl; rfl; rfl
          conv => whnf
          repeat (first | (refine ⟨(by kernel_rfl : chkR _ _ _ _ = true), ?_⟩; conv => whnf) | (refine EvOr.go ?_; conv => whnf))
          refine ⟨_, inc_nat (by omega), ?_⟩
          conv => whnf
          repeat (first | (refine ⟨(by kernel_rfl : chkR _ _ _ _ = true), ?_⟩; conv => whnf) | (refine EvOr.go ?_; conv => whnf))
          refine hQn _ _ (SeenF.of (sL [0, 1, 2, 12, 13, 14, 6, 7, 8, 9, 10, 11, 15, 16]) (StW.ofP [0, 1, 2, 12, 13, 14, 6, 7, 8, 9, 10, 11, 15, 16] ?_ ?_ ?_) ?_ hend)
          · kernel_rfl
          · rfl
          · rfl
          · rfl
    · obtain ⟨h64, hB⟩ := hB
      have hend := SeenF.imp (pl_B al R0 n at_ hst hn hmk h64 hRR hka h60 hlg) (q := fun x' => al.length - x'.1.k < al.length - k) (fun x' hx' => by omega)
      have gL := fun i => looks_ok M lg (.row (B.length + 1)) D (some d) (some l) R i hst.ok hst.rel.n hst.rd hst.rl (by have := hst.rel.len; have := hst.lt; omega) (by have := hst.rel.len; have := hst.lt; omega) (by rw [seen_app]; exact hst.rel.seen.2 i) (hst.rel.dur.2 i)
      clear gN gM gZ hst hmk
      unfold doF at hB
      rcases hB with ⟨h0, hF⟩ | ⟨h0, hF⟩
      · obtain ⟨q1, q2⟩ := jrow_ne 13 h0
        have q3 := mlS_ne h0
        unfold vBA at hend
        rw [q2, q3] at hend
        generalize D ++ M.log = A at *
        rcases mk_cases hlv with ⟨rfl, rfl⟩ | ⟨hp, e1, e2, e3⟩
        · rcases hlg with rfl | ⟨J, rfl⟩
          all_goals
            conv => whnf
            repeat (first | (refine ⟨(by kernel_rfl : chkR _ _ _ _ = true), ?_⟩; conv => whnf) | (refine EvOr.go ?_; conv => whnf))
            intro c hc
            obtain rfl : c = true := by rw [hc]; exact decide_eq_true (by omega)
            conv => whnf
            repeat (first | (refine ⟨(by kernel_rfl : chkR _ _ _ _ = true), ?_⟩; conv => whnf) | (refine EvOr.go ?_; conv => whnf))
            refine ⟨⟨by omega, by omega⟩, ?_⟩
            conv => whnf
            repeat (first | (refine ⟨(by kernel_rfl : chkR _ _ _ _ = true), ?_⟩; conv => whnf) | (refine EvOr.go ?_; conv => whnf))
            refine ⟨_, hg, ?_⟩
            conv => whnf
            repeat (first | (refine ⟨(by kernel_rfl : chkR _ _ _ _ = true), ?_⟩; conv => whnf) | (refine EvOr.go ?_; conv => whnf))
            refine CallG.use hF c41 [2, 3, 4, 5, 6, 7, 8, 9, 10, 11, 1] [0, 4, 5, 9] ?_ ?_ ?_ ?_ ?_ ?_; rfl; rfl; kernel_rfl; rfl; rfl
            conv => whnf
            repeat (first | (refine ⟨(by kernel_rfl : chkR _ _ _ _ = true), ?_⟩; conv => whnf) | (refine EvOr.go ?_; conv => whnf))
            refine ⟨⟨by omega, by omega⟩, ?_⟩
            conv => whnf
            repeat (first | (refine ⟨(by kernel_rfl : chkR _ _ _ _ = true), ?_⟩; conv => whnf) | (refine EvOr.go ?_; conv => whnf))
            refine ⟨_, hg, ?_⟩
            conv => whnf
            repeat (first | (refine ⟨(by kernel_rfl : chkR _ _ _ _ = true), ?_⟩; conv => whnf) | (refine EvOr.go ?_; conv => whnf))
            refine CallG.use (gL aI) c42 [2, 3, 4, 5, 12, 7, 8, 9, 10, 13, 6, 11] [] ?_ ?_ ?_ ?_ ?_ ?_; rfl; rfl; kernel_rfl; rfl; rfl
            conv => whnf
            repeat (first | (refine ⟨(by kernel_rfl : chkR _ _ _ _ = true), ?_⟩; conv => whnf) | (refine EvOr.go ?_; conv => whnf))
            refine CallG.use (gL at_) c42 [2, 3, 4, 5, 12, 7, 8, 9, 10, 13, 6, 11] [] ?_ ?_ ?_ ?_ ?_ ?_; rfl; rfl; kernel_rfl; rfl; rfl
            conv => whnf
            repeat (first | (refine ⟨(by kernel_rfl : chkR _ _ _ _ = true), ?_⟩; conv => whnf) | (refine EvOr.go ?_; conv => whnf))
            refine CallG.use (gL 0) c42 [2, 3, 4, 5, 12, 7, 8, 9, 10, 13, 6, 11] [] ?_ ?_ ?_ ?_ ?_ ?_; rfl; rfl; kernel_rfl; rfl; rfl
            conv => whnf
            repeat (first | (refine ⟨(by kernel_rfl : chkR _ _ _ _ = true), ?_⟩; conv => whnf) | (refine EvOr.go ?_; conv => whnf))
            refine CallG.use (gL 1) c42 [2, 3, 4, 5, 12, 7, 8, 9, 10, 13, 6, 11] [] ?_ ?_ ?_ ?_ ?_ ?_; rfl; rfl; kernel_rfl; rfl; rfl
            conv => whnf
            repeat (first | (refine ⟨(by kernel_rfl : chkR _ _ _ _ = true), ?_⟩; conv => whnf) | (refine EvOr.go ?_; conv => whnf))
            refine ⟨_, inc_nat (by omega), ?_⟩
            conv => whnf
            repeat (first | (refine ⟨(by kernel_rfl : chkR _ _ _ _ = true), ?_⟩; conv => whnf) | (refine EvOr.go ?_; conv => whnf))
            refine hQn _ _ (SeenF.of (sL [0, 1, 2, 3, 4, 5, 12, 7, 8, 9, 10, 13, 14, 15]) (StW.ofP [0, 1, 2, 3, 4, 5, 12, 7, 8, 9, 10, 13, 14, 15] ?_ ?_ ?_) ?_ hend)
            · kernel_rfl
            · rfl
            · rfl
            · rfl
        · have hw1 : ABlk.wfB (.row .inx 73 1 (B.map mapE ++ [[.one (.mp 12)]]) [12]) = true := by
            simp only [ABlk.wfB, List.all_append, List.all_map, Bool.and_eq_true]
            exact ⟨List.all_eq_true.2 fun x hx => rfl, rfl⟩
          have hw2 : ABlk.wfB (.row .inx 130 1 (V.map rawK ++ [[.one (.sl 13 0 65 A.length none)]]) [13]) = true := by
            simp only [ABlk.wfB, List.all_append, List.all_map, Bool.and_eq_true]
            exact ⟨List.all_eq_true.2 fun x hx => rfl, rfl⟩
          have eR : ∀ π : Nat → Nat, (V.map rawK).map (Segs.ren π) = V.map rawK := fun π => by rw [List.map_map]; rfl
          have eM : ∀ π : Nat → Nat, (B.map mapE).map (Segs.ren π) = B.map mapE := fun π => by rw [List.map_map]; rfl
          simp only [e1, e2, e3] at hF ⊢
          rcases hlg with rfl | ⟨J, rfl⟩
          all_goals
            conv => whnf
            repeat (first | (refine ⟨(by kernel_rfl : chkR _ _ _ _ = true), ?_⟩; conv => whnf) | (refine EvOr.go ?_; conv => whnf))
            intro c hc
            obtain rfl : c = true := by rw [hc]; exact decide_eq_true (by omega)
            conv => whnf
            repeat (first | (refine ⟨(by kernel_rfl : chkR _ _ _ _ = true), ?_⟩; conv => whnf) | (refine EvOr.go ?_; conv => whnf))
            refine ⟨⟨by omega, by omega⟩, ?_⟩
            conv => whnf
            repeat (first | (refine ⟨(by kernel_rfl : chkR _ _ _ _ = true), ?_⟩; conv => whnf) | (refine EvOr.go ?_; conv => whnf))
            refine ⟨_, hg, ?_⟩
            conv => whnf
            repeat (first | (refine ⟨(by kernel_rfl : chkR _ _ _ _ = true), ?_⟩; conv => whnf) | (refine EvOr.go ?_; conv => whnf))
            refine CallG.use hF c41 [2, 3, 4, 5, 6, 7, 8, 9, 10, 11, 1] [0, 4, 5, 9] ?_ ?_ ?_ ?_ ?_ ?_; rfl; rfl; kernel_rfl; rfl; rfl
            conv => whnf
            repeat (first | (refine ⟨(by kernel_rfl : chkR _ _ _ _ = true), ?_⟩; conv => whnf) | (refine EvOr.go ?_; conv => whnf))
            refine ⟨⟨by omega, by omega⟩, ?_⟩
            conv => whnf
            repeat (first | (refine ⟨(by kernel_rfl : chkR _ _ _ _ = true), ?_⟩; conv => whnf) | (refine EvOr.go ?_; conv => whnf))
            refine ⟨_, hg, ?_⟩
            conv => whnf
            repeat (first | (refine ⟨(by kernel_rfl : chkR _ _ _ _ = true), ?_⟩; conv => whnf) | (refine EvOr.go ?_; conv => whnf))
            refine CallG.use (gL aI) c42 [2, 3, 4, 5, 12, 7, 8, 9, 10, 13, 6, 11] [] ?_ ?_ ?_ ?_ ?_ ?_; rfl; rfl; kernel_rfl; rfl; rfl
            conv => whnf
            repeat (first | (refine ⟨(by kernel_rfl : chkR _ _ _ _ = true), ?_⟩; conv => whnf) | (refine EvOr.go ?_; conv => whnf))
            refine CallG.use (gL at_) c42 [2, 3, 4, 5, 12, 7, 8, 9, 10, 13, 6, 11] [] ?_ ?_ ?_ ?_ ?_ ?_; rfl; rfl; kernel_rfl; rfl; rfl
            conv => whnf
            repeat (first | (refine ⟨(by kernel_rfl : chkR _ _ _ _ = true), ?_⟩; conv => whnf) | (refine EvOr.go ?_; conv => whnf))
            refine CallG.use (gL 0) c42 [2, 3, 4, 5, 12, 7, 8, 9, 10, 13, 6, 11] [] ?_ ?_ ?_ ?_ ?_ ?_; rfl; rfl; kernel_rfl; rfl; rfl
            conv => whnf
            repeat (first | (refine ⟨(by kernel_rfl : chkR _ _ _ _ = true), ?_⟩; conv => whnf) | (refine EvOr.go ?_; conv => whnf))
            refine CallG.use (gL 1) c42 [2, 3, 4, 5, 12, 7, 8, 9, 10, 13, 6, 11] [] ?_ ?_ ?_ ?_ ?_ ?_; rfl; rfl; kernel_rfl; rfl; rfl
            conv => whnf
            repeat (first | (refine ⟨(by kernel_rfl : chkR _ _ _ _ = true), ?_⟩; conv => whnf) | (refine EvOr.go ?_; conv => whnf))
            refine ⟨_, inc_nat (by omega), ?_⟩
            conv => whnf
            repeat (first | (refine ⟨(by kernel_rfl : chkR _ _ _ _ = true), ?_⟩; conv => whnf) | (refine EvOr.go ?_; conv => whnf))
            refine hQn _ _ (SeenF.of (sL [0, 1, 2, 3, 4, 5, 12, 7, 8, 9, 10, 13, 14, 15]) (StW.ofP2 [0, 1, 2, 3, 4, 5, 12, 7, 8, 9, 10, 13, 14, 15] rfl ?_ rfl ?_ ?_) ?_ hend)
            · unfold wfH
              simp only [List.all_cons, List.all_nil, hw1, SV.ids, hw2, Bool.and_true]
              rfl
            · rfl
            · show pickH _ _ 0 _ = renH _ _
              simp only [renH, ABlk.ren, List.map_append, eR, eM, arB, mB1, SV.ids, refS, rowN, imB, logB]
              rfl
            · rfl
      · rw [h0] at hend
        rcases mk_cases hlv with ⟨rfl, rfl⟩ | ⟨hp, e1, e2, e3⟩
        · rcases hlg with rfl | ⟨J, rfl⟩
          all_goals
            conv => whnf
            repeat (first | (refine ⟨(by kernel_rfl : chkR _ _ _ _ = true), ?_⟩; conv => whnf) | (refine EvOr.go ?_; conv => whnf))
            intro c hc
            obtain rfl : c = true := by rw [hc]; exact decide_eq_true (by omega)
            conv => whnf
            repeat (first | (refine ⟨(by kernel_rfl : chkR _ _ _ _ = true), ?_⟩; conv => whnf) | (refine EvOr.go ?_; conv => whnf))
            refine ⟨⟨by omega, by omega⟩, ?_⟩
            conv => whnf
            repeat (first | (refine ⟨(by kernel_rfl : chkR _ _ _ _ = true), ?_⟩; conv => whnf) | (refine EvOr.go ?_; conv => whnf))
            refine ⟨_, hg, ?_⟩
            conv => whnf
            repeat (first | (refine ⟨(by kernel_rfl : chkR _ _ _ _ = true), ?_⟩; conv => whnf) | (refine EvOr.go ?_; conv => whnf))
            refine CallG.use hF c41 [2, 3, 4, 5, 6, 7, 8, 9, 10, 11, 1] [0, 4, 5, 9] ?_ ?_ ?_ ?_ ?_ ?_; rfl; rfl; kernel_rfl; rfl; rfl
            conv => whnf
            repeat (first | (refine ⟨(by kernel_rfl : chkR _ _ _ _ = true), ?_⟩; conv => whnf) | (refine EvOr.go ?_; conv => whnf))
            refine ⟨⟨by omega, by omega⟩, ?_⟩
            conv => whnf
            repeat (first | (refine ⟨(by kernel_rfl : chkR _ _ _ _ = true), ?_⟩; conv => whnf) | (refine EvOr.go ?_; conv => whnf))
            refine ⟨_, hg, ?_⟩
            conv => whnf
            repeat (first | (refine ⟨(by kernel_rfl : chkR _ _ _ _ = true), ?_⟩; conv => whnf) | (refine EvOr.go ?_; conv => whnf))
            refine CallG.use (gL aI) c42 [2, 3, 4, 5, 12, 7, 8, 9, 10, 13, 6, 11] [] ?_ ?_ ?_ ?_ ?_ ?_; rfl; rfl; kernel_rfl; rfl; rfl
            conv => whnf
            repeat (first | (refine ⟨(by kernel_rfl : chkR _ _ _ _ = true), ?_⟩; conv => whnf) | (refine EvOr.go ?_; conv => whnf))
            refine CallG.use (gL at_) c42 [2, 3, 4, 5, 12, 7, 8, 9, 10, 13, 6, 11] [] ?_ ?_ ?_ ?_ ?_ ?_; rfl; rfl; kernel_rfl; rfl; rfl
            conv => whnf
            repeat (first | (refine ⟨(by kernel_rfl : chkR _ _ _ _ = true), ?_⟩; conv => whnf) | (refine EvOr.go ?_; conv => whnf))
            refine CallG.use (gL 0) c42 [2, 3, 4, 5, 12, 7, 8, 9, 10, 13, 6, 11] [] ?_ ?_ ?_ ?_ ?_ ?_; rfl; rfl; kernel_rfl; rfl; rfl
            conv => whnf
            repeat (first | (refine ⟨(by kernel_rfl : chkR _ _ _ _ = true), ?_⟩; conv => whnf) | (refine EvOr.go ?_; conv => whnf))
            refine CallG.use (gL 1) c42 [2, 3, 4, 5, 12, 7, 8, 9, 10, 13, 6, 11] [] ?_ ?_ ?_ ?_ ?_ ?_; rfl; rfl; kernel_rfl; rfl; rfl
            conv => whnf
            repeat (first | (refine ⟨(by kernel_rfl : chkR _ _ _ _ = true), ?_⟩; conv => whnf) | (refine EvOr.go ?_; conv => whnf))
            refine ⟨_, inc_nat (by omega), ?_⟩
            conv => whnf
            repeat (first | (refine ⟨(by kernel_rfl : chkR _ _ _ _ = true), ?_⟩; conv => whnf) | (refine EvOr.go ?_; conv => whnf))
            refine hQn _ _ (SeenF.of (sL [0, 1, 2, 3, 4, 5, 12, 7, 8, 9, 10, 13, 14, 15]) (StW.ofP [0, 1, 2, 3, 4, 5, 12, 7, 8, 9, 10, 13, 14, 15] ?_ ?_ ?_) ?_ hend)
            · kernel_rfl
            · rfl
            · rfl
            · rfl
        · have hw1 : ABlk.wfB (.row .inx 73 1 (B.map mapE ++ [[.one (.mp 12)]]) [12]) = true := by
            simp only [ABlk.wfB, List.all_append, List.all_map, Bool.and_eq_true]
            exact ⟨List.all_eq_true.2 fun x hx => rfl, rfl⟩
          have eM : ∀ π : Nat → Nat, (B.map mapE).map (Segs.ren π) = B.map mapE := fun π => by rw [List.map_map]; rfl
          simp only [e1, e2, e3] at hF ⊢
          rcases hlg with rfl | ⟨J, rfl⟩
          all_goals
            conv => whnf
            repeat (first | (refine ⟨(by kernel_rfl : chkR _ _ _ _ = true), ?_⟩; conv => whnf) | (refine EvOr.go ?_; conv => whnf))
            intro c hc
            obtain rfl : c = true := by rw [hc]; exact decide_eq_true (by omega)
            conv => whnf
            repeat (first | (refine ⟨(by kernel_rfl : chkR _ _ _ _ = true), ?_⟩; conv => whnf) | (refine EvOr.go ?_; conv => whnf))
            refine ⟨⟨by omega, by omega⟩, ?_⟩
            conv => whnf
            repeat (first | (refine ⟨(by kernel_rfl : chkR _ _ _ _ = true), ?_⟩; conv => whnf) | (refine EvOr.go ?_; conv => whnf))
            refine ⟨_, hg, ?_⟩
            conv => whnf
            repeat (first | (refine ⟨(by kernel_rfl : chkR _ _ _ _ = true), ?_⟩; conv => whnf) | (refine EvOr.go ?_; conv => whnf))
            refine CallG.use hF c41 [2, 3, 4, 5, 6, 7, 8, 9, 10, 11, 1] [0, 4, 5, 9] ?_ ?_ ?_ ?_ ?_ ?_; rfl; rfl; kernel_rfl; rfl; rfl
            conv => whnf
            repeat (first | (refine ⟨(by kernel_rfl : chkR _ _ _ _ = true), ?_⟩; conv => whnf) | (refine EvOr.go ?_; conv => whnf))
            refine ⟨⟨by omega, by omega⟩, ?_⟩
            conv => whnf
            repeat (first | (refine ⟨(by kernel_rfl : chkR _ _ _ _ = true), ?_⟩; conv => whnf) | (refine EvOr.go ?_; conv => whnf))
            refine ⟨_, hg, ?_⟩
            conv => whnf
            repeat (first | (refine ⟨(by kernel_rfl : chkR _ _ _ _ = true), ?_⟩; conv => whnf) | (refine EvOr.go ?_; conv => whnf))
            refine CallG.use (gL aI) c42 [2, 3, 4, 5, 12, 7, 8, 9, 10, 13, 6, 11] [] ?_ ?_ ?_ ?_ ?_ ?_; rfl; rfl; kernel_rfl; rfl; rfl
            conv => whnf
            repeat (first | (refine ⟨(by kernel_rfl : chkR _ _ _ _ = true), ?_⟩; conv => whnf) | (refine EvOr.go ?_; conv => whnf))
            refine CallG.use (gL at_) c42 [2, 3, 4, 5, 12, 7, 8, 9, 10, 13, 6, 11] [] ?_ ?_ ?_ ?_ ?_ ?_; rfl; rfl; kernel_rfl; rfl; rfl
            conv => whnf
            repeat (first | (refine ⟨(by kernel_rfl : chkR _ _ _ _ = true), ?_⟩; conv => whnf) | (refine EvOr.go ?_; conv => whnf))
            refine CallG.use (gL 0) c42 [2, 3, 4, 5, 12, 7, 8, 9, 10, 13, 6, 11] [] ?_ ?_ ?_ ?_ ?_ ?_; rfl; rfl; kernel_rfl; rfl; rfl
            conv => whnf
            repeat (first | (refine ⟨(by kernel_rfl : chkR _ _ _ _ = true), ?_⟩; conv => whnf) | (refine EvOr.go ?_; conv => whnf))
            refine CallG.use (gL 1) c42 [2, 3, 4, 5, 12, 7, 8, 9, 10, 13, 6, 11] [] ?_ ?_ ?_ ?_ ?_ ?_; rfl; rfl; kernel_rfl; rfl; rfl
            conv => whnf
            repeat (first | (refine ⟨(by kernel_rfl : chkR _ _ _ _ = true), ?_⟩; conv => whnf) | (refine EvOr.go ?_; conv => whnf))
            refine ⟨_, inc_nat (by omega), ?_⟩
            conv => whnf
            repeat (first | (refine ⟨(by kernel_rfl : chkR _ _ _ _ = true), ?_⟩; conv => whnf) | (refine EvOr.go ?_; conv => whnf))
            refine hQn _ _ (SeenF.of (sL [0, 1, 2, 3, 4, 5, 12, 7, 8, 9, 10, 13, 14, 15]) (StW.ofP2 [0, 1, 2, 3, 4, 5, 12, 7, 8, 9, 10, 13, 14, 15] rfl ?_ rfl ?_ ?_) ?_ hend)
            · unfold wfH
              simp only [List.all_cons, List.all_nil, hw1, Bool.and_true]
              rfl
            · rfl
            · show pickH _ _ 0 _ = renH _ _
              simp only [renH, ABlk.ren, List.map_append, eM, arB, mB1, vBA, mlS, jB, SV.ids, refS, rowN, imB, logB]
              rfl
            · rfl
  · obtain rfl : k = al.length := by omega
    cases lg <;> cases B <;> cases V <;>
    · conv => whnf
      repeat (first | (refine ⟨(by kernel_rfl : chkR _ _ _ _ = true), ?_⟩; conv => whnf) | (refine EvOr.go ?_; conv => whnf))
      intro c hc
      obtain rfl : c = false := by rw [hc]; exact decide_eq_false (by omega)
      conv => whnf
      repeat (first | (refine ⟨(by kernel_rfl : chkR _ _ _ _ = true), ?_⟩; conv => whnf) | (refine EvOr.go ?_; conv => whnf))
      refine ⟨[none, none, none, none, none, none, none, none, none, none, none, none], ?_, Thaw.none (n := 2) 12 (by decide)⟩
      conv => whnf
      repeat (first | (refine ⟨(by kernel_rfl : chkR _ _ _ _ = true), ?_⟩; conv => whnf) | (refine EvOr.go ?_; conv => whnf))
      refine CallG.use gZ c26 [] [] ?_ ?_ ?_ ?_ ?_ ?_; rfl; rfl; kernel_rfl; rfl; rfl
      conv => whnf
      repeat (first | (refine ⟨(by kernel_rfl : chkR _ _ _ _ = true), ?_⟩; conv => whnf) | (refine EvOr.go ?_; conv => whnf))
      exact retQ.oneS [0, 1] rfl (by first | exact .inr rfl | exact .inl rfl) rfl (by kernel_rfl) (by first | rfl | kernel_rfl)
end Go.Proofs.Ytdmcbfmpnakdfaa.Eng.Rm
/- MemberPlays, any arguments. -/
namespace Go.Proofs.Ytdmcbfmpnakdfaa.Eng.Rm
open Go Go.Proofs
set_option maxRecDepth 20000
set_option maxHeartbeats 16000000
theorem plays_ok (a : Ar) (al : List ActV) (R0 : List (Nat × Obj)) (n at_ : Int) (pks : ActV → List Int) (ha : a.ok al) (hR : ∀ x ∈ al, PkOk R0 x.p (pks x)) (hpb : ∀ x ∈ al, (pks x).length ≤ 2 ^ 47 - 4096) :
    FunT Try.prog 7 [iv n, .sc (a.sv al.length 0), iv at_] [arB a al, famO a R0] (bv true) [none, none] := by
  have gZ := awake_ok
  by_cases h60 : al.length ≤ 60
  · by_cases hn : 1 ≤ n ∧ n ≤ 65536
    · cases a with
      | row => exact plays_row al R0 n at_ pks hR hpb h60 hn.1 hn.2
      | nil =>
        obtain rfl : al = [] := ha
        have gN := new_ok n hn.1 hn.2
        have gM := made_ok n
        refine FunT.ev tabOk mixed Try.func7 rfl ?_
        conv => whnf
        repeat (first | (refine ⟨(by kernel_rfl : chkR _ _ _ _ = true), ?_⟩; conv => whnf) | (refine EvOr.go ?_; conv => whnf))
        intro c hc
        obtain rfl : c = false := by rw [hc]; rfl
        conv => whnf
        repeat (first | (refine ⟨(by kernel_rfl : chkR _ _ _ _ = true), ?_⟩; conv => whnf) | (refine EvOr.go ?_; conv => whnf))
        refine CallG.use gN c27 [] [] ?_ ?_ ?_ ?_ ?_ ?_; rfl; rfl; kernel_rfl; rfl; rfl
        conv => whnf
        repeat (first | (refine ⟨(by kernel_rfl : chkR _ _ _ _ = true), ?_⟩; conv => whnf) | (refine EvOr.go ?_; conv => whnf))
        intro c hc
        obtain rfl : c = false := by rw [hc]; exact decide_eq_false (by omega)
        conv => whnf
        repeat (first | (refine ⟨(by kernel_rfl : chkR _ _ _ _ = true), ?_⟩; conv => whnf) | (refine EvOr.go ?_; conv => whnf))
        intro c hc
        obtain rfl : c = false := by rw [hc]; exact decide_eq_false (by omega)
        conv => whnf
        repeat (first | (refine ⟨(by kernel_rfl : chkR _ _ _ _ = true), ?_⟩; conv => whnf) | (refine EvOr.go ?_; conv => whnf))
        intro c hc
        obtain rfl : c = false := by rw [hc]; rfl
        conv => whnf
        repeat (first | (refine ⟨(by kernel_rfl : chkR _ _ _ _ = true), ?_⟩; conv => whnf) | (refine EvOr.go ?_; conv => whnf))
        refine CallG.use gM c40 [] [] ?_ ?_ ?_ ?_ ?_ ?_; rfl; rfl; kernel_rfl; rfl; rfl
        conv => whnf
        repeat (first | (refine ⟨(by kernel_rfl : chkR _ _ _ _ = true), ?_⟩; conv => whnf) | (refine EvOr.go ?_; conv => whnf))
        refine CodeS.loop0 tabOk mixed (Nat.le_of_ble_eq_true rfl) ?_
        conv => whnf
        repeat (first | (refine ⟨(by kernel_rfl : chkR _ _ _ _ = true), ?_⟩; conv => whnf) | (refine EvOr.go ?_; conv => whnf))
        intro c hc
        obtain rfl : c = false := by rw [hc]; rfl
        conv => whnf
        repeat (first | (refine ⟨(by kernel_rfl : chkR _ _ _ _ = true), ?_⟩; conv => whnf) | (refine EvOr.go ?_; conv => whnf))
        refine CallG.use gZ c26 [] [] ?_ ?_ ?_ ?_ ?_ ?_; rfl; rfl; kernel_rfl; rfl; rfl
        conv => whnf
        repeat (first | (refine ⟨(by kernel_rfl : chkR _ _ _ _ = true), ?_⟩; conv => whnf) | (refine EvOr.go ?_; conv => whnf))
        exact retQ.oneS [0, 1] rfl (by first | exact .inr rfl | exact .inl rfl) rfl (by kernel_rfl) (by first | rfl | kernel_rfl)
    · have gN := newB n hn
      by_cases h1 : n < 1
      · cases a <;>
        · refine FunT.ev tabOk mixed Try.func7 rfl ?_
          conv => whnf
          repeat (first | (refine ⟨(by kernel_rfl : chkR _ _ _ _ = true), ?_⟩; conv => whnf) | (refine EvOr.go ?_; conv => whnf))
          intro c hc
          obtain rfl : c = false := by rw [hc]; first | exact decide_eq_false (by omega) | (rw [show al = [] from ha]; rfl)
          conv => whnf
          repeat (first | (refine ⟨(by kernel_rfl : chkR _ _ _ _ = true), ?_⟩; conv => whnf) | (refine EvOr.go ?_; conv => whnf))
          refine CallG.use gN c27 [] [] ?_ ?_ ?_ ?_ ?_ ?_; rfl; rfl; kernel_rfl; rfl; rfl
          conv => whnf
          repeat (first | (refine ⟨(by kernel_rfl : chkR _ _ _ _ = true), ?_⟩; conv => whnf) | (refine EvOr.go ?_; conv => whnf))
          intro c hc
          obtain rfl : c = true := by rw [hc]; exact decide_eq_true (by omega)
          conv => whnf
          repeat (first | (refine ⟨(by kernel_rfl : chkR _ _ _ _ = true), ?_⟩; conv => whnf) | (refine EvOr.go ?_; conv => whnf))
          intro c hc
          obtain rfl : c = true := by rw [hc]; rfl
          conv => whnf
          repeat (first | (refine ⟨(by kernel_rfl : chkR _ _ _ _ = true), ?_⟩; conv => whnf) | (refine EvOr.go ?_; conv => whnf))
          refine CallG.use gZ c26 [] [] ?_ ?_ ?_ ?_ ?_ ?_; rfl; rfl; kernel_rfl; rfl; rfl
          conv => whnf
          repeat (first | (refine ⟨(by kernel_rfl : chkR _ _ _ _ = true), ?_⟩; conv => whnf) | (refine EvOr.go ?_; conv => whnf))
          exact retQ.oneS [0, 1] rfl (by first | exact .inr rfl | exact .inl rfl) rfl (by kernel_rfl) (by first | rfl | kernel_rfl)
      · cases a <;>
        · refine FunT.ev tabOk mixed Try.func7 rfl ?_
          conv => whnf
          repeat (first | (refine ⟨(by kernel_rfl : chkR _ _ _ _ = true), ?_⟩; conv => whnf) | (refine EvOr.go ?_; conv => whnf))
          intro c hc
          obtain rfl : c = false := by rw [hc]; first | exact decide_eq_false (by omega) | (rw [show al = [] from ha]; rfl)
          conv => whnf
          repeat (first | (refine ⟨(by kernel_rfl : chkR _ _ _ _ = true), ?_⟩; conv => whnf) | (refine EvOr.go ?_; conv => whnf))
          refine CallG.use gN c27 [] [] ?_ ?_ ?_ ?_ ?_ ?_; rfl; rfl; kernel_rfl; rfl; rfl
          conv => whnf
          repeat (first | (refine ⟨(by kernel_rfl : chkR _ _ _ _ = true), ?_⟩; conv => whnf) | (refine EvOr.go ?_; conv => whnf))
          intro c hc
          obtain rfl : c = false := by rw [hc]; exact decide_eq_false (by omega)
          conv => whnf
          repeat (first | (refine ⟨(by kernel_rfl : chkR _ _ _ _ = true), ?_⟩; conv => whnf) | (refine EvOr.go ?_; conv => whnf))
          intro c hc
          obtain rfl : c = true := by rw [hc]; exact decide_eq_true (by omega)
          conv => whnf
          repeat (first | (refine ⟨(by kernel_rfl : chkR _ _ _ _ = true), ?_⟩; conv => whnf) | (refine EvOr.go ?_; conv => whnf))
          intro c hc
          obtain rfl : c = true := by rw [hc]; rfl
          conv => whnf
          repeat (first | (refine ⟨(by kernel_rfl : chkR _ _ _ _ = true), ?_⟩; conv => whnf) | (refine EvOr.go ?_; conv => whnf))
          refine CallG.use gZ c26 [] [] ?_ ?_ ?_ ?_ ?_ ?_; rfl; rfl; kernel_rfl; rfl; rfl
          conv => whnf
          repeat (first | (refine ⟨(by kernel_rfl : chkR _ _ _ _ = true), ?_⟩; conv => whnf) | (refine EvOr.go ?_; conv => whnf))
          exact retQ.oneS [0, 1] rfl (by first | exact .inr rfl | exact .inl rfl) rfl (by kernel_rfl) (by first | rfl | kernel_rfl)
  · cases a with
    | nil => exact absurd (by rw [show al = [] from ha]; exact Nat.zero_le _) h60
    | row =>
      refine FunT.ev tabOk mixed Try.func7 rfl ?_
      conv => whnf
      repeat (first | (refine ⟨(by kernel_rfl : chkR _ _ _ _ = true), ?_⟩; conv => whnf) | (refine EvOr.go ?_; conv => whnf))
      intro c hc
      obtain rfl : c = true := by rw [hc]; exact decide_eq_true (by omega)
      conv => whnf
      repeat (first | (refine ⟨(by kernel_rfl : chkR _ _ _ _ = true), ?_⟩; conv => whnf) | (refine EvOr.go ?_; conv => whnf))
      refine CallG.use gZ c26 [] [] ?_ ?_ ?_ ?_ ?_ ?_; rfl; rfl; kernel_rfl; rfl; rfl
      conv => whnf
      repeat (first | (refine ⟨(by kernel_rfl : chkR _ _ _ _ = true), ?_⟩; conv => whnf) | (refine EvOr.go ?_; conv => whnf))
      exact retQ.oneS [0, 1] rfl (by first | exact .inr rfl | exact .inl rfl) rfl (by kernel_rfl) (by first | rfl | kernel_rfl)
end Go.Proofs.Ytdmcbfmpnakdfaa.Eng.Rm
