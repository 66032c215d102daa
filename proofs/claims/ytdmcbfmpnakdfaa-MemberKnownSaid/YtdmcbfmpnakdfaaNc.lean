/- MemberKnown, walked from its end. -/
import Derived.Test.YtdmcbfmpnakdfaaNb
namespace Go.Proofs.Ytdmcbfmpnakdfaa.Eng
open Go Go.Proofs
set_option maxRecDepth 20000
set_option maxHeartbeats 4000000
abbrev ptv (id : Nat) : AV := .sc (.ptr id 0 7 0)
theorem knoC (M : Mem) (lg : Lg) (hn : 0 < M.n) (hh : M.hurt = false) :
    CodeT Try.prog 0 (suf 22 (bodyC Try.f10)) ([.junk, ptv 0, .junk, .junk, .junk, .junk, iv 10, iv 10, .junk, iv 2, nonV, ptv 5, .junk, iv 1, .junk, iv 1, .junk, iv 1, .junk, iv 2, .junk, .junk, .junk, .junk, .junk, .junk, .junk, .junk, .junk, .junk, .junk, .junk, .junk, .junk, .junk, .junk, .junk, .junk, .junk, .junk, .junk, .junk, .junk, .junk, .junk, .junk, .junk, .junk, .junk, .junk, .junk, .junk, .junk, .junk, .junk, .junk, .junk, .junk, .junk, .junk, .junk, .junk, .junk, .junk, .junk, .junk, .junk, .junk, .junk, .junk, .junk, .junk, .junk, .junk, .junk, .junk, .junk, .junk, .junk, .junk, .junk, .junk, .junk, .junk, .junk, .junk, .junk, .junk, .junk, .junk, .junk, .junk, .junk, .junk, .junk, .junk, .junk, .junk, .junk, .junk, .junk, .junk, .junk, .junk, .junk, .junk, .junk, .junk, .junk, .junk, .junk, .junk, .junk, .junk, .junk, .junk, .junk, .junk, .junk, .junk, .junk, .junk, .junk, .junk, .junk, .junk, .junk, .junk, .junk, .junk, .junk, .junk, .junk, .junk, .junk, .junk, .junk, .junk, .junk, .junk, .junk, .junk, .junk, .junk, .junk, .junk, .junk, .junk, .junk, .junk, .junk, .junk, .junk, .junk, .junk, .junk, .junk, .junk, .junk, .junk, .junk, .junk, .junk, .junk, .junk, .junk, .junk, .junk, .junk, .junk, .junk, .junk, .junk, .junk, .junk, .junk, .junk, .junk, .junk, .junk, .junk, .junk, .junk, .junk, .junk, .junk, .junk, .junk, .junk, .junk, .junk, .junk, .junk, .junk, .junk, .junk, .junk, .junk, .junk, .junk, .junk, .junk, .junk, .junk, .junk, .junk, .junk, .junk, .junk, .junk, .junk, .junk, .junk, .junk, .junk, .junk, .junk, .junk, .junk, .junk, .junk, .junk, .junk, .junk, .junk, .junk, .junk, .junk, .junk, .junk, .junk, .junk, .junk, .junk, .junk, .junk, .junk, .junk, .junk, .junk, .junk, .junk, .junk]) [some (memG M lg (.row 64) 1 2 3 4), none, none, none, none, zeroB] (retQ Try.prog Try.f10 0 (bv true) []) := by
  have gM := mark_full M lg hn
  have gT := touched_ok M lg (.row 64) hn
  rw [hh] at gT
  have gG := full_ok 1
  cases lg <;>
  · refine evC_sound tabOk mixed _ _ _ _ ?_
    conv => whnf
    repeat (first | (refine ⟨(by kernel_rfl : chkR _ _ _ _ = true), ?_⟩; conv => whnf) | (refine EvOr.go ?_; conv => whnf))
    refine CallG.use gM c43 [0, 1, 2, 3, 4] [] ?_ ?_ ?_ ?_ ?_ ?_; rfl; rfl; kernel_rfl; rfl; rfl
    conv => whnf
    repeat (first | (refine ⟨(by kernel_rfl : chkR _ _ _ _ = true), ?_⟩; conv => whnf) | (refine EvOr.go ?_; conv => whnf))
    repeat (intro c hc; simp [] at hc; subst hc; (conv => whnf); repeat (first | (refine ⟨(by kernel_rfl : chkR _ _ _ _ = true), ?_⟩; (conv => whnf)) | (refine EvOr.go ?_; (conv => whnf))))
    refine CallG.use gT c35 [0, 1, 2, 3, 4] [] ?_ ?_ ?_ ?_ ?_ ?_; rfl; rfl; kernel_rfl; rfl; rfl
    conv => whnf
    repeat (first | (refine ⟨(by kernel_rfl : chkR _ _ _ _ = true), ?_⟩; conv => whnf) | (refine EvOr.go ?_; conv => whnf))
    repeat (intro c hc; simp [] at hc; subst hc; (conv => whnf); repeat (first | (refine ⟨(by kernel_rfl : chkR _ _ _ _ = true), ?_⟩; (conv => whnf)) | (refine EvOr.go ?_; (conv => whnf))))
    refine CallG.use gG c46 [] [] ?_ ?_ ?_ ?_ ?_ ?_; rfl; rfl; kernel_rfl; rfl; rfl
    conv => whnf
    repeat (first | (refine ⟨(by kernel_rfl : chkR _ _ _ _ = true), ?_⟩; conv => whnf) | (refine EvOr.go ?_; conv => whnf))
    refine CallG.use (writeN 0 (List.replicate 64 1)) c38 [] [] ?_ ?_ ?_ ?_ ?_ ?_; rfl; rfl; kernel_rfl; rfl; rfl
    conv => whnf
    repeat (first | (refine ⟨(by kernel_rfl : chkR _ _ _ _ = true), ?_⟩; conv => whnf) | (refine EvOr.go ?_; conv => whnf))
    repeat (intro c hc; simp [] at hc; subst hc; (conv => whnf); repeat (first | (refine ⟨(by kernel_rfl : chkR _ _ _ _ = true), ?_⟩; (conv => whnf)) | (refine EvOr.go ?_; (conv => whnf))))
    refine CallG.use flushZ c29 [5] [] ?_ ?_ ?_ ?_ ?_ ?_; rfl; rfl; kernel_rfl; rfl; rfl
    conv => whnf
    repeat (first | (refine ⟨(by kernel_rfl : chkR _ _ _ _ = true), ?_⟩; conv => whnf) | (refine EvOr.go ?_; conv => whnf))
    repeat (intro c hc; simp [] at hc; subst hc; (conv => whnf); repeat (first | (refine ⟨(by kernel_rfl : chkR _ _ _ _ = true), ?_⟩; (conv => whnf)) | (refine EvOr.go ?_; (conv => whnf))))
    refine CallG.use crashNone c32 [] [] ?_ ?_ ?_ ?_ ?_ ?_; rfl; rfl; kernel_rfl; rfl; rfl
    conv => whnf
    repeat (first | (refine ⟨(by kernel_rfl : chkR _ _ _ _ = true), ?_⟩; conv => whnf) | (refine EvOr.go ?_; conv => whnf))
    repeat (intro c hc; simp [] at hc; subst hc; (conv => whnf); repeat (first | (refine ⟨(by kernel_rfl : chkR _ _ _ _ = true), ?_⟩; (conv => whnf)) | (refine EvOr.go ?_; (conv => whnf))))
    refine CallG.use gG c46 [] [] ?_ ?_ ?_ ?_ ?_ ?_; rfl; rfl; kernel_rfl; rfl; rfl
    conv => whnf
    repeat (first | (refine ⟨(by kernel_rfl : chkR _ _ _ _ = true), ?_⟩; conv => whnf) | (refine EvOr.go ?_; conv => whnf))
    refine CallG.use (setZ 0 (List.replicate 64 1)) c47 [5] [] ?_ ?_ ?_ ?_ ?_ ?_; rfl; rfl; kernel_rfl; rfl; rfl
    conv => whnf
    repeat (first | (refine ⟨(by kernel_rfl : chkR _ _ _ _ = true), ?_⟩; conv => whnf) | (refine EvOr.go ?_; conv => whnf))
    repeat (intro c hc; simp [] at hc; subst hc; (conv => whnf); repeat (first | (refine ⟨(by kernel_rfl : chkR _ _ _ _ = true), ?_⟩; (conv => whnf)) | (refine EvOr.go ?_; (conv => whnf))))
    refine CallG.use (backN 0) c44 [] [] ?_ ?_ ?_ ?_ ?_ ?_; rfl; rfl; kernel_rfl; rfl; rfl
    conv => whnf
    repeat (first | (refine ⟨(by kernel_rfl : chkR _ _ _ _ = true), ?_⟩; conv => whnf) | (refine EvOr.go ?_; conv => whnf))
    repeat (intro c hc; simp [] at hc; subst hc; (conv => whnf); repeat (first | (refine ⟨(by kernel_rfl : chkR _ _ _ _ = true), ?_⟩; (conv => whnf)) | (refine EvOr.go ?_; (conv => whnf))))
    refine CallG.use (failZ true) c37 [5] [] ?_ ?_ ?_ ?_ ?_ ?_; rfl; rfl; kernel_rfl; rfl; rfl
    conv => whnf
    repeat (first | (refine ⟨(by kernel_rfl : chkR _ _ _ _ = true), ?_⟩; conv => whnf) | (refine EvOr.go ?_; conv => whnf))
    repeat (intro c hc; simp [] at hc; subst hc; (conv => whnf); repeat (first | (refine ⟨(by kernel_rfl : chkR _ _ _ _ = true), ?_⟩; (conv => whnf)) | (refine EvOr.go ?_; (conv => whnf))))
    refine CallG.use touchedN c35 [] [] ?_ ?_ ?_ ?_ ?_ ?_; rfl; rfl; kernel_rfl; rfl; rfl
    conv => whnf
    repeat (first | (refine ⟨(by kernel_rfl : chkR _ _ _ _ = true), ?_⟩; conv => whnf) | (refine EvOr.go ?_; conv => whnf))
    repeat (intro c hc; simp [] at hc; subst hc; (conv => whnf); repeat (first | (refine ⟨(by kernel_rfl : chkR _ _ _ _ = true), ?_⟩; (conv => whnf)) | (refine EvOr.go ?_; (conv => whnf))))
    refine CallG.use lenN c49 [] [] ?_ ?_ ?_ ?_ ?_ ?_; rfl; rfl; kernel_rfl; rfl; rfl
    conv => whnf
    repeat (first | (refine ⟨(by kernel_rfl : chkR _ _ _ _ = true), ?_⟩; conv => whnf) | (refine EvOr.go ?_; conv => whnf))
    refine CallG.use unflushedZ c30 [5] [] ?_ ?_ ?_ ?_ ?_ ?_; rfl; rfl; kernel_rfl; rfl; rfl
    conv => whnf
    repeat (first | (refine ⟨(by kernel_rfl : chkR _ _ _ _ = true), ?_⟩; conv => whnf) | (refine EvOr.go ?_; conv => whnf))
    refine ⟨_, rfl, ?_⟩
    conv => whnf
    repeat (first | (refine ⟨(by kernel_rfl : chkR _ _ _ _ = true), ?_⟩; conv => whnf) | (refine EvOr.go ?_; conv => whnf))
    repeat (intro c hc; simp [] at hc; subst hc; (conv => whnf); repeat (first | (refine ⟨(by kernel_rfl : chkR _ _ _ _ = true), ?_⟩; (conv => whnf)) | (refine EvOr.go ?_; (conv => whnf))))
    refine CallG.use copyN c31 [] [] ?_ ?_ ?_ ?_ ?_ ?_; rfl; rfl; kernel_rfl; rfl; rfl
    conv => whnf
    repeat (first | (refine ⟨(by kernel_rfl : chkR _ _ _ _ = true), ?_⟩; conv => whnf) | (refine EvOr.go ?_; conv => whnf))
    exact retQ.one rfl (.inr rfl) rfl (Nat.le_of_ble_eq_true rfl) rfl
def knoT (k : Nat) : LTm := [.junk, ptv 0, .junk, .junk, .junk, .junk, iv 10, iv 10, .junk, iv 2, nonV, ptv 5, .junk, iv 1, .junk, iv 1, .junk, iv 1, .junk, iv 2, iv (k : Nat), .junk, .junk, .junk, .junk, .junk, .junk, .junk, .junk, .junk, .junk, .junk, .junk, .junk, .junk, .junk, .junk, .junk, .junk, .junk, .junk, .junk, .junk, .junk, .junk, .junk, .junk, .junk, .junk, .junk, .junk, .junk, .junk, .junk, .junk, .junk, .junk, .junk, .junk, .junk, .junk, .junk, .junk, .junk, .junk, .junk, .junk, .junk, .junk, .junk, .junk, .junk, .junk, .junk, .junk, .junk, .junk, .junk, .junk, .junk, .junk, .junk, .junk, .junk, .junk, .junk, .junk, .junk, .junk, .junk, .junk, .junk, .junk, .junk, .junk, .junk, .junk, .junk, .junk, .junk, .junk, .junk, .junk, .junk, .junk, .junk, .junk, .junk, .junk, .junk, .junk, .junk, .junk, .junk, .junk, .junk, .junk, .junk, .junk, .junk, .junk, .junk, .junk, .junk, .junk, .junk, .junk, .junk, .junk, .junk, .junk, .junk, .junk, .junk, .junk, .junk, .junk, .junk, .junk, .junk, .junk, .junk, .junk, .junk, .junk, .junk, .junk, .junk, .junk, .junk, .junk, .junk, .junk, .junk, .junk, .junk, .junk, .junk, .junk, .junk, .junk, .junk, .junk, .junk, .junk, .junk, .junk, .junk, .junk, .junk, .junk, .junk, .junk, .junk, .junk, .junk, .junk, .junk, .junk, .junk, .junk, .junk, .junk, .junk, .junk, .junk, .junk, .junk, .junk, .junk, .junk, .junk, .junk, .junk, .junk, .junk, .junk, .junk, .junk, .junk, .junk, .junk, .junk, .junk, .junk, .junk, .junk, .junk, .junk, .junk, .junk, .junk, .junk, .junk, .junk, .junk, .junk, .junk, .junk, .junk, .junk, .junk, .junk, .junk, .junk, .junk, .junk, .junk, .junk, .junk, .junk, .junk, .junk, .junk, .junk, .junk, .junk, .junk, .junk, .junk, .junk, .junk, .junk]
def rowV (L : List Value) : Option ABlk := some (.row .inx 73 1 (L.map rawE) [])
def knoH (M : Mem) (lg : Lg) (k : Nat) (r : Option ABlk) : LHp := [some (memG M lg (.row (k + 1)) 1 2 3 4), imB M.seen, none, none, r, zeroB]
abbrev KX := {x : Nat × List Value // x.1 ≤ 63 ∧ x.2.length = x.1 + 1 ∧ ∀ v ∈ x.2, cell1 v = true}
def knoI (M : Mem) (lg : Lg) (x : KX) : LTm × LHp := (knoT x.1.1, knoH M lg x.1.1 (rowV x.1.2))
theorem ren_raw (π : Nat → Nat) (L : List Value) : (L.map rawE).map (Segs.ren π) = L.map rawE := by
  rw [List.map_map]; rfl
def rowW (L : List Value) : Option ABlk := some (.row .inx 73 1 (L.map rawE ++ [[.one (.mp 6)]]) [6])
theorem kno_seen (M : Mem) (lg : Lg) (k : Nat) (L : List Value) (hk : k ≤ 63) (hL : L.length = k) (hLv : ∀ v ∈ L, cell1 v = true) (p : KX → Prop) (hp : ∀ x : KX, x.1.1 = k → p x) (Γ : Ctx) (ρ : Ren) (w : World) (h0 : Γ.n0 = 0) (hs : Sat Γ ρ (hpL (knoH M lg k (rowW L))) w) :
    ∃ x', p x' ∧ 0 ≤ (knoI M lg x').2.length ∧ Sat Γ ρ (hpL (knoI M lg x').2) w ∧ ∀ i, tmL (knoI M lg x').1 i = .junk ∨ (tmL (knoT k) i ≠ .junk ∧ (tmL (knoI M lg x').1 i).den ρ = (tmL (knoT k) i).den ρ) := by
  have hv : ∀ v ∈ L ++ [Value.map (some (ρ 6).b)], cell1 v = true := fun v hv => by
    rcases List.mem_append.1 hv with h | h
    · exact hLv v h
    · rw [List.mem_singleton.1 h]; rfl
  refine ⟨⟨(k, L ++ [.map (some (ρ 6).b)]), hk, by simp [hL], hv⟩, hp _ rfl, Nat.zero_le _, hs.swap fun i b hb => ?_, fun i => ?_⟩
  · by_cases hi : i = 4
    · subst hi
      right
      injection hb with hb
      subst hb
      refine ⟨_, rfl, rfl, (hs.blk 4 _ rfl).alike ?_ (by simp) (fun e he => ?_) (fun e he x hx => ?_)⟩
      · rw [List.map_append, rowDen_append, rowDen_append]; rfl
      · obtain ⟨v, hv', rfl⟩ := List.mem_map.1 he
        refine ⟨rfl, ?_⟩
        have := hv v hv'
        simp only [Segs.oneB, SV.oneB, this]; rfl
      · obtain ⟨v, _, rfl⟩ := List.mem_map.1 he
        cases hx
    · left
      match i, hi, hb with
      | 0, _, hb => exact hb
      | 1, _, hb => exact hb
      | 2, _, hb => exact hb
      | 3, _, hb => exact hb
      | 4, h, _ => exact absurd rfl h
      | 5, _, hb => exact hb
      | _ + 6, _, hb => cases hb
  · by_cases h : tmL (knoT k) i = .junk
    · exact .inl h
    · exact .inr ⟨h, rfl⟩
theorem kno_wf (M : Mem) (lg : Lg) (k : Nat) (L : List Value) : wfH (knoH M lg k (rowW L)) = true := by
  have h1 : ABlk.wfB (.row .inx 73 1 (L.map rawE ++ [[.one (.mp 6)]]) [6]) = true := by
    simp only [ABlk.wfB, List.all_append, List.all_map, Bool.and_eq_true]
    refine ⟨List.all_eq_true.2 fun x hx => rfl, rfl⟩
  unfold wfH knoH rowW
  simp only [List.all_cons, List.all_nil, h1, Bool.and_true]
  cases lg <;> rfl
theorem knoB (M : Mem) (lg : Lg) (hn : 0 < M.n) :
    CodeT Try.prog 0 (suf 14 (bodyC Try.f10)) ([.junk, ptv 0, .junk, .junk, .junk, .junk, iv 10, iv 10, .junk, iv 2, .junk, .junk, .junk, .junk, .junk, .junk, .junk, .junk, .junk, .junk, .junk, .junk, .junk, .junk, .junk, .junk, .junk, .junk, .junk, .junk, .junk, .junk, .junk, .junk, .junk, .junk, .junk, .junk, .junk, .junk, .junk, .junk, .junk, .junk, .junk, .junk, .junk, .junk, .junk, .junk, .junk, .junk, .junk, .junk, .junk, .junk, .junk, .junk, .junk, .junk, .junk, .junk, .junk, .junk, .junk, .junk, .junk, .junk, .junk, .junk, .junk, .junk, .junk, .junk, .junk, .junk, .junk, .junk, .junk, .junk, .junk, .junk, .junk, .junk, .junk, .junk, .junk, .junk, .junk, .junk, .junk, .junk, .junk, .junk, .junk, .junk, .junk, .junk, .junk, .junk, .junk, .junk, .junk, .junk, .junk, .junk, .junk, .junk, .junk, .junk, .junk, .junk, .junk, .junk, .junk, .junk, .junk, .junk, .junk, .junk, .junk, .junk, .junk, .junk, .junk, .junk, .junk, .junk, .junk, .junk, .junk, .junk, .junk, .junk, .junk, .junk, .junk, .junk, .junk, .junk, .junk, .junk, .junk, .junk, .junk, .junk, .junk, .junk, .junk, .junk, .junk, .junk, .junk, .junk, .junk, .junk, .junk, .junk, .junk, .junk, .junk, .junk, .junk, .junk, .junk, .junk, .junk, .junk, .junk, .junk, .junk, .junk, .junk, .junk, .junk, .junk, .junk, .junk, .junk, .junk, .junk, .junk, .junk, .junk, .junk, .junk, .junk, .junk, .junk, .junk, .junk, .junk, .junk, .junk, .junk, .junk, .junk, .junk, .junk, .junk, .junk, .junk, .junk, .junk, .junk, .junk, .junk, .junk, .junk, .junk, .junk, .junk, .junk, .junk, .junk, .junk, .junk, .junk, .junk, .junk, .junk, .junk, .junk, .junk, .junk, .junk, .junk, .junk, .junk, .junk, .junk, .junk, .junk, .junk, .junk, .junk, .junk, .junk, .junk, .junk, .junk, .junk, .junk]) [some (memG M lg (.row 1) 1 2 3 4), imB M.seen, none, none, mkR 5, none] (retQ Try.prog Try.f10 0 (bv true) []) := by
  obtain ⟨M2, hM2⟩ : ∃ A : Mem, A = { M with hurt := false } := ⟨_, rfl⟩
  have gN := clean_to M M2 lg (.row 1) hM2 hn
  have hs2 : M.seen = M2.seen := by rw [hM2]
  have hn2 : 0 < M2.n := by rw [hM2]; exact hn
  have gC := knoC M2 lg hn2 (by rw [hM2])
  have gM := fun (k : Nat) (L : List Value) (hk : k < 63) (hL : L.length = k + 1) => mark_any M2 lg (k + 1) L (by omega) hL hn2
  have gS0 := fun Γ ρ w h0 hs => kno_seen M2 lg 0 [] (by decide) rfl (fun v hv => by cases hv) (fun _ => True) (fun _ _ => trivial) Γ ρ w h0 hs
  have gSk := fun (k : Nat) (L : List Value) (hk : k + 1 ≤ 63) (hL : L.length = k + 1) (hLv : ∀ v ∈ L, cell1 v = true) Γ ρ w h0 hs => kno_seen M2 lg (k + 1) L hk hL hLv (fun x => 63 - x.1.1 < 63 - k) (fun x hx => by rw [hx]; omega) Γ ρ w h0 hs
  have gWf := kno_wf M2 lg
  rw [hs2]
  clear hM2 hs2
  cases lg <;>
  · refine evC_sound tabOk mixed _ _ _ _ ?_
    conv => whnf
    repeat (first | (refine ⟨(by kernel_rfl : chkR _ _ _ _ = true), ?_⟩; conv => whnf) | (refine EvOr.go ?_; conv => whnf))
    refine CallG.use gN c48 [0, 1, 2, 3, 4] [0] ?_ ?_ ?_ ?_ ?_ ?_; rfl; rfl; kernel_rfl; rfl; rfl
    conv => whnf
    repeat (first | (refine ⟨(by kernel_rfl : chkR _ _ _ _ = true), ?_⟩; conv => whnf) | (refine EvOr.go ?_; conv => whnf))
    refine CallG.use (readN 0) c33 [] [] ?_ ?_ ?_ ?_ ?_ ?_; rfl; rfl; kernel_rfl; rfl; rfl
    conv => whnf
    repeat (first | (refine ⟨(by kernel_rfl : chkR _ _ _ _ = true), ?_⟩; conv => whnf) | (refine EvOr.go ?_; conv => whnf))
    refine CallG.use (lookZ 0) c39 [6] [] ?_ ?_ ?_ ?_ ?_ ?_; rfl; rfl; kernel_rfl; rfl; rfl
    conv => whnf
    repeat (first | (refine ⟨(by kernel_rfl : chkR _ _ _ _ = true), ?_⟩; conv => whnf) | (refine EvOr.go ?_; conv => whnf))
    refine CallG.use markZ c43 [6] [] ?_ ?_ ?_ ?_ ?_ ?_; rfl; rfl; kernel_rfl; rfl; rfl
    conv => whnf
    repeat (first | (refine ⟨(by kernel_rfl : chkR _ _ _ _ = true), ?_⟩; conv => whnf) | (refine EvOr.go ?_; conv => whnf))
    refine CallG.use new_err c27 [] [] ?_ ?_ ?_ ?_ ?_ ?_; rfl; rfl; kernel_rfl; rfl; rfl
    conv => whnf
    repeat (first | (refine ⟨(by kernel_rfl : chkR _ _ _ _ = true), ?_⟩; conv => whnf) | (refine EvOr.go ?_; conv => whnf))
    refine CodeT.loopXE tabOk mixed _ (fun x : KX => 63 - x.1.1) (SeenAs.of (sL [0, 1, 2, 3, 4, 6, 5]) (StW.ofP2 [0, 1, 2, 3, 4, 6, 5] rfl (gWf 0 []) rfl ?_ ?_) gS0) (fun _ => rfl) ?_
    · rfl
    · rfl
    intro ⟨⟨k, L⟩, hk1, hL, hLv⟩
    replace hk1 : k ≤ 63 := hk1
    replace hL : L.length = k + 1 := hL
    replace gM := fun hk => gM k L hk hL
    conv => whnf
    repeat (first | (refine ⟨(by kernel_rfl : chkR _ _ _ _ = true), ?_⟩; conv => whnf) | (refine EvOr.go ?_; conv => whnf))
    intro c hc
    by_cases hk : k < 63
    · obtain rfl : c = true := by rw [hc]; exact decide_eq_true (by show (k : Int) < 63; omega)
      conv => whnf
      repeat (first | (refine ⟨(by kernel_rfl : chkR _ _ _ _ = true), ?_⟩; conv => whnf) | (refine EvOr.go ?_; conv => whnf))
      refine CallG.use (gM hk) c43 [0, 1, 2, 3, 4] [0, 4] ?_ ?_ ?_ ?_ ?_ ?_; rfl; rfl; kernel_rfl; rfl; rfl
      conv => whnf
      repeat (first | (refine ⟨(by kernel_rfl : chkR _ _ _ _ = true), ?_⟩; conv => whnf) | (refine EvOr.go ?_; conv => whnf))
      refine ⟨((k + 1 : Nat) : Int), inc_nat (by show k < _; omega), ?_⟩
      conv => whnf
      repeat (first | (refine ⟨(by kernel_rfl : chkR _ _ _ _ = true), ?_⟩; conv => whnf) | (refine EvOr.go ?_; conv => whnf))
      refine SeenAs.of (sL [0, 1, 2, 3, 8, 5, 6]) (StW.ofP2 [0, 1, 2, 3, 8, 5, 6] rfl (gWf (k + 1) L) rfl ?_ ?_) (gSk k L (by omega) hL hLv)
      · rfl
      · show pickH _ _ 0 _ = renH _ _
        simp only [rowW, knoH, renH, ABlk.ren, List.map_append, ren_raw]
        rfl
    · obtain rfl : c = false := by rw [hc]; exact decide_eq_false (by show ¬ (k : Int) < 63; omega)
      obtain rfl : k = 63 := by omega
      conv => whnf
      refine ⟨(by kernel_rfl : chkR _ _ _ _ = true), ?_⟩
      conv => whnf
      refine EvOr.go ?_
      conv => whnf
      refine EvOr.cut (CodeT.weaken _ (StW.ofP [0, 1, 2, 3, 4, 5] ?_ ?_ ?_) (gC))
      · kernel_rfl
      · rfl
      · rfl
end Go.Proofs.Ytdmcbfmpnakdfaa.Eng
