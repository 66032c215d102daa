/- The iterator's contracts in the words of the engine. -/
import Derived.Test.YtdmcbfmpnakdfaaRa
import Derived.Test.YtdmcbfmpnakdfaaQz
import Derived.Test.YtdmcbfmpnakdfaaTd
import Derived.Test.YtdmcbfmpnakdfaaEp
namespace Go.Proofs.Ytdmcbfmpnakdfaa.Eng.St
open Go Go.RowKit Go.Shelf Go.Proofs Go.Proofs.Ytdmcbfmpnakdfaa.Gf Go.Proofs.Ytdmcbfmpnakdfaa.Rf
set_option maxRecDepth 20000
set_option maxHeartbeats 4000000
theorem c133 : Callable Try.prog 133 := ⟨⟨_, Try.func133, by kernel_rfl, by kernel_rfl⟩⟩
theorem c132 : Callable Try.prog 132 := ⟨⟨_, Try.func132, by kernel_rfl, by kernel_rfl⟩⟩
theorem c131 : Callable Try.prog 131 := ⟨⟨_, Try.func131, by kernel_rfl, by kernel_rfl⟩⟩
theorem c113 : Callable Try.prog 113 := ⟨⟨_, Try.func113, by kernel_rfl, by kernel_rfl⟩⟩
theorem c112 : Callable Try.prog 112 := ⟨⟨_, Try.func112, by kernel_rfl, by kernel_rfl⟩⟩
theorem c111 : Callable Try.prog 111 := ⟨⟨_, Try.func111, by kernel_rfl, by kernel_rfl⟩⟩
theorem c110 : Callable Try.prog 110 := ⟨⟨_, Try.func110, by kernel_rfl, by kernel_rfl⟩⟩
theorem c109 : Callable Try.prog 109 := ⟨⟨_, Try.func109, by kernel_rfl, by kernel_rfl⟩⟩
def roL (h : LHp) : LHp := h.map (Option.map ABlk.ro)
def rowB (b : Option ABlk) : Bool := match b with
  | some (.map ..) => false
  | _ => true
def rowsL (h : LHp) : Bool := h.all fun b => rowB b && (msO b).all (· < h.length)
theorem hpL_ro {h : LHp} {i : Nat} {b : ABlk} (hb : hpL (roL h) i = some b) : ∃ b0, hpL h i = some b0 ∧ b = b0.ro := by
  unfold hpL roL at *
  rw [List.getD_eq_getElem?_getD, List.getElem?_map] at hb
  rw [List.getD_eq_getElem?_getD]
  cases hg : h[i]? with
  | none => rw [hg] at hb; simp at hb
  | some o =>
    rw [hg] at hb
    cases o with
    | none => simp at hb
    | some b0 => simp at hb; exact ⟨b0, rfl, hb.symm⟩
theorem rowsL_spec {h : LHp} (hr : rowsL h = true) {i : Nat} {b : ABlk} (hb : hpL h i = some b) : (∃ md t sz L ms, b = .row md t sz L ms) ∧ ∀ x ∈ b.ms, x < h.length := by
  have hm : some b ∈ h := by
    unfold hpL at hb
    rw [List.getD_eq_getElem?_getD] at hb
    cases hg : h[i]? with
    | none => rw [hg] at hb; simp at hb
    | some o => rw [hg] at hb; simp at hb; subst hb; exact List.mem_of_getElem? hg
  have := List.all_eq_true.1 hr _ hm
  rw [Bool.and_eq_true] at this
  refine ⟨?_, ?_⟩
  · cases b with
    | row md t sz L ms => exact ⟨_, _, _, _, _, rfl⟩
    | map es ms => simp [rowB] at this
  · intro x hx
    have h2 := List.all_eq_true.1 this.2 x hx
    simpa using h2
theorem ABlk.ro_w {b : ABlk} (h : ∃ md t sz L ms, b = .row md t sz L ms) : b.ro.w = false := by
  obtain ⟨md, t, sz, L, ms, rfl⟩ := h
  cases md <;> rfl
theorem ABlk.ro_ms (b : ABlk) : b.ro.ms = b.ms := by
  cases b with
  | row md t sz L ms => cases md <;> rfl
  | map es ms => rfl
/-- All that there is, read alone. -/
theorem Sat.roBlk {Γ : Ctx} {ρ : Ren} {w : World} {h : LHp} (hs : Sat Γ ρ (hpL h) w) (hr : rowsL h = true) (n : Nat) (r0 : Ren) {i : Nat} {b : ABlk} (hb : hpL (roL h) i = some b) : BlkSat (top w n r0) ρ w i b ∧ b.w = false := by
  obtain ⟨b0, h0, rfl⟩ := hpL_ro hb
  have hb0 := (rowsL_spec hr h0).1
  refine ⟨(hs.blk i b0 h0).asRo hb0 _ _ _ (fun R hR x hx => ?_), ABlk.ro_w hb0⟩
  obtain ⟨h1, h2, h3⟩ := hR x hx
  exact ⟨Nat.lt_of_lt_of_le h1 hs.size, id, (hs.frame _ h1 h2).trans h3⟩
theorem Sat.roTop {Γ : Ctx} {ρ : Ren} {w : World} {h : LHp} (hs : Sat Γ ρ (hpL h) w) (hr : rowsL h = true) (n : Nat) : Sat (top w n ρ) ρ (hpL (roL h)) w :=
  Sat.top fun _ _ hb => Sat.roBlk hs hr n ρ hb
theorem roL_length (h : LHp) : (roL h).length = h.length := by simp [roL]
theorem Sat.later {Γ : Ctx} {ρ : Ren} {hp : AHeap} {w w' : World} (h : Sat Γ ρ hp w) (hb : Below w.heap.size w w') : Sat Γ ρ hp w' := h.grow hb.block hb.size hb.os hb.tape hb.output
theorem dens_map (ρ : Ren) : ∀ cs : List SV, AV.dens ρ (cs.map .sc) = SV.dens ρ cs
  | [] => rfl
  | c :: cs => by simp only [List.map_cons, AV.dens, SV.dens, dens_map ρ cs]; rfl
theorem dens_arr (ρ : Ren) (i : Int) (cs : List SV) : (AV.dens ρ (iv i :: cs.map .sc)).toArray = #[Value.int .i64 i] ++ (SV.dens ρ cs).toArray := by
  rw [AV.dens, dens_map]
  simp [AV.den, SV.den]
/-- The closure's contract, seen from the world. -/
theorem holdsIn_of {ρ : Ren} {w : World} {hr : LHp} (hs : ∀ W, Below w.heap.size w W → Sat (top W hr.length ρ) ρ (hpL hr) W) {g N : Nat} {cs : List SV} {p : Nat → Bool} (hg : Callable Try.prog g)
    (hc : ∀ i : Nat, i < N → ∃ h', FunT Try.prog g (iv (i : Nat) :: cs.map .sc) hr (bv (p i)) h') : HoldsIn w g (SV.dens ρ cs).toArray N p := by
  refine ⟨fun args w => run_callFunc hg args w, fun i W hi hB => ?_⟩
  obtain ⟨h', hF⟩ := hc i hi
  have := hF.below (by intro h; cases h) ρ W (hs W hB)
  rw [dens_arr] at this
  refine this.mono fun e w' he => ?_
  obtain ⟨⟨ρ', e1⟩, e2⟩ := he
  exact ⟨e1, e2⟩
theorem one_cell {Γ : Ctx} {ρ : Ren} {w : World} {id : Nat} {t : TypeId} {sz : Nat} {v : SV} {r : Segs} {ms : List Nat} (h : BlkSat Γ ρ w id (.row .one t sz [.one v :: r] ms)) : (ρ id).sh = 0 ∧ w.cell? ⟨(ρ id).b, 0, none⟩ = some (v.den ρ) := by
  obtain ⟨_, _, _, c, h1, h2, h3, _⟩ := h
  refine ⟨h3, ?_⟩
  have h4 : c[0]? = some (v.den ρ) := by
    rw [← Array.getElem?_toList, h2]
    simp [rowDen, Segs.den, Seg.den]
  simp [World.cell?, h1, h4]
/-- What the iterator over the columns finds: the row, boxed; the closure, boxed. -/
structure ItAt (h : LHp) (r b1 b2 g N : Nat) (cs : List SV) (p : Nat → Bool) : Prop where
  le : N ≤ 64
  rows : rowsL h = true
  b1 : ∃ ms, hpL h b1 = some (.row .one 79 1 [[.one (.ptr r 0 2 0)]] ms)
  b2 : ∃ ms, hpL h b2 = some (.row .one 113 1 [[.one (.fn (.func g) [] cs)]] ms)
  r : ∃ c cap s2 ms, hpL h r = some (.row .one 108 2 [[.one (.sl c 0 64 N cap), s2]] ms)
  ok : Callable Try.prog g
  con : ∀ i : Nat, i < N → ∃ h', FunT Try.prog g (iv (i : Nat) :: cs.map .sc) (roL h) (bv (p i)) h'
theorem row_cell {Γ : Ctx} {ρ : Ren} {w : World} {h : LHp} {r c N : Nat} {cap : Option Nat} {s2 : Seg} {ms : List Nat} (hs : Sat Γ ρ (hpL h) w) (hr : hpL h r = some (.row .one 108 2 [[.one (.sl c 0 64 N cap), s2]] ms)) :
    ∃ A k, (ρ r).sh = 0 ∧ w.cell? ⟨(ρ r).b, 0, none⟩ = some (.slice A N k) := by
  obtain ⟨h1, h2⟩ := one_cell (hs.blk _ _ hr)
  cases cap <;> exact ⟨_, _, h1, h2⟩
theorem whichAt_of {Γ : Ctx} {ρ : Ren} {w : World} {h : LHp} {r b1 b2 g N : Nat} {cs : List SV} {p : Nat → Bool} (hs : Sat Γ ρ (hpL h) w) (hi : ItAt h r b1 b2 g N cs p) :
    (ρ b1).sh = 0 ∧ (ρ b2).sh = 0 ∧ WhichAt w (ρ b1).b (ρ b2).b N p := by
  obtain ⟨hN, hrow, ⟨m1, e1⟩, ⟨m2, e2⟩, ⟨c, cap, s2, m3, e3⟩, hg, hc⟩ := hi
  obtain ⟨x1, y1⟩ := one_cell (hs.blk _ _ e1)
  obtain ⟨x2, y2⟩ := one_cell (hs.blk _ _ e2)
  obtain ⟨A, k, x3, y3⟩ := row_cell hs e3
  refine ⟨x1, x2, hN, (ρ r).b, (ρ r).sh + 0 * 2 + 0, g, (SV.dens ρ cs).toArray, A, k, y1, ?_, y2, ?_⟩
  · rw [x3]; exact y3
  · refine holdsIn_of (fun W hB => ?_) hg hc
    rw [roL_length]
    exact Sat.roTop (Sat.later hs hB) hrow _
theorem own_new {Γ : Ctx} {ρ : Ren} {w w' : World} {h : LHp} {o : List Int} {v : Value} (hs : Sat Γ ρ (hpL h) w) (hn : Γ.n0 ≤ h.length) (hrow : rowsL h = true) (hB : Below w.heap.size w w')
    (hr : w'.ownsRow w.heap.size 3 1 v o.length (o.map (Value.int .i64))) (h0 : v = .slice none 0 0 ↔ o = []) : ∃ ρ', v = (nrS o h.length).den ρ' ∧ Sat Γ ρ' (hpL (h ++ [nrB o])) w' := by
  have hs' := Sat.later hs hB
  have hk : ∀ x : Option ABlk, hpL (h ++ [x]) = upd (hpL h) h.length x := fun x => by
    funext i
    unfold hpL upd
    rcases Nat.lt_trichotomy i h.length with hi | hi | hi
    · rw [if_neg (by omega), List.getD_eq_getElem?_getD, List.getElem?_append_left hi, ← List.getD_eq_getElem?_getD]
    · subst hi; simp
    · rw [if_neg (by omega), List.getD_eq_getElem?_getD, List.getElem?_eq_none (by simp; omega)]
      show _ = h.getD i none
      rw [List.getD_eq_getElem?_getD, List.getElem?_eq_none (by omega)]
  by_cases ho : o = []
  · have hv := h0.2 ho
    subst ho
    refine ⟨ρ, hv, ?_⟩
    show Sat Γ ρ (hpL (h ++ [none])) w'
    rw [hk]
    have : upd (hpL h) h.length none = hpL h := by
      funext i
      unfold upd
      by_cases hi : i = h.length
      · rw [if_pos hi]; subst hi; simp [hpL]
      · rw [if_neg hi]
    rw [this]; exact hs'
  · obtain ⟨hl, hr⟩ := hr
    rcases hr with ⟨hv, _⟩ | ⟨g, cap, cur, hv, hg, hh, hn1, hn2, hsz, htk⟩
    · exact absurd (h0.1 hv) ho
    have hpos : 0 < o.length := by cases o with | nil => exact absurd rfl ho | cons _ _ => simp
    obtain ⟨e1, e2⟩ := nr_row h.length hpos
    refine ⟨updR ρ h.length ⟨g, 0, cap⟩, ?_, ?_⟩
    · rw [e1, hv]
      simp [SV.den, updR_same]
    · rw [e2, hk]
      refine hs'.fresh (by unfold hpL; simp) hn (fun i b hb hx => ?_) ?_ (fun i b hb hx => ?_) (fun hlt => ?_)
      · have := (rowsL_spec hrow hb).2 _ hx
        omega
      · refine ⟨fun e he => ?_, fun e he x hx => ?_, by rw [updR_same]; simpa using hn1, cur, [], cur.toList.drop (o.length * 1), by rw [updR_same]; exact hh, ?_, by rw [updR_same]; rfl, by rw [updR_same]; simp; omega⟩
        · obtain ⟨z, _, rfl⟩ := List.mem_map.1 he
          exact ⟨rfl, rfl⟩
        · obtain ⟨z, _, rfl⟩ := List.mem_map.1 he
          cases hx
        · rw [rowDen_int, ← htk]
          simp
      · have := (hs.blk i b hb).lt
        have hx2 : (ρ i).b = g := hx
        omega
      · have h9 := hs.size
        have h10 : g < Γ.W.heap.size := hlt
        omega
theorem append_T {h : LHp} {r b1 b2 g N : Nat} {cs : List SV} {p : Nat → Bool} (hi : ItAt h r b1 b2 g N cs p) :
    FunT Try.prog 132 [.sc nilS, .sc (.fn (.func 133) [] [.ptr b1 0 1 0, .ptr b2 0 1 0])] h (.sc (nrS (hold p N) h.length)) (h ++ [nrB (hold p N)]) := by
  intro Γ ρ w hn hs
  obtain ⟨x1, x2, hW⟩ := whichAt_of hs hi
  have := callsIn_wide.1 (appendSeq_in hW)
  have ea : (AV.dens ρ [.sc nilS, .sc (.fn (.func 133) [] [.ptr b1 0 1 0, .ptr b2 0 1 0])]).toArray = #[.slice none 0 0, .func (.func 133) #[] #[ptr0 (ρ b1).b, ptr0 (ρ b2).b]] := by
    simp [AV.dens, AV.den, SV.den, SV.dens, x1, x2]
  rw [ea]
  refine this.mono fun e w' he => ?_
  obtain ⟨v, rfl, h1, h2, h3⟩ := he
  obtain ⟨ρ', y1, y2⟩ := own_new hs (by omega) hi.rows h3 h1 h2
  exact ⟨ρ', v, rfl, .inr y1, y2⟩
theorem collect_T {h : LHp} {r b1 b2 g N : Nat} {cs : List SV} {p : Nat → Bool} (hi : ItAt h r b1 b2 g N cs p) :
    FunT Try.prog 110 [.sc (.fn (.func 133) [] [.ptr b1 0 1 0, .ptr b2 0 1 0])] h (.sc (nrS (hold p N) h.length)) (h ++ [nrB (hold p N)]) := by
  intro Γ ρ w hn hs
  obtain ⟨x1, x2, hW⟩ := whichAt_of hs hi
  have := callsIn_wide.1 (collect_in hW)
  have ea : (AV.dens ρ [.sc (.fn (.func 133) [] [.ptr b1 0 1 0, .ptr b2 0 1 0])]).toArray = #[.func (.func 133) #[] #[ptr0 (ρ b1).b, ptr0 (ρ b2).b]] := by
    simp [AV.dens, AV.den, SV.den, SV.dens, x1, x2]
  rw [ea]
  refine this.mono fun e w' he => ?_
  obtain ⟨v, rfl, h1, h2, h3⟩ := he
  obtain ⟨ρ', y1, y2⟩ := own_new hs (by omega) hi.rows h3 h1 h2
  exact ⟨ρ', v, rfl, .inr y1, y2⟩
theorem whole_T {h : LHp} {r N c : Nat} {cap : Option Nat} {s2 : Seg} {ms : List Nat} {p : Nat → Bool} (hN : N ≤ 64) (hrow : rowsL h = true) (hr : hpL h r = some (.row .one 108 2 [[.one (.sl c 0 64 N cap), s2]] ms)) (hrl : r < h.length)
    (hc : ∀ i : Nat, i < N → ∃ h', FunT Try.prog 131 [iv (i : Nat), .sc (.ptr h.length 0 1 0)] (roL h ++ [some (.row .ro 79 1 [[.one (.ptr r 0 2 0)]] [r])]) (bv (p i)) h') :
    FunT Try.prog 109 [.sc (.ptr r 0 2 0)] h (bv (decide (hold p N = []))) h := by
  intro Γ ρ w hn hs
  obtain ⟨A, k, x3, y3⟩ := row_cell hs hr
  have := callsIn_wide.1 (whole_in (p := p) y3 hN fun W hB hcell => ?_)
  · have ea : (AV.dens ρ [.sc (.ptr r 0 2 0)]).toArray = #[.pointer (some ⟨(ρ r).b, 0, none⟩)] := by
      simp [AV.dens, AV.den, SV.den, x3]
    rw [ea]
    refine this.mono fun e w' he => ?_
    obtain ⟨rfl, h3⟩ := he
    exact ⟨ρ, _, rfl, .inr rfl, Sat.later hs h3⟩
  · obtain ⟨ρ', hρ⟩ : ∃ ρ', ρ' = updR ρ h.length ⟨w.heap.size, 0, 1⟩ := ⟨_, rfl⟩
    have hsn : ρ' h.length = ⟨w.heap.size, 0, 1⟩ := by rw [hρ, updR_same]
    have hne : ∀ i, i < h.length → ρ' i = ρ i := fun i hi => by rw [hρ, updR_ne _ _ (by omega)]
    obtain ⟨H, hH⟩ : ∃ H, H = roL h ++ [some (ABlk.row .ro 79 1 [[.one (.ptr r 0 2 0)]] [r])] := ⟨_, rfl⟩
    have := holdsIn_of (ρ := ρ') (w := W) (hr := H) (g := 131) (N := N) (cs := [.ptr h.length 0 1 0]) (p := p) (fun W' hB' => ?_) c131 (fun i hi => by rw [hH]; exact hc i hi)
    · have e2 : (SV.dens ρ' [.ptr h.length 0 1 0]).toArray = #[ptr0 w.heap.size] := by simp [SV.dens, SV.den, hsn]
      rwa [e2] at this
    · have hBB := hB.trans (hB'.mono hB.size)
      have hs' := Sat.later hs hBB
      have hcell' : W'.cell? ⟨w.heap.size, 0, none⟩ = some (.pointer (some ⟨(ρ r).b, 0, none⟩)) := (hB'.cell (p := ⟨w.heap.size, 0, none⟩) (World.block_lt_of_cell? _ _ hcell)).trans hcell
      refine Sat.top fun i b hb => ?_
      rcases Nat.lt_or_ge i h.length with hi | hi
      · have hb' : hpL (roL h) i = some b := by
          rw [← hb, hH]
          unfold hpL
          rw [List.getD_eq_getElem?_getD, List.getD_eq_getElem?_getD, List.getElem?_append_left (by rw [roL_length]; exact hi)]
        obtain ⟨g1, g2⟩ := Sat.roBlk hs' hrow H.length ρ' hb'
        refine ⟨g1.congr (hne i hi) (fun x hx => hne x ?_) rfl, g2⟩
        obtain ⟨b0, h0, rfl⟩ := hpL_ro hb'
        rw [ABlk.ro_ms] at hx
        exact (rowsL_spec hrow h0).2 x hx
      · have hlt := hpL_lt hb
        have hil : i = h.length := by rw [hH, List.length_append, roL_length] at hlt; simp at hlt; omega
        subst hil
        have hbb : b = .row .ro 79 1 [[.one (.ptr r 0 2 0)]] [r] := by
          have : hpL H h.length = some (.row .ro 79 1 [[.one (.ptr r 0 2 0)]] [r]) := by
            rw [hH]; unfold hpL
            rw [List.getD_eq_getElem?_getD, List.getElem?_append_right (by rw [roL_length]; exact Nat.le_refl _)]
            simp [roL_length]
          rw [this] at hb
          exact (Option.some.inj hb).symm
        subst hbb
        refine ⟨?_, rfl⟩
        have hlt2 := World.block_lt_of_cell? _ _ hcell'
        unfold World.cell? at hcell'
        cases hg : W'.heap[w.heap.size]? with
        | none => simp [hg] at hcell'
        | some o =>
          cases o with
          | cells c2 t2 fr2 =>
            simp [hg] at hcell'
            refine ⟨fun e he => ?_, fun e he x hx => ?_, by rw [hsn]; exact Nat.le_refl _, c2, t2, fr2, [], c2.toList.drop 1, by rw [hsn]; exact hg, ?_, by rw [hsn]; rfl, by rw [hsn]; exact hlt2, by rw [hsn]⟩
            · obtain rfl := List.mem_singleton.1 he; exact ⟨rfl, rfl⟩
            · obtain rfl := List.mem_singleton.1 he; exact hx
            · have hv : (SV.ptr r 0 2 0).den ρ' = .pointer (some ⟨(ρ r).b, 0, none⟩) := by simp [SV.den, hne r hrl, x3]
              have h5 : c2.toList[0]? = some (.pointer (some ⟨(ρ r).b, 0, none⟩)) := by rw [Array.getElem?_toList]; exact hcell'
              cases hl : c2.toList with
              | nil => rw [hl] at h5; simp at h5
              | cons x l =>
                rw [hl] at h5
                simp at h5
                subst h5
                simp [rowDen, Segs.den, Seg.den, hv]
          | _ => simp [hg] at hcell'
end Go.Proofs.Ytdmcbfmpnakdfaa.Eng.St
