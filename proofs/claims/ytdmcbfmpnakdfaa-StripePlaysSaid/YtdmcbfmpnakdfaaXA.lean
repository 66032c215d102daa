/- The types that the walks of the stripe meet. -/
import Derived.Test.YtdmcbfmpnakdfaaTc
import Derived.Test.YtdmcbfmpnakdfaaRa
import Derived.Test.YtdmcbfmpnakdfaaQz
import Derived.Test.YtdmcbfmpnakdfaaEp
import Derived.Test.YtdmcbfmpnakdfaaQg
import Derived.Test.YtdmcbfmpnakdfaaQj
namespace Go.Proofs.Ytdmcbfmpnakdfaa.Eng.St
open Go Go.Proofs
def td79 : TD := ⟨.ptr 108, 1, 8, .sc (.raw (.pointer none))⟩
theorem td79Ok : TDOk Try.prog 79 td79 := .of Try.underlying79 rfl (by kernel_rfl) (fun ρ => by kernel_rfl) (by kernel_rfl)
def td108 : TD := ⟨.st [(0, 22), (1, 23)], 2, 48, .agg [.one (.raw (.slice none 0 0)), .one (.raw (.slice none 0 0))]⟩
theorem td108Ok : TDOk Try.prog 108 td108 := .of Try.underlying108 ⟨_, rfl, rfl⟩ (by kernel_rfl) (fun ρ => by kernel_rfl) (by kernel_rfl)
def td113 : TD := ⟨.fn, 1, 8, .sc (.raw (.nilFunc))⟩
theorem td113Ok : TDOk Try.prog 113 td113 := .of Try.underlying113 ⟨_, _, _, rfl⟩ (by kernel_rfl) (fun ρ => by kernel_rfl) (by kernel_rfl)
def td141 : TD := ⟨.fn, 1, 8, .sc (.raw (.nilFunc))⟩
theorem td141Ok : TDOk Try.prog 141 td141 := .of Try.underlying141 ⟨_, _, _, rfl⟩ (by kernel_rfl) (fun ρ => by kernel_rfl) (by kernel_rfl)
def td78 : TD := ⟨.slice 83, 1, 24, .sc (.raw (.slice none 0 0))⟩
theorem td78Ok : TDOk Try.prog 78 td78 := .of Try.underlying78 rfl (by kernel_rfl) (fun ρ => by kernel_rfl) (by kernel_rfl)
def td83 : TD := ⟨.st [(0, 3), (1, 3), (2, 34)], 66, 80, .agg [.one (.raw (.int .i64 0)), .one (.raw (.int .i64 0)), .byt 64 (zs 64)]⟩
theorem td83Ok : TDOk Try.prog 83 td83 := .of Try.underlying83 ⟨_, rfl, rfl⟩ (by kernel_rfl) (fun ρ => by kernel_rfl) (by kernel_rfl)
def td87 : TD := ⟨.arr 3 5, 3, 3, .agg [.byt 3 (zs 3)]⟩
theorem td87Ok : TDOk Try.prog 87 td87 := .of Try.underlying87 rfl (by kernel_rfl) (fun ρ => by kernel_rfl) (by kernel_rfl)
def td92 : TD := ⟨.ptr 105, 1, 8, .sc (.raw (.pointer none))⟩
theorem td92Ok : TDOk Try.prog 92 td92 := .of Try.underlying92 rfl (by kernel_rfl) (fun ρ => by kernel_rfl) (by kernel_rfl)
def td105 : TD := ⟨.st [(0, 22), (1, 103)], 2, 48, .agg [.one (.raw (.slice none 0 0)), .one (.raw (.slice none 0 0))]⟩
theorem td105Ok : TDOk Try.prog 105 td105 := .of Try.underlying105 ⟨_, rfl, rfl⟩ (by kernel_rfl) (fun ρ => by kernel_rfl) (by kernel_rfl)
def td103 : TD := ⟨.slice 4, 1, 24, .sc (.raw (.slice none 0 0))⟩
theorem td103Ok : TDOk Try.prog 103 td103 := .of Try.underlying103 rfl (by kernel_rfl) (fun ρ => by kernel_rfl) (by kernel_rfl)
def td44 : TD := ⟨.slice 5, 1, 24, .sc (.raw (.slice none 0 0))⟩
theorem td44Ok : TDOk Try.prog 44 td44 := .of Try.underlying44 rfl (by kernel_rfl) (fun ρ => by kernel_rfl) (by kernel_rfl)
def tab : Tab := [(3, td3), (4, td4), (5, td5), (25, td25), (34, td34), (22, td22), (23, td23), (39, td39), (150, td150), (79, td79), (108, td108), (113, td113), (141, td141), (78, td78), (83, td83), (87, td87), (92, td92), (105, td105), (103, td103), (44, td44)]
theorem tabOk : TabOk Try.prog tab := tab_cons td3Ok (tab_cons td4Ok (tab_cons td5Ok (tab_cons td25Ok (tab_cons td34Ok (tab_cons td22Ok (tab_cons td23Ok (tab_cons td39Ok (tab_cons td150Ok (tab_cons td79Ok (tab_cons td108Ok (tab_cons td113Ok (tab_cons td141Ok (tab_cons td78Ok (tab_cons td83Ok (tab_cons td87Ok (tab_cons td92Ok (tab_cons td105Ok (tab_cons td103Ok (tab_cons td44Ok (tab_nil))))))))))))))))))))
end Go.Proofs.Ytdmcbfmpnakdfaa.Eng.St
/- The iterator's contracts in the words of the engine. -/
namespace Go.Proofs.Ytdmcbfmpnakdfaa.Eng.St
open Go Go.RowKit Go.Shelf Go.Proofs Go.Proofs.Ytdmcbfmpnakdfaa.Gf Go.Proofs.Ytdmcbfmpnakdfaa.Rf
set_option maxRecDepth 20000
set_option maxHeartbeats 4000000
theorem c133 : Callable Try.prog 133 := ⟨⟨_, Try.func133, by kernel_rfl, by kernel_rfl⟩⟩
theorem c132 : Callable Try.prog 132 := ⟨⟨_, Try.func132, by kernel_rfl, by kernel_rfl⟩⟩
theorem c131 : Callable Try.prog 131 := ⟨⟨_, Try.func131, by kernel_rfl, by kernel_rfl⟩⟩
theorem c113 : Callable Try.prog 113 := ⟨⟨_, Try.func113, by kernel_rfl, by kernel_rfl⟩⟩
theorem c112 : Callable Try.prog 112 := ⟨⟨_, Try.func112, by kernel_rfl, by kernel_rfl⟩⟩
theorem c111 : Callable Try.prog 111 := ⟨⟨_, Try.func111, by kernel_rfl, by kernel_rfl⟩⟩
theorem c110 : Callable Try.prog 110 := ⟨⟨_, Try.func110, by kernel_rfl, by kernel_rfl⟩⟩
theorem c109 : Callable Try.prog 109 := ⟨⟨_, Try.func109, by kernel_rfl, by kernel_rfl⟩⟩
def roL (h : LHp) : LHp := h.map (Option.map ABlk.ro)
def rowB (b : Option ABlk) : Bool := match b with
  | some (.map ..) => false
  | _ => true
def rowsL (h : LHp) : Bool := h.all fun b => rowB b && (msO b).all (· < h.length)
theorem hpL_ro {h : LHp} {i : Nat} {b : ABlk} (hb : hpL (roL h) i = some b) : ∃ b0, hpL h i = some b0 ∧ b = b0.ro := by
  unfold hpL roL at *
  rw [List.getD_eq_getElem?_getD, List.getElem?_map] at hb
  rw [List.getD_eq_getElem?_getD]
  cases hg : h[i]? with
  | none => rw [hg] at hb; simp at hb
  | some o =>
    rw [hg] at hb
    cases o with
    | none => simp at hb
    | some b0 => simp at hb; exact ⟨b0, rfl, hb.symm⟩
theorem rowsL_spec {h : LHp} (hr : rowsL h = true) {i : Nat} {b : ABlk} (hb : hpL h i = some b) : (∃ md t sz L ms, b = .row md t sz L ms) ∧ ∀ x ∈ b.ms, x < h.length := by
  have hm : some b ∈ h := by
    unfold hpL at hb
    rw [List.getD_eq_getElem?_getD] at hb
    cases hg : h[i]? with
    | none => rw [hg] at hb; simp at hb
    | some o => rw [hg] at hb; simp at hb; subst hb; exact List.mem_of_getElem? hg
  have := List.all_eq_true.1 hr _ hm
  rw [Bool.and_eq_true] at this
  refine ⟨?_, ?_⟩
  · cases b with
    | row md t sz L ms => exact ⟨_, _, _, _, _, rfl⟩
    | map es ms => simp [rowB] at this
  · intro x hx
    have h2 := List.all_eq_true.1 this.2 x hx
    simpa using h2
theorem ABlk.ro_w {b : ABlk} (h : ∃ md t sz L ms, b = .row md t sz L ms) : b.ro.w = false := by
  obtain ⟨md, t, sz, L, ms, rfl⟩ := h
  cases md <;> rfl
theorem ABlk.ro_ms (b : ABlk) : b.ro.ms = b.ms := by
  cases b with
  | row md t sz L ms => cases md <;> rfl
  | map es ms => rfl
/-- All that there is, read alone. -/
theorem Sat.roBlk {Γ : Ctx} {ρ : Ren} {w : World} {h : LHp} (hs : Sat Γ ρ (hpL h) w) (hr : rowsL h = true) (n : Nat) (r0 : Ren) {i : Nat} {b : ABlk} (hb : hpL (roL h) i = some b) : BlkSat (top w n r0) ρ w i b ∧ b.w = false := by
  obtain ⟨b0, h0, rfl⟩ := hpL_ro hb
  have hb0 := (rowsL_spec hr h0).1
  refine ⟨(hs.blk i b0 h0).asRo hb0 _ _ _ (fun R hR x hx => ?_), ABlk.ro_w hb0⟩
  obtain ⟨h1, h2, h3⟩ := hR x hx
  exact ⟨Nat.lt_of_lt_of_le h1 hs.size, id, (hs.frame _ h1 h2).trans h3⟩
theorem Sat.roTop {Γ : Ctx} {ρ : Ren} {w : World} {h : LHp} (hs : Sat Γ ρ (hpL h) w) (hr : rowsL h = true) (n : Nat) : Sat (top w n ρ) ρ (hpL (roL h)) w :=
  Sat.top fun _ _ hb => Sat.roBlk hs hr n ρ hb
theorem roL_length (h : LHp) : (roL h).length = h.length := by simp [roL]
theorem Sat.later {Γ : Ctx} {ρ : Ren} {hp : AHeap} {w w' : World} (h : Sat Γ ρ hp w) (hb : Below w.heap.size w w') : Sat Γ ρ hp w' := h.grow hb.block hb.size hb.os hb.tape hb.output
theorem dens_map (ρ : Ren) : ∀ cs : List SV, AV.dens ρ (cs.map .sc) = SV.dens ρ cs
  | [] => rfl
  | c :: cs => by simp only [List.map_cons, AV.dens, SV.dens, dens_map ρ cs]; rfl
theorem dens_arr (ρ : Ren) (i : Int) (cs : List SV) : (AV.dens ρ (iv i :: cs.map .sc)).toArray = #[Value.int .i64 i] ++ (SV.dens ρ cs).toArray := by
  rw [AV.dens, dens_map]
  simp [AV.den, SV.den]
/-- The closure's contract, seen from the world. -/
theorem holdsIn_of {ρ : Ren} {w : World} {hr : LHp} (hs : ∀ W, Below w.heap.size w W → Sat (top W hr.length ρ) ρ (hpL hr) W) {g N : Nat} {cs : List SV} {p : Nat → Bool} (hg : Callable Try.prog g)
    (hc : ∀ i : Nat, i < N → ∃ h', FunT Try.prog g (iv (i : Nat) :: cs.map .sc) hr (bv (p i)) h') : HoldsIn w g (SV.dens ρ cs).toArray N p := by
  refine ⟨fun args w => run_callFunc hg args w, fun i W hi hB => ?_⟩
  obtain ⟨h', hF⟩ := hc i hi
  have := hF.below (by intro h; cases h) ρ W (hs W hB)
  rw [dens_arr] at this
  refine this.mono fun e w' he => ?_
  obtain ⟨⟨ρ', e1⟩, e2⟩ := he
  exact ⟨e1, e2⟩
theorem one_cell {Γ : Ctx} {ρ : Ren} {w : World} {id : Nat} {t : TypeId} {sz : Nat} {v : SV} {r : Segs} {ms : List Nat} (h : BlkSat Γ ρ w id (.row .one t sz [.one v :: r] ms)) : (ρ id).sh = 0 ∧ w.cell? ⟨(ρ id).b, 0, none⟩ = some (v.den ρ) := by
  obtain ⟨_, _, _, c, h1, h2, h3, _⟩ := h
  refine ⟨h3, ?_⟩
  have h4 : c[0]? = some (v.den ρ) := by
    rw [← Array.getElem?_toList, h2]
    simp [rowDen, Segs.den, Seg.den]
  simp [World.cell?, h1, h4]
/-- What the iterator over the columns finds: the row, boxed; the closure, boxed. -/
structure ItAt (h : LHp) (r b1 b2 g N : Nat) (cs : List SV) (p : Nat → Bool) : Prop where
  le : N ≤ 64
  rows : rowsL h = true
  b1 : ∃ ms, hpL h b1 = some (.row .one 79 1 [[.one (.ptr r 0 2 0)]] ms)
  b2 : ∃ ms, hpL h b2 = some (.row .one 113 1 [[.one (.fn (.func g) [] cs)]] ms)
  r : ∃ c cap s2 ms, hpL h r = some (.row .one 108 2 [[.one (.sl c 0 64 N cap), s2]] ms)
  ok : Callable Try.prog g
  con : ∀ i : Nat, i < N → ∃ h', FunT Try.prog g (iv (i : Nat) :: cs.map .sc) (roL h) (bv (p i)) h'
theorem row_cell {Γ : Ctx} {ρ : Ren} {w : World} {h : LHp} {r c N : Nat} {cap : Option Nat} {s2 : Seg} {ms : List Nat} (hs : Sat Γ ρ (hpL h) w) (hr : hpL h r = some (.row .one 108 2 [[.one (.sl c 0 64 N cap), s2]] ms)) :
    ∃ A k, (ρ r).sh = 0 ∧ w.cell? ⟨(ρ r).b, 0, none⟩ = some (.slice A N k) := by
  obtain ⟨h1, h2⟩ := one_cell (hs.blk _ _ hr)
  cases cap <;> exact ⟨_, _, h1, h2⟩
theorem whichAt_of {Γ : Ctx} {ρ : Ren} {w : World} {h : LHp} {r b1 b2 g N : Nat} {cs : List SV} {p : Nat → Bool} (hs : Sat Γ ρ (hpL h) w) (hi : ItAt h r b1 b2 g N cs p) :
    (ρ b1).sh = 0 ∧ (ρ b2).sh = 0 ∧ WhichAt w (ρ b1).b (ρ b2).b N p := by
  obtain ⟨hN, hrow, ⟨m1, e1⟩, ⟨m2, e2⟩, ⟨c, cap, s2, m3, e3⟩, hg, hc⟩ := hi
  obtain ⟨x1, y1⟩ := one_cell (hs.blk _ _ e1)
  obtain ⟨x2, y2⟩ := one_cell (hs.blk _ _ e2)
  obtain ⟨A, k, x3, y3⟩ := row_cell hs e3
  refine ⟨x1, x2, hN, (ρ r).b, (ρ r).sh + 0 * 2 + 0, g, (SV.dens ρ cs).toArray, A, k, y1, ?_, y2, ?_⟩
  · rw [x3]; exact y3
  · refine holdsIn_of (fun W hB => ?_) hg hc
    rw [roL_length]
    exact Sat.roTop (Sat.later hs hB) hrow _
theorem own_new {Γ : Ctx} {ρ : Ren} {w w' : World} {h : LHp} {o : List Int} {v : Value} (hs : Sat Γ ρ (hpL h) w) (hn : Γ.n0 ≤ h.length) (hrow : rowsL h = true) (hB : Below w.heap.size w w')
    (hr : w'.ownsRow w.heap.size 3 1 v o.length (o.map (Value.int .i64))) (h0 : v = .slice none 0 0 ↔ o = []) : ∃ ρ', v = (nrS o h.length).den ρ' ∧ Sat Γ ρ' (hpL (h ++ [nrB o])) w' := by
  have hs' := Sat.later hs hB
  have hk : ∀ x : Option ABlk, hpL (h ++ [x]) = upd (hpL h) h.length x := fun x => by
    funext i
    unfold hpL upd
    rcases Nat.lt_trichotomy i h.length with hi | hi | hi
    · rw [if_neg (by omega), List.getD_eq_getElem?_getD, List.getElem?_append_left hi, ← List.getD_eq_getElem?_getD]
    · subst hi; simp
    · rw [if_neg (by omega), List.getD_eq_getElem?_getD, List.getElem?_eq_none (by simp; omega)]
      show _ = h.getD i none
      rw [List.getD_eq_getElem?_getD, List.getElem?_eq_none (by omega)]
  by_cases ho : o = []
  · have hv := h0.2 ho
    subst ho
    refine ⟨ρ, hv, ?_⟩
    show Sat Γ ρ (hpL (h ++ [none])) w'
    rw [hk]
    have : upd (hpL h) h.length none = hpL h := by
      funext i
      unfold upd
      by_cases hi : i = h.length
      · rw [if_pos hi]; subst hi; simp [hpL]
      · rw [if_neg hi]
    rw [this]; exact hs'
  · obtain ⟨hl, hr⟩ := hr
    rcases hr with ⟨hv, _⟩ | ⟨g, cap, cur, hv, hg, hh, hn1, hn2, hsz, htk⟩
    · exact absurd (h0.1 hv) ho
    have hpos : 0 < o.length := by cases o with | nil => exact absurd rfl ho | cons _ _ => simp
    obtain ⟨e1, e2⟩ := nr_row h.length hpos
    refine ⟨updR ρ h.length ⟨g, 0, cap⟩, ?_, ?_⟩
    · rw [e1, hv]
      simp [SV.den, updR_same]
    · rw [e2, hk]
      refine hs'.fresh (by unfold hpL; simp) hn (fun i b hb hx => ?_) ?_ (fun i b hb hx => ?_) (fun hlt => ?_)
      · have := (rowsL_spec hrow hb).2 _ hx
        omega
      · refine ⟨fun e he => ?_, fun e he x hx => ?_, by rw [updR_same]; simpa using hn1, cur, [], cur.toList.drop (o.length * 1), by rw [updR_same]; exact hh, ?_, by rw [updR_same]; rfl, by rw [updR_same]; simp; omega⟩
        · obtain ⟨z, _, rfl⟩ := List.mem_map.1 he
          exact ⟨rfl, rfl⟩
        · obtain ⟨z, _, rfl⟩ := List.mem_map.1 he
          cases hx
        · rw [rowDen_int, ← htk]
          simp
      · have := (hs.blk i b hb).lt
        have hx2 : (ρ i).b = g := hx
        omega
      · have h9 := hs.size
        have h10 : g < Γ.W.heap.size := hlt
        omega
theorem append_T {h : LHp} {r b1 b2 g N : Nat} {cs : List SV} {p : Nat → Bool} (hi : ItAt h r b1 b2 g N cs p) :
    FunT Try.prog 132 [.sc nilS, .sc (.fn (.func 133) [] [.ptr b1 0 1 0, .ptr b2 0 1 0])] h (.sc (nrS (hold p N) h.length)) (h ++ [nrB (hold p N)]) := by
  intro Γ ρ w hn hs
  obtain ⟨x1, x2, hW⟩ := whichAt_of hs hi
  have := callsIn_wide.1 (appendSeq_in hW)
  have ea : (AV.dens ρ [.sc nilS, .sc (.fn (.func 133) [] [.ptr b1 0 1 0, .ptr b2 0 1 0])]).toArray = #[.slice none 0 0, .func (.func 133) #[] #[ptr0 (ρ b1).b, ptr0 (ρ b2).b]] := by
    simp [AV.dens, AV.den, SV.den, SV.dens, x1, x2]
  rw [ea]
  refine this.mono fun e w' he => ?_
  obtain ⟨v, rfl, h1, h2, h3⟩ := he
  obtain ⟨ρ', y1, y2⟩ := own_new hs (by omega) hi.rows h3 h1 h2
  exact ⟨ρ', v, rfl, .inr y1, y2⟩
theorem collect_T {h : LHp} {r b1 b2 g N : Nat} {cs : List SV} {p : Nat → Bool} (hi : ItAt h r b1 b2 g N cs p) :
    FunT Try.prog 110 [.sc (.fn (.func 133) [] [.ptr b1 0 1 0, .ptr b2 0 1 0])] h (.sc (nrS (hold p N) h.length)) (h ++ [nrB (hold p N)]) := by
  intro Γ ρ w hn hs
  obtain ⟨x1, x2, hW⟩ := whichAt_of hs hi
  have := callsIn_wide.1 (collect_in hW)
  have ea : (AV.dens ρ [.sc (.fn (.func 133) [] [.ptr b1 0 1 0, .ptr b2 0 1 0])]).toArray = #[.func (.func 133) #[] #[ptr0 (ρ b1).b, ptr0 (ρ b2).b]] := by
    simp [AV.dens, AV.den, SV.den, SV.dens, x1, x2]
  rw [ea]
  refine this.mono fun e w' he => ?_
  obtain ⟨v, rfl, h1, h2, h3⟩ := he
  obtain ⟨ρ', y1, y2⟩ := own_new hs (by omega) hi.rows h3 h1 h2
  exact ⟨ρ', v, rfl, .inr y1, y2⟩
theorem whole_T {h : LHp} {r N c : Nat} {cap : Option Nat} {s2 : Seg} {ms : List Nat} {p : Nat → Bool} (hN : N ≤ 64) (hrow : rowsL h = true) (hr : hpL h r = some (.row .one 108 2 [[.one (.sl c 0 64 N cap), s2]] ms)) (hrl : r < h.length)
    (hc : ∀ i : Nat, i < N → ∃ h', FunT Try.prog 131 [iv (i : Nat), .sc (.ptr h.length 0 1 0)] (roL h ++ [some (.row .ro 79 1 [[.one (.ptr r 0 2 0)]] [r])]) (bv (p i)) h') :
    FunT Try.prog 109 [.sc (.ptr r 0 2 0)] h (bv (decide (hold p N = []))) h := by
  intro Γ ρ w hn hs
  obtain ⟨A, k, x3, y3⟩ := row_cell hs hr
  have := callsIn_wide.1 (whole_in (p := p) y3 hN fun W hB hcell => ?_)
  · have ea : (AV.dens ρ [.sc (.ptr r 0 2 0)]).toArray = #[.pointer (some ⟨(ρ r).b, 0, none⟩)] := by
      simp [AV.dens, AV.den, SV.den, x3]
    rw [ea]
    refine this.mono fun e w' he => ?_
    obtain ⟨rfl, h3⟩ := he
    exact ⟨ρ, _, rfl, .inr rfl, Sat.later hs h3⟩
  · obtain ⟨ρ', hρ⟩ : ∃ ρ', ρ' = updR ρ h.length ⟨w.heap.size, 0, 1⟩ := ⟨_, rfl⟩
    have hsn : ρ' h.length = ⟨w.heap.size, 0, 1⟩ := by rw [hρ, updR_same]
    have hne : ∀ i, i < h.length → ρ' i = ρ i := fun i hi => by rw [hρ, updR_ne _ _ (by omega)]
    obtain ⟨H, hH⟩ : ∃ H, H = roL h ++ [some (ABlk.row .ro 79 1 [[.one (.ptr r 0 2 0)]] [r])] := ⟨_, rfl⟩
    have := holdsIn_of (ρ := ρ') (w := W) (hr := H) (g := 131) (N := N) (cs := [.ptr h.length 0 1 0]) (p := p) (fun W' hB' => ?_) c131 (fun i hi => by rw [hH]; exact hc i hi)
    · have e2 : (SV.dens ρ' [.ptr h.length 0 1 0]).toArray = #[ptr0 w.heap.size] := by simp [SV.dens, SV.den, hsn]
      rwa [e2] at this
    · have hBB := hB.trans (hB'.mono hB.size)
      have hs' := Sat.later hs hBB
      have hcell' : W'.cell? ⟨w.heap.size, 0, none⟩ = some (.pointer (some ⟨(ρ r).b, 0, none⟩)) := (hB'.cell (p := ⟨w.heap.size, 0, none⟩) (World.block_lt_of_cell? _ _ hcell)).trans hcell
      refine Sat.top fun i b hb => ?_
      rcases Nat.lt_or_ge i h.length with hi | hi
      · have hb' : hpL (roL h) i = some b := by
          rw [← hb, hH]
          unfold hpL
          rw [List.getD_eq_getElem?_getD, List.getD_eq_getElem?_getD, List.getElem?_append_left (by rw [roL_length]; exact hi)]
        obtain ⟨g1, g2⟩ := Sat.roBlk hs' hrow H.length ρ' hb'
        refine ⟨g1.congr (hne i hi) (fun x hx => hne x ?_) rfl, g2⟩
        obtain ⟨b0, h0, rfl⟩ := hpL_ro hb'
        rw [ABlk.ro_ms] at hx
        exact (rowsL_spec hrow h0).2 x hx
      · have hlt := hpL_lt hb
        have hil : i = h.length := by rw [hH, List.length_append, roL_length] at hlt; simp at hlt; omega
        subst hil
        have hbb : b = .row .ro 79 1 [[.one (.ptr r 0 2 0)]] [r] := by
          have : hpL H h.length = some (.row .ro 79 1 [[.one (.ptr r 0 2 0)]] [r]) := by
            rw [hH]; unfold hpL
            rw [List.getD_eq_getElem?_getD, List.getElem?_append_right (by rw [roL_length]; exact Nat.le_refl _)]
            simp [roL_length]
          rw [this] at hb
          exact (Option.some.inj hb).symm
        subst hbb
        refine ⟨?_, rfl⟩
        have hlt2 := World.block_lt_of_cell? _ _ hcell'
        unfold World.cell? at hcell'
        cases hg : W'.heap[w.heap.size]? with
        | none => simp [hg] at hcell'
        | some o =>
          cases o with
          | cells c2 t2 fr2 =>
            simp [hg] at hcell'
            refine ⟨fun e he => ?_, fun e he x hx => ?_, by rw [hsn]; exact Nat.le_refl _, c2, t2, fr2, [], c2.toList.drop 1, by rw [hsn]; exact hg, ?_, by rw [hsn]; rfl, by rw [hsn]; exact hlt2, by rw [hsn]⟩
            · obtain rfl := List.mem_singleton.1 he; exact ⟨rfl, rfl⟩
            · obtain rfl := List.mem_singleton.1 he; exact hx
            · have hv : (SV.ptr r 0 2 0).den ρ' = .pointer (some ⟨(ρ r).b, 0, none⟩) := by simp [SV.den, hne r hrl, x3]
              have h5 : c2.toList[0]? = some (.pointer (some ⟨(ρ r).b, 0, none⟩)) := by rw [Array.getElem?_toList]; exact hcell'
              cases hl : c2.toList with
              | nil => rw [hl] at h5; simp at h5
              | cons x l =>
                rw [hl] at h5
                simp at h5
                subst h5
                simp [rowDen, Segs.den, Seg.den, hv]
          | _ => simp [hg] at hcell'
end Go.Proofs.Ytdmcbfmpnakdfaa.Eng.St
/- The row: what its small functions do. -/
namespace Go.Proofs.Ytdmcbfmpnakdfaa.Eng.St
open Go Go.RowKit Go.Shelf Go.Proofs Go.Proofs.Ytdmcbfmpnakdfaa.Gf Go.Proofs.Ytdmcbfmpnakdfaa.Rf
set_option maxRecDepth 20000
set_option maxHeartbeats 4000000
theorem c50 : Callable Try.prog 50 := ⟨⟨_, Try.func50, by kernel_rfl, by kernel_rfl⟩⟩
theorem c52 : Callable Try.prog 52 := ⟨⟨_, Try.func52, by kernel_rfl, by kernel_rfl⟩⟩
theorem c53 : Callable Try.prog 53 := ⟨⟨_, Try.func53, by kernel_rfl, by kernel_rfl⟩⟩
theorem c54 : Callable Try.prog 54 := ⟨⟨_, Try.func54, by kernel_rfl, by kernel_rfl⟩⟩
theorem c55 : Callable Try.prog 55 := ⟨⟨_, Try.func55, by kernel_rfl, by kernel_rfl⟩⟩
theorem c56 : Callable Try.prog 56 := ⟨⟨_, Try.func56, by kernel_rfl, by kernel_rfl⟩⟩
theorem c57 : Callable Try.prog 57 := ⟨⟨_, Try.func57, by kernel_rfl, by kernel_rfl⟩⟩
theorem c58 : Callable Try.prog 58 := ⟨⟨_, Try.func58, by kernel_rfl, by kernel_rfl⟩⟩
theorem c59 : Callable Try.prog 59 := ⟨⟨_, Try.func59, by kernel_rfl, by kernel_rfl⟩⟩
theorem c60 : Callable Try.prog 60 := ⟨⟨_, Try.func60, by kernel_rfl, by kernel_rfl⟩⟩
theorem c70 : Callable Try.prog 70 := ⟨⟨_, Try.func70, by kernel_rfl, by kernel_rfl⟩⟩
theorem c107 : Callable Try.prog 107 := ⟨⟨_, Try.func107, by kernel_rfl, by kernel_rfl⟩⟩
theorem c108 : Callable Try.prog 108 := ⟨⟨_, Try.func108, by kernel_rfl, by kernel_rfl⟩⟩
/-- How the columns lie: once mended they are a part of a block that may be greater. -/
def capX (x : Bool) (n : Nat) : Option Nat := match x with
  | true => none
  | false => some n
abbrev rowP (x : Bool) (n : Nat) : Option ABlk := some (.row .one 108 2 [[.one (.sl 1 0 64 n (capX x n)), .one (.sl 2 0 1 n (some n))]] [1, 2])
def colB (x : Bool) (L : List (List Nat)) : Option ABlk := match x with
  | true => rowX L
  | false => some (.row .ex 34 64 (L.map secS) [])
abbrev knB (K : List Nat) : Option ABlk := some (.row .ex 3 1 ((kz K).map intS) [])
abbrev rw3 (x : Bool) (n : Nat) (L : List (List Nat)) (K : List Nat) : LHp := [rowP x n, colB x L, knB K]
abbrev rpV : AV := .sc (.ptr 0 0 2 0)
abbrev nilP : AV := .sc (.raw (.pointer none))
theorem is_ok (x : Bool) (n : Nat) (L : List (List Nat)) (K : List Nat) (h0 : 0 < n) : FunT Try.prog 108 [rpV] (rw3 x n L K) (bv true) (rw3 x n L K) := by
  cases x <;>
  · refine FunT.ev tabOk mixed Try.func108 rfl ?_
    conv => whnf
    repeat (first | (refine ⟨(by kernel_rfl : chkR _ _ _ _ = true), ?_⟩; conv => whnf) | (refine EvOr.go ?_; conv => whnf))
    intro c hc
    obtain rfl : c = true := by rw [hc]; exact decide_eq_true (by omega)
    conv => whnf
    repeat (first | (refine ⟨(by kernel_rfl : chkR _ _ _ _ = true), ?_⟩; conv => whnf) | (refine EvOr.go ?_; conv => whnf))
    exact retQ.one rfl (.inr rfl) rfl (Nat.le_of_ble_eq_true rfl) rfl
theorem is_nil : FunT Try.prog 108 [nilP] [] (bv false) [] := by
  refine FunT.ev tabOk mixed Try.func108 rfl ?_
  conv => whnf
  repeat (first | (refine ⟨(by kernel_rfl : chkR _ _ _ _ = true), ?_⟩; conv => whnf) | (refine EvOr.go ?_; conv => whnf))
  exact retQ.one rfl (.inr rfl) rfl (Nat.le_of_ble_eq_true rfl) rfl
abbrev empB : Option ABlk := some (.row .one 108 2 [[.one nilS, .one nilS]] [])
theorem is_emp : FunT Try.prog 108 [rpV] [empB] (bv false) [empB] := by
  refine FunT.ev tabOk mixed Try.func108 rfl ?_
  conv => whnf
  repeat (first | (refine ⟨(by kernel_rfl : chkR _ _ _ _ = true), ?_⟩; conv => whnf) | (refine EvOr.go ?_; conv => whnf))
  intro c hc
  obtain rfl : c = false := by rw [hc]; rfl
  conv => whnf
  repeat (first | (refine ⟨(by kernel_rfl : chkR _ _ _ _ = true), ?_⟩; conv => whnf) | (refine EvOr.go ?_; conv => whnf))
  exact retQ.one rfl (.inr rfl) rfl (Nat.le_of_ble_eq_true rfl) rfl
def hasE (n : Nat) (c : Int) : Int := if 0 ≤ c ∧ c < n then 0 else 2
theorem has_ok (x : Bool) (n : Nat) (L : List (List Nat)) (K : List Nat) (h0 : 0 < n) (c : Int) : FunT Try.prog 107 [rpV, iv c] (rw3 x n L K) (iv (hasE n c)) (rw3 x n L K) := by
  have i1 := is_ok x n L K h0
  by_cases h1 : c < 0
  · have e : hasE n c = 2 := if_neg (by omega)
    rw [e]
    cases x <;>
    · refine FunT.ev tabOk mixed Try.func107 rfl ?_
      conv => whnf
      repeat (first | (refine ⟨(by kernel_rfl : chkR _ _ _ _ = true), ?_⟩; conv => whnf) | (refine EvOr.go ?_; conv => whnf))
      refine CallG.use i1 c108 [0, 1, 2] [] ?_ ?_ ?_ ?_ ?_ ?_; rfl; rfl; kernel_rfl; rfl; rfl
      conv => whnf
      repeat (first | (refine ⟨(by kernel_rfl : chkR _ _ _ _ = true), ?_⟩; conv => whnf) | (refine EvOr.go ?_; conv => whnf))
      intro c hc
      obtain rfl : c = true := by rw [hc]; exact decide_eq_true (by omega)
      conv => whnf
      repeat (first | (refine ⟨(by kernel_rfl : chkR _ _ _ _ = true), ?_⟩; conv => whnf) | (refine EvOr.go ?_; conv => whnf))
      exact retQ.one rfl (.inr rfl) rfl (Nat.le_of_ble_eq_true rfl) rfl
  · by_cases h2 : c < n
    · have e : hasE n c = 0 := if_pos (by omega)
      rw [e]
      cases x <;>
      · refine FunT.ev tabOk mixed Try.func107 rfl ?_
        conv => whnf
        repeat (first | (refine ⟨(by kernel_rfl : chkR _ _ _ _ = true), ?_⟩; conv => whnf) | (refine EvOr.go ?_; conv => whnf))
        refine CallG.use i1 c108 [0, 1, 2] [] ?_ ?_ ?_ ?_ ?_ ?_; rfl; rfl; kernel_rfl; rfl; rfl
        conv => whnf
        repeat (first | (refine ⟨(by kernel_rfl : chkR _ _ _ _ = true), ?_⟩; conv => whnf) | (refine EvOr.go ?_; conv => whnf))
        intro c hc
        obtain rfl : c = false := by rw [hc]; exact decide_eq_false (by omega)
        conv => whnf
        repeat (first | (refine ⟨(by kernel_rfl : chkR _ _ _ _ = true), ?_⟩; conv => whnf) | (refine EvOr.go ?_; conv => whnf))
        intro c hc
        obtain rfl : c = false := by rw [hc]; exact decide_eq_false (by omega)
        conv => whnf
        repeat (first | (refine ⟨(by kernel_rfl : chkR _ _ _ _ = true), ?_⟩; conv => whnf) | (refine EvOr.go ?_; conv => whnf))
        exact retQ.one rfl (.inr rfl) rfl (Nat.le_of_ble_eq_true rfl) rfl
    · have e : hasE n c = 2 := if_neg (by omega)
      rw [e]
      cases x <;>
      · refine FunT.ev tabOk mixed Try.func107 rfl ?_
        conv => whnf
        repeat (first | (refine ⟨(by kernel_rfl : chkR _ _ _ _ = true), ?_⟩; conv => whnf) | (refine EvOr.go ?_; conv => whnf))
        refine CallG.use i1 c108 [0, 1, 2] [] ?_ ?_ ?_ ?_ ?_ ?_; rfl; rfl; kernel_rfl; rfl; rfl
        conv => whnf
        repeat (first | (refine ⟨(by kernel_rfl : chkR _ _ _ _ = true), ?_⟩; conv => whnf) | (refine EvOr.go ?_; conv => whnf))
        intro c hc
        obtain rfl : c = false := by rw [hc]; exact decide_eq_false (by omega)
        conv => whnf
        repeat (first | (refine ⟨(by kernel_rfl : chkR _ _ _ _ = true), ?_⟩; conv => whnf) | (refine EvOr.go ?_; conv => whnf))
        intro c hc
        obtain rfl : c = true := by rw [hc]; exact decide_eq_true (by omega)
        conv => whnf
        repeat (first | (refine ⟨(by kernel_rfl : chkR _ _ _ _ = true), ?_⟩; conv => whnf) | (refine EvOr.go ?_; conv => whnf))
        exact retQ.one rfl (.inr rfl) rfl (Nat.le_of_ble_eq_true rfl) rfl
theorem has_nil (c : Int) : FunT Try.prog 107 [nilP, iv c] [] (iv 1) [] := by
  refine FunT.ev tabOk mixed Try.func107 rfl ?_
  conv => whnf
  repeat (first | (refine ⟨(by kernel_rfl : chkR _ _ _ _ = true), ?_⟩; conv => whnf) | (refine EvOr.go ?_; conv => whnf))
  refine CallG.use is_nil c108 [] [] ?_ ?_ ?_ ?_ ?_ ?_; rfl; rfl; kernel_rfl; rfl; rfl
  conv => whnf
  repeat (first | (refine ⟨(by kernel_rfl : chkR _ _ _ _ = true), ?_⟩; conv => whnf) | (refine EvOr.go ?_; conv => whnf))
  exact retQ.one rfl (.inr rfl) rfl (Nat.le_of_ble_eq_true rfl) rfl
theorem has_emp (c : Int) : FunT Try.prog 107 [rpV, iv c] [empB] (iv 1) [empB] := by
  refine FunT.ev tabOk mixed Try.func107 rfl ?_
  conv => whnf
  repeat (first | (refine ⟨(by kernel_rfl : chkR _ _ _ _ = true), ?_⟩; conv => whnf) | (refine EvOr.go ?_; conv => whnf))
  refine CallG.use is_emp c108 [0] [] ?_ ?_ ?_ ?_ ?_ ?_; rfl; rfl; kernel_rfl; rfl; rfl
  conv => whnf
  repeat (first | (refine ⟨(by kernel_rfl : chkR _ _ _ _ = true), ?_⟩; conv => whnf) | (refine EvOr.go ?_; conv => whnf))
  exact retQ.one rfl (.inr rfl) rfl (Nat.le_of_ble_eq_true rfl) rfl
theorem cols_ok (x : Bool) (n : Nat) (L : List (List Nat)) (K : List Nat) (h0 : 0 < n) : FunT Try.prog 70 [rpV] (rw3 x n L K) (iv (n : Nat)) (rw3 x n L K) := by
  have i1 := is_ok x n L K h0
  cases x <;>
  · refine FunT.ev tabOk mixed Try.func70 rfl ?_
    conv => whnf
    repeat (first | (refine ⟨(by kernel_rfl : chkR _ _ _ _ = true), ?_⟩; conv => whnf) | (refine EvOr.go ?_; conv => whnf))
    refine CallG.use i1 c108 [0, 1, 2] [] ?_ ?_ ?_ ?_ ?_ ?_; rfl; rfl; kernel_rfl; rfl; rfl
    conv => whnf
    repeat (first | (refine ⟨(by kernel_rfl : chkR _ _ _ _ = true), ?_⟩; conv => whnf) | (refine EvOr.go ?_; conv => whnf))
    exact retQ.one rfl (.inr rfl) rfl (Nat.le_of_ble_eq_true rfl) rfl
theorem cols_nil : FunT Try.prog 70 [nilP] [] (iv 0) [] := by
  refine FunT.ev tabOk mixed Try.func70 rfl ?_
  conv => whnf
  repeat (first | (refine ⟨(by kernel_rfl : chkR _ _ _ _ = true), ?_⟩; conv => whnf) | (refine EvOr.go ?_; conv => whnf))
  refine CallG.use is_nil c108 [] [] ?_ ?_ ?_ ?_ ?_ ?_; rfl; rfl; kernel_rfl; rfl; rfl
  conv => whnf
  repeat (first | (refine ⟨(by kernel_rfl : chkR _ _ _ _ = true), ?_⟩; conv => whnf) | (refine EvOr.go ?_; conv => whnf))
  exact retQ.one rfl (.inr rfl) rfl (Nat.le_of_ble_eq_true rfl) rfl
end Go.Proofs.Ytdmcbfmpnakdfaa.Eng.St
/- The row: put, lose, get, made. -/
namespace Go.Proofs.Ytdmcbfmpnakdfaa.Eng.St
open Go Go.RowKit Go.Shelf Go.Proofs Go.Proofs.Ytdmcbfmpnakdfaa.Gf Go.Proofs.Ytdmcbfmpnakdfaa.Rf
set_option maxRecDepth 20000
set_option maxHeartbeats 4000000
theorem has_in (x : Bool) (n : Nat) (L : List (List Nat)) (K : List Nat) (k : Nat) (hk : k < n) : FunT Try.prog 107 [rpV, iv (k : Nat)] (rw3 x n L K) (iv 0) (rw3 x n L K) := by
  have := has_ok x n L K (by omega) (k : Int)
  rwa [show hasE n (k : Int) = 0 from if_pos (by omega)] at this
theorem has_out (x : Bool) (n : Nat) (L : List (List Nat)) (K : List Nat) (h0 : 0 < n) (c : Int) (hc : ¬ (0 ≤ c ∧ c < n)) : FunT Try.prog 107 [rpV, iv c] (rw3 x n L K) (iv 2) (rw3 x n L K) := by
  have := has_ok x n L K h0 c
  rwa [show hasE n c = 2 from if_neg hc] at this
theorem kn_get {K : List Nat} {k : Nat} (hk : k < K.length) : ((kz K).map intS)[0 + (k : Int).toNat]? = some (intS (K.getD k 0 : Nat)) := by
  have h : (kz K).length = K.length := by simp [kz]
  rw [List.getD_eq_getElem?_getD, List.getElem?_eq_getElem hk]
  simp [kz, hk]
theorem kn_set {K : List Nat} {k v : Nat} : (kz (K.set k v)).map intS = ((kz K).map intS).set (0 + (k : Int).toNat) (intS (v : Nat)) := by
  simp [kz, List.map_set]
theorem put_out (x : Bool) (n : Nat) (L : List (List Nat)) (K : List Nat) (h0 : 0 < n) (c : Int) (s : List Nat) (hc : ¬ (0 ≤ c ∧ c < n)) : FunT Try.prog 52 [rpV, iv c, secV s] (rw3 x n L K) (iv 2) (rw3 x n L K) := by
  have i1 := has_out x n L K h0 c hc
  cases x <;>
  · refine FunT.ev tabOk mixed Try.func52 rfl ?_
    conv => whnf
    repeat (first | (refine ⟨(by kernel_rfl : chkR _ _ _ _ = true), ?_⟩; conv => whnf) | (refine EvOr.go ?_; conv => whnf))
    refine CallG.use i1 c107 [0, 1, 2] [] ?_ ?_ ?_ ?_ ?_ ?_; rfl; rfl; kernel_rfl; rfl; rfl
    conv => whnf
    repeat (first | (refine ⟨(by kernel_rfl : chkR _ _ _ _ = true), ?_⟩; conv => whnf) | (refine EvOr.go ?_; conv => whnf))
    intro c hc
    obtain rfl : c = true := by rw [hc]; rfl
    conv => whnf
    repeat (first | (refine ⟨(by kernel_rfl : chkR _ _ _ _ = true), ?_⟩; conv => whnf) | (refine EvOr.go ?_; conv => whnf))
    exact retQ.one rfl (.inr rfl) rfl (Nat.le_of_ble_eq_true rfl) rfl
theorem put_nil (c : Int) (s : List Nat) : FunT Try.prog 52 [nilP, iv c, secV s] [] (iv 1) [] := by
  refine FunT.ev tabOk mixed Try.func52 rfl ?_
  conv => whnf
  repeat (first | (refine ⟨(by kernel_rfl : chkR _ _ _ _ = true), ?_⟩; conv => whnf) | (refine EvOr.go ?_; conv => whnf))
  refine CallG.use (has_nil c) c107 [] [] ?_ ?_ ?_ ?_ ?_ ?_; rfl; rfl; kernel_rfl; rfl; rfl
  conv => whnf
  repeat (first | (refine ⟨(by kernel_rfl : chkR _ _ _ _ = true), ?_⟩; conv => whnf) | (refine EvOr.go ?_; conv => whnf))
  intro c hc
  obtain rfl : c = true := by rw [hc]; rfl
  conv => whnf
  repeat (first | (refine ⟨(by kernel_rfl : chkR _ _ _ _ = true), ?_⟩; conv => whnf) | (refine EvOr.go ?_; conv => whnf))
  exact retQ.one rfl (.inr rfl) rfl (Nat.le_of_ble_eq_true rfl) rfl
theorem put_in (x : Bool) (n : Nat) (L : List (List Nat)) (K : List Nat) (k : Nat) (s : List Nat) (hk : k < n) (hn : n < 2 ^ 32) (hL : L.length = n) (hK : K.length = n) (hb : K.getD k 0 < 2 ^ 40) :
    FunT Try.prog 52 [rpV, iv (k : Nat), secV s] (rw3 x n L K) (iv 0) (rw3 x n (L.set k s) (K.set k (K.getD k 0 + 1))) := by
  have i1 := has_in x n L K k hk
  have g1 := row_at (S := L) (k := k) (by omega)
  have g2 := kn_get (K := K) (k := k) (by omega)
  have e1 : (L.set k s).map secS = (L.map secS).set (0 + (k : Int).toNat) (secS s) := row_setS
  have e2 : (kz (K.set k (K.getD k 0 + 1))).map intS = ((kz K).map intS).set (0 + (k : Int).toNat) (intS (K.getD k 0 + 1 : Nat)) := kn_set
  have e3 : arithI .add .i64 (K.getD k 0 : Nat) 1 = some ((K.getD k 0 + 1 : Nat) : Int) := inc_nat (by omega)
  generalize K.getD k 0 = v at *
  cases x <;>
  · show FunT _ _ _ _ _ [_, some (.row _ 34 64 ((L.set k s).map secS) []), some (.row _ 3 1 ((kz (K.set k (v + 1))).map intS) [])]
    rw [e1, e2]
    refine FunT.ev tabOk mixed Try.func52 rfl ?_
    conv => whnf
    repeat (first | (refine ⟨(by kernel_rfl : chkR _ _ _ _ = true), ?_⟩; conv => whnf) | (refine EvOr.go ?_; conv => whnf))
    refine CallG.use i1 c107 [0, 1, 2] [] ?_ ?_ ?_ ?_ ?_ ?_; rfl; rfl; kernel_rfl; rfl; rfl
    conv => whnf
    repeat (first | (refine ⟨(by kernel_rfl : chkR _ _ _ _ = true), ?_⟩; conv => whnf) | (refine EvOr.go ?_; conv => whnf))
    intro c hc
    obtain rfl : c = false := by rw [hc]; rfl
    conv => whnf
    repeat (first | (refine ⟨(by kernel_rfl : chkR _ _ _ _ = true), ?_⟩; conv => whnf) | (refine EvOr.go ?_; conv => whnf))
    refine ⟨⟨by omega, by omega⟩, ?_⟩
    conv => whnf
    repeat (first | (refine ⟨(by kernel_rfl : chkR _ _ _ _ = true), ?_⟩; conv => whnf) | (refine EvOr.go ?_; conv => whnf))
    refine ⟨_, g1, ?_⟩
    conv => whnf
    repeat (first | (refine ⟨(by kernel_rfl : chkR _ _ _ _ = true), ?_⟩; conv => whnf) | (refine EvOr.go ?_; conv => whnf))
    refine ⟨⟨by omega, by omega⟩, ?_⟩
    conv => whnf
    repeat (first | (refine ⟨(by kernel_rfl : chkR _ _ _ _ = true), ?_⟩; conv => whnf) | (refine EvOr.go ?_; conv => whnf))
    refine ⟨_, g2, ?_⟩
    conv => whnf
    repeat (first | (refine ⟨(by kernel_rfl : chkR _ _ _ _ = true), ?_⟩; conv => whnf) | (refine EvOr.go ?_; conv => whnf))
    refine ⟨_, e3, ?_⟩
    conv => whnf
    repeat (first | (refine ⟨(by kernel_rfl : chkR _ _ _ _ = true), ?_⟩; conv => whnf) | (refine EvOr.go ?_; conv => whnf))
    refine ⟨⟨by omega, by omega⟩, ?_⟩
    conv => whnf
    repeat (first | (refine ⟨(by kernel_rfl : chkR _ _ _ _ = true), ?_⟩; conv => whnf) | (refine EvOr.go ?_; conv => whnf))
    refine ⟨_, g2, ?_⟩
    conv => whnf
    repeat (first | (refine ⟨(by kernel_rfl : chkR _ _ _ _ = true), ?_⟩; conv => whnf) | (refine EvOr.go ?_; conv => whnf))
    exact retQ.one rfl (.inr rfl) rfl (Nat.le_of_ble_eq_true rfl) rfl
theorem lose_out (x : Bool) (n : Nat) (L : List (List Nat)) (K : List Nat) (h0 : 0 < n) (c : Int) (hc : ¬ (0 ≤ c ∧ c < n)) : FunT Try.prog 54 [rpV, iv c] (rw3 x n L K) (iv 2) (rw3 x n L K) := by
  have i1 := has_out x n L K h0 c hc
  cases x <;>
  · refine FunT.ev tabOk mixed Try.func54 rfl ?_
    conv => whnf
    repeat (first | (refine ⟨(by kernel_rfl : chkR _ _ _ _ = true), ?_⟩; conv => whnf) | (refine EvOr.go ?_; conv => whnf))
    refine CallG.use i1 c107 [0, 1, 2] [] ?_ ?_ ?_ ?_ ?_ ?_; rfl; rfl; kernel_rfl; rfl; rfl
    conv => whnf
    repeat (first | (refine ⟨(by kernel_rfl : chkR _ _ _ _ = true), ?_⟩; conv => whnf) | (refine EvOr.go ?_; conv => whnf))
    intro c hc
    obtain rfl : c = true := by rw [hc]; rfl
    conv => whnf
    repeat (first | (refine ⟨(by kernel_rfl : chkR _ _ _ _ = true), ?_⟩; conv => whnf) | (refine EvOr.go ?_; conv => whnf))
    exact retQ.one rfl (.inr rfl) rfl (Nat.le_of_ble_eq_true rfl) rfl
theorem lose_emp (c : Int) : FunT Try.prog 54 [rpV, iv c] [empB] (iv 1) [empB] := by
  refine FunT.ev tabOk mixed Try.func54 rfl ?_
  conv => whnf
  repeat (first | (refine ⟨(by kernel_rfl : chkR _ _ _ _ = true), ?_⟩; conv => whnf) | (refine EvOr.go ?_; conv => whnf))
  refine CallG.use (has_emp c) c107 [0] [] ?_ ?_ ?_ ?_ ?_ ?_; rfl; rfl; kernel_rfl; rfl; rfl
  conv => whnf
  repeat (first | (refine ⟨(by kernel_rfl : chkR _ _ _ _ = true), ?_⟩; conv => whnf) | (refine EvOr.go ?_; conv => whnf))
  intro c hc
  obtain rfl : c = true := by rw [hc]; rfl
  conv => whnf
  repeat (first | (refine ⟨(by kernel_rfl : chkR _ _ _ _ = true), ?_⟩; conv => whnf) | (refine EvOr.go ?_; conv => whnf))
  exact retQ.one rfl (.inr rfl) rfl (Nat.le_of_ble_eq_true rfl) rfl
theorem lose_in (x : Bool) (n : Nat) (L : List (List Nat)) (K : List Nat) (k : Nat) (hk : k < n) (hK : K.length = n) :
    FunT Try.prog 54 [rpV, iv (k : Nat)] (rw3 x n L K) (iv 0) (rw3 x n L (K.set k 0)) := by
  have i1 := has_in x n L K k hk
  have g2 := kn_get (K := K) (k := k) (by omega)
  have e2 : (kz (K.set k 0)).map intS = ((kz K).map intS).set (0 + (k : Int).toNat) (intS (0 : Nat)) := kn_set
  cases x <;>
  · show FunT _ _ _ _ _ [_, _, some (.row _ 3 1 ((kz (K.set k 0)).map intS) [])]
    rw [e2]
    refine FunT.ev tabOk mixed Try.func54 rfl ?_
    conv => whnf
    repeat (first | (refine ⟨(by kernel_rfl : chkR _ _ _ _ = true), ?_⟩; conv => whnf) | (refine EvOr.go ?_; conv => whnf))
    refine CallG.use i1 c107 [0, 1, 2] [] ?_ ?_ ?_ ?_ ?_ ?_; rfl; rfl; kernel_rfl; rfl; rfl
    conv => whnf
    repeat (first | (refine ⟨(by kernel_rfl : chkR _ _ _ _ = true), ?_⟩; conv => whnf) | (refine EvOr.go ?_; conv => whnf))
    intro c hc
    obtain rfl : c = false := by rw [hc]; rfl
    conv => whnf
    repeat (first | (refine ⟨(by kernel_rfl : chkR _ _ _ _ = true), ?_⟩; conv => whnf) | (refine EvOr.go ?_; conv => whnf))
    refine ⟨⟨by omega, by omega⟩, ?_⟩
    conv => whnf
    repeat (first | (refine ⟨(by kernel_rfl : chkR _ _ _ _ = true), ?_⟩; conv => whnf) | (refine EvOr.go ?_; conv => whnf))
    refine ⟨_, g2, ?_⟩
    conv => whnf
    repeat (first | (refine ⟨(by kernel_rfl : chkR _ _ _ _ = true), ?_⟩; conv => whnf) | (refine EvOr.go ?_; conv => whnf))
    exact retQ.one rfl (.inr rfl) rfl (Nat.le_of_ble_eq_true rfl) rfl
theorem get_out (x : Bool) (n : Nat) (L : List (List Nat)) (K : List Nat) (h0 : 0 < n) (c : Int) (hc : ¬ (0 ≤ c ∧ c < n)) : FunT Try.prog 57 [rpV, iv c] (rw3 x n L K) (.tup [secV (zs 64), iv 2]) (rw3 x n L K) := by
  have i1 := has_out x n L K h0 c hc
  cases x <;>
  · refine FunT.ev tabOk mixed Try.func57 rfl ?_
    conv => whnf
    repeat (first | (refine ⟨(by kernel_rfl : chkR _ _ _ _ = true), ?_⟩; conv => whnf) | (refine EvOr.go ?_; conv => whnf))
    refine CallG.use i1 c107 [0, 1, 2] [] ?_ ?_ ?_ ?_ ?_ ?_; rfl; rfl; kernel_rfl; rfl; rfl
    conv => whnf
    repeat (first | (refine ⟨(by kernel_rfl : chkR _ _ _ _ = true), ?_⟩; conv => whnf) | (refine EvOr.go ?_; conv => whnf))
    intro c hc
    obtain rfl : c = true := by rw [hc]; rfl
    conv => whnf
    repeat (first | (refine ⟨(by kernel_rfl : chkR _ _ _ _ = true), ?_⟩; conv => whnf) | (refine EvOr.go ?_; conv => whnf))
    exact retQ.all tabOk _ [secV (zs 64), iv 2] rfl (by first | exact .inr rfl | exact .inl rfl) (by repeat' (first | exact trivial | rfl | (intro h; cases h; done) | (refine ⟨?_, ?_⟩))) rfl (by rfl) (Nat.le_of_ble_eq_true rfl) (by rfl)
theorem get_nil (c : Int) : FunT Try.prog 57 [nilP, iv c] [] (.tup [secV (zs 64), iv 1]) [] := by
  refine FunT.ev tabOk mixed Try.func57 rfl ?_
  conv => whnf
  repeat (first | (refine ⟨(by kernel_rfl : chkR _ _ _ _ = true), ?_⟩; conv => whnf) | (refine EvOr.go ?_; conv => whnf))
  refine CallG.use (has_nil c) c107 [] [] ?_ ?_ ?_ ?_ ?_ ?_; rfl; rfl; kernel_rfl; rfl; rfl
  conv => whnf
  repeat (first | (refine ⟨(by kernel_rfl : chkR _ _ _ _ = true), ?_⟩; conv => whnf) | (refine EvOr.go ?_; conv => whnf))
  intro c hc
  obtain rfl : c = true := by rw [hc]; rfl
  conv => whnf
  repeat (first | (refine ⟨(by kernel_rfl : chkR _ _ _ _ = true), ?_⟩; conv => whnf) | (refine EvOr.go ?_; conv => whnf))
  exact retQ.all tabOk _ [secV (zs 64), iv 1] rfl (by first | exact .inr rfl | exact .inl rfl) (by repeat' (first | exact trivial | rfl | (intro h; cases h; done) | (refine ⟨?_, ?_⟩))) rfl (by rfl) (Nat.le_of_ble_eq_true rfl) (by rfl)
def getE (K : List Nat) (k : Nat) : Int := if K.getD k 0 = 0 then 5 else 0
def getS (L : List (List Nat)) (K : List Nat) (k : Nat) : List Nat := if K.getD k 0 = 0 then zs 64 else L.getD k []
theorem get_in (x : Bool) (n : Nat) (L : List (List Nat)) (K : List Nat) (k : Nat) (hk : k < n) (hL : L.length = n) (hK : K.length = n) :
    FunT Try.prog 57 [rpV, iv (k : Nat)] (rw3 x n L K) (.tup [secV (getS L K k), iv (getE K k)]) (rw3 x n L K) := by
  have i1 := has_in x n L K k hk
  have g1 := row_at (S := L) (k := k) (by omega)
  have g2 := kn_get (K := K) (k := k) (by omega)
  unfold getS getE
  by_cases hv : K.getD k 0 = 0
  · rw [if_pos hv, if_pos hv]
    rw [hv] at g2
    cases x <;>
    · refine FunT.ev tabOk mixed Try.func57 rfl ?_
      conv => whnf
      repeat (first | (refine ⟨(by kernel_rfl : chkR _ _ _ _ = true), ?_⟩; conv => whnf) | (refine EvOr.go ?_; conv => whnf))
      refine CallG.use i1 c107 [0, 1, 2] [] ?_ ?_ ?_ ?_ ?_ ?_; rfl; rfl; kernel_rfl; rfl; rfl
      conv => whnf
      repeat (first | (refine ⟨(by kernel_rfl : chkR _ _ _ _ = true), ?_⟩; conv => whnf) | (refine EvOr.go ?_; conv => whnf))
      intro c hc
      obtain rfl : c = false := by rw [hc]; rfl
      conv => whnf
      repeat (first | (refine ⟨(by kernel_rfl : chkR _ _ _ _ = true), ?_⟩; conv => whnf) | (refine EvOr.go ?_; conv => whnf))
      refine ⟨⟨by omega, by omega⟩, ?_⟩
      conv => whnf
      repeat (first | (refine ⟨(by kernel_rfl : chkR _ _ _ _ = true), ?_⟩; conv => whnf) | (refine EvOr.go ?_; conv => whnf))
      refine ⟨_, g2, ?_⟩
      conv => whnf
      repeat (first | (refine ⟨(by kernel_rfl : chkR _ _ _ _ = true), ?_⟩; conv => whnf) | (refine EvOr.go ?_; conv => whnf))
      intro c hc
      obtain rfl : c = true := by rw [hc]; rfl
      conv => whnf
      repeat (first | (refine ⟨(by kernel_rfl : chkR _ _ _ _ = true), ?_⟩; conv => whnf) | (refine EvOr.go ?_; conv => whnf))
      exact retQ.all tabOk _ [secV (zs 64), iv 5] rfl (by first | exact .inr rfl | exact .inl rfl) (by repeat' (first | exact trivial | rfl | (intro h; cases h; done) | (refine ⟨?_, ?_⟩))) rfl (by rfl) (Nat.le_of_ble_eq_true rfl) (by rfl)
  · rw [if_neg hv, if_neg hv]
    generalize K.getD k 0 = v at *
    generalize L.getD k [] = S at *
    cases x <;>
    · refine FunT.ev tabOk mixed Try.func57 rfl ?_
      conv => whnf
      repeat (first | (refine ⟨(by kernel_rfl : chkR _ _ _ _ = true), ?_⟩; conv => whnf) | (refine EvOr.go ?_; conv => whnf))
      refine CallG.use i1 c107 [0, 1, 2] [] ?_ ?_ ?_ ?_ ?_ ?_; rfl; rfl; kernel_rfl; rfl; rfl
      conv => whnf
      repeat (first | (refine ⟨(by kernel_rfl : chkR _ _ _ _ = true), ?_⟩; conv => whnf) | (refine EvOr.go ?_; conv => whnf))
      intro c hc
      obtain rfl : c = false := by rw [hc]; rfl
      conv => whnf
      repeat (first | (refine ⟨(by kernel_rfl : chkR _ _ _ _ = true), ?_⟩; conv => whnf) | (refine EvOr.go ?_; conv => whnf))
      refine ⟨⟨by omega, by omega⟩, ?_⟩
      conv => whnf
      repeat (first | (refine ⟨(by kernel_rfl : chkR _ _ _ _ = true), ?_⟩; conv => whnf) | (refine EvOr.go ?_; conv => whnf))
      refine ⟨_, g2, ?_⟩
      conv => whnf
      repeat (first | (refine ⟨(by kernel_rfl : chkR _ _ _ _ = true), ?_⟩; conv => whnf) | (refine EvOr.go ?_; conv => whnf))
      intro c hc
      obtain rfl : c = false := by rw [hc]; simp; omega
      conv => whnf
      repeat (first | (refine ⟨(by kernel_rfl : chkR _ _ _ _ = true), ?_⟩; conv => whnf) | (refine EvOr.go ?_; conv => whnf))
      refine ⟨⟨by omega, by omega⟩, ?_⟩
      conv => whnf
      repeat (first | (refine ⟨(by kernel_rfl : chkR _ _ _ _ = true), ?_⟩; conv => whnf) | (refine EvOr.go ?_; conv => whnf))
      refine ⟨_, g1, ?_⟩
      conv => whnf
      repeat (first | (refine ⟨(by kernel_rfl : chkR _ _ _ _ = true), ?_⟩; conv => whnf) | (refine EvOr.go ?_; conv => whnf))
      exact retQ.all tabOk _ [secV S, iv 0] rfl (by first | exact .inr rfl | exact .inl rfl) (by repeat' (first | exact trivial | rfl | (intro h; cases h; done) | (refine ⟨?_, ?_⟩))) rfl (by rfl) (Nat.le_of_ble_eq_true rfl) (by rfl)
theorem new_bad (c : Int) (hc : ¬ (4 ≤ c ∧ c ≤ 64)) : FunT Try.prog 50 [iv c] [] (.tup [nilP, iv 2]) [] := by
  by_cases h1 : c < 4
  · refine FunT.ev tabOk mixed Try.func50 rfl ?_
    conv => whnf
    repeat (first | (refine ⟨(by kernel_rfl : chkR _ _ _ _ = true), ?_⟩; conv => whnf) | (refine EvOr.go ?_; conv => whnf))
    intro c hc
    obtain rfl : c = true := by rw [hc]; exact decide_eq_true (by omega)
    conv => whnf
    repeat (first | (refine ⟨(by kernel_rfl : chkR _ _ _ _ = true), ?_⟩; conv => whnf) | (refine EvOr.go ?_; conv => whnf))
    exact retQ.all tabOk _ [nilP, iv 2] rfl (by first | exact .inr rfl | exact .inl rfl) (by repeat' (first | exact trivial | rfl | (intro h; cases h; done) | (refine ⟨?_, ?_⟩))) rfl (by rfl) (Nat.le_of_ble_eq_true rfl) (by rfl)
  · refine FunT.ev tabOk mixed Try.func50 rfl ?_
    conv => whnf
    repeat (first | (refine ⟨(by kernel_rfl : chkR _ _ _ _ = true), ?_⟩; conv => whnf) | (refine EvOr.go ?_; conv => whnf))
    intro c hc
    obtain rfl : c = false := by rw [hc]; exact decide_eq_false (by omega)
    conv => whnf
    repeat (first | (refine ⟨(by kernel_rfl : chkR _ _ _ _ = true), ?_⟩; conv => whnf) | (refine EvOr.go ?_; conv => whnf))
    intro c hc
    obtain rfl : c = true := by rw [hc]; exact decide_eq_true (by omega)
    conv => whnf
    repeat (first | (refine ⟨(by kernel_rfl : chkR _ _ _ _ = true), ?_⟩; conv => whnf) | (refine EvOr.go ?_; conv => whnf))
    exact retQ.all tabOk _ [nilP, iv 2] rfl (by first | exact .inr rfl | exact .inl rfl) (by repeat' (first | exact trivial | rfl | (intro h; cases h; done) | (refine ⟨?_, ?_⟩))) rfl (by rfl) (Nat.le_of_ble_eq_true rfl) (by rfl)
theorem new_ok (n : Nat) (h4 : 4 ≤ n) (h64 : n ≤ 64) : FunT Try.prog 50 [iv (n : Nat)] [] (.tup [rpV, iv 0]) (rw3 false n (List.replicate n (zs 64)) (List.replicate n 0)) := by
  have e1 : (List.replicate n (zs 64)).map secS = List.replicate n [.byt 64 (zs 64)] := List.map_replicate
  have e2 : (kz (List.replicate n 0)).map intS = List.replicate n [.one (.raw (.int .i64 0))] := by
    rw [kz, List.map_replicate, List.map_replicate]; rfl
  show FunT _ _ _ _ _ [_, some (.row .ex 34 64 ((List.replicate n (zs 64)).map secS) []), some (.row _ 3 1 ((kz (List.replicate n 0)).map intS) [])]
  rw [e1, e2]
  refine FunT.ev tabOk mixed Try.func50 rfl ?_
  conv => whnf
  repeat (first | (refine ⟨(by kernel_rfl : chkR _ _ _ _ = true), ?_⟩; conv => whnf) | (refine EvOr.go ?_; conv => whnf))
  intro c hc
  obtain rfl : c = false := by rw [hc]; exact decide_eq_false (by omega)
  conv => whnf
  repeat (first | (refine ⟨(by kernel_rfl : chkR _ _ _ _ = true), ?_⟩; conv => whnf) | (refine EvOr.go ?_; conv => whnf))
  intro c hc
  obtain rfl : c = false := by rw [hc]; exact decide_eq_false (by omega)
  conv => whnf
  repeat (first | (refine ⟨(by kernel_rfl : chkR _ _ _ _ = true), ?_⟩; conv => whnf) | (refine EvOr.go ?_; conv => whnf))
  refine ⟨⟨by omega, by omega, by show (n : Int) * 64 ≤ 2 ^ 48; omega⟩, ?_⟩
  conv => whnf
  repeat (first | (refine ⟨(by kernel_rfl : chkR _ _ _ _ = true), ?_⟩; conv => whnf) | (refine EvOr.go ?_; conv => whnf))
  refine ⟨⟨by omega, by omega, by show (n : Int) * 8 ≤ 2 ^ 48; omega⟩, ?_⟩
  conv => whnf
  repeat (first | (refine ⟨(by kernel_rfl : chkR _ _ _ _ = true), ?_⟩; conv => whnf) | (refine EvOr.go ?_; conv => whnf))
  exact retQ.allS tabOk [2, 0, 1] _ [.sc (.ptr 2 0 2 0), iv 0] rfl (by first | exact .inr rfl | exact .inl rfl) (by repeat' (first | exact trivial | rfl | (intro h; cases h; done) | (refine ⟨?_, ?_⟩))) rfl (by rfl) (by kernel_rfl) (by first | rfl | kernel_rfl)
end Go.Proofs.Ytdmcbfmpnakdfaa.Eng.St
/- The row: lost, whole, right. -/
namespace Go.Proofs.Ytdmcbfmpnakdfaa.Eng.St
open Go Go.RowKit Go.Shelf Go.Proofs Go.Proofs.Ytdmcbfmpnakdfaa.Gf Go.Proofs.Ytdmcbfmpnakdfaa.Rf
set_option maxRecDepth 20000
set_option maxHeartbeats 4000000
/-- The columns that are lost. -/
def gone (K : List Nat) (k : Nat) : Bool := decide (K.getD k 0 = 0)
abbrev lostL (n : Nat) (K : List Nat) : List Int := hold (gone K) n
abbrev bxP (r : Nat) : Option ABlk := some (.row .one 79 1 [[.one (.ptr r 0 2 0)]] [r])
abbrev bxF (g : Nat) (cs : List SV) : Option ABlk := some (.row .one 113 1 [[.one (.fn (.func g) [] cs)]] (SV.idss cs))
abbrev ll6 (x : Bool) (n : Nat) (L : List (List Nat)) (K : List Nat) : LHp := rw3 x n L K ++ [bxP 0, bxP 0, bxF 112 [.ptr 3 0 1 0]]
theorem roL3 (x : Bool) (n : Nat) (L : List (List Nat)) (K : List Nat) : roL (rw3 x n L K) = [some (.row .ro 108 2 [[.one (.sl 1 0 64 n (capX x n)), .one (.sl 2 0 1 n (some n))]] [1, 2]), rowS L, some (.row .ro 3 1 ((kz K).map intS) [])] := by
  cases x <;> rfl
abbrev ro6 (c : Option Nat) (n : Nat) (L : List (List Nat)) (K : List Nat) (l : LHp) : LHp := [some (.row .ro 108 2 [[.one (.sl 1 0 64 n c), .one (.sl 2 0 1 n (some n))]] [1, 2]), rowS L, some (.row .ro 3 1 ((kz K).map intS) [])] ++ l
abbrev roP : Option ABlk := some (.row .ro 79 1 [[.one (.ptr 0 0 2 0)]] [0])
theorem lost1_ok (x : Bool) (n : Nat) (L : List (List Nat)) (K : List Nat) (k : Nat) (hk : k < n) (hK : K.length = n) :
    FunT Try.prog 112 [iv (k : Nat), .sc (.ptr 3 0 1 0)] (roL (ll6 x n L K)) (bv (gone K k)) (roL (ll6 x n L K)) := by
  have g2 := kn_get (K := K) (k := k) (by omega)
  unfold gone
  generalize K.getD k 0 = v at *
  cases x
  · show FunT _ _ _ (ro6 (some n) n L K [roP, roP, some (.row .ro 113 1 [[.one (.fn (.func 112) [] [.ptr 3 0 1 0])]] [3])]) _ (ro6 (some n) n L K [roP, roP, some (.row .ro 113 1 [[.one (.fn (.func 112) [] [.ptr 3 0 1 0])]] [3])])
    refine FunT.ev tabOk mixed Try.func112 rfl ?_
    conv => whnf
    repeat (first | (refine ⟨(by kernel_rfl : chkR _ _ _ _ = true), ?_⟩; conv => whnf) | (refine EvOr.go ?_; conv => whnf))
    refine ⟨_, rfl, ?_⟩
    conv => whnf
    repeat (first | (refine ⟨(by kernel_rfl : chkR _ _ _ _ = true), ?_⟩; conv => whnf) | (refine EvOr.go ?_; conv => whnf))
    refine ⟨_, rfl, ?_⟩
    conv => whnf
    repeat (first | (refine ⟨(by kernel_rfl : chkR _ _ _ _ = true), ?_⟩; conv => whnf) | (refine EvOr.go ?_; conv => whnf))
    refine ⟨⟨by omega, by omega⟩, ?_⟩
    conv => whnf
    repeat (first | (refine ⟨(by kernel_rfl : chkR _ _ _ _ = true), ?_⟩; conv => whnf) | (refine EvOr.go ?_; conv => whnf))
    refine ⟨_, g2, ?_⟩
    conv => whnf
    repeat (first | (refine ⟨(by kernel_rfl : chkR _ _ _ _ = true), ?_⟩; conv => whnf) | (refine EvOr.go ?_; conv => whnf))
    intro c hc
    obtain rfl : c = decide (v = 0) := by rw [hc, Bool.eq_iff_iff]; simp
    conv => whnf
    repeat (first | (refine ⟨(by kernel_rfl : chkR _ _ _ _ = true), ?_⟩; conv => whnf) | (refine EvOr.go ?_; conv => whnf))
    exact retQ.one rfl (.inr rfl) rfl (Nat.le_of_ble_eq_true rfl) rfl
  · show FunT _ _ _ (ro6 none n L K [roP, roP, some (.row .ro 113 1 [[.one (.fn (.func 112) [] [.ptr 3 0 1 0])]] [3])]) _ (ro6 none n L K [roP, roP, some (.row .ro 113 1 [[.one (.fn (.func 112) [] [.ptr 3 0 1 0])]] [3])])
    refine FunT.ev tabOk mixed Try.func112 rfl ?_
    conv => whnf
    repeat (first | (refine ⟨(by kernel_rfl : chkR _ _ _ _ = true), ?_⟩; conv => whnf) | (refine EvOr.go ?_; conv => whnf))
    refine ⟨_, rfl, ?_⟩
    conv => whnf
    repeat (first | (refine ⟨(by kernel_rfl : chkR _ _ _ _ = true), ?_⟩; conv => whnf) | (refine EvOr.go ?_; conv => whnf))
    refine ⟨_, rfl, ?_⟩
    conv => whnf
    repeat (first | (refine ⟨(by kernel_rfl : chkR _ _ _ _ = true), ?_⟩; conv => whnf) | (refine EvOr.go ?_; conv => whnf))
    refine ⟨⟨by omega, by omega⟩, ?_⟩
    conv => whnf
    repeat (first | (refine ⟨(by kernel_rfl : chkR _ _ _ _ = true), ?_⟩; conv => whnf) | (refine EvOr.go ?_; conv => whnf))
    refine ⟨_, g2, ?_⟩
    conv => whnf
    repeat (first | (refine ⟨(by kernel_rfl : chkR _ _ _ _ = true), ?_⟩; conv => whnf) | (refine EvOr.go ?_; conv => whnf))
    intro c hc
    obtain rfl : c = decide (v = 0) := by rw [hc, Bool.eq_iff_iff]; simp
    conv => whnf
    repeat (first | (refine ⟨(by kernel_rfl : chkR _ _ _ _ = true), ?_⟩; conv => whnf) | (refine EvOr.go ?_; conv => whnf))
    exact retQ.one rfl (.inr rfl) rfl (Nat.le_of_ble_eq_true rfl) rfl
theorem whole1_ok (x : Bool) (n : Nat) (L : List (List Nat)) (K : List Nat) (k : Nat) (hk : k < n) (hK : K.length = n) :
    FunT Try.prog 131 [iv (k : Nat), .sc (.ptr 3 0 1 0)] (roL (rw3 x n L K) ++ [some (.row .ro 79 1 [[.one (.ptr 0 0 2 0)]] [0])]) (bv (gone K k)) (roL (rw3 x n L K) ++ [some (.row .ro 79 1 [[.one (.ptr 0 0 2 0)]] [0])]) := by
  have g2 := kn_get (K := K) (k := k) (by omega)
  unfold gone
  generalize K.getD k 0 = v at *
  cases x
  · show FunT _ _ _ (ro6 (some n) n L K [roP]) _ (ro6 (some n) n L K [roP])
    refine FunT.ev tabOk mixed Try.func131 rfl ?_
    conv => whnf
    repeat (first | (refine ⟨(by kernel_rfl : chkR _ _ _ _ = true), ?_⟩; conv => whnf) | (refine EvOr.go ?_; conv => whnf))
    refine ⟨_, rfl, ?_⟩
    conv => whnf
    repeat (first | (refine ⟨(by kernel_rfl : chkR _ _ _ _ = true), ?_⟩; conv => whnf) | (refine EvOr.go ?_; conv => whnf))
    refine ⟨_, rfl, ?_⟩
    conv => whnf
    repeat (first | (refine ⟨(by kernel_rfl : chkR _ _ _ _ = true), ?_⟩; conv => whnf) | (refine EvOr.go ?_; conv => whnf))
    refine ⟨⟨by omega, by omega⟩, ?_⟩
    conv => whnf
    repeat (first | (refine ⟨(by kernel_rfl : chkR _ _ _ _ = true), ?_⟩; conv => whnf) | (refine EvOr.go ?_; conv => whnf))
    refine ⟨_, g2, ?_⟩
    conv => whnf
    repeat (first | (refine ⟨(by kernel_rfl : chkR _ _ _ _ = true), ?_⟩; conv => whnf) | (refine EvOr.go ?_; conv => whnf))
    intro c hc
    obtain rfl : c = decide (v = 0) := by rw [hc, Bool.eq_iff_iff]; simp
    conv => whnf
    repeat (first | (refine ⟨(by kernel_rfl : chkR _ _ _ _ = true), ?_⟩; conv => whnf) | (refine EvOr.go ?_; conv => whnf))
    exact retQ.one rfl (.inr rfl) rfl (Nat.le_of_ble_eq_true rfl) rfl
  · show FunT _ _ _ (ro6 none n L K [roP]) _ (ro6 none n L K [roP])
    refine FunT.ev tabOk mixed Try.func131 rfl ?_
    conv => whnf
    repeat (first | (refine ⟨(by kernel_rfl : chkR _ _ _ _ = true), ?_⟩; conv => whnf) | (refine EvOr.go ?_; conv => whnf))
    refine ⟨_, rfl, ?_⟩
    conv => whnf
    repeat (first | (refine ⟨(by kernel_rfl : chkR _ _ _ _ = true), ?_⟩; conv => whnf) | (refine EvOr.go ?_; conv => whnf))
    refine ⟨_, rfl, ?_⟩
    conv => whnf
    repeat (first | (refine ⟨(by kernel_rfl : chkR _ _ _ _ = true), ?_⟩; conv => whnf) | (refine EvOr.go ?_; conv => whnf))
    refine ⟨⟨by omega, by omega⟩, ?_⟩
    conv => whnf
    repeat (first | (refine ⟨(by kernel_rfl : chkR _ _ _ _ = true), ?_⟩; conv => whnf) | (refine EvOr.go ?_; conv => whnf))
    refine ⟨_, g2, ?_⟩
    conv => whnf
    repeat (first | (refine ⟨(by kernel_rfl : chkR _ _ _ _ = true), ?_⟩; conv => whnf) | (refine EvOr.go ?_; conv => whnf))
    intro c hc
    obtain rfl : c = decide (v = 0) := by rw [hc, Bool.eq_iff_iff]; simp
    conv => whnf
    repeat (first | (refine ⟨(by kernel_rfl : chkR _ _ _ _ = true), ?_⟩; conv => whnf) | (refine EvOr.go ?_; conv => whnf))
    exact retQ.one rfl (.inr rfl) rfl (Nat.le_of_ble_eq_true rfl) rfl
theorem whole_ok (x : Bool) (n : Nat) (L : List (List Nat)) (K : List Nat) (hn : n ≤ 64) (hK : K.length = n) :
    FunT Try.prog 109 [rpV] (rw3 x n L K) (bv (decide (lostL n K = []))) (rw3 x n L K) :=
  whole_T (r := 0) (h := rw3 x n L K) hn (by cases x <;> rfl) rfl (by show 0 < 3; decide) fun i hi => ⟨_, whole1_ok x n L K i hi hK⟩
theorem which_lost : FunT Try.prog 111 [.sc (.ptr 0 0 2 0), .sc (.fn (.func 112) [] [.ptr 3 0 1 0])] [none, none, none, none] (.sc (.fn (.func 133) [] [.ptr 4 0 1 0, .ptr 5 0 1 0])) [none, none, none, none, bxP 0, bxF 112 [.ptr 3 0 1 0]] := by
  refine FunT.ev tabOk mixed Try.func111 rfl ?_
  conv => whnf
  repeat (first | (refine ⟨(by kernel_rfl : chkR _ _ _ _ = true), ?_⟩; conv => whnf) | (refine EvOr.go ?_; conv => whnf))
  exact retQ.one rfl (.inr rfl) rfl (Nat.le_of_ble_eq_true rfl) rfl
theorem itLost (x : Bool) (n : Nat) (L : List (List Nat)) (K : List Nat) (hn : n ≤ 64) (hK : K.length = n) : ItAt (ll6 x n L K) 0 4 5 112 n [.ptr 3 0 1 0] (gone K) := by
  refine ⟨hn, by cases x <;> rfl, ⟨_, rfl⟩, ⟨_, rfl⟩, ⟨_, _, _, _, rfl⟩, c112, fun i hi => ⟨_, lost1_ok x n L K i hi hK⟩⟩
theorem coll_lost (x : Bool) (n : Nat) (L : List (List Nat)) (K : List Nat) (hn : n ≤ 64) (hK : K.length = n) : FunT Try.prog 110 [.sc (.fn (.func 133) [] [.ptr 4 0 1 0, .ptr 5 0 1 0])] (ll6 x n L K) (.sc (nrS (lostL n K) 6)) (ll6 x n L K ++ [nrB (lostL n K)]) := collect_T (itLost x n L K hn hK)
theorem lost_nil : FunT Try.prog 59 [nilP] [] (.sc nilS) [] := by
  refine FunT.ev tabOk mixed Try.func59 rfl ?_
  conv => whnf
  repeat (first | (refine ⟨(by kernel_rfl : chkR _ _ _ _ = true), ?_⟩; conv => whnf) | (refine EvOr.go ?_; conv => whnf))
  refine CallG.use is_nil c108 [] [] ?_ ?_ ?_ ?_ ?_ ?_; rfl; rfl; kernel_rfl; rfl; rfl
  conv => whnf
  repeat (first | (refine ⟨(by kernel_rfl : chkR _ _ _ _ = true), ?_⟩; conv => whnf) | (refine EvOr.go ?_; conv => whnf))
  exact retQ.one rfl (.inr rfl) rfl (Nat.le_of_ble_eq_true rfl) rfl
theorem lost_ok (x : Bool) (n : Nat) (L : List (List Nat)) (K : List Nat) (h0 : 0 < n) (hn : n ≤ 64) (hK : K.length = n) : FunT Try.prog 59 [rpV] (rw3 x n L K) (.sc (nrS (lostL n K) 3)) (rw3 x n L K ++ [nrB (lostL n K)]) := by
  have i1 := is_ok x n L K h0
  have i2 := coll_lost x n L K hn hK
  generalize lostL n K = O at *
  by_cases hO : O = []
  · subst hO
    cases x <;>
    · refine FunT.ev tabOk mixed Try.func59 rfl ?_
      conv => whnf
      repeat (first | (refine ⟨(by kernel_rfl : chkR _ _ _ _ = true), ?_⟩; conv => whnf) | (refine EvOr.go ?_; conv => whnf))
      refine CallG.use i1 c108 [0, 1, 2] [] ?_ ?_ ?_ ?_ ?_ ?_; rfl; rfl; kernel_rfl; rfl; rfl
      conv => whnf
      repeat (first | (refine ⟨(by kernel_rfl : chkR _ _ _ _ = true), ?_⟩; conv => whnf) | (refine EvOr.go ?_; conv => whnf))
      refine CallG.use which_lost c111 [0, 1, 2, 3] [] ?_ ?_ ?_ ?_ ?_ ?_; rfl; rfl; kernel_rfl; rfl; rfl
      conv => whnf
      repeat (first | (refine ⟨(by kernel_rfl : chkR _ _ _ _ = true), ?_⟩; conv => whnf) | (refine EvOr.go ?_; conv => whnf))
      refine CallG.use i2 c110 [0, 1, 2, 3, 4, 5] [] ?_ ?_ ?_ ?_ ?_ ?_; rfl; rfl; kernel_rfl; rfl; rfl
      conv => whnf
      repeat (first | (refine ⟨(by kernel_rfl : chkR _ _ _ _ = true), ?_⟩; conv => whnf) | (refine EvOr.go ?_; conv => whnf))
      exact retQ.oneS [0, 1, 2, 6] rfl (by first | exact .inr rfl | exact .inl rfl) rfl (by kernel_rfl) (by first | rfl | kernel_rfl)
  · obtain ⟨q1, q2⟩ := nr_row 6 (List.length_pos_iff.2 hO)
    obtain ⟨q3, _⟩ := nr_row 3 (List.length_pos_iff.2 hO)
    rw [q1, q2] at i2
    rw [q2, q3]
    cases x <;>
    · refine FunT.ev tabOk mixed Try.func59 rfl ?_
      conv => whnf
      repeat (first | (refine ⟨(by kernel_rfl : chkR _ _ _ _ = true), ?_⟩; conv => whnf) | (refine EvOr.go ?_; conv => whnf))
      refine CallG.use i1 c108 [0, 1, 2] [] ?_ ?_ ?_ ?_ ?_ ?_; rfl; rfl; kernel_rfl; rfl; rfl
      conv => whnf
      repeat (first | (refine ⟨(by kernel_rfl : chkR _ _ _ _ = true), ?_⟩; conv => whnf) | (refine EvOr.go ?_; conv => whnf))
      refine CallG.use which_lost c111 [0, 1, 2, 3] [] ?_ ?_ ?_ ?_ ?_ ?_; rfl; rfl; kernel_rfl; rfl; rfl
      conv => whnf
      repeat (first | (refine ⟨(by kernel_rfl : chkR _ _ _ _ = true), ?_⟩; conv => whnf) | (refine EvOr.go ?_; conv => whnf))
      refine CallG.use i2 c110 [0, 1, 2, 3, 4, 5] [] ?_ ?_ ?_ ?_ ?_ ?_; rfl; rfl; kernel_rfl; rfl; rfl
      conv => whnf
      repeat (first | (refine ⟨(by kernel_rfl : chkR _ _ _ _ = true), ?_⟩; conv => whnf) | (refine EvOr.go ?_; conv => whnf))
      exact retQ.oneS [0, 1, 2, 6] rfl (by first | exact .inr rfl | exact .inl rfl) rfl (by kernel_rfl) (by first | rfl | kernel_rfl)
end Go.Proofs.Ytdmcbfmpnakdfaa.Eng.St
/- The row: right; mended. -/
namespace Go.Proofs.Ytdmcbfmpnakdfaa.Eng.St
open Go Go.RowKit Go.Shelf Go.Proofs Go.Proofs.Ytdmcbfmpnakdfaa.Gf Go.Proofs.Ytdmcbfmpnakdfaa.Rf
set_option maxRecDepth 20000
set_option maxHeartbeats 4000000
theorem rright_ok (x : Bool) (n : Nat) (L : List (List Nat)) (K : List Nat) (h0 : 0 < n) (hn : n ≤ 64) (hL : L.length = n) (hK : K.length = n) (hS : Secs L) :
    FunT Try.prog 56 [rpV] (rw3 x n L K) (bv (decide (lostL n K = []) && rightB L)) (rw3 x n L K) := by
  have i1 := is_ok x n L K h0
  have i2 := whole_ok x n L K hn hK
  have i3 := right_ok L (capX x n) hS (by omega) (fun c hc => by cases x <;> cases hc; omega)
  rw [hL] at i3
  by_cases hO : lostL n K = []
  · rw [decide_eq_true hO, Bool.true_and]
    rw [decide_eq_true hO] at i2
    cases x <;>
    · refine FunT.ev tabOk mixed Try.func56 rfl ?_
      conv => whnf
      repeat (first | (refine ⟨(by kernel_rfl : chkR _ _ _ _ = true), ?_⟩; conv => whnf) | (refine EvOr.go ?_; conv => whnf))
      refine CallG.use i1 c108 [0, 1, 2] [] ?_ ?_ ?_ ?_ ?_ ?_; rfl; rfl; kernel_rfl; rfl; rfl
      conv => whnf
      repeat (first | (refine ⟨(by kernel_rfl : chkR _ _ _ _ = true), ?_⟩; conv => whnf) | (refine EvOr.go ?_; conv => whnf))
      refine CallG.use i2 c109 [0, 1, 2] [] ?_ ?_ ?_ ?_ ?_ ?_; rfl; rfl; kernel_rfl; rfl; rfl
      conv => whnf
      repeat (first | (refine ⟨(by kernel_rfl : chkR _ _ _ _ = true), ?_⟩; conv => whnf) | (refine EvOr.go ?_; conv => whnf))
      refine CallG.use i3 c25 [1] [] ?_ ?_ ?_ ?_ ?_ ?_; rfl; rfl; kernel_rfl; rfl; rfl
      conv => whnf
      repeat (first | (refine ⟨(by kernel_rfl : chkR _ _ _ _ = true), ?_⟩; conv => whnf) | (refine EvOr.go ?_; conv => whnf))
      exact retQ.one rfl (.inr rfl) rfl (Nat.le_of_ble_eq_true rfl) rfl
  · rw [decide_eq_false hO, Bool.false_and]
    rw [decide_eq_false hO] at i2
    cases x <;>
    · refine FunT.ev tabOk mixed Try.func56 rfl ?_
      conv => whnf
      repeat (first | (refine ⟨(by kernel_rfl : chkR _ _ _ _ = true), ?_⟩; conv => whnf) | (refine EvOr.go ?_; conv => whnf))
      refine CallG.use i1 c108 [0, 1, 2] [] ?_ ?_ ?_ ?_ ?_ ?_; rfl; rfl; kernel_rfl; rfl; rfl
      conv => whnf
      repeat (first | (refine ⟨(by kernel_rfl : chkR _ _ _ _ = true), ?_⟩; conv => whnf) | (refine EvOr.go ?_; conv => whnf))
      refine CallG.use i2 c109 [0, 1, 2] [] ?_ ?_ ?_ ?_ ?_ ?_; rfl; rfl; kernel_rfl; rfl; rfl
      conv => whnf
      repeat (first | (refine ⟨(by kernel_rfl : chkR _ _ _ _ = true), ?_⟩; conv => whnf) | (refine EvOr.go ?_; conv => whnf))
      exact retQ.one rfl (.inr rfl) rfl (Nat.le_of_ble_eq_true rfl) rfl
theorem rright_emp : FunT Try.prog 56 [rpV] [empB] (bv false) [empB] := by
  refine FunT.ev tabOk mixed Try.func56 rfl ?_
  conv => whnf
  repeat (first | (refine ⟨(by kernel_rfl : chkR _ _ _ _ = true), ?_⟩; conv => whnf) | (refine EvOr.go ?_; conv => whnf))
  refine CallG.use is_emp c108 [0] [] ?_ ?_ ?_ ?_ ?_ ?_; rfl; rfl; kernel_rfl; rfl; rfl
  conv => whnf
  repeat (first | (refine ⟨(by kernel_rfl : chkR _ _ _ _ = true), ?_⟩; conv => whnf) | (refine EvOr.go ?_; conv => whnf))
  exact retQ.one rfl (.inr rfl) rfl (Nat.le_of_ble_eq_true rfl) rfl
theorem mend_nil : FunT Try.prog 55 [nilP] [] (.tup [.sc nilS, iv 1]) [] := by
  refine FunT.ev tabOk mixed Try.func55 rfl ?_
  conv => whnf
  repeat (first | (refine ⟨(by kernel_rfl : chkR _ _ _ _ = true), ?_⟩; conv => whnf) | (refine EvOr.go ?_; conv => whnf))
  refine CallG.use is_nil c108 [] [] ?_ ?_ ?_ ?_ ?_ ?_; rfl; rfl; kernel_rfl; rfl; rfl
  conv => whnf
  repeat (first | (refine ⟨(by kernel_rfl : chkR _ _ _ _ = true), ?_⟩; conv => whnf) | (refine EvOr.go ?_; conv => whnf))
  exact retQ.all tabOk _ [.sc nilS, iv 1] rfl (by first | exact .inr rfl | exact .inl rfl) (by repeat' (first | exact trivial | rfl | (intro h; cases h; done) | (refine ⟨?_, ?_⟩))) rfl (by rfl) (Nat.le_of_ble_eq_true rfl) (by rfl)
abbrev lostN (n : Nat) (K : List Nat) : List Nat := (List.range n).filter (gone K)
theorem lostN_rise (n : Nat) (K : List Nat) : (kz (lostN n K)).Pairwise (· < ·) := by
  unfold kz lostN
  rw [List.pairwise_map]
  refine List.Pairwise.imp (fun h => ?_) (List.Pairwise.filter _ List.pairwise_lt_range)
  exact Int.ofNat_lt.2 h
theorem lostN_lt {n : Nat} {K : List Nat} : ∀ k ∈ lostN n K, k < n := fun k hk => List.mem_range.1 (List.mem_filter.1 hk).1
theorem kz_len (ks : List Nat) : (kz ks).length = ks.length := by simp [kz]
theorem kz_nat (ks : List Nat) : (kz ks).map Int.toNat = ks := by simp [kz, Function.comp_def]
theorem fixE_lost {n : Nat} {ks : List Nat} (h4 : 4 ≤ n) (h64 : n ≤ 64) (hk : ∀ k ∈ ks, k < n) : fixE n (kz ks) = if 2 < ks.length then 7 else 0 := by
  unfold fixE
  rw [if_neg (by omega), kz_len, if_neg, if_neg (by omega)]
  rintro ⟨h0, h⟩
  have hg : ∀ i, i < ks.length → ∃ k, k < n ∧ (kz ks).getD i 0 = (k : Nat) := fun i hi => ⟨ks[i], hk _ (List.getElem_mem _), by simp [kz, List.getD_eq_getElem?_getD, hi]⟩
  rcases h with h | h
  · obtain ⟨k, h1, h2⟩ := hg 0 h0
    omega
  · obtain ⟨k, h1, h2⟩ := hg (ks.length - 1) (by omega)
    omega
theorem unl_self {zs : List Int} (h : zs.Pairwise (· < ·)) : unl zs = zs := by
  have h1 : sortZ zs = zs := by
    unfold sortZ
    refine List.mergeSort_of_pairwise (h.imp fun h => ?_)
    simp; omega
  unfold unl
  rw [h1]
  unfold compZ
  refine Lib.compact_all zs fun j hj => ?_
  by_cases h0 : j = 0
  · subst h0; simp [Lib.keeps]
  · refine Lib.keeps_pos ?_
    have := List.pairwise_iff_getElem.1 h (j - 1) j (by omega) hj (by omega)
    have h2 : j - 1 < zs.length := by omega
    simp only [List.getElem!_toArray]
    rw [getElem!_pos zs j hj, getElem!_pos zs (j - 1) h2]
    omega
theorem fixL (n : Nat) (L : List (List Nat)) (co : Option Nat) (ks : List Nat) (hr : (kz ks).Pairwise (· < ·)) (hk : ∀ k ∈ ks, k < n) (h4 : 4 ≤ n) (h64 : n ≤ 64) (hL : L.length = n) (hS : Secs L) (h0 : 0 < ks.length) (hks : ks.length ≤ n) :
    (2 < ks.length → FunT Try.prog 17 [.sc (.sl 0 0 64 n co), .sc (.sl 1 0 1 ks.length none)] [rowS L, rowRI (kz ks)] (.tup [.sc nilS, iv 7]) [rowS L, rowRI (kz ks), none]) ∧
    (ks.length ≤ 2 → FunT Try.prog 17 [.sc (.sl 0 0 64 n co), .sc (.sl 1 0 1 ks.length none)] [rowS L, rowRI (kz ks)] (.tup [.sc (.sl 2 0 64 n none), iv 0]) [rowS L, rowRI (kz ks), rowX (fixR L (n - 2) ks)]) := by
  have hl := kz_len ks
  have hE := fixE_lost h4 h64 hk
  have gF := fix_row L n co none (kz ks) hL hS (by omega) (by omega) (by omega)
  rw [unl_self hr, fixV, fixB, kz_nat, hl] at gF
  refine ⟨fun h => ?_, fun h => ?_⟩
  · rw [if_pos h] at hE
    rw [if_neg (by omega), if_neg (by omega), hE] at gF
    exact gF
  · rw [if_neg (by omega)] at hE
    rw [if_pos hE, if_pos hE] at gF
    exact gF
theorem fixLN (n : Nat) (L : List (List Nat)) (co : Option Nat) (h4 : 4 ≤ n) (h64 : n ≤ 64) (hL : L.length = n) (hS : Secs L) :
    FunT Try.prog 17 [.sc (.sl 0 0 64 n co), .sc nilS] [rowS L, none] (.tup [.sc (.sl 2 0 64 n none), iv 0]) [rowS L, none, rowX (fixR L (n - 2) [])] := by
  have hE := fixE_lost (ks := []) h4 h64 (fun k h => by cases h)
  rw [if_neg (by decide)] at hE
  have hE' : fixE n [] = 0 := hE
  have gF := fix_nil L n co hL hS (by omega)
  rw [fixV, fixB, if_pos hE', if_pos hE'] at gF
  exact gF
theorem lostN_len (n : Nat) (K : List Nat) : (lostN n K).length ≤ n := by
  have := List.length_filter_le (gone K) (List.range n)
  rwa [List.length_range] at this
theorem lost_kz (n : Nat) (K : List Nat) : lostL n K = kz (lostN n K) := rfl
theorem kz_nil {ks : List Nat} : kz ks = [] ↔ ks = [] := by unfold kz; exact List.map_eq_nil_iff
theorem mend_full (x : Bool) (n : Nat) (L : List (List Nat)) (K : List Nat) (h4 : 4 ≤ n) (h64 : n ≤ 64) (hL : L.length = n) (hK : K.length = n) (hS : Secs L) (h3 : 2 < (lostN n K).length) :
    FunT Try.prog 55 [rpV] (rw3 x n L K) (.tup [.sc nilS, iv 7]) (rw3 x n L K) := by
  have i1 := is_ok x n L K (by omega)
  have i2 := lost_ok x n L K (by omega) h64 hK
  have i3 := (fixL n L (capX x n) (lostN n K) (lostN_rise n K) lostN_lt h4 h64 hL hS (by omega) (lostN_len n K)).1 h3
  rw [lost_kz] at i2
  generalize lostN n K = ks at *
  obtain ⟨q1, q2⟩ := nr_row 3 (T := kz ks) (by rw [kz_len]; omega)
  rw [q1, q2, kz_len] at i2
  cases x <;>
  · refine FunT.ev tabOk mixed Try.func55 rfl ?_
    conv => whnf
    repeat (first | (refine ⟨(by kernel_rfl : chkR _ _ _ _ = true), ?_⟩; conv => whnf) | (refine EvOr.go ?_; conv => whnf))
    refine CallG.use i1 c108 [0, 1, 2] [] ?_ ?_ ?_ ?_ ?_ ?_; rfl; rfl; kernel_rfl; rfl; rfl
    conv => whnf
    repeat (first | (refine ⟨(by kernel_rfl : chkR _ _ _ _ = true), ?_⟩; conv => whnf) | (refine EvOr.go ?_; conv => whnf))
    refine CallG.use i2 c59 [0, 1, 2] [] ?_ ?_ ?_ ?_ ?_ ?_; rfl; rfl; kernel_rfl; rfl; rfl
    conv => whnf
    repeat (first | (refine ⟨(by kernel_rfl : chkR _ _ _ _ = true), ?_⟩; conv => whnf) | (refine EvOr.go ?_; conv => whnf))
    refine CallG.use i3 c17 [1, 3] [] ?_ ?_ ?_ ?_ ?_ ?_; rfl; rfl; kernel_rfl; rfl; rfl
    conv => whnf
    repeat (first | (refine ⟨(by kernel_rfl : chkR _ _ _ _ = true), ?_⟩; conv => whnf) | (refine EvOr.go ?_; conv => whnf))
    intro c hc
    obtain rfl : c = true := by rw [hc]; rfl
    conv => whnf
    repeat (first | (refine ⟨(by kernel_rfl : chkR _ _ _ _ = true), ?_⟩; conv => whnf) | (refine EvOr.go ?_; conv => whnf))
    exact retQ.all tabOk _ [.sc nilS, iv 7] rfl (by first | exact .inr rfl | exact .inl rfl) (by repeat' (first | exact trivial | rfl | (intro h; cases h; done) | (refine ⟨?_, ?_⟩))) rfl (by rfl) (Nat.le_of_ble_eq_true rfl) (by rfl)
/-- The row behind a mending: its columns lie in a block of its own. -/
abbrev rowM (n : Nat) : Option ABlk := some (.row .one 108 2 [[.one (.sl 3 0 64 n none), .one (.sl 2 0 1 n (some n))]] [3, 2])
def setK (K : List Nat) (ks : List Nat) : List Nat := ks.foldl (fun R i => R.set i 1) K
theorem setK_len {K : List Nat} : ∀ ks : List Nat, (setK K ks).length = K.length := by
  intro ks
  induction ks generalizing K with
  | nil => rfl
  | cons a l ih => show (setK (K.set a 1) l).length = _; rw [ih, List.length_set]
theorem setK_succ {K ks : List Nat} {a : Nat} (h : a < ks.length) : setK K (ks.take (a + 1)) = (setK K (ks.take a)).set ks[a] 1 := by
  unfold setK
  rw [List.take_succ_eq_append_getElem h, List.foldl_append]; rfl
def menI (x : Bool) (n : Nat) (L R : List (List Nat)) (K ks : List Nat) (k : Nat) : LTm × LHp :=
  ([rpV, .junk, .junk, .junk, .sc (.sl 3 0 1 ks.length none), .junk, .junk, .junk, .junk, .junk, .junk, .junk, .junk, .junk, .junk, .junk, .junk, .junk, .junk, .junk, .junk, .junk, .junk, .junk, .junk, .junk, .junk, .junk, .junk, .junk, .sc (.sl 3 0 1 ks.length none), iv (ks.length : Nat), iv (k : Nat), .junk, .junk, .junk, .junk, .junk, .junk, .junk, .junk, .junk, .junk, .junk], [some (.row .one 108 2 [[.one (.sl 4 0 64 n none), .one (.sl 2 0 1 n (some n))]] [4, 2]), colB x L, knB (setK K (ks.take k)), rowI (kz ks), rowX R])
theorem mend_ok (x : Bool) (n : Nat) (L : List (List Nat)) (K : List Nat) (h4 : 4 ≤ n) (h64 : n ≤ 64) (hL : L.length = n) (hK : K.length = n) (hS : Secs L) (h3 : (lostN n K).length ≤ 2) :
    FunT Try.prog 55 [rpV] (rw3 x n L K) (.tup [.sc (nrS (kz (lostN n K)) 4), iv 0]) [rowM n, colB x L, knB (setK K (lostN n K)), rowX (fixR L (n - 2) (lostN n K)), nrB (kz (lostN n K))] := by
  have i1 := is_ok x n L K (by omega)
  have i2 := lost_ok x n L K (by omega) h64 hK
  rw [lost_kz] at i2
  by_cases h0 : lostN n K = []
  · have i3 := fixLN n L (capX x n) h4 h64 hL hS
    rw [h0] at i2 ⊢
    have e0 : setK K [] = K := rfl
    rw [e0]
    generalize fixR L (n - 2) [] = R at *
    cases x <;>
    · refine FunT.ev tabOk mixed Try.func55 rfl ?_
      conv => whnf
      repeat (first | (refine ⟨(by kernel_rfl : chkR _ _ _ _ = true), ?_⟩; conv => whnf) | (refine EvOr.go ?_; conv => whnf))
      refine CallG.use i1 c108 [0, 1, 2] [] ?_ ?_ ?_ ?_ ?_ ?_; rfl; rfl; kernel_rfl; rfl; rfl
      conv => whnf
      repeat (first | (refine ⟨(by kernel_rfl : chkR _ _ _ _ = true), ?_⟩; conv => whnf) | (refine EvOr.go ?_; conv => whnf))
      refine CallG.use i2 c59 [0, 1, 2] [] ?_ ?_ ?_ ?_ ?_ ?_; rfl; rfl; kernel_rfl; rfl; rfl
      conv => whnf
      repeat (first | (refine ⟨(by kernel_rfl : chkR _ _ _ _ = true), ?_⟩; conv => whnf) | (refine EvOr.go ?_; conv => whnf))
      refine CallG.use i3 c17 [1, 3] [] ?_ ?_ ?_ ?_ ?_ ?_; rfl; rfl; kernel_rfl; rfl; rfl
      conv => whnf
      repeat (first | (refine ⟨(by kernel_rfl : chkR _ _ _ _ = true), ?_⟩; conv => whnf) | (refine EvOr.go ?_; conv => whnf))
      intro c hc
      obtain rfl : c = false := by rw [hc]; rfl
      conv => whnf
      repeat (first | (refine ⟨(by kernel_rfl : chkR _ _ _ _ = true), ?_⟩; conv => whnf) | (refine EvOr.go ?_; conv => whnf))
      refine CodeS.loop0 tabOk mixed (Nat.le_of_ble_eq_true rfl) ?_
      conv => whnf
      repeat (first | (refine ⟨(by kernel_rfl : chkR _ _ _ _ = true), ?_⟩; conv => whnf) | (refine EvOr.go ?_; conv => whnf))
      intro c hc
      obtain rfl : c = false := by rw [hc]; rfl
      conv => whnf
      repeat (first | (refine ⟨(by kernel_rfl : chkR _ _ _ _ = true), ?_⟩; conv => whnf) | (refine EvOr.go ?_; conv => whnf))
      exact retQ.allS tabOk [0, 1, 2, 4, 3] _ [.sc nilS, iv 0] rfl (by first | exact .inr rfl | exact .inl rfl) (by repeat' (first | exact trivial | rfl | (intro h; cases h; done) | (refine ⟨?_, ?_⟩))) rfl (by rfl) (by kernel_rfl) (by first | rfl | kernel_rfl)
  · have i3 := (fixL n L (capX x n) (lostN n K) (lostN_rise n K) lostN_lt h4 h64 hL hS (by exact List.length_pos_iff.2 h0) (lostN_len n K)).2 h3
    have hlt := lostN_lt (n := n) (K := K)
    generalize lostN n K = ks at *
    have hpos := List.length_pos_iff.2 h0
    obtain ⟨q1, q2⟩ := nr_row 3 (T := kz ks) (by rw [kz_len]; omega)
    obtain ⟨q3, _⟩ := nr_row 4 (T := kz ks) (by rw [kz_len]; omega)
    rw [q1, q2, kz_len] at i2
    rw [q2, q3, kz_len]
    generalize fixR L (n - 2) ks = R at *
    obtain ⟨I, hI⟩ : ∃ I, I = menI x n L R K ks := ⟨_, rfl⟩
    cases x <;>
    · refine FunT.ev tabOk mixed Try.func55 rfl ?_
      conv => whnf
      repeat (first | (refine ⟨(by kernel_rfl : chkR _ _ _ _ = true), ?_⟩; conv => whnf) | (refine EvOr.go ?_; conv => whnf))
      refine CallG.use i1 c108 [0, 1, 2] [] ?_ ?_ ?_ ?_ ?_ ?_; rfl; rfl; kernel_rfl; rfl; rfl
      conv => whnf
      repeat (first | (refine ⟨(by kernel_rfl : chkR _ _ _ _ = true), ?_⟩; conv => whnf) | (refine EvOr.go ?_; conv => whnf))
      refine CallG.use i2 c59 [0, 1, 2] [] ?_ ?_ ?_ ?_ ?_ ?_; rfl; rfl; kernel_rfl; rfl; rfl
      conv => whnf
      repeat (first | (refine ⟨(by kernel_rfl : chkR _ _ _ _ = true), ?_⟩; conv => whnf) | (refine EvOr.go ?_; conv => whnf))
      refine CallG.use i3 c17 [1, 3] [] ?_ ?_ ?_ ?_ ?_ ?_; rfl; rfl; kernel_rfl; rfl; rfl
      conv => whnf
      repeat (first | (refine ⟨(by kernel_rfl : chkR _ _ _ _ = true), ?_⟩; conv => whnf) | (refine EvOr.go ?_; conv => whnf))
      intro c hc
      obtain rfl : c = false := by rw [hc]; rfl
      conv => whnf
      repeat (first | (refine ⟨(by kernel_rfl : chkR _ _ _ _ = true), ?_⟩; conv => whnf) | (refine EvOr.go ?_; conv => whnf))
      refine CodeT.loopN tabOk mixed I ks.length _ (StW.ofP [0, 1, 2, 3, 4] ?_ ?_ ?_) (fun k => by subst hI; rfl) ?_
      · subst hI; kernel_rfl
      · subst hI; rfl
      · subst hI; rfl
      intro k hkl
      subst hI
      have hKk : (setK K (ks.take k)).length = n := by rw [setK_len, hK]
      show evC Try.prog tab _ _ (menI _ n L R K ks k).1 (menI _ n L R K ks k).2 _
      by_cases hk : k < ks.length
      · have hs := setK_succ (K := K) hk
        have hkm := hlt ks[k] (List.getElem_mem _)
        have hg := kz_get (J := []) hk
        rw [List.append_nil] at hg
        unfold menI
        generalize setK K (ks.take k) = T at *
        generalize ks[k] = i at *
        have g2 := kn_get (K := T) (k := i) (by omega)
        have e2 : (kz (T.set i 1)).map intS = ((kz T).map intS).set (0 + (i : Int).toNat) (intS (1 : Nat)) := kn_set
        conv => whnf
        repeat (first | (refine ⟨(by kernel_rfl : chkR _ _ _ _ = true), ?_⟩; conv => whnf) | (refine EvOr.go ?_; conv => whnf))
        intro c hc
        obtain rfl : c = true := by rw [hc]; exact decide_eq_true (by omega)
        conv => whnf
        repeat (first | (refine ⟨(by kernel_rfl : chkR _ _ _ _ = true), ?_⟩; conv => whnf) | (refine EvOr.go ?_; conv => whnf))
        refine ⟨⟨by omega, by omega⟩, ?_⟩
        conv => whnf
        repeat (first | (refine ⟨(by kernel_rfl : chkR _ _ _ _ = true), ?_⟩; conv => whnf) | (refine EvOr.go ?_; conv => whnf))
        refine ⟨_, hg, ?_⟩
        conv => whnf
        repeat (first | (refine ⟨(by kernel_rfl : chkR _ _ _ _ = true), ?_⟩; conv => whnf) | (refine EvOr.go ?_; conv => whnf))
        refine ⟨⟨by omega, by omega⟩, ?_⟩
        conv => whnf
        repeat (first | (refine ⟨(by kernel_rfl : chkR _ _ _ _ = true), ?_⟩; conv => whnf) | (refine EvOr.go ?_; conv => whnf))
        refine ⟨_, g2, ?_⟩
        conv => whnf
        repeat (first | (refine ⟨(by kernel_rfl : chkR _ _ _ _ = true), ?_⟩; conv => whnf) | (refine EvOr.go ?_; conv => whnf))
        refine ⟨_, inc_nat (by omega), ?_⟩
        conv => whnf
        repeat (first | (refine ⟨(by kernel_rfl : chkR _ _ _ _ = true), ?_⟩; conv => whnf) | (refine EvOr.go ?_; conv => whnf))
        refine ⟨by omega, _, StW.ofP [0, 1, 2, 3, 4] ?_ ?_ ?_⟩
        · kernel_rfl
        · rfl
        · simp only [menI, hs, knB, e2]; rfl
      · obtain rfl : k = ks.length := by omega
        unfold menI
        rw [List.take_length]
        conv => whnf
        repeat (first | (refine ⟨(by kernel_rfl : chkR _ _ _ _ = true), ?_⟩; conv => whnf) | (refine EvOr.go ?_; conv => whnf))
        intro c hc
        obtain rfl : c = false := by rw [hc]; exact decide_eq_false (by omega)
        conv => whnf
        repeat (first | (refine ⟨(by kernel_rfl : chkR _ _ _ _ = true), ?_⟩; conv => whnf) | (refine EvOr.go ?_; conv => whnf))
        exact retQ.allS tabOk [0, 1, 2, 4, 3] _ [.sc (.sl 3 0 1 ks.length none), iv 0] rfl (by first | exact .inr rfl | exact .inl rfl) (by repeat' (first | exact trivial | rfl | (intro h; cases h; done) | (refine ⟨?_, ?_⟩))) rfl (by rfl) (by kernel_rfl) (by first | rfl | kernel_rfl)
end Go.Proofs.Ytdmcbfmpnakdfaa.Eng.St
/- The row: written. -/
namespace Go.Proofs.Ytdmcbfmpnakdfaa.Eng.St
open Go Go.RowKit Go.Shelf Go.Proofs Go.Proofs.Ytdmcbfmpnakdfaa.Gf Go.Proofs.Ytdmcbfmpnakdfaa.Rf
set_option maxRecDepth 20000
set_option maxHeartbeats 4000000
theorem c23 : Callable Try.prog 23 := ⟨⟨_, Try.func23, by kernel_rfl, by kernel_rfl⟩⟩
theorem c72 : Callable Try.prog 72 := ⟨⟨_, Try.func72, by kernel_rfl, by kernel_rfl⟩⟩
/-- The columns that are others now. -/
def othr (L M : List (List Nat)) (k : Nat) : Bool := decide (¬ M.getD k [] = L.getD k [])
abbrev bx22 (n : Nat) : Option ABlk := some (.row .one 22 1 [[.one (.sl 4 0 64 n none)]] [4])
abbrev ww8 (x : Bool) (n : Nat) (L M : List (List Nat)) (K : List Nat) : LHp := rw3 x n M K ++ [bxP 0, rowX L, bx22 n, bxP 0, bxF 113 [.ptr 3 0 1 0, .ptr 5 0 1 0]]
theorem write1_ok (x : Bool) (n : Nat) (L M : List (List Nat)) (K : List Nat) (k : Nat) (hk : k < n) (hL : L.length = n) (hM : M.length = n) (hS : Secs L) (hT : Secs M) :
    FunT Try.prog 113 [iv (k : Nat), .sc (.ptr 3 0 1 0), .sc (.ptr 5 0 1 0)] (roL (ww8 x n L M K)) (bv (othr L M k)) (roL (ww8 x n L M K)) := by
  have g1 := row_at (S := L) (k := k) (by omega)
  have g2 := row_at (S := M) (k := k) (by omega)
  have s1 : Sec (L.getD k []) := by
    rw [List.getD_eq_getElem?_getD, List.getElem?_eq_getElem (by omega)]; exact hS _ (List.getElem_mem _)
  have s2 : Sec (M.getD k []) := by
    rw [List.getD_eq_getElem?_getD, List.getElem?_eq_getElem (by omega)]; exact hT _ (List.getElem_mem _)
  unfold othr
  generalize L.getD k [] = a at *
  generalize M.getD k [] = b at *
  cases x
  · show FunT _ _ _ (ro6 (some n) n M K [roP, rowS L, some (.row .ro 22 1 [[.one (.sl 4 0 64 n none)]] [4]), roP, some (.row .ro 113 1 [[.one (.fn (.func 113) [] [.ptr 3 0 1 0, .ptr 5 0 1 0])]] [3, 5])]) _ (ro6 (some n) n M K [roP, rowS L, some (.row .ro 22 1 [[.one (.sl 4 0 64 n none)]] [4]), roP, some (.row .ro 113 1 [[.one (.fn (.func 113) [] [.ptr 3 0 1 0, .ptr 5 0 1 0])]] [3, 5])])
    refine FunT.ev tabOk mixed Try.func113 rfl ?_
    conv => whnf
    repeat (first | (refine ⟨(by kernel_rfl : chkR _ _ _ _ = true), ?_⟩; conv => whnf) | (refine EvOr.go ?_; conv => whnf))
    refine ⟨_, rfl, ?_⟩
    conv => whnf
    repeat (first | (refine ⟨(by kernel_rfl : chkR _ _ _ _ = true), ?_⟩; conv => whnf) | (refine EvOr.go ?_; conv => whnf))
    refine ⟨_, rfl, ?_⟩
    conv => whnf
    repeat (first | (refine ⟨(by kernel_rfl : chkR _ _ _ _ = true), ?_⟩; conv => whnf) | (refine EvOr.go ?_; conv => whnf))
    refine ⟨⟨by omega, by omega⟩, ?_⟩
    conv => whnf
    repeat (first | (refine ⟨(by kernel_rfl : chkR _ _ _ _ = true), ?_⟩; conv => whnf) | (refine EvOr.go ?_; conv => whnf))
    refine ⟨_, g2, ?_⟩
    conv => whnf
    repeat (first | (refine ⟨(by kernel_rfl : chkR _ _ _ _ = true), ?_⟩; conv => whnf) | (refine EvOr.go ?_; conv => whnf))
    refine ⟨_, rfl, ?_⟩
    conv => whnf
    repeat (first | (refine ⟨(by kernel_rfl : chkR _ _ _ _ = true), ?_⟩; conv => whnf) | (refine EvOr.go ?_; conv => whnf))
    refine ⟨⟨by omega, by omega⟩, ?_⟩
    conv => whnf
    repeat (first | (refine ⟨(by kernel_rfl : chkR _ _ _ _ = true), ?_⟩; conv => whnf) | (refine EvOr.go ?_; conv => whnf))
    refine ⟨_, g1, ?_⟩
    conv => whnf
    repeat (first | (refine ⟨(by kernel_rfl : chkR _ _ _ _ = true), ?_⟩; conv => whnf) | (refine EvOr.go ?_; conv => whnf))
    refine ⟨rfl, ?_⟩
    refine ⟨eq34, ?_⟩
    conv => whnf
    repeat (first | (refine ⟨(by kernel_rfl : chkR _ _ _ _ = true), ?_⟩; conv => whnf) | (refine EvOr.go ?_; conv => whnf))
    intro c hc
    obtain rfl : c = decide (¬ b = a) := by
      rw [Bool.eq_iff_iff, hc, decide_eq_true_iff]
      exact not_congr (bysN_inj s2 s1)
    conv => whnf
    repeat (first | (refine ⟨(by kernel_rfl : chkR _ _ _ _ = true), ?_⟩; conv => whnf) | (refine EvOr.go ?_; conv => whnf))
    exact retQ.one rfl (.inr rfl) rfl (Nat.le_of_ble_eq_true rfl) rfl
  · show FunT _ _ _ (ro6 none n M K [roP, rowS L, some (.row .ro 22 1 [[.one (.sl 4 0 64 n none)]] [4]), roP, some (.row .ro 113 1 [[.one (.fn (.func 113) [] [.ptr 3 0 1 0, .ptr 5 0 1 0])]] [3, 5])]) _ (ro6 none n M K [roP, rowS L, some (.row .ro 22 1 [[.one (.sl 4 0 64 n none)]] [4]), roP, some (.row .ro 113 1 [[.one (.fn (.func 113) [] [.ptr 3 0 1 0, .ptr 5 0 1 0])]] [3, 5])])
    refine FunT.ev tabOk mixed Try.func113 rfl ?_
    conv => whnf
    repeat (first | (refine ⟨(by kernel_rfl : chkR _ _ _ _ = true), ?_⟩; conv => whnf) | (refine EvOr.go ?_; conv => whnf))
    refine ⟨_, rfl, ?_⟩
    conv => whnf
    repeat (first | (refine ⟨(by kernel_rfl : chkR _ _ _ _ = true), ?_⟩; conv => whnf) | (refine EvOr.go ?_; conv => whnf))
    refine ⟨_, rfl, ?_⟩
    conv => whnf
    repeat (first | (refine ⟨(by kernel_rfl : chkR _ _ _ _ = true), ?_⟩; conv => whnf) | (refine EvOr.go ?_; conv => whnf))
    refine ⟨⟨by omega, by omega⟩, ?_⟩
    conv => whnf
    repeat (first | (refine ⟨(by kernel_rfl : chkR _ _ _ _ = true), ?_⟩; conv => whnf) | (refine EvOr.go ?_; conv => whnf))
    refine ⟨_, g2, ?_⟩
    conv => whnf
    repeat (first | (refine ⟨(by kernel_rfl : chkR _ _ _ _ = true), ?_⟩; conv => whnf) | (refine EvOr.go ?_; conv => whnf))
    refine ⟨_, rfl, ?_⟩
    conv => whnf
    repeat (first | (refine ⟨(by kernel_rfl : chkR _ _ _ _ = true), ?_⟩; conv => whnf) | (refine EvOr.go ?_; conv => whnf))
    refine ⟨⟨by omega, by omega⟩, ?_⟩
    conv => whnf
    repeat (first | (refine ⟨(by kernel_rfl : chkR _ _ _ _ = true), ?_⟩; conv => whnf) | (refine EvOr.go ?_; conv => whnf))
    refine ⟨_, g1, ?_⟩
    conv => whnf
    repeat (first | (refine ⟨(by kernel_rfl : chkR _ _ _ _ = true), ?_⟩; conv => whnf) | (refine EvOr.go ?_; conv => whnf))
    refine ⟨rfl, ?_⟩
    refine ⟨eq34, ?_⟩
    conv => whnf
    repeat (first | (refine ⟨(by kernel_rfl : chkR _ _ _ _ = true), ?_⟩; conv => whnf) | (refine EvOr.go ?_; conv => whnf))
    intro c hc
    obtain rfl : c = decide (¬ b = a) := by
      rw [Bool.eq_iff_iff, hc, decide_eq_true_iff]
      exact not_congr (bysN_inj s2 s1)
    conv => whnf
    repeat (first | (refine ⟨(by kernel_rfl : chkR _ _ _ _ = true), ?_⟩; conv => whnf) | (refine EvOr.go ?_; conv => whnf))
    exact retQ.one rfl (.inr rfl) rfl (Nat.le_of_ble_eq_true rfl) rfl
theorem which_write : FunT Try.prog 111 [.sc (.ptr 0 0 2 0), .sc (.fn (.func 113) [] [.ptr 1 0 1 0, .ptr 2 0 1 0])] [none, none, none] (.sc (.fn (.func 133) [] [.ptr 3 0 1 0, .ptr 4 0 1 0])) [none, none, none, bxP 0, bxF 113 [.ptr 1 0 1 0, .ptr 2 0 1 0]] := by
  refine FunT.ev tabOk mixed Try.func111 rfl ?_
  conv => whnf
  repeat (first | (refine ⟨(by kernel_rfl : chkR _ _ _ _ = true), ?_⟩; conv => whnf) | (refine EvOr.go ?_; conv => whnf))
  exact retQ.one rfl (.inr rfl) rfl (Nat.le_of_ble_eq_true rfl) rfl
abbrev othL (n : Nat) (L M : List (List Nat)) : List Int := hold (othr L M) n
theorem coll_write (x : Bool) (n : Nat) (L M : List (List Nat)) (K : List Nat) (hn : n ≤ 64) (hL : L.length = n) (hM : M.length = n) (hS : Secs L) (hT : Secs M) :
    FunT Try.prog 110 [.sc (.fn (.func 133) [] [.ptr 6 0 1 0, .ptr 7 0 1 0])] (ww8 x n L M K) (.sc (nrS (othL n L M) 8)) (ww8 x n L M K ++ [nrB (othL n L M)]) := by
  refine collect_T (r := 0) (g := 113) (cs := [.ptr 3 0 1 0, .ptr 5 0 1 0]) ⟨hn, by cases x <;> rfl, ⟨_, rfl⟩, ⟨_, rfl⟩, ⟨_, _, _, _, rfl⟩, c113, fun i hi => ⟨_, write1_ok x n L M K i hi hL hM hS hT⟩⟩
theorem write_emp (c : Int) (s : List Nat) : FunT Try.prog 60 [rpV, iv c, secV s] [empB] (.tup [.sc nilS, iv 1]) [empB] := by
  refine FunT.ev tabOk mixed Try.func60 rfl ?_
  conv => whnf
  repeat (first | (refine ⟨(by kernel_rfl : chkR _ _ _ _ = true), ?_⟩; conv => whnf) | (refine EvOr.go ?_; conv => whnf))
  refine CallG.use (has_emp c) c107 [0] [] ?_ ?_ ?_ ?_ ?_ ?_; rfl; rfl; kernel_rfl; rfl; rfl
  conv => whnf
  repeat (first | (refine ⟨(by kernel_rfl : chkR _ _ _ _ = true), ?_⟩; conv => whnf) | (refine EvOr.go ?_; conv => whnf))
  intro c hc
  obtain rfl : c = true := by rw [hc]; rfl
  conv => whnf
  repeat (first | (refine ⟨(by kernel_rfl : chkR _ _ _ _ = true), ?_⟩; conv => whnf) | (refine EvOr.go ?_; conv => whnf))
  exact retQ.all tabOk _ [.sc nilS, iv 1] rfl (by first | exact .inr rfl | exact .inl rfl) (by repeat' (first | exact trivial | rfl | (intro h; cases h; done) | (refine ⟨?_, ?_⟩))) rfl (by rfl) (Nat.le_of_ble_eq_true rfl) (by rfl)
theorem write_out (x : Bool) (m : Nat) (L : List (List Nat)) (K : List Nat) (c : Int) (s : List Nat) (hm : m ≤ 62) (hc : ¬ (0 ≤ c ∧ c < m)) :
    FunT Try.prog 60 [rpV, iv c, secV s] (rw3 x (m + 2) L K) (.tup [.sc nilS, iv 2]) (rw3 x (m + 2) L K) := by
  by_cases h : 0 ≤ c ∧ c < ((m + 2 : Nat) : Int)
  · obtain ⟨k, rfl⟩ : ∃ k : Nat, c = k := ⟨c.toNat, by omega⟩
    have i1 := has_in x (m + 2) L K k (by omega)
    have e0 : arithI .sub .i64 ((m + 2 : Nat) : Int) 2 = some ((m : Nat) : Int) := subn (a := m + 2) (b := 2) (by omega) (by omega)
    cases x <;>
    · refine FunT.ev tabOk mixed Try.func60 rfl ?_
      conv => whnf
      repeat (first | (refine ⟨(by kernel_rfl : chkR _ _ _ _ = true), ?_⟩; conv => whnf) | (refine EvOr.go ?_; conv => whnf))
      refine CallG.use i1 c107 [0, 1, 2] [] ?_ ?_ ?_ ?_ ?_ ?_; rfl; rfl; kernel_rfl; rfl; rfl
      conv => whnf
      repeat (first | (refine ⟨(by kernel_rfl : chkR _ _ _ _ = true), ?_⟩; conv => whnf) | (refine EvOr.go ?_; conv => whnf))
      intro c hc
      obtain rfl : c = false := by rw [hc]; rfl
      conv => whnf
      repeat (first | (refine ⟨(by kernel_rfl : chkR _ _ _ _ = true), ?_⟩; conv => whnf) | (refine EvOr.go ?_; conv => whnf))
      refine ⟨_, e0, ?_⟩
      conv => whnf
      repeat (first | (refine ⟨(by kernel_rfl : chkR _ _ _ _ = true), ?_⟩; conv => whnf) | (refine EvOr.go ?_; conv => whnf))
      intro c hc
      obtain rfl : c = true := by rw [hc]; exact decide_eq_true (by omega)
      conv => whnf
      repeat (first | (refine ⟨(by kernel_rfl : chkR _ _ _ _ = true), ?_⟩; conv => whnf) | (refine EvOr.go ?_; conv => whnf))
      exact retQ.all tabOk _ [.sc nilS, iv 2] rfl (by first | exact .inr rfl | exact .inl rfl) (by repeat' (first | exact trivial | rfl | (intro h; cases h; done) | (refine ⟨?_, ?_⟩))) rfl (by rfl) (Nat.le_of_ble_eq_true rfl) (by rfl)
  · have i1 := has_out x (m + 2) L K (by omega) c h
    cases x <;>
    · refine FunT.ev tabOk mixed Try.func60 rfl ?_
      conv => whnf
      repeat (first | (refine ⟨(by kernel_rfl : chkR _ _ _ _ = true), ?_⟩; conv => whnf) | (refine EvOr.go ?_; conv => whnf))
      refine CallG.use i1 c107 [0, 1, 2] [] ?_ ?_ ?_ ?_ ?_ ?_; rfl; rfl; kernel_rfl; rfl; rfl
      conv => whnf
      repeat (first | (refine ⟨(by kernel_rfl : chkR _ _ _ _ = true), ?_⟩; conv => whnf) | (refine EvOr.go ?_; conv => whnf))
      intro c hc
      obtain rfl : c = true := by rw [hc]; rfl
      conv => whnf
      repeat (first | (refine ⟨(by kernel_rfl : chkR _ _ _ _ = true), ?_⟩; conv => whnf) | (refine EvOr.go ?_; conv => whnf))
      exact retQ.all tabOk _ [.sc nilS, iv 2] rfl (by first | exact .inr rfl | exact .inl rfl) (by repeat' (first | exact trivial | rfl | (intro h; cases h; done) | (refine ⟨?_, ?_⟩))) rfl (by rfl) (Nat.le_of_ble_eq_true rfl) (by rfl)
theorem write_none (x : Bool) (m : Nat) (L : List (List Nat)) (K : List Nat) (k : Nat) (s : List Nat) (hm : m ≤ 62) (hk : k < m) (hK : K.length = m + 2) (hO : lostL (m + 2) K ≠ []) :
    FunT Try.prog 60 [rpV, iv (k : Nat), secV s] (rw3 x (m + 2) L K) (.tup [.sc nilS, iv 5]) (rw3 x (m + 2) L K) := by
  have i1 := has_in x (m + 2) L K k (by omega)
  have i2 := whole_ok x (m + 2) L K (by omega) hK
  rw [decide_eq_false hO] at i2
  have e0 : arithI .sub .i64 ((m + 2 : Nat) : Int) 2 = some ((m : Nat) : Int) := subn (a := m + 2) (b := 2) (by omega) (by omega)
  cases x <;>
  · refine FunT.ev tabOk mixed Try.func60 rfl ?_
    conv => whnf
    repeat (first | (refine ⟨(by kernel_rfl : chkR _ _ _ _ = true), ?_⟩; conv => whnf) | (refine EvOr.go ?_; conv => whnf))
    refine CallG.use i1 c107 [0, 1, 2] [] ?_ ?_ ?_ ?_ ?_ ?_; rfl; rfl; kernel_rfl; rfl; rfl
    conv => whnf
    repeat (first | (refine ⟨(by kernel_rfl : chkR _ _ _ _ = true), ?_⟩; conv => whnf) | (refine EvOr.go ?_; conv => whnf))
    intro c hc
    obtain rfl : c = false := by rw [hc]; rfl
    conv => whnf
    repeat (first | (refine ⟨(by kernel_rfl : chkR _ _ _ _ = true), ?_⟩; conv => whnf) | (refine EvOr.go ?_; conv => whnf))
    refine ⟨_, e0, ?_⟩
    conv => whnf
    repeat (first | (refine ⟨(by kernel_rfl : chkR _ _ _ _ = true), ?_⟩; conv => whnf) | (refine EvOr.go ?_; conv => whnf))
    intro c hc
    obtain rfl : c = false := by rw [hc]; exact decide_eq_false (by omega)
    conv => whnf
    repeat (first | (refine ⟨(by kernel_rfl : chkR _ _ _ _ = true), ?_⟩; conv => whnf) | (refine EvOr.go ?_; conv => whnf))
    refine CallG.use i2 c109 [0, 1, 2] [] ?_ ?_ ?_ ?_ ?_ ?_; rfl; rfl; kernel_rfl; rfl; rfl
    conv => whnf
    repeat (first | (refine ⟨(by kernel_rfl : chkR _ _ _ _ = true), ?_⟩; conv => whnf) | (refine EvOr.go ?_; conv => whnf))
    exact retQ.all tabOk _ [.sc nilS, iv 5] rfl (by first | exact .inr rfl | exact .inl rfl) (by repeat' (first | exact trivial | rfl | (intro h; cases h; done) | (refine ⟨?_, ?_⟩))) rfl (by rfl) (Nat.le_of_ble_eq_true rfl) (by rfl)
def wriP (m : Nat) (L : List (List Nat)) (k : Nat) (s : List Nat) : List Nat := xorL (L.getD m []) (xorL (L.getD k []) s)
def wriQ (m : Nat) (L : List (List Nat)) (k : Nat) (s : List Nat) : List Nat := xorL (L.getD (m + 1) []) (mulL (xorL (L.getD k []) s) (pwZ k))
def wri (m : Nat) (L : List (List Nat)) (k : Nat) (s : List Nat) : List (List Nat) := ((L.set k s).set m (wriP m L k s)).set (m + 1) (wriQ m L k s)
theorem sec_at {L : List (List Nat)} {k : Nat} (hS : Secs L) (hk : k < L.length) : Sec (L.getD k []) := by
  rw [List.getD_eq_getElem?_getD, List.getElem?_eq_getElem hk]; exact hS _ (List.getElem_mem _)
theorem wri_len {m : Nat} {L : List (List Nat)} {k : Nat} {s : List Nat} : (wri m L k s).length = L.length := by simp [wri]
theorem wri_secs {m : Nat} {L : List (List Nat)} {k : Nat} {s : List Nat} (hS : Secs L) (hL : L.length = m + 2) (hk : k < m) (hs : Sec s) : Secs (wri m L k s) := by
  have h1 := sec_at hS (k := k) (by omega)
  exact set_secs (set_secs (set_secs hS hs) (xorL_sec (sec_at hS (by omega)) (xorL_sec h1 hs))) (xorL_sec (sec_at hS (by omega)) (mulL_sec (xorL_sec h1 hs)))
theorem write_ok (x : Bool) (m : Nat) (L : List (List Nat)) (K : List Nat) (k : Nat) (s : List Nat) (hm : m ≤ 62) (hk : k < m) (hL : L.length = m + 2) (hK : K.length = m + 2) (hS : Secs L) (hs : Sec s) (hO : lostL (m + 2) K = []) :
    FunT Try.prog 60 [rpV, iv (k : Nat), secV s] (rw3 x (m + 2) L K) (.tup [.sc (nrS (othL (m + 2) L (wri m L k s)) 3), iv 0]) (rw3 x (m + 2) (wri m L k s) K ++ [nrB (othL (m + 2) L (wri m L k s))]) := by
  have i1 := has_in x (m + 2) L K k (by omega)
  have i2 := whole_ok x (m + 2) L K (by omega) hK
  rw [decide_eq_true hO] at i2
  have i3 := cloneS_ok L (capX x (m + 2)) (by omega) (by omega)
  rw [hL] at i3
  have i4 := change_ok (L.getD m []) (L.getD (m + 1) []) (L.getD k []) s (k : Nat) (sec_at hS (by omega)) (sec_at hS (by omega)) (sec_at hS (by omega)) hs ⟨by omega, by omega⟩
  have i5 := coll_write x (m + 2) L (wri m L k s) K (by omega) hL (wri_len.trans hL) hS (wri_secs hS hL hk hs)
  have e0 : arithI .sub .i64 ((m + 2 : Nat) : Int) 2 = some ((m : Nat) : Int) := subn (a := m + 2) (b := 2) (by omega) (by omega)
  have e1 : arithI .add .i64 (m : Nat) 1 = some ((m + 1 : Nat) : Int) := inc_nat (by omega)
  have g1 := row_at (S := L) (k := k) (by omega)
  have g2 := row_at (S := L) (k := m) (by omega)
  have g3 := row_at (S := L) (k := m + 1) (by omega)
  have c1 : chP (L.getD m []) (L.getD k []) s (k : Nat) = wriP m L k s := by unfold chP; rw [if_neg (by omega), if_neg (by omega)]; rfl
  have c2 : chQ (L.getD (m + 1) []) (L.getD k []) s (k : Nat) = wriQ m L k s := by unfold chQ; rw [if_neg (by omega), if_neg (by omega)]; rfl
  have c3 : chO s (k : Nat) = s := by unfold chO; rw [if_neg (by omega), if_neg (by omega)]
  have c4 : chE (k : Nat) = 0 := by unfold chE; rw [if_neg (by omega), if_neg (by omega)]
  rw [c1, c2, c3, c4] at i4
  have e2 : (wri m L k s).map secS = (((L.map secS).set (0 + (k : Int).toNat) [.byt 64 s]).set (0 + (m : Int).toNat) [.byt 64 (wriP m L k s)]).set (0 + ((m + 1 : Nat) : Int).toNat) [.byt 64 (wriQ m L k s)] := by
    unfold wri
    rw [row_setS, row_setS, row_setS]; rfl
  have g4 : ((L.map secS).set (0 + (k : Int).toNat) [.byt 64 s])[0 + (m : Int).toNat]? = some (secS ((L.set k s).getD m [])) := by
    have := row_at (S := L.set k s) (k := m) (by rw [List.length_set]; omega)
    rwa [row_setS] at this
  have g5 : (((L.map secS).set (0 + (k : Int).toNat) [.byt 64 s]).set (0 + (m : Int).toNat) [.byt 64 (wriP m L k s)])[0 + ((m + 1 : Nat) : Int).toNat]? = some (secS (((L.set k s).set m (wriP m L k s)).getD (m + 1) [])) := by
    have := row_at (S := (L.set k s).set m (wriP m L k s)) (k := m + 1) (by rw [List.length_set, List.length_set]; omega)
    rwa [row_setS, row_setS] at this
  generalize ((L.set k s).set m (wriP m L k s)).getD (m + 1) [] = y5 at *
  generalize (L.set k s).getD m [] = y4 at *
  generalize othL (m + 2) L (wri m L k s) = D at *
  generalize wri m L k s = M at *
  generalize wriP m L k s = P at *
  generalize wriQ m L k s = Q at *
  generalize L.getD m [] = a1 at *
  generalize L.getD (m + 1) [] = a2 at *
  generalize L.getD k [] = a3 at *
  by_cases hD : D = []
  · subst hD
    cases x <;>
    · simp only [ww8, rw3, colB, rowX, e2] at i5 ⊢
      refine FunT.ev tabOk mixed Try.func60 rfl ?_
      conv => whnf
      repeat (first | (refine ⟨(by kernel_rfl : chkR _ _ _ _ = true), ?_⟩; conv => whnf) | (refine EvOr.go ?_; conv => whnf))
      refine CallG.use i1 c107 [0, 1, 2] [] ?_ ?_ ?_ ?_ ?_ ?_; rfl; rfl; kernel_rfl; rfl; rfl
      conv => whnf
      repeat (first | (refine ⟨(by kernel_rfl : chkR _ _ _ _ = true), ?_⟩; conv => whnf) | (refine EvOr.go ?_; conv => whnf))
      intro c hc
      obtain rfl : c = false := by rw [hc]; rfl
      conv => whnf
      repeat (first | (refine ⟨(by kernel_rfl : chkR _ _ _ _ = true), ?_⟩; conv => whnf) | (refine EvOr.go ?_; conv => whnf))
      refine ⟨_, e0, ?_⟩
      conv => whnf
      repeat (first | (refine ⟨(by kernel_rfl : chkR _ _ _ _ = true), ?_⟩; conv => whnf) | (refine EvOr.go ?_; conv => whnf))
      intro c hc
      obtain rfl : c = false := by rw [hc]; exact decide_eq_false (by omega)
      conv => whnf
      repeat (first | (refine ⟨(by kernel_rfl : chkR _ _ _ _ = true), ?_⟩; conv => whnf) | (refine EvOr.go ?_; conv => whnf))
      refine CallG.use i2 c109 [0, 1, 2] [] ?_ ?_ ?_ ?_ ?_ ?_; rfl; rfl; kernel_rfl; rfl; rfl
      conv => whnf
      repeat (first | (refine ⟨(by kernel_rfl : chkR _ _ _ _ = true), ?_⟩; conv => whnf) | (refine EvOr.go ?_; conv => whnf))
      refine CallG.use i3 c72 [1] [] ?_ ?_ ?_ ?_ ?_ ?_; rfl; rfl; kernel_rfl; rfl; rfl
      conv => whnf
      repeat (first | (refine ⟨(by kernel_rfl : chkR _ _ _ _ = true), ?_⟩; conv => whnf) | (refine EvOr.go ?_; conv => whnf))
      refine ⟨⟨by omega, by omega⟩, ?_⟩
      conv => whnf
      repeat (first | (refine ⟨(by kernel_rfl : chkR _ _ _ _ = true), ?_⟩; conv => whnf) | (refine EvOr.go ?_; conv => whnf))
      refine ⟨_, g2, ?_⟩
      conv => whnf
      repeat (first | (refine ⟨(by kernel_rfl : chkR _ _ _ _ = true), ?_⟩; conv => whnf) | (refine EvOr.go ?_; conv => whnf))
      refine ⟨_, e1, ?_⟩
      conv => whnf
      repeat (first | (refine ⟨(by kernel_rfl : chkR _ _ _ _ = true), ?_⟩; conv => whnf) | (refine EvOr.go ?_; conv => whnf))
      refine ⟨⟨by omega, by omega⟩, ?_⟩
      conv => whnf
      repeat (first | (refine ⟨(by kernel_rfl : chkR _ _ _ _ = true), ?_⟩; conv => whnf) | (refine EvOr.go ?_; conv => whnf))
      refine ⟨_, g3, ?_⟩
      conv => whnf
      repeat (first | (refine ⟨(by kernel_rfl : chkR _ _ _ _ = true), ?_⟩; conv => whnf) | (refine EvOr.go ?_; conv => whnf))
      refine ⟨⟨by omega, by omega⟩, ?_⟩
      conv => whnf
      repeat (first | (refine ⟨(by kernel_rfl : chkR _ _ _ _ = true), ?_⟩; conv => whnf) | (refine EvOr.go ?_; conv => whnf))
      refine ⟨_, g1, ?_⟩
      conv => whnf
      repeat (first | (refine ⟨(by kernel_rfl : chkR _ _ _ _ = true), ?_⟩; conv => whnf) | (refine EvOr.go ?_; conv => whnf))
      refine CallG.use i4 c23 [] [] ?_ ?_ ?_ ?_ ?_ ?_; rfl; rfl; kernel_rfl; rfl; rfl
      conv => whnf
      repeat (first | (refine ⟨(by kernel_rfl : chkR _ _ _ _ = true), ?_⟩; conv => whnf) | (refine EvOr.go ?_; conv => whnf))
      refine ⟨_, e1, ?_⟩
      conv => whnf
      repeat (first | (refine ⟨(by kernel_rfl : chkR _ _ _ _ = true), ?_⟩; conv => whnf) | (refine EvOr.go ?_; conv => whnf))
      refine ⟨⟨by omega, by omega⟩, ?_⟩
      conv => whnf
      repeat (first | (refine ⟨(by kernel_rfl : chkR _ _ _ _ = true), ?_⟩; conv => whnf) | (refine EvOr.go ?_; conv => whnf))
      refine ⟨_, g1, ?_⟩
      conv => whnf
      repeat (first | (refine ⟨(by kernel_rfl : chkR _ _ _ _ = true), ?_⟩; conv => whnf) | (refine EvOr.go ?_; conv => whnf))
      refine ⟨⟨by omega, by omega⟩, ?_⟩
      conv => whnf
      repeat (first | (refine ⟨(by kernel_rfl : chkR _ _ _ _ = true), ?_⟩; conv => whnf) | (refine EvOr.go ?_; conv => whnf))
      refine ⟨_, g4, ?_⟩
      conv => whnf
      repeat (first | (refine ⟨(by kernel_rfl : chkR _ _ _ _ = true), ?_⟩; conv => whnf) | (refine EvOr.go ?_; conv => whnf))
      refine ⟨⟨by omega, by omega⟩, ?_⟩
      conv => whnf
      repeat (first | (refine ⟨(by kernel_rfl : chkR _ _ _ _ = true), ?_⟩; conv => whnf) | (refine EvOr.go ?_; conv => whnf))
      refine ⟨_, g5, ?_⟩
      conv => whnf
      repeat (first | (refine ⟨(by kernel_rfl : chkR _ _ _ _ = true), ?_⟩; conv => whnf) | (refine EvOr.go ?_; conv => whnf))
      refine CallG.use which_write c111 [0, 3, 6] [] ?_ ?_ ?_ ?_ ?_ ?_; rfl; rfl; kernel_rfl; rfl; rfl
      conv => whnf
      repeat (first | (refine ⟨(by kernel_rfl : chkR _ _ _ _ = true), ?_⟩; conv => whnf) | (refine EvOr.go ?_; conv => whnf))
      refine CallG.use i5 c110 [0, 1, 2, 3, 5, 6, 8, 9] [] ?_ ?_ ?_ ?_ ?_ ?_; rfl; rfl; kernel_rfl; rfl; rfl
      conv => whnf
      repeat (first | (refine ⟨(by kernel_rfl : chkR _ _ _ _ = true), ?_⟩; conv => whnf) | (refine EvOr.go ?_; conv => whnf))
      exact retQ.allS tabOk [0, 1, 2, 10] _ [.sc nilS, iv 0] rfl (by first | exact .inr rfl | exact .inl rfl) (by repeat' (first | exact trivial | rfl | (intro h; cases h; done) | (refine ⟨?_, ?_⟩))) rfl (by rfl) (by kernel_rfl) (by first | rfl | kernel_rfl)
  · obtain ⟨q1, q2⟩ := nr_row 8 (List.length_pos_iff.2 hD)
    obtain ⟨q3, _⟩ := nr_row 3 (List.length_pos_iff.2 hD)
    rw [q1, q2] at i5
    rw [q2, q3]
    cases x <;>
    · simp only [ww8, rw3, colB, rowX, e2] at i5 ⊢
      refine FunT.ev tabOk mixed Try.func60 rfl ?_
      conv => whnf
      repeat (first | (refine ⟨(by kernel_rfl : chkR _ _ _ _ = true), ?_⟩; conv => whnf) | (refine EvOr.go ?_; conv => whnf))
      refine CallG.use i1 c107 [0, 1, 2] [] ?_ ?_ ?_ ?_ ?_ ?_; rfl; rfl; kernel_rfl; rfl; rfl
      conv => whnf
      repeat (first | (refine ⟨(by kernel_rfl : chkR _ _ _ _ = true), ?_⟩; conv => whnf) | (refine EvOr.go ?_; conv => whnf))
      intro c hc
      obtain rfl : c = false := by rw [hc]; rfl
      conv => whnf
      repeat (first | (refine ⟨(by kernel_rfl : chkR _ _ _ _ = true), ?_⟩; conv => whnf) | (refine EvOr.go ?_; conv => whnf))
      refine ⟨_, e0, ?_⟩
      conv => whnf
      repeat (first | (refine ⟨(by kernel_rfl : chkR _ _ _ _ = true), ?_⟩; conv => whnf) | (refine EvOr.go ?_; conv => whnf))
      intro c hc
      obtain rfl : c = false := by rw [hc]; exact decide_eq_false (by omega)
      conv => whnf
      repeat (first | (refine ⟨(by kernel_rfl : chkR _ _ _ _ = true), ?_⟩; conv => whnf) | (refine EvOr.go ?_; conv => whnf))
      refine CallG.use i2 c109 [0, 1, 2] [] ?_ ?_ ?_ ?_ ?_ ?_; rfl; rfl; kernel_rfl; rfl; rfl
      conv => whnf
      repeat (first | (refine ⟨(by kernel_rfl : chkR _ _ _ _ = true), ?_⟩; conv => whnf) | (refine EvOr.go ?_; conv => whnf))
      refine CallG.use i3 c72 [1] [] ?_ ?_ ?_ ?_ ?_ ?_; rfl; rfl; kernel_rfl; rfl; rfl
      conv => whnf
      repeat (first | (refine ⟨(by kernel_rfl : chkR _ _ _ _ = true), ?_⟩; conv => whnf) | (refine EvOr.go ?_; conv => whnf))
      refine ⟨⟨by omega, by omega⟩, ?_⟩
      conv => whnf
      repeat (first | (refine ⟨(by kernel_rfl : chkR _ _ _ _ = true), ?_⟩; conv => whnf) | (refine EvOr.go ?_; conv => whnf))
      refine ⟨_, g2, ?_⟩
      conv => whnf
      repeat (first | (refine ⟨(by kernel_rfl : chkR _ _ _ _ = true), ?_⟩; conv => whnf) | (refine EvOr.go ?_; conv => whnf))
      refine ⟨_, e1, ?_⟩
      conv => whnf
      repeat (first | (refine ⟨(by kernel_rfl : chkR _ _ _ _ = true), ?_⟩; conv => whnf) | (refine EvOr.go ?_; conv => whnf))
      refine ⟨⟨by omega, by omega⟩, ?_⟩
      conv => whnf
      repeat (first | (refine ⟨(by kernel_rfl : chkR _ _ _ _ = true), ?_⟩; conv => whnf) | (refine EvOr.go ?_; conv => whnf))
      refine ⟨_, g3, ?_⟩
      conv => whnf
      repeat (first | (refine ⟨(by kernel_rfl : chkR _ _ _ _ = true), ?_⟩; conv => whnf) | (refine EvOr.go ?_; conv => whnf))
      refine ⟨⟨by omega, by omega⟩, ?_⟩
      conv => whnf
      repeat (first | (refine ⟨(by kernel_rfl : chkR _ _ _ _ = true), ?_⟩; conv => whnf) | (refine EvOr.go ?_; conv => whnf))
      refine ⟨_, g1, ?_⟩
      conv => whnf
      repeat (first | (refine ⟨(by kernel_rfl : chkR _ _ _ _ = true), ?_⟩; conv => whnf) | (refine EvOr.go ?_; conv => whnf))
      refine CallG.use i4 c23 [] [] ?_ ?_ ?_ ?_ ?_ ?_; rfl; rfl; kernel_rfl; rfl; rfl
      conv => whnf
      repeat (first | (refine ⟨(by kernel_rfl : chkR _ _ _ _ = true), ?_⟩; conv => whnf) | (refine EvOr.go ?_; conv => whnf))
      refine ⟨_, e1, ?_⟩
      conv => whnf
      repeat (first | (refine ⟨(by kernel_rfl : chkR _ _ _ _ = true), ?_⟩; conv => whnf) | (refine EvOr.go ?_; conv => whnf))
      refine ⟨⟨by omega, by omega⟩, ?_⟩
      conv => whnf
      repeat (first | (refine ⟨(by kernel_rfl : chkR _ _ _ _ = true), ?_⟩; conv => whnf) | (refine EvOr.go ?_; conv => whnf))
      refine ⟨_, g1, ?_⟩
      conv => whnf
      repeat (first | (refine ⟨(by kernel_rfl : chkR _ _ _ _ = true), ?_⟩; conv => whnf) | (refine EvOr.go ?_; conv => whnf))
      refine ⟨⟨by omega, by omega⟩, ?_⟩
      conv => whnf
      repeat (first | (refine ⟨(by kernel_rfl : chkR _ _ _ _ = true), ?_⟩; conv => whnf) | (refine EvOr.go ?_; conv => whnf))
      refine ⟨_, g4, ?_⟩
      conv => whnf
      repeat (first | (refine ⟨(by kernel_rfl : chkR _ _ _ _ = true), ?_⟩; conv => whnf) | (refine EvOr.go ?_; conv => whnf))
      refine ⟨⟨by omega, by omega⟩, ?_⟩
      conv => whnf
      repeat (first | (refine ⟨(by kernel_rfl : chkR _ _ _ _ = true), ?_⟩; conv => whnf) | (refine EvOr.go ?_; conv => whnf))
      refine ⟨_, g5, ?_⟩
      conv => whnf
      repeat (first | (refine ⟨(by kernel_rfl : chkR _ _ _ _ = true), ?_⟩; conv => whnf) | (refine EvOr.go ?_; conv => whnf))
      refine CallG.use which_write c111 [0, 3, 6] [] ?_ ?_ ?_ ?_ ?_ ?_; rfl; rfl; kernel_rfl; rfl; rfl
      conv => whnf
      repeat (first | (refine ⟨(by kernel_rfl : chkR _ _ _ _ = true), ?_⟩; conv => whnf) | (refine EvOr.go ?_; conv => whnf))
      refine CallG.use i5 c110 [0, 1, 2, 3, 5, 6, 8, 9] [] ?_ ?_ ?_ ?_ ?_ ?_; rfl; rfl; kernel_rfl; rfl; rfl
      conv => whnf
      repeat (first | (refine ⟨(by kernel_rfl : chkR _ _ _ _ = true), ?_⟩; conv => whnf) | (refine EvOr.go ?_; conv => whnf))
      exact retQ.allS tabOk [0, 1, 2, 10] _ [.sc (.sl 10 0 1 D.length none), iv 0] rfl (by first | exact .inr rfl | exact .inl rfl) (by repeat' (first | exact trivial | rfl | (intro h; cases h; done) | (refine ⟨?_, ?_⟩))) rfl (by rfl) (by kernel_rfl) (by first | rfl | kernel_rfl)
end Go.Proofs.Ytdmcbfmpnakdfaa.Eng.St
