/- Stores; new blocks. -/
import Derived.Test.YtdmcbfmpnakdfaaEg
namespace Go.Proofs.Ytdmcbfmpnakdfaa.Eng
open Go

theorem SV.oneB_den {v : SV} (h : v.oneB = true) (ρ : Ren) : cell1 (v.den ρ) = true := by
  cases v with
  | raw v => exact h
  | sl id i sz len cap => cases cap <;> rfl
  | _ => rfl
theorem Segs.oneB_den : ∀ {s : Segs}, Segs.oneB s = true → ∀ (ρ : Ren), ∀ v ∈ Segs.den ρ s, cell1 v = true
  | [], _, ρ, v, hv => by simp [Segs.den] at hv
  | .one x :: l, h, ρ, v, hv => by
    simp only [Segs.oneB, Bool.and_eq_true] at h
    simp only [Segs.den, Seg.den, List.mem_append, List.mem_singleton] at hv
    rcases hv with rfl | hv
    · exact SV.oneB_den h.1 ρ
    · exact Segs.oneB_den h.2 ρ v hv
  | .byt n b :: l, h, ρ, v, hv => by
    simp only [Segs.den, Seg.den, List.mem_append] at hv
    rcases hv with hv | hv
    · simp only [bysN, List.mem_map] at hv
      obtain ⟨i, _, rfl⟩ := hv
      rfl
    · exact Segs.oneB_den (s := l) h ρ v hv
  | .raw r :: l, h, ρ, v, hv => by
    simp only [Segs.oneB, Bool.and_eq_true, List.all_eq_true] at h
    simp only [Segs.den, Seg.den, List.mem_append] at hv
    rcases hv with hv | hv
    · exact h.1 v hv
    · exact Segs.oneB_den h.2 ρ v hv

/-- Two worlds that are the same but for one block. -/
structure ButAt (w w' : World) (b : Nat) : Prop where
  rest : ∀ c, c ≠ b → w'.heap[c]? = w.heap[c]?
  size : w'.heap.size = w.heap.size
  os : w'.os = w.os
  tape : w'.tape = w.tape
  output : w'.output = w.output
theorem ButAt.refl (w : World) (b : Nat) : ButAt w w b := ⟨fun _ _ => rfl, rfl, rfl, rfl, rfl⟩
theorem ButAt.trans {w w' w'' : World} {b : Nat} (h : ButAt w w' b) (h' : ButAt w' w'' b) : ButAt w w'' b :=
  ⟨fun c hc => (h'.rest c hc).trans (h.rest c hc), h'.size.trans h.size, h'.os.trans h.os, h'.tape.trans h.tape, h'.output.trans h.output⟩

theorem setCell_at {w : World} {b o : Nat} {c : Array Value} {t : TypeId} {fr : Nat × Nat} {v : Value} (h : w.heap[b]? = some (.cells c t fr)) :
    (w.setCell ⟨b, o, none⟩ v).heap[b]? = some (.cells (c.setIfInBounds o v) t fr) ∧ ButAt w (w.setCell ⟨b, o, none⟩ v) b := by
  constructor
  · simp [World.setCell, Array.getElem?_modify, h]
  · refine ⟨fun k hk => ?_, by simp [World.setCell], rfl, rfl, rfl⟩
    simp [World.setCell, Array.getElem?_modify, Ne.symm hk]

theorem run_storeCells {P : Program} {b o : Nat} {t : TypeId} : ∀ (vs : List Value) (i : Nat) (w : World) (c : Array Value), w.heap[b]? = some (.cells c t (0, 0)) → o + i + vs.length ≤ c.size → (∀ v ∈ vs, cell1 v = true) →
    ∃ w' c', (storeCells ⟨b, o, none⟩ vs i).run P w = .ok () w' ∧ w'.heap[b]? = some (.cells c' t (0, 0)) ∧ c'.toList = c.toList.take (o + i) ++ (vs ++ c.toList.drop (o + i + vs.length)) ∧ ButAt w w' b := by
  intro vs
  induction vs with
  | nil => intro i w c h hs _; exact ⟨w, c, rfl, h, by simp, ButAt.refl w b⟩
  | cons v vs ih =>
    intro i w c h hs hv
    simp only [List.length_cons] at hs
    have hcell : w.cell? ⟨b, o + i, none⟩ = some (c[o + i]'(by omega)) := by
      unfold World.cell?
      simp only [h, Option.isSome_none, Bool.false_eq_true, if_false]
      rw [Array.getElem?_eq_getElem]
    have hfr : w.frozen? ⟨b, o + i, none⟩ = false := by
      unfold World.frozen?
      simp only [h]
      simp
    obtain ⟨h1, h2⟩ := setCell_at (o := o + i) (v := v) h
    obtain ⟨w', c', k1, k2, k3, k4⟩ := ih (i + 1) _ _ h1 (by simp; omega) (fun x hx => hv x (by simp [hx]))
    refine ⟨w', c', ?_, k2, ?_, h2.trans k4⟩
    · unfold storeCells
      rw [Sem.run_bind, addr_add]
      have : (store ⟨b, o + i, none⟩ v).run P w = .ok () (w.setCell ⟨b, o + i, none⟩ v) := by
        have hv1 := hv v (by simp)
        unfold store
        cases v <;> first | (simp [cell1] at hv1; done) | (simp only [Sem.run, hcell, hfr]; rfl)
      rw [this]
      exact k1
    · rw [k3]
      have hlen : o + i < c.toList.length := by simp; omega
      simp only [Array.toList_setIfInBounds, List.length_cons]
      rw [show o + (i + 1) = o + i + 1 by omega, List.take_succ_eq_append_getElem (by simpa using hlen), List.take_set, List.getElem_set_self]
      rw [List.set_eq_of_length_le (by simp; omega), List.drop_set, if_pos (by omega), show o + i + 1 + vs.length = o + i + (vs.length + 1) by omega]
      simp

theorem rowDen_set (ρ : Ren) {i : Nat} {e' : Segs} {L : List Segs} (h : i < L.length) : rowDen ρ (L.set i e') = rowDen ρ (L.take i) ++ (Segs.den ρ e' ++ rowDen ρ (L.drop (i + 1))) := by
  rw [List.set_eq_take_append_cons_drop, if_pos h]
  simp [rowDen, List.flatMap_append, List.flatMap_cons]

/-- A block whose one element is another one. -/
theorem BlkSat.put {Γ : Ctx} {ρ : Ren} {w w' : World} {id i sz : Nat} {md : Md} {t : TypeId} {L : List Segs} {ms : List Nat} {e e' : Segs} (h : BlkSat Γ ρ w id (.row md t sz L ms)) (he : L[i]? = some e)
    (hmd : (ABlk.row md t sz L ms).w = true) (hs : Segs.size e' = sz) (hone : Segs.oneB e' = true) {c c' : Array Value} (hc : w.heap[(ρ id).b]? = some (.cells c t (0, 0))) (hc' : w'.heap[(ρ id).b]? = some (.cells c' t (0, 0)))
    (heq : c'.toList = c.toList.take ((ρ id).sh + i * sz) ++ (Segs.den ρ e' ++ c.toList.drop ((ρ id).sh + i * sz + sz))) :
    BlkSat Γ ρ w' id (.row md t sz (L.set i e') (ms ++ Segs.ids e')) := by
  obtain ⟨h1, h2, h3, h4⟩ := h
  have hi : i < L.length := (List.getElem?_eq_some_iff.1 he).1
  obtain ⟨s1, s2⟩ := row_split ρ L (fun e he => (h1 e he).1) i e he
  have hse := (h1 e (List.mem_of_getElem? he)).1
  have hsz : ∀ x ∈ L.set i e', Segs.size x = sz ∧ Segs.oneB x = true := fun x hx => by
    rcases List.mem_or_eq_of_mem_set hx with h | rfl
    · exact h1 x h
    · exact ⟨hs, hone⟩
  have hms : ∀ x ∈ L.set i e', ∀ y ∈ Segs.ids x, y ∈ ms ++ Segs.ids e' := fun x hx y hy => by
    rcases List.mem_or_eq_of_mem_set hx with h | rfl
    · exact List.mem_append.2 (.inl (h2 x h y hy))
    · exact List.mem_append.2 (.inr hy)
  have key : ∀ (pre post : List Value), c.toList = pre ++ (rowDen ρ L ++ post) → pre.length = (ρ id).sh → c'.toList = pre ++ (rowDen ρ (L.set i e') ++ post) := by
    intro pre post a1 a2
    have hp : pre ++ (rowDen ρ L ++ post) = (pre ++ rowDen ρ (L.take i)) ++ (Segs.den ρ e ++ (rowDen ρ (L.drop (i + 1)) ++ post)) := by rw [s1]; simp
    rw [heq, a1, hp, rowDen_set ρ hi]
    have hl : (pre ++ rowDen ρ (L.take i)).length = (ρ id).sh + i * sz := by rw [List.length_append, a2, s2]
    have hle : (Segs.den ρ e).length = sz := by rw [Segs.den_length, hse]
    rw [← hl, List.take_left', ← hle]
    · rw [List.drop_append, List.drop_of_length_le (by omega), show (pre ++ rowDen ρ (List.take i L)).length + (Segs.den ρ e).length - (pre ++ rowDen ρ (List.take i L)).length = (Segs.den ρ e).length by omega, List.drop_left']
      · simp
      · rfl
    · rfl
  refine ⟨hsz, hms, by simpa using h3, ?_⟩
  cases md
  · cases hmd
  · obtain ⟨c0, a1, a2, a3, a4⟩ := h4
    rw [hc] at a1; cases a1
    exact ⟨c', hc', by have := key [] [] (by simp [a2]) (by rw [a3]; rfl); simpa using this, a3, by simpa using a4⟩
  · obtain ⟨c0, pre, post, a1, a2, a3, a4⟩ := h4
    rw [hc] at a1; cases a1
    refine ⟨c', pre, post, hc', key pre post a2 a3, a3, ?_⟩
    have hcs : c'.size = c.size := by
      have e1 : c'.toList.length = c.toList.length := by
        rw [key pre post a2 a3, a2]
        simp only [List.length_append, rowDen_length _ (fun e he => (h1 e he).1), rowDen_length _ (fun e he => (hsz e he).1), List.length_set]
      simpa using e1
    rw [hcs]; exact a4
  · obtain ⟨c0, a1, a2, a3, a4⟩ := h4
    rw [hc] at a1; cases a1
    exact ⟨c', hc', by have := key [] [] (by simp [a2]) (by rw [a3]; rfl); simpa using this, a3, by simpa using a4⟩
  · cases hmd

theorem BlkSat.cells {Γ : Ctx} {ρ : Ren} {w : World} {id sz : Nat} {md : Md} {t : TypeId} {L : List Segs} {ms : List Nat} (h : BlkSat Γ ρ w id (.row md t sz L ms)) (hmd : (ABlk.row md t sz L ms).w = true) :
    ∃ c, w.heap[(ρ id).b]? = some (.cells c t (0, 0)) ∧ (ρ id).sh + L.length * sz ≤ c.size := by
  obtain ⟨h1, h2, h3, h4⟩ := h
  cases md
  · cases hmd
  · obtain ⟨c, a1, a2, a3, a4⟩ := h4
    exact ⟨c, a1, by have := congrArg List.length a2; rw [rowDen_length _ (fun e he => (h1 e he).1)] at this; simp at this; omega⟩
  · obtain ⟨c, pre, post, a1, a2, a3, a4⟩ := h4
    exact ⟨c, a1, by have := congrArg List.length a2; simp only [List.length_append, rowDen_length _ (fun e he => (h1 e he).1)] at this; simp at this; omega⟩
  · obtain ⟨c, a1, a2, a3, a4⟩ := h4
    exact ⟨c, a1, by have := congrArg List.length a2; rw [rowDen_length _ (fun e he => (h1 e he).1)] at this; simp at this; omega⟩
  · cases hmd

theorem dropS_oneB : ∀ (s : Segs) (k : Nat) (s' : Segs), dropS s k = some s' → Segs.oneB s = true → Segs.oneB s' = true
  | s, 0, s', h, h1 => by
    have h' : dropS s 0 = some s := by cases s <;> rfl
    rw [h'] at h; cases h; exact h1
  | [], k + 1, s', h, _ => by cases h
  | .one v :: l, k + 1, s', h, h1 => by
    simp only [Segs.oneB, Bool.and_eq_true] at h1
    exact dropS_oneB l k s' h h1.2
  | .byt n b :: l, k + 1, s', h, h1 => by
    simp only [dropS] at h
    split at h
    · exact dropS_oneB l _ s' h h1
    · cases h; exact h1
  | .raw r :: l, k + 1, s', h, h1 => by
    simp only [Segs.oneB, Bool.and_eq_true] at h1
    simp only [dropS] at h
    split at h
    · exact dropS_oneB l _ s' h h1.2
    · cases h
      simp only [Segs.oneB, Bool.and_eq_true, List.all_eq_true] at h1 ⊢
      exact ⟨fun x hx => h1.1 x (List.mem_of_mem_drop hx), h1.2⟩
theorem takeS_oneB : ∀ (s : Segs) (k : Nat) (s' : Segs), takeS s k = some s' → Segs.oneB s = true → Segs.oneB s' = true
  | s, 0, s', h, _ => by cases s <;> (cases h; rfl)
  | [], k + 1, s', h, _ => by cases h
  | .one v :: l, k + 1, s', h, h1 => by
    simp only [takeS, Option.map_eq_some_iff] at h
    obtain ⟨s1, h, rfl⟩ := h
    simp only [Segs.oneB, Bool.and_eq_true] at h1 ⊢
    exact ⟨h1.1, takeS_oneB l k s1 h h1.2⟩
  | .byt n b :: l, k + 1, s', h, h1 => by
    simp only [takeS] at h
    split at h
    · simp only [Option.map_eq_some_iff] at h
      obtain ⟨s1, h, rfl⟩ := h
      exact takeS_oneB l _ s1 h h1
    · cases h; rfl
  | .raw r :: l, k + 1, s', h, h1 => by
    simp only [Segs.oneB, Bool.and_eq_true] at h1
    simp only [takeS] at h
    split at h
    · simp only [Option.map_eq_some_iff] at h
      obtain ⟨s1, h, rfl⟩ := h
      simp only [Segs.oneB, Bool.and_eq_true]
      exact ⟨h1.1, takeS_oneB l _ s1 h h1.2⟩
    · cases h
      simp only [Segs.oneB, Bool.and_eq_true, List.all_eq_true] at h1 ⊢
      exact ⟨fun x hx => h1.1 x (List.mem_of_mem_take hx), trivial⟩
theorem oneB_append : ∀ (a b : Segs), Segs.oneB (a ++ b) = (Segs.oneB a && Segs.oneB b)
  | [], _ => rfl
  | .one v :: l, b => by simp only [List.cons_append, Segs.oneB, oneB_append l b, Bool.and_assoc]
  | .byt n c :: l, b => by simp only [List.cons_append, Segs.oneB, oneB_append l b]
  | .raw r :: l, b => by simp only [List.cons_append, Segs.oneB, oneB_append l b, Bool.and_assoc]
theorem repS_oneB {s s' x : Segs} {k : Nat} (h : repS s k x = some s') (h1 : Segs.oneB s = true) (h2 : Segs.oneB x = true) : Segs.oneB s' = true := by
  unfold repS at h
  cases ha : takeS s k with
  | none => rw [ha] at h; cases h
  | some a =>
    rw [ha] at h
    simp only [Option.bind_some, Option.map_eq_some_iff] at h
    obtain ⟨c, hc, rfl⟩ := h
    rw [oneB_append, oneB_append, takeS_oneB s k a ha h1, h2, dropS_oneB s _ c hc h1]; rfl

/-- Which ids a block names may be said otherwise. -/
def newMs (md : Md) (L : List Segs) (ms : List Nat) (e' : Segs) : List Nat := match md, L with
  | .one, [_] => Segs.ids e'
  | _, _ => ms ++ Segs.ids e'
theorem BlkSat.ms' {Γ : Ctx} {ρ : Ren} {w : World} {id i sz : Nat} {md : Md} {t : TypeId} {L : List Segs} {ms : List Nat} {e e' : Segs} (he : L[i]? = some e) (h : BlkSat Γ ρ w id (.row md t sz (L.set i e') (ms ++ Segs.ids e'))) : BlkSat Γ ρ w id (.row md t sz (L.set i e') (newMs md L ms e')) := by
  obtain ⟨h1, h2, h3, h4⟩ := h
  refine ⟨h1, ?_, h3, h4⟩
  unfold newMs
  split
  · rename_i x
    intro y hy z hz
    have hi : i = 0 := by
      have := (List.getElem?_eq_some_iff.1 he).1
      simp at this; exact this
    subst hi
    simp at hy
    subst hy
    exact hz
  · exact h2

/-- A store into an element, some cells of it. -/
theorem run_storeVar {P : Program} {Γ : Ctx} {ρ : Ren} {hp : AHeap} {w : World} (hs : Sat Γ ρ hp w) {id i sz fo : Nat} {md : Md} {t tt : TypeId} {L : List Segs} {ms : List Nat} {e e' x : Segs} {d : TD} (hd : TDOk P tt d)
    (hb : hp id = some (.row md t sz L ms)) (hmd : (ABlk.row md t sz L ms).w = true) (he : L[i]? = some e) (hr : repS e fo x = some e') (hx : Segs.size x = d.size) (h1 : Segs.oneB x = true) {v : Value} (hv : v.cells = (Segs.den ρ x).toArray) :
    ∃ w', (storeVar tt ⟨(ρ id).b, (ρ id).sh + i * sz + fo, none⟩ v).run P w = .ok () w' ∧ Sat Γ ρ (upd hp id (some (.row md t sz (L.set i e') (newMs md L ms e')))) w' := by
  have hbs := hs.blk id _ hb
  obtain ⟨c, hc, hcs⟩ := hbs.cells hmd
  have hsz := (hbs.1 e (List.mem_of_getElem? he)).1
  have hi : i < L.length := (List.getElem?_eq_some_iff.1 he).1
  obtain ⟨r1, r2, r3, r4⟩ := repS_den (ρ := ρ) hr
  have hxl : (Segs.den ρ x).length = Segs.size x := Segs.den_length ρ x
  have hmul : i * sz + sz ≤ L.length * sz := by
    have := Nat.mul_le_mul_right sz (show i + 1 ≤ L.length by omega)
    rw [Nat.add_mul] at this; omega
  obtain ⟨w', c', k1, k2, k3, k4⟩ := run_storeCells (P := P) (b := (ρ id).b) (o := (ρ id).sh + i * sz + fo) (t := t) (Segs.den ρ x) 0 w c hc (by omega) (Segs.oneB_den h1 ρ)
  refine ⟨w', ?_, ?_⟩
  · unfold storeVar
    rw [Sem.run_bind, hd.sz, Result.andThen_ok, hv]
    have : ¬ ((Segs.den ρ x).toArray.size ≠ d.size) := by simp [hxl, hx]
    simp only [this, if_false]
    exact k1
  · refine hs.write hb hmd (BlkSat.ms' he <| hbs.put (c := c) (c' := c') he hmd (by rw [r2]; exact hsz) (repS_oneB hr (hbs.1 e (List.mem_of_getElem? he)).2 h1) hc k2 ?_) k4.rest (by rw [k4.size]; exact Nat.le_refl _) k4.os k4.tape k4.output
    rw [k3, r3]
    obtain ⟨c0, t0, fr, pre, post, b1, b2, b3, b4⟩ := hbs.elem he
    rw [hc] at b1; cases b1
    have hel : (Segs.den ρ e).length = sz := by rw [Segs.den_length, hsz]
    rw [b2, ← b3]
    simp only [Nat.add_zero]
    rw [hxl]
    have e1 : List.take (pre.length + fo) (pre ++ (Segs.den ρ e ++ post)) = pre ++ (Segs.den ρ e).take fo := by
      rw [List.take_append, List.take_of_length_le (l := pre) (by omega), show pre.length + fo - pre.length = fo by omega, List.take_append, show fo - (Segs.den ρ e).length = 0 by omega]
      simp
    have e2 : List.drop (pre.length + fo + Segs.size x) (pre ++ (Segs.den ρ e ++ post)) = (Segs.den ρ e).drop (fo + Segs.size x) ++ post := by
      rw [List.drop_append, List.drop_of_length_le (l := pre) (by omega), show pre.length + fo + Segs.size x - pre.length = fo + Segs.size x by omega, List.drop_append, show fo + Segs.size x - (Segs.den ρ e).length = 0 by omega]
      simp
    have e3 : List.take pre.length (pre ++ (Segs.den ρ e ++ post)) = pre := by rw [List.take_left']; rfl
    have e4 : List.drop (pre.length + sz) (pre ++ (Segs.den ρ e ++ post)) = post := by
      rw [List.drop_append, List.drop_of_length_le (l := pre) (by omega), show pre.length + sz - pre.length = sz by omega, ← hel, List.drop_left']
      · simp
      · rfl
    rw [e1, e2, e3, e4]
    simp
end Go.Proofs.Ytdmcbfmpnakdfaa.Eng
