/- A small logic of memory over the kit's walk: values, blocks, what a world holds. -/
import Derived.Calls
import Derived.Orders
import Derived.Below
namespace Go.Proofs.Ytdmcbfmpnakdfaa.Eng
open Go

/-- Where an abstract block lies: the block, the first cell, how many elements there is room for. -/
structure Spot where
  b : Nat
  sh : Nat
  tot : Nat
abbrev Ren := Nat → Spot

/-- Values of one cell. -/
inductive SV where
  | raw (v : Value)
  | ptr (id i sz fo : Nat)
  | ptrB (id i sz fo k : Nat)
  | sl (id i sz len : Nat) (cap : Option Nat)
  | mp (id : Nat)
  | fn (f : Fn) (first caps : List SV)
  | ifc (t : TypeId) (v : SV)

mutual
def SV.den (ρ : Ren) : SV → Value
  | .raw v => v
  | .ptr id i sz fo => .pointer (some ⟨(ρ id).b, (ρ id).sh + i * sz + fo, none⟩)
  | .ptrB id i sz fo k => .pointer (some ⟨(ρ id).b, (ρ id).sh + i * sz + fo + k, none⟩)
  | .sl id i sz len none => .slice (some ⟨(ρ id).b, (ρ id).sh + i * sz, none⟩) len ((ρ id).tot - i)
  | .sl id i sz len (some c) => .slice (some ⟨(ρ id).b, (ρ id).sh + i * sz, none⟩) len c
  | .mp id => .map (some (ρ id).b)
  | .fn f a b => .func f (SV.dens ρ a).toArray (SV.dens ρ b).toArray
  | .ifc t v => .iface t (v.den ρ)
def SV.dens (ρ : Ren) : List SV → List Value
  | [] => []
  | v :: l => v.den ρ :: SV.dens ρ l
end
mutual
def SV.ids : SV → List Nat
  | .raw _ => []
  | .ptr id _ _ _ => [id]
  | .ptrB id _ _ _ _ => [id]
  | .sl id _ _ _ _ => [id]
  | .mp id => [id]
  | .fn _ a b => SV.idss a ++ SV.idss b
  | .ifc _ v => v.ids
def SV.idss : List SV → List Nat
  | [] => []
  | v :: l => v.ids ++ SV.idss l
end
mutual
def SV.ren (π : Nat → Nat) : SV → SV
  | .raw v => .raw v
  | .ptr id i sz fo => .ptr (π id) i sz fo
  | .ptrB id i sz fo k => .ptrB (π id) i sz fo k
  | .sl id i sz len c => .sl (π id) i sz len c
  | .mp id => .mp (π id)
  | .fn f a b => .fn f (SV.rens π a) (SV.rens π b)
  | .ifc t v => .ifc t (v.ren π)
def SV.rens (π : Nat → Nat) : List SV → List SV
  | [] => []
  | v :: l => v.ren π :: SV.rens π l
end

mutual
theorem SV.den_congr {ρ ρ' : Ren} : ∀ (v : SV), (∀ id ∈ v.ids, ρ' id = ρ id) → v.den ρ' = v.den ρ
  | .raw _, _ => rfl
  | .ptr id i sz fo, h => by have := h id (by simp [SV.ids]); simp [SV.den, this]
  | .ptrB id i sz fo k, h => by have := h id (by simp [SV.ids]); simp [SV.den, this]
  | .sl id i sz len none, h => by have := h id (by simp [SV.ids]); simp [SV.den, this]
  | .sl id i sz len (some c), h => by have := h id (by simp [SV.ids]); simp [SV.den, this]
  | .mp id, h => by have := h id (by simp [SV.ids]); simp [SV.den, this]
  | .fn f a b, h => by
    simp only [SV.den]
    rw [SV.dens_congr a (fun id hi => h id (by simp [SV.ids, hi])), SV.dens_congr b (fun id hi => h id (by simp [SV.ids, hi]))]
  | .ifc t v, h => by simp only [SV.den]; rw [SV.den_congr v h]
theorem SV.dens_congr {ρ ρ' : Ren} : ∀ (l : List SV), (∀ id ∈ SV.idss l, ρ' id = ρ id) → SV.dens ρ' l = SV.dens ρ l
  | [], _ => rfl
  | v :: l, h => by
    simp only [SV.dens]
    rw [SV.den_congr v (fun id hi => h id (by simp [SV.idss, hi])), SV.dens_congr l (fun id hi => h id (by simp [SV.idss, hi]))]
end
mutual
theorem SV.den_ren (ρ : Ren) (π : Nat → Nat) : ∀ (v : SV), (v.ren π).den ρ = v.den (fun i => ρ (π i))
  | .raw _ => rfl
  | .ptr id i sz fo => rfl
  | .ptrB id i sz fo k => rfl
  | .sl id i sz len none => rfl
  | .sl id i sz len (some c) => rfl
  | .mp id => rfl
  | .fn f a b => by simp only [SV.den, SV.ren]; rw [SV.dens_ren ρ π a, SV.dens_ren ρ π b]
  | .ifc t v => by simp only [SV.den, SV.ren]; rw [SV.den_ren ρ π v]
theorem SV.dens_ren (ρ : Ren) (π : Nat → Nat) : ∀ (l : List SV), SV.dens ρ (SV.rens π l) = SV.dens (fun i => ρ (π i)) l
  | [] => rfl
  | v :: l => by simp only [SV.dens, SV.rens]; rw [SV.den_ren ρ π v, SV.dens_ren ρ π l]
end

/-- Cells: one; n bytes; any known ones. -/
inductive Seg where
  | one (v : SV)
  | byt (n : Nat) (l : List Nat)
  | raw (l : List Value)
/-- n bytes of a list, 0 where there is none. -/
def bysN (n : Nat) (l : List Nat) : List Value := (List.range n).map fun i => Value.int .u8 ((l.getD i 0 : Nat) : Int)
def Seg.den (ρ : Ren) : Seg → List Value
  | .one v => [v.den ρ]
  | .byt n l => bysN n l
  | .raw l => l
def Seg.size : Seg → Nat
  | .one _ => 1
  | .byt n _ => n
  | .raw l => l.length
def Seg.ids : Seg → List Nat
  | .one v => v.ids
  | _ => []
def Seg.ren (π : Nat → Nat) : Seg → Seg
  | .one v => .one (v.ren π)
  | s => s
abbrev Segs := List Seg
def Segs.den (ρ : Ren) : Segs → List Value
  | [] => []
  | s :: l => s.den ρ ++ Segs.den ρ l
def Segs.size : Segs → Nat
  | [] => 0
  | s :: l => s.size + Segs.size l
def Segs.ids : Segs → List Nat
  | [] => []
  | s :: l => s.ids ++ Segs.ids l
def Segs.ren (π : Nat → Nat) : Segs → Segs
  | [] => []
  | s :: l => s.ren π :: Segs.ren π l

theorem bysN_length (n : Nat) (l : List Nat) : (bysN n l).length = n := by simp [bysN]
theorem Seg.den_length (ρ : Ren) (s : Seg) : (s.den ρ).length = s.size := by cases s <;> simp [Seg.den, Seg.size, bysN_length]
theorem Segs.den_length (ρ : Ren) : ∀ (s : Segs), (Segs.den ρ s).length = Segs.size s
  | [] => rfl
  | s :: l => by simp [Segs.den, Segs.size, Seg.den_length, Segs.den_length ρ l]
theorem Seg.den_congr {ρ ρ' : Ren} (s : Seg) (h : ∀ id ∈ s.ids, ρ' id = ρ id) : s.den ρ' = s.den ρ := by
  cases s with
  | one v => simp only [Seg.den]; rw [SV.den_congr v h]
  | _ => rfl
theorem Segs.den_congr {ρ ρ' : Ren} : ∀ (s : Segs), (∀ id ∈ Segs.ids s, ρ' id = ρ id) → Segs.den ρ' s = Segs.den ρ s
  | [], _ => rfl
  | s :: l, h => by
    simp only [Segs.den]
    rw [Seg.den_congr s (fun id hi => h id (by simp [Segs.ids, hi])), Segs.den_congr l (fun id hi => h id (by simp [Segs.ids, hi]))]
theorem Seg.den_ren (ρ : Ren) (π : Nat → Nat) (s : Seg) : (s.ren π).den ρ = s.den (fun i => ρ (π i)) := by
  cases s with
  | one v => simp only [Seg.den, Seg.ren]; rw [SV.den_ren]
  | _ => rfl
theorem Seg.size_ren (π : Nat → Nat) (s : Seg) : (s.ren π).size = s.size := by cases s <;> rfl
theorem Segs.den_ren (ρ : Ren) (π : Nat → Nat) : ∀ (s : Segs), Segs.den ρ (Segs.ren π s) = Segs.den (fun i => ρ (π i)) s
  | [] => rfl
  | s :: l => by simp only [Segs.den, Segs.ren]; rw [Seg.den_ren, Segs.den_ren ρ π l]
theorem Segs.size_ren (π : Nat → Nat) : ∀ (s : Segs), Segs.size (Segs.ren π s) = Segs.size s
  | [] => rfl
  | s :: l => by simp only [Segs.size, Segs.ren]; rw [Seg.size_ren, Segs.size_ren π l]
theorem Segs.den_append (ρ : Ren) : ∀ (a b : Segs), Segs.den ρ (a ++ b) = Segs.den ρ a ++ Segs.den ρ b
  | [], _ => rfl
  | s :: l, b => by simp only [Segs.den, List.cons_append, Segs.den_append ρ l b, List.append_assoc]
theorem Segs.size_append : ∀ (a b : Segs), Segs.size (a ++ b) = Segs.size a + Segs.size b
  | [], b => by simp [Segs.size]
  | s :: l, b => by simp only [Segs.size, List.cons_append, Segs.size_append l b, Nat.add_assoc]
theorem Segs.ids_append : ∀ (a b : Segs), Segs.ids (a ++ b) = Segs.ids a ++ Segs.ids b
  | [], _ => rfl
  | s :: l, b => by simp only [Segs.ids, List.cons_append, Segs.ids_append l b, List.append_assoc]

/-- A value that takes one cell. -/
def cell1 : Value → Bool
  | .agg _ | .tuple _ => false
  | _ => true
def SV.oneB : SV → Bool
  | .raw v => cell1 v
  | _ => true
def Segs.oneB : Segs → Bool
  | [] => true
  | .one v :: l => v.oneB && Segs.oneB l
  | .byt _ _ :: l => Segs.oneB l
  | .raw r :: l => r.all cell1 && Segs.oneB l
theorem SV.oneB_ren (π : Nat → Nat) (v : SV) : (v.ren π).oneB = v.oneB := by cases v <;> rfl
theorem Segs.oneB_ren (π : Nat → Nat) : ∀ (s : Segs), Segs.oneB (Segs.ren π s) = Segs.oneB s
  | [] => rfl
  | .one v :: l => by simp only [Segs.ren, Seg.ren, Segs.oneB, SV.oneB_ren, Segs.oneB_ren π l]
  | .byt n b :: l => by simp only [Segs.ren, Seg.ren, Segs.oneB, Segs.oneB_ren π l]
  | .raw r :: l => by simp only [Segs.ren, Seg.ren, Segs.oneB, Segs.oneB_ren π l]
/-- Values of temporaries. -/
inductive AV where
  | junk
  | sc (v : SV)
  | agg (s : Segs)
  | tup (l : List AV)
mutual
def AV.den (ρ : Ren) : AV → Value
  | .junk => undef
  | .sc v => v.den ρ
  | .agg s => .agg (Segs.den ρ s).toArray
  | .tup l => .tuple (AV.dens ρ l).toArray
def AV.dens (ρ : Ren) : List AV → List Value
  | [] => []
  | v :: l => v.den ρ :: AV.dens ρ l
end
mutual
def AV.ids : AV → List Nat
  | .junk => []
  | .sc v => v.ids
  | .agg s => Segs.ids s
  | .tup l => AV.idss l
def AV.idss : List AV → List Nat
  | [] => []
  | v :: l => v.ids ++ AV.idss l
end
mutual
def AV.ren (π : Nat → Nat) : AV → AV
  | .junk => .junk
  | .sc v => .sc (v.ren π)
  | .agg s => .agg (Segs.ren π s)
  | .tup l => .tup (AV.rens π l)
def AV.rens (π : Nat → Nat) : List AV → List AV
  | [] => []
  | v :: l => v.ren π :: AV.rens π l
end
mutual
theorem AV.den_congr {ρ ρ' : Ren} : ∀ (v : AV), (∀ id ∈ v.ids, ρ' id = ρ id) → v.den ρ' = v.den ρ
  | .junk, _ => rfl
  | .sc v, h => SV.den_congr v h
  | .agg s, h => by simp only [AV.den]; rw [Segs.den_congr s h]
  | .tup l, h => by simp only [AV.den]; rw [AV.dens_congr l h]
theorem AV.dens_congr {ρ ρ' : Ren} : ∀ (l : List AV), (∀ id ∈ AV.idss l, ρ' id = ρ id) → AV.dens ρ' l = AV.dens ρ l
  | [], _ => rfl
  | v :: l, h => by
    simp only [AV.dens]
    rw [AV.den_congr v (fun id hi => h id (by simp [AV.idss, hi])), AV.dens_congr l (fun id hi => h id (by simp [AV.idss, hi]))]
end
mutual
theorem AV.den_ren (ρ : Ren) (π : Nat → Nat) : ∀ (v : AV), (v.ren π).den ρ = v.den (fun i => ρ (π i))
  | .junk => rfl
  | .sc v => SV.den_ren ρ π v
  | .agg s => by simp only [AV.den, AV.ren]; rw [Segs.den_ren]
  | .tup l => by simp only [AV.den, AV.ren]; rw [AV.dens_ren ρ π l]
theorem AV.dens_ren (ρ : Ren) (π : Nat → Nat) : ∀ (l : List AV), AV.dens ρ (AV.rens π l) = AV.dens (fun i => ρ (π i)) l
  | [] => rfl
  | v :: l => by simp only [AV.dens, AV.rens]; rw [AV.den_ren ρ π v, AV.dens_ren ρ π l]
end

/-- ro: read alone, a part of what there was ahead; ex: all of a block; inx: a block that may be greater. -/
inductive Md where
  | ro | ex | inx | one
  /-- as ro; and these blocks of the first world stay as they are -/
  | fam (R : List (Nat × Obj))
/-- What a block holds: a row of elements of sz cells; a map. ms: the blocks that are named in it. -/
inductive ABlk where
  | row (md : Md) (t : TypeId) (sz : Nat) (L : List Segs) (ms : List Nat)
  | map (es : List (SV × AV)) (ms : List Nat)
def ABlk.ms : ABlk → List Nat
  | .row _ _ _ _ m => m
  | .map _ m => m
def ABlk.w : ABlk → Bool
  | .row .ro .. => false
  | .row (.fam _) .. => false
  | _ => true
def rowDen (ρ : Ren) (L : List Segs) : List Value := L.flatMap (Segs.den ρ)
def ABlk.ren (π : Nat → Nat) : ABlk → ABlk
  | .row md t sz L [] => .row md t sz L []
  | .row md t sz L (m :: ms) => .row md t sz (L.map (Segs.ren π)) ((m :: ms).map π)
  | .map es [] => .map es []
  | .map es (m :: ms) => .map (es.map fun (k, v) => (k.ren π, v.ren π)) ((m :: ms).map π)

theorem rowDen_congr {ρ ρ' : Ren} (L : List Segs) (h : ∀ e ∈ L, ∀ id ∈ Segs.ids e, ρ' id = ρ id) : rowDen ρ' L = rowDen ρ L := by
  induction L with
  | nil => rfl
  | cons e l ih =>
    simp only [rowDen, List.flatMap_cons] at *
    rw [Segs.den_congr e (h e (by simp)), ih (fun e' he' => h e' (by simp [he']))]
theorem rowDen_length {ρ : Ren} {sz : Nat} (L : List Segs) (h : ∀ e ∈ L, Segs.size e = sz) : (rowDen ρ L).length = L.length * sz := by
  induction L with
  | nil => simp [rowDen]
  | cons e l ih =>
    have := ih (fun e' he' => h e' (by simp [he']))
    simp only [rowDen, List.flatMap_cons, List.length_append, Segs.den_length, List.length_cons] at *
    rw [this, h e (by simp), Nat.add_mul]; omega

/-- What holds of the call as a whole: the world ahead of it, which blocks it may write to, where its first blocks lie. -/
structure Ctx where
  W : World
  F : Nat → Prop
  n0 : Nat
  r0 : Ren

def BlkSat (Γ : Ctx) (ρ : Ren) (w : World) (id : Nat) : ABlk → Prop
  | .row md t sz L ms =>
    (∀ e ∈ L, Segs.size e = sz ∧ Segs.oneB e = true) ∧ (∀ e ∈ L, ∀ x ∈ Segs.ids e, x ∈ ms) ∧ L.length ≤ (ρ id).tot ∧
    match md with
    | .ro => ∃ c t' fr pre post, w.heap[(ρ id).b]? = some (.cells c t' fr) ∧ c.toList = pre ++ (rowDen ρ L ++ post) ∧ pre.length = (ρ id).sh ∧ (ρ id).b < Γ.W.heap.size ∧ w.heap[(ρ id).b]? = Γ.W.heap[(ρ id).b]?
    | .ex | .one => ∃ c, w.heap[(ρ id).b]? = some (.cells c t (0, 0)) ∧ c.toList = rowDen ρ L ∧ (ρ id).sh = 0 ∧ (ρ id).tot = L.length
    | .inx => ∃ c pre post, w.heap[(ρ id).b]? = some (.cells c t (0, 0)) ∧ c.toList = pre ++ (rowDen ρ L ++ post) ∧ pre.length = (ρ id).sh ∧ (ρ id).sh + (ρ id).tot * sz ≤ c.size
    | .fam R => (∃ c t' fr pre post, w.heap[(ρ id).b]? = some (.cells c t' fr) ∧ c.toList = pre ++ (rowDen ρ L ++ post) ∧ pre.length = (ρ id).sh ∧ (ρ id).b < Γ.W.heap.size ∧ w.heap[(ρ id).b]? = Γ.W.heap[(ρ id).b]?) ∧ (∃ o, ((ρ id).b, o) ∈ R) ∧ ∀ x ∈ R, x.1 < Γ.W.heap.size ∧ ¬ Γ.F x.1 ∧ Γ.W.heap[x.1]? = some x.2
  | .map es ms => (∀ e ∈ es, ∀ x ∈ e.1.ids ++ e.2.ids, x ∈ ms) ∧ ∃ ents clock, w.heap[(ρ id).b]? = some (.map ents clock) ∧ ents.toList.map (fun e => (e.key, e.val)) = es.map (fun e => (e.1.den ρ, e.2.den ρ))

abbrev AHeap := Nat → Option ABlk
structure Sat (Γ : Ctx) (ρ : Ren) (hp : AHeap) (w : World) : Prop where
  blk : ∀ id b, hp id = some b → BlkSat Γ ρ w id b
  inj : ∀ i j a b, hp i = some a → hp j = some b → a.w = true → (ρ i).b = (ρ j).b → i = j
  foot : ∀ i a, hp i = some a → a.w = true → (ρ i).b < Γ.W.heap.size → Γ.F (ρ i).b
  frame : ∀ c, c < Γ.W.heap.size → ¬ Γ.F c → w.heap[c]? = Γ.W.heap[c]?
  size : Γ.W.heap.size ≤ w.heap.size
  os : w.os = Γ.W.os
  tape : w.tape = Γ.W.tape
  output : w.output = Γ.W.output
  fix : ∀ i, i < Γ.n0 → ρ i = Γ.r0 i

abbrev ATm := Nat → AV
structure TSat (ρ : Ren) (N : Nat) (tm : ATm) (tmps : Array Value) : Prop where
  size : tmps.size = N
  val : ∀ i, tm i = .junk ∨ tmps.getD i undef = (tm i).den ρ

theorem ABlk.ms_ro {md t sz L ms} : (ABlk.row md t sz L ms).ms = ms := rfl
/-- What a block holds hangs on the places of the blocks that it names, on its own, and on its block in the world. -/
theorem BlkSat.congr {Γ : Ctx} {ρ ρ' : Ren} {w w' : World} {id id' : Nat} {b : ABlk} (h : BlkSat Γ ρ w id b) (hid : ρ' id' = ρ id) (hm : ∀ x ∈ b.ms, ρ' x = ρ x)
    (hw : w'.heap[(ρ id).b]? = w.heap[(ρ id).b]?) : BlkSat Γ ρ' w' id' b := by
  cases b with
  | row md t sz L ms =>
    obtain ⟨h1, h2, h3, h4⟩ := h
    have hd : rowDen ρ' L = rowDen ρ L := rowDen_congr L fun e he x hx => hm x (h2 e he x hx)
    refine ⟨h1, h2, by rw [hid]; exact h3, ?_⟩
    cases md <;> (simp only [hid, hw, hd]; exact h4)
  | map es ms =>
    obtain ⟨h2, ents, clock, h3, h4⟩ := h
    refine ⟨h2, ents, clock, by rw [hid, hw]; exact h3, ?_⟩
    rw [h4]
    apply List.map_congr_left
    intro e he
    rw [SV.den_congr e.1 (fun x hx => (hm x (h2 e he x (by simp [hx])))), AV.den_congr e.2 (fun x hx => (hm x (h2 e he x (by simp [hx]))))]
end Go.Proofs.Ytdmcbfmpnakdfaa.Eng
