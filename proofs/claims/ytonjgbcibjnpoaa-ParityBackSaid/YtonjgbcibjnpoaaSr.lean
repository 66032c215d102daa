/- api.Row: three sectors in line. -/
import Derived.Test.YtonjgbcibjnpoaaSs
import Derived.Test.YtonjgbcibjnpoaaWEqStruct
namespace Go.Proofs.Ytonjgbcibjnpoaa.Sr
open Go.RowKit Go.Proofs.YtonjgbcibjnpoaaW.PrintWords Go.Proofs.Ytonjgbcibjnpoaa.Sc Go.Proofs.Ytonjgbcibjnpoaa.Sd Go.Proofs.Ytonjgbcibjnpoaa.Pb Go.Proofs.Ytonjgbcibjnpoaa.Ss

theorem foldl_putc {cs ds : Array Value} {off : Nat} (h : off + ds.size ≤ cs.size) : ds.zipIdx.foldl (fun cs (x : Value × Nat) => cs.setIfInBounds (off + x.2) x.1) cs = putc cs off ds := by
  have e : ds.zipIdx.foldl (fun cs (x : Value × Nat) => cs.setIfInBounds (off + x.2) x.1) cs = (ds.toList.zipIdx 0).foldl (fun cs (x : Value × Nat) => cs.setIfInBounds (off + x.2) x.1) cs := by
    rw [← Array.foldl_toList, Array.toList_zipIdx]
  rw [e]
  obtain ⟨h1, h2⟩ := Great.foldl_set off ds.toList 0 cs
  apply Array.ext_getElem?
  intro k
  rw [h2 k]
  unfold putc
  simp only [Nat.add_zero, Array.length_toList, List.getElem?_toArray]
  by_cases hk : k < off
  · rw [if_neg (by omega), List.append_assoc, List.getElem?_append_left (by simp; omega), List.getElem?_take_of_lt hk, Array.getElem?_toList]
  · by_cases hk2 : k < off + ds.size
    · rw [if_pos ⟨by omega, hk2, by omega⟩, List.getElem?_append_left (by simp; omega), List.getElem?_append_right (by simp; omega)]
      congr 1
      simp
      omega
    · rw [if_neg (by omega), List.getElem?_append_right (by simp; omega), List.getElem?_drop, Array.getElem?_toList]
      congr 1
      simp
      omega
theorem fill_cons {place : Nat → Option (Nat × Nat)} {cells : Array Value} {i off n : Nat} {v : Value} {rest : List (Nat × Value)} (hp : place i = some (off, n)) (hv : v.cells.size = n) (hl : off + n ≤ cells.size) :
    Instr.fill place cells ((i, v) :: rest) = Instr.fill place (putc cells off v.cells) rest := by
  rw [Instr.fill]
  simp only [hp]
  rw [if_neg (by simp [hv]; omega)]
  rw [foldl_putc (by omega)]

/-- A row's cells. -/
def rowL (p q o : List Nat) : List Nat := p ++ q ++ o
theorem rowL_length {p q o : List Nat} (hp : p.length = 64) (hq : q.length = 64) (ho : o.length = 64) : (rowL p q o).length = 192 := by simp [rowL, hp, hq, ho]
theorem ex_mid {a b c : List Nat} {off n : Nat} (ha : a.length = off) (hb : b.length = n) : (bys (a ++ b ++ c)).extract off (off + n) = bys b := by
  subst ha; subst hb
  rw [bys_extract]; unfold Sc.part
  rw [List.append_assoc, List.drop_left, List.take_left]
theorem pu_mid {a b c m : List Nat} {off : Nat} (ha : a.length = off) (hb : b.length = m.length) : putc (bys (a ++ b ++ c)) off (bys m) = bys (a ++ m ++ c) := by
  subst ha
  rw [putc_bys]; unfold into
  have e1 : (a ++ b ++ c).take a.length = a := by rw [List.append_assoc, List.take_left]
  have e2 : (a ++ b ++ c).drop (a.length + m.length) = c := by rw [← hb, ← List.length_append, List.drop_left]
  rw [e1, e2]
theorem row_p {p q o : List Nat} (hp : p.length = 64) : (bys (rowL p q o)).extract 0 (0 + 64) = bys p := by
  have h := ex_mid (a := []) (b := p) (c := q ++ o) rfl hp
  unfold rowL; rw [List.append_assoc]; exact h
theorem row_q {p q o : List Nat} (hp : p.length = 64) (hq : q.length = 64) : (bys (rowL p q o)).extract 64 (64 + 64) = bys q := ex_mid hp hq
theorem row_o {p q o : List Nat} (hp : p.length = 64) (hq : q.length = 64) (ho : o.length = 64) : (bys (rowL p q o)).extract 128 (128 + 64) = bys o := by
  have h := ex_mid (a := p ++ q) (b := o) (c := []) (off := 128) (by simp [hp, hq]) ho
  rwa [List.append_nil] at h
theorem put_p {p q o m : List Nat} (hp : p.length = 64) (hm : m.length = 64) : putc (bys (rowL p q o)) 0 (bys m) = bys (rowL m q o) := by
  have h := pu_mid (a := []) (b := p) (c := q ++ o) (m := m) rfl (by rw [hp, hm])
  unfold rowL; rw [List.append_assoc, List.append_assoc]; exact h
theorem put_q {p q o m : List Nat} (hp : p.length = 64) (hq : q.length = 64) (hm : m.length = 64) : putc (bys (rowL p q o)) 64 (bys m) = bys (rowL p m o) := pu_mid hp (by rw [hq, hm])
theorem put_o {p q o m : List Nat} (hp : p.length = 64) (hq : q.length = 64) (ho : o.length = 64) (hm : m.length = 64) : putc (bys (rowL p q o)) 128 (bys m) = bys (rowL p q m) := by
  have h := pu_mid (a := p ++ q) (b := o) (c := []) (m := m) (off := 128) (by simp [hp, hq]) (by rw [ho, hm])
  rwa [List.append_nil, List.append_nil] at h
theorem rowL_inj {p q o p' q' o' : List Nat} (hp : p.length = 64) (hq : q.length = 64) (hp' : p'.length = 64) (hq' : q'.length = 64) : rowL p q o = rowL p' q' o' ↔ p = p' ∧ q = q' ∧ o = o' := by
  unfold rowL
  constructor
  · intro h
    have h1 := List.append_inj h (by simp [hp, hq, hp', hq'])
    have h2 := List.append_inj h1.1 (by omega)
    exact ⟨h2.1, h2.2, h1.2⟩
  · rintro ⟨rfl, rfl, rfl⟩; rfl

theorem places25 : ∃ fs : Array Field, Try.prog.underlying 25 = some (.struct fs) ∧ ∀ w, (fs.mapM fun f => (do pure (f.offset, ← sizeOf f.type) : Sem (Nat × Nat))).run Try.prog w = .ok #[(0, 64), (64, 64), (128, 64)] w := by
  refine ⟨_, Try.underlying25, fun w => ?_⟩
  obtain ⟨i, hi, _, hs, _⟩ := info23
  simp [sizeOf, typeInfo, hi, hs]
theorem zero25 : (Try.prog.info? 25).map (·.zero) = some (some (.agg (bys (rowL zeros zeros zeros)))) := by kernel_rfl
theorem size25 : (Try.prog.info? 25).map (·.size) = some 192 := by kernel_rfl
theorem agg25 (w : World) : (isAgg 25).run Try.prog w = .ok true w := agg_of Try.underlying25 rfl w

def place25 (i : Nat) : Option (Nat × Nat) := (#[(0, 64), (64, 64), (128, 64)] : Array (Nat × Nat))[i]?
theorem exec_build25 {o : Oper} {a : Act} {w : World} {parts : Array (Nat × Operand)} {ps : List (Nat × Value)} {cells : Array Value} (ho : o.op = .build 25 parts) (hp : parts.toList.map (fun p => (p.1, a.eval p.2)) = ps)
    (hf : Instr.fill place25 (bys (rowL zeros zeros zeros)) ps = some cells) : (execOp a.eval o).run Try.prog w = .ok (.value (.agg cells)) w := by
  obtain ⟨fs, hu, hpl⟩ := places25
  have hz : (zeroValue 25).run Try.prog w = .ok (.agg (bys (rowL zeros zeros zeros))) w := by
    have h := zero25
    obtain ⟨i, hi, hz⟩ := Option.map_eq_some_iff.1 h
    simp [zeroValue, typeInfo, hi, hz]
  have h2 : (parts.map fun (i, x) => (i, a.eval x)).toList = ps := by rw [Array.toList_map]; exact hp
  have h3 : Instr.fill (fun x => (#[(0, 64), (64, 64), (128, 64)] : Array (Nat × Nat))[x]?) (bys (rowL zeros zeros zeros)) (parts.map fun (i, x) => (i, a.eval x)).toList = some cells := by rw [h2]; exact hf
  unfold execOp
  simp only [ho, Instr.build, Sem.run_bind, hz, Result.andThen_ok, Value.cells, run_underlying hu w, hpl, h3, Sem.run_pure]
section
variable {p q o : List Nat} (hp : p.length = 64) (hq : q.length = 64) (ho : o.length = 64)
include hp in
theorem fill_p {x y : List Nat} {rest : List (Nat × Value)} (hx : x.length = 64) (hy : y.length = 64) {z : List Nat} (hz : z.length = 64) : Instr.fill place25 (bys (rowL x y z)) ((0, .agg (bys p)) :: rest) = Instr.fill place25 (bys (rowL p y z)) rest := by
  rw [fill_cons (off := 0) (n := 64) rfl (by show (bys p).size = 64; rw [bys_size, hp]) (by rw [bys_size, rowL_length hx hy hz]; decide)]
  show Instr.fill place25 (putc _ 0 (bys p)) rest = _
  rw [put_p hx hp]
include hp in
theorem fill_q {x y : List Nat} {rest : List (Nat × Value)} (hx : x.length = 64) (hy : y.length = 64) {z : List Nat} (hz : z.length = 64) : Instr.fill place25 (bys (rowL x y z)) ((1, .agg (bys p)) :: rest) = Instr.fill place25 (bys (rowL x p z)) rest := by
  rw [fill_cons (off := 64) (n := 64) rfl (by show (bys p).size = 64; rw [bys_size, hp]) (by rw [bys_size, rowL_length hx hy hz]; decide)]
  show Instr.fill place25 (putc _ 64 (bys p)) rest = _
  rw [put_q hx hy hp]
include hp in
theorem fill_o {x y : List Nat} {rest : List (Nat × Value)} (hx : x.length = 64) (hy : y.length = 64) {z : List Nat} (hz : z.length = 64) : Instr.fill place25 (bys (rowL x y z)) ((2, .agg (bys p)) :: rest) = Instr.fill place25 (bys (rowL x y p)) rest := by
  rw [fill_cons (off := 128) (n := 64) rfl (by show (bys p).size = 64; rw [bys_size, hp]) (by rw [bys_size, rowL_length hx hy hz]; decide)]
  show Instr.fill place25 (putc _ 128 (bys p)) rest = _
  rw [put_o hx hy hz hp]
include hp hq ho in
theorem fill3 : Instr.fill place25 (bys (rowL zeros zeros zeros)) [(0, .agg (bys p)), (1, .agg (bys q)), (2, .agg (bys o))] = some (bys (rowL p q o)) := by
  rw [fill_p hp zeros_length zeros_length zeros_length, fill_q hq hp zeros_length zeros_length, fill_o ho hp hq zeros_length]; rfl
theorem fill0 : Instr.fill place25 (bys (rowL zeros zeros zeros)) [] = some (bys (rowL zeros zeros zeros)) := rfl
include ho in
theorem fillo : Instr.fill place25 (bys (rowL zeros zeros zeros)) [(2, .agg (bys o))] = some (bys (rowL zeros zeros o)) := by
  rw [fill_o ho zeros_length zeros_length zeros_length]; rfl
include hp hq in
theorem fillpq : Instr.fill place25 (bys (rowL zeros zeros zeros)) [(0, .agg (bys p)), (1, .agg (bys q))] = some (bys (rowL p q zeros)) := by
  rw [fill_p hp zeros_length zeros_length zeros_length, fill_q hq hp zeros_length zeros_length]; rfl
end
/-- Two rows compared. -/
theorem eq23 (d : Nat) {l m : List Nat} (hl : l.length = 64) (hm : m.length = 64) (w : World) : (Op.equalIn (d + 3) 23 (.agg (bys l)) (.agg (bys m))).run Try.prog w = .ok (decide (l = m)) w := by
  obtain ⟨i, hi, _⟩ := Option.map_eq_some_iff.1 T23.hie
  have h1 := run_equalIn_array (P := Try.prog) (w := w) (d + 2) (bys l) (bys m) T23.hu hi
  have h2 := eqItems_run (w := w) T23 (d + 1) l m cells5 (List.range 64) (fun j hj => by have := List.mem_range.1 hj; omega)
  rw [h2, all_range hl hm] at h1
  exact h1
theorem part23 {cs ds : Array Value} {off : Nat} (he : cs.extract off (off + 64) = ds) (w : World) : (Go.part 23 cs off).run Try.prog w = .ok (.agg ds) w := by
  obtain ⟨i, hi, _, hs, _⟩ := info23
  have h3 : (sizeOf 23).run Try.prog w = .ok 64 w := by simp [sizeOf, typeInfo, hi, hs]
  unfold Go.part
  rw [Sem.run_bind, agg23 w, Result.andThen_ok, if_pos rfl, Sem.run_bind, h3, Result.andThen_ok, Sem.run_pure, he]
theorem eqRow (d : Nat) {w : World} {p q r p' q' r' : List Nat} (hl : p.length = 64 ∧ q.length = 64 ∧ r.length = 64) (hm : p'.length = 64 ∧ q'.length = 64 ∧ r'.length = 64) :
    (Op.equalIn (d + 4) 25 (.agg (bys (rowL p q r))) (.agg (bys (rowL p' q' r')))).run Try.prog w = .ok (decide (p = p' ∧ q = q' ∧ r = r')) w := by
  have q1 := part23 (row_p (p := p) (q := q) (o := r) hl.1) w
  have q2 := part23 (row_p (p := p') (q := q') (o := r') hm.1) w
  have q3 := part23 (row_q (p := p) (q := q) (o := r) hl.1 hl.2.1) w
  have q4 := part23 (row_q (p := p') (q := q') (o := r') hm.1 hm.2.1) w
  have q5 := part23 (row_o (p := p) (q := q) (o := r) hl.1 hl.2.1 hl.2.2) w
  have q6 := part23 (row_o (p := p') (q := q') (o := r') hm.1 hm.2.1 hm.2.2) w
  have e1 := eq23 d hl.1 hm.1 w
  have e2 := eq23 d hl.2.1 hm.2.1 w
  have e3 := eq23 d hl.2.2 hm.2.2 w
  have ev : decide (p = p' ∧ q = q' ∧ r = r') = (decide (p = p') && (decide (q = q') && decide (r = r'))) := by rw [Bool.decide_and, Bool.decide_and]
  rw [ev]
  exact eqA_of (d := d + 3) Try.underlying25 Try.stoodInHeld25 (eqf_cons rfl q1 q2 e1 (eqf_cons rfl q3 q4 e2 (eqf_last rfl q5 q6 e3)))
theorem exec_eq25 {o : Oper} {a : Act} {x y : Operand} {w : World} {p q r p' q' r' : List Nat} {b : Bool} {tt : TypeId} (ho : o.op = .binOp .eql 25 x y tt) (hx : a.eval x = .agg (bys (rowL p q r))) (hy : a.eval y = .agg (bys (rowL p' q' r')))
    (hl : p.length = 64 ∧ q.length = 64 ∧ r.length = 64) (hm : p'.length = 64 ∧ q'.length = 64 ∧ r'.length = 64) (hv : decide (p = p' ∧ q = q' ∧ r = r') = b) : (execOp a.eval o).run Try.prog w = .ok (.value (.bool b)) w := by
  have h2 : (Op.equalIn 10000 25 (.agg (bys (rowL p q r))) (.agg (bys (rowL p' q' r')))).run Try.prog w = .ok b w := by
    obtain ⟨d, hd⟩ : ∃ d, 10000 = d + 4 := ⟨9996, rfl⟩
    rw [hd, eqRow d hl hm, hv]
  have h3 := run_eql_struct (P := Try.prog) w 25 (bys (rowL p q r)) (bys (rowL p' q' r'))
  rw [h2] at h3
  have h4 := run_eqGuard_agg (P := Try.prog) w .eql 25 x y (bys (rowL p q r)) (bys (rowL p' q' r')) Try.eqGuardType25
  unfold execOp
  simp only [ho, hx, hy, Sem.run_bind, h4, h3, Result.andThen_ok, Sem.run_pure]
end Go.Proofs.Ytonjgbcibjnpoaa.Sr
