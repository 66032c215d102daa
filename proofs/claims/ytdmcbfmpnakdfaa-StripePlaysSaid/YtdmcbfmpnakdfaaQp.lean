/- Sectors as lists of bytes: sums, products; arithmetic on bytes as the machine does it. -/
import Derived.Test.YtdmcbfmpnakdfaaGf
import Derived.Test.YtdmcbfmpnakdfaaTc
namespace Go.Proofs.Ytdmcbfmpnakdfaa.Eng
open Go Go.Proofs Go.Proofs.Ytdmcbfmpnakdfaa.Gf
abbrev ub (n : Nat) : AV := .sc (.raw (.int .u8 ((n : Nat) : Int)))
abbrev iv (n : Int) : AV := .sc (.raw (.int .i64 n))
abbrev bv (b : Bool) : AV := .sc (.raw (.bool b))
abbrev secV (s : List Nat) : AV := .agg [.byt 64 s]
abbrev nilS : SV := .raw (.slice none 0 0)
theorem inc_nat {k : Nat} (hk : k < 2 ^ 62) : arithI .add .i64 (k : Int) 1 = some ((k + 1 : Nat) : Int) := by
  show some (IntKind.i64.wrap ((k : Int) + 1)) = _
  rw [IntWalk.i64_in _ ⟨by omega, by omega⟩]
  push_cast; rfl
theorem info5 : ∃ i, Try.prog.info? 5 = some i := by
  cases h : Try.prog.info? 5 with
  | none => have : (Try.prog.info? 5).isSome = true := by kernel_rfl
            rw [h] at this; cases this
  | some i => exact ⟨i, rfl⟩
theorem eq34 : EqArr Try.prog 34 64 := ⟨⟨5, by kernel_rfl, by kernel_rfl, by kernel_rfl, info5⟩, by kernel_rfl⟩
/-- A sector. -/
structure Sec (s : List Nat) : Prop where
  len : s.length = 64
  lt : ∀ x ∈ s, x < 256
theorem Sec.get {s : List Nat} (h : Sec s) (i : Nat) : s.getD i 0 < 256 := by
  rw [List.getD_eq_getElem?_getD]
  by_cases hi : i < s.length
  · rw [List.getElem?_eq_getElem hi]; exact h.lt _ (List.getElem_mem hi)
  · rw [List.getElem?_eq_none (by omega)]; decide
theorem Sec.of {s : List Nat} (hl : s.length = 64) (h : ∀ i, i < 64 → s.getD i 0 < 256) : Sec s := by
  refine ⟨hl, fun x hx => ?_⟩
  obtain ⟨i, hi, rfl⟩ := List.getElem_of_mem hx
  have := h i (by omega)
  rwa [List.getD_eq_getElem?_getD, List.getElem?_eq_getElem hi] at this
def zeros : List Nat := List.replicate 64 0
theorem zeros_sec : Sec zeros := ⟨by simp [zeros], fun x hx => by rw [(List.mem_replicate.1 hx).2]; decide⟩
def Secs (L : List (List Nat)) : Prop := ∀ l ∈ L, Sec l
theorem Secs.at {L : List (List Nat)} (h : Secs L) {i : Nat} (hi : i < L.length) : Sec (L.getD i []) := by
  rw [List.getD_eq_getElem?_getD, List.getElem?_eq_getElem hi]
  exact h _ (List.getElem_mem hi)
def xorL (a b : List Nat) : List Nat := List.zipWith (fun x y => x ^^^ y) a b
theorem xorL_length {a b : List Nat} (ha : a.length = 64) (hb : b.length = 64) : (xorL a b).length = 64 := by simp [xorL, ha, hb]
theorem xorL_get {a b : List Nat} {k : Nat} (ha : k < a.length) (hb : k < b.length) : (xorL a b).getD k 0 = a.getD k 0 ^^^ b.getD k 0 := by
  unfold xorL
  rw [List.getD_eq_getElem?_getD, List.getD_eq_getElem?_getD, List.getD_eq_getElem?_getD, List.getElem?_zipWith, List.getElem?_eq_getElem ha, List.getElem?_eq_getElem hb]
  rfl
theorem xorL_sec {a b : List Nat} (ha : Sec a) (hb : Sec b) : Sec (xorL a b) :=
  .of (xorL_length ha.len hb.len) fun i hi => by
    rw [xorL_get (by rw [ha.len]; exact hi) (by rw [hb.len]; exact hi)]
    exact xor_lt (ha.get i) (hb.get i)
def mulL (a : List Nat) (f : Nat) : List Nat := a.map (fun x => gmul x f)
theorem mulL_length {a : List Nat} {f : Nat} (ha : a.length = 64) : (mulL a f).length = 64 := by simp [mulL, ha]
theorem mulL_get {a : List Nat} {f k : Nat} (ha : k < a.length) : (mulL a f).getD k 0 = gmul (a.getD k 0) f := by
  unfold mulL
  rw [List.getD_eq_getElem?_getD, List.getD_eq_getElem?_getD, List.getElem?_map, List.getElem?_eq_getElem ha]
  rfl
theorem mulL_sec {a : List Nat} {f : Nat} (ha : Sec a) : Sec (mulL a f) :=
  .of (mulL_length ha.len) fun i hi => by
    rw [mulL_get (by rw [ha.len]; exact hi)]
    exact gmul_lt (ha.get i)
/-- The sum of the first k sectors; the weighted one. -/
def psum (L : List (List Nat)) : Nat → List Nat
  | 0 => zeros
  | k + 1 => xorL (psum L k) (L.getD k [])
def qsum (L : List (List Nat)) : Nat → List Nat
  | 0 => zeros
  | k + 1 => xorL (qsum L k) (mulL (L.getD k []) (pwZ (k : Int)))
theorem psum_sec {L : List (List Nat)} (h : Secs L) : ∀ k, k ≤ L.length → Sec (psum L k)
  | 0, _ => zeros_sec
  | k + 1, hk => xorL_sec (psum_sec h k (by omega)) (h.at (by omega))
theorem qsum_sec {L : List (List Nat)} (h : Secs L) : ∀ k, k ≤ L.length → Sec (qsum L k)
  | 0, _ => zeros_sec
  | k + 1, hk => xorL_sec (qsum_sec h k (by omega)) (mulL_sec (h.at (by omega)))
/-- A sector whose first k bytes are another one's. -/
def mix (r a : List Nat) (k : Nat) : List Nat := r.take k ++ a.drop k
theorem mix_zero (r a : List Nat) : mix r a 0 = a := by simp [mix]
theorem mix_full {r a : List Nat} (hr : r.length = 64) (ha : a.length = 64) : mix r a 64 = r := by
  unfold mix
  rw [List.take_of_length_le (by omega), List.drop_of_length_le (by omega), List.append_nil]
theorem mix_length {r a : List Nat} {k : Nat} (hr : r.length = 64) (ha : a.length = 64) (hk : k ≤ 64) : (mix r a k).length = 64 := by
  unfold mix; simp; omega
theorem mix_get {r a : List Nat} {k : Nat} (hr : r.length = 64) (hk : k < 64) : (mix r a k).getD k 0 = a.getD k 0 := by
  unfold mix
  rw [List.getD_eq_getElem?_getD, List.getElem?_append_right (by simp; omega), List.getElem?_drop, List.getD_eq_getElem?_getD]
  congr 2
  simp; omega
theorem mix_set {r a : List Nat} {k : Nat} (hr : r.length = 64) (ha : a.length = 64) (hk : k < 64) : (mix r a k).set k (r.getD k 0) = mix r a (k + 1) := by
  unfold mix
  rw [List.set_append, if_neg (by simp; omega), List.take_succ_eq_append_getElem (by omega), List.append_assoc]
  congr 1
  have : k - (r.take k).length = 0 := by simp; omega
  rw [this, List.drop_eq_getElem_cons (by omega), List.set_cons_zero, List.getD_eq_getElem?_getD, List.getElem?_eq_getElem (by omega)]
  rfl
-- bytes
theorem and1 {b : Nat} (hb : b < 256) : arithI .and .u8 (b : Nat) 1 = some ((b % 2 : Nat) : Int) := by
  have : ∀ b : Fin 256, arithI .and .u8 ((b.1 : Nat) : Int) 1 = some ((b.1 % 2 : Nat) : Int) := by decide +kernel
  exact this ⟨b, hb⟩
theorem xor8 {a b : Nat} (ha : a < 256) (hb : b < 256) : arithI .xor .u8 (a : Nat) (b : Nat) = some ((a ^^^ b : Nat) : Int) := by
  have hx := xor_lt ha hb
  show some (IntKind.u8.wrap ((BitVec.ofInt 8 (a : Int) ^^^ BitVec.ofInt 8 (b : Int)).toNat : Int)) = _
  rw [BitVec.toNat_xor, BitVec.toNat_ofInt, BitVec.toNat_ofInt]
  have e1 : ((a : Int) % ((2 ^ 8 : Nat) : Int)).toNat = a := by omega
  have e2 : ((b : Int) % ((2 ^ 8 : Nat) : Int)).toNat = b := by omega
  rw [e1, e2]
  congr 1
  rw [IntKind.wrap_u8]
  omega
theorem shr7 {a : Nat} (ha : a < 256) : shiftI .shr .u8 (a : Nat) 7 = some ((a / 128 : Nat) : Int) := by
  have : ∀ b : Fin 256, shiftI .shr .u8 ((b.1 : Nat) : Int) 7 = some ((b.1 / 128 : Nat) : Int) := by decide +kernel
  exact this ⟨a, ha⟩
theorem shr1 {a : Nat} (ha : a < 256) : shiftI .shr .u8 (a : Nat) 1 = some ((a / 2 : Nat) : Int) := by
  have : ∀ b : Fin 256, shiftI .shr .u8 ((b.1 : Nat) : Int) 1 = some ((b.1 / 2 : Nat) : Int) := by decide +kernel
  exact this ⟨a, ha⟩
theorem shl1 {a : Nat} (ha : a < 256) : shiftI .shl .u8 (a : Nat) 1 = some ((a * 2 % 256 : Nat) : Int) := by
  have : ∀ b : Fin 256, shiftI .shl .u8 ((b.1 : Nat) : Int) 1 = some ((b.1 * 2 % 256 : Nat) : Int) := by decide +kernel
  exact this ⟨a, ha⟩
theorem mul29 {a : Nat} (ha : a < 256) : arithI .mul .u8 (a : Nat) 29 = some ((a * 29 % 256 : Nat) : Int) := by
  have : ∀ b : Fin 256, arithI .mul .u8 ((b.1 : Nat) : Int) 29 = some ((b.1 * 29 % 256 : Nat) : Int) := by decide +kernel
  exact this ⟨a, ha⟩
theorem and1i {b : Nat} (hb : b < 256) : arithI .and .i64 (b : Nat) 1 = some ((b % 2 : Nat) : Int) := by
  have : ∀ b : Fin 256, arithI .and .i64 ((b.1 : Nat) : Int) 1 = some ((b.1 % 2 : Nat) : Int) := by decide +kernel
  exact this ⟨b, hb⟩
theorem shr1i {a : Nat} (ha : a < 256) : shiftI .shr .i64 (a : Nat) 1 = some ((a / 2 : Nat) : Int) := by
  have : ∀ b : Fin 256, shiftI .shr .i64 ((b.1 : Nat) : Int) 1 = some ((b.1 / 2 : Nat) : Int) := by decide +kernel
  exact this ⟨a, ha⟩
/-- The product's loop, from its start. -/
def mit (a b : Nat) : Nat → Nat × Nat × Nat
  | 0 => (a, b, 0)
  | k + 1 => (xt (mit a b k).1, (mit a b k).2.1 / 2, if (mit a b k).2.1 % 2 = 0 then (mit a b k).2.2 else (mit a b k).2.2 ^^^ (mit a b k).1)
theorem mit_lt {a b : Nat} (ha : a < 256) (hb : b < 256) : ∀ k, (mit a b k).1 < 256 ∧ (mit a b k).2.1 < 256 ∧ (mit a b k).2.2 < 256
  | 0 => ⟨ha, hb, show 0 < 256 by decide⟩
  | k + 1 => by
    obtain ⟨h1, h2, h3⟩ := mit_lt ha hb k
    refine ⟨xt_lt h1, ?_, ?_⟩
    · show _ / 2 < 256; omega
    · show (if _ then _ else _) < 256
      split
      · exact h3
      · exact xor_lt h3 h1
theorem mit_step (a b : Nat) : ∀ n k, mstep n (mit a b k).1 (mit a b k).2.1 (mit a b k).2.2 = (mit a b (k + n)).2.2
  | 0, k => rfl
  | n + 1, k => by
    have := mit_step a b n (k + 1)
    rw [show k + (n + 1) = k + 1 + n by omega, ← this]
    rfl
theorem mit_eight (a b : Nat) : (mit a b 8).2.2 = gmul a b := (mit_step a b 8 0).symm
end Go.Proofs.Ytdmcbfmpnakdfaa.Eng
