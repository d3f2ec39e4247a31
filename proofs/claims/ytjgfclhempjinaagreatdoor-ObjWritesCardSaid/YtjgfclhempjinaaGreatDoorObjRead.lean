/- Reading objects' bytes, in plain Lean. A state: what is left, or none: bad. -/
import Derived.Test.YtjgfclhempjinaaGreatDoorObjPure
import Derived.Laws.DeepNot64
namespace Go.Mq.Obj
open Go Go.RowKit Go.Mq
abbrev St := Option (List UInt8)
/-- What stands in the reader. -/
def St.str : St → List UInt8
  | some l => l
  | none => []
def St.bad : St → Bool
  | some _ => false
  | none => true
def rdv (i u : Nat) : List UInt8 → Option (Nat × List UInt8)
  | [] => none
  | c :: t => if 10 ≤ i then none else if (i = 9 ∧ 1 < c.toNat) ∨ (0 < i ∧ c.toNat = 0) then none else
    if c.toNat < 128 then some (u + c.toNat % 128 * 128 ^ i, t) else rdv (i + 1) (u + c.toNat % 128 * 128 ^ i) t
def unzig (u : Nat) : Int := if u % 2 = 0 then (u / 2 : Nat) else -((u / 2 : Nat) : Int) - 1
def pNum (st : St) : Int × St := match rdv 0 0 st.str with
  | some (u, t) => (unzig u, some t)
  | none => (0, none)
def pMany (st : St) : Nat × St := match pNum st with
  | (n, st') => if n < 0 ∨ (st'.str.length : Int) < n then (0, none) else (n.toNat, st')
def pText (st : St) : List UInt8 × St := match pMany st with
  | (n, st') => (st'.str.take n, st'.map (List.drop n))
def rep {α : Type} (p : St → α × St) : Nat → St → List α × St
  | 0, st => ([], st)
  | n + 1, st => match rep p n st with
    | (l, st1) => match p st1 with
      | (x, st2) => (l ++ [x], st2)
def pTexts (st : St) : List (List UInt8) × St := match pMany st with | (n, st') => rep pText n st'
def pFlag (st : St) : Bool × St := match st.str with
  | [] => (false, none)
  | c :: t => if 1 < c.toNat then (false, none) else (c.toNat == 1, some t)

theorem pNum_none {st : St} (h : rdv 0 0 st.str = none) : pNum st = (0, none) := by simp [pNum, h]
theorem pNum_some {st : St} {u : Nat} {t : List UInt8} (h : rdv 0 0 st.str = some (u, t)) : pNum st = (unzig u, some t) := by simp [pNum, h]
theorem not_bad {st : St} {l : List UInt8} {k : Nat} {c : UInt8} (hl : l = st.str) (h : l[k]? = some c) : st.bad = false := by
  cases st with
  | some _ => rfl
  | none => subst hl; simp [St.str] at h
theorem drop_at {l : List UInt8} {k : Nat} {c : UInt8} (h : l[k]? = some c) : l.drop k = c :: l.drop (k + 1) := by
  obtain ⟨hk, hv⟩ := List.getElem?_eq_some_iff.1 h
  rw [List.drop_eq_getElem_cons hk, hv]
theorem rdv_bad {l : List UInt8} {k m : Nat} {c : UInt8} (h : l[k]? = some c) (hk : k < 10) (hb : (k = 9 ∧ 1 < c.toNat) ∨ (0 < k ∧ c.toNat = 0)) : rdv k m (l.drop k) = none := by
  rw [drop_at h, rdv, if_neg (by omega), if_pos hb]
theorem rdv_last {l : List UInt8} {k m : Nat} {c : UInt8} (h : l[k]? = some c) (hk : k < 10) (hb : ¬ ((k = 9 ∧ 1 < c.toNat) ∨ (0 < k ∧ c.toNat = 0))) (hs : c.toNat < 128) :
    rdv k m (l.drop k) = some (m + c.toNat % 128 * 128 ^ k, l.drop (k + 1)) := by
  rw [drop_at h, rdv, if_neg (by omega), if_neg hb, if_pos hs]
theorem rdv_more {l : List UInt8} {k m : Nat} {c : UInt8} (h : l[k]? = some c) (hk : k < 10) (hb : ¬ ((k = 9 ∧ 1 < c.toNat) ∨ (0 < k ∧ c.toNat = 0))) (hs : ¬ c.toNat < 128) :
    rdv k m (l.drop k) = rdv (k + 1) (m + c.toNat % 128 * 128 ^ k) (l.drop (k + 1)) := by
  rw [drop_at h, rdv, if_neg (by omega), if_neg hb, if_neg hs]
theorem rdv_end {l : List UInt8} {k m : Nat} (h : ¬ (k < 10 ∧ k < l.length)) : rdv k m (l.drop k) = none := by
  by_cases hl : k < l.length
  · rw [List.drop_eq_getElem_cons hl, rdv, if_pos (by omega)]
  · rw [List.drop_of_length_le (by omega), rdv]

theorem and_127 {n : Nat} (h : n < 256) : ∃ x : Nat, bits .and .u8 (n : Int) 127 = (x : Int) ∧ x < 128 ∧ x = n % 128 := by
  refine ⟨n % 128, ?_, by omega, rfl⟩
  have e : (127 : Int) = ((127 : Nat) : Int) := rfl
  rw [e, u8_and_nat _ _ h (by omega)]
  congr 1
  have := Nat.and_two_pow_sub_one_eq_mod n 7
  simpa using this
theorem pow_7 (k : Nat) : (2 : Nat) ^ (7 * k) = 128 ^ k := by rw [Nat.pow_mul]
theorem shl_7 (x k : Nat) : ∃ y : Nat, IntKind.u64.wrap ((x : Int) * 2 ^ (7 * k)) = (y : Int) ∧ y = x * 128 ^ k % 18446744073709551616 := by
  refine ⟨_, ?_, rfl⟩
  have e : ((x : Int) * 2 ^ (7 * k)) = ((x * 128 ^ k : Nat) : Int) := by
    rw [← pow_7]; push_cast; rfl
  rw [e]
  simp only [IntKind.wrap, IntKind.bits, IntKind.signed]
  simp
theorem or_u64 {m y : Nat} (hm : m < 18446744073709551616) (hy : y < 18446744073709551616) : ∃ m' : Nat, bits .or .u64 (m : Int) (y : Int) = (m' : Int) ∧ m' = m ||| y := ⟨_, u64_or_nat _ _ hm hy, rfl⟩
theorem and_1 {m : Nat} (hm : m < 18446744073709551616) : ∃ r : Nat, bits .and .u64 (m : Int) 1 = (r : Int) ∧ r < 2 ∧ r = m % 2 := by
  refine ⟨m % 2, ?_, by omega, rfl⟩
  have e : (1 : Int) = ((1 : Nat) : Int) := rfl
  rw [e, u64_and_nat _ _ hm (by omega), Nat.and_one_is_mod]
theorem or_add {m x k : Nat} (hm : m < 128 ^ k) : m ||| x * 128 ^ k = m + x * 128 ^ k := by
  rw [← pow_7] at *
  have h := Nat.two_pow_add_eq_or_of_lt hm x
  rw [Nat.mul_comm, Nat.or_comm, ← h, Nat.add_comm]
theorem pow_mono {k : Nat} (h : k ≤ 9) : 128 ^ k ≤ 9223372036854775808 := Nat.le_trans (Nat.pow_le_pow_right (by omega) h) (by decide)
theorem pow_mono8 {k : Nat} (h : k ≤ 8) : 128 ^ k ≤ 72057594037927936 := Nat.le_trans (Nat.pow_le_pow_right (by omega) h) (by decide)
/-- What one more byte makes, where it may stand there. -/
theorem grow_u {k m n : Nat} (hk : k < 10) (hm : m < 128 ^ k) (hn : n < 256) (hb : ¬ ((k = 9 ∧ 1 < n) ∨ (0 < k ∧ n = 0))) :
    m ||| (n % 128 * 128 ^ k % 18446744073709551616) = m + n % 128 * 128 ^ k ∧ m + n % 128 * 128 ^ k < 18446744073709551616 ∧ m + n % 128 * 128 ^ k < 128 ^ (k + 1) := by
  have e1 : 128 ^ (k + 1) = 128 * 128 ^ k := by rw [Nat.pow_succ, Nat.mul_comm]
  have h3 : n % 128 * 128 ^ k ≤ 127 * 128 ^ k := Nat.mul_le_mul_right _ (by omega)
  have h1 : n % 128 * 128 ^ k ≤ 9223372036854775808 ∧ m + n % 128 * 128 ^ k < 18446744073709551616 := by
    by_cases h9 : k = 9
    · subst h9
      have : n ≤ 1 := by omega
      have : n % 128 ≤ 1 := by omega
      have h4 : n % 128 * 128 ^ 9 ≤ 1 * 128 ^ 9 := Nat.mul_le_mul_right _ this
      have e9 : 128 ^ 9 = 9223372036854775808 := by decide
      omega
    · have := pow_mono8 (k := k) (by omega)
      omega
  refine ⟨?_, h1.2, by omega⟩
  rw [Nat.mod_eq_of_lt (by omega)]
  exact or_add hm

theorem xor_zero64 {a : Nat} (h : a < 9223372036854775808) : bits .xor .i64 (a : Int) ((0 : Nat) : Int) = (a : Int) := by
  have e1 : BitVec.ofInt 64 (a : Int) = BitVec.ofNat 64 a := by simp
  have e2 : BitVec.ofInt 64 ((0 : Nat) : Int) = 0#64 := by simp
  have e3 : (BitVec.ofNat 64 a ^^^ 0#64).toNat = a := by rw [BitVec.xor_zero, BitVec.toNat_ofNat]; omega
  show IntKind.i64.wrap ((BitVec.ofInt 64 (a : Int) ^^^ BitVec.ofInt 64 ((0 : Nat) : Int)).toNat : Int) = a
  rw [e1, e2, e3]
  simp only [IntKind.wrap, IntKind.bits, IntKind.signed]
  simp
  omega
theorem unzig_val {m r : Nat} (hm : m < 18446744073709551616) (hr : r = m % 2) : bits .xor .i64 (wrap64 ((m : Int) / 2)) (-(r : Int)) = unzig m := by
  have e : wrap64 ((m : Int) / 2) = ((m / 2 : Nat) : Int) := by rw [IntWalk.wrap64_in _ (by omega)]; omega
  rw [e]
  unfold unzig
  by_cases h : m % 2 = 0
  · rw [if_pos h]
    have hr0 : r = 0 := by omega
    subst hr0
    have e0 : -((0 : Nat) : Int) = ((0 : Nat) : Int) := by omega
    rw [e0]
    exact xor_zero64 (by omega)
  · rw [if_neg h]
    have hr1 : r = 1 := by omega
    rw [hr1]
    have := i64_not (m / 2) (by omega)
    have e2 : bits .xor .i64 ((m / 2 : Nat) : Int) (-((1 : Nat) : Int)) = bits .xor .i64 (-1) ((m / 2 : Nat) : Int) := by
      simp only [bits, BitVec.xor_comm]; rfl
    rw [e2, this]
    omega
end Go.Mq.Obj
