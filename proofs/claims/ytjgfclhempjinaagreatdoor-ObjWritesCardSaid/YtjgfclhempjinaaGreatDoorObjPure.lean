/- Objects as bytes, in plain Lean: numbers, texts; no program is named here. -/
import Derived.Test.YtjgfclhempjinaaGreatDoorCore
namespace Go.Mq
open Go Go.RowKit

/-- Bytes as cells. -/
def bcells (l : List UInt8) : List Value := l.map fun b => Value.int .u8 b.toNat
theorem bcells_length (l : List UInt8) : (bcells l).length = l.length := by simp [bcells]
theorem bcells_append (a b : List UInt8) : bcells (a ++ b) = bcells a ++ bcells b := by simp [bcells]
theorem bcells_one (l : List UInt8) : ∀ u ∈ bcells l, u.oneCell' = true := by
  intro u hu; simp [bcells] at hu; obtain ⟨b, _, rfl⟩ := hu; rfl
theorem strCells_eq (s : ByteArray) : Lib.strCells s = bcells s.data.toList := rfl

namespace Obj
/-- A number as a count: its sign last. -/
def zig (n : Int) : Nat := if 0 ≤ n then (2 * n).toNat else (-2 * n - 1).toNat
/-- Seven bits a byte, the least ones first. -/
def vint : Nat → Nat → List UInt8
  | 0, u => [UInt8.ofNat u]
  | f + 1, u => if u < 128 then [UInt8.ofNat u] else UInt8.ofNat (u % 128 + 128) :: vint f (u / 128)
def encN (n : Int) : List UInt8 := vint 9 (zig n)

def encT (s : ByteArray) : List UInt8 := encN s.size ++ s.data.toList
def encTs (l : List ByteArray) : List UInt8 := encN l.length ++ l.flatMap encT
theorem flatMap_take {α β : Type} (f : α → List β) (l : List α) (k : Nat) (h : k < l.length) : (l.take (k + 1)).flatMap f = (l.take k).flatMap f ++ f l[k] := by
  rw [List.take_succ_eq_append_getElem h]; simp only [List.flatMap_append, List.flatMap_cons, List.flatMap_nil, List.append_nil]
theorem flatMap_take_le {α β : Type} (f : α → List β) (l : List α) (k : Nat) : ((l.take k).flatMap f).length ≤ (l.flatMap f).length := by
  have h : l.flatMap f = (l.take k).flatMap f ++ (l.drop k).flatMap f := by rw [← List.flatMap_append, List.take_append_drop]
  rw [h]; simp
theorem zig_lt {n : Int} (h0 : -9223372036854775808 ≤ n) (h1 : n < 9223372036854775808) : zig n < 128 ^ 10 := by
  unfold zig; split <;> omega
theorem vint_small {f u : Nat} (h : u < 128) : vint f u = [UInt8.ofNat u] := by cases f <;> simp [vint, h]
theorem vint_length (f u : Nat) : (vint f u).length ≤ f + 1 := by
  induction f generalizing u with
  | zero => simp [vint]
  | succ f ih => simp only [vint]; split; simp; have := ih (u / 128); simp; omega
theorem encN_length (n : Int) : (encN n).length ≤ 10 := vint_length 9 _

theorem xor_pos {n : Int} (h0 : 0 ≤ n) (h1 : n < 9223372036854775808) : bits BinOp.xor IntKind.u64 (n * 2) (n / 9223372036854775808) = (zig n : Int) := by
  obtain ⟨m, rfl⟩ := Int.eq_ofNat_of_zero_le h0
  have e : ((m : Int) / 9223372036854775808) = ((0 : Nat) : Int) := by omega
  have e2 : (m : Int) * 2 = ((m * 2 : Nat) : Int) := by omega
  rw [e, e2, u64_xor_nat _ _ (by omega) (by omega)]
  unfold zig
  rw [if_pos h0]
  simp
  omega

theorem wrap_neg {x : Int} (h0 : -18446744073709551616 ≤ x) (h1 : x < 0) : IntKind.u64.wrap x = x + 18446744073709551616 := by
  simp only [IntKind.wrap, IntKind.bits, IntKind.signed]
  simp
  omega

theorem xor_ones (b : Nat) (hb : b < 18446744073709551616) : b ^^^ 18446744073709551615 = 18446744073709551615 - b := by
  have h := BitVec.xor_allOnes (x := BitVec.ofNat 64 b)
  have h2 := congrArg BitVec.toNat h
  rw [BitVec.toNat_xor, BitVec.toNat_not, BitVec.toNat_ofNat, BitVec.toNat_allOnes] at h2
  simp only [Nat.reducePow, Nat.reduceSub] at h2
  rw [Nat.mod_eq_of_lt hb] at h2
  omega

theorem xor_neg {n : Int} (h0 : n < 0) (h1 : -9223372036854775808 ≤ n) :
    bits BinOp.xor IntKind.u64 (IntKind.u64.wrap (IntKind.u64.wrap n * 2)) (IntKind.u64.wrap (n / 9223372036854775808)) = (zig n : Int) := by
  have e1 : n / 9223372036854775808 = -1 := by omega
  rw [e1, wrap_neg (x := n) (by omega) h0, wrap_neg (x := -1) (by omega) (by omega)]
  have e3 : IntKind.u64.wrap ((n + 18446744073709551616) * 2) = ((18446744073709551616 + 2 * n).toNat : Nat) := by
    simp only [IntKind.wrap, IntKind.bits, IntKind.signed]
    simp
    omega
  have e4 : (-1 + 18446744073709551616 : Int) = ((18446744073709551615 : Nat) : Int) := by omega
  rw [e3, e4, u64_xor_nat _ _ (by omega) (by omega), xor_ones _ (by omega)]
  unfold zig
  rw [if_neg (by omega)]
  omega

theorem encN_pos (n : Int) : 1 ≤ (encN n).length := by unfold encN vint; split <;> simp
theorem encT_length (s : ByteArray) : (encT s).length = (encN s.size).length + s.size := by simp only [encT, List.length_append, Lib.size_eq]
theorem encTs_count (l : List ByteArray) : l.length ≤ (l.flatMap encT).length := by
  induction l with
  | nil => simp
  | cons x l ih =>
    have h1 := encN_pos x.size
    have h2 := encT_length x
    simp only [List.flatMap_cons, List.length_append, List.length_cons]; omega
theorem last_byte (u : Nat) (_h : u < 128) : IntKind.u8.wrap (u : Int) = ((UInt8.ofNat u).toNat : Int) := by
  simp only [IntKind.wrap, IntKind.bits, IntKind.signed]
  simp

theorem or_128 (x : Nat) (h : x < 256) : x ||| 128 = x % 128 + 128 := by
  have : ∀ x : Fin 256, x.val ||| 128 = x.val % 128 + 128 := by decide +kernel
  exact this ⟨x, h⟩

theorem more_byte (u : Nat) : bits BinOp.or IntKind.u8 (IntKind.u8.wrap (u : Int)) 128 = ((UInt8.ofNat (u % 128 + 128)).toNat : Int) := by
  have e : IntKind.u8.wrap (u : Int) = ((u % 256 : Nat) : Int) := by
    simp only [IntKind.wrap, IntKind.bits, IntKind.signed]
    simp
  have e2 : (128 : Int) = ((128 : Nat) : Int) := rfl
  rw [e, e2, u8_or_nat _ _ (by omega) (by omega), or_128 _ (by omega)]
  simp
  omega
end Obj
end Go.Mq
