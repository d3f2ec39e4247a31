/- The document's number, text, texts: the bytes that they make. -/
import Derived.Test.YtjgfclhempjinaaGreatDoorObjW10
namespace Go.Proofs.YtjgfclhempjinaaGreatDoor
open Go Go.RowKit Go.Mq Go.Mq.Obj

theorem bs_append (a b : List UInt8) : bs a ++ bs b = bs (a ++ b) := by
  apply ByteArray.ext
  rw [ByteArray.data_append]
  simp [bs]
theorem zig_64 {n : Int} (h0 : -9223372036854775808 ≤ n) (h1 : n < 9223372036854775808) : zig n < 18446744073709551616 := by
  unfold zig; split <;> omega
theorem xor_max {n : Int} (h0 : n < 0) (h1 : -9223372036854775808 ≤ n) : bits BinOp.xor IntKind.u64 IntKind.u64.max (IntKind.u64.wrap (IntKind.u64.wrap n * 2)) = (zig n : Int) := by
  rw [wrap_neg (x := n) (by omega) h0]
  have e3 : IntKind.u64.wrap ((n + 18446744073709551616) * 2) = ((18446744073709551616 + 2 * n).toNat : Nat) := by
    simp only [IntKind.wrap, IntKind.bits, IntKind.signed]
    simp
    omega
  have e4 : IntKind.u64.max = ((18446744073709551615 : Nat) : Int) := rfl
  rw [e3, e4, u64_xor_nat _ _ (by omega) (by omega), Nat.xor_comm, xor_ones _ (by omega)]
  unfold zig
  rw [if_neg (by omega)]
  omega
theorem mul_pos {n : Int} (h0 : 0 ≤ n) : n * 2 = (zig n : Int) := by
  unfold zig
  rw [if_pos h0]
  omega
/-- One byte as a string. -/
theorem conv_one (w : World) (x : Int) (h0 : 0 ≤ x) (h1 : x < 256) : (convert 62 9 (.slice (some ⟨w.heap.size, 0, none⟩) 1 1)).run Tryz.prog (w.alloc (.cells #[.int .u8 x] 5)) = .ok (str [UInt8.ofNat x.toNat]) (w.alloc (.cells #[.int .u8 x] 5)) := by
  refine conv_own (l := [UInt8.ofNat x.toNat]) ⟨by simp [bcells], .inr ⟨w.heap.size, 1, #[.int .u8 x], rfl, Nat.zero_le _, heap_alloc_new w _, Nat.le_refl _, by decide, by simp, ?_⟩⟩
  simp [bcells]
  omega

/-- What the document's Write leaves. -/
def RWrote (o : ObjD) (w : World) (e : Ending) (w' : World) : Prop := e = .returned (.tuple #[str (if right o = true then encO o else []), .int .i64 (if right o = true then 0 else 1)]) ∧ Chg [] w w'
theorem encT_len (l : List UInt8) : (encT (bs l)).length = (encN (l.length : Int)).length + l.length := by
  unfold encT
  rw [List.length_append]
  rfl

set_option maxHeartbeats 1000000 in
set_option maxRecDepth 100000 in
theorem wnum_any (n : Int) (w : World) (h0 : -9223372036854775808 ≤ n) (h1 : n < 9223372036854775808) :
    Calls Tryz.prog 16 #[.int .i64 n] w (Ans w (str (encN n))) := by
  have hz := zig_lt h0 h1
  have hz64 := zig_64 h0 h1
  go_enter Tryz.func16, Tryz.ntmps16
  by_cases hn : 0 ≤ n
  all_goals
    go_wp2_with fail
    first | rw [mul_pos hn] | rw [xor_max (by omega) h0]
    have HZ := Lib.hid hz
    clear hz h0 h1
    go_loopw [3, 4] (fun u s wr => ∃ (m f : Nat) (ys : List UInt8), u = .int .u64 m ∧ s = str ys ∧ m < 18446744073709551616 ∧ m < 128 ^ (f + 1) ∧ ys.length + f ≤ 9 ∧ ys ++ vint f m = encN n ∧ Chg [] w wr) (fun u _ _ => (intOf u).toNat)
    case atStart => exact ⟨zig n, 9, [], rfl, rfl, hz64, HZ.out, Nat.le_refl _, rfl, Chg.refl _ _⟩
    case round =>
      obtain ⟨m, f, ys, rfl, rfl, hm64, hm, hf, he, hc⟩ := hrel
      have HE := Lib.hid he; clear he
      have HC := Lib.hid hc; clear hc
      have HB := Lib.hid hm; clear hm
      have hys : (bs ys).size ≤ 9 := by rw [bs_size]; omega
      by_cases hlt : m < 128
      · have HCV := Lib.hid (conv_one wr (m : Int) (by omega) (by omega))
        have ht : decide ((127 : Int) < (m : Int)) = false := by simp; omega
        go_wp2_with fail
        rw [HCV.out]
        go_wp2_with fail
        go_ret
        refine ⟨?_, HC.out.alloc _⟩
        rw [← HE.out, vint_small hlt, bs_append]
        simp
      · have HCV := Lib.hid (conv_one wr ((m : Int) % 128 + 128) (by omega) (by omega))
        have ht : decide ((127 : Int) < (m : Int)) = true := by simp; omega
        go_wp2_with fail
        rw [HCV.out]
        go_wp2_with fail
        go_roundw
        case rel =>
          obtain ⟨g, rfl⟩ : ∃ g, f = g + 1 := by
            cases f with
            | zero => have := HB.out; simp at this; omega
            | succ g => exact ⟨g, rfl⟩
          refine ⟨m / 128, g, ys ++ [UInt8.ofNat (m % 128 + 128)], by simp, by rw [bs_append], by omega, ?_, by simp; omega, ?_, HC.out.alloc _⟩
          · have := HB.out
            have e : 128 ^ (g + 1 + 1) = 128 ^ (g + 1) * 128 := Nat.pow_succ ..
            omega
          · rw [← HE.out]
            have e : vint (g + 1) m = UInt8.ofNat (m % 128 + 128) :: vint g (m / 128) := by rw [vint, if_neg hlt]
            rw [e]
            simp
        case measure => simp [intOf]; omega

theorem wtext_any (l : List UInt8) (w : World) (h : l.length ≤ 1099511627776) : Calls Tryz.prog 17 #[str l] w (Ans w (str (encT (bs l)))) := by
  have hsz : (bs l).size = l.length := rfl
  have hen := encN_length (l.length : Int)
  have hen2 : (bs (encN (l.length : Int))).size ≤ 10 := hen
  have HN := Lib.hid (wnum_any (l.length : Int) w (by omega) (by omega))
  have HE := Lib.hid (bs_append (encN (l.length : Int)) l)
  go_enter Tryz.func17, Tryz.ntmps17
  go_wp2_with fail
  refine HN.out.mono ?_; rintro _ w1 ⟨rfl, hc⟩
  have HC := Lib.hid hc; clear hc
  go_wp2_with fail
  go_ret
  refine ⟨?_, HC.out⟩
  rw [HE.out]
  rfl

/-- The bytes of texts, one behind another. -/
theorem wtexts_any (na : Option Addr) (n c : Nat) (l : List (List UInt8)) (w : World) (hn : n = l.length) (hat : At w na (l.map str)) (hl : n ≤ 4096) (hb : ∀ x ∈ l, x.length ≤ 1048576) :
    Calls Tryz.prog 18 #[.slice na n c] w (Ans w (str (encTs (l.map bs)))) := by
  subst hn
  have HB := Lib.hid hb; have HAT := Lib.hid hat; clear hb hat
  obtain ⟨n, hn⟩ : ∃ n, n = l.length := ⟨_, rfl⟩
  rw [← hn]; rw [← hn] at hl
  have HNN := Lib.hid hn; clear hn
  have hen := encN_length (n : Int)
  have HN := Lib.hid (wnum_any (n : Int) w (by omega) (by omega))
  have HLE := Lib.hid hen; clear hen
  go_enter Tryz.func18, Tryz.ntmps18
  go_wp2_with fail
  refine HN.out.mono ?_; rintro _ w1 ⟨rfl, hc⟩
  have HC := Lib.hid hc; clear hc
  go_wp2_with fail
  go_loopw [3, 5, 11] (fun s _ i wr => ∃ (k : Nat) (ys : List UInt8), k ≤ n ∧ i = .int .i64 k ∧ s = str ys ∧ ys = encN (n : Int) ++ (l.take k).flatMap (fun x => encT (bs x)) ∧ ys.length ≤ 10 + k * 1048586 ∧ Chg [] w wr) (fun _ _ i _ => n - (intOf i).toNat)
  case atStart => exact ⟨0, _, Nat.zero_le _, rfl, rfl, by simp, by have := HLE.out; omega, HC.out⟩
  case round =>
    obtain ⟨k, ys, hk, rfl, rfl, hys, hlen, hc⟩ := hrel
    have HY := Lib.hid hys; clear hys
    by_cases hlt : k < n
    · obtain ⟨x, hx⟩ : ∃ x, l[k]? = some x := ⟨l[k]'(by rw [← HNN.out]; exact hlt), by simp [← HNN.out, hlt]⟩
      obtain ⟨bb, boff, hna, hcell⟩ := HAT.out (by rw [List.length_map, ← HNN.out]; omega)
      subst hna
      have hcl := hc.cellSome (hcell k (str x) (by rw [List.getElem?_map, hx]; rfl)) (by simp)
      have hxl := HB.out x (List.mem_of_getElem? hx)
      have HX := Lib.hid hx; have HC' := Lib.hid hc; clear hx hcell hc
      have HT := Lib.hid (wtext_any x wr (by omega))
      have hsz : (bs ys).size = ys.length := rfl
      have hez : (encT (bs x)).length ≤ 10 + 1048576 := by
        have := encN_length (x.length : Int)
        rw [encT_len]; omega
      have hez2 : (bs (encT (bs x))).size ≤ 10 + 1048576 := hez
      have HE := Lib.hid (bs_append ys (encT (bs x)))
      go_wp2_with fail
      refine HT.out.mono ?_; rintro _ w2 ⟨rfl, hw⟩
      have HW := Lib.hid hw; clear hw
      go_wp2_with fail
      go_roundw
      case rel =>
        refine ⟨k + 1, ys ++ encT (bs x), by omega, by go_num, by rw [HE.out], ?_, by rw [List.length_append]; omega, HC'.out.then HW.out⟩
        rw [List.take_add_one, HX.out, HY.out]
        simp
      case measure => simp [intOf]; omega
    · have hkn : k = n := by omega
      have HK := Lib.hid hkn
      have HC' := Lib.hid hc; clear hc
      go_wp2_with fail
      go_ret
      refine ⟨?_, HC'.out⟩
      rw [HY.out, HK.out, HNN.out, List.take_length]
      unfold encTs
      rw [List.length_map, List.flatMap_map]
      rfl
end Go.Proofs.YtjgfclhempjinaaGreatDoor
