/- A builder that is written, what is kept beside it; Itoa; where tree.Print is not reached. -/
import Derived.Test.YtoeblajmelbbmaaDoorTreeMem
import Derived.Test.YtoeblajmelbbmaaDoorShelf
import Derived.Lib.AppendStr
namespace Go.Mq.Tree
open Go Go.RowKit Go.Mq
/-- A builder in block b holds these bytes; its buffer lies from B0 on. -/
abbrev Bd (B0 b : Nat) (l : List UInt8) (w : World) : Prop := Lib.IsBuilderF 67 5 B0 b (Lib.byteCells l) w
/-- What is written, and what is kept. -/
structure Wr (B0 b : Nat) (l : List UInt8) (w w' : World) : Prop where
  bd : Bd B0 b l w'
  below : Below B0 w w'
  others : Lib.OthersKept 5 (some b) w w'
theorem Chg.others {w w' : World} {e : TypeId} {b : Option Nat} (h : Chg [] w w') : Lib.OthersKept e b w w' := fun k o hk _ _ => by
  rw [h.block k (Array.getElem?_eq_some_iff.1 hk).1 (by simp)]
  exact hk
theorem Bd.kept {B0 b : Nat} {l : List UInt8} {w w' : World} (h : Bd B0 b l w) (hc : Chg [] w w') : Bd B0 b l w' := by
  have hg : w.grownBy w' none := ⟨hc.os, hc.tape, hc.output, hc.size, fun k hk _ => hc.block k hk (by simp)⟩
  have key : ∀ p, Lib.BuilderAtF 67 5 B0 b p (Lib.byteCells l) w → Lib.BuilderAtF 67 5 B0 b p (Lib.byteCells l) w' := by
    rintro p ⟨hB, v, hb, hown, hne⟩
    refine ⟨hB, v, ?_, hown.kept hg ?_, hne⟩
    · rw [hc.block b (Array.getElem?_eq_some_iff.1 hb).1 (by simp)]; exact hb
    · cases h : v.ownBlock with
      | none => exact .inl rfl
      | some k => exact .inr (by simp)
  rcases h with h | h
  · exact .inl (key _ h)
  · exact .inr (key _ h)
theorem Bd.lt {B0 b : Nat} {l : List UInt8} {w : World} (h : Bd B0 b l w) : b < w.heap.size := by
  rcases h with h | h <;> exact Lib.BuilderAtF.lt h
theorem Bd.le {B0 b : Nat} {l : List UInt8} {w : World} (h : Bd B0 b l w) : B0 ≤ b := by
  rcases h with h | h <;> exact h.1
section
variable {B0 b : Nat} {l l' : List UInt8} {w w1 w2 : World}
theorem Wr.refl (h : Bd B0 b l w) : Wr B0 b l w w := ⟨h, Below.refl _ _, Lib.OthersKept.refl _ _ _⟩
theorem Wr.trans (h : Wr B0 b l w w1) (k : Wr B0 b l' w1 w2) : Wr B0 b l' w w2 := ⟨k.bd, h.below.trans k.below, h.others.trans k.others⟩
theorem Wr.chg (h : Wr B0 b l w w1) (hB : B0 ≤ w1.heap.size) (hc : Chg [] w1 w2) : Wr B0 b l w w2 := ⟨h.bd.kept hc, h.below.trans (hc.below hB (by simp)), h.others.trans (Chg.others hc)⟩
theorem Wr.size (h : Wr B0 b l w w1) : w.heap.size ≤ w1.heap.size := h.below.size
theorem Wr.blk {nb : Nat} {cs : Array Value} {t : TypeId} (h : Wr B0 b l w w1) (hb : Blk w nb cs t) (ht : t ≠ 5) (hn : nb ≠ b) : Blk w1 nb cs t :=
  h.others nb _ hb (by simpa using hn) (fun c fz he => by cases he; exact ht rfl)
theorem below_chg (h : Below B0 w w1) : Chg (List.range' B0 (w.heap.size - B0)) w w1 := ⟨h.os, h.tape, h.output, h.size, fun k hk hn => by
  refine h.block k ?_
  rcases Nat.lt_or_ge k B0 with h1 | h1
  · exact h1
  · exact absurd (by rw [List.mem_range'_1]; omega) hn⟩
theorem in_range {x n : Nat} (h : x ∈ List.range' B0 n) : B0 ≤ x := by rw [List.mem_range'_1] at h; exact h.1
theorem Wr.laid {B : Nat} (h : Wr B0 b l w w1) (hL : Laid w B) (hB : B ≤ B0) : Laid w1 B := hL.kept (below_chg h.below) fun x hx => Nat.le_trans hB (in_range hx)
theorem Wr.eat {F : Nat → Prop} {x : E} {us : List Value} (h : Wr B0 b l w w1) (hF : ∀ x, F x → x < B0) (hx : EAt w F x us) : EAt w1 F x us := hx.kept (below_chg h.below) fun y hy hn => by have := in_range hy; have := hF y hn; omega
theorem Wr.slS {F : Nat → Prop} {x : S} {v : Value} (h : Wr B0 b l w w1) (hF : ∀ x, F x → x < B0) (hx : SlAt w F x v) : SlAt w1 F x v := hx.kept (below_chg h.below) fun y hy hn => by have := in_range hy; have := hF y hn; omega
theorem Wr.names {F : Nat → Prop} {x : List (List UInt8)} {v : Value} (h : Wr B0 b l w w1) (hF : ∀ x, F x → x < B0) (hx : NamesAt w F x v) : NamesAt w1 F x v := hx.kept (below_chg h.below) fun y hy hn => by have := in_range hy; have := hF y hn; omega
theorem Wr.row {F : Nat → Prop} {a : Option Addr} {cs : List Value} (h : Wr B0 b l w w1) (hF : ∀ x, F x → x < B0) (hx : Row w F a cs) : Row w1 F a cs := hx.kept (below_chg h.below) fun y hy hn => by have := in_range hy; have := hF y hn; omega
end
theorem grow_chg (w : World) (n : Nat) (os : Array Obj) : Chg [] w (Go.Sort.grow (w.drewN n) os) := by
  refine ⟨rfl, rfl, rfl, by simp [Go.Sort.grow, World.drewN], fun k hk _ => ?_⟩
  simp only [Go.Sort.grow, World.drewN]
  rw [Array.getElem?_append_left hk]
theorem bs_append (a b : List UInt8) : bs (a ++ b) = bs a ++ bs b := by
  apply ByteArray.ext
  simp [bs]
end Go.Mq.Tree
namespace Go.Proofs.YtoeblajmelbbmaaDoor
open Go Go.RowKit Go.Mq Go.Mq.Tree
set_option maxRecDepth 100000
set_option maxHeartbeats 1000000
theorem itoa_any (n : Int) (h0 : 0 ≤ n) (h1 : n ≤ 9223372036854775807) (w : World) (B : Nat) (hL : Laid w B) : Calls Tryd.prog 38 #[.int .i64 n] w (fun e w' => e = .returned (str (Lib.itoa n)) ∧ Chg [] w w') := by
  refine (Any.strconv_Itoa Tryd.lays171 n (by omega) h1 w hL.tab).mono ?_
  rintro e w' ⟨rfl, k, os, rfl⟩
  exact ⟨rfl, grow_chg _ _ _⟩
def lays166_ren : Go.Shelf.Ren := ⟨fun | 166 => 19 | 240 => 37 | 276 => 51 | n => n, fun | 0 => 0 | 3 => 3 | 4 => 4 | 9 => 9 | 20 => 20 | 37 => 65 | 70 => 64 | 72 => 67 | 75 => 30 | 164 => 102 | 5 => 5 | 76 => 68 | 127 => 89 | 80 => 71 | n => n, fun | n => n⟩
theorem lays166 : Go.Proofs.Lays.n166 Tryd.prog lays166_ren := {
  mixed := by kernel_rfl
  f166 := Tryd.func19.trans (congrArg some (by kernel_rfl))
  f240 := Tryd.func37.trans (congrArg some (by kernel_rfl))
  f276 := Tryd.func51.trans (congrArg some (by kernel_rfl))
  t0 := Tryd.underlying0
  a0 := Tryd.isAgg0
  z0 := Tryd.sizeOf0
  v0 := Tryd.zeroValue0
  t3 := Tryd.underlying3
  a3 := Tryd.isAgg3
  z3 := Tryd.sizeOf3
  v3 := Tryd.zeroValue3
  t4 := Tryd.underlying4
  a4 := Tryd.isAgg4
  z4 := Tryd.sizeOf4
  v4 := Tryd.zeroValue4
  t9 := Tryd.underlying9
  a9 := Tryd.isAgg9
  z9 := Tryd.sizeOf9
  v9 := Tryd.zeroValue9
  t20 := Tryd.underlying20
  a20 := Tryd.isAgg20
  z20 := Tryd.sizeOf20
  v20 := Tryd.zeroValue20
  t37 := Tryd.underlying65
  a37 := Tryd.isAgg65
  z37 := Tryd.sizeOf65
  v37 := Tryd.zeroValue65
  t70 := Tryd.underlying64
  a70 := Tryd.isAgg64
  z70 := Tryd.sizeOf64
  v70 := Tryd.zeroValue64
  t72 := Tryd.underlying67
  a72 := Tryd.isAgg67
  z72 := Tryd.sizeOf67
  v72 := Tryd.zeroValue67
  t75 := Tryd.underlying30
  a75 := Tryd.isAgg30
  z75 := Tryd.sizeOf30
  v75 := Tryd.zeroValue30
  t164 := Tryd.underlying102
  a164 := Tryd.isAgg102
  z164 := Tryd.sizeOf102
  v164 := Tryd.zeroValue102 }
theorem extra : Builder.Extra Tryd.prog lays166_ren := {
  sizeBuilder := by kernel_rfl
  liesBuilder := by kernel_rfl
  t5 := Tryd.underlying5
  a5 := Tryd.isAgg5
  z5 := Tryd.sizeOf5
  v5 := Tryd.zeroValue5
  infoByte := by kernel_rfl
  cellsByte := by kernel_rfl
  sizeByte := by kernel_rfl
  neB5 := by decide }
theorem extra9 : Builder.Extra Tryd.prog Tryd.lays169_ren := {
  sizeBuilder := by kernel_rfl
  liesBuilder := by kernel_rfl
  t5 := Tryd.underlying5
  a5 := Tryd.isAgg5
  z5 := Tryd.sizeOf5
  v5 := Tryd.zeroValue5
  infoByte := by kernel_rfl
  cellsByte := by kernel_rfl
  sizeByte := by kernel_rfl
  neB5 := by decide }
theorem write_any {B0 b : Nat} {l : List UInt8} (s : ByteArray) (X : List UInt8) (hs : s = bs X) {w : World} (h : Bd B0 b l w) (hB : B0 ≤ w.heap.size) (hlen : (l ++ X).length ≤ 1099511627776) :
    Calls Tryd.prog 19 #[ptr b, .string s] w (fun e w' => e = .returned (.tuple #[.int .i64 s.size, .nilIface]) ∧ Wr B0 b (l ++ X) w w') := by
  subst hs
  have hX : (bs X).size = X.length := rfl
  refine (Any.Builder_WriteString_k lays166 extra B0 b (Lib.byteCells l) (bs X) w h (by rw [Lib.byteCells_length, hX]; simp at hlen; omega) hB).mono ?_
  rintro e w' ⟨rfl, h1, h2, h3⟩
  have e1 : Lib.byteCells l ++ Lib.strCells (bs X) = Lib.byteCells (l ++ X) := by simp [Lib.byteCells, Lib.strCells]
  rw [e1] at h1
  exact ⟨rfl, .inr h1, h2, h3⟩
theorem string_any {B0 b : Nat} {l : List UInt8} {w : World} (h : Bd B0 b l w) (h0 : l ≠ []) : Calls Tryd.prog 21 #[ptr b] w (fun e w' => e = .returned (str l) ∧ Wr B0 b l w w') := by
  refine (Any.Builder_String_k Tryd.lays169 extra9 B0 b l w h h0).mono ?_
  rintro e w' ⟨rfl, h1, h2, h3⟩
  exact ⟨rfl, h1, h2, h3⟩
theorem string_empty {B0 b : Nat} {w : World} (h : w.heap[b]? = some (.cells #[.pointer none, .slice none 0 0] 67 (0, 0))) (hB : B0 ≤ b) : Calls Tryd.prog 21 #[ptr b] w (fun e w' => e = .returned (str []) ∧ Below B0 w w') := by
  refine (Any.Builder_String_nil Tryd.lays169 extra9 B0 b _ w h).mono ?_
  rintro e w' ⟨rfl, h1⟩
  exact ⟨rfl, h1⟩
end Go.Proofs.YtoeblajmelbbmaaDoor
