/- A builder that is written: what it holds, and what is kept beside it. -/
import Derived.Test.YtdlhjcnmpcligaaDoorTreeP3
import Derived.Shelf.Strings.BuilderK
namespace Go.Mq.Tree
open Go Go.RowKit Go.Mq
/-- A builder in block b holds these bytes; its buffer lies from B0 on. -/
abbrev Bd (B0 b : Nat) (l : List UInt8) (w : World) : Prop := Lib.IsBuilderF 57 5 B0 b (Lib.byteCells l) w
/-- What is written, and what is kept. -/
structure Wr (B0 b : Nat) (l : List UInt8) (w w' : World) : Prop where
  bd : Bd B0 b l w'
  below : Below B0 w w'
  others : Lib.OthersKept 5 (some b) w w'
theorem Chg.others {w w' : World} {e : TypeId} {b : Option Nat} (h : Chg [] w w') : Lib.OthersKept e b w w' := fun k o hk _ _ => by
  rw [h.block k (Array.getElem?_eq_some_iff.1 hk).1 (by simp)]
  exact hk
theorem Bd.kept {B0 b : Nat} {l : List UInt8} {w w' : World} (h : Bd B0 b l w) (hc : Chg [] w w') : Bd B0 b l w' := by
  have hg : w.grownBy w' none := ⟨hc.os, hc.tape, hc.output, hc.size, fun k hk _ => hc.block k hk (by simp)⟩
  have key : ∀ p, Lib.BuilderAtF 57 5 B0 b p (Lib.byteCells l) w → Lib.BuilderAtF 57 5 B0 b p (Lib.byteCells l) w' := by
    rintro p ⟨hB, v, hb, hown, hne⟩
    refine ⟨hB, v, ?_, hown.kept hg ?_, hne⟩
    · rw [hc.block b (Array.getElem?_eq_some_iff.1 hb).1 (by simp)]; exact hb
    · cases h : v.ownBlock with
      | none => exact .inl rfl
      | some k => exact .inr (by simp)
  rcases h with h | h
  · exact .inl (key _ h)
  · exact .inr (key _ h)
theorem Bd.lt {B0 b : Nat} {l : List UInt8} {w : World} (h : Bd B0 b l w) : b < w.heap.size := by
  rcases h with h | h <;> exact Lib.BuilderAtF.lt h
theorem Bd.le {B0 b : Nat} {l : List UInt8} {w : World} (h : Bd B0 b l w) : B0 ≤ b := by
  rcases h with h | h <;> exact h.1
section
variable {B0 b : Nat} {l l' : List UInt8} {w w1 w2 : World}
theorem Wr.refl (h : Bd B0 b l w) : Wr B0 b l w w := ⟨h, Below.refl _ _, Lib.OthersKept.refl _ _ _⟩
theorem Wr.trans (h : Wr B0 b l w w1) (k : Wr B0 b l' w1 w2) : Wr B0 b l' w w2 := ⟨k.bd, h.below.trans k.below, h.others.trans k.others⟩
theorem Wr.chg (h : Wr B0 b l w w1) (hB : B0 ≤ w1.heap.size) (hc : Chg [] w1 w2) : Wr B0 b l w w2 := ⟨h.bd.kept hc, h.below.trans (hc.below hB (by simp)), h.others.trans (Chg.others hc)⟩
theorem Wr.size (h : Wr B0 b l w w1) : w.heap.size ≤ w1.heap.size := h.below.size
theorem Wr.blk {nb : Nat} {cs : Array Value} {t : TypeId} (h : Wr B0 b l w w1) (hb : Blk w nb cs t) (ht : t ≠ 5) (hn : nb ≠ b) : Blk w1 nb cs t :=
  h.others nb _ hb (by simpa using hn) (fun c fz he => by cases he; exact ht rfl)
theorem below_chg (h : Below B0 w w1) : Chg (List.range' B0 (w.heap.size - B0)) w w1 := ⟨h.os, h.tape, h.output, h.size, fun k hk hn => by
  refine h.block k ?_
  rcases Nat.lt_or_ge k B0 with h1 | h1
  · exact h1
  · exact absurd (by rw [List.mem_range'_1]; omega) hn⟩
theorem in_range {x n : Nat} (h : x ∈ List.range' B0 n) : B0 ≤ x := by rw [List.mem_range'_1] at h; exact h.1
theorem Wr.laid {B : Nat} (h : Wr B0 b l w w1) (hL : Laid w B) (hB : B ≤ B0) : Laid w1 B := hL.kept (below_chg h.below) fun x hx => Nat.le_trans hB (in_range hx)
theorem Wr.eat {F : Nat → Prop} {x : E} {us : List Value} (h : Wr B0 b l w w1) (hF : ∀ x, F x → x < B0) (hx : EAt w F x us) : EAt w1 F x us := hx.kept (below_chg h.below) fun y hy hn => by have := in_range hy; have := hF y hn; omega
theorem Wr.sl {F : Nat → Prop} {x : S} {v : Value} (h : Wr B0 b l w w1) (hF : ∀ x, F x → x < B0) (hx : SlAt w F x v) : SlAt w1 F x v := hx.kept (below_chg h.below) fun y hy hn => by have := in_range hy; have := hF y hn; omega
theorem Wr.names {F : Nat → Prop} {x : List (List UInt8)} {v : Value} (h : Wr B0 b l w w1) (hF : ∀ x, F x → x < B0) (hx : NamesAt w F x v) : NamesAt w1 F x v := hx.kept (below_chg h.below) fun y hy hn => by have := in_range hy; have := hF y hn; omega
theorem Wr.row {F : Nat → Prop} {a : Option Addr} {cs : List Value} (h : Wr B0 b l w w1) (hF : ∀ x, F x → x < B0) (hx : Row w F a cs) : Row w1 F a cs := hx.kept (below_chg h.below) fun y hy hn => by have := in_range hy; have := hF y hn; omega
end
/-- Of each of the statements what lies in it is so. -/
def AllS (P : S → Prop) : S → Prop
  | .nil => True
  | .set _ _ _ _ r => AllS P r
  | .ifs _ _ t e r => P t ∧ P e ∧ AllS P r
  | .whil _ _ t r => P t ∧ AllS P r
  | .ret _ _ r => AllS P r
  | .wri _ _ r => AllS P r
  | .call _ _ r => AllS P r
theorem set7P {w : World} {b : Nat} (v0 v1 v2 v3 v4 v5 v6 : Value) {u0 u1 u2 u3 u4 u5 u6 : Value} {t : TypeId} (h : Blk w b #[u0, u1, u2, u3, u4, u5, u6] t) : ∃ wF, (((((((w.setCell ⟨b, 0, none⟩ v0).setCell ⟨b, 1, none⟩ v1).setCell ⟨b, 2, none⟩ v2).setCell ⟨b, 3, none⟩ v3).setCell ⟨b, 4, none⟩ v4).setCell ⟨b, 5, none⟩ v5).setCell ⟨b, 6, none⟩ v6) = wF ∧ Chg [b] w wF ∧ Blk wF b #[v0, v1, v2, v3, v4, v5, v6] t :=
  ⟨_, rfl, ((((((Chg.set1 _ _ _ _).then (Chg.set1 _ _ _ _)).then (Chg.set1 _ _ _ _)).then (Chg.set1 _ _ _ _)).then (Chg.set1 _ _ _ _)).then (Chg.set1 _ _ _ _)).then (Chg.set1 _ _ _ _), by
    have := ((((((h.set 0 v0).set 1 v1).set 2 v2).set 3 v3).set 4 v4).set 5 v5).set 6 v6
    simpa using this⟩
end Go.Mq.Tree
namespace Go.Proofs.YtdlhjcnmpcligaaDoor
open Go Go.RowKit Go.Mq Go.Mq.Tree
set_option maxRecDepth 100000
set_option maxHeartbeats 1000000
theorem write_any {B0 b : Nat} {l : List UInt8} (s : ByteArray) (X : List UInt8) (hs : s = bs X) {w : World} (h : Bd B0 b l w) (hB : B0 ≤ w.heap.size) (hlen : (l ++ X).length ≤ 1099511627776) :
    Calls Tryd.prog 14 #[ptr b, .string s] w (fun e w' => e = .returned (.tuple #[.int .i64 s.size, .nilIface]) ∧ Wr B0 b (l ++ X) w w') := by
  subst hs
  have hX : (bs X).size = X.length := rfl
  refine (Any.Builder_WriteString_k { Tryd.lays156 with } extra B0 b (Lib.byteCells l) (bs X) w h (by rw [Lib.byteCells_length, hX]; simp at hlen; omega) hB).mono ?_
  rintro e w' ⟨rfl, h1, h2, h3⟩
  have e1 : Lib.byteCells l ++ Lib.strCells (bs X) = Lib.byteCells (l ++ X) := by simp [Lib.byteCells, Lib.strCells]
  rw [e1] at h1
  exact ⟨rfl, .inr h1, h2, h3⟩
end Go.Proofs.YtdlhjcnmpcligaaDoor
