/- Some texts in one. -/
import Derived.Lib.AppendStr
import Derived.Test.YtojkkgghndeimaaGreatDoorO1
import Derived.Test.YtojkkgghndeimaaGreatDoorO8
namespace Go.Mq.Tree
open Go Go.RowKit Go.Mq
abbrev Bd (B0 b:Nat) (l:List UInt8) (w:World):Prop:=Lib.IsBuilderF 127 5 B0 b (Lib.byteCells l) w
structure Wr (B0 b:Nat) (l:List UInt8) (w w':World):Prop where
 bd:Bd B0 b l w'
 below:Below B0 w w'
 others:Lib.OthersKept 5 (some b) w w'
theorem Chg.others {w w':World} {e:TypeId} {b:Option Nat} (h:Chg [] w w'):Lib.OthersKept e b w w':=fun k o hk _ _=>by
 rw [h.block k (Array.getElem?_eq_some_iff.1 hk).1 (by simp)]
 exact hk
theorem Bd.kept {B0 b:Nat} {l:List UInt8} {w w':World} (h:Bd B0 b l w) (hc:Chg [] w w'):Bd B0 b l w':=by
 have hg : w.grownBy w' none:=⟨hc.os,hc.tape,hc.output,hc.size,fun k hk _=>hc.block k hk (by simp)⟩
 have key : ∀ p,Lib.BuilderAtF 127 5 B0 b p (Lib.byteCells l) w→Lib.BuilderAtF 127 5 B0 b p (Lib.byteCells l) w':=by
  rintro p ⟨hB,v,hb,hown,hne⟩
  refine ⟨hB,v,?_,hown.kept hg ?_,hne⟩
  ·rw [hc.block b (Array.getElem?_eq_some_iff.1 hb).1 (by simp)]; exact hb
  ·cases h : v.ownBlock with
   | none=>exact .inl rfl
   | some k=>exact .inr (by simp)
 rcases h with h | h
 ·exact .inl (key _ h)
 ·exact .inr (key _ h)
theorem Bd.lt {B0 b:Nat} {l:List UInt8} {w:World} (h:Bd B0 b l w) : b < w.heap.size:=by
 rcases h with h | h <;> exact Lib.BuilderAtF.lt h
theorem Bd.le {B0 b:Nat} {l:List UInt8} {w:World} (h:Bd B0 b l w):B0≤b:=by
 rcases h with h | h <;> exact h.1
section
variable {B0 b:Nat} {l l':List UInt8} {w w1 w2:World}
theorem Wr.refl (h:Bd B0 b l w):Wr B0 b l w w:=⟨h,Below.refl _ _,Lib.OthersKept.refl _ _ _⟩
theorem Wr.trans (h:Wr B0 b l w w1) (k:Wr B0 b l' w1 w2):Wr B0 b l' w w2:=⟨k.bd,h.below.trans k.below,h.others.trans k.others⟩
theorem Wr.chg (h:Wr B0 b l w w1) (hB:B0≤w1.heap.size) (hc:Chg [] w1 w2):Wr B0 b l w w2:=⟨h.bd.kept hc,h.below.trans (hc.below hB (by simp)),h.others.trans (Chg.others hc)⟩
theorem Wr.size (h:Wr B0 b l w w1) : w.heap.size≤w1.heap.size:=h.below.size
theorem Wr.blk {nb:Nat} {cs:Array Value} {t:TypeId} (h:Wr B0 b l w w1) (hb:Blk w nb cs t) (ht : t≠5) (hn : nb≠b):Blk w1 nb cs t:=
 h.others nb _ hb (by simpa using hn) (fun c fz he=>by cases he; exact ht rfl)
theorem below_chg (h:Below B0 w w1):Chg (List.range' B0 (w.heap.size - B0)) w w1:=⟨h.os,h.tape,h.output,h.size,fun k hk hn=>by
 refine h.block k ?_
 rcases Nat.lt_or_ge k B0 with h1 | h1
 ·exact h1
 ·exact absurd (by rw [List.mem_range'_1]; omega) hn⟩
theorem in_range {x n:Nat} (h : x∈List.range' B0 n):B0≤x:=by rw [List.mem_range'_1] at h; exact h.1
theorem Wr.laid {B:Nat} (h:Wr B0 b l w w1) (hL:Laid w B) (hB:B≤B0):Laid w1 B:=hL.kept (below_chg h.below) fun _ hx=>Nat.le_trans hB (in_range hx)
theorem Wr.names {F:Nat→Prop} {x:List (List UInt8)} {v:Value} (h:Wr B0 b l w w1) (hF : ∀ x,F x→x < B0) (hx:NamesAt w F x v):NamesAt w1 F x v:=hx.kept (below_chg h.below) fun y hy hn=>by have:=in_range hy; have:=hF y hn; omega
theorem Wr.row {F:Nat→Prop} {a:Option Addr} {cs:List Value} (h:Wr B0 b l w w1) (hF : ∀ x,F x→x < B0) (hx:Row w F a cs):Row w1 F a cs:=hx.kept (below_chg h.below) fun y hy hn=>by have:=in_range hy; have:=hF y hn; omega
end
theorem grow_chg (w:World) (n:Nat) (os:Array Obj):Chg [] w (Go.Sort.grow (w.drewN n) os):=by
 refine ⟨rfl,rfl,rfl,by simp [Go.Sort.grow,World.drewN],fun k hk _=>?_⟩
 simp only [Go.Sort.grow,World.drewN]
 rw [Array.getElem?_append_left hk]
theorem bs_append (a b:List UInt8) : bs (a ++ b)=bs a ++ bs b:=by
 apply ByteArray.ext
 simp [bs]
end Go.Mq.Tree
namespace Go.Proofs.YtojkkgghndeimaaGreatDoor
open Go Go.RowKit Go.Mq Go.Mq.Tree
set_option maxRecDepth 100000
set_option maxHeartbeats 1000000
theorem itoa_any (n:Int) (h0 : 0≤n) (h1 : n≤9223372036854775807) (w:World) (B:Nat) (hL:Laid w B):Calls Tryz.prog 66 #[.int .i64 n] w (fun e w'=>e = .returned (str (Lib.itoa n))∧Chg [] w w'):=by
 refine (Any.strconv_Itoa Tryz.lays171 n (by omega) h1 w hL.tab).mono ?_
 rintro e w' ⟨rfl,k,os,rfl⟩
 exact ⟨rfl,grow_chg _ _ _⟩
end Go.Proofs.YtojkkgghndeimaaGreatDoor
