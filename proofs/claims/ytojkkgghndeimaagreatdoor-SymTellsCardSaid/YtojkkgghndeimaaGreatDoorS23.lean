/- Some texts in one. -/
import Derived.Lib.AppendStr
import Derived.Test.YtojkkgghndeimaaGreatDoorS1
import Derived.Test.YtojkkgghndeimaaGreatDoorS7
namespace Go.Mq.Tree
open Go Go.RowKit Go.Mq
abbrev Bd (B0 b:Nat) (l:List UInt8) (w:World):Prop:=Lib.IsBuilderF 127 5 B0 b (Lib.byteCells l) w
structure Wr (B0 b:Nat) (l:List UInt8) (w w':World):Prop where
 bd:Bd B0 b l w'
 below:Below B0 w w'
 others:Lib.OthersKept 5 (some b) w w'
theorem Chg.others {w w':World} {e:TypeId} {b:Option Nat} (h:Chg [] w w'):Lib.OthersKept e b w w':=fun k o hk _ _=>by
 rw [h.block k (Array.getElem?_eq_some_iff.1 hk).1 (by simp)]
 exact hk
theorem Bd.kept {B0 b:Nat} {l:List UInt8} {w w':World} (h:Bd B0 b l w) (hc:Chg [] w w'):Bd B0 b l w':=by
 have hg : w.grownBy w' none:=⟨hc.os,hc.tape,hc.output,hc.size,fun k hk _=>hc.block k hk (by simp)⟩
 have key : ∀ p,Lib.BuilderAtF 127 5 B0 b p (Lib.byteCells l) w→Lib.BuilderAtF 127 5 B0 b p (Lib.byteCells l) w':=by
  rintro p ⟨hB,v,hb,hown,hne⟩
  refine ⟨hB,v,?_,hown.kept hg ?_,hne⟩
  ·rw [hc.block b (Array.getElem?_eq_some_iff.1 hb).1 (by simp)]; exact hb
  ·cases h : v.ownBlock with
   | none=>exact .inl rfl
   | some k=>exact .inr (by simp)
 rcases h with h | h
 ·exact .inl (key _ h)
 ·exact .inr (key _ h)
theorem Bd.lt {B0 b:Nat} {l:List UInt8} {w:World} (h:Bd B0 b l w) : b < w.heap.size:=by
 rcases h with h | h <;> exact Lib.BuilderAtF.lt h
theorem Bd.le {B0 b:Nat} {l:List UInt8} {w:World} (h:Bd B0 b l w):B0≤b:=by
 rcases h with h | h <;> exact h.1
section
variable {B0 b:Nat} {l l':List UInt8} {w w1 w2:World}
theorem Wr.refl (h:Bd B0 b l w):Wr B0 b l w w:=⟨h,Below.refl _ _,Lib.OthersKept.refl _ _ _⟩
theorem Wr.trans (h:Wr B0 b l w w1) (k:Wr B0 b l' w1 w2):Wr B0 b l' w w2:=⟨k.bd,h.below.trans k.below,h.others.trans k.others⟩
theorem Wr.chg (h:Wr B0 b l w w1) (hB:B0≤w1.heap.size) (hc:Chg [] w1 w2):Wr B0 b l w w2:=⟨h.bd.kept hc,h.below.trans (hc.below hB (by simp)),h.others.trans (Chg.others hc)⟩
theorem Wr.size (h:Wr B0 b l w w1) : w.heap.size≤w1.heap.size:=h.below.size
theorem Wr.blk {nb:Nat} {cs:Array Value} {t:TypeId} (h:Wr B0 b l w w1) (hb:Blk w nb cs t) (ht : t≠5) (hn : nb≠b):Blk w1 nb cs t:=
 h.others nb _ hb (by simpa using hn) (fun c fz he=>by cases he; exact ht rfl)
theorem below_chg (h:Below B0 w w1):Chg (List.range' B0 (w.heap.size - B0)) w w1:=⟨h.os,h.tape,h.output,h.size,fun k hk hn=>by
 refine h.block k ?_
 rcases Nat.lt_or_ge k B0 with h1 | h1
 ·exact h1
 ·exact absurd (by rw [List.mem_range'_1]; omega) hn⟩
theorem in_range {x n:Nat} (h : x∈List.range' B0 n):B0≤x:=by rw [List.mem_range'_1] at h; exact h.1
theorem Wr.laid {B:Nat} (h:Wr B0 b l w w1) (hL:Laid w B) (hB:B≤B0):Laid w1 B:=hL.kept (below_chg h.below) fun _ hx=>Nat.le_trans hB (in_range hx)
theorem Wr.names {F:Nat→Prop} {x:List (List UInt8)} {v:Value} (h:Wr B0 b l w w1) (hF : ∀ x,F x→x < B0) (hx:NamesAt w F x v):NamesAt w1 F x v:=hx.kept (below_chg h.below) fun y hy hn=>by have:=in_range hy; have:=hF y hn; omega
theorem Wr.row {F:Nat→Prop} {a:Option Addr} {cs:List Value} (h:Wr B0 b l w w1) (hF : ∀ x,F x→x < B0) (hx:Row w F a cs):Row w1 F a cs:=hx.kept (below_chg h.below) fun y hy hn=>by have:=in_range hy; have:=hF y hn; omega
end
theorem grow_chg (w:World) (n:Nat) (os:Array Obj):Chg [] w (Go.Sort.grow (w.drewN n) os):=by
 refine ⟨rfl,rfl,rfl,by simp [Go.Sort.grow,World.drewN],fun k hk _=>?_⟩
 simp only [Go.Sort.grow,World.drewN]
 rw [Array.getElem?_append_left hk]
theorem bs_append (a b:List UInt8) : bs (a ++ b)=bs a ++ bs b:=by
 apply ByteArray.ext
 simp [bs]
end Go.Mq.Tree
namespace Go.Proofs.YtojkkgghndeimaaGreatDoor
open Go Go.RowKit Go.Mq Go.Mq.Tree
set_option maxRecDepth 100000
set_option maxHeartbeats 1000000
theorem itoa_any (n:Int) (h0 : 0≤n) (h1 : n≤9223372036854775807) (w:World) (B:Nat) (hL:Laid w B):Calls Tryz.prog 66 #[.int .i64 n] w (fun e w'=>e = .returned (str (Lib.itoa n))∧Chg [] w w'):=by
 refine (Any.strconv_Itoa Tryz.lays171 n (by omega) h1 w hL.tab).mono ?_
 rintro e w' ⟨rfl,k,os,rfl⟩
 exact ⟨rfl,grow_chg _ _ _⟩
def lays166_ren:Go.Shelf.Ren:=⟨fun | 166=>64 | 240=>119 | 276=>164 | n=>n,fun | 0=>0 | 3=>3 | 4=>4 | 9=>9 | 20=>20 | 37=>125 | 70=>124 | 72=>127 | 75=>38 | 164=>176 | 5=>5 | 76=>128 | 127=>195 | 80=>78 | n=>n,fun | n=>n⟩
theorem lays166:Go.Proofs.Lays.n166 Tryz.prog lays166_ren:={
 mixed:=by kernel_rfl
 f166:=Tryz.func64.trans (congrArg some (by kernel_rfl))
 f240:=Tryz.func119.trans (congrArg some (by kernel_rfl))
 f276:=Tryz.func164.trans (congrArg some (by kernel_rfl))
 t0:=Tryz.underlying0
 a0:=Tryz.isAgg0
 z0:=Tryz.sizeOf0
 v0:=Tryz.zeroValue0
 t3:=Tryz.underlying3
 a3:=Tryz.isAgg3
 z3:=Tryz.sizeOf3
 v3:=Tryz.zeroValue3
 t4:=Tryz.underlying4
 a4:=Tryz.isAgg4
 z4:=Tryz.sizeOf4
 v4:=Tryz.zeroValue4
 t9:=Tryz.underlying9
 a9:=Tryz.isAgg9
 z9:=Tryz.sizeOf9
 v9:=Tryz.zeroValue9
 t20:=Tryz.underlying20
 a20:=Tryz.isAgg20
 z20:=Tryz.sizeOf20
 v20:=Tryz.zeroValue20
 t37:=Tryz.underlying125
 a37:=Tryz.isAgg125
 z37:=Tryz.sizeOf125
 v37:=Tryz.zeroValue125
 t70:=Tryz.underlying124
 a70:=Tryz.isAgg124
 z70:=Tryz.sizeOf124
 v70:=Tryz.zeroValue124
 t72:=Tryz.underlying127
 a72:=Tryz.isAgg127
 z72:=Tryz.sizeOf127
 v72:=Tryz.zeroValue127
 t75:=Tryz.underlying38
 a75:=Tryz.isAgg38
 z75:=Tryz.sizeOf38
 v75:=Tryz.zeroValue38
 t164:=Tryz.underlying176
 a164:=Tryz.isAgg176
 z164:=Tryz.sizeOf176
 v164:=Tryz.zeroValue176 }
theorem extra:Builder.Extra Tryz.prog lays166_ren:={
 sizeBuilder:=by kernel_rfl
 liesBuilder:=by kernel_rfl
 t5:=Tryz.underlying5
 a5:=Tryz.isAgg5
 z5:=Tryz.sizeOf5
 v5:=Tryz.zeroValue5
 infoByte:=by kernel_rfl
 cellsByte:=by kernel_rfl
 sizeByte:=by kernel_rfl
 neB5:=by decide }
theorem extra9:Builder.Extra Tryz.prog Tryz.lays169_ren:={
 sizeBuilder:=by kernel_rfl
 liesBuilder:=by kernel_rfl
 t5:=Tryz.underlying5
 a5:=Tryz.isAgg5
 z5:=Tryz.sizeOf5
 v5:=Tryz.zeroValue5
 infoByte:=by kernel_rfl
 cellsByte:=by kernel_rfl
 sizeByte:=by kernel_rfl
 neB5:=by decide }
theorem write_any {B0 b:Nat} {l:List UInt8} (s:ByteArray) (X:List UInt8) (hs : s=bs X) {w:World} (h:Bd B0 b l w) (hB:B0≤w.heap.size) (hlen : (l ++ X).length≤1099511627776) :
  Calls Tryz.prog 64 #[ptr b,.string s] w (fun e w'=>e = .returned (.tuple #[.int .i64 s.size,.nilIface])∧Wr B0 b (l ++ X) w w'):=by
 subst hs
 have hX : (bs X).size=X.length:=rfl
 refine (Any.Builder_WriteString_k lays166 extra B0 b (Lib.byteCells l) (bs X) w h (by rw [Lib.byteCells_length,hX]; simp at hlen; omega) hB).mono ?_
 rintro e w' ⟨rfl,h1,h2,h3⟩
 have e1:Lib.byteCells l ++ Lib.strCells (bs X)=Lib.byteCells (l ++ X):=by simp [Lib.byteCells,Lib.strCells]
 rw [e1] at h1
 exact ⟨rfl,.inr h1,h2,h3⟩
theorem string_any {B0 b:Nat} {l:List UInt8} {w:World} (h:Bd B0 b l w) (h0 : l≠[]):Calls Tryz.prog 69 #[ptr b] w (fun e w'=>e = .returned (str l)∧Wr B0 b l w w'):=by
 refine (Any.Builder_String_k Tryz.lays169 extra9 B0 b l w h h0).mono ?_
 rintro e w' ⟨rfl,h1,h2,h3⟩
 exact ⟨rfl,h1,h2,h3⟩
theorem string_empty {B0 b:Nat} {w:World} (h : w.heap[b]?=some (.cells #[.pointer none,.slice none 0 0] 127 (0,0))) (_hB:B0≤b):Calls Tryz.prog 69 #[ptr b] w (fun e w'=>e = .returned (str [])∧Below B0 w w'):=by
 refine (Any.Builder_String_nil Tryz.lays169 extra9 B0 b _ w h).mono ?_
 rintro e w' ⟨rfl,h1⟩
 exact ⟨rfl,h1⟩
end Go.Proofs.YtojkkgghndeimaaGreatDoor
