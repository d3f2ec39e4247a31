/- Some texts in one. -/
import Derived.WalkKit
import Derived.WalkSpells
import Derived.Lib.AppendStr
import Derived.Lib.Hide
import Derived.Lib.Strings
import Derived.Deep.QuietTactic
import Derived.BigQuiet
import Derived.Deep.RegionHeld3
import Derived.Deep.LoopGhost
import Derived.Deep.DeepFit
import Derived.Laws.EntriesVeiled
namespace Go.Mq
open Go Go.RowKit
structure Chg (S:List Nat) (w w':World):Prop where
 os : w'.os=w.os
 tape : w'.tape=w.tape
 output : w'.output=w.output
 size : w.heap.size≤w'.heap.size
 block : ∀ k,k < w.heap.size→k∉S→w'.heap[k]?=w.heap[k]?
theorem Chg.refl (S:List Nat) (w:World):Chg S w w:=⟨rfl,rfl,rfl,Nat.le_refl _,fun _ _ _=>rfl⟩
theorem Chg.trans {S S2:List Nat} {a b c:World} (h:Chg S a b) (k:Chg S2 b c) (hs : ∀ x∈S2,x∈S∨a.heap.size≤x):Chg S a c:=
 ⟨k.os.trans h.os,k.tape.trans h.tape,k.output.trans h.output,Nat.le_trans h.size k.size,fun i hi hn=>
  (k.block i (Nat.lt_of_lt_of_le hi h.size) (fun hm=>by rcases hs i hm with h1 | h1; exact hn h1; omega)).trans (h.block i hi hn)⟩
theorem Chg.then {S:List Nat} {a b c:World} (h:Chg S a b) (k:Chg S b c):Chg S a c:=h.trans k fun _ hx=>.inl hx
theorem Chg.mono {S S2:List Nat} {a b:World} (h:Chg S a b) (hs : ∀ x∈S,x∈S2∨a.heap.size≤x):Chg S2 a b:=
 ⟨h.os,h.tape,h.output,h.size,fun i hi hn=>h.block i hi (fun hm=>by rcases hs i hm with h1 | h1; exact hn h1; omega)⟩
theorem Chg.weak {S:List Nat} {a b:World} (h:Chg [] a b):Chg S a b:=h.mono fun _ hx=>by cases hx
theorem Chg.alloc {S:List Nat} {a b:World} (h:Chg S a b) (o:Obj):Chg S a (b.alloc o):=
 h.then ⟨rfl,rfl,rfl,by simp,fun k hk _=>Below.heap_alloc b o k hk⟩
theorem Chg.drew {S:List Nat} {a b:World} (h:Chg S a b):Chg S a b.drew:=⟨h.os,h.tape,h.output,h.size,h.block⟩
theorem Chg.setCell {S:List Nat} {a b:World} (h:Chg S a b) (p:Addr) (hp : p.block∈S∨a.heap.size≤p.block) (v:Value):Chg S a (b.setCell p v):=
 ⟨h.os,h.tape,h.output,by have:=h.size; simpa [World.setCell] using this,fun k hk hn=>
  (Below.heap_setCell b p v k (fun e=>by subst e; rcases hp with h1 | h1; exact hn h1; omega)).trans (h.block k hk hn)⟩
theorem Chg.cell {S:List Nat} {w w':World} (h:Chg S w w') {a:Addr} (hlt : a.block < w.heap.size) (hn : a.block∉S) : w'.cell? a=w.cell? a:=
 World.cell?_of_block (h.block a.block hlt hn)
theorem Chg.frozen {S:List Nat} {w w':World} (h:Chg S w w') {a:Addr} (hlt : a.block < w.heap.size) (hn : a.block∉S) : w'.frozen? a=w.frozen? a:=
 World.frozen?_of_block (h.block a.block hlt hn)
theorem lt_of_cell {w:World} {a:Addr} {v:Value} (h : w.cell? a=some v) : a.block < w.heap.size:=World.block_lt_of_cell? w a h
theorem Chg.cellSome {S:List Nat} {w w':World} (h:Chg S w w') {a:Addr} {v:Value} (hc : w.cell? a=some v) (hn : a.block∉S) : w'.cell? a=some v:=
 (h.cell (lt_of_cell hc) hn).trans hc
theorem Chg.below {S:List Nat} {w w':World} {B:Nat} (h:Chg S w w') (hB:B≤w.heap.size) (hs : ∀ x∈S,B≤x):Below B w w':=
 ⟨h.os,h.tape,h.output,h.size,fun k hk=>h.block k (by omega) (fun hm=>by have:=hs k hm; omega)⟩
theorem Chg.of_below {w w':World} {S:List Nat} (h:Below w.heap.size w w'):Chg S w w':=⟨h.os,h.tape,h.output,h.size,fun k hk _=>h.block k hk⟩
theorem Chg.grown {w w':World} {b:Nat} (h:Chg [b] w w') : w.grownBy w' (some b):=
 ⟨h.os,h.tape,h.output,h.size,fun k hk hn=>h.block k hk (by simpa using hn)⟩
def blk:Value→List Nat
 | .slice (some a) _ _=>[a.block]
 | _=>[]
def Moved (w:World) (v v':Value):Prop:=∀ g∈blk v',g∈blk v∨w.heap.size≤g
theorem Moved.refl (w:World) (v:Value):Moved w v v:=fun _ h=>.inl h
theorem Moved.trans {S:List Nat} {w w1:World} {v v1 v2:Value} (h:Moved w v v1) (hc:Chg S w w1) (k:Moved w1 v1 v2):Moved w v v2:=fun g hg=>by
 rcases k g hg with h1 | h1
 ·exact h g h1
 ·have:=hc.size; exact .inr (by omega)
def From (B:Nat) (v:Value):Prop:=∀ g∈blk v,B≤g
theorem From.moved {B:Nat} {w:World} {v v':Value} (h:From B v) (k:Moved w v v') (hB:B≤w.heap.size):From B v':=fun g hg=>by
 rcases k g hg with h1 | h1
 ·exact h g h1
 ·omega
theorem From.nil (B:Nat):From B (.slice none 0 0):=fun _ h=>by cases h
theorem owns_lt {w:World} {base:Nat} {e:TypeId} {size:Nat} {v:Value} {n:Nat} {xs:List Value} (h : w.ownsRow base e size v n xs) : ∀ g∈blk v,g < w.heap.size:=by
 intro g hg
 rcases h.2 with ⟨rfl,_⟩ | ⟨g',cap,cur,rfl,hb,hgg,_⟩
 ·cases hg
 ·simp [blk] at hg; subst hg; exact (Array.getElem?_eq_some_iff.1 hgg).1
theorem owns_kept {S:List Nat} {w w':World} {base:Nat} {e:TypeId} {size:Nat} {v:Value} {n:Nat} {xs:List Value} (h : w.ownsRow base e size v n xs) (hg:Chg S w w') (hne : ∀ g∈blk v,g∉S) : w'.ownsRow base e size v n xs:=by
 refine ⟨h.1,?_⟩
 rcases h.2 with hn | ⟨g,cap,cur,rfl,hb,hgg,rest⟩
 ·exact .inl hn
 ·refine .inr ⟨g,cap,cur,rfl,hb,?_,rest⟩
  rw [hg.block g (Array.getElem?_eq_some_iff.1 hgg).1 (hne g (by simp [blk]))]
  exact hgg
section
variable {P:Program}
theorem append_slice (w:World) (base:Nat) (t ty e:TypeId) (i:TypeInfo) (z:Value) (size bytes:Nat) (ht:P.underlying t=some (.slice e)) (hi:P.info? e=some i) (hz : i.zero=some z)
  (hsize : i.size=size) (hby : i.bytes=bytes) (hzs : z.cells.size=size) (hsz : 0 < size)
  (v:Value) (n:Nat) (xs:List Value) (hown : w.ownsRow base e size v n xs)
  (a:Addr) (m c:Nat) (news:List Value) (hl : news.length=m * size) (hnews : ∀ j u,news[j]?=some u→w.cell? (a.add j)=some u) (h1 : ∀ u∈news,u.oneCell'=true)
  (h63 : n + m≤maxLen) (hbytes : (n + m) * bytes≤140737488355328) (hbase : base≤w.heap.size) :
  ∃ v' w',(Builtin.append_ #[t,t] ty #[v,.slice (some a) m c]).run P w = .ok v' w'∧w'.ownsRow base e size v' (n + m) (xs ++ news)∧Chg (blk v) w w'∧Moved w v v':=by
 subst hsize
 subst hby
 have hsmall : n + m≤9223372036854775807:=by simp only [maxLen] at h63; omega
 have hlen : (xs ++ news).length=(n + m) * i.size:=by rw [List.length_append,hown.1,hl,Nat.add_mul]
 have grown : ∀ (old:Nat),old < n + m →
   (w.drew.alloc (.cells (xs.toArray ++ news.toArray ++ Builtin.zeroCells z.cells (grownCap w (n + m) old e - (n + m))) e)).ownsRow base e i.size
    (.slice (some ⟨w.heap.size,0,none⟩) (n + m) (grownCap w (n + m) old e)) (n + m) (xs ++ news):=by
  intro old ho
  have hge:=grownCap_ge w (n + m) old e
  have hcm : grownCap w (n + m) old e≤maxLen:=grownCap_le_maxLen w (n + m) old e h63
  refine ⟨hlen,.inr ⟨w.heap.size,_,_,rfl,hbase,heap_alloc_new w.drew _,hge,hcm,?_,?_⟩⟩
  ·simp only [Array.size_append,List.size_toArray,size_zeroCells,hzs,hown.1,hl,← Nat.add_mul]
   congr 1
   omega
  ·simp only [Array.toList_append,List.append_assoc]
   rw [← List.append_assoc,← hlen]
   exact List.take_left
 have chg : ∀ (S:List Nat) (o:Obj),Chg S w (w.drew.alloc o):=fun S o=>((Chg.refl S w).drew).alloc o
 have mv : ∀ v k c,Moved w v (.slice (some ⟨w.heap.size,0,none⟩) k c):=fun v k c g hg=>by simp [blk] at hg; exact .inr (by omega)
 rcases hown.2 with ⟨rfl,rfl⟩ | ⟨g,cap,cur,rfl,hbg,hg,hnc,hcm,hcs,htake⟩
 ·have hx : xs=[]:=List.eq_nil_of_length_eq_zero (by simpa using hown.1)
  subst hx
  by_cases hm : m=0
  ·subst hm
   have hn : news=[]:=List.eq_nil_of_length_eq_zero (by simpa using hl)
   subst hn
   refine ⟨.slice none 0 0,w,?_,World.ownsRow_nil w base e i.size,Chg.refl _ _,Moved.refl _ _⟩
   simp [Builtin.append_,run_underlying ht,sizeOf,typeInfo,hi,Builtin.lenOf,Builtin.firstCells,loadCells,loadCellsFrom]
  ·have hr:=run_append_nil (P:=P) w t ty e i z ht hi hz a m c news hl hnews (by omega) (by omega) (by have hb:=hbytes; simp only [Nat.zero_add] at hb; omega)
   have hgr:=grown 0 (by omega)
   simp only [Nat.zero_add,List.nil_append,Array.empty_append] at hgr ⊢
   exact ⟨_,_,hr,hgr,chg _ _,mv _ _ _⟩
 ·by_cases hroom : n + m≤cap
  ·have hfit : n * i.size + news.length≤cur.size:=by rw [hl,hcs,← Nat.add_mul]; exact Nat.mul_le_mul_right _ hroom
   have hr:=run_append_room (P:=P) w t ty e i ht hi g n cap cur hg a m c news hl hnews h1 hroom hfit
   refine ⟨_,_,hr,⟨hlen,.inr ⟨g,cap,_,rfl,hbg,setRow_heap w g cur _ e _ hg,hroom,hcm,?_,?_⟩⟩,⟨rfl,rfl,rfl,by simp,fun k _ hk=>setRow_other w g k _ (fun e=>hk (by simp [blk,e]))⟩,fun _ h=>.inl (by simpa [blk] using h)⟩
   ·simp only [List.size_toArray,List.length_append,List.length_take,List.length_drop,Array.length_toList]
    omega
   ·rw [htake,← hlen]
    exact List.take_left
  ·have holds : ∀ j u,xs[j]?=some u→w.cell? ((⟨g,0,none⟩ : Addr).add j)=some u:=hown.cells (g:=g) rfl
   have hr:=run_append_grow (P:=P) w t ty e i z ht hi hz ⟨g,0,none⟩ n cap xs hown.1 holds a m c news hl hnews (by omega) (by omega) (growslice_fits (by omega) hbytes)
   exact ⟨_,_,hr,grown cap (by omega),chg _ _,mv _ _ _⟩
variable {ops:Array Oper} {rest:List Oper} {o:Oper} {a:Act} {Q:Exit→Act→World→Prop} {w:World}
theorem wpL_append (hgd : o.guard=none) (s x:Operand) (t:TypeId)
  (ho : o.op = .call { callee:=.builtin .append,args:=#[s,x],argTypes:=#[t,t] })
  (e:TypeId) (z:Value) (size bytes:Nat) (hi : (P.info? e).map (fun i=>(i.zero,i.size,i.bytes))=some (some z,size,bytes)) (ht:P.underlying t=some (.slice e))
  (hzs : z.cells.size=size) (hsz : 0 < size)
  (v:Value) (n:Nat) (xs:List Value) (hs : a.eval s=v) (hown : w.ownsRow 0 e size v n xs)
  (ad:Addr) (m c:Nat) (news:List Value) (hx : a.eval x = .slice (some ad) m c) (hl : news.length=m * size) (hnews : ∀ j u,news[j]?=some u→w.cell? (ad.add j)=some u) (h1 : ∀ u∈news,u.oneCell'=true)
  (hbytes : (n + m) * bytes≤140737488355328) (h63 : n + m≤maxLen)
  (h : ∀ v' w',w'.ownsRow 0 e size v' (n + m) (xs ++ news)→Chg (blk v) w w'→Moved w v v'→wpList P ops Q rest (a.put o.dst v') w') : wpList P ops Q (o :: rest) a w:=by
 obtain ⟨i,hi,hz,hsize,hby⟩:=info_parts hi
 obtain ⟨v',w',hr,h2,h3,h4⟩:=append_slice (P:=P) w 0 t o.type e i z size bytes ht hi hz hsize hby hzs hsz v n xs hown ad m c news hl hnews h1 h63 hbytes (Nat.zero_le _)
 refine wpList_plain hgd fun K hK=>?_
 unfold Oper.wp execOp
 simp only [ho,resolve,invoke,builtin,Sem.run_bind,Sem.run_pure,Result.andThen_ok,List.map_toArray,List.map_cons,List.map_nil,hs,hx,hr]
 exact hK _ _ (h v' w' h2 h3 h4)
end
theorem cell_new1 (w:World) (u:Value) (t:TypeId) : ∀ j x,[u][j]?=some x→(w.alloc (.cells #[u] t)).cell? ((⟨w.heap.size,0,none⟩ : Addr).add j)=some x:=by
 intro j x h
 match j,h with
 | 0,h=>simp at h; subst h; simp [Addr.add,World.cell?_alloc_at]
def At (w:World) (a:Option Addr) (vs:List Value):Prop:=0 < vs.length → ∃ b off,a=some ⟨b,off,none⟩ ∧ ∀ i x,vs[i]?=some x→w.cell? ⟨b,off + i,none⟩=some x
theorem At.kept {S:List Nat} {w w':World} {a:Option Addr} {vs:List Value} (h:At w a vs) (hc:Chg S w w') (hn : ∀ p,a=some p→p.block∉S):At w' a vs:=fun h0=>by
 obtain ⟨b,off,rfl,hcell⟩:=h h0
 exact ⟨b,off,rfl,fun i x hx=>hc.cellSome (hcell i x hx) (hn ⟨b,off,none⟩ rfl)⟩
def Blk (w:World) (b:Nat) (cs:Array Value) (t:TypeId):Prop:=w.heap[b]?=some (.cells cs t (0,0))
theorem Blk.lt {w:World} {b:Nat} {cs:Array Value} {t:TypeId} (h:Blk w b cs t) : b < w.heap.size:=(Array.getElem?_eq_some_iff.1 h).1
theorem Blk.cell {w:World} {b:Nat} {cs:Array Value} {t:TypeId} (h:Blk w b cs t) (i:Nat) (v:Value) (hv : cs[i]?=some v) : w.cell? ⟨b,i,none⟩=some v:=by
 rw [cell_of_row w b i cs t (0,0) h]; exact hv
theorem Blk.frozen {w:World} {b:Nat} {cs:Array Value} {t:TypeId} (h:Blk w b cs t) (i:Nat) : w.frozen? ⟨b,i,none⟩=false:=by
 have h' : w.heap[b]?=some (.cells cs t (0,0)):=h
 simp [World.frozen?,h']
theorem Blk.set {w:World} {b:Nat} {cs:Array Value} {t:TypeId} (h:Blk w b cs t) (i:Nat) (v:Value):Blk (w.setCell ⟨b,i,none⟩ v) b (cs.setIfInBounds i v) t:=by
 have hlt:=h.lt
 have h' : w.heap[b] = .cells cs t (0,0):=(Array.getElem?_eq_some_iff.1 h).2
 show (w.heap.modify b _)[b]?=_
 rw [Array.getElem?_eq_getElem (by simpa using hlt),Array.getElem_modify]
 simp [h']
theorem Blk.kept {S:List Nat} {w w':World} {b:Nat} {cs:Array Value} {t:TypeId} (h:Blk w b cs t) (hc:Chg S w w') (hn : b∉S):Blk w' b cs t:=(hc.block b h.lt hn).trans h
theorem Blk.new (w:World) (cs:Array Value) (t:TypeId):Blk (w.alloc (.cells cs t)) w.heap.size cs t:=heap_alloc_new w _
theorem Chg.set1 (w:World) (b i:Nat) (v:Value):Chg [b] w (w.setCell ⟨b,i,none⟩ v):=(Chg.refl [b] w).setCell _ (.inl (by simp)) v
abbrev bs (l:List UInt8):ByteArray:=⟨l.toArray⟩
theorem bs_extract (l:List UInt8) (a b:Nat) : (bs l).extract a b=bs ((l.drop a).take (b - a)):=Lib.extract_eq (bs l) a b
theorem bs_toList (s:ByteArray) : bs s.data.toList=s:=Lib.mk_data s
theorem bs_get (l:List UInt8) (k:Nat) : (bs l)[k]?=l[k]?:=by
 by_cases h : k < l.length
 ·have h2 : k < (bs l).size:=h
  rw [List.getElem?_eq_getElem h,getElem?_pos (bs l) k h2]
  rfl
 ·have h2 : ¬ k < (bs l).size:=h
  rw [List.getElem?_eq_none (by omega),getElem?_neg (bs l) k h2]
theorem run_index_str {P:Program} {t:TypeId} (ht:P.underlying t=some .string) {s:ByteArray} {k:Nat} {c:UInt8} (h : s[k]?=some c) (w:World) :
  (Instr.index t (.string s) (.int .i64 k)).run P w = .ok (.int .u8 c.toNat) w:=by
 simp [Instr.index,asIntOf,run_underlying ht,h]
theorem Chg.cells {S:List Nat} {w w':World} {b:Nat} (h:Chg S w w') (hlt : b < w.heap.size) (hn : b∉S) : ∀ o,w'.cell? ⟨b,o,none⟩=w.cell? ⟨b,o,none⟩:=fun o=>h.cell (a:=⟨b,o,none⟩) hlt hn
theorem Blk.six {w:World} {b:Nat} {t:TypeId} {u0 u1 u2 u3 u4 u5:Value} (h:Blk w b #[u0,u1,u2,u3,u4,u5] t) : w.cell? ⟨b,0,none⟩=some u0∧w.cell? ⟨b,1,none⟩=some u1∧w.cell? ⟨b,2,none⟩=some u2∧w.cell? ⟨b,3,none⟩=some u3∧w.cell? ⟨b,4,none⟩=some u4∧w.cell? ⟨b,5,none⟩=some u5:=
 ⟨h.cell 0 _ rfl,h.cell 1 _ rfl,h.cell 2 _ rfl,h.cell 3 _ rfl,h.cell 4 _ rfl,h.cell 5 _ rfl⟩
theorem Blk.free6 {w:World} {b:Nat} {t:TypeId} {cs:Array Value} (h:Blk w b cs t) : w.frozen? ⟨b,0,none⟩=false∧w.frozen? ⟨b,1,none⟩=false∧w.frozen? ⟨b,2,none⟩=false∧w.frozen? ⟨b,3,none⟩=false∧w.frozen? ⟨b,4,none⟩=false∧w.frozen? ⟨b,5,none⟩=false:=
 ⟨h.frozen 0,h.frozen 1,h.frozen 2,h.frozen 3,h.frozen 4,h.frozen 5⟩
theorem Blk.five {w:World} {b:Nat} {t:TypeId} {u0 u1 u2 u3 u4:Value} (h:Blk w b #[u0,u1,u2,u3,u4] t) : w.cell? ⟨b,0,none⟩=some u0∧w.cell? ⟨b,1,none⟩=some u1∧w.cell? ⟨b,2,none⟩=some u2∧w.cell? ⟨b,3,none⟩=some u3∧w.cell? ⟨b,4,none⟩=some u4:=
 ⟨h.cell 0 _ rfl,h.cell 1 _ rfl,h.cell 2 _ rfl,h.cell 3 _ rfl,h.cell 4 _ rfl⟩
theorem Blk.seven {w:World} {b:Nat} {t:TypeId} {u0 u1 u2 u3 u4 u5 u6:Value} (h:Blk w b #[u0,u1,u2,u3,u4,u5,u6] t) : w.cell? ⟨b,0,none⟩=some u0∧w.cell? ⟨b,1,none⟩=some u1∧w.cell? ⟨b,2,none⟩=some u2∧w.cell? ⟨b,3,none⟩=some u3∧w.cell? ⟨b,4,none⟩=some u4∧w.cell? ⟨b,5,none⟩=some u5∧w.cell? ⟨b,6,none⟩=some u6:=
 ⟨h.cell 0 _ rfl,h.cell 1 _ rfl,h.cell 2 _ rfl,h.cell 3 _ rfl,h.cell 4 _ rfl,h.cell 5 _ rfl,h.cell 6 _ rfl⟩
theorem Blk.free7 {w:World} {b:Nat} {t:TypeId} {cs:Array Value} (h:Blk w b cs t) : w.frozen? ⟨b,0,none⟩=false∧w.frozen? ⟨b,1,none⟩=false∧w.frozen? ⟨b,2,none⟩=false∧w.frozen? ⟨b,3,none⟩=false∧w.frozen? ⟨b,4,none⟩=false∧w.frozen? ⟨b,5,none⟩=false∧w.frozen? ⟨b,6,none⟩=false:=
 ⟨h.frozen 0,h.frozen 1,h.frozen 2,h.frozen 3,h.frozen 4,h.frozen 5,h.frozen 6⟩
theorem Blk.three {w:World} {b:Nat} {t:TypeId} {u0 u1 u2:Value} (h:Blk w b #[u0,u1,u2] t) : w.cell? ⟨b,0,none⟩=some u0∧w.cell? ⟨b,1,none⟩=some u1∧w.cell? ⟨b,2,none⟩=some u2:=
 ⟨h.cell 0 _ rfl,h.cell 1 _ rfl,h.cell 2 _ rfl⟩
end Go.Mq
