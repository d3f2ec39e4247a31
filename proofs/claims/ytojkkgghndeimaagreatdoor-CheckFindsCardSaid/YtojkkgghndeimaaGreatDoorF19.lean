/- Some texts in one. -/
import Derived.Lib.ItoaLen
import Derived.Laws.BitsAllLaws
import Derived.Test.YtojkkgghndeimaaGreatDoorF14
import Derived.Test.YtojkkgghndeimaaGreatDoorF17
import Derived.Test.YtojkkgghndeimaaGreatDoorF18
namespace Go.Mq.Sym
open Go Go.RowKit Go.Mq Go.Mq.Tree
structure Sy.fit (s:Sy):Prop where
 name : s.name.length≤1000000
 len0 : 0≤s.len
 len1 : s.len≤1000000
 args0 : -1≤s.args
 args1 : s.args≤1000000
def SymsAt (w:World) (F:Nat→Prop) (l:List Sy) (v:Value):Prop:=∃ a c,v = .slice a l.length c∧l.length≤c∧Row w F a (l.flatMap Sy.cells)∧(a=none→c=0)
theorem SymsAt.kept {Z:List Nat} {w w':World} {F:Nat→Prop} {l:List Sy} {v:Value} (h:SymsAt w F l v) (hc:Chg Z w w') (hS : ∀ x∈Z,¬ F x):SymsAt w' F l v:=by
 obtain ⟨a,c,h1,h2,h3,h4⟩:=h; exact ⟨a,c,h1,h2,h3.kept hc hS,h4⟩
theorem SymsAt.mono {w:World} {F G:Nat→Prop} {l:List Sy} {v:Value} (h:SymsAt w F l v) (hF : ∀ x,F x→G x):SymsAt w G l v:=by
 obtain ⟨a,c,h1,h2,h3,h4⟩:=h; exact ⟨a,c,h1,h2,h3.mono hF,h4⟩
theorem sy_cells3 {w:World} {F:Nat→Prop} {a:Option Addr} {l:List Sy} (h:Row w F a (l.flatMap Sy.cells)) {k:Nat} {s:Sy} (hk : l[k]?=some s) :
  ∃ bb off,a=some ⟨bb,off,none⟩∧w.cell? ⟨bb,off + k * 3,none⟩=some (str s.name)∧w.cell? ⟨bb,off + k * 3 + 1,none⟩=some (.int .i64 s.len)∧w.cell? ⟨bb,off + k * 3 + 2,none⟩=some (.int .i64 s.args):=by
 have hkl : k < l.length:=(List.getElem?_eq_some_iff.1 hk).1
 have key : ∀ (l:List Sy) (k:Nat),l[k]?=some s → ∀ i,i < 3→(l.flatMap Sy.cells)[k * 3 + i]?=s.cells[i]?:=by
  intro l
  induction l with
  | nil=>intro k hk; simp at hk
  | cons x r ih=>
   intro k hk i hi
   rw [List.flatMap_cons]
   cases k with
   | zero=>
    simp at hk
    subst hk
    rw [List.getElem?_append_left (by simp [Sy.cells]; omega)]
    simp
   | succ k=>
    rw [List.getElem?_append_right (by simp [Sy.cells]; omega),show (k + 1) * 3 + i - x.cells.length=k * 3 + i by simp [Sy.cells]; omega]
    exact ih k (by simpa using hk) i hi
 obtain ⟨bb,off,rfl,hc⟩:=h.at_ (by
  have h1:=key l k hk 0 (by omega)
  have h2:=(List.getElem?_eq_some_iff.1 (h1.trans (show s.cells[0]?=some (.string (bs s.name)) from rfl))).1
  omega)
 refine ⟨bb,off,rfl,?_,?_,?_⟩
 ·have:=hc (k * 3 + 0) (str s.name) (by rw [key l k hk 0 (by omega)]; rfl); simpa using this
 ·have:=hc (k * 3 + 1) (.int .i64 s.len) (by rw [key l k hk 1 (by omega)]; rfl); rwa [← Nat.add_assoc] at this
 ·have:=hc (k * 3 + 2) (.int .i64 s.args) (by rw [key l k hk 2 (by omega)]; rfl); rwa [← Nat.add_assoc] at this
theorem set3 {w:World} {b:Nat} (v0 v1 v2:Value) {u0 u1 u2:Value} {t:TypeId} (h:Blk w b #[u0,u1,u2] t) : ∃ wF,(((w.setCell ⟨b,0,none⟩ v0).setCell ⟨b,1,none⟩ v1).setCell ⟨b,2,none⟩ v2)=wF∧Chg [b] w wF∧Blk wF b #[v0,v1,v2] t:=
 ⟨_,rfl,((Chg.set1 _ _ _ _).then (Chg.set1 _ _ _ _)).then (Chg.set1 _ _ _ _),by
  have:=((h.set 0 v0).set 1 v1).set 2 v2
  simpa using this⟩
end Go.Mq.Sym
namespace Go.Proofs.YtojkkgghndeimaaGreatDoor
open Go Go.RowKit Go.Mq Go.Mq.Tree Go.Mq.Sym
set_option maxRecDepth 100000
set_option maxHeartbeats 2000000
end Go.Proofs.YtojkkgghndeimaaGreatDoor
namespace Go.Mq.Sym
open Go Go.RowKit Go.Mq Go.Mq.Tree
def findI (l:List Sy) (n:List UInt8):Int:=match findS l n with
 | none=>-1
 | some k=>k
theorem findI_some {l:List Sy} {n:List UInt8} {k:Nat} {s:Sy} (hk : l[k]?=some s) (hs : s.name=n) (hb : ∀ (i:Nat) (x:Sy),i < k→l[i]?=some x→x.name≠n) : findS l n=some k:=by
 have hlt:=(List.getElem?_eq_some_iff.1 hk).1
 have hg:=(List.getElem?_eq_some_iff.1 hk).2
 rw [findS,List.findIdx?_eq_some_iff_getElem]
 refine ⟨hlt,by rw [hg]; simpa using hs,fun i hi=>?_⟩
 have:=hb i l[i] hi (List.getElem?_eq_getElem (by omega))
 simpa using this
theorem findI_none {l:List Sy} {n:List UInt8} (hb : ∀ (i:Nat) (x:Sy),l[i]?=some x→x.name≠n) : findS l n=none:=by
 rw [findS,List.findIdx?_eq_none_iff]
 intro x hx
 obtain ⟨i,hi⟩:=List.getElem?_of_mem hx
 simpa using hb i x hi
theorem findS_lt {l:List Sy} {n:List UInt8} {k:Nat} (h : findS l n=some k) : k < l.length:=by
 rw [findS,List.findIdx?_eq_some_iff_getElem] at h
 exact h.1
end Go.Mq.Sym
namespace Go.Proofs.YtojkkgghndeimaaGreatDoor
open Go Go.RowKit Go.Mq Go.Mq.Tree Go.Mq.Sym
set_option maxRecDepth 100000
set_option maxHeartbeats 2000000
theorem is_any (s:Sy) (n:List UInt8) (b:Nat) (w:World) (hb : w.cell? ⟨b,0,none⟩=some (str n)):Calls Tryz.prog 92 #[.agg #[str s.name,.int .i64 s.len,.int .i64 s.args],ptr b] w (fun e w'=>e = .returned (.bool (s.name == n))∧Chg [] w w'):=by
 have hlt:=lt_of_cell hb
 have hb':=((Chg.refl [] w).alloc (.cells #[str s.name,.int .i64 s.len,.int .i64 s.args] 106)).cellSome hb (by simp)
 go_enter Tryz.func92,Tryz.ntmps92
 go_wp2_with fail
 go_ret
 exact ⟨rfl,(Chg.refl _ _).alloc _⟩
theorem index_any (l:List Sy) (hl : l.length≤1000) (n:List UInt8) (b:Nat) (F:Nat→Prop) (v:Value) (w:World) (h:SymsAt w F l v) (hb : w.cell? ⟨b,0,none⟩=some (str n)) :
  Calls Tryz.prog 91 #[v,.func (.func 92) #[] #[ptr b]] w (fun e w'=>e = .returned (.int .i64 (findI l n))∧Chg [] w w'):=by
 obtain ⟨a,c,rfl,hac,hrow,_⟩:=h
 have HROW:=Lib.hid hrow; have HB:=Lib.hid hb
 clear hrow hb
 go_enter Tryz.func91,Tryz.ntmps91
 go_wp2_with fail
 go_loopw [5,8] (fun _ i wr=>∃ k:Nat,i = .int .i64 k∧k≤l.length∧Chg [] w wr ∧ ∀ (i:Nat) (x:Sy),i < k→l[i]?=some x→x.name≠n) (fun _ i _=>l.length - (intOf i).toNat)
 case atStart=>exact ⟨0,rfl,Nat.zero_le _,Chg.refl _ _,fun i x hi=>by omega⟩
 case round=>
  obtain ⟨k,rfl,hk,hc,hno⟩:=hrel
  have HNO:=Lib.hid hno; have HC:=Lib.hid hc
  clear hno hc
  by_cases hlt : k < l.length
  ·obtain ⟨s,hs⟩ : ∃ s,l[k]?=some s:=⟨l[k],List.getElem?_eq_getElem hlt⟩
   obtain ⟨bb,off,rfl,d0,d1,d2⟩:=sy_cells3 (HROW.out.kept HC.out (by simp)) hs
   have HS:=Lib.hid hs
   have HI:=Lib.hid (is_any s n b wr (HC.out.cellSome HB.out (by simp)))
   clear hs
   cases hq : (s.name == n) with
   | true=>
    rw [hq] at HI
    have HR:=Lib.hid (show findI l n=k by rw [findI,findI_some HS.out (by simpa using hq) HNO.out])
    clear hq
    go_wp2_with fail
    refine HI.out.mono ?_; rintro _ w2 ⟨rfl,hq⟩
    have HQ:=Lib.hid (HC.out.then hq); clear hq
    go_wp2_with fail
    go_ret
    exact ⟨by rw [HR.out]; rfl,HQ.out⟩
   | false=>
    rw [hq] at HI
    have HN:=Lib.hid (show s.name≠n by simpa using hq)
    clear hq
    go_wp2_with fail
    refine HI.out.mono ?_; rintro _ w2 ⟨rfl,hq⟩
    have HQ:=Lib.hid (HC.out.then hq); clear hq
    go_wp2_with fail
    refine ⟨⟨k + 1,by go_num,by omega,HQ.out,fun i x hi hx=>?_⟩,by simp [intOf]; omega⟩
    by_cases he : i < k
    ·exact HNO.out i x he hx
    ·have : i=k:=by omega
     subst this
     rw [HS.out] at hx
     cases hx
     exact HN.out
  ·have HR:=Lib.hid (show findI l n = -1 by rw [findI,findI_none fun i x hx=>HNO.out i x (by have:=(List.getElem?_eq_some_iff.1 hx).1; omega) hx])
   go_wp2_with fail
   go_ret
   exact ⟨by rw [HR.out]; rfl,HC.out⟩
theorem find_any (l:List Sy) (hl : l.length≤1000) (n:List UInt8) (F:Nat→Prop) (v:Value) (w:World) (h:SymsAt w F l v) :
  Calls Tryz.prog 35 #[v,str n] w (fun e w'=>e = .returned (.int .i64 (findI l n))∧Chg [] w w'):=by
 have hmf : ∀ (fn:Fn) (first cap:Array Value) (w:World),(Instr.makeFunc fn first cap).run Tryz.prog w = .ok (.func fn first cap) w:=fun _ _ _ _=>rfl
 have hc:Chg [] w (w.alloc (.cells #[str n] 9)):=(Chg.refl _ _).alloc _
 have HI:=Lib.hid (index_any l hl n w.heap.size F v (w.alloc (.cells #[str n] 9)) (h.kept hc (by simp)) ((Blk.new w #[str n] 9).cell 0 _ rfl))
 have HC:=Lib.hid hc
 clear h hc
 go_enter Tryz.func35,Tryz.ntmps35
 go_wp2_with fail
 refine HI.out.mono ?_; rintro _ w2 ⟨rfl,hq⟩
 have HQ:=Lib.hid (HC.out.then hq); clear hq
 go_wp2_with fail
 go_ret
 exact ⟨rfl,HQ.out⟩
end Go.Proofs.YtojkkgghndeimaaGreatDoor
namespace Go.Mq.Sym
open Go Go.RowKit Go.Mq Go.Mq.Tree
def PrL (x:Proc) (cs:List Value):Prop:=∃ (pos:Int) (a1:Option Addr) (k1:Nat) (a2:Option Addr) (n2 k2:Nat) (a3:Option Addr) (n3 k3:Nat),cs=[str x.name,.int .i64 pos,.bool x.seen,.slice a1 x.params.length k1,.slice a2 n2 k2,.slice a3 n3 k3]
def PrsL:List Proc→List Value→Prop
 | [],cs=>cs=[]
 | x :: r,cs=>∃ c1 c2,cs=c1 ++ c2∧PrL x c1∧PrsL r c2
def ProcsL (w:World) (F:Nat→Prop) (l:List Proc) (v:Value):Prop:=∃ a c cs,v = .slice a l.length c∧l.length≤c∧Row w F a cs∧PrsL l cs
theorem ProcsL.kept {Z:List Nat} {w w':World} {F:Nat→Prop} {l:List Proc} {v:Value} (h:ProcsL w F l v) (hc:Chg Z w w') (hS : ∀ x∈Z,¬ F x):ProcsL w' F l v:=by
 obtain ⟨a,c,cs,h1,h2,h3,h4⟩:=h; exact ⟨a,c,cs,h1,h2,h3.kept hc hS,h4⟩
theorem prsL_of {w:World} {F:Nat→Prop} : ∀ {l:List Proc} {cs:List Value},PrsAt w F l cs→PrsL l cs
 | [],_,h=>h
 | x :: r,_,h=>by
  obtain ⟨c1,c2,rfl,⟨_,_,_,rfl,⟨a1,k1,rfl,_⟩,⟨a2,k2,rfl,_⟩,⟨a3,k3,_,rfl,_⟩⟩,h2⟩:=h
  exact ⟨_,_,rfl,⟨x.pos,a1,k1,a2,_,k2,a3,_,k3,rfl⟩,prsL_of h2⟩
theorem procsL_of {w:World} {F:Nat→Prop} {l:List Proc} {v:Value} (h:ProcsAt w F l v):ProcsL w F l v:=by
 obtain ⟨a,c,cs,h1,h2,h3,h4⟩:=h; exact ⟨a,c,cs,h1,h2,h3,prsL_of h4⟩
theorem set4S {w:World} {b:Nat} (v0 v1 v2 v3:Value) {u0 u1 u2 u3:Value} {t:TypeId} (h:Blk w b #[u0,u1,u2,u3] t) : ∃ wF,((((w.setCell ⟨b,0,none⟩ v0).setCell ⟨b,1,none⟩ v1).setCell ⟨b,2,none⟩ v2).setCell ⟨b,3,none⟩ v3)=wF∧Chg [b] w wF∧Blk wF b #[v0,v1,v2,v3] t:=
 ⟨_,rfl,(((Chg.set1 _ _ _ _).then (Chg.set1 _ _ _ _)).then (Chg.set1 _ _ _ _)).then (Chg.set1 _ _ _ _),by
  have:=(((h.set 0 v0).set 1 v1).set 2 v2).set 3 v3
  simpa using this⟩
theorem set6S {w:World} {b:Nat} (v0 v1 v2 v3 v4 v5:Value) {u0 u1 u2 u3 u4 u5:Value} {t:TypeId} (h:Blk w b #[u0,u1,u2,u3,u4,u5] t) : ∃ wF,((((((w.setCell ⟨b,0,none⟩ v0).setCell ⟨b,1,none⟩ v1).setCell ⟨b,2,none⟩ v2).setCell ⟨b,3,none⟩ v3).setCell ⟨b,4,none⟩ v4).setCell ⟨b,5,none⟩ v5)=wF∧Chg [b] w wF∧Blk wF b #[v0,v1,v2,v3,v4,v5] t:=
 ⟨_,rfl,(((((Chg.set1 _ _ _ _).then (Chg.set1 _ _ _ _)).then (Chg.set1 _ _ _ _)).then (Chg.set1 _ _ _ _)).then (Chg.set1 _ _ _ _)).then (Chg.set1 _ _ _ _),by
  have:=(((((h.set 0 v0).set 1 v1).set 2 v2).set 3 v3).set 4 v4).set 5 v5
  simpa using this⟩
theorem cells4S {w:World} {F:Nat→Prop} {a:Option Addr} {cs1 cs':List Value} {c0 c1 c2 c3:Value} {k:Nat} (h:Row w F a (cs1 ++ c0 :: c1 :: c2 :: c3 :: cs')) (hl : cs1.length=k * 4) :
  ∃ bb off,a=some ⟨bb,off,none⟩∧w.cell? ⟨bb,off + k * 4,none⟩=some c0∧w.cell? ⟨bb,off + k * 4 + 1,none⟩=some c1∧w.cell? ⟨bb,off + k * 4 + 2,none⟩=some c2∧w.cell? ⟨bb,off + k * 4 + 3,none⟩=some c3:=by
 obtain ⟨bb,off,rfl,hc⟩:=h.at_ (by simp only [List.length_append,List.length_cons]; omega)
 have g : ∀ i v,(c0 :: c1 :: c2 :: c3 :: cs')[i]?=some v→w.cell? ⟨bb,off + k * 4 + i,none⟩=some v:=fun i v hv=>by
  rw [Nat.add_assoc]
  refine hc (k * 4 + i) v ?_
  rw [← hl,List.getElem?_append_right (by omega),Nat.add_sub_cancel_left]
  exact hv
 exact ⟨bb,off,rfl,by simpa using g 0 _ rfl,g 1 _ rfl,g 2 _ rfl,g 3 _ rfl⟩
theorem cells6S {w:World} {F:Nat→Prop} {a:Option Addr} {cs1 cs':List Value} {c0 c1 c2 c3 c4 c5:Value} {k:Nat} (h:Row w F a (cs1 ++ c0 :: c1 :: c2 :: c3 :: c4 :: c5 :: cs')) (hl : cs1.length=k * 6) :
  ∃ bb off,a=some ⟨bb,off,none⟩∧w.cell? ⟨bb,off + k * 6,none⟩=some c0∧w.cell? ⟨bb,off + k * 6 + 1,none⟩=some c1∧w.cell? ⟨bb,off + k * 6 + 2,none⟩=some c2∧w.cell? ⟨bb,off + k * 6 + 3,none⟩=some c3∧w.cell? ⟨bb,off + k * 6 + 4,none⟩=some c4∧w.cell? ⟨bb,off + k * 6 + 5,none⟩=some c5:=by
 obtain ⟨bb,off,rfl,hc⟩:=h.at_ (by simp only [List.length_append,List.length_cons]; omega)
 have g : ∀ i v,(c0 :: c1 :: c2 :: c3 :: c4 :: c5 :: cs')[i]?=some v→w.cell? ⟨bb,off + k * 6 + i,none⟩=some v:=fun i v hv=>by
  rw [Nat.add_assoc]
  refine hc (k * 6 + i) v ?_
  rw [← hl,List.getElem?_append_right (by omega),Nat.add_sub_cancel_left]
  exact hv
 exact ⟨bb,off,rfl,by simpa using g 0 _ rfl,g 1 _ rfl,g 2 _ rfl,g 3 _ rfl,g 4 _ rfl,g 5 _ rfl⟩
theorem SyBlk.row {w:World} {g:Nat} {l:List Sy} {F:Nat→Prop} (h:SyBlk w g l) (hF:F g):Row w F (some ⟨g,0,none⟩) (l.flatMap Sy.cells):=by
 refine ⟨fun _=>⟨g,0,rfl,fun i x hx=>?_⟩,fun _ p hp=>by cases hp; exact hF⟩
 have key : ∀ (l:List Sy) (i:Nat) (x:Value),(l.flatMap Sy.cells)[i]?=some x → ∃ k s,l[k]?=some s ∧ ∃ j,j < 3∧i=k * 3 + j∧s.cells[j]?=some x:=by
  intro l
  induction l with
  | nil=>intro i x hx; simp at hx
  | cons y r ih=>
   intro i x hx
   rw [List.flatMap_cons] at hx
   by_cases hi : i < 3
   ·rw [List.getElem?_append_left (by simp [Sy.cells]; omega)] at hx
    exact ⟨0,y,rfl,i,hi,by omega,hx⟩
   ·rw [List.getElem?_append_right (by simp [Sy.cells]; omega)] at hx
    obtain ⟨k,s,hk,j,hj,he,hs⟩:=ih _ x hx
    exact ⟨k + 1,s,by simpa using hk,j,hj,by simp [Sy.cells] at he; omega,hs⟩
 obtain ⟨k,s,hk,j,hj,rfl,hs⟩:=key l i x hx
 obtain ⟨c0,c1,c2⟩:=h.cells hk
 rw [Nat.zero_add]
 match j,hj with
 | 0,_=>simp [Sy.cells] at hs; subst hs; exact c0
 | 1,_=>simp [Sy.cells] at hs; subst hs; exact c1
 | 2,_=>simp [Sy.cells] at hs; subst hs; exact c2
theorem seen_var {g:Glob} {r:List Glob} {L:List Sy} {T:List Sy} (h:L ++ ((g :: r).filter (·.seen)).map varSy=T) : (if g.seen then L ++ [varSy g] else L) ++ (r.filter (·.seen)).map varSy=T:=by
 rw [← h,List.filter_cons]
 split <;> simp
theorem seen_proc {g:Proc} {r:List Proc} {L:List Sy} {T:List Sy} (h:L ++ ((g :: r).filter (·.seen)).map procSy=T) : (if g.seen then L ++ [procSy g] else L) ++ (r.filter (·.seen)).map procSy=T:=by
 rw [← h,List.filter_cons]
 split <;> simp
end Go.Mq.Sym
namespace Go.Proofs.YtojkkgghndeimaaGreatDoor
open Go Go.RowKit Go.Mq Go.Mq.Tree Go.Mq.Sym
set_option maxRecDepth 100000
set_option maxHeartbeats 4000000
theorem infoSym : (Tryz.prog.info? 106).map (fun i=>(i.zero,i.size,i.bytes))=some (some (.agg #[.string ⟨#[]⟩,.int .i64 0,.int .i64 0]),3,32):=by kernel_rfl
end Go.Proofs.YtojkkgghndeimaaGreatDoor
namespace Go.Mq.Sym
open Go Go.RowKit Go.Mq Go.Mq.Tree
theorem seenL_len {vs:List Glob} {ps:List Proc} (hv : vs.length≤10) (hp : ps.length≤10) : (insSort (seenL vs ps)).length≤20:=by
 rw [insSort_length,seenL,List.length_append,List.length_map,List.length_map]
 have h1:=List.length_filter_le (fun g:Glob=>g.seen) vs
 have h2:=List.length_filter_le (fun g:Proc=>g.seen) ps
 omega
end Go.Mq.Sym
namespace Go.Mq.Sym
open Go Go.RowKit Go.Mq Go.Mq.Tree
end Go.Mq.Sym
