/- Some texts in one. -/
import Derived.Lib.Bytealg
import Derived.Test.YtojkkgghndeimaaGreatDoorO1
import Derived.Test.YtojkkgghndeimaaGreatDoorO6
import Derived.Test.YtojkkgghndeimaaGreatDoorO8
namespace Go.Mq.Sym
open Go Go.RowKit Go.Mq Go.Mq.Tree
structure Sy where
 name:List UInt8
 len:Int
 args:Int
def Sy.none:Sy:=⟨[],0,0⟩
def Sy.cells (s:Sy):List Value:=[.string (bs s.name),.int .i64 s.len,.int .i64 s.args]
def ltS (x y:Sy):Bool:=decide (Lib.compareBytes x.name y.name < 0)
def sinkS:Nat→List Sy→List Sy
 | 0,l=>l
 | k + 1,l=>if ltS (l.getD (k + 1) Sy.none) (l.getD k Sy.none) then sinkS k ((l.set (k + 1) (l.getD k Sy.none)).set k (l.getD (k + 1) Sy.none)) else l
def sortFrom (i n:Nat) (l:List Sy):List Sy:=(List.range' i (n - i)).foldl (fun l i=>sinkS i l) l
def insSort (l:List Sy):List Sy:=sortFrom 1 l.length l
def varSy (g:Glob):Sy:=⟨g.name,g.len,-1⟩
def procSy (p:Proc):Sy:=⟨p.name,0,p.params.length⟩
def seenL (vs:List Glob) (ps:List Proc):List Sy:=(vs.filter (·.seen)).map varSy ++ (ps.filter (·.seen)).map procSy
def ofM (m:Mod):List Sy:=insSort (seenL m.vars m.procs)
def lineT (s:Sy):List UInt8:=if 0≤s.args then [112,114,111,99,32] ++ s.name ++ [32] ++ Lib.itoa s.args ++ [10] else if 0 < s.len then [97,114,114,97,121,32] ++ s.name ++ [32] ++ Lib.itoa s.len ++ [10] else [105,110,116,32] ++ s.name ++ [10]
def findS (l:List Sy) (n:List UInt8):Option Nat:=l.findIdx? fun s=>s.name == n
def needT (l:List Sy) (n:List UInt8):List UInt8:=match findS l n with
 | none=>[110,111,110,101,32] ++ n ++ [10]
 | some k=>lineT (l.getD k Sy.none)
def needsT (l:List Sy) (names:List (List UInt8)):List UInt8:=names.flatMap (needT l)
theorem sinkS_length : ∀ (k:Nat) (l:List Sy),(sinkS k l).length=l.length
 | 0,_=>rfl
 | k + 1,l=>by
  rw [sinkS]
  split
  ·rw [sinkS_length k]; simp
  ·rfl
theorem sortFrom_step {i n:Nat} (h : i < n) (l:List Sy) : sortFrom i n l=sortFrom (i + 1) n (sinkS i l):=by
 rw [sortFrom,sortFrom,show n - i=(n - (i + 1)) + 1 by omega,List.range'_succ,List.foldl_cons]
theorem sortFrom_end {i n:Nat} (h : n≤i) (l:List Sy) : sortFrom i n l=l:=by
 rw [sortFrom,show n - i=0 by omega]; rfl
theorem sortFrom_length : ∀ (d i n:Nat) (l:List Sy),n - i≤d→(sortFrom i n l).length=l.length
 | 0,i,n,l,h=>by rw [sortFrom_end (by omega)]
 | d + 1,i,n,l,h=>by
  by_cases hi : i < n
  ·rw [sortFrom_step hi,sortFrom_length d (i + 1) n _ (by omega),sinkS_length]
  ·rw [sortFrom_end (by omega)]
theorem insSort_length (l:List Sy) : (insSort l).length=l.length:=sortFrom_length _ 1 l.length l (Nat.le_refl _)
end Go.Mq.Sym
namespace Go.Mq.Sym
open Go Go.RowKit Go.Mq Go.Mq.Tree
def SyBlk (w:World) (g:Nat) (l:List Sy):Prop:=∃ cur,Blk w g cur 106∧l.length * 3≤cur.size ∧ ∀ k s,l[k]?=some s→cur[k * 3]?=some (str s.name)∧cur[k * 3 + 1]?=some (.int .i64 s.len)∧cur[k * 3 + 2]?=some (.int .i64 s.args)
theorem SyBlk.kept {S:List Nat} {w w':World} {g:Nat} {l:List Sy} (h:SyBlk w g l) (hc:Chg S w w') (hn : g∉S):SyBlk w' g l:=by
 obtain ⟨cur,hb,hs,hc'⟩:=h
 exact ⟨cur,hb.kept hc hn,hs,hc'⟩
theorem SyBlk.cells {w:World} {g:Nat} {l:List Sy} (h:SyBlk w g l) {k:Nat} {s:Sy} (hk : l[k]?=some s) :
  w.cell? ⟨g,k * 3,none⟩=some (str s.name)∧w.cell? ⟨g,k * 3 + 1,none⟩=some (.int .i64 s.len)∧w.cell? ⟨g,k * 3 + 2,none⟩=some (.int .i64 s.args):=by
 obtain ⟨cur,hb,_,hc⟩:=h
 obtain ⟨h0,h1,h2⟩:=hc k s hk
 exact ⟨hb.cell _ _ h0,hb.cell _ _ h1,hb.cell _ _ h2⟩
theorem SyBlk.frozen {w:World} {g:Nat} {l:List Sy} (h:SyBlk w g l) (i:Nat) : w.frozen? ⟨g,i,none⟩=false:=by
 obtain ⟨cur,hb,_,_⟩:=h
 exact hb.frozen i
theorem SyBlk.lt {w:World} {g:Nat} {l:List Sy} (h:SyBlk w g l) : g < w.heap.size:=by
 obtain ⟨cur,hb,_,_⟩:=h
 exact hb.lt
theorem SyBlk.put {w:World} {g:Nat} {l:List Sy} (h:SyBlk w g l) (k:Nat) (hk : k < l.length) (s:Sy) :
  SyBlk (((w.setCell ⟨g,k * 3,none⟩ (str s.name)).setCell ⟨g,k * 3 + 1,none⟩ (.int .i64 s.len)).setCell ⟨g,k * 3 + 2,none⟩ (.int .i64 s.args)) g (l.set k s):=by
 obtain ⟨cur,hb,hs,hc⟩:=h
 refine ⟨_,((hb.set _ _).set _ _).set _ _,by simpa using hs,fun i x hi=>?_⟩
 by_cases he : i=k
 ·subst he
  rw [List.getElem?_set_self hk] at hi
  cases hi
  have h0 : i * 3 < cur.size:=by omega
  have h1 : i * 3 + 1 < cur.size:=by omega
  have h2 : i * 3 + 2 < cur.size:=by omega
  refine ⟨?_,?_,?_⟩ <;> simp [h0,h1,h2]
 ·rw [List.getElem?_set_ne (Ne.symm he)] at hi
  obtain ⟨c0,c1,c2⟩:=hc i x hi
  refine ⟨?_,?_,?_⟩
  ·rw [Array.getElem?_setIfInBounds_ne (by omega),Array.getElem?_setIfInBounds_ne (by omega),Array.getElem?_setIfInBounds_ne (by omega)]; exact c0
  ·rw [Array.getElem?_setIfInBounds_ne (by omega),Array.getElem?_setIfInBounds_ne (by omega),Array.getElem?_setIfInBounds_ne (by omega)]; exact c1
  ·rw [Array.getElem?_setIfInBounds_ne (by omega),Array.getElem?_setIfInBounds_ne (by omega),Array.getElem?_setIfInBounds_ne (by omega)]; exact c2
theorem put_chg (w:World) (g a b c:Nat) (x y z:Value):Chg [g] w (((w.setCell ⟨g,a,none⟩ x).setCell ⟨g,b,none⟩ y).setCell ⟨g,c,none⟩ z):=
 ((Chg.set1 _ _ _ _).then (Chg.set1 _ _ _ _)).then (Chg.set1 _ _ _ _)
theorem SyBlk.swap {w:World} {g:Nat} {l:List Sy} (h:SyBlk w g l) (j k:Nat) (hj : j < l.length) (hk : k < l.length) (y x:Sy) :
  SyBlk ((((((w.setCell ⟨g,j * 3,none⟩ (str y.name)).setCell ⟨g,j * 3 + 1,none⟩ (.int .i64 y.len)).setCell ⟨g,j * 3 + 2,none⟩ (.int .i64 y.args)).setCell ⟨g,k * 3,none⟩ (str x.name)).setCell ⟨g,k * 3 + 1,none⟩ (.int .i64 x.len)).setCell ⟨g,k * 3 + 2,none⟩ (.int .i64 x.args)) g ((l.set j y).set k x) ∧
  Chg [g] w ((((((w.setCell ⟨g,j * 3,none⟩ (str y.name)).setCell ⟨g,j * 3 + 1,none⟩ (.int .i64 y.len)).setCell ⟨g,j * 3 + 2,none⟩ (.int .i64 y.args)).setCell ⟨g,k * 3,none⟩ (str x.name)).setCell ⟨g,k * 3 + 1,none⟩ (.int .i64 x.len)).setCell ⟨g,k * 3 + 2,none⟩ (.int .i64 x.args)):=
 ⟨(h.put j hj y).put k (by simpa using hk) x,(put_chg _ _ _ _ _ _ _ _).then (put_chg _ _ _ _ _ _ _ _)⟩
end Go.Mq.Sym
namespace Go.Proofs.YtojkkgghndeimaaGreatDoor
open Go Go.RowKit Go.Mq Go.Mq.Tree Go.Mq.Sym
set_option maxRecDepth 100000
set_option maxHeartbeats 2000000
theorem cmp_any (x y:Sy) (w:World):Calls Tryz.prog 82 #[.agg #[str x.name,.int .i64 x.len,.int .i64 x.args],.agg #[str y.name,.int .i64 y.len,.int .i64 y.args]] w (fun e w'=>e = .returned (.int .i64 (Lib.compareBytes x.name y.name))∧Chg [] w w'):=by
 have HC:=Lib.hid (fun w'=>Any.strings_Compare Tryz.lays106 (bs x.name) (bs y.name) w')
 go_enter Tryz.func82,Tryz.ntmps82
 go_wp2_with fail
 refine (HC.out _).mono ?_; rintro _ _ ⟨rfl,rfl⟩
 go_wp2_with fail
 go_ret
 exact ⟨rfl,((Chg.refl _ _).alloc _).alloc _⟩
theorem cmp_vals (x y:Sy) : -1≤Lib.compareBytes x.name y.name∧Lib.compareBytes x.name y.name≤1:=by
 have key : ∀ a b:List UInt8,-1≤Lib.compareBytes a b∧Lib.compareBytes a b≤1:=by
  intro a
  induction a with
  | nil=>intro b; cases b <;> simp [Lib.compareBytes]
  | cons c a ih=>
   intro b
   cases b with
   | nil=>simp [Lib.compareBytes]
   | cons d b=>
    simp only [Lib.compareBytes]
    split
    ·omega
    ·split
     ·omega
     ·exact ih b
 exact key x.name y.name
theorem insert_any (g:Nat) (l:List Sy) (c:Nat) (hl : l.length≤20) (w:World) (h:SyBlk w g l) :
  Calls Tryz.prog 173 #[.slice (some ⟨g,0,none⟩) l.length c,.int .i64 0,.int .i64 l.length,.func (.func 82) #[] #[]] w (fun e w'=>e = .returned (.tuple #[])∧SyBlk w' g (insSort l)∧Chg [g] w w'):=by
 have H:=Lib.hid h
 clear h
 go_enter Tryz.func173,Tryz.ntmps173
 go_wp2_with fail
 go_loopw [8,9] (fun i _ wr=>∃ (n:Nat) (l1:List Sy),i = .int .i64 n∧1≤n∧n≤21∧SyBlk wr g l1∧l1.length=l.length∧sortFrom n l.length l1=insSort l∧Chg [g] w wr) (fun i _ _=>21 - (intOf i).toNat)
 case atStart=>exact ⟨1,l,rfl,by omega,by omega,H.out,rfl,rfl,Chg.refl _ _⟩
 case round=>
  obtain ⟨n,l1,rfl,hn1,hn2,hb,hll,hs,hc⟩:=hrel
  have HB:=Lib.hid hb; have HS:=Lib.hid hs; have HC:=Lib.hid hc
  clear hb hs hc
  by_cases hlt : n < l.length
  ·go_wp2_with fail
   go_loopw [9] (fun j ws=>∃ (k:Nat) (l2:List Sy),j = .int .i64 k∧k≤n∧SyBlk ws g l2∧l2.length=l.length∧sinkS k l2=sinkS n l1∧Chg [g] w ws) (fun j _=>(intOf j).toNat)
   case atStart=>exact ⟨n,l1,rfl,Nat.le_refl _,HB.out,hll,rfl,HC.out⟩
   case round=>
    obtain ⟨k,l2,rfl,hkn,hb,hl2,hs,hc⟩:=hrel
    have HB2:=Lib.hid hb; have HS2:=Lib.hid hs; have HC2:=Lib.hid hc
    clear hb hs hc
    by_cases hk0 : 0 < k
    ·obtain ⟨k,rfl⟩ : ∃ k',k=k' + 1:=⟨k - 1,by omega⟩
     obtain ⟨x,hx⟩ : ∃ x,l2[k + 1]?=some x:=⟨l2[k + 1]'(by omega),List.getElem?_eq_getElem (by omega)⟩
     obtain ⟨y,hy⟩ : ∃ y,l2[k]?=some y:=⟨l2[k]'(by omega),List.getElem?_eq_getElem (by omega)⟩
     obtain ⟨x0,x1,x2⟩:=HB2.out.cells hx
     obtain ⟨y0,y1,y2⟩:=HB2.out.cells hy
     have HX:=Lib.hid hx; have HY:=Lib.hid hy
     have HZ:=Lib.hid (Zone.of (X:=[]) (w0:=wr.drew) (off:=k * 3) (b:=g) y0 (by simp))
     have HLT:=Lib.hid (show g < wr.drew.heap.size from HB2.out.lt)
     clear hx hy
     go_wp2_with fail
     refine wp_region_C [] rfl (by kernel_rfl) ?_
     have hS:Chg [] wr.drew wr.drew:=Chg.refl _ _
     repeat ((with_reducible refine gX ?_); (first | refine wpX_nil ?_ | refine sK ?_ | refine sM fun _ _=>?_ | refine sL fun _ _=>?_ | refine sE fun _ _=>?_); go_wp2_with fail)
     have hcv:=cmp_vals x y
     have hCM:=cmp_any x y wr.drew
     have HLTS:=Lib.hid (show ltS x y=decide (Lib.compareBytes x.name y.name < 0) from rfl)
     obtain ⟨z,hz⟩ : ∃ z,z=Lib.compareBytes x.name y.name:=⟨_,rfl⟩
     rw [← hz] at hCM hcv HLTS
     clear hz
     refine hCM.mono ?_; rintro _ wk ⟨rfl,hw⟩
     have hS:=hS.then hw
     have hb3:=(HB2.out.kept (Chg.refl [] _).drew (by simp)).kept hw (by simp)
     have HB3:=Lib.hid hb3
     have HC3:=Lib.hid ((HC2.out.drew).then hw.weak)
     obtain ⟨x0,x1,x2⟩:=hb3.cells HX.out
     obtain ⟨y0,y1,y2⟩:=hb3.cells HY.out
     have f0:=hb3.frozen (k * 3); have f1:=hb3.frozen (k * 3 + 1); have f2:=hb3.frozen (k * 3 + 2)
     have f3:=hb3.frozen ((k + 1) * 3); have f4:=hb3.frozen ((k + 1) * 3 + 1); have f5:=hb3.frozen ((k + 1) * 3 + 2)
     clear hw hb3 hCM
     by_cases hlz : z < 0
     ·go_wp2_with fail
      refine And.intro hS ?_
      repeat ((with_reducible refine gX ?_); (first | refine wpX_nil ?_ | refine sK ?_ | refine sM fun _ _=>?_ | refine sL fun _ _=>?_ | refine sE fun _ _=>?_); go_wp2_with fail)
      clear hS
      go_region
      obtain ⟨hput,hpc⟩:=HB3.out.swap (k + 1) k (by omega) (by omega) y x
      have HPUT:=Lib.hid (hput.kept (Chg.refl [] _).drew (by simp))
      have HCP:=Lib.hid (HC3.out.then hpc).drew
      have HSK:=Lib.hid (show sinkS (k + 1) l2=sinkS k ((l2.set (k + 1) y).set k x) by
       have e1 : l2.getD (k + 1) Sy.none=x:=by rw [List.getD_eq_getElem?_getD,HX.out]; rfl
       have e2 : l2.getD k Sy.none=y:=by rw [List.getD_eq_getElem?_getD,HY.out]; rfl
       rw [sinkS,e1,e2,HLTS.out,if_pos (by simpa using hlz)])
      clear hput hpc x0 x1 x2 y0 y1 y2 f0 f1 f2 f3 f4 f5
      go_wp2_with fail
      exact ⟨⟨k,(l2.set (k + 1) y).set k x,by go_num,by omega,HPUT.out,by simp; omega,by rw [← HSK.out,HS2.out],HCP.out⟩,by simp [intOf]⟩
     ·go_wp2_with fail
      refine And.intro hS ?_
      repeat ((with_reducible refine gX ?_); (first | refine wpX_nil ?_ | refine sK ?_ | refine sM fun _ _=>?_ | refine sL fun _ _=>?_ | refine sE fun _ _=>?_); go_wp2_with fail)
      have HSK:=Lib.hid (show sinkS (k + 1) l2=l2 by
       have e1 : l2.getD (k + 1) Sy.none=x:=by rw [List.getD_eq_getElem?_getD,HX.out]; rfl
       have e2 : l2.getD k Sy.none=y:=by rw [List.getD_eq_getElem?_getD,HY.out]; rfl
       rw [sinkS,e1,e2,HLTS.out,if_neg (by simp; omega)])
      refine ⟨⟨n + 1,l2,by go_num,by omega,by omega,HB3.out,hl2,?_,HC3.out⟩,by simp [intOf]; omega⟩
      rw [← HSK.out,HS2.out,← sortFrom_step hlt,HS.out]
    ·have hk00 : k=0:=by omega
     subst hk00
     go_wp2_with fail
     refine wp_region_C [] rfl (by kernel_rfl) ?_
     have hS:Chg [] wr.drew wr.drew:=Chg.refl _ _
     repeat ((with_reducible refine gX ?_); (first | refine wpX_nil ?_ | refine sK ?_ | refine sM fun _ _=>?_ | refine sL fun _ _=>?_ | refine sE fun _ _=>?_); go_wp2_with fail)
     have HBD:=Lib.hid (HB2.out.kept (Chg.refl [] _).drew (by simp))
     refine ⟨⟨n + 1,l2,by go_num,by omega,by omega,HBD.out,hl2,?_,HC2.out.drew⟩,by simp [intOf]; omega⟩
     have e:=HS2.out
     rw [sinkS] at e
     rw [e,← sortFrom_step hlt,HS.out]
  ·go_wp2_with fail
   refine bodyPost_end (results_none rfl _ _ _) rfl ⟨rfl,?_,HC.out⟩
   have e:=HS.out
   rw [sortFrom_end (by omega)] at e
   rw [← e]
   exact HB.out
end Go.Proofs.YtojkkgghndeimaaGreatDoor
namespace Go.Mq.Sym
open Go Go.RowKit Go.Mq Go.Mq.Tree
theorem SyBlk.of_owns {w:World} {v:Value} {l:List Sy} (h : w.ownsRow 0 106 3 v l.length (l.flatMap Sy.cells)) : (v = .slice none 0 0∧l=[]) ∨ ∃ g c,v = .slice (some ⟨g,0,none⟩) l.length c∧l.length≤c∧SyBlk w g l:=by
 rcases h.2 with ⟨rfl,h0⟩ | ⟨g,cap,cur,rfl,_,hg,hnc,_,hcs,htake⟩
 ·exact .inl ⟨rfl,List.eq_nil_of_length_eq_zero h0⟩
 ·refine .inr ⟨g,cap,rfl,hnc,cur,hg,by rw [hcs]; omega,fun k s hk=>?_⟩
  have hkl : k < l.length:=(List.getElem?_eq_some_iff.1 hk).1
  have key : ∀ i,i < 3→cur[k * 3 + i]?=s.cells[i]?:=fun i hi=>by
   have h1 : (l.flatMap Sy.cells)[k * 3 + i]?=s.cells[i]?:=by
    clear htake hcs hnc hg h
    induction l generalizing k with
    | nil=>simp at hkl
    | cons x r ih=>
     rw [List.flatMap_cons]
     cases k with
     | zero=>
      simp at hk
      subst hk
      rw [List.getElem?_append_left (by simp [Sy.cells]; omega)]
      simp
     | succ k=>
      rw [List.getElem?_append_right (by simp [Sy.cells]; omega),show (k + 1) * 3 + i - x.cells.length=k * 3 + i by simp [Sy.cells]; omega]
      exact ih k (by simpa using hk) (by simpa using hkl)
   rw [← htake,List.getElem?_take] at h1
   rw [if_pos (by omega)] at h1
   rw [← h1]
   simp
  exact ⟨key 0 (by omega),key 1 (by omega),key 2 (by omega)⟩
end Go.Mq.Sym
namespace Go.Proofs.YtojkkgghndeimaaGreatDoor
open Go Go.RowKit Go.Mq Go.Mq.Tree Go.Mq.Sym
set_option maxRecDepth 100000
set_option maxHeartbeats 2000000
theorem insert_none (a:Option Addr) (n m c:Nat) (hm : m≤20) (w:World):Calls Tryz.prog 173 #[.slice a n c,.int .i64 m,.int .i64 m,.func (.func 82) #[] #[]] w (fun e w'=>e = .returned (.tuple #[])∧w'=w):=by
 go_enter Tryz.func173,Tryz.ntmps173
 go_wp2_with fail
 go_loopw [8,9] (fun i _ wr=>i = .int .i64 (m + 1)∧w=wr) (fun _ _ _=>0)
 case atStart=>exact ⟨rfl,rfl⟩
 case round=>
  obtain ⟨rfl,rfl⟩:=hrel
  go_wp2_with fail
  exact bodyPost_end (results_none rfl _ _ _) rfl ⟨rfl,rfl⟩
theorem stable_any (g:Nat) (l:List Sy) (c:Nat) (hl : l.length≤20) (w:World) (h:SyBlk w g l) :
  Calls Tryz.prog 131 #[.slice (some ⟨g,0,none⟩) l.length c,.int .i64 l.length,.func (.func 82) #[] #[]] w (fun e w'=>e = .returned (.tuple #[])∧SyBlk w' g (insSort l)∧Chg [g] w w'):=by
 have HI:=Lib.hid (insert_any g l c hl w h)
 clear h
 by_cases h20 : l.length=20
 ·have HN:=Lib.hid (fun w'=>insert_none (some ⟨g,0,none⟩) l.length l.length c hl w')
  rw [h20] at HI HN ⊢
  change Calls _ _ #[.slice (some ⟨g,0,none⟩) 20 c,.int .i64 (20:Int),_] _ _
  go_enter Tryz.func131,Tryz.ntmps131
  go_wp2_with fail
  go_loopw [7,8] (fun a b wr=>∃ q m:Nat,q≤20∧a = .int .i64 q∧b = .int .i64 m∧m=q + 20∧(q=0∨q=20)∧(q=0→w=wr)∧(q=20→SyBlk wr g (insSort l)∧Chg [g] w wr)) (fun _ b _=>40 - (intOf b).toNat)
  case atStart=>exact ⟨0,20,by omega,rfl,rfl,rfl,.inl rfl,fun _=>rfl,fun h=>by omega⟩
  case round=>
   obtain ⟨q,m,_,rfl,rfl,rfl,hq,hq0,hq1⟩:=hrel
   rcases hq with rfl | rfl
   ·have hw0:=hq0 rfl
    subst hw0
    clear hq0 hq1
    go_wp2_with fail
    refine HI.out.mono ?_; rintro _ w1 ⟨rfl,hb,hc⟩
    have HB:=Lib.hid hb; have HC:=Lib.hid hc
    clear hb hc
    go_wp2_with fail
    exact ⟨⟨20,40,by omega,by go_num,by go_num,rfl,.inr rfl,fun h=>by omega,fun _=>⟨HB.out,HC.out⟩⟩,by simp [intOf]⟩
   ·obtain ⟨hb,hc⟩:=hq1 rfl
    have HB:=Lib.hid hb; have HC:=Lib.hid hc
    clear hb hc hq0 hq1
    go_wp2_with fail
    refine (HN.out _).mono ?_; rintro _ _ ⟨rfl,hw⟩; have hw:=hw.symm; subst hw
    go_wp2_with fail
    go_loopw [6,7,8,9] (fun s _ _ _ ws=>s = .int .i64 20∧wr=ws) (fun _ _ _ _ _=>0)
    case atStart=>exact ⟨rfl,rfl⟩
    case round=>
     obtain ⟨rfl,rfl⟩:=hrel
     go_wp2_with fail
     exact bodyPost_end (results_none rfl _ _ _) rfl ⟨rfl,HB.out,HC.out⟩
 ·go_enter Tryz.func131,Tryz.ntmps131
  go_wp2_with fail
  go_loopw [7,8] (fun a b wr=>a = .int .i64 0∧b = .int .i64 20∧w=wr) (fun _ b _=>40 - (intOf b).toNat)
  case atStart=>exact ⟨rfl,rfl,rfl⟩
  case round=>
   obtain ⟨rfl,rfl,rfl⟩:=hrel
   have hlt : ¬ 20≤l.length:=by omega
   go_wp2_with fail
   refine HI.out.mono ?_; rintro _ w1 ⟨rfl,hb,hc⟩
   have HB:=Lib.hid hb; have HC:=Lib.hid hc
   clear hb hc
   go_wp2_with fail
   go_loopw [6,7,8,9] (fun s _ _ _ ws=>s = .int .i64 20∧w1=ws) (fun _ _ _ _ _=>0)
   case atStart=>exact ⟨rfl,rfl⟩
   case round=>
    obtain ⟨rfl,rfl⟩:=hrel
    have hlt2 : ¬ 20 < l.length:=by omega
    go_wp2_with fail
    exact bodyPost_end (results_none rfl _ _ _) rfl ⟨rfl,HB.out,HC.out⟩
theorem stable_nil (w:World):Calls Tryz.prog 131 #[.slice none 0 0,.int .i64 0,.func (.func 82) #[] #[]] w (fun e w'=>e = .returned (.tuple #[])∧w'=w):=by
 have HN:=Lib.hid (insert_none none 0 0 0 (by omega) w)
 go_enter Tryz.func131,Tryz.ntmps131
 go_wp2_with fail
 go_loopw [7,8] (fun a b wr=>a = .int .i64 0∧b = .int .i64 20∧w=wr) (fun _ b _=>40 - (intOf b).toNat)
 case atStart=>exact ⟨rfl,rfl,rfl⟩
 case round=>
  obtain ⟨rfl,rfl,rfl⟩:=hrel
  go_wp2_with fail
  refine HN.out.mono ?_; rintro _ _ ⟨rfl,hw⟩; have hw:=hw.symm; subst hw
  go_wp2_with fail
  go_loopw [6,7,8,9] (fun s _ _ _ ws=>s = .int .i64 20∧w=ws) (fun _ _ _ _ _=>0)
  case atStart=>exact ⟨rfl,rfl⟩
  case round=>
   obtain ⟨rfl,rfl⟩:=hrel
   go_wp2_with fail
   exact bodyPost_end (results_none rfl _ _ _) rfl ⟨rfl,rfl⟩
theorem sort_any (g:Nat) (l:List Sy) (c:Nat) (hl : l.length≤20) (w:World) (h:SyBlk w g l) :
  Calls Tryz.prog 81 #[.slice (some ⟨g,0,none⟩) l.length c,.func (.func 82) #[] #[]] w (fun e w'=>e = .returned (.tuple #[])∧SyBlk w' g (insSort l)∧Chg [g] w w'):=by
 have HI:=Lib.hid (stable_any g l c hl w h)
 clear h
 go_enter Tryz.func81,Tryz.ntmps81
 go_wp2_with fail
 refine HI.out.mono ?_; rintro _ w1 ⟨rfl,hb,hc⟩
 have HB:=Lib.hid hb; have HC:=Lib.hid hc
 clear hb hc
 go_wp2_with fail
 exact bodyPost_end (results_none rfl _ _ _) rfl ⟨rfl,HB.out,HC.out⟩
theorem sort_nil (w:World):Calls Tryz.prog 81 #[.slice none 0 0,.func (.func 82) #[] #[]] w (fun e w'=>e = .returned (.tuple #[])∧w'=w):=by
 have HI:=Lib.hid (stable_nil w)
 go_enter Tryz.func81,Tryz.ntmps81
 go_wp2_with fail
 refine HI.out.mono ?_; rintro _ _ ⟨rfl,hw⟩; have hw:=hw.symm; subst hw
 go_wp2_with fail
 exact bodyPost_end (results_none rfl _ _ _) rfl ⟨rfl,rfl⟩
end Go.Proofs.YtojkkgghndeimaaGreatDoor
