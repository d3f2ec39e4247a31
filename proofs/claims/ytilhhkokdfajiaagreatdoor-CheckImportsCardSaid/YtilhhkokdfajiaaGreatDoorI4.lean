/- Some texts in one. -/
import Derived.Lib.Bytealg
import Derived.Test.YtilhhkokdfajiaaGreatDoorI1
namespace Go.Mq.Sym
open Go Go.RowKit Go.Mq Go.Mq.Tree
structure Sy where
 name:List UInt8
 len:Int
 args:Int
def Sy.none:Sy:=⟨[],0,0⟩
def Sy.cells (s:Sy):List Value:=[.string (bs s.name),.int .i64 s.len,.int .i64 s.args]
def ltS (x y:Sy):Bool:=decide (Lib.compareBytes x.name y.name < 0)
def sinkS:Nat→List Sy→List Sy
 | 0,l=>l
 | k + 1,l=>if ltS (l.getD (k + 1) Sy.none) (l.getD k Sy.none) then sinkS k ((l.set (k + 1) (l.getD k Sy.none)).set k (l.getD (k + 1) Sy.none)) else l
def sortFrom (i n:Nat) (l:List Sy):List Sy:=(List.range' i (n - i)).foldl (fun l i=>sinkS i l) l
def insSort (l:List Sy):List Sy:=sortFrom 1 l.length l
def varSy (g:Glob):Sy:=⟨g.name,g.len,-1⟩
def procSy (p:Proc):Sy:=⟨p.name,0,p.params.length⟩
def seenL (vs:List Glob) (ps:List Proc):List Sy:=(vs.filter (·.seen)).map varSy ++ (ps.filter (·.seen)).map procSy
def ofM (m:Mod):List Sy:=insSort (seenL m.vars m.procs)
def findS (l:List Sy) (n:List UInt8):Option Nat:=l.findIdx? fun s=>s.name == n
theorem sinkS_length : ∀ (k:Nat) (l:List Sy),(sinkS k l).length=l.length
 | 0,_=>rfl
 | k + 1,l=>by
  rw [sinkS]
  split
  ·rw [sinkS_length k]; simp
  ·rfl
theorem sortFrom_step {i n:Nat} (h : i < n) (l:List Sy) : sortFrom i n l=sortFrom (i + 1) n (sinkS i l):=by
 rw [sortFrom,sortFrom,show n - i=(n - (i + 1)) + 1 by omega,List.range'_succ,List.foldl_cons]
theorem sortFrom_end {i n:Nat} (h : n≤i) (l:List Sy) : sortFrom i n l=l:=by
 rw [sortFrom,show n - i=0 by omega]; rfl
theorem sortFrom_length : ∀ (d i n:Nat) (l:List Sy),n - i≤d→(sortFrom i n l).length=l.length
 | 0,i,n,l,h=>by rw [sortFrom_end (by omega)]
 | d + 1,i,n,l,h=>by
  by_cases hi : i < n
  ·rw [sortFrom_step hi,sortFrom_length d (i + 1) n _ (by omega),sinkS_length]
  ·rw [sortFrom_end (by omega)]
theorem insSort_length (l:List Sy) : (insSort l).length=l.length:=sortFrom_length _ 1 l.length l (Nat.le_refl _)
end Go.Mq.Sym
namespace Go.Mq.Sym
open Go Go.RowKit Go.Mq Go.Mq.Tree
def SyBlk (w:World) (g:Nat) (l:List Sy):Prop:=∃ cur,Blk w g cur 41∧l.length * 3≤cur.size ∧ ∀ k s,l[k]?=some s→cur[k * 3]?=some (str s.name)∧cur[k * 3 + 1]?=some (.int .i64 s.len)∧cur[k * 3 + 2]?=some (.int .i64 s.args)
theorem SyBlk.kept {S:List Nat} {w w':World} {g:Nat} {l:List Sy} (h:SyBlk w g l) (hc:Chg S w w') (hn : g∉S):SyBlk w' g l:=by
 obtain ⟨cur,hb,hs,hc'⟩:=h
 exact ⟨cur,hb.kept hc hn,hs,hc'⟩
theorem SyBlk.cells {w:World} {g:Nat} {l:List Sy} (h:SyBlk w g l) {k:Nat} {s:Sy} (hk : l[k]?=some s) :
  w.cell? ⟨g,k * 3,none⟩=some (str s.name)∧w.cell? ⟨g,k * 3 + 1,none⟩=some (.int .i64 s.len)∧w.cell? ⟨g,k * 3 + 2,none⟩=some (.int .i64 s.args):=by
 obtain ⟨cur,hb,_,hc⟩:=h
 obtain ⟨h0,h1,h2⟩:=hc k s hk
 exact ⟨hb.cell _ _ h0,hb.cell _ _ h1,hb.cell _ _ h2⟩
theorem SyBlk.frozen {w:World} {g:Nat} {l:List Sy} (h:SyBlk w g l) (i:Nat) : w.frozen? ⟨g,i,none⟩=false:=by
 obtain ⟨cur,hb,_,_⟩:=h
 exact hb.frozen i
theorem SyBlk.lt {w:World} {g:Nat} {l:List Sy} (h:SyBlk w g l) : g < w.heap.size:=by
 obtain ⟨cur,hb,_,_⟩:=h
 exact hb.lt
theorem SyBlk.put {w:World} {g:Nat} {l:List Sy} (h:SyBlk w g l) (k:Nat) (hk : k < l.length) (s:Sy) :
  SyBlk (((w.setCell ⟨g,k * 3,none⟩ (str s.name)).setCell ⟨g,k * 3 + 1,none⟩ (.int .i64 s.len)).setCell ⟨g,k * 3 + 2,none⟩ (.int .i64 s.args)) g (l.set k s):=by
 obtain ⟨cur,hb,hs,hc⟩:=h
 refine ⟨_,((hb.set _ _).set _ _).set _ _,by simpa using hs,fun i x hi=>?_⟩
 by_cases he : i=k
 ·subst he
  rw [List.getElem?_set_self hk] at hi
  cases hi
  have h0 : i * 3 < cur.size:=by omega
  have h1 : i * 3 + 1 < cur.size:=by omega
  have h2 : i * 3 + 2 < cur.size:=by omega
  refine ⟨?_,?_,?_⟩ <;> simp [h0,h1,h2]
 ·rw [List.getElem?_set_ne (Ne.symm he)] at hi
  obtain ⟨c0,c1,c2⟩:=hc i x hi
  refine ⟨?_,?_,?_⟩
  ·rw [Array.getElem?_setIfInBounds_ne (by omega),Array.getElem?_setIfInBounds_ne (by omega),Array.getElem?_setIfInBounds_ne (by omega)]; exact c0
  ·rw [Array.getElem?_setIfInBounds_ne (by omega),Array.getElem?_setIfInBounds_ne (by omega),Array.getElem?_setIfInBounds_ne (by omega)]; exact c1
  ·rw [Array.getElem?_setIfInBounds_ne (by omega),Array.getElem?_setIfInBounds_ne (by omega),Array.getElem?_setIfInBounds_ne (by omega)]; exact c2
theorem put_chg (w:World) (g a b c:Nat) (x y z:Value):Chg [g] w (((w.setCell ⟨g,a,none⟩ x).setCell ⟨g,b,none⟩ y).setCell ⟨g,c,none⟩ z):=
 ((Chg.set1 _ _ _ _).then (Chg.set1 _ _ _ _)).then (Chg.set1 _ _ _ _)
theorem SyBlk.swap {w:World} {g:Nat} {l:List Sy} (h:SyBlk w g l) (j k:Nat) (hj : j < l.length) (hk : k < l.length) (y x:Sy) :
  SyBlk ((((((w.setCell ⟨g,j * 3,none⟩ (str y.name)).setCell ⟨g,j * 3 + 1,none⟩ (.int .i64 y.len)).setCell ⟨g,j * 3 + 2,none⟩ (.int .i64 y.args)).setCell ⟨g,k * 3,none⟩ (str x.name)).setCell ⟨g,k * 3 + 1,none⟩ (.int .i64 x.len)).setCell ⟨g,k * 3 + 2,none⟩ (.int .i64 x.args)) g ((l.set j y).set k x) ∧
  Chg [g] w ((((((w.setCell ⟨g,j * 3,none⟩ (str y.name)).setCell ⟨g,j * 3 + 1,none⟩ (.int .i64 y.len)).setCell ⟨g,j * 3 + 2,none⟩ (.int .i64 y.args)).setCell ⟨g,k * 3,none⟩ (str x.name)).setCell ⟨g,k * 3 + 1,none⟩ (.int .i64 x.len)).setCell ⟨g,k * 3 + 2,none⟩ (.int .i64 x.args)):=
 ⟨(h.put j hj y).put k (by simpa using hk) x,(put_chg _ _ _ _ _ _ _ _).then (put_chg _ _ _ _ _ _ _ _)⟩
end Go.Mq.Sym
