/- Some texts in one. -/
import Derived.Deep.DeepCutAuto
import Derived.Test.YtojkkgghndeimaaGreatDoorS1
import Derived.Test.YtojkkgghndeimaaGreatDoorS5
import Derived.Test.YtojkkgghndeimaaGreatDoorS8
namespace Go.Mq.Tree
open Go Go.RowKit Go.Mq
theorem map_flat (l:List (List UInt8)) : l.map str=l.flatMap fun x=>[str x]:=by
 induction l with
 | nil=>rfl
 | cons x r ih=>rw [List.map_cons,ih]; rfl
abbrev Yes (w:World) (e:Ending) (w':World):Prop:=e = .returned (.bool true)∧Chg [] w w'
theorem Row.part {w:World} {F:Nat→Prop} {a:Option Addr} {α:Type} {f : α→List Value} {n:Nat} (hf : ∀ x,(f x).length=n) {l:List α} (h:Row w F a (l.flatMap f)) {k:Nat} (hk : k < l.length) (hn : 0 < n) :
  ∃ b off,a=some ⟨b,off,none⟩ ∧ ∀ (j:Nat) (v:Value),(f l[k])[j]?=some v→w.cell? ⟨b,off + k * n + j,none⟩=some v:=by
 have hlen : ∀ l:List α,(l.flatMap f).length=l.length * n:=by
  intro l
  induction l with
  | nil=>simp
  | cons x r ih=>simp [ih,hf,Nat.succ_mul,Nat.add_comm]
 have hget : ∀ (l:List α) (k:Nat) (hk : k < l.length) (j:Nat) (v:Value),(f l[k])[j]?=some v→(l.flatMap f)[k * n + j]?=some v:=by
  intro l
  induction l with
  | nil=>intro k hk; cases hk
  | cons x r ih=>
   intro k hk j v hv
   have hj : j < n:=by rw [← hf ((x :: r)[k])]; exact (List.getElem?_eq_some_iff.1 hv).1
   cases k with
   | zero=>simp only [Nat.zero_mul,Nat.zero_add,List.flatMap_cons]; rw [List.getElem?_append_left (by rw [hf]; exact hj)]; exact hv
   | succ k=>
    have:=ih k (by simpa using hk) j v (by simpa using hv)
    rw [List.flatMap_cons,List.getElem?_append_right (by rw [hf,Nat.succ_mul]; omega),hf,show (k + 1) * n + j - n=k * n + j by rw [Nat.succ_mul]; omega]
    exact this
 obtain ⟨b,off,rfl,hc⟩:=h.at_ (by rw [hlen]; exact Nat.mul_pos (by omega) hn)
 exact ⟨b,off,rfl,fun j v hv=>by rw [Nat.add_assoc]; exact hc _ v (hget l k hk j v hv)⟩
end Go.Mq.Tree
namespace Go.Proofs.YtojkkgghndeimaaGreatDoor
open Go Go.RowKit Go.Mq Go.Mq.Tree
set_option maxRecDepth 100000
set_option maxHeartbeats 4000000
theorem sameTexts_any {F G:Nat→Prop} {w:World} {l:List (List UInt8)} {v v':Value} (h:NamesAt w F l v) (h':NamesAt w G l v') (hl : l.length≤1000000):Calls Tryz.prog 22 #[v,v'] w (Yes w):=by
 obtain ⟨a,c,rfl,hac,hrow⟩:=h; obtain ⟨a',c',rfl,hac',hrow'⟩:=h'
 rw [map_flat] at hrow hrow'
 have H:=Lib.hid hrow; have H':=Lib.hid hrow'
 clear hrow hrow'
 go_enter Tryz.func22,Tryz.ntmps22
 go_wp2_with fail
 go_loopw [5] (fun i wr=>∃ k:Nat,k≤l.length∧i = .int .i64 k∧Chg [] w wr) (fun i _=>l.length - (intOf i).toNat)
 case atStart=>exact ⟨0,Nat.zero_le _,rfl,Chg.refl _ _⟩
 case round=>
  obtain ⟨k,hk,rfl,hc⟩:=hrel
  by_cases hlt : k < l.length
  ·obtain ⟨b,o,rfl,hcell⟩:=H.out.part (n:=1) (fun _=>rfl) hlt (by omega)
   obtain ⟨b',o',rfl,hcell'⟩:=H'.out.part (n:=1) (fun _=>rfl) hlt (by omega)
   obtain ⟨x,hx⟩ : ∃ x,x=l[k]:=⟨_,rfl⟩
   have c0:=hc.cellSome (hcell 0 (str x) (by rw [hx]; rfl)) (by simp)
   have c1:=hc.cellSome (hcell' 0 (str x) (by rw [hx]; rfl)) (by simp)
   simp only [Nat.mul_one,Nat.add_zero] at c0 c1
   have HC:=Lib.hid hc
   clear hcell hcell' hx hc
   go_wp2_with fail
   go_region
   all_goals (try go_wp2)
   go_roundw
   case rel=>exact ⟨k + 1,by omega,by go_num,HC.out.drew⟩
   case measure=>simp [intOf]; omega
  ·have HC:=Lib.hid hc; clear hc
   go_wp2_with fail
   go_ret
   exact ⟨rfl,HC.out⟩
end Go.Proofs.YtojkkgghndeimaaGreatDoor
namespace Go.Proofs.YtojkkgghndeimaaGreatDoor
open Go Go.RowKit Go.Mq Go.Mq.Tree
set_option maxRecDepth 100000
set_option maxHeartbeats 8000000
def SameX (w:World) (u u':Value):Prop:=∀ w',Chg [] w w'→Calls Tryz.prog 108 #[u,u'] w' (Yes w')
theorem SameX.mono {w w1:World} {u u':Value} (h:SameX w u u') (hc:Chg [] w w1):SameX w1 u u':=fun w' h'=>h w' (hc.then h')
end Go.Proofs.YtojkkgghndeimaaGreatDoor
namespace Go.Mq.Tree
open Go Go.RowKit Go.Mq
def E.len:E→Nat
 | .nil=>0
 | .cons _ r=>r.len + 1
 | _=>1
theorem within_le (n:Nat) (x:E) (t:List (List UInt8)) : t.length≤(withinK n x t).length:=by unfold withinK; split <;> simp <;> omega
theorem toks_cons (x r:E) : (toks x).length≤(toks (.cons x r)).length∧(toks r).length≤(toks (.cons x r)).length:=by
 cases r <;> simp only [toks,List.length_append,List.length_cons,List.length_nil] <;> omega
end Go.Mq.Tree
namespace Go.Proofs.YtojkkgghndeimaaGreatDoor
open Go Go.RowKit Go.Mq Go.Mq.Tree
set_option maxRecDepth 100000
set_option maxHeartbeats 4000000
def SameL (w:World) (n:Nat) (us us':List Value):Prop:=us.length=n∧us'.length=n ∧ ∀ (i:Nat) u u',us[i]?=some u→us'[i]?=some u'→SameX w u u'
theorem SameL.one {w:World} {u u':Value} (h:SameX w u u'):SameL w 1 [u] [u']:=⟨rfl,rfl,fun i v v' hv hv'=>by
 cases i with
 | zero=>cases hv; cases hv'; exact h
 | succ i=>cases hv⟩
theorem SameL.head {w:World} {u u':Value} {n:Nat} (h:SameL w n [u] [u']):SameX w u u':=h.2.2 0 u u' rfl rfl
end Go.Proofs.YtojkkgghndeimaaGreatDoor
namespace Go.Proofs.YtojkkgghndeimaaGreatDoor
open Go Go.RowKit Go.Mq Go.Mq.Tree
set_option maxRecDepth 100000
set_option maxHeartbeats 8000000
def SameS (w:World) (v v':Value):Prop:=∀ w',Chg [] w w'→Calls Tryz.prog 54 #[v,v'] w' (Yes w')
theorem SameS.mono {w w1:World} {u u':Value} (h:SameS w u u') (hc:Chg [] w w1):SameS w1 u u':=fun w' h'=>h w' (hc.then h')
def StSame (w:World) (cs cs':List Value) (i:Nat):Prop:=∃ (k p:Int) (nm:List UInt8) (x y x' y' a1 a2 a1' a2':Option Addr) (l1 c1 l2 c2 l1' c1' l2' c2':Nat),
 (∀ (j:Nat) v,([.int .i64 k,.int .i64 p,str nm,.pointer x,.pointer y,.slice a1 l1 c1,.slice a2 l2 c2] : List Value)[j]?=some v→cs[i * 7 + j]?=some v) ∧
 (∀ (j:Nat) v,([.int .i64 k,.int .i64 p,str nm,.pointer x',.pointer y',.slice a1' l1' c1',.slice a2' l2' c2'] : List Value)[j]?=some v→cs'[i * 7 + j]?=some v) ∧
 SameX w (.pointer x) (.pointer x')∧SameX w (.pointer y) (.pointer y')∧SameS w (.slice a1 l1 c1) (.slice a1' l1' c1')∧SameS w (.slice a2 l2 c2) (.slice a2' l2' c2')
end Go.Proofs.YtojkkgghndeimaaGreatDoor
namespace Go.Mq.Tree
open Go Go.RowKit Go.Mq
end Go.Mq.Tree
namespace Go.Proofs.YtojkkgghndeimaaGreatDoor
open Go Go.RowKit Go.Mq Go.Mq.Tree
set_option maxRecDepth 100000
set_option maxHeartbeats 4000000
theorem StSame.succ {w:World} {cs cs':List Value} {i:Nat} {c0 c1 c2 c3 c4 c5 c6 d0 d1 d2 d3 d4 d5 d6:Value} (h:StSame w cs cs' i):StSame w (c0 :: c1 :: c2 :: c3 :: c4 :: c5 :: c6 :: cs) (d0 :: d1 :: d2 :: d3 :: d4 :: d5 :: d6 :: cs') (i + 1):=by
 obtain ⟨k,p,nm,x,y,x',y',a1,a2,a1',a2',l1,k1,l2,k2,l1',k1',l2',k2',q,q',sx,sy,s1,s2⟩:=h
 refine ⟨k,p,nm,x,y,x',y',a1,a2,a1',a2',l1,k1,l2,k2,l1',k1',l2',k2',fun j v hv=>?_,fun j v hv=>?_,sx,sy,s1,s2⟩
 ·rw [show (i + 1) * 7 + j=(i * 7 + j) + 7 by omega]; exact q j v hv
 ·rw [show (i + 1) * 7 + j=(i * 7 + j) + 7 by omega]; exact q' j v hv
theorem StSame.zero {w:World} {cs cs':List Value} {k p:Int} {nm:List UInt8} {x y x' y' a1 a2 a1' a2':Option Addr} {l1 c1 l2 c2 l1' c1' l2' c2':Nat}
  (sx:SameX w (.pointer x) (.pointer x')) (sy:SameX w (.pointer y) (.pointer y')) (s1:SameS w (.slice a1 l1 c1) (.slice a1' l1' c1')) (s2:SameS w (.slice a2 l2 c2) (.slice a2' l2' c2')) :
  StSame w (.int .i64 k :: .int .i64 p :: str nm :: .pointer x :: .pointer y :: .slice a1 l1 c1 :: .slice a2 l2 c2 :: cs) (.int .i64 k :: .int .i64 p :: str nm :: .pointer x' :: .pointer y' :: .slice a1' l1' c1' :: .slice a2' l2' c2' :: cs') 0:=by
 refine ⟨k,p,nm,x,y,x',y',a1,a2,a1',a2',l1,c1,l2,c2,l1',c1',l2',c2',fun j v hv=>?_,fun j v hv=>?_,sx,sy,s1,s2⟩
 all_goals
  rw [Nat.zero_mul,Nat.zero_add]
  have hj:=(List.getElem?_eq_some_iff.1 hv).1
  simp only [List.length_cons,List.length_nil] at hj
  have : j=0∨j=1∨j=2∨j=3∨j=4∨j=5∨j=6:=by omega
  rcases this with rfl | rfl | rfl | rfl | rfl | rfl | rfl <;> exact hv
end Go.Proofs.YtojkkgghndeimaaGreatDoor
namespace Go.Mq.Tree
open Go Go.RowKit Go.Mq
theorem names_b (l:List (List UInt8)) : l.length≤(namesK l).length:=by
 cases l with
 | nil=>simp
 | cons x r=>have:=namesK_len (x :: r) (by simp); simp only [List.length_cons] at *; omega
theorem head_b (s:List UInt8) (l:List (List UInt8)) : l.length≤(headK s l).length:=by
 unfold headK
 have:=names_b l
 split
 ·next h=>subst h; simp
 ·simp only [List.length_cons,List.length_append]; omega
theorem flat_b {α:Type} {f : α→List (List UInt8)} (hf : ∀ x,1≤(f x).length) : ∀ l:List α,l.length≤(l.flatMap f).length
 | []=>by simp
 | x :: r=>by have:=flat_b hf r; have:=hf x; simp only [List.flatMap_cons,List.length_append,List.length_cons]; omega
theorem flat_in {α:Type} {f : α→List (List UInt8)} : ∀ (l:List α) (k:Nat) (hk : k < l.length),(f l[k]).length≤(l.flatMap f).length
 | x :: r,0,_=>by simp only [List.flatMap_cons,List.length_append,List.getElem_cons_zero]; omega
 | x :: r,k + 1,h=>by have:=flat_in r k (by simpa using h) (f:=f); simp only [List.flatMap_cons,List.length_append,List.getElem_cons_succ]; omega
structure SmM (m:Mod):Prop where
 imports : m.imports.length≤900000
 vars : m.vars.length≤900000
 procs : m.procs.length≤900000
 body : (stmtK m.body).length≤900000
 each : ∀ (k:Nat) (hk : k < m.procs.length),m.procs[k].params.length≤900000∧m.procs[k].vars.length≤900000∧(stmtK m.procs[k].body).length≤900000
theorem SmM.of {m:Mod} (h : (modK m).length≤900000):SmM m:=by
 simp only [modK,List.length_cons,List.length_append] at h
 have h1:=head_b [105,109,112,111,114,116] m.imports
 have h2:=flat_b (f:=globK) (fun x=>by simp [globK]) m.vars
 have h3:=flat_b (f:=procK) (fun x=>by simp [procK]) m.procs
 refine ⟨by omega,by omega,by omega,by omega,fun k hk=>?_⟩
 have h4:=flat_in (f:=procK) m.procs k hk
 have h5 : (procK m.procs[k]).length≤900000:=by omega
 simp only [procK,List.length_cons,List.length_append] at h5
 have h6:=names_b m.procs[k].params; have h7:=head_b [118,97,114] m.procs[k].vars
 exact ⟨by omega,by omega,by omega⟩
theorem SmM.none:SmM ⟨[],[],[],[],.nil⟩:=⟨by simp,by simp,by simp,by simp [stmtK],fun k hk=>by cases hk⟩
end Go.Mq.Tree
namespace Go.Proofs.YtojkkgghndeimaaGreatDoor
open Go Go.RowKit Go.Mq Go.Mq.Tree
set_option maxRecDepth 100000
set_option maxHeartbeats 8000000
end Go.Proofs.YtojkkgghndeimaaGreatDoor
