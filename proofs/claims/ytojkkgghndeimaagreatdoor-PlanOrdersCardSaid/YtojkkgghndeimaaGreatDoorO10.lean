/- Some texts in one. -/
import Derived.Lib.ParseIntBCases
import Derived.Test.YtojkkgghndeimaaGreatDoorO1
import Derived.Test.YtojkkgghndeimaaGreatDoorO5
import Derived.Test.YtojkkgghndeimaaGreatDoorO8
import Derived.Test.YtojkkgghndeimaaGreatDoorO9
namespace Go.Mq.Ref
open Go Go.RowKit Go.Mq Go.Mq.Tree
abbrev num (n:Int):Value:=.int .i64 n
def rlevels:List (List UInt8):=[[111,114],[97,110,100],[61,32,35,32,60,32,60,61,32,62,32,62,61],[43,32,45],[42,32,100,105,118,32,109,111,100]]
structure RLaid (w:World) (B:Nat):Prop where
 laid:Laid w B
 fine0 : w.cell? ⟨0,0,none⟩=some (num 0)
 fine1 : w.cell? ⟨0,1,none⟩=some (num (-1))
 fineB : 0 < B
 lev : ∀ i s,rlevels[i]?=some s→w.cell? ⟨3,i,none⟩=some (str s)
 levB : 3 < B
 mx : ∃ m,w.cell? ⟨4,0,none⟩=some (num m)
 mxB : 4 < B
theorem RLaid.kept {w w':World} {B:Nat} {Z:List Nat} (h:RLaid w B) (hc:Chg Z w w') (hZ : ∀ x∈Z,B≤x):RLaid w' B:=by
 have hn : ∀ b,b < B→b∉Z:=fun b hb hm=>by have:=hZ b hm; omega
 refine ⟨h.laid.kept hc hZ,hc.cellSome h.fine0 (hn _ h.fineB),hc.cellSome h.fine1 (hn _ h.fineB),h.fineB,fun i s hs=>hc.cellSome (h.lev i s hs) (hn _ h.levB),h.levB,?_,h.mxB⟩
 obtain ⟨m,hm⟩:=h.mx
 exact ⟨m,hc.cellSome hm (hn _ h.mxB)⟩
abbrev Bad:=Option (Nat × Nat)
def badE:Bad→Int
 | none=>0
 | some x=>x.1
def badP:Bad→Int
 | none=>-1
 | some x=>x.2
structure RP (w:World) (B bp bt z:Nat) (st:Bad) (ts:List Tok):Prop where
 laid:RLaid w B
 bpB:B≤bp
 btB:B≤bt
 ne : bt≠bp
 few : ts.length≤600
 short : ∀ t∈ts,t.text.length≤4000000000
 digs : ∀ t∈ts,t.kind = .number → ∃ c r,t.text=c :: r∧c.toNat≠43∧c.toNat≠45
 nz : ∀ x,st=some x→x.1≠0
 at_ : ∃ off c,Blk w bp #[.slice (some ⟨bt,off,none⟩) (ts.length + 1) c,num (badE st),num (badP st)] 75∧ts.length + 1≤c ∧ ∀ i v,(toksCells z ts)[i]?=some v→w.cell? ⟨bt,off + i,none⟩=some v
def Heads (w:World) (bt off z:Nat) (ts:List Tok) (k:Int) (t:List UInt8):Prop:=match ts with
 | []=>k=4∧t=[]
 | x :: r=>k=x.kind.num∧t=x.text ∧ ∀ i v,(toksCells z r)[i]?=some v→w.cell? ⟨bt,off + 3 + i,none⟩=some v
def tokK:List Tok→Int
 | []=>4
 | x :: _=>x.kind.num
def tokT:List Tok→List UInt8
 | []=>[]
 | x :: _=>x.text
theorem Heads.eq {w:World} {bt off z:Nat} {ts:List Tok} {k:Int} {t:List UInt8} (h:Heads w bt off z ts k t) : k=tokK ts∧t=tokT ts:=by
 cases ts with
 | nil=>exact h
 | cons x r=>exact ⟨h.1,h.2.1⟩
theorem name_eq (z:Nat) (ts:List Tok) : name z ts=if (tokK ts != 1 || kept (tokT ts))=true then .bad 3 (hd z ts) else if 10 < (tokT ts).length then .bad 4 (hd z ts) else .ok (tokT ts) ts.tail:=by
 cases ts with
 | nil=>rfl
 | cons t r=>cases hk : t.kind <;> cases hq : kept t.text <;> by_cases h10 : 10 < t.text.length <;> simp [name,tokK,tokT,Kind.num,hk,hd,hq,h10]
section
variable {w w':World} {B bp bt z:Nat} {st:Bad} {ts:List Tok} {Z:List Nat}
theorem RP.textLe (h:RP w B bp bt z st ts) : (tokT ts).length≤4000000000:=by
 cases ts with
 | nil=>simp [tokT]
 | cons t r=>exact h.short t (by simp)
theorem RP.kept (h:RP w B bp bt z st ts) (hc:Chg Z w w') (hZ : ∀ x∈Z,B≤x∧x≠bp∧x≠bt):RP w' B bp bt z st ts:=by
 obtain ⟨off,c,hb,hl,hcell⟩:=h.at_
 exact ⟨h.laid.kept hc (fun x hx=>(hZ x hx).1),h.bpB,h.btB,h.ne,h.few,h.short,h.digs,h.nz,off,c,hb.kept hc (fun hm=>(hZ _ hm).2.1 rfl),hl,fun i v hv=>hc.cellSome (hcell i v hv) (fun hm=>(hZ _ hm).2.2 rfl)⟩
theorem RP.same (h:RP w B bp bt z st ts) (hc:Chg [] w w'):RP w' B bp bt z st ts:=h.kept hc (by simp)
theorem RP.cells (h:RP w B bp bt z st ts) : ∃ off c k t,Hid (Blk w bp #[.slice (some ⟨bt,off,none⟩) (ts.length + 1) c,num (badE st),num (badP st)] 75∧ts.length + 1≤c∧Heads w bt off z ts k t) ∧
  (w.cell? ⟨bp,0,none⟩=some (.slice (some ⟨bt,off,none⟩) (ts.length + 1) c)∧w.cell? ⟨bp,1,none⟩=some (num (badE st))∧w.cell? ⟨bp,2,none⟩=some (num (badP st))) ∧
  w.cell? ⟨bt,off,none⟩=some (num k)∧w.cell? ⟨bt,off + 1,none⟩=some (str t)∧w.cell? ⟨bt,off + 2,none⟩=some (num (hd z ts)):=by
 obtain ⟨off,c,hb,hl,hc⟩:=h.at_
 cases ts with
 | nil=>exact ⟨off,c,4,[],Lib.hid ⟨hb,hl,rfl,rfl⟩,hb.three,hc 0 _ rfl,hc 1 _ rfl,hc 2 _ rfl⟩
 | cons t r=>
  refine ⟨off,c,_,_,Lib.hid ⟨hb,hl,rfl,rfl,fun i v hi=>?_⟩,hb.three,hc 0 _ rfl,hc 1 _ rfl,hc 2 _ rfl⟩
  rw [Nat.add_assoc]
  refine hc (3 + i) v ?_
  simpa [toksCells,Tok.cells,Nat.add_comm 3 i] using hi
theorem RP.tail {t:Tok} {r:List Tok} {off c:Nat} (h:RP w B bp bt z st (t :: r)) (hb:Blk w bp #[.slice (some ⟨bt,off,none⟩) (r.length + 2) c,num (badE st),num (badP st)] 75) (hl : r.length + 2≤c)
  (hc : ∀ i v,(toksCells z r)[i]?=some v→w.cell? ⟨bt,off + 3 + i,none⟩=some v) :
  RP (w.setCell ⟨bp,0,none⟩ (.slice (some ⟨bt,off + 3,none⟩) (r.length + 1) (c - 1))) B bp bt z st r∧Chg [bp] w (w.setCell ⟨bp,0,none⟩ (.slice (some ⟨bt,off + 3,none⟩) (r.length + 1) (c - 1))):=by
 have hch:=Chg.set1 w bp 0 (.slice (some ⟨bt,off + 3,none⟩) (r.length + 1) (c - 1))
 have hB:=h.bpB
 refine ⟨⟨h.laid.kept hch (fun x hx=>by simp at hx; omega),h.bpB,h.btB,h.ne,by have:=h.few; simp at this; omega,fun t ht=>h.short t (List.mem_cons_of_mem _ ht),fun t ht=>h.digs t (List.mem_cons_of_mem _ ht),h.nz,off + 3,c - 1,?_,by omega,fun i v hi=>hch.cellSome (hc i v hi) (by simpa using h.ne)⟩,hch⟩
 have:=hb.set 0 (.slice (some ⟨bt,off + 3,none⟩) (r.length + 1) (c - 1))
 simpa using this
theorem RP.fall {off c en:Nat} (h:RP w B bp bt z none ts) (hb:Blk w bp #[.slice (some ⟨bt,off,none⟩) (ts.length + 1) c,num (badE none),num (badP none)] 75) (hl : ts.length + 1≤c) (he : en≠0)
  (hc : ∀ i v,(toksCells z ts)[i]?=some v→w.cell? ⟨bt,off + i,none⟩=some v) (q:Nat) :
  RP ((w.setCell ⟨bp,1,none⟩ (num en)).setCell ⟨bp,2,none⟩ (num q)) B bp bt z (some (en,q)) ts∧Chg [bp] w ((w.setCell ⟨bp,1,none⟩ (num en)).setCell ⟨bp,2,none⟩ (num q)):=by
 have hch:Chg [bp] w ((w.setCell ⟨bp,1,none⟩ (num en)).setCell ⟨bp,2,none⟩ (num q)):=(Chg.set1 w bp 1 (num en)).then (Chg.set1 _ bp 2 (num q))
 have hB:=h.bpB
 refine ⟨⟨h.laid.kept hch (fun x hx=>by simp at hx; omega),h.bpB,h.btB,h.ne,h.few,h.short,h.digs,fun x hx=>by cases hx; exact he,off,c,?_,hl,fun i v hi=>hch.cellSome (hc i v hi) (by simpa using h.ne)⟩,hch⟩
 have:=(hb.set 1 (num en)).set 2 (num q)
 simpa [badE,badP] using this
end
def Taken (w:World) (B bp bt z:Nat) (ts:List Tok) (b:Bool) (w':World):Prop:=match b with
 | false=>Chg [] w w'
 | true=>Chg [bp] w w'∧RP w' B bp bt z none ts.tail
end Go.Mq.Ref
namespace Go.Mq.Tree
open Go Go.RowKit Go.Mq
section
variable {α β:Type}
def R.isOk:R α→Bool
 | .ok _ _=>true
 | .bad _ _=>false
def R.sees (s:List UInt8):R α→Bool
 | .ok _ ts=>see s ts
 | .bad _ _=>false
def R.skips (s:List UInt8):R α→R α
 | .ok a ts=>.ok a (skip s ts)
 | .bad e p=>.bad e p
def R.falls (z en:Nat):R α→R β
 | .ok _ ts=>.bad en (hd z ts)
 | .bad e p=>.bad e p
end
end Go.Mq.Tree
namespace Go.Mq.Ref
open Go Go.RowKit Go.Mq Go.Mq.Tree
def RQ {α:Type} (w:World) (B bp bt z:Nat) (r:R α):Prop:=match r with
 | .ok _ ts=>RP w B bp bt z none ts
 | .bad en p=>∃ ts,RP w B bp bt z (some (en,p)) ts
section
variable {α:Type} {w w':World} {B bp bt z:Nat} {r:R α} {Z:List Nat}
theorem RQ.kept (h:RQ w B bp bt z r) (hc:Chg Z w w') (hZ : ∀ x∈Z,B≤x∧x≠bp∧x≠bt):RQ w' B bp bt z r:=by
 cases r with
 | ok a ts=>exact RP.kept h hc hZ
 | bad en p=>obtain ⟨ts,h⟩:=h; exact ⟨ts,h.kept hc hZ⟩
theorem RQ.same (h:RQ w B bp bt z r) (hc:Chg [] w w'):RQ w' B bp bt z r:=h.kept hc (by simp)
theorem RQ.st (h:RQ w B bp bt z r) : ∃ st ts,RP w B bp bt z st ts ∧ ∀ a ts',r = .ok a ts'→ts'=ts:=by
 cases r with
 | ok a ts=>exact ⟨none,ts,h,fun _ _ e=>by cases e; rfl⟩
 | bad en p=>obtain ⟨ts,h⟩:=h; exact ⟨_,ts,h,fun _ _ e=>by cases e⟩
theorem RQ.lt (h:RQ w B bp bt z r) : bp < w.heap.size:=by
 obtain ⟨st,ts,h,_⟩:=h.st
 obtain ⟨off,c,hb,_⟩:=h.at_
 exact hb.lt
theorem RQ.bt_lt (h:RQ w B bp bt z r) : bt < w.heap.size:=by
 obtain ⟨st,ts,h,_⟩:=h.st
 obtain ⟨off,c,_,_,_,_,_,c0,_⟩:=h.cells
 exact lt_of_cell c0
theorem RQ.grow {w2 w3:World} {v v':Value} {o:Obj} (hB:B≤w.heap.size) (hbp : bp < w.heap.size) (hbt : bt < w.heap.size)
  (hC:Chg [bp] w w') (hN:Chg [bp] w' w2) (hP:RQ w2 B bp bt z r) (hF:From w.heap.size v) (hch:Chg (blk v) (w2.alloc o) w3) (hm:Moved (w2.alloc o) v v') :
  RQ w3 B bp bt z r∧Chg [bp] w w3∧From w.heap.size v':=by
 have hs:=(hC.then hN).size
 refine ⟨(hP.same ((Chg.refl [] w2).alloc o)).kept hch (fun x hx=>⟨Nat.le_trans hB (hF x hx),fun e=>by have:=hF x hx; omega,fun e=>by have:=hF x hx; omega⟩),?_,hF.moved hm (by simp; omega)⟩
 exact ((hC.then hN).alloc o).trans hch (fun x hx=>.inr (hF x hx))
def RToldZ (Z:List Nat) (w:World) (B bp bt z:Nat) (r:R α) (V:World→α→Value→Prop) (U:World→Value→Prop) (e:Ending) (w':World):Prop:=
 Chg Z w w' ∧ ∃ v,e = .returned v∧U w' v∧RQ w' B bp bt z r ∧ ∀ a ts,r = .ok a ts→V w' a v
abbrev RTold (w:World) (B bp bt z:Nat) (r:R α) (V:World→α→Value→Prop) (U:World→Value→Prop) (e:Ending) (w':World):Prop:=RToldZ [bp] w B bp bt z r V U e w'
end
end Go.Mq.Ref
namespace Go.Mq.Ref
open Go Go.RowKit Go.Mq Go.Mq.Tree Go.WideShapes Go.ChangeShapes
theorem int_of_shape {P:Program} {w:World} {g:Nat} {t:TypeId} {k:IntKind} {zero:Array Value} (h : w.ShapedOpen P) (hg : g < P.globals.size)
  (h0 : ((begin P (fun _ _=>0) default).world.heap[g]?).bind Obj.row?=some (zero,t)) (hz : zero.size=1)
  (hb:P.buildable t=true) (hc:P.cellTypes P.depth t=some [t]) (hu:P.underlying t=some (.int k)) : ∃ n,w.cell? ⟨g,0,none⟩=some (.int k n):=by
 obtain ⟨cs,hh,hs,hr⟩:=h.1 g zero t hg h0
 obtain ⟨ts,hts,_,hall⟩:=hr hb
 rw [hc] at hts
 cases hts
 have h1 : 0 < cs.size:=by omega
 obtain ⟨u,hu',hok⟩:=hall 0 cs[0] (by simp [h1])
 have : u=t:=by simpa using hu'.symm
 subst this
 have hcell : w.cell? ⟨g,0,none⟩=some cs[0]:=by simp [World.cell?,hh,h1]
 rw [hcell]
 unfold Cell.ok at hok
 rw [hu] at hok
 cases hv : cs[0] <;> rw [hv] at hok <;> first | (simp at hok; done) | (obtain ⟨rfl,_⟩:=hok; exact ⟨_,rfl⟩)
theorem rlaid_of {l:List (String × DataW Unit)} {W:World} (hL:Laid W W.heap.size) (h : laidMetH Go.Proofs.Tryz.prog l W) (hh : (l.all fun x=>x.2.handleName?.isNone)=true) (hsh:W.ShapedOpen Go.Proofs.Tryz.prog)
  (h1 : ("marquetry/marquetryref.Fine",.agg [.lit (.int .i64 0),.lit (.int .i64 (-1))])∈l) (h2 : ("marquetry/marquetryref.levels",.agg (rlevels.map litS))∈l):RLaid W W.heap.size:=by
 rw [Go.MakeChecks.laidMetH_plain _ _ _ hh] at h
 obtain ⟨ps,hv,_,_⟩:=h
 obtain ⟨g1,t1,c1,f1,p1,a1,b1,d1,e1⟩:=laid_var h1 hv
 obtain ⟨g2,t2,c2,f2,p2,a2,b2,d2,e2⟩:=laid_var h2 hv
 have x1:=Option.some.inj ((show Go.Proofs.Tryz.prog.globalNamed "marquetry/marquetryref.Fine" = some 0 by kernel_rfl).symm.trans a1)
 have x2:=Option.some.inj ((show Go.Proofs.Tryz.prog.globalNamed "marquetry/marquetryref.levels" = some 3 by kernel_rfl).symm.trans a2)
 subst x1 x2
 have y1:=Option.some.inj ((show (Go.Proofs.Tryz.prog.globals[0]?).map (·.type)=some 34 by kernel_rfl).symm.trans b1)
 have y2:=Option.some.inj ((show (Go.Proofs.Tryz.prog.globals[3]?).map (·.type)=some 225 by kernel_rfl).symm.trans b2)
 subst y1 y2
 have m2:=tab_strs rlevels Go.Proofs.Tryz.underlying225 Go.Proofs.Tryz.underlying9 (by kernel_rfl) e2
 obtain ⟨y0,y1,n,hx,hl,q0,q1⟩:=trod_struct2 Go.Proofs.Tryz.underlying34 e1
 obtain ⟨n0,k0,k0',_⟩:=DataW.trod_int Go.Proofs.Tryz.underlying32 q0
 obtain ⟨n1,k1,k1',_⟩:=DataW.trod_int Go.Proofs.Tryz.underlying3 q1
 rw [k0',k1'] at hx
 simp only [Prod.mk.injEq,DataW.agg.injEq,List.cons.injEq,DataW.lit.injEq,Lit.int.injEq,true_and,and_true] at hx
 obtain ⟨⟨rfl,rfl⟩,_⟩:=hx
 rw [show Go.Proofs.Tryz.prog.cellsOf 32=1 by kernel_rfl] at k0
 rw [show Go.Proofs.Tryz.prog.cellsOf 3=1 by kernel_rfl] at k1
 have fine0:W.cell? ⟨0,0,none⟩=some (num 0):=by
  rw [World.var?_cell a1 d1 0,← Array.getElem?_toList]
  have:=congrArg (·[0]?) k0
  simpa using this
 have fine1:W.cell? ⟨0,1,none⟩=some (num (-1)):=by
  rw [World.var?_cell a1 d1 1,← Array.getElem?_toList]
  have:=congrArg (·[0]?) k1
  simpa using this
 have lev : ∀ i s,rlevels[i]?=some s→W.cell? ⟨3,i,none⟩=some (str s):=fun i m hm=>by
  rw [World.var?_cell a2 d2 i,← Array.getElem?_toList]; exact m2 i m hm
 have mx : ∃ m,W.cell? ⟨4,0,none⟩=some (num m):=
  int_of_shape (zero:=#[num 0]) (t:=3) hsh (of_decide_eq_true (by kernel_rfl)) (by kernel_rfl) rfl (by kernel_rfl) (by kernel_rfl) Go.Proofs.Tryz.underlying3
 exact ⟨hL,fine0,fine1,lt_of_cell fine0,lev,lt_of_cell (lev 0 _ rfl),mx,by obtain ⟨_,hm⟩:=mx; exact lt_of_cell hm⟩
end Go.Mq.Ref
namespace Go.Proofs.YtojkkgghndeimaaGreatDoor
open Go Go.RowKit Go.Mq Go.Mq.Tree Go.Mq.Ref
set_option maxRecDepth 100000
set_option maxHeartbeats 1000000
theorem rok_any {w:World} {B bp bt z:Nat} {st:Bad} {ts:List Tok} (h:RP w B bp bt z st ts):Calls Tryz.prog 39 #[ptr bp] w (fun e w'=>e = .returned (.bool st.isNone)∧Chg [] w w'):=by
 obtain ⟨off,c,k,t,HH,⟨b0,b1,b2⟩,c0,c1,c2⟩:=h.cells
 have f0:=h.laid.fine0; have f1:=h.laid.fine1
 cases st with
 | none=>
  simp only [badE,badP] at b1 b2
  clear h
  go_enter Tryz.func39,Tryz.ntmps39
  go_wp2_with fail
  go_region
  all_goals (try go_wp2_with fail)
  all_goals go_ret
  all_goals exact ⟨rfl,(Chg.refl _ _).drew⟩
 | some x=>
  have hne : ((x.1:Int) == 0)=false:=by have:=h.nz x rfl; simpa using this
  simp only [badE,badP] at b1 b2
  clear h
  go_enter Tryz.func39,Tryz.ntmps39
  go_wp2_with fail
  go_region
  all_goals (try go_wp2_with fail)
  all_goals go_ret
  all_goals exact ⟨rfl,(Chg.refl _ _).drew⟩
theorem rsee_any {w:World} {B bp bt z:Nat} {st:Bad} {ts:List Tok} (h:RP w B bp bt z st ts) (s:List UInt8):Calls Tryz.prog 45 #[ptr bp,str s] w (fun e w'=>e = .returned (.bool (st.isNone && see s ts))∧Chg [] w w'):=by
 have HO:=Lib.hid (rok_any h); have H:=Lib.hid h
 clear h
 go_enter Tryz.func45,Tryz.ntmps45
 go_wp2_with fail
 refine HO.out.mono ?_; rintro _ w1 ⟨rfl,hc⟩
 obtain ⟨off,c,k,t,HH,⟨b0,b1,b2⟩,c0,c1,c2⟩:=(H.out.same hc).cells
 have HC:=Lib.hid hc
 clear hc b1 b2
 cases st with
 | some x=>
  simp only [Option.isNone_some]
  go_wp2_with fail
  go_ret
  exact ⟨rfl,HC.out⟩
 | none=>
  simp only [Option.isNone_none]
  cases ts with
  | nil=>
   obtain ⟨_,_,rfl,rfl⟩:=HH.out
   go_wp2_with fail
   go_ret
   exact ⟨rfl,HC.out⟩
  | cons x r=>
   obtain ⟨_,_,rfl,rfl,_⟩:=HH.out
   have hk:=kind_ne x.kind
   go_wp2_with fail
   go_ret
   exact ⟨rfl,HC.out⟩
theorem rtake_any {w:World} {B bp bt z:Nat} {st:Bad} {ts:List Tok} (h:RP w B bp bt z st ts) (s:List UInt8):Calls Tryz.prog 41 #[ptr bp,str s] w (fun e w'=>e = .returned (.bool (st.isNone && see s ts))∧Taken w B bp bt z ts (st.isNone && see s ts) w'):=by
 have HS:=Lib.hid (rsee_any h s); have H:=Lib.hid h
 obtain ⟨b,hb⟩ : ∃ b,b=(st.isNone && see s ts):=⟨_,rfl⟩
 rw [← hb] at HS ⊢
 have HB:=Lib.hid hb
 clear h hb
 go_enter Tryz.func41,Tryz.ntmps41
 go_wp2_with fail
 refine HS.out.mono ?_; rintro _ w1 ⟨rfl,hc⟩
 cases b with
 | false=>
  go_wp2_with fail
  go_ret
  exact ⟨rfl,hc⟩
 | true=>
  have hbt:=HB.out.symm
  rw [Bool.and_eq_true] at hbt
  obtain ⟨h1,h2⟩:=hbt
  cases st with
  | some x=>cases h1
  | none=>
  cases ts with
  | nil=>cases h2
  | cons t r=>
  have hp:=H.out.same hc
  obtain ⟨off,c,k,t',HH,⟨b0,b1,b2⟩,c0,c1,c2⟩:=hp.cells
  have hf:=HH.out.1.frozen 0
  have HT:=Lib.hid (hp.tail HH.out.1 HH.out.2.1 HH.out.2.2.2.2)
  have hl:=HH.out.2.1
  have HC:=Lib.hid hc
  clear hc hp h1 h2 b1 b2
  simp only [List.length_cons] at b0 hl
  go_wp2_with fail
  go_ret
  exact ⟨rfl,HC.out.weak.then HT.out.2,HT.out.1⟩
theorem rfails_any {w:World} {B bp bt z:Nat} {ts:List Tok} (h:RP w B bp bt z none ts) (en:Nat) (he : en≠0):Calls Tryz.prog 43 #[ptr bp,num en] w (fun e w'=>e = .returned (.tuple #[])∧Chg [bp] w w'∧RP w' B bp bt z (some (en,hd z ts)) ts):=by
 have HO:=Lib.hid (rok_any h); have H:=Lib.hid h; have HE:=Lib.hid he
 clear h he
 go_enter Tryz.func43,Tryz.ntmps43
 go_wp2_with fail
 refine HO.out.mono ?_; rintro _ w1 ⟨rfl,hc⟩
 have hp:=H.out.same hc
 obtain ⟨off,c,k,t,HH,⟨b0,b1,b2⟩,c0,c1,c2⟩:=hp.cells
 have f1:=HH.out.1.frozen 1; have f2:=HH.out.1.frozen 2
 have HT:=Lib.hid (hp.fall HH.out.1 HH.out.2.1 HE.out (fun i v hv=>by
  obtain ⟨off',c',hb',_,hc'⟩:=hp.at_
  have e:=(hb'.cell 0 _ rfl).symm.trans b0
  simp at e
  rw [← e.1]; exact hc' i v hv) (hd z ts))
 have HC:=Lib.hid hc
 clear hc hp
 go_wp2_with fail
 refine bodyPost_end (results_none rfl _ _ _) rfl ?_
 exact ⟨rfl,HC.out.weak.then HT.out.2,HT.out.1⟩
theorem rfails_bad {w:World} {B bp bt z:Nat} {x:Nat × Nat} {ts:List Tok} (h:RP w B bp bt z (some x) ts) (en:Nat):Calls Tryz.prog 43 #[ptr bp,num en] w (fun e w'=>e = .returned (.tuple #[])∧Chg [] w w'):=by
 have HO:=Lib.hid (rok_any h)
 clear h
 go_enter Tryz.func43,Tryz.ntmps43
 go_wp2_with fail
 refine HO.out.mono ?_; rintro _ w1 ⟨rfl,hc⟩
 simp only [Option.isNone_some]
 go_wp2_with fail
 exact bodyPost_end (results_none rfl _ _ _) rfl ⟨rfl,hc⟩
section
variable {α:Type} {w:World} {B bp bt z:Nat} {q:R α}
theorem rok_q (h:RQ w B bp bt z q):Calls Tryz.prog 39 #[ptr bp] w (fun e w'=>e = .returned (.bool q.isOk)∧Chg [] w w'):=by
 cases q with
 | ok a ts=>exact rok_any h
 | bad en p=>obtain ⟨ts,h⟩:=h; exact rok_any h
theorem rsee_q (h:RQ w B bp bt z q) (s:List UInt8):Calls Tryz.prog 45 #[ptr bp,str s] w (fun e w'=>e = .returned (.bool (q.sees s))∧Chg [] w w'):=by
 cases q with
 | ok a ts=>exact rsee_any h s
 | bad en p=>obtain ⟨ts,h⟩:=h; exact rsee_any h s
theorem rtake_q (h:RQ w B bp bt z q) (s:List UInt8):Calls Tryz.prog 41 #[ptr bp,str s] w (fun e w'=>e = .returned (.bool (q.sees s))∧Chg [bp] w w'∧RQ w' B bp bt z (q.skips s)):=by
 cases q with
 | ok a ts=>
  refine (rtake_any h s).mono ?_; rintro e w' ⟨rfl,ht⟩
  refine ⟨rfl,?_⟩
  simp only [Option.isNone_none,Bool.true_and] at ht
  cases hs : see s ts <;> rw [hs] at ht
  ·have e:R.skips s (.ok a ts) = .ok a ts:=by simp [R.skips,skip,hs]
   rw [e]; exact ⟨Chg.weak ht,RP.same h ht⟩
  ·have e:R.skips s (.ok a ts) = .ok a ts.tail:=by simp [R.skips,skip,hs]
   rw [e]; exact ht
 | bad en p=>
  obtain ⟨ts,h⟩:=h
  refine (rtake_any h s).mono ?_; rintro e w' ⟨rfl,ht⟩
  have ht:Chg [] w w':=ht
  exact ⟨rfl,ht.weak,ts,h.same ht⟩
theorem rfails_q {β:Type} (h:RQ w B bp bt z q) (en:Nat) (he : en≠0):Calls Tryz.prog 43 #[ptr bp,num en] w (fun e w'=>e = .returned (.tuple #[])∧Chg [bp] w w'∧RQ w' B bp bt z (q.falls z en:R β)):=by
 cases q with
 | ok a ts=>exact (rfails_any h en he).mono fun e w' ⟨h1,h2,h3⟩=>⟨h1,h2,ts,h3⟩
 | bad en' p=>obtain ⟨ts,h⟩:=h; exact (rfails_bad h en).mono fun e w' ⟨h1,h2⟩=>⟨h1,h2.weak,ts,h.same h2⟩
theorem rmust_q (h:RQ w B bp bt z q) (s:List UInt8):Calls Tryz.prog 38 #[ptr bp,str s] w (fun e w'=>e = .returned (.tuple #[])∧Chg [bp] w w'∧RQ w' B bp bt z (q.bind fun _=>must z s)):=by
 have HT:=Lib.hid (rtake_q h s); have H:=Lib.hid h
 obtain ⟨Q,hQ⟩ : ∃ Q,Q=(q.bind fun _=>must z s):=⟨_,rfl⟩
 rw [← hQ]
 cases hs : q.sees s
 all_goals
  rw [hs] at HT
  have HS:=Lib.hid hs; have HQ:=Lib.hid hQ
  clear h hs hQ
  go_enter Tryz.func38,Tryz.ntmps38
  go_wp2_with fail
  refine HT.out.mono ?_; rintro _ w1 ⟨rfl,hc,hq⟩
 ·have e : (R.falls z 3 (q.skips s):R Unit)=Q:=by
   rw [HQ.out]
   cases q with
   | ok a ts=>have:=HS.out; simp [R.sees] at this; simp [R.falls,R.skips,skip,R.bind,must,this]
   | bad en p=>rfl
  have HC:=Lib.hid hc
  have HF:=Lib.hid (rfails_q (β:=Unit) hq 3 (by decide))
  rw [e] at HF
  clear hc hq e
  go_wp2_with fail
  refine HF.out.mono ?_; rintro _ w2 ⟨rfl,hc,hp⟩
  go_wp2_with fail
  exact bodyPost_end (results_none rfl _ _ _) rfl ⟨rfl,HC.out.then hc,hp⟩
 ·have hq:RQ w1 B bp bt z Q:=by
   rw [HQ.out]
   cases q with
   | ok a ts=>have:=HS.out; simp [R.sees] at this; simp [R.skips,skip,this] at hq; simpa [R.bind,must,this,Go.Mq.Ref.RQ] using hq
   | bad en p=>cases HS.out
  have HC:=Lib.hid hc; have HH:=Lib.hid hq
  clear hc hq
  go_wp2_with fail
  exact bodyPost_end (results_none rfl _ _ _) rfl ⟨rfl,HC.out,HH.out⟩
end
end Go.Proofs.YtojkkgghndeimaaGreatDoor
namespace Go.Proofs.YtojkkgghndeimaaGreatDoor
open Go Go.RowKit Go.Mq Go.Mq.Tree Go.Mq.Ref
set_option maxRecDepth 100000
set_option maxHeartbeats 1000000
theorem roneOf_any {w:World} {B:Nat} (hL:RLaid w B) (s words:List UInt8) (ws:List (List UInt8)) (hw : words ++ [32]=flatW ws) (hb : ∀ x∈ws,x≠[]∧(32:UInt8)∉x) (hs : s.length≤4000000000) (hl : words.length≤1000) :
  Calls Tryz.prog 95 #[str s,str words] w (fun e w'=>e = .returned (.bool (ws.contains s))∧w'=w):=by
 obtain ⟨m,hm⟩:=hL.mx
 rw [← one_words hb]
 have h1:=Any.strings_Contains Tryz.lays144 (bs s) ⟨#[32]⟩ m w (by show s.length < _; omega) hm
 have h2:=Any.strings_Contains Tryz.lays144 (⟨#[32]⟩ ++ bs words ++ ⟨#[32]⟩) (⟨#[32]⟩ ++ bs s ++ ⟨#[32]⟩) m w (by simp [ByteArray.size_append,bs_size]; omega) hm
 have e1:Lib.contains (bs s).data.toList (ByteArray.mk #[32]).data.toList=decide ((32:UInt8)∈s):=contains_blank
 have e2 : (32:UInt8)∉s→Lib.contains (⟨#[32]⟩ ++ bs words ++ ⟨#[32]⟩ : ByteArray).data.toList (⟨#[32]⟩ ++ bs s ++ ⟨#[32]⟩ : ByteArray).data.toList=ws.contains s:=fun hn=>by
  rw [← contains_word hn (fun x hx=>(hb x hx).2),← hw]
  simp [bs]
 rw [e1] at h1
 have H1:=Lib.hid h1; have H2:=Lib.hid h2; have E2:=Lib.hid e2
 have HR:=Lib.hid (show oneL s ws=(s != [] && !decide ((32:UInt8)∈s) && ws.contains s) from rfl)
 cases hm2 : decide ((32:UInt8)∈s)
 all_goals
  rw [hm2] at H1 HR
  try have H2:=Lib.hid (E2.out (of_decide_eq_false hm2) ▸ H2.out)
  clear h1 h2 e1 e2 hm hL hw hb E2 hm2
  go_enter Tryz.func95,Tryz.ntmps95
  go_wp2_with fail
 ·go_ret
  exact ⟨by rw [HR.out]; cases s <;> simp_all,rfl⟩
 ·refine H1.out.mono ?_; rintro _ _ ⟨rfl,rfl⟩
  go_wp2_with fail
  refine H2.out.mono ?_; rintro _ _ ⟨rfl,rfl⟩
  go_wp2_with fail
  go_ret
  exact ⟨by rw [HR.out]; cases s <;> simp_all,rfl⟩
 ·go_ret
  exact ⟨by rw [HR.out]; cases s <;> simp_all,rfl⟩
 ·refine H1.out.mono ?_; rintro _ _ ⟨rfl,rfl⟩
  go_wp2_with fail
  go_ret
  exact ⟨by rw [HR.out]; cases s <;> simp_all,rfl⟩
theorem rname_any {w:World} {B bp bt z:Nat} {ts:List Tok} (h:RP w B bp bt z none ts):Calls Tryz.prog 40 #[ptr bp] w (RTold w B bp bt z (name z ts) (fun _ n v=>v=str n) (fun _ v=>∃ s,v=str s)):=by
 obtain ⟨off,c,k,t,HH,⟨b0,b1,b2⟩,c0,c1,c2⟩:=h.cells
 obtain ⟨hk,ht⟩:=HH.out.2.2.eq
 have htl:=h.textLe
 have hn:=name_eq z ts
 rw [← hk,← ht] at hn
 rw [← ht] at htl
 have hl:=HH.out.2.1
 have hbp:=RQ.lt (r:=.ok () ts) h
 obtain ⟨w1,hw1⟩ : ∃ x,x=w.alloc (.cells #[num k,str t,num (hd z ts)] 82):=⟨_,rfl⟩
 have hc1:Chg [] w w1:=hw1 ▸ (Chg.refl [] w).alloc _
 have HB1:Hid (Blk w1 w.heap.size #[num k,str t,num (hd z ts)] 82):=Lib.hid (hw1 ▸ Blk.new w _ _)
 have HP1:=Lib.hid (h.same hc1)
 have HC1:=Lib.hid hc1
 have HO:=Lib.hid (roneOf_any HP1.out.laid t [109,111,100,117,108,101,32,105,109,112,111,114,116,32,118,97,114,32,112,114,111,99,32,98,101,103,105,110,32,101,110,100,32,105,102,32,116,104,101,110,32,101,108,115,105,102,32,101,108,115,101,32,119,104,105,108,101,32,100,111,32,114,101,116,117,114,110,32,119,114,105,116,101,32,105,110,116,32,97,114,114,97,121,32,111,114,32,97,110,100,32,110,111,116,32,100,105,118,32,109,111,100] keptWords (by decide) (by decide) htl (by decide))
 have HN:=Lib.hid hn
 clear h hk ht hn hc1
 cases hb : (k != (1:Int) || kept t)
 case true=>
  have HN:=Lib.hid (show name z ts = .bad 3 (hd z ts) by rw [HN.out,hb,if_pos rfl])
  cases hk1 : (k != (1:Int))
  case' false=>
   have HK:=Lib.hid (show keptWords.contains t=true from (by simpa [hk1] using hb : kept t=true))
   rw [HK.out] at HO
   clear hb
   go_enter Tryz.func40,Tryz.ntmps40
   go_wp2_with fail
   rw [← hw1]
   clear hw1
   refine HO.out.mono ?_; rintro _ _ ⟨rfl,rfl⟩
   go_wp2_with fail
  case' true=>
   clear hb
   go_enter Tryz.func40,Tryz.ntmps40
   go_wp2_with fail
   rw [← hw1]
   clear hw1
  all_goals
   refine (rfails_q (q:=(.ok () ts:R Unit)) (β:=List UInt8) HP1.out 3 (by decide)).mono ?_; rintro _ w2 ⟨rfl,hc2,hq2⟩
   have hb2:=HB1.out.kept hc2 (by simp; omega)
   have e1 : w2.cell? ⟨w.heap.size,1,none⟩=some (str t):=hb2.cell 1 _ rfl
   have HC2:=Lib.hid (HC1.out.weak.then hc2); have HQ2:=Lib.hid (show RQ w2 B bp bt z (.bad 3 (hd z ts):R (List UInt8)) from hq2)
   clear hc2 hq2 hb2
   cases h10 : decide ((10:Int) < (t.length:Int))
   case' true=>
    go_wp2_with fail
    refine (rfails_q (β:=List UInt8) HQ2.out 4 (by decide)).mono ?_; rintro _ w3 ⟨rfl,hc3,hq3⟩
    have HC3:=Lib.hid (HC2.out.then hc3); have HQ3:=Lib.hid (show RQ w3 B bp bt z (.bad 3 (hd z ts):R (List UInt8)) from hq3)
    clear hc3 hq3
    go_wp2_with fail
   case' false=>
    have HC3:=HC2; have HQ3:=HQ2
    obtain ⟨w3,rfl⟩ : ∃ x,x=w2:=⟨_,rfl⟩
    go_wp2_with fail
   all_goals
    refine (rok_q HQ3.out).mono ?_; rintro _ w4 ⟨rfl,hc4⟩
    have HC4:=Lib.hid (HC3.out.then hc4.weak); have HQ4:=Lib.hid (HQ3.out.same hc4)
    simp only [R.isOk]
    clear hc4
    go_wp2_with fail
    go_ret
    rw [HN.out]
    exact ⟨HC4.out,_,rfl,⟨[],rfl⟩,HQ4.out,fun _ _ e=>by cases e⟩
 case false=>
  have HN:=Lib.hid (show name z ts=if 10 < t.length then .bad 4 (hd z ts) else .ok t ts.tail by rw [HN.out,hb,if_neg (by simp)])
  have hk1 : (k != (1:Int))=false:=by cases h : (k != (1:Int)) <;> simp_all
  have hkp : keptWords.contains t=false:=(by simpa [hk1] using hb : kept t=false)
  rw [hkp] at HO
  clear hb hkp
  have e1 : w1.cell? ⟨w.heap.size,1,none⟩=some (str t):=HB1.out.cell 1 _ rfl
  go_enter Tryz.func40,Tryz.ntmps40
  go_wp2_with fail
  rw [← hw1]
  refine HO.out.mono ?_; rintro _ _ ⟨rfl,rfl⟩
  have HW:=Lib.hid hw1
  clear hw1
  cases h10 : decide ((10:Int) < (t.length:Int))
  ·have hts : ∃ x r,ts=x :: r:=by
    cases ts with
    | nil=>have:=HH.out.2.2.1; simp [this] at hk1
    | cons x r=>exact ⟨x,r,rfl⟩
   obtain ⟨x,r,rfl⟩:=hts
   have HN':=Lib.hid (show name z (x :: r) = .ok t r by rw [HN.out,if_neg (by have:=of_decide_eq_false h10; omega)]; rfl)
   go_wp2_with fail
   refine (rok_q (q:=(.ok () (x :: r):R Unit)) HP1.out).mono ?_; rintro _ w2 ⟨rfl,hc2⟩
   simp only [R.isOk]
   have hp2:=HP1.out.same hc2
   obtain ⟨off2,c2',k2,t2,HH2,⟨d0,d1,d2⟩,g0,g1,g2⟩:=hp2.cells
   have hf:=HH2.out.1.frozen 0
   have HT:=Lib.hid (hp2.tail HH2.out.1 HH2.out.2.1 HH2.out.2.2.2.2)
   have hl2:=HH2.out.2.1
   simp only [List.length_cons] at d0 hl2
   have e2 : w2.cell? ⟨w.heap.size,1,none⟩=some (str t):=hc2.cellSome e1 (by simp)
   have hnb : w.heap.size≠bp:=by omega
   have HC2:=Lib.hid (HC1.out.then hc2)
   clear hc2 hp2 d1 d2 g0 g1 g2 b0 b1 b2 c0 c1 c2 e1
   go_wp2_with fail
   go_ret
   rw [HN'.out]
   refine ⟨HC2.out.weak.then HT.out.2,_,rfl,⟨_,rfl⟩,HT.out.1,fun _ _ e=>?_⟩
   cases e; rfl
  ·have HN':=Lib.hid (show name z ts = .bad 4 (hd z ts) by rw [HN.out,if_pos (by have:=of_decide_eq_true h10; omega)])
   go_wp2_with fail
   refine (rfails_q (q:=(.ok () ts:R Unit)) (β:=List UInt8) HP1.out 4 (by decide)).mono ?_; rintro _ w3 ⟨rfl,hc3,hq3⟩
   have HC3:=Lib.hid (HC1.out.weak.then hc3); have HQ3:=Lib.hid (show RQ w3 B bp bt z (.bad 4 (hd z ts):R (List UInt8)) from hq3)
   clear hc3 hq3
   go_wp2_with fail
   refine (rok_q HQ3.out).mono ?_; rintro _ w4 ⟨rfl,hc4⟩
   have HC4:=Lib.hid (HC3.out.then hc4.weak); have HQ4:=Lib.hid (HQ3.out.same hc4)
   simp only [R.isOk]
   clear hc4
   go_wp2_with fail
   go_ret
   rw [HN'.out]
   exact ⟨HC4.out,_,rfl,⟨[],rfl⟩,HQ4.out,fun _ _ e=>by cases e⟩
end Go.Proofs.YtojkkgghndeimaaGreatDoor
namespace Go.Mq.Ref
open Go Go.RowKit Go.Mq Go.Mq.Tree
def UintOf (t:List UInt8) (e:Ending):Prop:=match Lib.parseUintB 64 t with
 | .ok v=>e = .returned (.tuple #[.int .u64 v,.nilIface])
 | _=>∃ (n:Int) (T:TypeId) (b:Nat),e = .returned (.tuple #[.int .u64 n,.iface T (.pointer (some ⟨b,0,none⟩))])
theorem number_eq {z:Nat} {most:Int} (hm : most≤9223372036854775807) : ∀ {ts:List Tok},(∀ t∈ts,t.kind = .number → ∃ c r,t.text=c :: r∧c.toNat≠43∧c.toNat≠45) →
  number z most ts=if (tokK ts != 2)=true then .bad 3 (hd z ts) else match Lib.parseUintB 64 (tokT ts) with
   | .ok u=>if most < u then .bad 4 (hd z ts) else .ok u ts.tail
   | _=>.bad 4 (hd z ts)
 | [],_=>rfl
 | t :: r,h=>by
  cases hk : t.kind with
  | word=>simp [number,tokK,Kind.num,hk,hd]
  | mark=>simp [number,tokK,Kind.num,hk,hd]
  | number=>
   obtain ⟨c,l,ht,h1,h2⟩:=h t (by simp) hk
   simp only [number,tokK,tokT,Kind.num,hk,hd,ht,Lib.parseIntB_plain 64 c l h1 h2,List.tail]
   rcases Lib.parseUintB 64 (c :: l) with u | _ | _
   ·simp only [Lib.signlessC]
    by_cases hu : 2 ^ (64 - 1)≤u
    ·have : most < (u:Int):=by have : (2 ^ (64 - 1):Nat)=9223372036854775808:=rfl; omega
     simp [hu,this]
    ·simp [hu]
   ·simp [Lib.signlessC]
   ·simp [Lib.signlessC]
end Go.Mq.Ref
namespace Go.Proofs.YtojkkgghndeimaaGreatDoor
open Go Go.RowKit Go.Mq Go.Mq.Tree Go.Mq.Ref
set_option maxRecDepth 100000
set_option maxHeartbeats 2000000
theorem parseUint_any (t:List UInt8) (w:World) (B:Nat) (hL:Laid w B) (ht : t.length≤4000000000) :
  Calls Tryz.prog 96 #[str t,.int .i64 10,.int .i64 64] w (fun e w'=>Chg [] w w'∧UintOf t e):=by
 have hd : (bs t).data.toList=t:=rfl
 have hz : (bs t).size=t.length:=rfl
 unfold UintOf
 rcases hp:Lib.parseUintB 64 t with v | _ | _
 ·skip
  refine (Any.strconv_ParseUint_10_at64_ok Tryz.laysPu14 (bs t) (by omega) v (by rw [hd]; exact hp) w).mono ?_
  rintro e w' ⟨rfl,rfl | rfl⟩
  ·exact ⟨Chg.refl _ _,rfl⟩
  ·exact ⟨Chg.of_below (Lib.bytesWorld_below _ _ _),rfl⟩
 ·skip
  obtain ⟨ev,h1,h2⟩:=hL.syn
  refine (Any.strconv_ParseUint_10_at64_syntax Tryz.laysPu14 (bs t) (by omega) (by rw [hd]; exact hp) ev w h1 h2).mono ?_
  rintro e w' ⟨N,rfl,_,_,hb⟩
  exact ⟨Chg.of_below hb,_,_,_,rfl⟩
 ·skip
  obtain ⟨ev,h1,h2⟩:=hL.range
  refine (Any.strconv_ParseUint_10_at64_range Tryz.laysPu14 (bs t) (by omega) (by rw [hd]; exact hp) ev w h1 h2).mono ?_
  rintro e w' ⟨N,rfl,_,_,hb⟩
  exact ⟨Chg.of_below hb,_,_,_,rfl⟩
theorem rnumber_any {w:World} {B bp bt z:Nat} {ts:List Tok} (h:RP w B bp bt z none ts) (most:Int) (hm0 : 0≤most) (hm : most≤9223372036854775807) :
  Calls Tryz.prog 44 #[ptr bp,num most] w (RTold w B bp bt z (number z most ts) (fun _ n v=>v=num n) (fun _ v=>∃ n,v=num n)):=by
 obtain ⟨off,c,k,t,HH,⟨b0,b1,b2⟩,c0,c1,c2⟩:=h.cells
 obtain ⟨hk,ht⟩:=HH.out.2.2.eq
 have htl:=h.textLe
 have hn:=number_eq (z:=z) hm h.digs
 rw [← hk,← ht] at hn
 rw [← ht] at htl
 have hbp:=RQ.lt (r:=.ok () ts) h
 obtain ⟨w1,hw1⟩ : ∃ x,x=w.alloc (.cells #[num k,str t,num (hd z ts)] 82):=⟨_,rfl⟩
 have hc1:Chg [] w w1:=hw1 ▸ (Chg.refl [] w).alloc _
 have HB1:Hid (Blk w1 w.heap.size #[num k,str t,num (hd z ts)] 82):=Lib.hid (hw1 ▸ Blk.new w _ _)
 have HP1:=Lib.hid (h.same hc1)
 have HC1:=Lib.hid hc1
 have HN:=Lib.hid hn
 have hwm:IntKind.u64.wrap most=most:=by simp only [IntKind.wrap,IntKind.bits,IntKind.signed]; simp; omega
 have HTL:=Lib.hid htl
 clear h hk ht hn hc1 htl
 go_enter Tryz.func44,Tryz.ntmps44
 go_wp2_with fail
 rw [← hw1]
 have HW:=Lib.hid hw1
 clear hw1
 refine (rok_q (q:=(.ok () ts:R Unit)) HP1.out).mono ?_; rintro _ w2 ⟨rfl,hc2⟩
 simp only [R.isOk]
 have hb2:=HB1.out.kept hc2 (by simp)
 have e0 : w2.cell? ⟨w.heap.size,0,none⟩=some (num k):=hb2.cell 0 _ rfl
 have e1 : w2.cell? ⟨w.heap.size,1,none⟩=some (str t):=hb2.cell 1 _ rfl
 have HC2:=Lib.hid (HC1.out.then hc2); have HP2:=Lib.hid (HP1.out.same hc2)
 clear hc2 hb2 b0 b1 b2 c0 c1 c2
 cases hk1 : (k != (2:Int))
 ·rw [hk1] at HN
  rcases hp:Lib.parseUintB 64 t with v | _ | _
  ·rw [hp] at HN
   have HV:Hid (∀ e,UintOf t e→e = .returned (.tuple #[.int .u64 v,.nilIface])):=Lib.hid (fun e he=>by rw [UintOf,hp] at he; exact he)
   clear hp
   go_wp2_with fail
   refine (parseUint_any t w2 B HP2.out.laid.laid HTL.out).mono ?_; rintro e w3 ⟨hc3,he⟩
   obtain rfl:=HV.out e he
   have HC3:=Lib.hid (HC2.out.then hc3); have HP3:=Lib.hid (HP2.out.same hc3)
   clear hc3 he
   cases hv : decide (most < (v:Int))
   ·have hts : ∃ x r,ts=x :: r:=by
     cases ts with
     | nil=>have:=HH.out.2.2.1; simp [this] at hk1
     | cons x r=>exact ⟨x,r,rfl⟩
    obtain ⟨x,r,rfl⟩:=hts
    have HN':=Lib.hid (show number z most (x :: r) = .ok v r by rw [HN.out,if_neg (by simp)]; exact if_neg (of_decide_eq_false hv))
    have hwv:IntKind.i64.wrap (v:Int)=v:=by
     have:=of_decide_eq_false hv
     simp only [IntKind.wrap,IntKind.bits,IntKind.signed]; simp; omega
    obtain ⟨off2,c2',k2,t2,HH2,⟨d0,d1,d2⟩,g0,g1,g2⟩:=HP3.out.cells
    have hf:=HH2.out.1.frozen 0
    have HT:=Lib.hid (HP3.out.tail HH2.out.1 HH2.out.2.1 HH2.out.2.2.2.2)
    have hl2:=HH2.out.2.1
    simp only [List.length_cons] at d0 hl2
    clear d1 d2 g0 g1 g2 e0 e1
    go_wp2_with fail
    go_ret
    rw [HN'.out]
    refine ⟨HC3.out.weak.then HT.out.2,_,rfl,⟨_,rfl⟩,HT.out.1,fun _ _ e=>?_⟩
    cases e; rfl
   ·have HN':=Lib.hid (show number z most ts = .bad 4 (hd z ts) by rw [HN.out,if_neg (by simp)]; exact if_pos (of_decide_eq_true hv))
    go_wp2_with fail
    refine (rfails_q (q:=(.ok () ts:R Unit)) (β:=Int) HP3.out 4 (by decide)).mono ?_; rintro _ w4 ⟨rfl,hc4,hq4⟩
    have HC4:=Lib.hid (HC3.out.weak.then hc4); have HQ4:=Lib.hid hq4
    clear hc4 hq4
    go_wp2_with fail
    go_ret
    rw [HN'.out]
    exact ⟨HC4.out,_,rfl,⟨_,rfl⟩,HQ4.out,fun _ _ e=>by cases e⟩
  all_goals
   rw [hp] at HN
   have HV:Hid (∀ e,UintOf t e → ∃ (n:Int) (T:TypeId) (b:Nat),e = .returned (.tuple #[.int .u64 n,.iface T (.pointer (some ⟨b,0,none⟩))])):=Lib.hid (fun e he=>by rw [UintOf,hp] at he; exact he)
   have HN':=Lib.hid (show number z most ts = .bad 4 (hd z ts) by rw [HN.out,if_neg (by simp)])
   clear hp
   go_wp2_with fail
   refine (parseUint_any t w2 B HP2.out.laid.laid HTL.out).mono ?_; rintro e w3 ⟨hc3,he⟩
   obtain ⟨n,T,b,rfl⟩:=HV.out e he
   have HC3:=Lib.hid (HC2.out.then hc3); have HP3:=Lib.hid (HP2.out.same hc3)
   clear hc3 he
   go_wp2_with fail
   refine (rfails_q (q:=(.ok () ts:R Unit)) (β:=Int) HP3.out 4 (by decide)).mono ?_; rintro _ w4 ⟨rfl,hc4,hq4⟩
   have HC4:=Lib.hid (HC3.out.weak.then hc4); have HQ4:=Lib.hid hq4
   clear hc4 hq4
   go_wp2_with fail
   go_ret
   rw [HN'.out]
   exact ⟨HC4.out,_,rfl,⟨_,rfl⟩,HQ4.out,fun _ _ e=>by cases e⟩
 ·rw [hk1] at HN
  have HN':=Lib.hid (show number z most ts = .bad 3 (hd z ts) by rw [HN.out,if_pos rfl])
  go_wp2_with fail
  refine (rfails_q (q:=(.ok () ts:R Unit)) (β:=Int) HP2.out 3 (by decide)).mono ?_; rintro _ w4 ⟨rfl,hc4,hq4⟩
  have HC4:=Lib.hid (HC2.out.weak.then hc4); have HQ4:=Lib.hid hq4
  clear hc4 hq4
  go_wp2_with fail
  go_ret
  rw [HN'.out]
  exact ⟨HC4.out,_,rfl,⟨_,rfl⟩,HQ4.out,fun _ _ e=>by cases e⟩
end Go.Proofs.YtojkkgghndeimaaGreatDoor
namespace Go.Mq.Ref
open Go Go.RowKit Go.Mq Go.Mq.Tree
def NmLeft (w:World) (B bp bt z most:Nat) (ts:List Tok) (b:Bool) (xs:List (List UInt8)):Prop:=match b with
 | true=>∃ f ts',names z most ts=namesL z most f xs ts'∧f + xs.length=most + 1∧xs.length≤most∧RP w B bp bt z none ts'
 | false=>RQ w B bp bt z (names z most ts) ∧ ∀ a r,names z most ts = .ok a r→a=xs
theorem NmLeft.next {w:World} {B bp bt z most f:Nat} {ts ts':List Tok} {xs:List (List UInt8)} {s:List UInt8} (h : names z most ts=namesL z most (f + 1) xs ts') (hne : xs.length≠most) (hf : f + 1 + xs.length=most + 1) (hx : xs.length≤most)
  (hv : ∀ a r,name z ts' = .ok a r→a=s) (hq:RQ w B bp bt z ((name z ts').skips [44])):NmLeft w B bp bt z most ts ((name z ts').sees [44]) (xs ++ [s]):=by
 rw [namesL,if_neg hne] at h
 cases hn : name z ts' with
 | bad en p=>
  rw [hn] at h hq
  exact ⟨by rw [h]; exact hq,fun a r e=>by rw [h] at e; cases e⟩
 | ok n r=>
  have:=hv n r hn
  subst this
  rw [hn] at h hq
  simp only [R.sees]
  simp only [R.skips,skip,Go.Mq.Ref.RQ] at hq
  cases hs : see [44] r with
  | true=>
   simp only [hs,if_true] at h hq
   exact ⟨f,r.tail,h,by simp; omega,by simp; omega,hq⟩
  | false=>
   simp only [hs,Bool.false_eq_true,if_false] at h hq
   exact ⟨by rw [h]; exact hq,fun a r e=>by rw [h] at e; cases e; rfl⟩
end Go.Mq.Ref
namespace Go.Proofs.YtojkkgghndeimaaGreatDoor
open Go Go.RowKit Go.Mq Go.Mq.Tree Go.Mq.Ref
set_option maxRecDepth 100000
set_option maxHeartbeats 2000000
theorem rnames_any (most:Nat) (hmost : most≤1000) {w:World} {B bp bt z:Nat} {ts:List Tok} (h:RP w B bp bt z none ts) :
  Calls Tryz.prog 42 #[ptr bp,num most] w (RTold w B bp bt z (names z most ts) (fun w' l v=>NamesAt w' (New w w') l v) (fun _ v=>∃ a n c,v = .slice a n c)):=by
 have hq:RQ w B bp bt z (.ok () ts:R Unit):=h
 have hB:=h.laid.laid.le
 have hbp:=hq.lt
 have hbt:=hq.bt_lt
 have HOK:=Lib.hid (rok_q hq); have H:=Lib.hid h
 clear h hq
 go_enter Tryz.func42,Tryz.ntmps42
 go_wp2_with fail
 refine HOK.out.mono ?_; rintro _ w0 ⟨rfl,hc0⟩
 simp only [R.isOk]
 have HC0:=Lib.hid hc0; clear hc0
 go_wp2_with fail
 go_loopw [5,6] (fun l m wr=>∃ (b:Bool) (xs:List (List UInt8)),m = .bool b∧wr.ownsRow 0 9 1 l xs.length (xs.map str)∧From w.heap.size l∧Chg [bp] w wr∧NmLeft wr B bp bt z most ts b xs) (fun l _ _=>most + 1 - lenOf l)
 case atStart=>exact ⟨true,[],rfl,World.ownsRow_nil _ _ _ _,From.nil _,HC0.out.weak,most + 1,ts,rfl,rfl,Nat.zero_le _,H.out.same HC0.out⟩
 case round=>
  obtain ⟨b,xs,rfl,ho,hF,hC,hL⟩:=hrel
  have HO:=Lib.hid ho; have HF:=Lib.hid hF; have HC:=Lib.hid hC
  obtain ⟨sa,sc,hs⟩:=slice_of_owns ho
  clear ho hF hC
  cases b with
  | false=>
   have HL:=Lib.hid hL
   clear hL
   go_wp2_with fail
   go_ret
   refine ⟨HC.out,_,rfl,⟨_,_,_,hs⟩,HL.out.1,fun a r e=>?_⟩
   obtain rfl:=HL.out.2 a r e
   obtain ⟨a',c',rfl,hac,hrow⟩:=Row.of_owns (HO.out) (new_owns HO.out HF.out)
   exact ⟨a',c',by simp,by simpa using hac,hrow⟩
  | true=>
   obtain ⟨f,ts',hr,hf,hx,hp⟩:=hL
   have HR:=Lib.hid hr; have HP:=Lib.hid hp
   clear hr hp
   subst hs
   obtain ⟨f,rfl⟩ : ∃ f',f=f' + 1:=⟨f - 1,by omega⟩
   cases he : decide (most≤xs.length) with
   | true=>
    have HRR:=Lib.hid (show names z most ts = .bad 4 (hd z ts') by rw [HR.out,namesL,if_pos (by have:=of_decide_eq_true he; omega)])
    go_wp2_with fail
    refine (rfails_q (q:=(.ok () ts':R Unit)) (β:=List (List UInt8)) HP.out 4 (by decide)).mono ?_; rintro _ w2 ⟨rfl,hc2,hq2⟩
    have HC2:=Lib.hid (HC.out.then hc2); have HQ2:=Lib.hid hq2
    clear hc2 hq2
    go_wp2_with fail
    go_ret
    rw [HRR.out]
    exact ⟨HC2.out,_,rfl,⟨_,_,_,rfl⟩,HQ2.out,fun _ _ e=>by cases e⟩
   | false=>
    have hne : xs.length≠most:=by have:=of_decide_eq_false he; omega
    have HN:=Lib.hid (rname_any HP.out)
    go_wp2_with fail
    refine HN.out.mono ?_; rintro e w2 ⟨hc2,_,rfl,⟨s,rfl⟩,hq2,hv2⟩
    have HC2:=Lib.hid hc2; have HQ2:=Lib.hid hq2
    have HV2:Hid (∀ a r,name z ts' = .ok a r→a=s):=Lib.hid fun a r e=>by have:=hv2 a r e; simpa [bs] using this.symm
    have ho2:=owns_kept HO.out ((hc2.alloc (.cells #[str s] 9))) (fun g hg hm=>by have:=HF.out g hg; simp at hm; omega)
    have HO2:=Lib.hid ho2
    clear hc2 hq2 hv2 ho2
    go_wp2_with (at_builtin; go_must (refine wpL_append rfl _ _ 25 rfl 9 _ 1 16 infoStr Tryz.underlying25 rfl (by decide) _ _ _ rfl HO2.out ⟨w2.heap.size,0,none⟩ 1 1 [_] rfl rfl (cell_new1 _ _ _) (by simp [Value.oneCell']) ?_ ?_ ?_))
    ·omega
    ·unfold maxLen; omega
    ·intro v' w' hown' hch' hmv'
     have HO':=Lib.hid hown'; clear hown'
     obtain ⟨hq3,hc3,hf3⟩:=HQ2.out.grow hB hbp hbt HC.out HC2.out HF.out hch' hmv'
     have HC3:=Lib.hid hc3; have HF3:=Lib.hid hf3; have HT:=Lib.hid (rtake_q hq3 [44])
     clear hch' hmv' hq3 hc3 hf3
     go_wp2_with fail
     refine HT.out.mono ?_; rintro e w4 ⟨rfl,hc4,hq4⟩
     have HQ4:=Lib.hid hq4; have HC4:=Lib.hid hc4
     clear hq4 hc4
     go_wp2_with fail
     have ho4:=owns_kept HO'.out HC4.out (fun g hg hm=>by have:=HF3.out g hg; simp at hm; omega)
     have hl4 : lenOf v'=xs.length + 1:=lenOf_owns HO'.out
     refine ⟨⟨_,xs ++ [s],rfl,by simpa using ho4,HF3.out,HC3.out.then HC4.out,NmLeft.next HR.out hne hf hx HV2.out HQ4.out⟩,?_⟩
     rw [hl4]; simp only [lenOf]; omega
end Go.Proofs.YtojkkgghndeimaaGreatDoor
namespace Go.Mq.Ref
open Go Go.RowKit Go.Mq Go.Mq.Tree
theorem opOf_tok (lv:List (List UInt8)) (ts:List Tok) : opOf lv ts=if (tokK ts != 4 && lv.contains (tokT ts))=true then some (tokT ts) else none:=by
 cases ts with
 | nil=>
  have : opOf lv []=none:=by simp [opOf,see]
  rw [this]; rfl
 | cons t r=>
  have hk : (tokK (t :: r) != 4)=true:=by cases h : t.kind <;> simp [tokK,h,Kind.num]
  rw [hk,Bool.true_and]
  show opOf lv (t :: r)=if lv.contains t.text=true then some t.text else none
  unfold opOf
  induction lv with
  | nil=>rfl
  | cons m l ih=>
   rw [List.find?_cons,List.contains_cons]
   simp only [see] at ih ⊢
   cases h : t.text == m with
   | true=>rw [Bool.true_or,if_pos rfl]; simp only; rw [beq_iff_eq.1 h]
   | false=>simpa using ih
def rcnt (w:World) (bp:Nat):Nat:=match w.cell? ⟨bp,1,none⟩ with
 | some (.int _ 0)=>cntOf w bp
 | _=>0
section
variable {w:World} {B bp bt z:Nat} {ts:List Tok}
theorem RP.cnt (h:RP w B bp bt z none ts) : rcnt w bp=ts.length + 1:=by
 obtain ⟨off,c,hb,_⟩:=h.at_
 rw [rcnt,hb.cell 1 _ rfl]
 simp only [badE,cntOf,hb.cell 0 _ rfl]
 rfl
theorem RP.cnt0 {x:Nat × Nat} (h:RP w B bp bt z (some x) ts) : rcnt w bp=0:=by
 obtain ⟨off,c,hb,_⟩:=h.at_
 have hx:=h.nz x rfl
 rw [rcnt,hb.cell 1 _ rfl]
 simp only [badE]
 split
 ·next e=>simp at e; omega
 ·rfl
theorem RQ.cntLe {α:Type} {r:R α} {n:Nat} (h:RQ w B bp bt z r) (hn : ∀ a ts,r = .ok a ts→ts.length < n) : rcnt w bp≤n:=by
 cases r with
 | ok a ts=>have:=hn a ts rfl; rw [RP.cnt h]; omega
 | bad en p=>obtain ⟨ts,h⟩:=h; rw [h.cnt0]; omega
end
def BinLeft (w0 w:World) (B bp bt z:Nat) (sub:Ps E) (lv:List (List UInt8)) (p:Nat) (o:R E) (v:Value):Prop:=
 (∃ f x ts,o=binL sub lv p f x ts∧ts.length < f∧EAt w (New w0 w) x [v]∧RP w B bp bt z none ts) ∨ ∃ en q,o = .bad en q∧RQ w B bp bt z o
def RExOK (level deep:Nat) (ex:Nat→Ps E):Prop:=∀ (w:World) (B bp bt z:Nat) (ts:List Tok),RP w B bp bt z none ts →
 Calls Go.Proofs.Tryz.prog 193 #[ptr bp,num level,num deep] w (RTold w B bp bt z (ex z ts) (EV w) (fun _ v=>∃ o,v = .pointer o))
def ROneOK (deep d:Nat):Prop:=∀ (w:World) (B bp bt z:Nat) (ts:List Tok),RP w B bp bt z none ts →
 Calls Go.Proofs.Tryz.prog 224 #[ptr bp,num deep] w (RTold w B bp bt z (one z d ts) (EV w) (fun _ v=>∃ o,v = .pointer o))
theorem lv_words : ∀ (k:Nat) (lv:List (List UInt8)) (s:List UInt8),levels[k]?=some lv→rlevels[k]?=some s→s ++ [32]=flatW lv∧(∀ x∈lv,x≠[]∧(32:UInt8)∉x)∧s.length≤1000:=by
 intro k lv s h1 h2
 have hk : k < 5:=(List.getElem?_eq_some_iff.1 h1).1
 have : k=0∨k=1∨k=2∨k=3∨k=4:=by omega
 rcases this with rfl | rfl | rfl | rfl | rfl <;> (simp [levels] at h1; simp [rlevels] at h2; subst h1 h2; decide)
end Go.Mq.Ref
namespace Go.Proofs.YtojkkgghndeimaaGreatDoor
open Go Go.RowKit Go.Mq Go.Mq.Tree Go.Mq.Ref
set_option maxRecDepth 100000
set_option maxHeartbeats 2000000
theorem rexpr_base (deep d:Nat) (hO:ROneOK deep d):RExOK 5 deep (fun z=>one z d):=by
 intro w B bp bt z ts h
 have HO:=Lib.hid (hO w B bp bt z ts h)
 clear h hO
 go_enter Tryz.func193,Tryz.ntmps193
 go_wp2_with fail
 refine HO.out.mono ?_; rintro e w1 ⟨hc,v,rfl,⟨o,rfl⟩,hq,hv⟩
 have HC:=Lib.hid hc; have HQ:=Lib.hid hq; have HV:=Lib.hid hv
 clear hc hq hv
 go_wp2_with fail
 go_ret
 exact ⟨HC.out,_,rfl,⟨_,rfl⟩,HQ.out,HV.out⟩
theorem rexpr_step (level deep:Nat) (hl : level < 5) (sub:Nat→Ps E) (hmono : ∀ z,Mono (sub z)) (hS:RExOK (level + 1) deep sub) (lv:List (List UInt8)) (hlv : levels[level]?=some lv) (s:List UInt8) (hs : rlevels[level]?=some s) :
  RExOK level deep (fun z=>stepE (sub z) lv z):=by
 intro w B bp bt z ts h
 have hS' : ∀ (w:World) (B bp bt z:Nat) (ts:List Tok),RP w B bp bt z none ts→Calls Tryz.prog 193 #[ptr bp,num ((level:Int) + 1),num deep] w (RTold w B bp bt z (sub z ts) (EV w) (fun _ v=>∃ o,v = .pointer o)):=fun w B bp bt z ts h=>by
  have:=hS w B bp bt z ts h
  simpa using this
 have HSS:=Lib.hid hS'
 have HLV:=Lib.hid (lv_words level lv s hlv hs)
 have HM:=Lib.hid (hmono z)
 have hbp:=RQ.lt (r:=.ok () ts) h
 obtain ⟨off,c,k,t,HH,⟨b0,b1,b2⟩,c0,c1,c2⟩:=h.cells
 have hwr:IntKind.i64.wrap ((level:Int) + 1)=(level:Int) + 1:=by
  simp only [IntKind.wrap,IntKind.bits,IntKind.signed]; simp; omega
 have hl4 : decide ((4:Int) < (level:Int))=false:=decide_eq_false (by omega)
 have H:=Lib.hid h; have HLS:=Lib.hid hs
 clear h hS hS' hlv hs hmono
 go_enter Tryz.func193,Tryz.ntmps193
 go_wp2_with fail
 refine (HSS.out w B bp bt z ts H.out).mono ?_; rintro e w1 ⟨hc1,v,rfl,⟨o,rfl⟩,hq1,hv1⟩
 have hst:BinLeft w w1 B bp bt z (sub z) lv (hd z ts) (stepE (sub z) lv z ts) (.pointer o):=by
  cases hr : sub z ts with
  | ok x r=>rw [hr] at hq1; exact .inl ⟨r.length + 1,x,r,by simp [stepE,hr],Nat.lt_succ_self _,hv1 x r hr,hq1⟩
  | bad en p=>rw [hr] at hq1; exact .inr ⟨en,p,by simp [stepE,hr],by simp only [stepE,hr]; exact hq1⟩
 have HST:=Lib.hid hst; have HC1:=Lib.hid hc1
 clear hst hc1 hq1 hv1 b0 b1 b2 c0 c1 c2
 go_wp2_with fail
 go_loopw [8,9] (fun v _ wr=>(∃ o,v = .pointer o)∧Chg [bp] w wr∧BinLeft w wr B bp bt z (sub z) lv (hd z ts) (stepE (sub z) lv z ts) v) (fun _ _ wr=>rcnt wr bp)
 case atStart=>exact ⟨⟨_,rfl⟩,HC1.out,HST.out⟩
 case round=>
  obtain ⟨⟨o',rfl⟩,hc,hst⟩:=hrel
  have HC:=Lib.hid hc
  clear hc
  rcases hst with ⟨f,x',ts',hb,hf,hx,hp⟩ | ⟨en,q,hb,hq⟩
  ·have HB:=Lib.hid hb; have HX:=Lib.hid hx; have HP:=Lib.hid hp; have hfl:=hf
   obtain ⟨f,rfl⟩ : ∃ f',f=f' + 1:=⟨f - 1,by omega⟩
   have HOP:=Lib.hid (opOf_tok lv ts')
   have HOK:=Lib.hid (rok_q (q:=(.ok () ts':R Unit)) (hp.same (Chg.refl [] wr).drew))
   clear hb hx hp hf
   go_wp2_with fail
   refine wp_region_C [] rfl (by kernel_rfl) ?_
   have hS:Chg [] wr.drew wr.drew:=Chg.refl _ _
   obtain ⟨off,c,k,t,HH,⟨b0,b1,b2⟩,c0,c1,c2⟩:=(HP.out.same (Chg.refl [] wr).drew).cells
   have cl:=(HP.out.laid.kept (Chg.refl [] wr).drew (by simp)).lev level s HLS.out
   have hrk:=HH.out.2.2.eq
   rw [← hrk.1,← hrk.2] at HOP
   have HO:=Lib.hid fun (w:World) (hL:RLaid w B)=>roneOf_any hL t s lv HLV.out.1 HLV.out.2.1 (by rw [hrk.2]; exact HP.out.textLe) HLV.out.2.2
   have HP':=Lib.hid (HP.out.same (Chg.refl [] wr).drew)
   cases hcond : (k != (4:Int) && lv.contains t)
   ·have HRR:=Lib.hid (show stepE (sub z) lv z ts = .ok x' ts' by rw [HB.out,binL,HOP.out,hcond]; rfl)
    cases hk4 : (k != (4:Int))
    case' true=>
     have hcn : lv.contains t=false:=by simpa [hk4] using hcond
     rw [hcn] at HO
     clear hcn
    all_goals
     clear hcond hrk
     repeat ((with_reducible refine gX ?_); (first | refine wpX_nil ?_ | refine sK ?_ | refine sM fun _ _=>?_ | refine sL fun _ _=>?_ | refine sE fun _ _=>?_); go_wp2_with fail)
     refine HOK.out.mono ?_; rintro _ w2 ⟨rfl,hc2⟩
     have HC2:=Lib.hid hc2
     have b0':=hc2.cellSome b0 (by simp); have c0':=hc2.cellSome c0 (by simp); have c1':=hc2.cellSome c1 (by simp); have cl':=hc2.cellSome cl (by simp)
     simp only [R.isOk]
     go_wp2_with fail
     refine And.intro (by assumption:Chg _ _ _) ?_
     repeat ((with_reducible refine gX ?_); (first | refine wpX_nil ?_ | refine sK ?_ | refine sM fun _ _=>?_ | refine sL fun _ _=>?_ | refine sE fun _ _=>?_); go_wp2_with fail)
    case' true=>
     refine (HO.out w2 (HP'.out.same HC2.out).laid).mono ?_; rintro _ w2 ⟨rfl,rfl⟩
     go_wp2_with fail
     refine And.intro (by assumption:Chg _ _ _) ?_
     repeat ((with_reducible refine gX ?_); (first | refine wpX_nil ?_ | refine sK ?_ | refine sM fun _ _=>?_ | refine sL fun _ _=>?_ | refine sE fun _ _=>?_); go_wp2_with fail)
    all_goals
     go_wp2_with fail
     go_ret
     rw [HRR.out]
     exact ⟨HC.out.then ((Chg.refl [] wr).drew.then HC2.out).weak,_,rfl,⟨_,rfl⟩,HP'.out.same HC2.out,fun a r e=>by cases e; exact HX.out.grown hbp ((Chg.refl [] wr).drew.then HC2.out).weak⟩
   ·have hk4 : (k != (4:Int))=true:=by cases h : (k != (4:Int)) <;> simp_all
    have hcn : lv.contains t=true:=by simpa [hk4] using hcond
    have hts : ∃ x r,ts'=x :: r:=by
     cases ts' with
     | nil=>rw [hrk.1] at hk4; cases hk4
     | cons x r=>exact ⟨x,r,rfl⟩
    obtain ⟨x0,r0,rfl⟩:=hts
    rw [hcn] at HO
    simp only [List.length_cons] at b0
    have HN1:Hid (∀ y r,sub z r0 = .ok y r→stepE (sub z) lv z ts=binL (sub z) lv (hd z ts) f (.bin (hd z ts) t x' y) r):=Lib.hid fun y r e=>by
     rw [HB.out,binL,HOP.out,hcond,if_pos rfl]; simp only [List.tail,e]
    have HN2:Hid (∀ en q,sub z r0 = .bad en q→stepE (sub z) lv z ts = .bad en q):=Lib.hid fun en q e=>by
     rw [HB.out,binL,HOP.out,hcond,if_pos rfl]; simp only [List.tail,e]
    clear hcond hrk hcn
    repeat ((with_reducible refine gX ?_); (first | refine wpX_nil ?_ | refine sK ?_ | refine sM fun _ _=>?_ | refine sL fun _ _=>?_ | refine sE fun _ _=>?_); go_wp2_with fail)
    refine HOK.out.mono ?_; rintro _ w2 ⟨rfl,hc2⟩
    have HC2:=Lib.hid hc2
    have b0':=hc2.cellSome b0 (by simp); have c0':=hc2.cellSome c0 (by simp); have c1':=hc2.cellSome c1 (by simp); have cl':=hc2.cellSome cl (by simp)
    simp only [R.isOk]
    go_wp2_with fail
    refine And.intro (by assumption:Chg _ _ _) ?_
    repeat ((with_reducible refine gX ?_); (first | refine wpX_nil ?_ | refine sK ?_ | refine sM fun _ _=>?_ | refine sL fun _ _=>?_ | refine sE fun _ _=>?_); go_wp2_with fail)
    refine (HO.out w2 (HP'.out.same HC2.out).laid).mono ?_; rintro _ w2 ⟨rfl,rfl⟩
    have hb2:=HH.out.1.kept hc2 (by simp)
    have hf:=hb2.frozen 0
    have HT:=Lib.hid ((HP'.out.same hc2).tail hb2 HH.out.2.1 (fun i v hi=>hc2.cellSome (HH.out.2.2.2.2 i v hi) (by simp)))
    have hl2:=HH.out.2.1
    simp only [List.length_cons] at hl2
    go_wp2_with fail
    refine And.intro (by assumption:Chg _ _ _) ?_
    repeat ((with_reducible refine gX ?_); (first | refine wpX_nil ?_ | refine sK ?_ | refine sM fun _ _=>?_ | refine sL fun _ _=>?_ | refine sE fun _ _=>?_); go_wp2_with fail)
    refine (HSS.out _ B bp bt z r0 HT.out.1).mono ?_; rintro e w4 ⟨hc4,v4,rfl,⟨o4,rfl⟩,hq4,hv4⟩
    have HC3:=Lib.hid (((HC.out.then ((Chg.refl [] wr).drew.then HC2.out).weak).then HT.out.2).then hc4)
    have HX4:=Lib.hid (HX.out.grown hbp ((((Chg.refl [] wr).drew.then HC2.out).weak.then HT.out.2).then hc4))
    have HY4:=Lib.hid fun (y:E) r e=>EAt.later (w:=w) (hv4 y r e) ((HC.out.then ((Chg.refl [] wr).drew.then HC2.out).weak).then HT.out.2).size
    have HQ4:=Lib.hid hq4
    have hm : ∀ y r,sub z r0 = .ok y r→r.length < r0.length + 1:=fun y r e=>Nat.lt_succ_of_le (HM.out _ _ _ e)
    clear hc4 hq4 hv4 hc2 hb2 hf
    go_wp2_with fail
    have hq5:=HQ4.out.same ((Chg.refl [] w4).alloc (.cells #[num 5,num (hd z ts),num 0,str [],str [],str t,.pointer o',.pointer o4,nils] 155))
    have hc5:Chg [bp] w4 (w4.alloc (.cells #[num 5,num (hd z ts),num 0,str [],str [],str t,.pointer o',.pointer o4,nils] 155)):=(Chg.refl _ _).alloc _
    refine ⟨⟨⟨_,rfl⟩,HC3.out.then hc5,?_⟩,?_⟩
    ·cases hr : sub z r0 with
     | ok y r=>
      rw [hr] at hq5
      exact .inl ⟨f,.bin (hd z ts) t x' y,r,HN1.out y r hr,by have:=hm y r hr; simp at hfl; omega,⟨w4.heap.size,_,_,rfl,⟨HC3.out.size,by simp⟩,Blk.new _ _ _,HX4.out.grown hbp hc5,(HY4.out y r hr).grown hbp hc5⟩,hq5⟩
     | bad en q=>rw [hr] at hq5; exact .inr ⟨en,q,HN2.out en q hr,by rw [HN2.out en q hr]; exact hq5⟩
    ·exact Nat.lt_of_le_of_lt (hq5.cntLe hm) (by rw [RP.cnt HP.out]; simp)
  ·have HB:=Lib.hid hb
   have HOK:=Lib.hid (rok_q (hq.same (Chg.refl [] wr).drew)); have HQ:=Lib.hid hq
   rw [hb] at HOK
   clear hb hq
   go_wp2_with fail
   refine wp_region_C [] rfl (by kernel_rfl) ?_
   have hS:Chg [] wr.drew wr.drew:=Chg.refl _ _
   repeat ((with_reducible refine gX ?_); (first | refine wpX_nil ?_ | refine sK ?_ | refine sM fun _ _=>?_ | refine sL fun _ _=>?_ | refine sE fun _ _=>?_); go_wp2_with fail)
   refine HOK.out.mono ?_; rintro _ w2 ⟨rfl,hc2⟩
   simp only [R.isOk]
   go_wp2_with fail
   refine And.intro (by assumption:Chg _ _ _) ?_
   repeat ((with_reducible refine gX ?_); (first | refine wpX_nil ?_ | refine sK ?_ | refine sM fun _ _=>?_ | refine sL fun _ _=>?_ | refine sE fun _ _=>?_); go_wp2_with fail)
   go_wp2_with fail
   go_ret
   exact ⟨HC.out.then ((Chg.refl [] wr).drew.then hc2).weak,_,rfl,⟨_,rfl⟩,HQ.out.same ((Chg.refl [] wr).drew.then hc2),fun a r e=>by rw [HB.out] at e; cases e⟩
theorem rexpr_level (deep d:Nat) (hO:ROneOK deep d) (hmono : ∀ z,Mono (one z d)) : ∀ k,k≤5→RExOK (5 - k) deep (fun z=>expr z (one z d) k):=by
 intro k
 induction k with
 | zero=>exact fun _=>rexpr_base deep d hO
 | succ k ih=>
  intro hk
  have hlv : levels[5 - (k + 1)]?=some (levels.getD (4 - k) []):=by
   rw [show 5 - (k + 1)=4 - k by omega]
   have : 4 - k < levels.length:=by show 4 - k < 5; omega
   simp [this]
  obtain ⟨s,hs⟩ : ∃ s,rlevels[5 - (k + 1)]?=some s:=by
   have : 5 - (k + 1) < rlevels.length:=by show _ < 5; omega
   exact ⟨_,List.getElem?_eq_getElem this⟩
  have hS:RExOK (5 - (k + 1) + 1) deep (fun z=>expr z (one z d) k):=by rw [show 5 - (k + 1) + 1=5 - k by omega]; exact ih (by omega)
  exact rexpr_step (5 - (k + 1)) deep (by omega) (fun z=>expr z (one z d) k) (fun z=>expr_mono (hmono z) k) hS _ hlv s hs
end Go.Proofs.YtojkkgghndeimaaGreatDoor
namespace Go.Mq.Ref
open Go Go.RowKit Go.Mq Go.Mq.Tree
theorem R.sees_true {α:Type} {q:R α} {s:List UInt8} (h : q.sees s=true) : ∃ a r,q = .ok a r∧see s r=true:=by
 cases q with
 | ok a r=>exact ⟨a,r,rfl,h⟩
 | bad e p=>cases h
theorem R.skips_false {α:Type} {q:R α} {s:List UInt8} (h : q.sees s=false) : q.skips s=q:=by
 cases q with
 | ok a r=>simp [R.sees] at h; simp [R.skips,skip,h]
 | bad e p=>rfl
theorem RQ.taken {α:Type} {w:World} {B bp bt z:Nat} {a : α} {r:List Tok} {s:List UInt8} (h:RQ w B bp bt z ((.ok a r:R α).skips s)) (hs : see s r=true):RP w B bp bt z none r.tail:=by
 simpa [R.skips,skip,hs,Go.Mq.Ref.RQ] using h
structure Mkx (w wk:World) (bp:Nat) (cs:Array Value):Prop where
 blk:Blk wk w.heap.size cs 155
 chg:Chg [bp] w wk
section
variable {w wk w':World} {bp:Nat} {cs:Array Value}
theorem Mkx.call (h:Mkx w wk bp cs) (hc:Chg [bp] wk w') (hbp : bp < w.heap.size):Mkx w w' bp cs:=⟨h.blk.kept hc (by simp; omega),h.chg.then hc⟩
theorem Mkx.set (h:Mkx w wk bp cs) (i:Nat) (v:Value):Mkx w (wk.setCell ⟨w.heap.size,i,none⟩ v) bp (cs.setIfInBounds i v):=⟨h.blk.set i v,h.chg.setCell _ (.inr (Nat.le_refl _)) v⟩
theorem RQ.made {α:Type} {B bt z:Nat} {q:R α} (h:RQ wk B bp bt z q) (hB:B≤w.heap.size) (hbp : bp < w.heap.size) (hbt : bt < w.heap.size) (i:Nat) (v:Value):RQ (wk.setCell ⟨w.heap.size,i,none⟩ v) B bp bt z q:=
 h.kept (Chg.set1 _ _ _ _) (fun x hx=>by simp at hx; omega)
end
def RefU (w0 w:World) (v:Value):Prop:=∃ (k p:Int) (m n:List UInt8) (i a:Option Addr) (l c:Nat),v=ptr w0.heap.size∧Blk w w0.heap.size #[num k,num p,num 0,str m,str n,str [],.pointer i,nilp,.slice a l c] 155
def ArgLeft (w0 w:World) (B bp bt z:Nat) (ex:Ps E) (o:R (List E)) (b:Bool) (l:Value) (vs:List Value):Prop:=
 (∃ f xs ts,o=argsL z ex (f + 1) b xs ts∧ts.length≤f∧vs.length + ts.length≤600∧EsAt w (Off w0 w l) xs vs∧RP w B bp bt z none ts) ∨ ∃ en q,o = .bad en q∧RQ w B bp bt z o
theorem argsL_next {z f:Nat} {ex:Ps E} {b:Bool} {xs:List E} {ts:List Tok} (h1 : see [41] ts=false) (h2 : b=true∨see [44] ts=true) : argsL z ex (f + 1) b xs ts=(ex (if b then ts else ts.tail)).bind fun x r=>argsL z ex f false (xs ++ [x]) r:=by
 have h3 : ¬ (b=false∧see [44] ts=false):=by rcases h2 with rfl | h2 <;> simp_all
 rw [argsL,h1,if_neg (by simp),if_neg h3]
 cases ex (if b then ts else ts.tail) <;> rfl
end Go.Mq.Ref
namespace Go.Proofs.YtojkkgghndeimaaGreatDoor
open Go Go.RowKit Go.Mq Go.Mq.Tree Go.Mq.Ref
set_option maxRecDepth 100000
set_option maxHeartbeats 4000000
theorem rex_next {deep:Nat} {ex:Nat→Ps E} (h:RExOK 0 (deep + 1) ex) : ∀ (w:World) (B bp bt z:Nat) (ts:List Tok),RP w B bp bt z none ts→Calls Tryz.prog 193 #[ptr bp,num 0,num ((deep:Int) + 1)] w (RTold w B bp bt z (ex z ts) (EV w) (fun _ v=>∃ o,v = .pointer o)):=fun w B bp bt z ts hp=>by
 have:=h w B bp bt z ts hp
 simpa using this
theorem rref_any (deep:Nat) (hdp : deep≤11) (ex:Nat→Ps E) (hE:RExOK 0 (deep + 1) ex) (heats : ∀ z,Eats (ex z)) (w:World) (B bp bt z:Nat) (ts:List Tok) (h:RP w B bp bt z none ts) :
  Calls Tryz.prog 141 #[ptr bp,num deep] w (RTold w B bp bt z (named z (ex z) ts) (EV w) (RefU w)):=by
 have HEX:=Lib.hid (rex_next hE)
 have HEA:=Lib.hid (heats z)
 have hB:B≤w.heap.size:=h.laid.laid.le
 have hbp:=RQ.lt (r:=.ok () ts) h
 have hbt:=RQ.bt_lt (r:=.ok () ts) h
 obtain ⟨off,c,k,t,HH,⟨b0,b1,b2⟩,c0,c1,c2⟩:=h.cells
 have hwr:=wrap_next (deep:=deep) hdp
 obtain ⟨p,hp⟩ : ∃ p,p=hd z ts:=⟨_,rfl⟩
 rw [← hp] at c2
 have HPP:=Lib.hid hp
 obtain ⟨w1,hw1⟩ : ∃ x,w.alloc (.cells #[num 2,num p,num 0,str [],str [],str [],nilp,nilp,nils] 155)=x:=⟨_,rfl⟩
 have hc1:Chg [] w w1:=hw1 ▸ (Chg.refl [] w).alloc _
 have HS1:=Lib.hid (show w1.heap.size=w.heap.size + 1 by rw [← hw1]; simp)
 have HM1:=Lib.hid (show Mkx w w1 bp #[num 2,num p,num 0,str [],str [],str [],nilp,nilp,nils] from hw1 ▸ ⟨Blk.new _ _ _,(Chg.refl _ _).alloc _⟩)
 have HN:=Lib.hid (rname_any (h.same hc1))
 clear h hE heats hp hc1
 go_enter Tryz.func141,Tryz.ntmps141
 go_wp2_with fail
 clear hw1
 refine HN.out.mono ?_; rintro _ w2 ⟨hc2,_,rfl,⟨n,rfl⟩,hq2,hv2⟩
 have hm2:=HM1.out.call hc2 hbp
 have f4:=hm2.blk.frozen 4; have c4:=hm2.blk.cell 4 _ rfl
 obtain ⟨w3,hw3⟩ : ∃ x,w2.setCell ⟨w.heap.size,4,none⟩ (str n)=x:=⟨_,rfl⟩
 have hm3:Mkx w w3 bp #[num 2,num p,num 0,str [],str n,str [],nilp,nilp,nils]:=hw3 ▸ hm2.set 4 (str n)
 have hq3:RQ w3 B bp bt z (name z ts):=hw3 ▸ hq2.made hB hbp hbt 4 (str n)
 have HM3:=Lib.hid hm3; have HT3:=Lib.hid (rtake_q hq3 [46])
 have HV2:Hid (∀ a r,name z ts = .ok a r→a=n):=Lib.hid fun a r e=>by have:=hv2 a r e; simpa [bs] using this.symm
 clear hc2 hq2 hv2 hm2 hm3 hq3 c0 c1 c2 b0 b1 b2
 go_wp2_with fail
 clear hw3 f4 c4
 refine HT3.out.mono ?_; rintro _ w4 ⟨rfl,hc4,hq4⟩
 have hm4:=HM3.out.call hc4 hbp
 cases hs : (name z ts).sees [46]
 case' true=>
  obtain ⟨n',r,hnr,hsr⟩:=R.sees_true hs
  obtain rfl:=HV2.out n' r hnr
  rw [hnr] at hq4
  have hp4:=hq4.taken hsr
  have c4:=hm4.blk.cell 4 _ rfl; have f3:=hm4.blk.frozen 3; have c3:=hm4.blk.cell 3 _ rfl
  obtain ⟨w5,hw5⟩ : ∃ x,w4.setCell ⟨w.heap.size,3,none⟩ (str n')=x:=⟨_,rfl⟩
  have hm5:Mkx w w5 bp #[num 2,num p,num 0,str n',str n',str [],nilp,nilp,nils]:=hw5 ▸ hm4.set 3 (str n')
  have HM5:=Lib.hid hm5
  have HN5:=Lib.hid (rname_any (hw5 ▸ RQ.made (q:=(.ok () r.tail:R Unit)) hp4 hB hbp hbt 3 (str n'):RP w5 B bp bt z none r.tail))
  have HQL:=Lib.hid (show qual z ts=(name z r.tail).bind fun n2 r2=>.ok (n',n2) r2 by rw [qual,hnr]; simp only [hsr,if_true]; cases name z r.tail <;> rfl)
  clear hs hc4 hq4 hm4 hm5 hp4 hnr hsr
  go_wp2_with fail
  clear hw5 f3 c3 c4
  refine HN5.out.mono ?_; rintro _ w6 ⟨hc6,_,rfl,⟨nm,rfl⟩,hq6,hv6⟩
  obtain ⟨m,hmm⟩ : ∃ x,x=n':=⟨_,rfl⟩
  have hm6:=HM5.out.call hc6 hbp
  have f4:=hm6.blk.frozen 4; have c4:=hm6.blk.cell 4 _ rfl
  obtain ⟨w7,hw7⟩ : ∃ x,w6.setCell ⟨w.heap.size,4,none⟩ (str nm)=x:=⟨_,rfl⟩
  have HM7:=Lib.hid (show Mkx w w7 bp #[num 2,num p,num 0,str m,str nm,str [],nilp,nilp,nils] from hmm ▸ hw7 ▸ hm6.set 4 (str nm))
  have hq7:RQ w7 B bp bt z (name z r.tail):=hw7 ▸ hq6.made hB hbp hbt 4 (str nm)
  have HQ7:=Lib.hid (show RQ w7 B bp bt z (qual z ts) by rw [HQL.out]; cases hn : name z r.tail <;> rw [hn] at hq7 <;> exact hq7)
  have HV7:Hid (∀ q r,qual z ts = .ok q r→q=(m,nm)):=Lib.hid fun q r' e=>by
   rw [HQL.out] at e
   cases hn : name z r.tail with
   | bad e' p'=>rw [hn] at e; cases e
   | ok n2 r2=>rw [hn] at e; cases e; have:=hv6 n2 _ hn; rw [hmm]; simp [bs] at this; rw [this]
  clear hc6 hq6 hv6 hm6 hq7 hmm
  go_wp2_with fail
  clear hw7 f4 c4
 case' false=>
  rw [R.skips_false hs] at hq4
  obtain ⟨m,hmm⟩ : ∃ x,x=([] : List UInt8):=⟨_,rfl⟩
  obtain ⟨nm,hnm⟩ : ∃ x,x=n:=⟨_,rfl⟩
  obtain ⟨w7,rfl⟩ : ∃ x,x=w4:=⟨_,rfl⟩
  have hql : qual z ts=(name z ts).bind fun n r=>.ok ([],n) r:=by
   rw [qual]; cases hn : name z ts with
   | bad e p=>rfl
   | ok n r=>rw [hn] at hs; have hs : see [46] r=false:=hs; simp only [hs,Bool.false_eq_true,if_false]; rfl
  have HM7:=Lib.hid (show Mkx w w7 bp #[num 2,num p,num 0,str m,str nm,str [],nilp,nilp,nils] by rw [hmm,hnm]; exact hm4)
  have HQ7:=Lib.hid (show RQ w7 B bp bt z (qual z ts) by rw [hql]; cases hn : name z ts <;> rw [hn] at hq4 <;> exact hq4)
  have HV7:Hid (∀ q r,qual z ts = .ok q r→q=(m,nm)):=Lib.hid fun q r' e=>by
   rw [hql] at e
   cases hn : name z ts with
   | bad e' p'=>rw [hn] at e; cases e
   | ok n2 r2=>rw [hn] at e; cases e; rw [hmm,hnm,HV2.out n2 _ hn]
  clear hs hc4 hq4 hm4 hql hmm hnm
  go_wp2_with fail
 all_goals
  refine (rtake_q HQ7.out [91]).mono ?_; rintro _ w8 ⟨rfl,hc8,hq8⟩
  have hm8:=HM7.out.call hc8 hbp
  cases hs : (qual z ts).sees [91]
  case' true=>
   obtain ⟨qv,r,hqr,hsr⟩:=R.sees_true hs
   obtain rfl:=HV7.out qv r hqr
   rw [hqr] at hq8
   have hp8:=hq8.taken hsr
   have f0:=hm8.blk.frozen 0; have c0:=hm8.blk.cell 0 _ rfl
   obtain ⟨w9,hw9⟩ : ∃ x,w8.setCell ⟨w.heap.size,0,none⟩ (num 3)=x:=⟨_,rfl⟩
   have HM9:=Lib.hid (show Mkx w w9 bp #[num 3,num p,num 0,str m,str nm,str [],nilp,nilp,nils] from hw9 ▸ hm8.set 0 (num 3))
   have HX9:=Lib.hid (HEX.out w9 B bp bt z r.tail (hw9 ▸ RQ.made (q:=(.ok () r.tail:R Unit)) hp8 hB hbp hbt 0 (num 3)))
   have HNM:=Lib.hid (show named z (ex z) ts=namedR z (ex z) p (m,nm) r by rw [named_eq,hqr,HPP.out])
   have HS:=Lib.hid hsr
   clear hs hc8 hq8 hm8 hp8 hqr hsr
   go_wp2_with fail
   clear hw9 f0 c0
   refine HX9.out.mono ?_; rintro _ w10 ⟨hc10,_,rfl,⟨o,rfl⟩,hq10,hv10⟩
   have hm10:=HM9.out.call hc10 hbp
   have f6:=hm10.blk.frozen 6; have c6:=hm10.blk.cell 6 _ rfl
   obtain ⟨w11,hw11⟩ : ∃ x,w10.setCell ⟨w.heap.size,6,none⟩ (.pointer o)=x:=⟨_,rfl⟩
   have HM11:=Lib.hid (show Mkx w w11 bp #[num 3,num p,num 0,str m,str nm,str [],.pointer o,nilp,nils] from hw11 ▸ hm10.set 6 (.pointer o))
   have HMU:=Lib.hid (rmust_q (hw11 ▸ hq10.made hB hbp hbt 6 (.pointer o):RQ w11 B bp bt z (ex z r.tail)) [93])
   have HC10:=Lib.hid hc10; have HV10:=Lib.hid hv10; have HC11:=Lib.hid (show Chg [w.heap.size] w10 w11 from hw11 ▸ Chg.set1 _ _ _ _)
   clear hc10 hq10 hv10 hm10
   go_wp2_with fail
   clear hw11 f6 c6
   refine HMU.out.mono ?_; rintro _ w12 ⟨rfl,hc12,hq12⟩
   have hm12:=HM11.out.call hc12 hbp
   have HM12:=Lib.hid hm12; have HQ12:=Lib.hid hq12; have HC12:=Lib.hid hc12
   clear hc12 hq12 hm12
   go_wp2_with fail
   go_ret
   rw [HNM.out,namedR,if_pos HS.out]
   refine ⟨HM12.out.chg,_,rfl,⟨3,p,m,nm,o,none,0,0,rfl,HM12.out.blk⟩,?_,?_⟩
   ·have:=HQ12.out
    cases hx : ex z r.tail with
    | bad e' p'=>rw [hx] at this; exact this
    | ok i r2=>rw [hx] at this; simp only [R.bind] at this; simp only; cases hmu : must z [93] r2 <;> rw [hmu] at this <;> exact this
   ·intro a r' e
    cases hx : ex z r.tail with
    | bad e' p'=>rw [hx] at e; cases e
    | ok i r2=>
     rw [hx] at e; simp only at e
     cases hmu : must z [93] r2 with
     | bad e' p'=>rw [hmu] at e; cases e
     | ok u r3=>
      rw [hmu] at e; cases e
      refine ⟨w.heap.size,.pointer o,rfl,⟨Nat.le_refl _,HM12.out.blk.lt⟩,HM12.out.blk,?_⟩
      have h9 : w.heap.size < w9.heap.size:=HM9.out.blk.lt
      have h10:=((HV10.out i r2 hx).kept HC11.out (fun x hx hn=>by simp at hx; have:=hn.1; omega)).kept HC12.out (fun x hx hn=>by simp at hx; have:=hn.1; omega)
      exact h10.mono fun x hx=>⟨by have:=hx.1; omega,by have:=hx.2; have:=HC11.out.size; have:=HC12.out.size; omega⟩
  case' false=>
   rw [R.skips_false hs] at hq8
   have HM8:=Lib.hid hm8; have HT8:=Lib.hid (rtake_q hq8 [40]); have HS8:=Lib.hid hs
   clear hs hc8 hq8 hm8
   go_wp2_with fail
   refine HT8.out.mono ?_; rintro _ w9 ⟨rfl,hc9,hq9⟩
   have hm9:=HM8.out.call hc9 hbp
   cases hs : (qual z ts).sees [40]
   ·rw [R.skips_false hs] at hq9
    have HM9:=Lib.hid hm9; have HQ9:=Lib.hid hq9; have HS9:=Lib.hid hs
    clear hs hc9 hq9 hm9
    go_wp2_with fail
    go_ret
    have hnm : named z (ex z) ts=(qual z ts).bind fun q r=>.ok (.var p q.1 q.2) r:=by
     rw [named_eq]
     have h1:=HS8.out; have h2:=HS9.out
     cases hq : qual z ts with
     | bad e' p'=>rfl
     | ok q r=>rw [hq] at h1 h2; simp only [R.sees] at h1 h2; simp only [namedR,h1,h2,Bool.false_eq_true,if_false,R.bind,HPP.out]
    rw [hnm]
    refine ⟨HM9.out.chg,_,rfl,⟨2,p,m,nm,none,none,0,0,rfl,HM9.out.blk⟩,?_,?_⟩
    ·have:=HQ9.out
     cases hq : qual z ts <;> rw [hq] at this <;> exact this
    ·intro a r' e
     cases hq : qual z ts with
     | bad e' p'=>rw [hq] at e; cases e
     | ok q r=>
      rw [hq] at e; obtain rfl:=HV7.out q r hq
      cases e
      exact ⟨w.heap.size,rfl,⟨Nat.le_refl _,HM9.out.blk.lt⟩,HM9.out.blk⟩
   ·obtain ⟨qv,r,hqr,hsr⟩:=R.sees_true hs
    obtain rfl:=HV7.out qv r hqr
    rw [hqr] at hq9
    have hp9:=hq9.taken hsr
    have hnb : see [91] r=false:=by have:=HS8.out; rw [hqr] at this; exact this
    have f0:=hm9.blk.frozen 0; have c0:=hm9.blk.cell 0 _ rfl
    obtain ⟨w10,hw10⟩ : ∃ x,w9.setCell ⟨w.heap.size,0,none⟩ (num 6)=x:=⟨_,rfl⟩
    have HM10:=Lib.hid (show Mkx w w10 bp #[num 6,num p,num 0,str m,str nm,str [],nilp,nilp,nils] from hw10 ▸ hm9.set 0 (num 6))
    have HP10:=Lib.hid (show RP w10 B bp bt z none r.tail from hw10 ▸ RQ.made (q:=(.ok () r.tail:R Unit)) hp9 hB hbp hbt 0 (num 6))
    obtain ⟨O,hO⟩ : ∃ O,O=argsL z (ex z) (r.length + 1) true [] r.tail:=⟨_,rfl⟩
    have HNM:=Lib.hid (show named z (ex z) ts=O.bind fun l r2=>.ok (.app p m nm (E.ofList l)) r2 by
     rw [named_eq,hqr]; simp only [namedR,hnb,hsr,Bool.false_eq_true,if_false,if_true,← HPP.out,hO]
     cases argsL z (ex z) (r.length + 1) true [] r.tail <;> rfl)
    have HO:=Lib.hid hO
    clear hs hc9 hq9 hm9 hp9 hqr hsr hnb hO
    go_wp2_with fail
    clear hw10 f0 c0
    go_loopw [6] (fun fst wr=>∃ (b:Bool) (l:Value) (vs:List Value),fst = .bool b∧Mkx w wr bp #[num 6,num p,num 0,str m,str nm,str [],nilp,nilp,l]∧wr.ownsRow 0 136 1 l vs.length vs∧From w1.heap.size l∧ArgLeft w1 wr B bp bt z (ex z) O b l vs) (fun _ wr=>rcnt wr bp)
    case atStart=>
     have:=HP10.out.few
     exact ⟨true,nils,[],rfl,HM10.out,World.ownsRow_nil _ _ _ _,From.nil _,.inl ⟨r.length,[],r.tail,HO.out,by simp,by simpa using this,rfl,HP10.out⟩⟩
    case round=>
     obtain ⟨b,l,vs,rfl,hmr,hor,hfr,hl⟩:=hrel
     obtain ⟨sa,sc,rfl⟩:=slice_of_owns hor
     have HMR:=Lib.hid hmr; have HOR:=Lib.hid hor; have HFR:=Lib.hid hfr
     clear hmr hor hfr
     rcases hl with ⟨f,xs,ts',ho,hf,hlen,hes,hp⟩ | ⟨en,q,ho,hq⟩
     ·have HO':=Lib.hid ho; have HES:=Lib.hid hes; have HP:=Lib.hid hp
      have HOK:=Lib.hid (rok_q (q:=(.ok () ts':R Unit)) hp)
      clear ho hes hp
      go_wp2_with fail
      refine HOK.out.mono ?_; rintro _ w11 ⟨rfl,hc11⟩
      simp only [R.isOk]
      have HT:=Lib.hid (rtake_q (q:=(.ok () ts':R Unit)) (HP.out.same hc11) [41])
      have HC11:=Lib.hid hc11
      clear hc11
      go_wp2_with fail
      refine HT.out.mono ?_; rintro _ w12 ⟨rfl,hc12,hq12⟩
      have HC12:=Lib.hid (HC11.out.weak.then hc12)
      cases hs : see [41] ts'
      ·have hss : (R.ok () ts').sees [41]=false:=hs
       rw [R.skips_false hss] at hq12
       simp only [R.sees,hs]
       have HP12:=Lib.hid (show RP w12 B bp bt z none ts' from hq12); have HS12:=Lib.hid hs
       clear hc12 hq12 hs hss
       cases b
       case' true=>
        obtain ⟨T,hT⟩ : ∃ T,T=ts':=⟨_,rfl⟩
        obtain ⟨w13,rfl⟩ : ∃ x,x=w12:=⟨_,rfl⟩
        have HN:=Lib.hid (show O=(ex z T).bind fun x r=>argsL z (ex z) f false (xs ++ [x]) r by rw [HO'.out,argsL_next HS12.out (.inl rfl),hT,if_pos rfl])
        have HP13:=Lib.hid (show RP w13 B bp bt z none T by rw [hT]; exact HP12.out); have HC13:=HC12
        have hTl:T.length≤ts'.length:=by rw [hT]; exact Nat.le_refl _
        clear hT
        go_wp2_with fail
       case' false=>
        have HMU:=Lib.hid (rmust_q (q:=(.ok () ts':R Unit)) HP12.out [44])
        go_wp2_with fail
        refine HMU.out.mono ?_; rintro _ w13 ⟨rfl,hc13,hq13⟩
        have HC13:=Lib.hid (HC12.out.then hc13)
        simp only [R.bind,must] at hq13
        cases hs : see [44] ts'
        case false=>
         rw [hs,if_neg (by simp)] at hq13
         have HN:=Lib.hid (show O = .bad 3 (hd z ts') by rw [HO'.out,argsL,HS12.out,hs]; simp)
         have HQ13:=Lib.hid (show RQ w13 B bp bt z (.bad 3 (hd z ts'):R (List E)) from hq13)
         clear hc13 hq13 hs
         go_wp2_with fail
         refine (rok_q HQ13.out).mono ?_; rintro _ w14 ⟨rfl,hc14⟩
         simp only [R.isOk]
         have HC14:=Lib.hid hc14
         clear hc14
         go_wp2_with fail
         have hc:=HC13.out.then HC14.out.weak
         refine ⟨⟨false,_,vs,rfl,HMR.out.call hc hbp,owns_kept HOR.out hc (fun g hg hm=>by have:=HFR.out g hg; have:=HS1.out; simp at hm; omega),HFR.out,.inr ⟨3,hd z ts',HN.out,by rw [HN.out]; exact HQ13.out.same HC14.out⟩⟩,?_⟩
         obtain ⟨tx,hx⟩:=HQ13.out.same HC14.out
         rw [hx.cnt0,HP.out.cnt]; omega
        rw [hs,if_pos rfl] at hq13
        obtain ⟨T,hT⟩ : ∃ T,T=ts'.tail:=⟨_,rfl⟩
        have HN:=Lib.hid (show O=(ex z T).bind fun x r=>argsL z (ex z) f false (xs ++ [x]) r by rw [HO'.out,argsL_next HS12.out (.inr hs),hT,if_neg (by simp)])
        have HP13:=Lib.hid (show RP w13 B bp bt z none T by rw [hT]; exact hq13)
        have hTl:T.length≤ts'.length:=by rw [hT]; simp
        clear hT hc13 hq13 hs
        go_wp2_with fail
       all_goals
        refine (rok_q (q:=(.ok () T:R Unit)) HP13.out).mono ?_; rintro _ w14 ⟨rfl,hc14⟩
        simp only [R.isOk]
        have hc14':=HC13.out.then hc14.weak
        obtain ⟨wD,hwD⟩ : ∃ x,x=w14.drew:=⟨_,rfl⟩
        have hcD:Chg [bp] wr wD:=hwD ▸ hc14'.drew
        have HCD:=Lib.hid hcD
        have HPD:=Lib.hid (show RP wD B bp bt z none T from HP13.out.same (hwD ▸ hc14.drew))
        have HMD:=Lib.hid (HMR.out.call hcD hbp)
        have a8:=HMD.out.blk.cell 8 _ rfl
        have hS1:=HS1.out
        have hbx : w.heap.size∉bp :: blk (.slice sa vs.length sc):=fun hm=>by
         simp only [List.mem_cons] at hm
         rcases hm with hm | hm
         ·omega
         ·have:=HFR.out _ hm; omega
        have Z1:=Lib.hid (Zone.of (X:=bp :: blk (.slice sa vs.length sc)) (w0:=wD) a8 hbx)
        have HBX:=Lib.hid hbx
        clear hc14 hc14' hcD
        go_wp2_with fail
        refine wp_region_T (bp :: blk (.slice sa vs.length sc)) rfl (by kernel_rfl) rfl ?_
        rw [← hwD]
        clear hwD
        have hS:Chg (bp :: blk (.slice sa vs.length sc)) wD wD:=Chg.refl _ _
        repeat ((with_reducible refine gX ?_); (first | refine wpX_nil ?_ | refine sK ?_ | refine sM fun _ _=>?_ | refine sL (hz:=by exact Z1.out) fun _ _=>?_ | refine sE fun _ _=>?_); go_wp2_with fail)
        refine (HEX.out wD B bp bt z T HPD.out).mono ?_; rintro _ w15 ⟨hc15,_,rfl,⟨o5,rfl⟩,hq15,hv15⟩
        have hS5:Chg (bp :: blk (.slice sa vs.length sc)) wD w15:=hc15.mono (fun x hx=>.inl (by simp at hx; simp [hx]))
        have HC15:=Lib.hid hc15; have HQ15:=Lib.hid hq15; have HV15:=Lib.hid hv15
        clear hc15 hq15 hv15 hbx
        go_wp2_with fail
        refine And.intro hS5 ?_
        repeat ((with_reducible refine gX ?_); (first | refine wpX_nil ?_ | refine sK ?_ | refine sM fun _ _=>?_ | refine sL (hz:=by exact Z1.out) fun _ _=>?_ | refine sE fun _ _=>?_); go_wp2_with fail)
        refine And.intro (hS5.alloc _) ?_
        have hS6:Chg (bp :: blk (.slice sa vs.length sc)) wD (w15.alloc (.cells #[.pointer o5] 136)):=hS5.alloc _
        repeat ((with_reducible refine gX ?_); (first | refine wpX_nil ?_ | refine sK ?_ | refine sM fun _ _=>?_ | refine sL (hz:=by exact Z1.out) fun _ _=>?_ | refine sE fun _ _=>?_); go_wp2_with fail)
        have hoD:=owns_kept HOR.out HCD.out (fun g hg hm=>by have:=HFR.out g hg; simp at hm; omega)
        have ho15:=owns_kept hoD (HC15.out.alloc (.cells #[.pointer o5] 136)) (fun g hg hm=>by have:=HFR.out g hg; simp at hm; omega)
        have HLT:=Lib.hid (owns_lt hoD)
        refine wpX_append _ _ 153 rfl rfl rfl 136 (.pointer none) 1 8 infoPtr Tryz.underlying153 rfl (by decide) (.slice sa vs.length sc) vs.length vs rfl ho15 ⟨w15.heap.size,0,none⟩ 1 1 [.pointer o5] rfl rfl (cell_new1 _ _ _) (by simp [Value.oneCell']) (by omega) (by unfold maxLen; omega) ?_
        intro v16 w16 ho16 hc16 hm16
        obtain ⟨va,vc,rfl⟩:=slice_of_owns ho16
        have hS16:Chg (bp :: blk (.slice sa vs.length sc)) wD w16:=hS6.then (hc16.mono fun x hx=>.inl (List.mem_cons_of_mem _ hx))
        have hb16:=HMD.out.blk.kept hS16 HBX.out
        have f8:=hb16.frozen 8; have c8:=hb16.cell 8 _ rfl
        obtain ⟨wE,hwE⟩ : ∃ x,w16.setCell ⟨w.heap.size,8,none⟩ (.slice va (vs.length + 1) vc)=x:=⟨_,rfl⟩
        have hcE:Chg [w.heap.size] w16 wE:=hwE ▸ Chg.set1 _ _ _ _
        have hszD : w1.heap.size≤wD.heap.size:=by have:=HMD.out.blk.lt; omega
        have hs16:=hc16.size; have hs15:=HC15.out.size
        have hfE:From w1.heap.size (.slice va (vs.length + 1) vc):=HFR.out.moved hm16 (by simp; omega)
        have hqE:RQ wE B bp bt z (ex z T):=hwE ▸ ((HQ15.out.same ((Chg.refl [] w15).alloc _)).kept hc16 (fun x hx=>by have:=HFR.out x hx; omega)).made hB hbp hbt 8 _
        have HQE:=Lib.hid hqE; have HFE:=Lib.hid hfE
        have HME:=Lib.hid (show Mkx w wE bp #[num 6,num p,num 0,str m,str nm,str [],nilp,nilp,.slice va (vs.length + 1) vc] from ⟨hwE ▸ hb16.set 8 _,(((HMD.out.chg.then HC15.out).alloc _).trans hc16 (fun x hx=>.inr (by have:=HFR.out x hx; omega))).trans hcE (fun x hx=>.inr (by simp at hx; omega))⟩)
        have HOE:=Lib.hid (show wE.ownsRow 0 136 1 (.slice va (vs.length + 1) vc) (vs ++ [Value.pointer o5]).length (vs ++ [Value.pointer o5]) by
         have h1:=owns_kept ho16 hcE (fun g hg hm=>by have:=hfE g hg; simp at hm; omega)
         rw [List.length_append]; exact h1)
        have HAL:=Lib.hid (show ArgLeft w1 wE B bp bt z (ex z) O false (.slice va (vs.length + 1) vc) (vs ++ [Value.pointer o5]) by
         cases hx : ex z T with
         | bad en q=>rw [hx] at hqE; exact .inr ⟨en,q,by rw [HN.out,hx]; rfl,by rw [HN.out,hx]; exact hqE⟩
         | ok x rr=>
          rw [hx] at hqE
          have hrr:=HEA.out _ _ _ hx
          obtain ⟨f',rfl⟩ : ∃ f',f=f' + 1:=⟨f - 1,by omega⟩
          have hb1 : bp < w1.heap.size:=by omega
          have he15:=(framed_Es xs vs).call HES.out (HCD.out.then HC15.out) hb1
          have hn15:=(framed_E x [.pointer o5]).fresh (w3:=wD) (HV15.out x rr hx) HLT.out hszD
          have heE:=(framed_Es xs vs).call ((framed_Es xs vs).app he15 hc16 hm16) hcE (by omega)
          have hnE:=(framed_E x [.pointer o5]).call ((framed_E x [.pointer o5]).app hn15 hc16 hm16) hcE (by omega)
          exact .inl ⟨f',xs ++ [x],rr,by rw [HN.out,hx]; rfl,by omega,by simp; omega,EsAt.snoc heE hnE,hqE⟩)
        have HLE:=Lib.hid (show rcnt wE bp≤T.length from hqE.cntLe fun a tx e=>HEA.out _ _ _ e)
        clear ho15 hoD ho16 hc16 hm16 hb16 hcE hfE hqE hs16 hs15 hszD
        refine And.intro hS16 ?_
        repeat ((with_reducible refine gX ?_); (first | refine wpX_nil ?_ | refine sK ?_ | refine sM fun _ _=>?_ | refine sL (hz:=by exact Z1.out) fun _ _=>?_ | refine sE fun _ _=>?_); go_wp2_with fail)
        refine stepX_ef rfl rfl (fun _ _=>?_)
        change Oper.wp _ (Oper.mk ..) ..
        go_wp2_with fail
        refine ⟨⟨false,_,_,rfl,HME.out,HOE.out,HFE.out,HAL.out⟩,?_⟩
        rw [HP.out.cnt]; have:=HLE.out; omega
      ·simp only [R.sees,hs]
       have HP12:=Lib.hid (RQ.taken hq12 hs); have HM12:=Lib.hid (HMR.out.call HC12.out hbp)
       have HN:=Lib.hid (show O = .ok xs ts'.tail by rw [HO'.out,argsL,hs,if_pos rfl])
       clear hc12 hq12 hs
       go_wp2_with fail
       go_ret
       rw [HNM.out,HN.out]
       refine ⟨HM12.out.chg,_,rfl,⟨6,p,m,nm,none,sa,vs.length,sc,rfl,HM12.out.blk⟩,HP12.out,fun a r e=>?_⟩
       cases e
       have hs1:=HS1.out
       have ho:=owns_kept HOR.out HC12.out (fun g hg hm=>by have:=HFR.out g hg; simp at hm; omega)
       have hb1 : bp < w1.heap.size:=by omega
       have he:EsAt w12 (Off w1 w12 (.slice sa vs.length sc)) xs vs:=(framed_Es xs vs).call HES.out HC12.out hb1
       obtain ⟨a',c',e',hac,hrow⟩:=Row.of_owns ho (F:=New w w12) (fun g hg=>⟨by have:=HFR.out g hg; omega,owns_lt ho g hg⟩)
       cases e'
       exact ⟨w.heap.size,_,_,vs,rfl,⟨Nat.le_refl _,HM12.out.blk.lt⟩,HM12.out.blk,hac,hrow,EsAt.one (he.mono fun x hx=>⟨by have:=hx.1; omega,hx.2.1⟩)⟩
     ·have HO':=Lib.hid ho; have HQ:=Lib.hid hq
      have HOK:=Lib.hid (rok_q hq)
      rw [ho] at HOK
      clear ho hq
      go_wp2_with fail
      refine HOK.out.mono ?_; rintro _ w11 ⟨rfl,hc11⟩
      simp only [R.isOk]
      have HC11:=Lib.hid hc11
      clear hc11
      go_wp2_with fail
      go_ret
      rw [HNM.out,HO'.out]
      have hm:=HMR.out.call HC11.out.weak hbp
      exact ⟨hm.chg,_,rfl,⟨6,p,m,nm,none,sa,vs.length,sc,rfl,hm.blk⟩,by have:=HQ.out.same HC11.out; rw [HO'.out] at this; exact this,fun a r e=>by cases e⟩
end Go.Proofs.YtojkkgghndeimaaGreatDoor
namespace Go.Mq.Ref
open Go Go.RowKit Go.Mq Go.Mq.Tree
theorem isNum_tok (ts:List Tok) : isNum ts=(tokK ts == 2):=by
 cases ts with
 | nil=>rfl
 | cons t r=>cases h : t.kind <;> simp [isNum,tokK,h,Kind.num]
theorem one_un (z d:Nat) (ts:List Tok) (op:List UInt8) (h : op=[45]∨(op=[110,111,116]∧see [45] ts=false)) (hs : see op ts=true) : one z (d + 1) ts=(one z d ts.tail).bind fun x r=>.ok (.un (hd z ts) op x) r:=by
 rw [one_eq]
 rcases h with rfl | ⟨rfl,h⟩
 ·rw [if_pos hs]; cases one z d ts.tail <;> rfl
 ·rw [if_neg (by simp [h]),if_pos hs]; cases one z d ts.tail <;> rfl
theorem one_rest (z d:Nat) (ts:List Tok) (h1 : see [45] ts=false) (h2 : see [110,111,116] ts=false) : one z (d + 1) ts=if see [40] ts then ((expr z (one z d) 5 ts.tail).bind fun x r=>(must z [41] r).bind fun _ r2=>.ok x r2)
  else if isNum ts then ((number z 9223372036854775807 ts).bind fun n r=>.ok (.num (hd z ts) n) r)
  else named z (expr z (one z d) 5) ts:=by
 rw [one_eq,if_neg (by simp [h1]),if_neg (by simp [h2])]
 split
 ·cases hx : expr z (one z d) 5 ts.tail with
  | bad e p=>rfl
  | ok x r=>simp only [R.bind]; cases must z [41] r <;> rfl
 ·split
  ·cases number z 9223372036854775807 ts <;> rfl
  ·rfl
end Go.Mq.Ref
namespace Go.Proofs.YtojkkgghndeimaaGreatDoor
open Go Go.RowKit Go.Mq Go.Mq.Tree Go.Mq.Ref
set_option maxRecDepth 100000
set_option maxHeartbeats 4000000
theorem rone_zero:ROneOK 11 0:=by
 intro w B bp bt z ts h
 have HF:=Lib.hid (rfails_q (q:=(.ok () ts:R Unit)) (β:=E) h 4 (by decide))
 clear h
 go_enter Tryz.func224,Tryz.ntmps224
 go_wp2_with fail
 refine HF.out.mono ?_; rintro _ w2 ⟨rfl,hc2,hq2⟩
 have HC2:=Lib.hid hc2; have HQ2:=Lib.hid hq2
 clear hc2 hq2
 go_wp2_with fail
 refine (rok_q HQ2.out).mono ?_; rintro _ w3 ⟨rfl,hc3⟩
 simp only [R.isOk,R.falls]
 have HC3:=Lib.hid (HC2.out.then hc3.weak); have HQ3:=Lib.hid (HQ2.out.same hc3)
 clear hc3
 go_wp2_with fail
 go_ret
 exact ⟨HC3.out,_,rfl,⟨_,rfl⟩,HQ3.out,fun _ _ e=>by cases e⟩
theorem rone_step (deep d:Nat) (hdp : deep + (d + 1)=11) (hO:ROneOK (deep + 1) d):ROneOK deep (d + 1):=by
 have heats : ∀ z,Eats (expr z (one z d) 5):=fun z=>expr_eats (one_eats z d) 5
 have hE:RExOK 0 (deep + 1) (fun z=>expr z (one z d) 5):=rexpr_level (deep + 1) d hO (fun z=>(one_eats z d).mono) 5 (Nat.le_refl _)
 have HREF:=Lib.hid (rref_any deep (by omega) (fun z=>expr z (one z d) 5) hE heats)
 have HEX:=Lib.hid (rex_next hE)
 have HO:Hid (∀ (w:World) (B bp bt z:Nat) (ts:List Tok),RP w B bp bt z none ts→Calls Tryz.prog 224 #[ptr bp,num ((deep:Int) + 1)] w (RTold w B bp bt z (one z d ts) (EV w) (fun _ v=>∃ o,v = .pointer o))):=Lib.hid (fun w B bp bt z ts hp=>by
  have:=hO w B bp bt z ts hp
  simpa using this)
 intro w B bp bt z ts h
 have hB:B≤w.heap.size:=h.laid.laid.le
 have hbp:=RQ.lt (r:=.ok () ts) h
 have hwr:=wrap_next (deep:=deep) (by omega)
 have hd10 : decide ((10:Int) < (deep:Int))=false:=decide_eq_false (by omega)
 have i0 : ∀ w,(Instr.index 304 (.agg #[.string ⟨#[45]⟩,.string ⟨#[110,111,116]⟩]) (.int .i64 0)).run Tryz.prog w = .ok (.string ⟨#[45]⟩) w:=fun _=>by kernel_rfl
 have i1 : ∀ w,(Instr.index 304 (.agg #[.string ⟨#[45]⟩,.string ⟨#[110,111,116]⟩]) (.int .i64 1)).run Tryz.prog w = .ok (.string ⟨#[110,111,116]⟩) w:=fun _=>by kernel_rfl
 have HOK:=Lib.hid (rok_q (q:=(.ok () ts:R Unit)) h); have H:=Lib.hid h
 clear h hE heats hO
 go_enter Tryz.func224,Tryz.ntmps224
 go_wp2_with fail
 refine HOK.out.mono ?_; rintro _ w0 ⟨rfl,hc0⟩
 simp only [R.isOk]
 obtain ⟨off,c,k,t,HH,⟨b0,b1,b2⟩,c0,c1,c2⟩:=(H.out.same hc0).cells
 obtain ⟨p,hp⟩ : ∃ p,p=hd z ts:=⟨_,rfl⟩
 rw [← hp] at c2
 have HPP:=Lib.hid hp
 obtain ⟨w1,hw1⟩ : ∃ x,w0.alloc (.cells #[num k,str t,num p] 82)=x:=⟨_,rfl⟩
 obtain ⟨bx,hbx⟩ : ∃ b,b=w0.heap.size:=⟨_,rfl⟩
 have hc1:Chg [] w0 w1:=hw1 ▸ (Chg.refl [] w0).alloc _
 have HB1:Hid (Blk w1 bx #[num k,str t,num p] 82):=Lib.hid (hbx ▸ hw1 ▸ Blk.new w0 _ _)
 have HP1:=Lib.hid ((H.out.same hc0).same hc1)
 have HC1:=Lib.hid (hc0.then hc1)
 have hxb : bx≠bp:=by have:=hc0.size; omega
 have HK:=Lib.hid (show isNum ts=(k == 2) by rw [isNum_tok,← HH.out.2.2.eq.1])
 clear hp hc0 hc1
 go_wp2_with fail
 rw [← hbx]
 clear hw1 hbx b0 b1 b2 c0 c1 c2
 go_loopw [7,23] (fun _ i wr=>∃ n:Nat,n≤2∧i=num n∧Blk wr bx #[num k,str t,num p] 82∧Chg [bp] w wr∧RP wr B bp bt z none ts∧(0 < n→see [45] ts=false)∧(1 < n→see [110,111,116] ts=false)) (fun _ i _=>2 - (intOf i).toNat)
 case atStart=>exact ⟨0,by omega,rfl,HB1.out,HC1.out.weak,HP1.out,by simp,by simp⟩
 case round=>
  obtain ⟨n,hn,rfl,hb,hc,hp,hs1,hs2⟩:=hrel
  have HB:=Lib.hid hb; have HC:=Lib.hid hc; have HP:=Lib.hid hp
  clear hb hc hp
  rcases (by omega : n=0∨n=1∨n=2) with rfl | rfl | rfl
  case inr.inr=>
   have h1:=hs1 (by omega); have h2:=hs2 (by omega)
   have HRS:=Lib.hid (one_rest z d ts h1 h2)
   have HT:=Lib.hid (rtake_q (q:=(.ok () ts:R Unit)) HP.out [40])
   clear hs1 hs2 h1 h2
   go_wp2_with fail
   refine HT.out.mono ?_; rintro _ w2 ⟨rfl,hc2,hq2⟩
   have HC2:=Lib.hid (HC.out.then hc2); have HB2:=Lib.hid (HB.out.kept hc2 (by simpa using hxb))
   clear hc2
   cases hs : see [40] ts
   ·have hss : (R.ok () ts).sees [40]=false:=hs
    rw [R.skips_false hss] at hq2
    simp only [R.sees,hs]
    have HQ2:=Lib.hid (show RP w2 B bp bt z none ts from hq2); have HR2:=Lib.hid (show one z (d + 1) ts=if isNum ts then ((number z 9223372036854775807 ts).bind fun n r=>.ok (.num (hd z ts) n) r) else named z (expr z (one z d) 5) ts by rw [HRS.out,if_neg (by simp [hs])])
    have e0:=HB2.out.cell 0 _ rfl
    clear hq2 hs hss
    cases hk2 : (k == (2:Int))
    ·have HR3:=Lib.hid (show one z (d + 1) ts=named z (expr z (one z d) 5) ts by rw [HR2.out,HK.out,hk2]; rfl)
     have HRF:=Lib.hid (HREF.out w2 B bp bt z ts HQ2.out)
     go_wp2_with fail
     refine HRF.out.mono ?_; rintro _ w3 ⟨hc3,_,rfl,⟨k',p',m,nm,i,a,l,c',rfl,_⟩,hq3,hv3⟩
     have HC3:=Lib.hid (HC2.out.then hc3); have HQ3:=Lib.hid hq3; have HV3:=Lib.hid hv3
     clear hc3 hq3 hv3
     go_wp2_with fail
     go_ret
     rw [HR3.out]
     exact ⟨HC3.out,_,rfl,⟨_,rfl⟩,HQ3.out,fun a r e=>EAt.later (HV3.out a r e) HC2.out.size⟩
    ·have HR3:=Lib.hid (show one z (d + 1) ts=(number z 9223372036854775807 ts).bind fun n r=>.ok (.num p n) r by rw [HR2.out,HK.out,hk2,HPP.out]; rfl)
     have e2:=HB2.out.cell 2 _ rfl
     obtain ⟨wD,hwD⟩ : ∃ x,x=w2.drew:=⟨_,rfl⟩
     have hcD:Chg [] w2 wD:=hwD ▸ (Chg.refl _ _).drew
     have e2d:=hcD.cellSome e2 (by simp)
     have HN:=Lib.hid (rnumber_any (HQ2.out.same hcD) 9223372036854775807 (by decide) (by decide))
     have HCD:=Lib.hid (HC2.out.then hcD.weak)
     clear hcD
     go_wp2_with fail
     refine wp_region_C [bp] rfl (by kernel_rfl) ?_
     rw [← hwD]
     clear hwD e2
     have hS:Chg [bp] wD wD:=Chg.refl _ _
     repeat ((with_reducible refine gX ?_); (first | refine wpX_nil ?_ | refine sK ?_ | refine sM fun _ _=>?_ | refine sL (hz:=by exact Zone.of e2d (by simpa using hxb)) fun _ _=>?_ | refine sE fun _ _=>?_); go_wp2_with fail)
     refine HN.out.mono ?_; rintro _ w3 ⟨hc3,_,rfl,⟨v,rfl⟩,hq3,hv3⟩
     have HC3:=Lib.hid (HCD.out.then hc3); have HQ3:=Lib.hid hq3; have HV3:=Lib.hid hv3
     have hS2:=hc3
     clear hc3 hq3 hv3
     go_wp2_with fail
     refine And.intro (by assumption:Chg _ _ _) ?_
     repeat ((with_reducible refine gX ?_); (first | refine wpX_nil ?_ | refine sK ?_ | refine sM fun _ _=>?_ | refine sL (hz:=by exact Zone.of e2d (by simpa using hxb)) fun _ _=>?_ | refine sE fun _ _=>?_); go_wp2_with fail)
     refine And.intro (Chg.alloc (by assumption:Chg _ _ _) _) ?_
     repeat ((with_reducible refine gX ?_); (first | refine wpX_nil ?_ | refine sK ?_ | refine sM fun _ _=>?_ | refine sL (hz:=by exact Zone.of e2d (by simpa using hxb)) fun _ _=>?_ | refine sE fun _ _=>?_); go_wp2_with fail)
     go_ret
     rw [HR3.out]
     refine ⟨HC3.out.alloc _,_,rfl,⟨_,rfl⟩,?_,fun a r e=>?_⟩
     ·have:=HQ3.out.same ((Chg.refl [] w3).alloc (.cells #[num 1,num p,num v,str [],str [],str [],nilp,nilp,nils] 155))
      cases hn : number z 9223372036854775807 ts <;> rw [hn] at this <;> exact this
     ·cases hn : number z 9223372036854775807 ts with
      | bad e' p'=>rw [hn] at e; cases e
      | ok n r'=>
       rw [hn] at e; cases e
       have:=HV3.out n _ hn
       simp only [Value.int.injEq,true_and] at this
       subst this
       exact ⟨w3.heap.size,rfl,⟨HC3.out.size,by simp⟩,Blk.new _ _ _⟩
   ·simp only [R.sees,hs]
    have HX:=Lib.hid (HEX.out w2 B bp bt z ts.tail (RQ.taken hq2 hs))
    have HR2:=Lib.hid (show one z (d + 1) ts=(expr z (one z d) 5 ts.tail).bind fun x r=>(must z [41] r).bind fun _ r2=>.ok x r2 by rw [HRS.out,if_pos hs])
    clear hq2 hs
    go_wp2_with fail
    refine HX.out.mono ?_; rintro _ w3 ⟨hc3,_,rfl,⟨o,rfl⟩,hq3,hv3⟩
    have HC3:=Lib.hid (HC2.out.then hc3); have HV3:=Lib.hid hv3; have HMU:=Lib.hid (rmust_q hq3 [41])
    clear hc3 hq3 hv3
    go_wp2_with fail
    refine HMU.out.mono ?_; rintro _ w4 ⟨rfl,hc4,hq4⟩
    have HC4:=Lib.hid hc4; have HQ4:=Lib.hid hq4
    clear hc4 hq4
    go_wp2_with fail
    go_ret
    rw [HR2.out]
    refine ⟨HC3.out.then HC4.out,_,rfl,⟨_,rfl⟩,?_,fun a r e=>?_⟩
    ·have:=HQ4.out
     cases hx : expr z (one z d) 5 ts.tail with
     | bad e' p'=>rw [hx] at this; exact this
     | ok x r2=>rw [hx] at this; simp only [R.bind] at this ⊢; cases hm : must z [41] r2 <;> rw [hm] at this <;> exact this
    ·cases hx : expr z (one z d) 5 ts.tail with
     | bad e' p'=>rw [hx] at e; cases e
     | ok x r2=>
      rw [hx] at e; simp only [R.bind] at e
      cases hm : must z [41] r2 with
      | bad e' p'=>rw [hm] at e; cases e
      | ok u r3=>rw [hm] at e; cases e; exact (EAt.later (HV3.out _ _ hx) HC2.out.size).grown hbp HC4.out
  case' inl=>
   obtain ⟨op,hop⟩ : ∃ op:List UInt8,op=[45]:=⟨_,rfl⟩
   have HOP:=Lib.hid (show op=[45]∨(op=[110,111,116]∧see [45] ts=false) from .inl hop)
   have HNX:Hid (see op ts=false→(0 < 0 + 1→see [45] ts=false)∧(1 < 0 + 1→see [110,111,116] ts=false)):=Lib.hid fun e=>⟨fun _=>hop ▸ e,fun h=>by omega⟩
   have HT:=Lib.hid (show Calls Tryz.prog 41 #[ptr bp,str [45]] wr (fun e w'=>e = .returned (.bool ((R.ok () ts).sees op))∧Chg [bp] wr w'∧RQ w' B bp bt z ((R.ok () ts).skips op)) from by rw [hop]; exact rtake_q (q:=.ok () ts) HP.out _)
  case' inr.inl=>
   obtain ⟨op,hop⟩ : ∃ op:List UInt8,op=[110,111,116]:=⟨_,rfl⟩
   have hs1:=hs1 (by omega)
   have HOP:=Lib.hid (show op=[45]∨(op=[110,111,116]∧see [45] ts=false) from .inr ⟨hop,hs1⟩)
   have HNX:Hid (see op ts=false→(0 < 1 + 1→see [45] ts=false)∧(1 < 1 + 1→see [110,111,116] ts=false)):=Lib.hid fun e=>⟨fun _=>hs1,fun _=>hop ▸ e⟩
   have HT:=Lib.hid (show Calls Tryz.prog 41 #[ptr bp,str [110,111,116]] wr (fun e w'=>e = .returned (.bool ((R.ok () ts).sees op))∧Chg [bp] wr w'∧RQ w' B bp bt z ((R.ok () ts).skips op)) from by rw [hop]; exact rtake_q (q:=.ok () ts) HP.out _)
  all_goals
   have HOE:=Lib.hid hop
   clear hs1 hs2 hop
   go_wp2_with fail
   refine HT.out.mono ?_; rintro _ w2 ⟨rfl,hc2,hq2⟩
   have HC2:=Lib.hid (HC.out.then hc2); have hb2:=HB.out.kept hc2 (by simpa using hxb)
   clear hc2
   cases hs : see op ts
   ·have hss : (R.ok () ts).sees op=false:=hs
    rw [R.skips_false hss] at hq2
    simp only [R.sees,hs]
    have HQ2:=Lib.hid (show RP w2 B bp bt z none ts from hq2); have HB2:=Lib.hid hb2
    have HNY:=Lib.hid (HNX.out hs)
    clear hq2 hs hss hb2
    go_wp2_with fail
    exact ⟨⟨_,by decide,by first | rfl | go_num,HB2.out,HC2.out,HQ2.out,HNY.out.1,HNY.out.2⟩,by simp [intOf]⟩
   ·simp only [R.sees,hs]
    have hp2:=RQ.taken hq2 hs
    have HUN:=Lib.hid (show one z (d + 1) ts=(one z d ts.tail).bind fun x r=>.ok (.un p op x) r by rw [one_un z d ts op HOP.out hs,HPP.out])
    obtain ⟨wD,hwD⟩ : ∃ x,x=w2.drew:=⟨_,rfl⟩
    have hcD:Chg [] w2 wD:=hwD ▸ (Chg.refl _ _).drew
    have e2d:=hcD.cellSome (hb2.cell 2 _ rfl) (by simp)
    have HN:=Lib.hid (HO.out wD B bp bt z ts.tail (hp2.same hcD))
    have HCD:=Lib.hid (HC2.out.then hcD.weak)
    clear hcD hq2 hs hp2 hb2
    go_wp2_with fail
    refine wp_region_C [bp] rfl (by kernel_rfl) ?_
    rw [← hwD]
    clear hwD
    have hS:Chg [bp] wD wD:=Chg.refl _ _
    repeat ((with_reducible refine gX ?_); (first | refine wpX_nil ?_ | refine sK ?_ | refine sM fun _ _=>?_ | refine sL (hz:=by exact Zone.of e2d (by simpa using hxb)) fun _ _=>?_ | refine sE fun _ _=>?_); go_wp2_with fail)
    refine HN.out.mono ?_; rintro _ w3 ⟨hc3,_,rfl,⟨o,rfl⟩,hq3,hv3⟩
    have HC3:=Lib.hid hc3; have HQ3:=Lib.hid hq3; have HV3:=Lib.hid hv3
    have hS2:=hc3
    clear hc3 hq3 hv3
    go_wp2_with fail
    refine And.intro (by assumption:Chg _ _ _) ?_
    repeat ((with_reducible refine gX ?_); (first | refine wpX_nil ?_ | refine sK ?_ | refine sM fun _ _=>?_ | refine sL (hz:=by exact Zone.of e2d (by simpa using hxb)) fun _ _=>?_ | refine sE fun _ _=>?_); go_wp2_with fail)
    refine And.intro (Chg.alloc (by assumption:Chg _ _ _) _) ?_
    repeat ((with_reducible refine gX ?_); (first | refine wpX_nil ?_ | refine sK ?_ | refine sM fun _ _=>?_ | refine sL (hz:=by exact Zone.of e2d (by simpa using hxb)) fun _ _=>?_ | refine sE fun _ _=>?_); go_wp2_with fail)
    go_ret
    rw [HUN.out]
    have hca:Chg [bp] w3 (w3.alloc (.cells #[num 4,num p,num 0,str [],str [],str op,.pointer o,nilp,nils] 155)):=(Chg.refl _ _).alloc _
    have hq4:=HQ3.out.same ((Chg.refl [] w3).alloc (.cells #[num 4,num p,num 0,str [],str [],str op,.pointer o,nilp,nils] 155))
    have hv4:=fun (x:E) r' (hx : one z d ts.tail = .ok x r')=>(EAt.later (w:=w) (HV3.out x r' hx) HCD.out.size).grown hbp hca
    have hcw:=(HCD.out.then HC3.out).then hca
    have hbn:=Blk.new w3 #[num 4,num p,num 0,str [],str [],str op,.pointer o,nilp,nils] 155
    have hsz:=(HCD.out.then HC3.out).size
    rw [HOE.out] at hq4 hv4 hcw hbn ⊢
    refine ⟨hcw,_,rfl,⟨_,rfl⟩,?_,fun a r e=>?_⟩
    ·cases hx : one z d ts.tail <;> rw [hx] at hq4 <;> exact hq4
    ·cases hx : one z d ts.tail with
     | bad e' p'=>rw [hx] at e; cases e
     | ok x r'=>
      rw [hx] at e; cases e
      exact ⟨w3.heap.size,_,rfl,⟨hsz,by simp⟩,hbn,hv4 x _ hx⟩
theorem rone_any : ∀ d deep,deep + d=11→ROneOK deep d:=by
 intro d
 induction d with
 | zero=>intro deep h; rw [show deep=11 by omega]; exact rone_zero
 | succ d ih=>exact fun deep h=>rone_step deep d h (ih (deep + 1) (by omega))
theorem rex_any (deep d:Nat) (h : deep + d=11):RExOK 0 deep (fun z=>expr z (one z d) 5):=rexpr_level deep d (rone_any d deep h) (fun z=>(one_eats z d).mono) 5 (Nat.le_refl _)
theorem rnamed_any (deep d:Nat) (h : deep + 1 + d=11) (w:World) (B bp bt z:Nat) (ts:List Tok) (hp:RP w B bp bt z none ts) :
  Calls Tryz.prog 141 #[ptr bp,num deep] w (RTold w B bp bt z (named z (expr z (one z d) 5) ts) (EV w) (RefU w)):=
 rref_any deep (by omega) (fun z=>expr z (one z d) 5) (rex_any (deep + 1) d h) (fun z=>expr_eats (one_eats z d) 5) w B bp bt z ts hp
end Go.Proofs.YtojkkgghndeimaaGreatDoor
