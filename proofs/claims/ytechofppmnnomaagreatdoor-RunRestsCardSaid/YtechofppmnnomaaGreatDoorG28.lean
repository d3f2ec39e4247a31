/- Some texts in one. -/
import Derived.Laws.BytesString
import Derived.Laws.CopyRow
import Derived.Test.YtechofppmnnomaaGreatDoorG11
import Derived.Test.YtechofppmnnomaaGreatDoorG15
import Derived.Test.YtechofppmnnomaaGreatDoorG18
import Derived.Test.YtechofppmnnomaaGreatDoorG21
import Derived.Test.YtechofppmnnomaaGreatDoorG22
import Derived.Test.YtechofppmnnomaaGreatDoorG26
import Derived.Test.YtechofppmnnomaaGreatDoorG27
namespace Go.Mq.Run
open Go Go.RowKit Go.Mq Go.Mq.Tree
theorem procsAt_own {w:World} {F:Nat→Prop} {l:List Proc} {bb off n c:Nat} (h:ProcsAt w F l (.slice (some ⟨bb,off,none⟩) n c)) (hl : 0 < l.length):F bb:=by
 obtain⟨a,c',cs,he,_,hr,hp⟩:=h;cases he
 cases l with
 | nil=>simp at hl
 | cons y r=>
  obtain⟨c1,c2,rfl,⟨_,_,_,rfl,_⟩,_⟩:=hp;exact hr.own (by simp) _ rfl
end Go.Mq.Run
namespace Go.Proofs.YtechofppmnnomaaGreatDoor
open Go Go.RowKit Go.Mq Go.Mq.Tree Go.Mq.Sym Go.Mq.Run
open Go.Mq.Check (FewM FewS FewE argsN check Out)
open Go.Mq.Plan (MapIs getM putM run_getM run_getMok run_getNok run_putM)
set_option maxRecDepth 100000
set_option maxHeartbeats 4000000
theorem call_does (g:Nat) {L:Lay} {q:Nm} {m:Mod} {p:Proc} {k:Nat} {args:List Int} {a:Option Addr} {c:Nat} {s:St} {w:World} {b13 b15 b8 b11:Nat} {u:Value} (h:Going w L 0 s nils) (hq:L.M q=some m) (hk : m.procs[k]?=some p)
  (h13:Blk w b13 #[ptr (L.pb q)] 94) (h15:Blk w b15 #[num k] 3) (h8:Blk w b8 #[.slice a args.length c] 41) (h11:Blk w b11 #[u] i64T) (hn11 : b11∉mutL L nils∧¬ L.Fix b11)
  (hrow:Row w (fun b=>b∉mutL L nils) a (ints args)) (hal : args.length≤2000) (ho : (fns L.M g).c 0 q p args s ≠ .stuck) (X:List Nat) (hX : ∀ n s',(fns L.M g).c 0 q p args s = .ok n s'→X=[b11]) :
  Calls Tryz.prog 66 #[ptr L.br,ptr b13,ptr b15,ptr b8,ptr b11] w (Ran w L 0 nils X (fun w' n e=>e = .returned (.tuple #[])∧Blk w' b11 #[num n] i64T) ((fns L.M g).c 0 q p args s)):=by
 obtain⟨tgt,ht⟩ : ∃ o,o=(fns L.M g).c 0 q p args s:=⟨_,rfl⟩
 obtain⟨wD,hwD⟩ : ∃ x,x=w.drew:=⟨_,rfl⟩
 have hcD:Chg [] w wD:=by rw [hwD];exact(Chg.refl [] w).drew
 have hg:=h.kept hcD;obtain⟨_,bp,pes,_,_,_,_,hall⟩:=hg.stat;have hpart:=hall q;rw [hq] at hpart;obtain⟨_,hown,hfew,ai,ci,av,cv,ap,cp,ab,cb,bv,es,h3,h4,_⟩:=hpart;obtain⟨vi,vv,vp,vb,hve,_,_,hpr,_⟩:=h4;cases hve
 obtain⟨bb,off,cc,vvp,vvv,vvb,hsl,hcc,d0,d1,d2,d3,d4,d5,hn1,hn2,hn3⟩:=procsAt_cells hpr hk;simp only [Value.slice.injEq,true_and] at hsl;obtain⟨rfl,rfl⟩:=hsl;have hkl:=(List.getElem?_eq_some_iff.1 hk).1;have hmem : p∈m.procs:=List.mem_of_getElem? hk;have hpl:=hfew.procs;obtain⟨hb1,hb2⟩:=hfew.bodies p hmem;obtain⟨hp1,hp2⟩:=hfew.params p hmem;have hbbF:L.Fix bb:=procsAt_own hpr (by omega);have hZ : ∀ x,L.Fix x→x∉b11 :: mutL L nils:=fun x hx hm=>by
  rcases List.mem_cons.1 hm with rfl|hm
  ·exact hn11.2 hx
  ·exact hg.notfix x hm hx
 have hT : ∀ {b:Nat} {cs:Array Value} {t:TypeId},Blk wD b cs t→t≠i64T→t≠160→b∉b11 :: mutL L nils:=fun {b cs t} hb h1 h2 hm=>by
  rcases List.mem_cons.1 hm with rfl|hm
  ·have:=h11.kept hcD (by simp);unfold Blk at this hb;rw [this] at hb;simp at hb;exact h1 hb.2.symm
  ·exact hg.notblk hb h1 h2 hm
 have k13:=h13.kept hcD (by simp);have k15:=h15.kept hcD (by simp);have k8:=h8.kept hcD (by simp);have k11:=h11.kept hcD (by simp);have e13:=k13.cell 0 _ rfl;have e15:=k15.cell 0 _ rfl;have e8:=k8.cell 0 _ rfl;have e3:=h3.cell 3 _ rfl;have Z1:=zh (Zone.of (X:=b11 :: mutL L nils) (w0:=wD) e13 (hT k13 (by decide) (by decide)));have Z2:=zh (Zone.of (X:=b11 :: mutL L nils) (w0:=wD) e15 (hT k15 (by decide) (by decide)));have Z3:=zh (Zone.of (X:=b11 :: mutL L nils) (w0:=wD) e8 (hT k8 (by decide) (by decide)));have Z4:=zh (Zone.of (X:=b11 :: mutL L nils) (w0:=wD) e3 (hT h3 (by decide) (by decide)));have Z5:=zh (Zone.of (X:=b11 :: mutL L nils) (w0:=wD) d0 (hZ bb hbbF));have HCC:=zh (con_c g hg hq hn1 hn2 hn3 hb1 hb2 (by omega) (by omega) (c:=c) (hrow.kept hcD (by simp)) hal ho);rw [← ht] at HCC ho hX ⊢;have HX:=zh hX;clear hX;have HG:=zh hg;have HCD:=zh hcD;have HK11:=zh k11;have HN11:=zh hn11;clear h hg hq hk h13 h15 h8 h11 hn11 hrow hal hcD hall hown hfew h3 hpr hn1 hn2 hn3 hmem hpl hb1 hb2 hp1 hp2 hbbF hZ hT k13 k15 k8 k11 ht
 go_enter Tryz.func66,Tryz.ntmps66
 go_wp2_with fail;refine wp_region_Q isEffL (b11 :: mutL L nils) rfl (by kernel_rfl) ?_;rw [← hwD];clear hwD;have hS:Chg (b11 :: mutL L nils) wD wD:=Chg.refl _ _
 repeat ((with_reducible show wpQ _ _ _ _ _ _ _ _ _);(first|refine wpQ_nil ?_|refine wpQ_skip rfl ?_|refine wpQ_mv rfl rfl (by kernel_rfl) (fun _ _=>?_)|refine wpQ_ldC rfl rfl rfl (by first|exact Z1.out|exact Z2.out|exact Z3.out|exact Z4.out|exact Z5.out) (by assumption) (fun _ _=>?_));go_wp2_with fail)
 refine wpQ_ef rfl rfl (fun K Q hK hQ=>?_);go_wp2_with fail;refine HCC.out.mono ?_;rintro e w2 ⟨ov2,hm,hc,hres⟩;have HM2:=zh hm;have HC2:=zh hc;have HC2':=zh (show Chg (b11 :: mutL L nils) wD w2 from hc.mono (fun x hx=>.inl (List.mem_cons_of_mem _ (by simpa using hx))));have HK2:=zh (HK11.out.kept hc (by simpa using HN11.out.1));cases tgt with
 | stuck=>exact absurd rfl ho
 | stop way s2=>
  obtain⟨⟨older,hol,rfl⟩,d',hg⟩:=hres;have HG2:=zh hg;clear hm hc hg hS;refine hQ _ _ _ (fun a' ha=>?_);refine⟨ha,?_⟩;exact Ran.after (Ran.ended HM2.out (by simpa using HC2.out) HG2.out (Chg.refl _ _) ⟨older,hol,rfl⟩) HCD.out
 | ok v s2=>
  obtain⟨rfl,hg⟩:=hres;have hXX:=HX.out v s2 rfl;subst hXX;have HG2:=zh hg;have y0:=HK2.out.cell 0 _ rfl;have f0:=HK2.out.frozen 0;clear hm hc hg hS;go_wp2_with fail;refine⟨HC2'.out,?_⟩;have hS:=HC2'.out
  repeat ((with_reducible show wpQ _ _ _ _ _ _ _ _ _);(first|refine wpQ_nil ?_|refine wpQ_skip rfl ?_|refine wpQ_mv rfl rfl (by kernel_rfl) (fun _ _=>?_)|refine wpQ_ldC rfl rfl rfl (by first|exact Z1.out|exact Z2.out|exact Z3.out|exact Z4.out|exact Z5.out) (by assumption) (fun _ _=>?_));go_wp2_with fail)
  refine wpQ_ef rfl rfl (fun K Q hK hQ=>?_);clear hS;obtain⟨w3,hw3⟩ : ∃ x,w2.setCell ⟨b11,0,none⟩ (num v)=x:=⟨_,rfl⟩
  have hc3:Chg [b11] w2 w3:=by rw [← hw3];exact Chg.set1 _ _ _ _
  have hb3:Blk w3 b11 #[num v] i64T:=by rw [← hw3];simpa using HK2.out.set 0 (num v)
  have HC3:=zh hc3;have HB3:=zh hb3;clear hc3 hb3;go_wp2_with fail;refine⟨HC2'.out.then (HC3.out.mono (fun x hx=>.inl (by simp at hx;simp [hx]))),?_⟩;refine wpQ_nil ?_;go_wp2_with fail;refine bodyPost_end (results_none rfl _ _ _) rfl ?_;have hnm:=notmut_moved (L:=L) HM2.out HK11.out.lt HN11.out.1;have hR:Ran wD L 0 nils [b11] (fun w' n e=>e = .returned (.tuple #[])∧Blk w' b11 #[num n] i64T) (O.ok v s2) (.returned (.tuple #[])) w3:=⟨ov2,HM2.out,(HC2.out.mono (fun x hx=>.inl (by simp at hx;simp [hx]))).then (HC3.out.mono (fun x hx=>.inl (by simp at hx;simp [hx]))),⟨rfl,HB3.out⟩,HG2.out.aside HC3.out (fun x hx=>by simp at hx;subst hx;exact⟨hnm,HN11.out.2⟩)⟩;exact hR.after HCD.out
end Go.Proofs.YtechofppmnnomaaGreatDoor
namespace Go.Proofs.YtechofppmnnomaaGreatDoor
open Go Go.RowKit Go.Mq Go.Mq.Tree Go.Mq.Sym Go.Mq.Check Go.Mq.Run
set_option maxRecDepth 100000
set_option maxHeartbeats 2000000
theorem cisp_any (x:Proc) (n:List UInt8) (pos:Int) (a1:Option Addr) (k1:Nat) (a2:Option Addr) (n2 k2:Nat) (a3:Option Addr) (n3 k3:Nat) (b0:Nat) (w:World) (hx : w.cell? ⟨b0,0,none⟩=some (str n)) :
  Calls Tryz.prog 65 #[.agg #[str x.name,.int .i64 pos,.bool x.seen,.slice a1 x.params.length k1,.slice a2 n2 k2,.slice a3 n3 k3],ptr b0] w (fun e w'=>e = .returned (.bool (x.name == n && x.seen))∧Chg [] w w'):=by
 have hx':=((Chg.refl [] w).alloc (.cells #[str x.name,.int .i64 pos,.bool x.seen,.slice a1 x.params.length k1,.slice a2 n2 k2,.slice a3 n3 k3] 72)).cellSome hx (by simp);have n0 : b0≠w.heap.size:=by have:=lt_of_cell hx;simp at this;omega
 have z:=Blk.new w #[str x.name,.int .i64 pos,.bool x.seen,.slice a1 x.params.length k1,.slice a2 n2 k2,.slice a3 n3 k3] 72;have z0:=z.cell 0 _ rfl;have z2:=z.cell 2 _ rfl;clear hx z;obtain⟨sb,hsb⟩ : ∃ b,b=x.seen:=⟨_,rfl⟩
 rw [← hsb] at z2 z0 hx' ⊢;clear hsb;cases hq : (x.name == n) <;> cases sb
 all_goals
  go_enter Tryz.func65,Tryz.ntmps65
  go_wp2_with fail
  all_goals go_ret
  all_goals exact⟨rfl,(Chg.refl _ _).alloc _⟩
theorem cindexp_any (l:List Proc) (hl : l.length≤1000) (n:List UInt8) (b0:Nat) (F:Nat→Prop) (v:Value) (w:World) (h:ProcsL w F l v) (hx : w.cell? ⟨b0,0,none⟩=some (str n)) :
  Calls Tryz.prog 57 #[v,.func (.func 65) #[] #[ptr b0]] w (fun e w'=>At1 l (fun g=>g.name == n && g.seen) e∧Chg [] w w'):=by
 have HPR:=zh h;obtain⟨a,c,cs,rfl,hac,hrow,hps⟩:=h;have HX:=zh hx;clear hrow hx hps
 go_enter Tryz.func57,Tryz.ntmps57
 go_wp2_with fail
 go_loopw [5,8] (fun _ i wr=>∃ k:Nat,i = .int .i64 k∧k≤l.length∧Chg [] w wr ∧ ∀ (i:Nat) (x:Proc),i < k→l[i]?=some x→(x.name == n && x.seen)=false) (fun _ i _=>l.length - (intOf i).toNat)
 case atStart=>exact⟨0,rfl,Nat.zero_le _,Chg.refl _ _,fun i x hi=>by omega⟩
 case round=>
  obtain⟨k,rfl,hk,hc,hno⟩:=hrel;have HNO:=zh hno;have HC:=zh hc;clear hno hc;by_cases hlt : k < l.length
  ·obtain⟨s,hs⟩ : ∃ s,l[k]?=some s:=⟨l[k],List.getElem?_eq_getElem hlt⟩
   obtain⟨bb,off,cc,pos,a1,k1,a2,n2,k2,a3,n3,k3,hv,_,d0,d1,d2,d3,d4,d5⟩:=proc_cells (HPR.out.kept HC.out (by simp)) hs;simp only [Value.slice.injEq,true_and] at hv;obtain⟨rfl,rfl⟩:=hv;have HS:=zh hs;have HI:=zh (cisp_any s n pos a1 k1 a2 n2 k2 a3 n3 k3 b0 wr (HC.out.cellSome HX.out (by simp)));clear hs;cases hq : (s.name == n && s.seen) with
   | true=>
    rw [hq] at HI;have HR:=zh (show l.find? (fun g=>g.name == n && g.seen)=some s from find_at HS.out hq HNO.out);clear hq;go_wp2_with fail;refine HI.out.mono ?_;rintro _ w2 ⟨rfl,hq⟩;have HQ:=zh (HC.out.then hq);clear hq;go_wp2_with fail;go_ret
    refine⟨?_,HQ.out⟩;rw [At1,HR.out];exact⟨k,HS.out,rfl⟩
   | false=>
    rw [hq] at HI;have HN:=zh hq;clear hq;go_wp2_with fail;refine HI.out.mono ?_;rintro _ w2 ⟨rfl,hq⟩;have HQ:=zh (HC.out.then hq);clear hq;go_wp2_with fail;refine⟨⟨k + 1,by go_num,by omega,HQ.out,fun i x hi hx=>?_⟩,by simp [intOf];omega⟩;by_cases he : i < k
    ·exact HNO.out i x he hx
    ·have : i=k:=by omega
     subst this;rw [HS.out] at hx;cases hx
     exact HN.out
  ·have HR:=zh (show l.find? (fun g=>g.name == n && g.seen)=none from find_no fun i x hx=>HNO.out i x (by have:=(List.getElem?_eq_some_iff.1 hx).1;omega) hx)
   go_wp2_with fail;go_ret
   exact⟨by rw [At1,HR.out] <;> rfl,HC.out⟩
end Go.Proofs.YtechofppmnnomaaGreatDoor
namespace Go.Mq.Run
open Go Go.RowKit Go.Mq Go.Mq.Tree Go.Mq.Sym
open Go.Mq.Check (Env Got exprL bodyL procL procsL nameL argsN check Out check_fine onceL_none FewM)
def envOf (M:Ms) (m:Mod) (lo:List Nm):Env:=⟨m.imports,seenOf M,lo,m.vars,m.procs⟩
def Loc (lo:List Nm) (fr:Fr):Prop:=∀ n,n∈lo↔(getF fr n).isSome
theorem getF_put (fr:Fr) (n:Nm) (v:Int) (k:Nm) : getF (putF fr n v) k=if n=k then some v else getF fr k:=by
 induction fr with
 | nil=>simp [putF,getF]
 | cons p r ih=>
  obtain⟨a,u⟩:=p;rw [putF];split
  ·next h=>subst h;rw [getF,getF];split <;> simp_all
  ·next h=>
   rw [getF,getF,ih];split
   ·next h2=>subst h2;rw [if_neg (fun e=>h e.symm)]
   ·rfl
theorem Loc.put {lo:List Nm} {fr:Fr} (h:Loc lo fr) {n:Nm} (hn : (getF fr n).isSome) (v:Int):Loc lo (putF fr n v):=fun k=>by
 rw [h k,getF_put];split
 ·next e=>subst e;simp [hn]
 ·rfl
def Shape (M:Ms) (vs:Vs):Prop:=∀ q m,M q=some m → ∀ g∈m.vars,∃ l,vs q g.name=some l∧l.length=sizeG g
theorem sizeG_pos (g:Glob) : 1≤sizeG g:=by unfold sizeG;omega
structure OkM (M:Ms):Prop where
 good : ∀ q m,M q=some m→GoodM m∧m.name=q
 fine : ∀ q m,M q=some m→check m (seenOf M) = .fine
theorem Shape.al {M:Ms} {vs vs':Vs} (h:Shape M vs) (k : ∀ q n,(vs' q n).map List.length=(vs q n).map List.length):Shape M vs':=fun q m hq g hg=>by
 obtain⟨l,h1,h2⟩:=h q m hq g hg;have:=k q g.name;rw [h1] at this;cases hv : vs' q g.name with
 | none=>rw [hv] at this;cases this
 | some l'=>rw [hv] at this;simp at this;exact⟨l',rfl,by omega⟩
theorem mem_ofM {m:Mod} {s:Sy} (h : s∈ofM m) : (∃ g∈m.vars,s=varSy g) ∨ ∃ p∈m.procs,s=procSy p:=by
 have:=mem_insSort h;rcases List.mem_append.1 this with h|h
 ·obtain⟨g,hg,rfl⟩:=List.mem_map.1 h;exact .inl ⟨g,(List.mem_filter.1 hg).1,rfl⟩
 ·obtain⟨g,hg,rfl⟩:=List.mem_map.1 h;exact .inr ⟨g,(List.mem_filter.1 hg).1,rfl⟩
theorem findS_is {l:List Sy} {n:Nm} {k:Nat} (h : findS l n=some k) : l.getD k Sy.none∈l∧(l.getD k Sy.none).name=n:=by
 obtain⟨hlt,h2,_⟩:=List.findIdx?_eq_some_iff_getElem.1 h;have e : l.getD k Sy.none=l[k]:=by simp [List.getD,hlt]
 rw [e];exact⟨List.getElem_mem hlt,by simpa using h2⟩
theorem find_far {M:Ms} {m:Mod} {lo:List Nm} {p:Nat} {mm n:Nm} {s:Sy} (hmm : mm≠[]) (h : (envOf M m lo).find p mm n = .is s) : mm∈m.imports ∧ ∃ mo,M mm=some mo∧((∃ g∈mo.vars,s=varSy g∧g.name=n) ∨ ∃ x∈mo.procs,s=procSy x∧x.name=n):=by
 unfold Env.find at h
 rw [if_pos hmm] at h
 change (if mm∉m.imports then Got.bad 5 p else match findS ((seenOf M mm).getD []) n with
  | none=>.bad 7 p
  | some k=>.is (((seenOf M mm).getD []).getD k Sy.none))=Got.is s at h
 by_cases hi : mm∉m.imports
 ·rw [if_pos hi] at h;cases h
 ·rw [if_neg hi] at h
  refine⟨Classical.not_not.1 hi,?_⟩;cases hM:M mm with
  | none=>simp [seenOf,hM,findS] at h
  | some mo=>
   simp only [seenOf,hM,Option.map_some,Option.getD_some] at h;cases hk : findS (ofM mo) n with
   | none=>rw [hk] at h;cases h
   | some k=>
    rw [hk] at h;simp only at h;cases h
    obtain⟨h1,h2⟩:=findS_is hk;refine⟨mo,rfl,?_⟩;rcases mem_ofM h1 with⟨g,hg,e⟩|⟨x,hx,e⟩
    ·exact .inl ⟨g,hg,e,by rw [← h2,e];rfl⟩
    ·exact .inr ⟨x,hx,e,by rw [← h2,e];rfl⟩
theorem find_near {M:Ms} {m:Mod} {lo:List Nm} {p:Nat} {n:Nm} {s:Sy} (h : (envOf M m lo).find p [] n = .is s) : n∈lo∧s.args = -1∧s.len=0∨n∉lo∧((∃ g∈m.vars,s=⟨n,g.len,-1⟩∧g.name=n) ∨ ∃ x∈m.procs,s=⟨n,0,x.params.length⟩∧x.name=n):=by
 unfold Env.find at h
 rw [if_neg (by simp)] at h
 change (if n∈lo then Got.is ⟨n,0,-1⟩ else match m.vars.find? fun g=>g.name == n with
  | some g=>.is ⟨n,g.len,-1⟩
  | none=>match m.procs.find? fun x=>x.name == n with
   | some x=>.is ⟨n,0,x.params.length⟩
   | none=>.bad 7 p)=Got.is s at h
 by_cases hl : n∈lo
 ·rw [if_pos hl] at h;cases h;exact .inl ⟨hl,rfl,rfl⟩
 ·rw [if_neg hl] at h
  refine .inr ⟨hl,?_⟩;split at h
  ·next g hg=>cases h;exact .inl ⟨g,List.mem_of_find?_eq_some hg,rfl,by simpa using List.find?_some hg⟩
  ·split at h
   ·next x hx=>cases h;exact .inr ⟨x,List.mem_of_find?_eq_some hx,rfl,by simpa using List.find?_some hx⟩
   ·cases h
theorem nameL_none {c:Env} {p:Nat} {m n:Nm} {f:Sy→Go.Mq.Check.Look} (h : nameL c p m n f=none) : ∃ s,c.find p m n = .is s∧f s=none:=by
 unfold nameL at h
 cases hf : c.find p m n with
 | bad e q=>rw [hf] at h;cases h
 | is s=>rw [hf] at h;exact⟨s,rfl,h⟩
theorem where_nil (q:Nm) : where_ q []=q:=if_pos rfl
theorem where_far {q m:Nm} (h : m≠[]) : where_ q m=m:=if_neg h
theorem procs_nodup {M:Ms} (hM:OkM M) {q:Nm} {m:Mod} (hq:M q=some m) : (m.procs.map (·.name)).Nodup:=(List.nodup_append.1 ((check_fine _ _).1 (hM.fine q m hq)).2.1).2.1
theorem find_nodup {l:List Proc} (h : (l.map (·.name)).Nodup) {x:Proc} (hx : x∈l) : l.find? (fun p=>p.name == x.name)=some x:=by
 induction l with
 | nil=>cases hx
 | cons y r ih=>
  rw [List.map_cons,List.nodup_cons] at h;rw [List.find?_cons];rcases List.mem_cons.1 hx with rfl|hx
  ·simp
  ·have : (y.name == x.name)=false:=by
    simp only [beq_eq_false_iff_ne];intro e;exact h.1 (e ▸ List.mem_map_of_mem hx)
   rw [this];exact ih h.2 hx
def Mono {α:Type} (f:Nat→O α):Prop:=∀ g g',g≤g'→Le (f g) (f g')
def Fin {α:Type} (f:Nat→O α):Prop:=∃ g,f g ≠ .stuck
theorem Le.of_ne {α:Type} {a b:O α} (h:Le a b) (k : a ≠ .stuck) : a=b:=h.resolve_left k
theorem Fin.bind {α β:Type} {f:Nat→O α} {k:Nat→α→St→O β} (hf:Mono f) (hk : ∀ a s,Mono (fun g=>k g a s)) (h:Fin f) (h2 : ∀ g a s,f g = .ok a s→Fin (fun g=>k g a s)):Fin (fun g=>(f g).bind (k g)):=by
 obtain⟨g,hg⟩:=h;cases ho : f g with
 | stuck=>exact absurd ho hg
 | stop w s=>exact⟨g,by simp [ho,O.bind]⟩
 | ok a s=>
  obtain⟨g2,hg2⟩:=h2 g a s ho;refine⟨max g g2,?_⟩;have e1:=(hf g (max g g2) (Nat.le_max_left _ _)).of_ne hg;have e2:=(hk a s g2 (max g g2) (Nat.le_max_right _ _)).of_ne hg2
  show (f (max g g2)).bind _≠_
  rw [← e1,ho]
  show k (max g g2) a s≠_
  simp only at e2;rw [← e2];exact hg2
theorem Fin.const {α:Type} {o:O α} (h : o ≠ .stuck):Fin (fun _=>o):=⟨0,h⟩
theorem Mono.const {α:Type} (o:O α):Mono (fun _=>o):=fun _ _ _=>.refl _
theorem mono_e (M:Ms) (d:Nat) (q:Nm) (fr:Fr) (x:E) (s:St):Mono fun g=>(fns M g).e d q fr x s:=fun _ _ h=>(fns_le M h).e d q fr x s
theorem mono_es (M:Ms) (d:Nat) (q:Nm) (fr:Fr) (x:E) (s:St):Mono fun g=>(fns M g).es d q fr x s:=fun _ _ h=>(fns_le M h).es d q fr x s
theorem mono_c (M:Ms) (d:Nat) (q:Nm) (p:Proc) (a:List Int) (s:St):Mono fun g=>(fns M g).c d q p a s:=fun _ _ h=>(fns_le M h).c d q p a s
theorem mono_b (M:Ms) (d:Nat) (q:Nm) (fr:Fr) (x:S) (s:St):Mono fun g=>(fns M g).b d q fr x s:=fun _ _ h=>(fns_le M h).b d q fr x s
theorem mono_l (M:Ms) (d:Nat) (q:Nm) (fr:Fr) (v:E) (t:S) (s:St):Mono fun g=>(fns M g).l d q fr v t s:=fun _ _ h=>(fns_le M h).l d q fr v t s
theorem Mono.bind {α β:Type} {f:Nat→O α} {k:Nat→α→St→O β} (hf:Mono f) (hk : ∀ a s,Mono (fun g=>k g a s)):Mono fun g=>(f g).bind (k g):=fun g g' h=>(hf g g' h).bind fun a s=>hk a s g g' h
theorem Fin.succ {α:Type} {f h:Nat→O α} (k:Fin f) (e : ∀ g,h (g + 1)=f g):Fin h:=by
 obtain⟨g,hg⟩:=k;exact⟨g + 1,by rw [e];exact hg⟩
theorem al_ok {M:Ms} {g d:Nat} {q:Nm} {fr:Fr} {x:E} {s s':St} {n:Int} (h : (fns M g).e d q fr x s = .ok n s') : s'.fuel≤s.fuel ∧ ∀ q n,(s'.vs q n).map List.length=(s.vs q n).map List.length:=by
 have h1:=(along keeps_fuel M g).e d q fr x s;have h2:=(along keeps_shape M g).e d q fr x s;rw [h] at h1 h2;exact⟨h1,h2⟩
theorem als_ok {M:Ms} {g d:Nat} {q:Nm} {fr:Fr} {x:E} {s s':St} {n:List Int} (h : (fns M g).es d q fr x s = .ok n s') : s'.fuel≤s.fuel ∧ ∀ q n,(s'.vs q n).map List.length=(s.vs q n).map List.length:=by
 have h1:=(along keeps_fuel M g).es d q fr x s;have h2:=(along keeps_shape M g).es d q fr x s;rw [h] at h1 h2;exact⟨h1,h2⟩
theorem alb_ok {M:Ms} {g d:Nat} {q:Nm} {fr:Fr} {x:S} {s s':St} {n:Fl × Fr} (h : (fns M g).b d q fr x s = .ok n s') : s'.fuel≤s.fuel ∧ ∀ q n,(s'.vs q n).map List.length=(s.vs q n).map List.length:=by
 have h1:=(along keeps_fuel M g).b d q fr x s;have h2:=(along keeps_shape M g).b d q fr x s;rw [h] at h1 h2;exact⟨h1,h2⟩
theorem es_len (M:Ms) : ∀ (g d:Nat) (q:Nm) (fr:Fr) (x:E) (s s':St) (l:List Int),(fns M g).es d q fr x s = .ok l s'→l.length=argsN x
 | 0,_,_,_,_,_,_,_,h=>by cases h
 | g + 1,d,q,fr,x,s,s',l,h=>by
  change stepEs (fns M g) d q fr x s=_ at h
  cases x with
  | nil=>cases h;rfl
  | cons x r=>
   change ((fns M g).e d q fr x s).bind (fun n s=>((fns M g).es d q fr r s).bind fun l s=>.ok (n :: l) s)=_ at h
   cases h1 : (fns M g).e d q fr x s with
   | stuck=>rw [h1] at h;cases h
   | stop w s=>rw [h1] at h;cases h
   | ok n s1=>
    rw [h1] at h
    change ((fns M g).es d q fr r s1).bind (fun l s=>.ok (n :: l) s)=_ at h
    cases h2 : (fns M g).es d q fr r s1 with
    | stuck=>rw [h2] at h;cases h
    | stop w s=>rw [h2] at h;cases h
    | ok l2 s2=>
     rw [h2] at h;cases h
     have:=es_len M g d q fr r s1 _ l2 h2;simp [argsN,this]
  | num _ _=>cases h
  | var _ _ _=>cases h
  | item _ _ _ _=>cases h
  | un _ _ _=>cases h
  | bin _ _ _ _=>cases h
  | app _ _ _ _=>cases h
def SameF (fr fr':Fr):Prop:=∀ n,(getF fr' n).isSome=(getF fr n).isSome
theorem SameF.trans {a b c:Fr} (h:SameF a b) (k:SameF b c):SameF a c:=fun n=>(k n).trans (h n)
def KeepF (fr:Fr):O (Fl × Fr)→Prop
 | .ok x _=>SameF fr x.2
 | _=>True
theorem KeepF.bind {α:Type} {fr:Fr} {o:O α} {f : α→St→O (Fl × Fr)} (k : ∀ a s,KeepF fr (f a s)):KeepF fr (o.bind f):=by
 cases o with
 | ok a s=>exact k a s
 | stop w s=>trivial
 | stuck=>trivial
theorem KeepF.bindF {fr:Fr} {o:O (Fl × Fr)} {f:Fl × Fr→St→O (Fl × Fr)} (h:KeepF fr o) (k : ∀ x s,SameF fr x.2→KeepF x.2 (f x s)):KeepF fr (o.bind f):=by
 cases o with
 | ok a s=>
  have:=k a s h
  show KeepF fr (f a s)
  cases hf : f a s with
  | ok x s=>rw [hf] at this;exact SameF.trans h this
  | stop w s=>trivial
  | stuck=>trivial
 | stop w s=>trivial
 | stuck=>trivial
theorem keep_set (q:Nm) (fr:Fr) (n:Nm) (k v:Int) (s:St):KeepF fr (setO q fr n k v s):=by
 unfold setO
 cases hg : getF fr n with
 | some u=>
  intro j
  show (getF (putF fr n v) j).isSome=_
  rw [getF_put];split
  ·next e=>subst e;simp [hg]
  ·rfl
 | none=>
  simp only;split
  ·trivial
  ·split
   ·exact fun _=>rfl
   ·trivial
theorem keep_all (M:Ms) : ∀ g,(∀ d q fr x s,KeepF fr ((fns M g).b d q fr x s)) ∧ ∀ d q fr v t s,KeepF fr ((fns M g).l d q fr v t s)
 | 0=>⟨fun _ _ _ _ _=>trivial,fun _ _ _ _ _ _=>trivial⟩
 | g + 1=>by
  obtain⟨hb,hl⟩:=keep_all M g;refine⟨fun d q fr x s=>?_,fun d q fr v t s=>?_⟩
  ·show KeepF fr (stepB (fns M g) d q fr x s)
   unfold stepB
   split
   ·exact fun _=>rfl
   ·unfold andThen
    refine KeepF.bindF ?_ fun x s h=>?_
    ·cases x with
     | nil=>trivial
     | set p n i v r=>exact KeepF.bind fun _ _=>KeepF.bind fun _ _=>KeepF.bind fun _ _=>keep_set _ _ _ _ _ _
     | ifs p v t e r=>exact KeepF.bind fun _ _=>KeepF.bind fun n _=>by split <;> exact hb _ _ _ _ _
     | whil p v t r=>exact KeepF.bind fun _ _=>hl _ _ _ _ _ _
     | ret p v r=>exact KeepF.bind fun _ _=>KeepF.bind fun _ _=>fun _=>rfl
     | wri p v r=>exact KeepF.bind fun _ _=>KeepF.bind fun _ _=>by split;trivial;exact fun _=>rfl
     | call p v r=>exact KeepF.bind fun _ _=>KeepF.bind fun _ _=>fun _=>rfl
    ·split
     ·exact hb _ _ _ _ _
     ·exact fun _=>rfl
  ·show KeepF fr (stepL (fns M g) d q fr v t s)
   refine KeepF.bind fun n s=>?_
   split
   ·exact fun _=>rfl
   ·refine KeepF.bindF (hb _ _ _ _ _) fun x s h=>?_
    split
    ·exact KeepF.bind fun _ _=>hl _ _ _ _ _ _
    ·exact fun _=>rfl
theorem Loc.same {lo:List Nm} {fr fr':Fr} (h:Loc lo fr) (k:SameF fr fr'):Loc lo fr':=fun n=>by rw [h n,k n]
theorem loc_b {M:Ms} {g d:Nat} {q:Nm} {fr:Fr} {x:S} {s s':St} {r:Fl × Fr} {lo:List Nm} (hl:Loc lo fr) (h : (fns M g).b d q fr x s = .ok r s'):Loc lo r.2:=by
 have:=(keep_all M g).1 d q fr x s;rw [h] at this;exact hl.same this
theorem al_stmt {R:St→St→Prop} (K:Keeps R) {F:Fns} (h:AlF R F) (d:Nat) (q:Nm) (fr:Fr) (x:S) (s:St):Al R s (stmtO F d q fr x s):=by
 cases x with
 | nil=>trivial
 | set p n i v r=>
  refine Al.bind K (al_tick K _) fun _ s'=>Al.bind K ?_ fun k s'=>Al.bind K (h.e _ _ _ _ _) fun v s'=>al_set K _ _ _ _ _ _
  cases i with
  | none=>exact K.refl s'
  | some i=>exact h.e _ _ _ _ _
 | ifs p v t e r=>
  refine Al.bind K (al_tick K _) fun _ s'=>Al.bind K (h.e _ _ _ _ _) fun n s'=>?_
  split
  ·exact h.b _ _ _ _ _
  ·exact h.b _ _ _ _ _
 | whil p v t r=>exact Al.bind K (al_tick K _) fun _ s'=>h.l _ _ _ _ _ _
 | ret p v r=>exact Al.bind K (al_tick K _) fun _ s'=>Al.bind K (h.e _ _ _ _ _) fun _ s'=>K.refl s'
 | wri p v r=>
  refine Al.bind K (al_tick K _) fun _ s'=>Al.bind K (h.e _ _ _ _ _) fun n s'=>?_
  split
  ·exact K.refl s'
  ·exact K.out _ _ ‹_›
 | call p v r=>exact Al.bind K (al_tick K _) fun _ s'=>Al.bind K (h.e _ _ _ _ _) fun _ s'=>K.refl s'
theorem keep_stmt (M:Ms) (g d:Nat) (q:Nm) (fr:Fr) (x:S) (s:St):KeepF fr (stmtO (fns M g) d q fr x s):=by
 obtain⟨hb,hl⟩:=keep_all M g;cases x with
 | nil=>trivial
 | set p n i v r=>exact KeepF.bind fun _ _=>KeepF.bind fun _ _=>KeepF.bind fun _ _=>keep_set _ _ _ _ _ _
 | ifs p v t e r=>exact KeepF.bind fun _ _=>KeepF.bind fun n _=>by split <;> exact hb _ _ _ _ _
 | whil p v t r=>exact KeepF.bind fun _ _=>hl _ _ _ _ _ _
 | ret p v r=>exact KeepF.bind fun _ _=>KeepF.bind fun _ _=>fun _=>rfl
 | wri p v r=>exact KeepF.bind fun _ _=>KeepF.bind fun _ _=>by split;trivial;exact fun _=>rfl
 | call p v r=>exact KeepF.bind fun _ _=>KeepF.bind fun _ _=>fun _=>rfl
theorem stmt_al {M:Ms} {g d:Nat} {q:Nm} {fr:Fr} {x:S} {s s':St} {r:Fl × Fr} (h : stmtO (fns M g) d q fr x s = .ok r s') : s'.fuel≤s.fuel∧(∀ q n,(s'.vs q n).map List.length=(s.vs q n).map List.length)∧SameF fr r.2:=by
 have h1:=al_stmt keeps_fuel (along keeps_fuel M g) d q fr x s;have h2:=al_stmt keeps_shape (along keeps_shape M g) d q fr x s;have h3:=keep_stmt M g d q fr x s;rw [h] at h1 h2 h3;exact⟨h1,h2,h3⟩
end Go.Mq.Run
namespace Go.Mq.Run
open Go Go.RowKit Go.Mq Go.Mq.Tree Go.Mq.Sym
open Go.Mq.Check (Env Got exprL bodyL procL procsL nameL argsN check Out check_fine onceL_none FewM procsL_none)
theorem fold_put {α:Type} (k : α→Nm) (v : α→Int) (n:Nm) : ∀ (l:List α) (fr:Fr),(getF (l.foldl (fun f x=>putF f (k x) (v x)) fr) n).isSome↔n∈l.map k∨(getF fr n).isSome
 | [],fr=>by simp
 | x :: r,fr=>by
  rw [List.foldl_cons,fold_put k v n r,getF_put,List.map_cons,List.mem_cons];by_cases h : k x=n
  ·simp [h]
  ·simp [h,Ne.symm h]
theorem loc_frame {p:Proc} {args:List Int} (h : p.params.length≤args.length):Loc (p.params ++ p.vars) (frame p args):=fun n=>by
 unfold frame
 rw [fold_put (fun n=>n) (fun _=>0),fold_put (fun(x:Nm × Int)=>x.1) (fun x=>x.2),List.map_id',List.map_fst_zip h,List.mem_append];simp [getF,or_comm]
structure Safe (M:Ms) (N k:Nat):Prop where
 e : ∀ d q m lo fr x s,M q=some m→30≤d + k→d≤30→s.fuel≤N→Loc lo fr→Shape M s.vs→WF x→x.isX→exprL (envOf M m lo) x=none→Fin fun g=>(fns M g).e d q fr x s
 b : ∀ d q m lo fr x s dd,M q=some m→30≤d + k→d≤30→s.fuel≤N→Loc lo fr→Shape M s.vs→WFS dd x→bodyL (envOf M m lo) x=none→Fin fun g=>(fns M g).b d q fr x s
 l : ∀ d q m lo fr v t s dd,M q=some m→30≤d + k→d≤30→s.fuel≤N→Loc lo fr→Shape M s.vs→WF v→v.isX→exprL (envOf M m lo) v=none→WFS dd t→bodyL (envOf M m lo) t=none→Fin fun g=>(fns M g).l d q fr v t s
def SafeC (M:Ms) (N k:Nat):Prop:=∀ d q m p args s,M q=some m→p∈m.procs→p.params.length≤args.length→30≤d + k→d≤30→s.fuel≤N→Shape M s.vs→Fin fun g=>(fns M g).c d q p args s
section
variable {M:Ms} (hM:OkM M)
include hM
theorem proc_ok {q:Nm} {m:Mod} (hq:M q=some m) {p:Proc} (hp : p∈m.procs) : bodyL (envOf M m (p.params ++ p.vars)) p.body=none∧WFS 10 p.body:=by
 have h1:=((check_fine _ _).1 (hM.fine q m hq)).2.2.1 p hp
 unfold procL at h1
 exact⟨(Option.or_eq_none_iff.1 h1).2,((hM.good q m hq).1.wf.procs p hp).body⟩
theorem safe_c {N k:Nat} (h : ∀ k',k=k' + 1→Safe M N k'):SafeC M N k:=fun d q m p args s hq hp ha hk hd hf hs=>by
 refine Fin.succ (f:=fun g=>stepC (fns M g) d q p args s) ?_ fun _=>rfl
 by_cases hd30 : d=30
 ·refine⟨0,?_⟩
  show stepC (fns M 0) d q p args s≠_
  unfold stepC;rw [if_pos hd30];intro h;cases h
 ·obtain⟨k',rfl⟩ : ∃ k',k=k' + 1:=⟨k - 1,by omega⟩
  obtain⟨h1,h2⟩:=proc_ok hM hq hp;have hb:=(h k' rfl).b (d + 1) q m _ (frame p args) p.body s 10 hq (by omega) (by omega) hf (loc_frame ha) hs h2 h1;have e : (fun g=>stepC (fns M g) d q p args s)=fun g=>((fns M g).b (d + 1) q (frame p args) p.body s).bind fun r s=>.ok (match r.1 with | .go=>0 | .ret n=>n) s:=by
   funext g;unfold stepC;rw [if_neg hd30,if_neg (by omega)];rfl
  rw [e];exact Fin.bind (mono_b M _ _ _ _ _) (fun _ _=>Mono.const _) hb fun g a s' _=>.const (by intro h;cases h)
theorem safe_e {N k:Nat} (hc:SafeC M N k) (d:Nat) (q:Nm) (m:Mod) (lo:List Nm) (fr:Fr) (hq:M q=some m) (hk : 30≤d + k) (hd : d≤30) (hl:Loc lo fr) (x:E) : ∀ s,s.fuel≤N→Shape M s.vs→WF x→exprL (envOf M m lo) x=none→(x.isX→Fin fun g=>(fns M g).e d q fr x s)∧(x.isL→Fin fun g=>(fns M g).es d q fr x s):=by
 induction x with
 | num p n=>exact fun s _ _ _ _=>⟨fun _=>Fin.succ (f:=fun _=>.ok n s) (.const (by intro h;cases h)) fun _=>rfl,fun h=>h.elim⟩
 | nil=>exact fun s _ _ _ _=>⟨fun h=>h.elim,fun _=>Fin.succ (f:=fun _=>.ok [] s) (.const (by intro h;cases h)) fun _=>rfl⟩
 | var p mm n=>
  refine fun s hf hs hw hx=>⟨fun _=>?_,fun h=>h.elim⟩
  rw [exprL] at hx;obtain⟨sy,h1,h2⟩:=nameL_none hx;have ha : ¬ (0≤sy.args∨0 < sy.len):=by
   intro h;rw [if_pos h] at h2;cases h2
  refine Fin.succ (f:=fun g=>stepE M (fns M g) d q fr (.var p mm n) s) ?_ fun _=>rfl
  by_cases hm : mm=[]
  ·subst hm
   rcases find_near h1 with⟨hlo,_⟩|⟨hlo,hg|⟨x,_,rfl,_⟩⟩
   ·obtain⟨v,hv⟩:=Option.isSome_iff_exists.1 ((hl n).1 hlo)
    exact⟨0,by simp [stepE,hv]⟩
   ·obtain⟨g,hg,_,hgn⟩:=hg
    have hn : getF fr n=none:=by
     cases hv : getF fr n with
     | none=>rfl
     | some v=>exact absurd ((hl n).2 (by simp [hv])) hlo
    obtain⟨l,hl1,hl2⟩:=hs q m hq g hg;rw [hgn] at hl1;have:=sizeG_pos g;cases l with
    | nil=>simp at hl2;omega
    | cons v r=>exact⟨0,by simp [stepE,hn,hl1,varO]⟩
   ·exact absurd (.inl (by simp)) ha
  ·obtain⟨_,mo,hmo,hg|⟨x,_,rfl,_⟩⟩:=find_far hm h1
   ·obtain⟨g,hg,_,hgn⟩:=hg
    obtain⟨l,hl1,hl2⟩:=hs mm mo hmo g hg;rw [hgn] at hl1;have:=sizeG_pos g;cases l with
    | nil=>simp at hl2;omega
    | cons v r=>exact⟨0,by simp [stepE,hm,hl1,varO]⟩
   ·exact absurd (.inl (by simp [procSy])) ha
 | item p mm n i ih=>
  refine fun s hf hs hw hx=>⟨fun _=>?_,fun h=>h.elim⟩
  rw [exprL] at hx;obtain⟨hx1,hx2⟩:=Option.or_eq_none_iff.1 hx;obtain⟨sy,h1,h2⟩:=nameL_none hx1;have hsome : (M (where_ q mm)).isSome=true:=by
   by_cases hm : mm=[]
   ·subst hm;rw [where_nil,hq];rfl
   ·obtain⟨_,mo,hmo,_⟩:=find_far hm h1
    rw [where_far hm,hmo];rfl
  refine Fin.succ (f:=fun g=>((fns M g).e d q fr i s).bind fun k s=>itemO (s.vs (where_ q mm) n) k s) ?_ fun g=>by
   show (if (M (where_ q mm)).isSome then _ else _)=_
   rw [if_pos hsome]
  refine Fin.bind (mono_e M _ _ _ _ _) (fun _ _=>Mono.const _) ((ih s hf hs hw.2.2.1 hx2).1 hw.2.2.2) fun g a s' _=>.const ?_
  unfold itemO
  split
  ·intro h;cases h
  ·split <;> (intro h;cases h)
 | un p op x ih=>
  refine fun s hf hs hw hx=>⟨fun _=>?_,fun h=>h.elim⟩
  rw [exprL] at hx;refine Fin.succ (f:=fun g=>((fns M g).e d q fr x s).bind fun n s=>.ok (if op=[45] then wr (-n) else one (n == 0)) s) ?_ fun g=>rfl
  exact Fin.bind (mono_e M _ _ _ _ _) (fun _ _=>Mono.const _) ((ih s hf hs hw.2.1 hx).1 hw.2.2) fun g a s' _=>.const (by intro h;cases h)
 | bin p op x y ih1 ih2=>
  refine fun s hf hs hw hx=>⟨fun _=>?_,fun h=>h.elim⟩
  rw [exprL] at hx;obtain⟨hx1,hx2⟩:=Option.or_eq_none_iff.1 hx;refine Fin.succ (f:=fun g=>((fns M g).e d q fr x s).bind fun a s=>
   if op=[97,110,100]∨op=[111,114] then
    if (a != 0)=decide (op=[111,114]) then .ok (one (a != 0)) s else ((fns M g).e d q fr y s).bind fun b s=>.ok (one (b != 0)) s
   else ((fns M g).e d q fr y s).bind fun b s=>match both op a b with
    | some n=>.ok n s
    | none=>.stop 2 s) ?_ fun g=>rfl
  refine Fin.bind (mono_e M _ _ _ _ _) (fun a s=>?_) ((ih1 s hf hs hw.2.1.1 hx1).1 hw.2.1.2) fun g a s' hs'=>?_
  ·split
   ·split
    ·exact Mono.const _
    ·exact Mono.bind (mono_e M _ _ _ _ _) fun _ _=>Mono.const _
   ·exact Mono.bind (mono_e M _ _ _ _ _) fun _ _=>Mono.const _
  ·have ha:=al_ok hs'
   have hy:=(ih2 s' (by omega) (hs.al ha.2) hw.2.2.1 hx2).1 hw.2.2.2;split
   ·split
    ·exact .const (by intro h;cases h)
    ·exact Fin.bind (mono_e M _ _ _ _ _) (fun _ _=>Mono.const _) hy fun g a s' _=>.const (by intro h;cases h)
   ·exact Fin.bind (mono_e M _ _ _ _ _) (fun _ _=>Mono.const _) hy fun g a s' _=>.const (by split <;> (intro h;cases h))
 | cons x r ih1 ih2=>
  refine fun s hf hs hw hx=>⟨fun h=>h.elim,fun _=>?_⟩
  rw [exprL] at hx;obtain⟨hx1,hx2⟩:=Option.or_eq_none_iff.1 hx;refine Fin.succ (f:=fun g=>((fns M g).e d q fr x s).bind fun n s=>((fns M g).es d q fr r s).bind fun l s=>.ok (n :: l) s) ?_ fun g=>rfl
  refine Fin.bind (mono_e M _ _ _ _ _) (fun a s=>Mono.bind (mono_es M _ _ _ _ _) fun _ _=>Mono.const _) ((ih1 s hf hs hw.1.1 hx1).1 hw.1.2) fun g a s' hs'=>?_
  have ha:=al_ok hs';exact Fin.bind (mono_es M _ _ _ _ _) (fun _ _=>Mono.const _) ((ih2 s' (by omega) (hs.al ha.2) hw.2.1 hx2).2 hw.2.2) fun g a s' _=>.const (by intro h;cases h)
 | app p mm n l ih=>
  refine fun s hf hs hw hx=>⟨fun _=>?_,fun h=>h.elim⟩
  rw [exprL] at hx;obtain⟨hx1,hx2⟩:=Option.or_eq_none_iff.1 hx;obtain⟨sy,h1,h2⟩:=nameL_none hx1;have ha : 0≤sy.args:=by
   by_cases h : 0≤sy.args
   ·exact h
   ·rw [if_pos h] at h2;cases h2
  rw [if_neg (by simpa using ha)] at h2;have hn : (argsN l:Int)=sy.args:=by
   by_cases h : (argsN l:Int)≠sy.args
   ·rw [if_pos h] at h2;cases h2
   ·simpa using h
  obtain⟨mo,x,hmo,hxm,hxn,hxa⟩ : ∃ mo x,M (where_ q mm)=some mo∧x∈mo.procs∧x.name=n∧(x.params.length:Int)=sy.args:=by
   by_cases hm : mm=[]
   ·subst hm
    rw [where_nil];rcases find_near h1 with⟨_,h,_⟩|⟨_,⟨g,_,rfl,_⟩|⟨x,hx,rfl,hxn⟩⟩
    ·omega
    ·simp at ha
    ·exact⟨m,x,hq,hx,hxn,rfl⟩
   ·rw [where_far hm]
    obtain⟨_,mo,hmo,⟨g,_,rfl,_⟩|⟨x,hx,rfl,hxn⟩⟩:=find_far hm h1
    ·simp [varSy] at ha
    ·exact⟨mo,x,hmo,hx,hxn,rfl⟩
  have hfd:=find_nodup (procs_nodup hM hmo) hxm;rw [hxn] at hfd;refine Fin.succ (f:=fun g=>((fns M g).es d q fr l s).bind fun args s=>(fns M g).c d (where_ q mm) x args s) ?_ fun g=>by
   show (match M (where_ q mm) with
    | none=>O.stuck
    | some mo=>match mo.procs.find? fun(p:Proc)=>p.name == n with
     | none=>.stuck
     | some p=>((fns M g).es d q fr l s).bind fun args s=>(fns M g).c d (where_ q mm) p args s)=_
   rw [hmo];simp only;rw [hfd]
  refine Fin.bind (mono_es M _ _ _ _ _) (fun a s=>mono_c M _ _ _ _ _) ((ih s hf hs hw.2.2.1 hx2).2 hw.2.2.2) fun g a s' hs'=>?_
  have hal:=als_ok hs';have hlen:=es_len M _ _ _ _ _ _ _ _ hs';exact hc d (where_ q mm) mo x a s' hmo hxm (by omega) hk hd (by omega) (hs.al hal.2)
omit hM in
theorem tick_ne (s:St) : tick s ≠ .stuck:=by unfold tick;split <;> (intro h;cases h)
omit hM in
theorem tick_is {s s':St} {u:Unit} (h : tick s = .ok u s') : s.fuel≠0∧s'.fuel + 1=s.fuel∧s'.vs=s.vs:=by
 unfold tick at h
 split at h
 ·cases h
 ·cases h;exact⟨‹_›,by show s.fuel - 1 + 1=_;omega,rfl⟩
omit hM in
theorem set_ne (q:Nm) (fr:Fr) (n:Nm) (k v:Int) (s:St) : setO q fr n k v s ≠ .stuck:=by
 unfold setO
 split
 ·intro h;cases h
 ·split
  ·intro h;cases h
  ·split <;> (intro h;cases h)
omit hM in
theorem mono_stmt (M:Ms) (d:Nat) (q:Nm) (fr:Fr) (x:S) (s:St):Mono fun g=>stmtO (fns M g) d q fr x s:=by
 cases x with
 | nil=>exact Mono.const _
 | set p n i v r=>
  refine Mono.bind (Mono.const _) fun _ s=>Mono.bind ?_ fun _ _=>Mono.bind (mono_e M _ _ _ _ _) fun _ _=>Mono.const _
  cases i with
  | none=>exact Mono.const _
  | some i=>exact mono_e M _ _ _ _ _
 | ifs p v t e r=>exact Mono.bind (Mono.const _) fun _ s=>Mono.bind (mono_e M _ _ _ _ _) fun n s=>by split <;> exact mono_b M _ _ _ _ _
 | whil p v t r=>exact Mono.bind (Mono.const _) fun _ s=>mono_l M _ _ _ _ _ _
 | ret p v r=>exact Mono.bind (Mono.const _) fun _ s=>Mono.bind (mono_e M _ _ _ _ _) fun n s=>Mono.const _
 | wri p v r=>exact Mono.bind (Mono.const _) fun _ s=>Mono.bind (mono_e M _ _ _ _ _) fun n s=>Mono.const _
 | call p v r=>exact Mono.bind (Mono.const _) fun _ s=>Mono.bind (mono_e M _ _ _ _ _) fun n s=>Mono.const _
def SafeE (M:Ms) (N k:Nat):Prop:=∀ d q m lo fr x s,M q=some m→30≤d + k→d≤30→s.fuel≤N→Loc lo fr→Shape M s.vs→WF x→x.isX→exprL (envOf M m lo) x=none→Fin fun g=>(fns M g).e d q fr x s
omit hM in
theorem safe_b {N k:Nat} (he:SafeE M N k) (hN : ∀ N',N' < N→Safe M N' k) (d:Nat) (q:Nm) (m:Mod) (lo:List Nm) (hq:M q=some m) (hk : 30≤d + k) (hd : d≤30) (x:S) : ∀ fr s dd,s.fuel≤N→Loc lo fr→Shape M s.vs→WFS dd x→bodyL (envOf M m lo) x=none→Fin fun g=>(fns M g).b d q fr x s:=by
 have hgo : ∀ (x:S) (fr:Fr) (s:St),x.len≠0→s.fuel≤N→Loc lo fr→Shape M s.vs→(∀ fr s,s.fuel≤N→Loc lo fr→Shape M s.vs→Fin fun g=>(fns M g).b d q fr (rest x) s)→Fin (fun g=>stmtO (fns M g) d q fr x s)→Fin fun g=>(fns M g).b d q fr x s:=fun x fr s hn hf hl hs hr h=>by
  refine Fin.succ (f:=fun g=>(stmtO (fns M g) d q fr x s).bind fun y s=>match y.1 with
   | .go=>(fns M g).b d q y.2 (rest x) s
   | .ret n=>.ok (.ret n,y.2) s) ?_ fun g=>by
    show stepB (fns M g) d q fr x s=_
    unfold stepB
    rw [if_neg hn];rfl
  refine Fin.bind (mono_stmt M d q fr x s) (fun a s=>?_) h fun g a s' hs'=>?_
  ·cases a.1 with
   | go=>exact mono_b M _ _ _ _ _
   | ret n=>exact Mono.const _
  ·obtain⟨h1,h2,h3⟩:=stmt_al hs'
   cases a.1 with
   | go=>exact hr _ _ (by omega) (hl.same h3) (hs.al h2)
   | ret n=>exact .const (by intro h;cases h)
 have htick : ∀ (s:St) (k:Nat→Unit→St→O (Fl × Fr)),s.fuel≤N→Shape M s.vs→(∀ a s,Mono fun g=>k g a s)→(∀ s',s'.fuel < N→s'.fuel≤N→Shape M s'.vs→Fin fun g=>k g () s')→Fin fun g=>(tick s).bind (k g):=fun s k hf hs hm h=>by
  refine Fin.bind (f:=fun _=>tick s) (Mono.const _) hm (.const (tick_ne s)) fun g a s' hs'=>?_
  obtain⟨h1,h2,h3⟩:=tick_is hs';exact h s' (by omega) (by omega) (by rw [h3];exact hs)
 induction x with
 | nil=>exact fun fr s dd _ _ _ _ _=>Fin.succ (f:=fun _=>.ok (.go,fr) s) (.const (by intro h;cases h)) fun g=>rfl
 | set p n i v r ih=>
  intro fr s dd hf hl hs hw hx;have hx' : (∀ y,i=some y→exprL (envOf M m lo) y=none)∧exprL (envOf M m lo) v=none∧bodyL (envOf M m lo) r=none:=by
   cases i with
   | none=>
    rw [Go.Mq.Check.bodyL] at hx;obtain⟨h1,h2⟩:=Option.or_eq_none_iff.1 hx;exact⟨fun _ h=>(by cases h),(Option.or_eq_none_iff.1 h1).2,h2⟩
   | some y=>
    rw [Go.Mq.Check.bodyL,exprL] at hx;obtain⟨h1,h2⟩:=Option.or_eq_none_iff.1 hx;obtain⟨h3,h4⟩:=Option.or_eq_none_iff.1 h1;exact⟨fun _ h=>(by cases h;exact(Option.or_eq_none_iff.1 h3).2),h4,h2⟩
  obtain⟨hwn,hwi,hwv,hwr⟩:=hw;refine hgo _ fr s (by simp [S.len]) hf hl hs (fun fr s h1 h2 h3=>ih fr s dd h1 h2 h3 hwr hx'.2.2) ?_;refine htick s (fun g _ s=>(idxO (fns M g) d q fr i s).bind fun k s=>((fns M g).e d q fr v s).bind fun v s=>setO q fr n k v s) hf hs (fun _ s=>Mono.bind ?_ fun _ _=>Mono.bind (mono_e M _ _ _ _ _) fun _ _=>Mono.const _) fun s' _ hf' hs'=>?_
  ·cases i with
   | none=>exact Mono.const _
   | some i=>exact mono_e M _ _ _ _ _
  ·have hv : ∀ s,s.fuel≤N→Shape M s.vs→Fin fun g=>(fns M g).e d q fr v s:=fun s h1 h2=>he d q m lo fr v s hq hk hd h1 hl h2 hwv.1.1 hwv.1.2 hx'.2.1
   cases i with
   | none=>
    refine Fin.bind (f:=fun _=>.ok 0 s') (Mono.const _) (fun _ _=>Mono.bind (mono_e M _ _ _ _ _) fun _ _=>Mono.const _) (.const (by intro h;cases h)) fun g a s2 h2=>?_
    cases h2
    exact Fin.bind (mono_e M _ _ _ _ _) (fun _ _=>Mono.const _) (hv s' hf' hs') fun g a s3 _=>.const (set_ne _ _ _ _ _ _)
   | some i=>
    refine Fin.bind (mono_e M _ _ _ _ _) (fun _ _=>Mono.bind (mono_e M _ _ _ _ _) fun _ _=>Mono.const _) (he d q m lo fr i s' hq hk hd hf' hl hs' (hwi i rfl).1.1 (hwi i rfl).1.2 (hx'.1 i rfl)) fun g a s2 h2=>?_
    have ha:=al_ok h2;exact Fin.bind (mono_e M _ _ _ _ _) (fun _ _=>Mono.const _) (hv s2 (by omega) (hs'.al ha.2)) fun g a s3 _=>.const (set_ne _ _ _ _ _ _)
 | ifs p v t e r ih1 ih2 ih3=>
  intro fr s dd hf hl hs hw hx;rw [Go.Mq.Check.bodyL] at hx;obtain⟨h1,hxr⟩:=Option.or_eq_none_iff.1 hx;obtain⟨h2,hxe⟩:=Option.or_eq_none_iff.1 h1;obtain⟨hxv,hxt⟩:=Option.or_eq_none_iff.1 h2;obtain⟨hwv,⟨⟨_,hwt⟩,_,hwe⟩,hwr⟩:=hw;refine hgo _ fr s (by simp [S.len]) hf hl hs (fun fr s h1 h2 h3=>ih3 fr s dd h1 h2 h3 hwr hxr) ?_;refine htick s (fun g _ s=>((fns M g).e d q fr v s).bind fun n s=>if n=0 then (fns M g).b d q fr e s else (fns M g).b d q fr t s) hf hs (fun _ s=>Mono.bind (mono_e M _ _ _ _ _) fun n s=>by split <;> exact mono_b M _ _ _ _ _) fun s' _ hf' hs'=>?_
  refine Fin.bind (mono_e M _ _ _ _ _) (fun n s=>by split <;> exact mono_b M _ _ _ _ _) (he d q m lo fr v s' hq hk hd hf' hl hs' hwv.1.1 hwv.1.2 hxv) fun g a s2 h2=>?_
  have ha:=al_ok h2;split
  ·exact ih2 fr s2 _ (by omega) hl (hs'.al ha.2) hwe hxe
  ·exact ih1 fr s2 _ (by omega) hl (hs'.al ha.2) hwt hxt
 | whil p v t r ih1 ih2=>
  intro fr s dd hf hl hs hw hx;rw [Go.Mq.Check.bodyL] at hx;obtain⟨h1,hxr⟩:=Option.or_eq_none_iff.1 hx;obtain⟨hxv,hxt⟩:=Option.or_eq_none_iff.1 h1;obtain⟨hwv,⟨_,hwt⟩,hwr⟩:=hw;refine hgo _ fr s (by simp [S.len]) hf hl hs (fun fr s h1 h2 h3=>ih2 fr s dd h1 h2 h3 hwr hxr) ?_;refine htick s (fun g _ s=>(fns M g).l d q fr v t s) hf hs (fun _ s=>mono_l M _ _ _ _ _ _) fun s' hlt hf' hs'=>?_
  exact(hN s'.fuel hlt).l d q m lo fr v t s' _ hq hk hd (Nat.le_refl _) hl hs' hwv.1.1 hwv.1.2 hxv hwt hxt
 | ret p v r ih=>
  intro fr s dd hf hl hs hw hx;rw [Go.Mq.Check.bodyL] at hx;obtain⟨hxv,hxr⟩:=Option.or_eq_none_iff.1 hx;obtain⟨hwv,hwr⟩:=hw;refine hgo _ fr s (by simp [S.len]) hf hl hs (fun fr s h1 h2 h3=>ih fr s dd h1 h2 h3 hwr hxr) ?_;refine htick s (fun g _ s=>((fns M g).e d q fr v s).bind fun n s=>.ok (.ret n,fr) s) hf hs (fun _ s=>Mono.bind (mono_e M _ _ _ _ _) fun n s=>Mono.const _) fun s' _ hf' hs'=>?_
  exact Fin.bind (mono_e M _ _ _ _ _) (fun _ _=>Mono.const _) (he d q m lo fr v s' hq hk hd hf' hl hs' hwv.1.1 hwv.1.2 hxv) fun g a s2 _=>.const (by intro h;cases h)
 | wri p v r ih=>
  intro fr s dd hf hl hs hw hx;rw [Go.Mq.Check.bodyL] at hx;obtain⟨hxv,hxr⟩:=Option.or_eq_none_iff.1 hx;obtain⟨hwv,hwr⟩:=hw;refine hgo _ fr s (by simp [S.len]) hf hl hs (fun fr s h1 h2 h3=>ih fr s dd h1 h2 h3 hwr hxr) ?_;refine htick s (fun g _ s=>((fns M g).e d q fr v s).bind fun n s=>if s.out.length=200 then .stop 6 s else .ok (.go,fr) { s with out:=s.out ++ [n] }) hf hs (fun _ s=>Mono.bind (mono_e M _ _ _ _ _) fun n s=>Mono.const _) fun s' _ hf' hs'=>?_
  exact Fin.bind (mono_e M _ _ _ _ _) (fun _ _=>Mono.const _) (he d q m lo fr v s' hq hk hd hf' hl hs' hwv.1.1 hwv.1.2 hxv) fun g a s2 _=>.const (by split <;> (intro h;cases h))
 | call p v r ih=>
  intro fr s dd hf hl hs hw hx;rw [Go.Mq.Check.bodyL] at hx;obtain⟨hxv,hxr⟩:=Option.or_eq_none_iff.1 hx;obtain⟨⟨hwv,_⟩,hwr⟩:=hw;refine hgo _ fr s (by simp [S.len]) hf hl hs (fun fr s h1 h2 h3=>ih fr s dd h1 h2 h3 hwr hxr) ?_;refine htick s (fun g _ s=>((fns M g).e d q fr v s).bind fun _ s=>.ok (.go,fr) s) hf hs (fun _ s=>Mono.bind (mono_e M _ _ _ _ _) fun n s=>Mono.const _) fun s' _ hf' hs'=>?_
  exact Fin.bind (mono_e M _ _ _ _ _) (fun _ _=>Mono.const _) (he d q m lo fr v s' hq hk hd hf' hl hs' hwv.1.1 hwv.1.2 hxv) fun g a s2 _=>.const (by intro h;cases h)
theorem safe_step {N:Nat} (k:Nat) (hk : ∀ k',k=k' + 1→Safe M N k') (hN : ∀ N',N' < N → ∀ k,Safe M N' k):Safe M N k:=by
 have hc:=safe_c hM hk;have he:SafeE M N k:=fun d q m lo fr x s hq hk hd hf hl hs hw hx hxx=>(safe_e hM hc d q m lo fr hq hk hd hl x s hf hs hw hxx).1 hx
 have hb:=fun d q m lo fr x s dd hq h1 h2 h3 h4 h5 h6 h7=>safe_b (M:=M) he (fun N' h=>hN N' h k) d q m lo hq h1 h2 x fr s dd h3 h4 h5 h6 h7
 refine⟨he,hb,fun d q m lo fr v t s dd hq h1 h2 hf hl hs hwv hxv hcv hwt hct=>?_⟩;refine Fin.succ (f:=fun g=>((fns M g).e d q fr v s).bind fun n s=>
  if n=0 then .ok (.go,fr) s else ((fns M g).b d q fr t s).bind fun x s=>match x.1 with
   | .go=>(tick s).bind fun _ s=>(fns M g).l d q x.2 v t s
   | .ret n=>.ok (.ret n,x.2) s) ?_ fun g=>rfl
 have hmb : ∀ (x:Fl × Fr) (s:St),Mono fun g=>(match x.1 with
   | .go=>(tick s).bind fun _ s=>(fns M g).l d q x.2 v t s
   | .ret n=>.ok (.ret n,x.2) s:O (Fl × Fr)):=fun x s=>by
  cases x.1 with
  | go=>exact Mono.bind (Mono.const _) fun _ _=>mono_l M _ _ _ _ _ _
  | ret n=>exact Mono.const _
 refine Fin.bind (mono_e M _ _ _ _ _) (fun n s=>?_) (he d q m lo fr v s hq h1 h2 hf hl hs hwv hxv hcv) fun g n s1 hs1=>?_
 ·split
  ·exact Mono.const _
  ·exact Mono.bind (mono_b M _ _ _ _ _) hmb
 ·have ha:=al_ok hs1
  split
  ·exact .const (by intro h;cases h)
  ·refine Fin.bind (mono_b M _ _ _ _ _) hmb (hb d q m lo fr t s1 dd hq h1 h2 (by omega) hl (hs.al ha.2) hwt hct) fun g x s2 hs2=>?_
   have ha2:=alb_ok hs2;have hl2:=loc_b hl hs2;cases x.1 with
   | ret n=>exact .const (by intro h;cases h)
   | go=>
    refine Fin.bind (f:=fun _=>tick s2) (Mono.const _) (fun _ _=>mono_l M _ _ _ _ _ _) (.const (tick_ne s2)) fun g u s3 hs3=>?_
    obtain⟨k1,k2,k3⟩:=tick_is hs3;exact(hN s3.fuel (by omega) k).l d q m lo x.2 v t s3 dd hq h1 h2 (Nat.le_refl _) hl2 (by rw [k3];exact(hs.al ha.2).al ha2.2) hwv hxv hcv hwt hct
theorem safe (N:Nat) : ∀ k,Safe M N k:=by
 induction N using Nat.strongRecOn with
 | ind N ihN=>
  intro k
  induction k with
  | zero=>exact safe_step hM 0 (fun k' h=>by omega) ihN
  | succ k ih=>exact safe_step hM (k + 1) (fun k' h=>by have e : k=k':=(by omega);subst e;exact ih) ihN
end
end Go.Mq.Run
namespace Go.Mq.Run
open Go Go.RowKit Go.Mq Go.Mq.Tree Go.Mq.Sym
open Go.Mq.Check (Env Got exprL bodyL procL procsL nameL argsN check Out check_fine importsL importsL_some importsL_congr Look)
open Go.Mq.Used (touch useE useO useS useP useM usedL useE_short)
structure SymEq (s s':Sy):Prop where
 proc : 0≤s.args↔0≤s'.args
 args : 0≤s.args→s.args=s'.args
 len : ¬ 0≤s.args→(0 < s.len↔0 < s'.len)
theorem SymEq.rfl (s:Sy):SymEq s s:=⟨Iff.rfl,fun _=>Eq.refl _,fun _=>Iff.rfl⟩
def Follows (a b:Got):Prop:=∀ s,a = .is s → ∃ s',b = .is s'∧SymEq s s'
theorem Follows.rfl (a:Got):Follows a a:=fun s h=>⟨s,h,.rfl s⟩
end Go.Mq.Run
namespace Go.Mq.Run
open Go Go.RowKit Go.Mq Go.Mq.Tree Go.Mq.Sym
open Go.Mq.Check (Env Got exprL bodyL procL procsL nameL argsN check Out check_fine importsL importsL_some importsL_congr Look FewM)
open Go.Mq.Used (usedL usedL_short)
theorem check_imports {m:Mod} {seen seen':List UInt8→Option (List Sy)} (h : ∀ g∈m.imports,seen' g=seen g) : check m seen'=check m seen:=by
 have hb : ∀ lo s,bodyL ⟨m.imports,seen',lo,m.vars,m.procs⟩ s=bodyL ⟨m.imports,seen,lo,m.vars,m.procs⟩ s:=fun lo s=>Go.Mq.Check.bodyL_congr (Go.Mq.Check.find_seen h) s
 have hp : ∀ l,Go.Mq.Check.procsL m seen' l=Go.Mq.Check.procsL m seen l:=fun l=>by
  induction l with
  | nil=>rfl
  | cons x r ih=>rw [Go.Mq.Check.procsL,Go.Mq.Check.procsL,ih,procL,procL,hb]
 unfold check
 rw [importsL_congr _ _ h,hp,hb]
theorem imports_not_own {own:List UInt8} {seen:List UInt8→Option (List Sy)} : ∀ (l had:List (List UInt8)),importsL own seen had l=none→own∉l
 | [],_,_=>by simp
 | x :: r,had,h=>by
  rw [importsL] at h;split at h
  ·cases h
  ·next h1=>
   split at h
   ·cases h
   ·intro hm
    rcases List.mem_cons.1 hm with e|hm
    ·exact h1 (.inl e.symm)
    ·exact imports_not_own r _ h hm
def Imp (M:Ms) (a b:Nm):Prop:=∃ m,M b=some m∧a∈m.imports
inductive Reach (M:Ms):Nm→Nm→Prop where
 | refl (a:Nm):Reach M a a
 | step {a b c:Nm} : Imp M b a→Reach M b c→Reach M a c
structure Inv (W:Wd):Prop where
 ok:OkM W.M
 shape : ∀ q n,(W.vs q n).map List.length=((W.M q).bind fun m=>startF m.vars n).map List.length
 nodup:W.order.Nodup
 order : ∀ q,q∈W.order↔(W.M q).isSome
 few:W.order.length≤10
 acyc : ∀ q,Acc (Imp W.M) q
theorem Inv.zero:Inv Wd.zero:=⟨⟨fun _ _ h=>(by cases h),fun _ _ h=>(by cases h)⟩,fun _ _=>rfl,List.nodup_nil,fun _=>by simp [Wd.zero],by simp [Wd.zero],fun q=>⟨_,fun a ⟨_,h,_⟩=>by cases h⟩⟩
theorem rev_ind {α:Type} {P:List α→Prop} (h0:P []) (h1 : ∀ l x,P l→P (l ++ [x])) (l:List α):P l:=by
 have : ∀ l:List α,P l.reverse:=fun l=>by
  induction l with
  | nil=>exact h0
  | cons x r ih=>rw [List.reverse_cons];exact h1 _ _ ih
 have:=this l.reverse
 rwa [List.reverse_reverse] at this
theorem startF_is {l:List Glob} : ∀ (_ : (l.map (·.name)).Nodup) {g:Glob} (_ : g∈l),startF l g.name=some (zeros (sizeG g)):=by
 refine rev_ind (P:=fun l=>∀ (_ : (l.map (·.name)).Nodup) {g:Glob} (_ : g∈l),startF l g.name=some (zeros (sizeG g))) ?_ ?_ l
 ·intro _ g hg;cases hg
 ·intro l x ih h g hg
  rw [startF_snoc];rw [List.map_append,List.nodup_append] at h;rcases List.mem_append.1 hg with hg|hg
  ·have : x.name≠g.name:=fun e=>h.2.2 g.name (List.mem_map_of_mem hg) x.name (by simp) e.symm
   simp only [if_neg this];exact ih h.1 hg
  ·simp at hg;subst hg;simp
theorem vars_nodup {M:Ms} (hM:OkM M) {q:Nm} {m:Mod} (hq:M q=some m) : (m.vars.map (·.name)).Nodup:=(List.nodup_append.1 ((check_fine _ _).1 (hM.fine q m hq)).2.1).1
theorem Inv.shaped {W:Wd} (h:Inv W):Shape W.M W.vs:=fun q m hq g hg=>by
 have:=h.shape q g.name;rw [hq] at this;simp only [Option.bind_some,startF_is (vars_nodup h.ok hq) hg,Option.map_some] at this;cases hv:W.vs q g.name with
 | none=>rw [hv] at this;cases this
 | some l=>rw [hv] at this;simp [zeros] at this;exact⟨l,rfl,this⟩
end Go.Mq.Run
namespace Go.Mq.Run
open Go Go.RowKit Go.Mq Go.Mq.Tree Go.Mq.Sym
open Go.Mq.Check (Env Got exprL bodyL procL procsL nameL argsN check Out check_fine importsL importsL_some importsL_congr Look FewM)
open Go.Mq.Used (usedL usedL_short)
open Classical
def callW (g:Nat) (W:Wd) (q n:Nm) (args:List Int) (fuel:Nat):Option (Wd × Nat × List Int × Int × Out):=match W.M q with
 | none=>some (W,0,[],0,.plain 7)
 | some m=>match m.procs.find? fun p=>p.name == n && p.seen with
  | none=>some (W,0,[],0,.plain 7)
  | some p=>if args.length≠p.params.length then some (W,0,[],0,.plain 2) else
   match (fns W.M g).c 0 q p args ⟨fuel,[],W.vs⟩ with
   | .stuck=>none
   | .ok n s=>some (⟨W.M,s.vs,W.order⟩,1,s.out,n,.fine)
   | .stop way s=>some (⟨W.M,s.vs,W.order⟩,way,s.out,0,.fine)
theorem setM_own (M:Ms) (m:Mod) : setM M m m.name=some m:=if_pos rfl
theorem setM_other (M:Ms) (m:Mod) {q:Nm} (h : q≠m.name) : setM M m q=M q:=if_neg h
theorem seenOf_set (M:Ms) (m:Mod) (q:Nm) : seenOf (setM M m) q=if q=m.name then some (ofM m) else seenOf M q:=by
 unfold seenOf setM
 split <;> rfl
theorem shape_al {M:Ms} {vs vs':Vs} (h : ∀ q n,(vs q n).map List.length=((M q).bind fun m=>startF m.vars n).map List.length) (k : ∀ q n,(vs' q n).map List.length=(vs q n).map List.length) : ∀ q n,(vs' q n).map List.length=((M q).bind fun m=>startF m.vars n).map List.length:=fun q n=>(k q n).trans (h q n)
theorem Inv.vals {W:Wd} (h:Inv W) {vs:Vs} (k : ∀ q n,(vs q n).map List.length=(W.vs q n).map List.length):Inv ⟨W.M,vs,W.order⟩:=⟨h.ok,shape_al h.shape k,h.nodup,h.order,h.few,h.acyc⟩
theorem check_own {m:Mod} {seen:Nm→Option (List Sy)} (h : check m seen = .fine) : m.name∉m.imports:=imports_not_own _ _ ((check_fine _ _).1 h).1
theorem OkM.more {M:Ms} (h:OkM M) {m:Mod} (hg:GoodM m) (hn:M m.name=none) (hc : check m (seenOf M) = .fine):OkM (setM M m):=by
 refine⟨fun q x hx=>?_,fun q x hx=>?_⟩
 ·by_cases e : q=m.name
  ·subst e;rw [setM_own] at hx;cases hx;exact⟨hg,rfl⟩
  ·rw [setM_other _ _ e] at hx;exact h.good q x hx
 ·by_cases e : q=m.name
  ·subst e
   rw [setM_own] at hx;cases hx
   rw [check_imports (seen:=seenOf M)]
   ·exact hc
   ·intro g hg'
    rw [seenOf_set,if_neg];intro e;subst e;exact check_own hc hg'
  ·rw [setM_other _ _ e] at hx
   have hf:=h.fine q x hx;rw [check_imports (seen:=seenOf M)]
   ·exact hf
   ·intro g hg'
    rw [seenOf_set,if_neg];intro e';subst e';have:=importsL_some _ _ ((check_fine _ _).1 hf).1 _ hg';rw [seenOf,hn] at this;cases this
theorem Inv.loaded {W:Wd} (h:Inv W) {m:Mod} (hg:GoodM m) (hn:W.M m.name=none) (hc : check m (seenOf W.M) = .fine) (hl:W.order.length≠10):Inv ⟨setM W.M m,startV W.vs m,W.order ++ [m.name]⟩:=by
 have hno : m.name∉W.order:=fun hm=>by have:=(h.order m.name).1 hm;rw [hn] at this;cases this
 have himp : ∀ a b,b≠m.name→(Imp (setM W.M m) a b↔Imp W.M a b):=fun a b hb=>by unfold Imp;rw [setM_other _ _ hb]
 have hold : ∀ b,Acc (Imp W.M) b→(W.M b).isSome→Acc (Imp (setM W.M m)) b:=fun b hb=>by
  induction hb with
  | intro b _ ih=>
   intro hs;have hbn : b≠m.name:=fun e=>by subst e;rw [hn] at hs;cases hs
   refine⟨_,fun a ha=>ih a ((himp a b hbn).1 ha) ?_⟩;obtain⟨mb,hmb,hab⟩:=(himp a b hbn).1 ha;have:=importsL_some _ _ ((check_fine _ _).1 (h.ok.fine b mb hmb)).1 a hab
   unfold seenOf at this
   cases hM:W.M a with
   | none=>rw [hM] at this;cases this
   | some _=>rfl
 refine⟨h.ok.more hg hn hc,fun q n=>?_,?_,fun q=>?_,by simp;have:=h.few;omega,fun q=>?_⟩
 ·simp only [startV]
  by_cases e : q=m.name
  ·subst e;rw [if_pos rfl,setM_own];rfl
  ·rw [if_neg e,setM_other _ _ e];exact h.shape q n
 ·refine List.nodup_append.2 ⟨h.nodup,by simp,fun a ha b hb=>?_⟩
  simp at hb
  subst hb;intro e;subst e;exact hno ha
 ·simp only [List.mem_append,List.mem_singleton]
  by_cases e : q=m.name
  ·subst e;simp [setM_own]
  ·rw [setM_other _ _ e,← h.order q];simp [e]
 ·by_cases hs : (W.M q).isSome
  ·exact hold q (h.acyc q) hs
  ·by_cases e : q=m.name
   ·subst e
    refine⟨_,fun a ⟨x,hx,ha⟩=>?_⟩
    change setM W.M m m.name=some x at hx
    rw [setM_own] at hx;cases hx
    refine hold a (h.acyc a) ?_;have:=importsL_some _ _ ((check_fine _ _).1 hc).1 a ha
    unfold seenOf at this
    cases hM:W.M a with
    | none=>rw [hM] at this;cases this
    | some _=>rfl
   ·refine⟨_,fun a ⟨x,hx,ha⟩=>?_⟩
    change setM W.M m q=some x at hx
    rw [setM_other _ _ e] at hx;rw [hx] at hs;exact absurd rfl hs
theorem load_total {W:Wd} (h:Inv W) {m:Mod} (hg:GoodM m) (fuel:Nat) : ∃ g r,loadW g W m fuel=some r∧Inv r.1:=by
 unfold loadW
 by_cases hs : (W.M m.name).isSome
 ·exact⟨0,_,by rw [if_pos hs],h⟩
 ·have hn:W.M m.name=none:=by cases hM:W.M m.name with|none=>rfl|some _=>rw [hM] at hs;exact absurd rfl hs
  cases hc : check m (seenOf W.M) with
  | plain e=>exact⟨0,_,by rw [if_neg hs],h⟩
  | at_ e p=>exact⟨0,_,by rw [if_neg hs],h⟩
  | fine=>
   by_cases hl:W.order.length=10
   ·exact⟨0,_,by rw [if_neg hs];simp only;rw [if_pos hl],h⟩
   ·have hI:=h.loaded hg hn hc hl
    have hfe:=(check_fine _ _).1 (hI.ok.fine m.name m (setM_own _ _));obtain⟨g,hfin⟩:=(safe hI.ok fuel 30).b 0 m.name m [] [] m.body ⟨fuel,[],startV W.vs m⟩ 10 (setM_own _ _) (by omega) (by omega) (Nat.le_refl _) (fun n=>by simp [getF]) hI.shaped hg.wf.body hfe.2.2.2;have hal:=(along keeps_shape (setM W.M m) g).b 0 m.name [] m.body ⟨fuel,[],startV W.vs m⟩;cases ho : (fns (setM W.M m) g).b 0 m.name [] m.body ⟨fuel,[],startV W.vs m⟩ with
    | stuck=>exact absurd ho hfin
    | ok x s=>
     rw [ho] at hal;exact⟨g,_,by rw [if_neg hs];simp only;rw [if_neg hl,ho],hI.vals hal⟩
    | stop way s=>
     rw [ho] at hal;exact⟨g,_,by rw [if_neg hs];simp only;rw [if_neg hl,ho],hI.vals hal⟩
end Go.Mq.Run
namespace Go.Mq.Run
open Go Go.RowKit Go.Mq Go.Mq.Tree Go.Mq.Sym
open Go.Mq.Plan (MapIs getM putM run_getM run_getMok run_getNok run_putM)
theorem WAt.still {w w':World} {Own G:Nat→Prop} {bw:Nat} {W:Wd} (h:WAt w Own G bw W) (hc:Chg [] w w'):WAt w' (More Own w w') G bw W:=by
 have:=h.idle (Gm:=fun _=>False) hc (fun _ h=>h.elim)
 simpa using this
end Go.Mq.Run
namespace Go.Proofs.YtechofppmnnomaaGreatDoor
open Go Go.RowKit Go.Mq Go.Mq.Tree Go.Mq.Sym Go.Mq.Run
open Go.Mq.Check (FewM FewS FewE argsN check Out At1)
open Go.Mq.Plan (MapIs getM putM run_getM run_getMok run_getNok run_putM)
set_option maxRecDepth 100000
set_option maxHeartbeats 4000000
def Called (w:World) (Own G:Nat→Prop) (bw:Nat) (r:Wd × Nat × List Int × Int × Out) (e:Ending) (w':World):Prop:=
 ∃ ve vo,e = .returned (.tuple #[ve,num r.2.2.2.1,vo])∧EndV w' w.heap.size r.2.1 r.2.2.1 ve∧ErrV w' r.2.2.2.2 vo∧WAt w' (More Own w w') G bw r.1∧ChgO Own w w'
theorem Called.no {w w':World} {Own G:Nat→Prop} {bw:Nat} {W:Wd} {o:Out} {vo:Value} (h:WAt w Own G bw W) (hc:Chg [] w w') (he:ErrV w' o vo):Called w Own G bw (W,0,[],0,o) (.returned (.tuple #[.agg #[num 0,nils],num 0,vo])) w':=
 ⟨_,_,rfl,⟨nils,rfl,⟨rfl,.inl ⟨rfl,rfl⟩⟩,From.nil _⟩,he,h.still hc,.of hc⟩
theorem Called.done {w wD w9 wF:World} {Own G:Nat→Prop} {bw be bi way:Nat} {W:Wd} {L:Lay} {X:List Nat} {vs:Vs} {out:List Int} {n:Int} {ov:Value} (H:WAt w Own G bw W) (HH:Has w Own G bw W L) (hD:Chg [] w wD) (h9:Home w9 L vs) (hc9:Chg (X ++ L.arrs) wD w9) (hX : ∀ x∈X,x=bi) (hlt : w.heap.size≤be∧w.heap.size≤bi∧be < wD.heap.size∧bi < wD.heap.size)
  (ho : w9.ownsRow 0 i64T 1 ov out.length (ints out)) (hf:From wD.heap.size ov) (hcF:Chg [be,bi] w9 wF):Called w Own G bw (⟨W.M,vs,W.order⟩,way,out,n,.fine) (.returned (.tuple #[.agg #[num way,ov],num n,.nilIface])) wF:=by
 have hlow:=fun x (hx : w.heap.size≤x)=>HH.home.low hx
 have hs:=hD.size;have hs9:=hc9.size;have hsF:=hcF.size;have hbb : ∀ x∈[be,bi],w.heap.size≤x:=fun x hx=>by simp at hx;rcases hx with rfl|rfl <;> omega
 have hlay:=HH.home.lay w.heap.size (Nat.le_refl _);have hZ : ∀ x∈X ++ L.arrs,¬ L.Fix x:=fun x hx=>by
  rcases List.mem_append.1 hx with hx|hx
  ·rw [hX x hx];exact(hlow bi hlt.2.1).1
  ·exact(hlay.arrs hx).1
 have h10:=(((HH.kept hD (by simp)).went h9 hc9 hZ).keptF hcF (fun x hx=>hlow x (hbb x hx))).mono (Own':=More Own w wF) (fun x hx=>.inl hx);refine⟨_,_,rfl,⟨ov,rfl,owns_kept ho hcF (fun g hg hm=>?_),fun g hg=>?_⟩,rfl,⟨.inl H.own,fun x hx=>?_,fun x hx hx'=>?_,H.good,H.few,.inr ⟨L,h10⟩⟩,L.arrs,?_,HH.arrs⟩
 ·have:=hf g hg;simp at hm;omega
 ·have:=hf g hg;omega
 ·rcases hx with(hx|hx)|hx
  ·have:=H.lt x (.inl hx);omega
  ·exact hx.2
  ·have:=H.lt x (.inr hx);omega
 ·rcases hx with hx|hx
  ·exact H.dis x hx hx'
  ·have:=H.lt x (.inr hx');omega
 ·refine((hD.weak (S:=L.arrs)).trans hc9 (fun x hx=>?_)).trans hcF (fun x hx=>.inr (hbb x hx))
  rcases List.mem_append.1 hx with hx|hx
  ·exact .inr (by rw [hX x hx];exact hlt.2.1)
  ·exact .inl hx
theorem setN {w:World} {be bi:Nat} {u0 u1 u2:Value} (h:Blk w be #[u0,u1] 43) (hi:Blk w bi #[u2] i64T) (n k:Int) (v:Value) : ∃ wE,(((w.setCell ⟨be,0,none⟩ (num n)).setCell ⟨be,1,none⟩ v).setCell ⟨bi,0,none⟩ (num k))=wE∧Blk wE be #[num n,v] 43∧Blk wE bi #[num k] i64T:=by
 have hne : be≠bi:=fun e=>by subst e;unfold Blk at h hi;rw [h] at hi;simp at hi
 refine⟨_,rfl,((by simpa using (h.set 0 (num n)).set 1 v:Blk ((w.setCell ⟨be,0,none⟩ (num n)).setCell ⟨be,1,none⟩ v) be #[num n,v] _)).kept (Chg.set1 _ bi _ _) (by simpa using hne),?_⟩;have h2:Blk ((w.setCell ⟨be,0,none⟩ (num n)).setCell ⟨be,1,none⟩ v) bi #[u2] i64T:=(hi.kept (Chg.set1 _ be _ _) (by simpa using hne.symm)).kept (Chg.set1 _ be _ _) (by simpa using hne.symm)
 simpa using h2.set 0 (num k)
theorem wcall_none (g:Nat) {w:World} {Own G:Nat→Prop} {bw:Nat} {W:Wd} {q n:Nm} {args:List Int} {a:Option Addr} {c:Nat} {fuel:Nat} {r:Wd × Nat × List Int × Int × Out} (h:WAt w Own G bw W) (hq:W.M q=none) (hr : callW g W q n args fuel=some r) :
  Calls Tryz.prog 31 #[ptr bw,str q,str n,.slice a args.length c,num fuel] w (Called w Own G bw r):=by
 obtain⟨pv,oa,oc,hfr⟩:=h.front;obtain⟨o,hlk⟩:=front_look hfr q;rw [hq] at hlk;obtain⟨w0,hw0⟩ : ∃ x,w.alloc (.cells #[str n] 9)=x:=⟨_,rfl⟩
 have hb0:Blk w0 w.heap.size #[str n] 9:=by rw [← hw0];exact Blk.new w _ _
 have hc0:Chg [] w w0:=by rw [← hw0];exact(Chg.refl _ _).alloc _
 have hs0 : w0.heap.size=w.heap.size + 1:=by rw [← hw0];simp
 obtain⟨w1,hw1⟩ : ∃ x,w0.alloc (.cells #[.slice a args.length c] 41)=x:=⟨_,rfl⟩
 have hb1:Blk w1 w0.heap.size #[.slice a args.length c] 41:=by rw [← hw1];exact Blk.new w0 _ _
 have hc1:Chg [] w0 w1:=by rw [← hw1];exact(Chg.refl _ _).alloc _
 have hs1 : w1.heap.size=w0.heap.size + 1:=by rw [← hw1];simp
 obtain⟨w2,hw2⟩ : ∃ x,w1.alloc (.cells #[num 0,nils] 43)=x:=⟨_,rfl⟩
 have hb2:Blk w2 w1.heap.size #[num 0,nils] 43:=by rw [← hw2];exact Blk.new w1 _ _
 have hc2:Chg [] w1 w2:=by rw [← hw2];exact(Chg.refl _ _).alloc _
 have hs2 : w2.heap.size=w1.heap.size + 1:=by rw [← hw2];simp
 obtain⟨w3,hw3⟩ : ∃ x,w2.alloc (.cells #[num 0] i64T)=x:=⟨_,rfl⟩
 have hb3:Blk w3 w2.heap.size #[num 0] i64T:=by rw [← hw3];exact Blk.new w2 _ _
 have hc3:Chg [] w2 w3:=by rw [← hw3];exact(Chg.refl _ _).alloc _
 have hs3 : w3.heap.size=w2.heap.size + 1:=by rw [← hw3];simp
 obtain⟨w4,hw4⟩ : ∃ x,w3.alloc (.cells #[.pointer o] 94)=x:=⟨_,rfl⟩
 have hb4:Blk w4 w3.heap.size #[.pointer o] 94:=by rw [← hw4];exact Blk.new w3 _ _
 have hc4:Chg [] w3 w4:=by rw [← hw4];exact(Chg.refl _ _).alloc _
 have hs4 : w4.heap.size=w3.heap.size + 1:=by rw [← hw4];simp
 obtain⟨bn,hbn⟩ : ∃ b,b=w.heap.size:=⟨_,rfl⟩
 obtain⟨ba,hba⟩ : ∃ b,b=w0.heap.size:=⟨_,rfl⟩
 obtain⟨be,hbe⟩ : ∃ b,b=w1.heap.size:=⟨_,rfl⟩
 obtain⟨bi,hbi⟩ : ∃ b,b=w2.heap.size:=⟨_,rfl⟩
 obtain⟨bt,hbt⟩ : ∃ b,b=w3.heap.size:=⟨_,rfl⟩
 have hcw:Chg [] w w3:=hc0.then (hc1.then (hc2.then hc3))
 have hcw4:Chg [] w w4:=hcw.then hc4
 have hn3:=(((hb0.kept hc1 (by simp)).kept hc2 (by simp)).kept hc3 (by simp)).kept hc4 (by simp);have ha3:=((hb1.kept hc2 (by simp)).kept hc3 (by simp)).kept hc4 (by simp);have he3:=(hb2.kept hc3 (by simp)).kept hc4 (by simp);have hi3:=hb3.kept hc4 (by simp);have hne : w2.heap.size≠w1.heap.size:=by omega
 have hne' : w1.heap.size≠w2.heap.size:=by omega
 have hwb:=hfr.blk.kept hcw (by simp);rw [← hbn] at hn3;rw [← hba] at ha3;rw [← hbe] at he3;rw [← hbi] at hi3;rw [← hbt] at hb4;have b0:=hwb.cell 0 _ rfl;have b1:=hwb.cell 1 _ rfl;have hlk3:=hlk w3 hcw;have HLT:=zh (show bn=w.heap.size∧ba=w.heap.size + 1∧be=w.heap.size + 2∧bi=w.heap.size + 3∧bt=w.heap.size + 4∧w4.heap.size=w.heap.size + 5∧bw < w.heap.size by
  have:=h.lt bw (.inl h.own);omega)
 have HCE:=zh (fun(wx:World) (hx:Chg [] w wx)=>(show Chg [] w (((wx.setCell ⟨be,0,none⟩ (num 0)).setCell ⟨be,1,none⟩ nils).setCell ⟨bi,0,none⟩ (num 0)) from hx.trans ((Chg.set1 _ _ _ _).then (Chg.set1 _ _ _ _)) (fun x hx=>.inr (by have:=HLT.out;simp at hx;omega)) |>.trans (Chg.set1 _ _ _ _) (fun x hx=>.inr (by have:=HLT.out;simp at hx;omega))));have H:=zh h;have HR:=zh hr;have HFR:=zh hfr;have HCW:=zh hcw4;have HN:=zh hn3;have HA:=zh ha3;have HE:=zh he3;have HI:=zh hi3;have HT:=zh hb4;have e0:=he3.cell 0 _ rfl;have f0:=he3.frozen 0;have e1:=he3.cell 1 _ rfl;have f1:=he3.frozen 1;have i0:=hi3.cell 0 _ rfl;have g0:=hi3.frozen 0;have hrr : (W,0,[],0,.plain 7)=r:=by
  rw [callW,hq] at hr;cases hr;rfl
 subst hrr;obtain⟨wE,hwE,hbE,hbI⟩:=setN he3 hi3 0 0 nils;have HEI:=zh (And.intro hbE hbI);clear h hr hfr hb0 hc0 hs0 hb1 hc1 hs1 hb2 hc2 hs2 hb3 hc3 hs3 hc4 hs4 hb4 hcw hcw4 hn3 ha3 he3 hi3 hwb hlk hbE hbI hq
 go_enter Tryz.func31,Tryz.ntmps31
 simp only [hbn,hba,hbe,hbi] at *;go_wp2_with fail;have y0:=HEI.out.1.cell 0 _ rfl;have y1:=HEI.out.1.cell 1 _ rfl;have y2:=HEI.out.2.cell 0 _ rfl;refine bodyPost_ret (v:=.tuple #[.agg #[num 0,nils],num 0,.iface 46 (num 7)]) (by simp [results,Tryz.results31,go_sem,y0,y1,y2]) rfl ?_;have hc:=HCE.out w4 HCW.out;rw [hwE] at hc;exact Called.no H.out hc rfl
theorem wcall_some (g:Nat) {w:World} {Own G:Nat→Prop} {bw:Nat} {W:Wd} {q n:Nm} {args:List Int} {a:Option Addr} {c:Nat} {fuel:Nat} {r:Wd × Nat × List Int × Int × Out} {m:Mod} (h:WAt w Own G bw W) {Ga:Nat→Prop} (hrow:Row w Ga a (ints args)) (hga : ∀ x,Ga x→x < w.heap.size∧¬ Own x) (hal : args.length≤2000) (hfu : fuel≤9223372036854775807) (hq:W.M q=some m) (hr : callW g W q n args fuel=some r) :
  Calls Tryz.prog 31 #[ptr bw,str q,str n,.slice a args.length c,num fuel] w (Called w Own G bw r):=by
 have hmf : ∀ (fn:Fn) (first cap:Array Value) (w:World),(Instr.makeFunc fn first cap).run Tryz.prog w = .ok (.func fn first cap) w:=fun _ _ _ _=>rfl
 obtain⟨pv,oa,oc,hfr⟩:=h.front;obtain⟨bp,L,pes,rfl,hhas,hord⟩ : ∃ bp L pes,pv=some bp∧Has w Own G bw W L∧OrdAt w Own G bw W L bp (.slice oa W.order.length oc) pes:=by
  rcases hfr.at_ with⟨_,rfl,_⟩|h
  ·cases hq
  ·exact h
 have hqq:=hord.2.2.2.2.2.2 q;rw [hq] at hqq;obtain⟨hget,hown,bv,⟨_,hbv,_⟩,hpart⟩:=hqq;have hlk : ∀ w',Chg [] w w'→(Instr.lookup 38 (.map (some bp)) (str q) true).run Tryz.prog w' = .ok (.tuple #[ptr (L.pb q),.bool true]) w':=fun w' hc=>by
  have hl:=run_getMok (P:=Tryz.prog) Tryz.underlying38 Tryz.underlying9 (zero_part w') (hord.2.2.1.kept hc (by simp)) q;rw [hget] at hl;exact hl
 obtain⟨w0,hw0⟩ : ∃ x,w.alloc (.cells #[str n] 9)=x:=⟨_,rfl⟩
 have hb0:Blk w0 w.heap.size #[str n] 9:=by rw [← hw0];exact Blk.new w _ _
 have hc0:Chg [] w w0:=by rw [← hw0];exact(Chg.refl _ _).alloc _
 have hs0 : w0.heap.size=w.heap.size + 1:=by rw [← hw0];simp
 obtain⟨w1,hw1⟩ : ∃ x,w0.alloc (.cells #[.slice a args.length c] 41)=x:=⟨_,rfl⟩
 have hb1:Blk w1 w0.heap.size #[.slice a args.length c] 41:=by rw [← hw1];exact Blk.new w0 _ _
 have hc1:Chg [] w0 w1:=by rw [← hw1];exact(Chg.refl _ _).alloc _
 have hs1 : w1.heap.size=w0.heap.size + 1:=by rw [← hw1];simp
 obtain⟨w2,hw2⟩ : ∃ x,w1.alloc (.cells #[num 0,nils] 43)=x:=⟨_,rfl⟩
 have hb2:Blk w2 w1.heap.size #[num 0,nils] 43:=by rw [← hw2];exact Blk.new w1 _ _
 have hc2:Chg [] w1 w2:=by rw [← hw2];exact(Chg.refl _ _).alloc _
 have hs2 : w2.heap.size=w1.heap.size + 1:=by rw [← hw2];simp
 obtain⟨w3,hw3⟩ : ∃ x,w2.alloc (.cells #[num 0] i64T)=x:=⟨_,rfl⟩
 have hb3:Blk w3 w2.heap.size #[num 0] i64T:=by rw [← hw3];exact Blk.new w2 _ _
 have hc3:Chg [] w2 w3:=by rw [← hw3];exact(Chg.refl _ _).alloc _
 have hs3 : w3.heap.size=w2.heap.size + 1:=by rw [← hw3];simp
 obtain⟨w4,hw4⟩ : ∃ x,w3.alloc (.cells #[ptr (L.pb q)] 94)=x:=⟨_,rfl⟩
 have hb4:Blk w4 w3.heap.size #[ptr (L.pb q)] 94:=by rw [← hw4];exact Blk.new w3 _ _
 have hc4:Chg [] w3 w4:=by rw [← hw4];exact(Chg.refl _ _).alloc _
 have hs4 : w4.heap.size=w3.heap.size + 1:=by rw [← hw4];simp
 obtain⟨bn,hbn⟩ : ∃ b,b=w.heap.size:=⟨_,rfl⟩
 obtain⟨ba,hba⟩ : ∃ b,b=w0.heap.size:=⟨_,rfl⟩
 obtain⟨be,hbe⟩ : ∃ b,b=w1.heap.size:=⟨_,rfl⟩
 obtain⟨bi,hbi⟩ : ∃ b,b=w2.heap.size:=⟨_,rfl⟩
 obtain⟨bt,hbt⟩ : ∃ b,b=w3.heap.size:=⟨_,rfl⟩
 have hcw:Chg [] w w3:=hc0.then (hc1.then (hc2.then hc3))
 have hcw4:Chg [] w w4:=hcw.then hc4
 have hn3:=(((hb0.kept hc1 (by simp)).kept hc2 (by simp)).kept hc3 (by simp)).kept hc4 (by simp);have ha3:=((hb1.kept hc2 (by simp)).kept hc3 (by simp)).kept hc4 (by simp);have he3:=(hb2.kept hc3 (by simp)).kept hc4 (by simp);have hi3:=hb3.kept hc4 (by simp);have hne : w2.heap.size≠w1.heap.size:=by omega
 have hne' : w1.heap.size≠w2.heap.size:=by omega
 have hwb:=hfr.blk.kept hcw (by simp);rw [← hbn] at hn3;rw [← hba] at ha3;rw [← hbe] at he3;rw [← hbi] at hi3;rw [← hbt] at hb4;have b0:=hwb.cell 0 _ rfl;have b1:=hwb.cell 1 _ rfl;have hlk3:=hlk w3 hcw;have HLT:=zh (show bn=w.heap.size∧ba=w.heap.size + 1∧be=w.heap.size + 2∧bi=w.heap.size + 3∧bt=w.heap.size + 4∧w4.heap.size=w.heap.size + 5∧bw < w.heap.size by
  have:=h.lt bw (.inl h.own);omega)
 have HCE:=zh (fun(wx:World) (hx:Chg [] w wx)=>(show Chg [] w (((wx.setCell ⟨be,0,none⟩ (num 0)).setCell ⟨be,1,none⟩ nils).setCell ⟨bi,0,none⟩ (num 0)) from hx.trans ((Chg.set1 _ _ _ _).then (Chg.set1 _ _ _ _)) (fun x hx=>.inr (by have:=HLT.out;simp at hx;omega)) |>.trans (Chg.set1 _ _ _ _) (fun x hx=>.inr (by have:=HLT.out;simp at hx;omega))));have H:=zh h;have HR:=zh hr;have HFR:=zh hfr;have HCW:=zh hcw4;have HN:=zh hn3;have HA:=zh ha3;have HE:=zh he3;have HI:=zh hi3;have HT:=zh hb4;obtain⟨hpo,hfew,ai,ci,av,cv,ap,cp,ab,cb,bv',es,hp3,hmod,_,_,_⟩:=hpart.kept hcw4 (by simp);obtain⟨vi,vv,vp,vb,hve,_,_,hpr,_⟩:=hmod;cases hve
 have p3:=hp3.cell 3 _ rfl;have t0:=hb4.cell 0 _ rfl;have HIX:=zh (cindexp_any m.procs hfew.procs n bn _ _ w4 (procsL_of hpr) (hn3.cell 0 _ rfl));have HPR:=zh hpr;have HP3:=zh hp3;have HFW:=zh hfew;have HHAS:=zh hhas;have HORD:=zh hord;have HROW:=zh hrow;have HGA:=zh hga;have HAL:=zh hal;have HFU:=zh hfu;have HQ:=zh hq;clear h hr hfr hb0 hc0 hs0 hb1 hc1 hs1 hb2 hc2 hs2 hb3 hc3 hs3 hc4 hs4 hcw hcw4 hn3 ha3 he3 hi3 hwb hlk hq hhas hord hget hown hbv hpart hpo hfew hp3 hpr hrow hga hal hfu
 go_enter Tryz.func31,Tryz.ntmps31
 rw [hbt] at t0;rw [hbn] at HIX;go_wp2_with fail;refine HIX.out.mono ?_;rintro e w5 ⟨hat,hc5⟩;rw [← hbn,← hba,← hbe,← hbi,← hbt];clear hw0 hw1 hw2 hw3 hw4 hbn hba hbe hbi hbt hne hne' b0 b1 hlk3 p3 t0;have HC5:=zh hc5;have hk5:Chg [] w w5:=HCW.out.then hc5
 obtain⟨bk,hbk⟩ : ∃ b,b=w5.heap.size:=⟨_,rfl⟩
 have hcell : ∀ kk:Int,∃ w6,(w5.alloc (.cells #[num 0] 3)).setCell ⟨w5.heap.size,0,none⟩ (num kk)=w6∧Chg [] w5 w6∧Blk w6 bk #[num kk] 3∧w6.heap.size=w5.heap.size + 1:=fun kk=>by
  refine⟨_,rfl,((Chg.refl [] w5).alloc _).trans (Chg.set1 _ _ _ _) (fun x hx=>.inr (by simp at hx;omega)),?_,by simp⟩;rw [hbk]
  simpa using (Blk.new w5 #[num 0] 3).set 0 (num kk)
 have p3:=(HP3.out.kept hc5 (by simp)).cell 3 _ rfl;have hn0:=(HT.out.kept hc5 (by simp)).cell 0 _ rfl;have hm0:=(HN.out.kept hc5 (by simp)).cell 0 _ rfl;cases hfd : m.procs.find? fun p=>p.name == n && p.seen with
 | none=>
  rw [At1,hfd] at hat;simp only at hat;subst hat;obtain⟨w6,hw6,hc6,hb6,hs6⟩:=hcell (-1);have he6:=(HE.out.kept hc5 (by simp)).kept hc6 (by simp);have hi6:=(HI.out.kept hc5 (by simp)).kept hc6 (by simp);have e0:=he6.cell 0 _ rfl;have f0:=he6.frozen 0;have e1:=he6.cell 1 _ rfl;have f1:=he6.frozen 1;have i0:=hi6.cell 0 _ rfl;have g0:=hi6.frozen 0;have k0:=hb6.cell 0 _ rfl;have hne : bi≠be:=by have:=HLT.out;omega
  have hne' : be≠bi:=by have:=HLT.out;omega
  rw [hbk] at k0;clear hbk;have HEI:=zh (And.intro he6 hi6);have HC6:=zh (hk5.then hc6);have hrr : (W,0,[],0,.plain 7)=r:=by
   have hr:=HR.out;rw [callW,HQ.out] at hr;simp only at hr;rw [hfd] at hr;simp only at hr;cases hr;rfl
  subst hrr;obtain⟨wE,hwE,hbE,hbI⟩:=setN he6 hi6 0 0 nils;have HEF:=zh (And.intro hbE hbI);clear hc5 hk5 hcell hc6 hb6 hs6 he6 hi6 hbE hbI hfd;go_wp2_with fail;have y0:=HEF.out.1.cell 0 _ rfl;have y1:=HEF.out.1.cell 1 _ rfl;have y2:=HEF.out.2.cell 0 _ rfl;refine bodyPost_ret (v:=.tuple #[.agg #[num 0,nils],num 0,.iface 46 (num 7)]) (by simp [results,Tryz.results31,go_sem,y0,y1,y2]) rfl ?_;have hc:=HCE.out w6 HC6.out;rw [hwE] at hc;exact Called.no H.out hc rfl
 | some p=>
  rw [At1,hfd] at hat;obtain⟨kk,hkk,rfl⟩:=hat;obtain⟨w6,hw6,hc6,hb6,hs6⟩:=hcell kk;have HFD:=zh hfd;have HKK:=zh hkk;have k0:=hb6.cell 0 _ rfl;rw [hbk] at k0;have HC6:=zh (hk5.then hc6);have HB6:=zh hb6;have HS6:=zh hs6;have HC56:=zh hc6;have hklt : ¬ ((kk:Int) < 0):=by omega
  obtain⟨wD,hwD⟩ : ∃ x,x=w6.drew:=⟨_,rfl⟩
  have hcD:Chg [] w6 wD:=by rw [hwD];exact(Chg.refl [] w6).drew
  have HCD:=zh hcD;obtain⟨bb,off,cc,vvp,vvv,vvb,hsl,hcc,_,_,_,d3,_,_,hn1,_,_⟩:=procsAt_cells (((HPR.out.kept hc5 (by simp)).kept hc6 (by simp)).kept hcD (by simp)) hkk;simp only [Value.slice.injEq,true_and] at hsl;obtain⟨rfl,rfl⟩:=hsl;obtain⟨aq,cq,rfl,_⟩:=hn1;have hkl:=(List.getElem?_eq_some_iff.1 hkk).1;have HKL:=zh hkl;have hc5D:Chg [] w4 wD:=(hc5.then hc6).then hcD
  have HC4D:=zh hc5D;have a0:=(HA.out.kept hc5D (by simp)).cell 0 _ rfl;have t0:=(HT.out.kept hc5D (by simp)).cell 0 _ rfl;have p3':=(HP3.out.kept hc5D (by simp)).cell 3 _ rfl;have kD:=(hb6.kept hcD (by simp)).cell 0 _ rfl;have Z1:=zh (Zone.of (X:=[]) (w0:=wD) a0 (by simp));have Z2:=zh (Zone.of (X:=[]) (w0:=wD) t0 (by simp));have Z3:=zh (Zone.of (X:=[]) (w0:=wD) p3' (by simp));have Z4:=zh (Zone.of (X:=[]) (w0:=wD) kD (by simp));have Z5:=zh (Zone.of (X:=[]) (w0:=wD) d3 (by simp));clear hfd hkk hc6 hb6 hs6 hcell hcD hc5D hc5;go_wp2_with fail;rw [← hbk];clear hbk hw6 k0 hn0 hm0 p3 hk5;cases hcmp : ((args.length:Int) != (p.params.length:Int)) with
  | true=>
   have hne' : args.length≠p.params.length:=fun e=>by simp [e] at hcmp
   have hrr : (W,0,[],0,.plain 2)=r:=by
    have hr:=HR.out;rw [callW,HQ.out] at hr;simp only at hr;rw [HFD.out] at hr;simp only at hr;rw [if_pos hne'] at hr;cases hr;rfl
   subst hrr;have heD:=HE.out.kept HC4D.out (by simp);have hiD:=HI.out.kept HC4D.out (by simp);have e0:=heD.cell 0 _ rfl;have f0:=heD.frozen 0;have e1:=heD.cell 1 _ rfl;have f1:=heD.frozen 1;have i0:=hiD.cell 0 _ rfl;have g0:=hiD.frozen 0;have hnx : bi≠be:=by have:=HLT.out;omega
   have hnx' : be≠bi:=by have:=HLT.out;omega
   obtain⟨wE,hwE,hbE,hbI⟩:=setN heD hiD 0 0 nils;have HEF:=zh (And.intro hbE hbI);clear heD hiD hbE hbI hne';refine wp_region_L [] rfl (by kernel_rfl) ?_;rw [← hwD];clear hwD;have hS:Chg [] wD wD:=Chg.refl _ _
   repeat ((with_reducible show wpX _ _ _ _ _ _ _ _);(first|refine wpX_nil ?_|refine wpX_skip rfl ?_|refine wpX_mv rfl rfl (by kernel_rfl) (fun _ _=>?_)|refine wpX_ldC rfl rfl rfl (by first|exact Z1.out|exact Z2.out|exact Z3.out|exact Z4.out|exact Z5.out) (by assumption) (fun _ _=>?_)|refine wpX_ef' rfl rfl rfl (fun _ _=>?_));go_wp2_with fail)
   have y0:=HEF.out.1.cell 0 _ rfl;have y1:=HEF.out.1.cell 1 _ rfl;have y2:=HEF.out.2.cell 0 _ rfl;refine bodyPost_ret (v:=.tuple #[.agg #[num 0,nils],num 0,.iface 46 (num 2)]) (by simp [results,Tryz.results31,go_sem,y0,y1,y2]) rfl ?_;have hc:=HCE.out wD (HCW.out.then HC4D.out);rw [hwE] at hc;exact Called.no H.out hc rfl
  | false=>
   have hln : args.length=p.params.length:=by
    have : (args.length:Int)=p.params.length:=by simpa using hcmp
    omega
   obtain⟨ob,hob⟩ : ∃ o,o=(fns W.M g).c 0 q p args ⟨fuel,[],W.vs⟩:=⟨_,rfl⟩
   have hr:=HR.out;rw [callW,HQ.out] at hr;simp only at hr;rw [HFD.out] at hr;simp only at hr;rw [if_neg (by simpa using hln),← hob] at hr;have hnst : ob ≠ .stuck:=fun h=>by rw [h] at hr;cases hr
   have hcWD:Chg [] w wD:=HCW.out.then HC4D.out
   have hXl : ∃ X:List Nat,(∀ n s',ob = .ok n s'→X=[bi])∧(∀ way s',ob = .stop way s'→X=[]):=by
    cases ob with
    | ok n s'=>exact⟨[bi],fun _ _ _=>rfl,fun _ _ h=>by cases h⟩
    | stop way s'=>exact⟨[],fun _ _ h=>(by cases h),fun _ _ _=>rfl⟩
    | stuck=>exact absurd rfl hnst
   obtain⟨X,hX1,hX2⟩:=hXl;have hXb : ∀ x∈X,x=bi:=fun x hx=>by
    cases hob' : ob with
    | ok n s'=>rw [hX1 n s' hob'] at hx;simpa using hx
    | stop way s'=>rw [hX2 way s' hob'] at hx;cases hx
    | stuck=>exact absurd hob' hnst
   have hlow:=fun x (hx : w.heap.size≤x)=>HHAS.out.home.low hx
   have hsD:=hcWD.size;have HGS:=zh (goes_any4 66 (ptr bt) (ptr bk) (ptr ba) (ptr bi) (fun args w=>rfl) ob (fun w' n e=>e = .returned (.tuple #[])∧Blk w' bi #[num n] i64T) (fun _ _ _ h=>h.1) L W.vs fuel HFU.out X wD (HHAS.out.home.kept hcWD) (fun x hx=>by rw [hXb x hx];have:=HLT.out;have:=HC4D.out.size;omega) hnst (fun w1 br hbr hc1 hg=>by
    rw [hob,← HHAS.out.M];exact call_does (L:={ L with br:=br }) (q:=q) (m:=m) (p:=p) (k:=kk) (args:=args) (a:=a) (c:=c) (b13:=bt) (b15:=bk) (b8:=ba) (b11:=bi) (u:=num 0) g hg (by show L.M q=some m;rw [HHAS.out.M];exact HQ.out) HKK.out (((HT.out.kept HC4D.out (by simp)).kept hc1 (by simp))) (((HB6.out.kept HCD.out (by simp)).kept hc1 (by simp))) (((HA.out.kept HC4D.out (by simp)).kept hc1 (by simp))) (((HI.out.kept HC4D.out (by simp)).kept hc1 (by simp))) ⟨fun hm=>by
     have hb:=hlow bi (by have:=HLT.out;omega);rcases List.mem_cons.1 hm with h|hm
     ·have h : bi=br:=h
      have:=HLT.out;have:=HC4D.out.size;omega
     ·exact hb.2 (by simpa [blk] using hm),(hlow bi (by have:=HLT.out;omega)).1⟩ ((((HROW.out.kept hcWD (by simp)).kept hc1 (by simp))).mono (fun x hx hm=>by
     have hx:=HGA.out x hx;rcases List.mem_cons.1 hm with h|hm
     ·have h : x=br:=h
      omega
     ·exact hx.2 (HHAS.out.arrs x (by simpa [blk] using hm)))) HAL.out (by show (fns L.M g).c 0 q p args _≠_;rw [HHAS.out.M,← hob];exact hnst) X (fun n s' he=>hX1 n s' (by rw [hob,← HHAS.out.M];exact he))))
   rw [HHAS.out.bw_] at HGS;have HOB:=zh hob;have HRR:=zh hr;have HX1:=zh hX1;have HX2:=zh hX2;have HXB:=zh hXb;have HLOW:=zh hlow;have HWD:=zh hcWD;clear hob hr hnst hX1 hX2 hXb hlow hsD hcWD hln;refine wp_region_L [] rfl (by kernel_rfl) ?_;rw [← hwD];clear hwD;have hS:Chg [] wD wD:=Chg.refl _ _
   repeat ((with_reducible show wpX _ _ _ _ _ _ _ _);(first|refine wpX_nil ?_|refine wpX_skip rfl ?_|refine wpX_mv rfl rfl (by kernel_rfl) (fun _ _=>?_)|refine wpX_ldC rfl rfl rfl (by first|exact Z1.out|exact Z2.out|exact Z3.out|exact Z4.out|exact Z5.out) (by assumption) (fun _ _=>?_)|refine wpX_ef' rfl rfl rfl (fun _ _=>?_));go_wp2_with fail)
   clear hS Z1 Z2 Z3 Z4 Z5 a0 t0 p3' kD d3;refine HGS.out.mono ?_;rintro _ w9 ⟨ve,rfl,hev,hh9,hc9,hok⟩;obtain⟨eov,rfl,heo,hef⟩:=hev;obtain⟨ea,ec,rfl⟩:=slice_of_owns heo;have hbx : ∀ x,x=be∨x=bi→x∉L.arrs:=fun x hx=>(HLOW.out x (by have:=HLT.out;omega)).2
   have hbe9:=(HE.out.kept HC4D.out (by simp)).kept hc9 (fun hm=>by
    rcases List.mem_append.1 hm with h|h
    ·have:=HXB.out _ h;have:=HLT.out;omega
    ·exact hbx be (.inl rfl) h)
   have HH9:=zh hh9;have HC9:=zh hc9;have HEO:=zh heo;have HEF:=zh hef;have e0:=hbe9.cell 0 _ rfl;have f0:=hbe9.frozen 0;have e1:=hbe9.cell 1 _ rfl;have f1:=hbe9.frozen 1;have HBE9:=zh hbe9;have hnx : bi≠be:=by have:=HLT.out;omega
   have hnx' : be≠bi:=by have:=HLT.out;omega
   cases hob : ob with
   | stuck=>
    have:=HRR.out;rw [hob] at this;cases this
   | ok nn s9=>
    obtain⟨w2',⟨_,hbi2⟩,hcw2⟩:=hok nn s9 hob;have hbi9:Blk w9 bi #[num nn] i64T:=hbi2.kept hcw2 (by have:=HC4D.out.size;have:=HLT.out;simp;omega);have i0:=hbi9.cell 0 _ rfl;have g0:=hbi9.frozen 0;have HBI9:=zh hbi9;have HOBB:=zh hob;subst hob;clear hh9 hc9 heo hef hbe9 hbi9 hok hbx hbi2 hcw2;simp only [endOf,stOf] at *;obtain⟨wS,hwS,hbS,hcS⟩:=setE 1 (.slice ea s9.out.length ec) HBE9.out;have hiS:=HBI9.out.kept hcS (by simpa using hnx);have s0:=hbS.cell 0 _ rfl;have s1:=hbS.cell 1 _ rfl;have t0:=hbS.frozen 0;have t1:=hbS.frozen 1;have j0:=hiS.cell 0 _ rfl;have j1:=hiS.frozen 0;have HBS:=zh hbS;have HIS:=zh hiS;have HCS:=zh hcS;clear hbS hiS hcS;go_wp2_with fail;clear e0 f0 e1 f1 i0 g0 hwS;have s0':=(HBS.out.kept (Chg.refl [] wS).drew (by simp)).cell 0 _ rfl;have s1':=(HBS.out.kept (Chg.refl [] wS).drew (by simp)).cell 1 _ rfl;have j0':=(HIS.out.kept (Chg.refl [] wS).drew (by simp)).cell 0 _ rfl
    go_region
    all_goals (try go_wp2_with fail)
    obtain⟨wE,hwE,hbE,hbI⟩:=setN HBS.out HIS.out 1 nn (.slice ea s9.out.length ec);have hcE:Chg [be,bi] wS wE:=by
     rw [← hwE];exact(((Chg.refl [be,bi] wS).setCell _ (.inl (by simp)) _).setCell _ (.inl (by simp)) _).setCell _ (.inl (by simp)) _
    rw [hwE];have y0:=(hbE.kept (Chg.refl [] wE).drew (by simp)).cell 0 _ rfl;have y1:=(hbE.kept (Chg.refl [] wE).drew (by simp)).cell 1 _ rfl;have y2:=(hbI.kept (Chg.refl [] wE).drew (by simp)).cell 0 _ rfl;refine bodyPost_ret (v:=.tuple #[.agg #[num 1,.slice ea s9.out.length ec],num nn,.nilIface]) (by simp [results,Tryz.results31,go_sem,y0,y1,y2]) rfl ?_;have hrr:=HRR.out;simp only [Option.some.injEq] at hrr;subst hrr;exact Called.done (bi:=bi) (be:=be) (way:=1) H.out HHAS.out HWD.out HH9.out HC9.out HXB.out (by have:=HLT.out;have:=HC4D.out.size;omega) HEO.out HEF.out (((HCS.out.mono (fun x hx=>.inl (by simp at hx;simp [hx]))).then hcE).then (Chg.refl [be,bi] wE).drew)
   | stop way s9=>
    have hXn:X=[]:=HX2.out way s9 hob;subst hXn;have hbi9:Blk w9 bi #[num 0] i64T:=(HI.out.kept HC4D.out (by simp)).kept hc9 (fun hm=>hbx bi (.inr rfl) (by simpa using hm));have i0:=hbi9.cell 0 _ rfl;have g0:=hbi9.frozen 0;have HBI9:=zh hbi9;subst hob;clear hh9 hc9 heo hef hbe9 hbi9 hok hbx;simp only [endOf,stOf] at *;by_cases hway : way=1
    ·subst hway
     obtain⟨wS,hwS,hbS,hcS⟩:=setE 1 (.slice ea s9.out.length ec) HBE9.out;have hiS:=HBI9.out.kept hcS (by simpa using hnx);have s0:=hbS.cell 0 _ rfl;have s1:=hbS.cell 1 _ rfl;have t0:=hbS.frozen 0;have t1:=hbS.frozen 1;have j0:=hiS.cell 0 _ rfl;have j1:=hiS.frozen 0;have HBS:=zh hbS;have HIS:=zh hiS;have HCS:=zh hcS;clear hbS hiS hcS;go_wp2_with fail;clear e0 f0 e1 f1 i0 g0 hwS;have s0':=(HBS.out.kept (Chg.refl [] wS).drew (by simp)).cell 0 _ rfl;have s1':=(HBS.out.kept (Chg.refl [] wS).drew (by simp)).cell 1 _ rfl;have j0':=(HIS.out.kept (Chg.refl [] wS).drew (by simp)).cell 0 _ rfl
     go_region
     all_goals (try go_wp2_with fail)
     obtain⟨wE,hwE,hbE,hbI⟩:=setN HBS.out HIS.out 1 0 (.slice ea s9.out.length ec);have hcE:Chg [be,bi] wS wE:=by
      rw [← hwE];exact(((Chg.refl [be,bi] wS).setCell _ (.inl (by simp)) _).setCell _ (.inl (by simp)) _).setCell _ (.inl (by simp)) _
     rw [hwE];have y0:=(hbE.kept (Chg.refl [] wE).drew (by simp)).cell 0 _ rfl;have y1:=(hbE.kept (Chg.refl [] wE).drew (by simp)).cell 1 _ rfl;have y2:=(hbI.kept (Chg.refl [] wE).drew (by simp)).cell 0 _ rfl;refine bodyPost_ret (v:=.tuple #[.agg #[num 1,.slice ea s9.out.length ec],num 0,.nilIface]) (by simp [results,Tryz.results31,go_sem,y0,y1,y2]) rfl ?_;have hrr:=HRR.out;simp only [Option.some.injEq] at hrr;subst hrr;exact Called.done (bi:=bi) (be:=be) (way:=1) H.out HHAS.out HWD.out HH9.out HC9.out HXB.out (by have:=HLT.out;have:=HC4D.out.size;omega) HEO.out HEF.out (((HCS.out.mono (fun x hx=>.inl (by simp at hx;simp [hx]))).then hcE).then (Chg.refl [be,bi] wE).drew)
    ·have hway' : ¬ (way:Int)=1:=by omega
     obtain⟨wS,hwS,hbS,hcS⟩:=setE way (.slice ea s9.out.length ec) HBE9.out;have hiS:=HBI9.out.kept hcS (by simpa using hnx);have s0:=hbS.cell 0 _ rfl;have s1:=hbS.cell 1 _ rfl;have t0:=hbS.frozen 0;have t1:=hbS.frozen 1;have j0:=hiS.cell 0 _ rfl;have j1:=hiS.frozen 0;obtain⟨wT,hwT⟩ : ∃ x,wS.setCell ⟨bi,0,none⟩ (num 0)=x:=⟨_,rfl⟩
     have hcT:Chg [bi] wS wT:=by rw [← hwT];exact Chg.set1 _ _ _ _
     have hiT:Blk wT bi #[num 0] i64T:=by rw [← hwT];simpa using hiS.set 0 (num 0)
     have hbT:=hbS.kept hcT (by simpa using hnx');have HCS:=zh hcS;have HBT:=zh hbT;have HIT:=zh hiT;have HCT:=zh hcT;clear hbS hiS hcS hcT hiT hbT;go_wp2_with fail;clear e0 f0 e1 f1 i0 g0 hwS s0 s1 t0 t1 j0 j1 hwT;have s0:=HBT.out.cell 0 _ rfl;have s1:=HBT.out.cell 1 _ rfl;have t0:=HBT.out.frozen 0;have t1:=HBT.out.frozen 1;have j0:=HIT.out.cell 0 _ rfl;have j1:=HIT.out.frozen 0;have s0':=(HBT.out.kept (Chg.refl [] wT).drew (by simp)).cell 0 _ rfl;have s1':=(HBT.out.kept (Chg.refl [] wT).drew (by simp)).cell 1 _ rfl;have j0':=(HIT.out.kept (Chg.refl [] wT).drew (by simp)).cell 0 _ rfl
     go_region
     all_goals (try go_wp2_with fail)
     obtain⟨wE,hwE,hbE,hbI⟩:=setN HBT.out HIT.out way 0 (.slice ea s9.out.length ec);have hcE:Chg [be,bi] wT wE:=by
      rw [← hwE];exact(((Chg.refl [be,bi] wT).setCell _ (.inl (by simp)) _).setCell _ (.inl (by simp)) _).setCell _ (.inl (by simp)) _
     rw [hwE];have y0:=(hbE.kept (Chg.refl [] wE).drew (by simp)).cell 0 _ rfl;have y1:=(hbE.kept (Chg.refl [] wE).drew (by simp)).cell 1 _ rfl;have y2:=(hbI.kept (Chg.refl [] wE).drew (by simp)).cell 0 _ rfl;refine bodyPost_ret (v:=.tuple #[.agg #[num way,.slice ea s9.out.length ec],num 0,.nilIface]) (by simp [results,Tryz.results31,go_sem,y0,y1,y2]) rfl ?_;have hrr:=HRR.out;simp only [Option.some.injEq] at hrr;subst hrr;exact Called.done (bi:=bi) (be:=be) (way:=way) H.out HHAS.out HWD.out HH9.out HC9.out HXB.out (by have:=HLT.out;have:=HC4D.out.size;omega) HEO.out HEF.out ((((HCS.out.mono (fun x hx=>.inl (by simp at hx;simp [hx]))).then (HCT.out.mono (fun x hx=>.inl (by simp at hx;simp [hx])))).then hcE).then (Chg.refl [be,bi] wE).drew)
theorem wcall_any (g:Nat) {w:World} {Own G:Nat→Prop} {bw:Nat} {W:Wd} {q n:Nm} {args:List Int} {a:Option Addr} {c:Nat} {fuel:Nat} {r:Wd × Nat × List Int × Int × Out} (h:WAt w Own G bw W) {Ga:Nat→Prop} (hrow:Row w Ga a (ints args)) (hga : ∀ x,Ga x→x < w.heap.size∧¬ Own x) (hal : args.length≤2000) (hfu : fuel≤9223372036854775807) (hr : callW g W q n args fuel=some r) :
  Calls Tryz.prog 31 #[ptr bw,str q,str n,.slice a args.length c,num fuel] w (Called w Own G bw r):=by
 cases hq:W.M q with
 | none=>exact wcall_none g h hq hr
 | some m=>exact wcall_some g h hrow hga hal hfu hq hr
end Go.Proofs.YtechofppmnnomaaGreatDoor
namespace Go.Proofs.YtechofppmnnomaaGreatDoor
open Go Go.RowKit Go.Mq Go.Mq.Tree Go.Mq.Sym Go.Mq.Run
open Go.Mq.Plan (MapIs getM putM run_getM run_getMok run_getNok run_putM)
set_option maxRecDepth 100000
set_option maxHeartbeats 4000000
theorem clone_ints (l:List Int) (hl : l.length≤1000) (a:Addr) (c:Nat) (F:Nat→Prop) (w:World) (hrow:Row w F (some a) (ints l)) :
  Calls Tryz.prog 58 #[.slice (some a) l.length c] w (fun e w'=>∃ v',e = .returned v'∧w'.ownsRow 0 i64T 1 v' l.length (ints l)∧From w.heap.size v'∧Chg [] w w'):=by
 have hne : ∀ w,(binOp BinOp.eql 41 (.slice (some a) l.length c) (.slice none 0 0)).run Tryz.prog w = .ok (.bool false) w:=fun _=>rfl
 have hown : (w.alloc (.cells #[] i64T)).ownsRow 0 i64T 1 (.slice (some ⟨w.heap.size,0,none⟩) 0 0) 0 []:=⟨rfl,.inr ⟨w.heap.size,0,#[],rfl,Nat.zero_le _,heap_alloc_new w _,Nat.le_refl _,Nat.zero_le _,rfl,rfl⟩⟩;have HOWN:=zh hown;have hca:Chg [] w (w.alloc (.cells #[] i64T)):=(Chg.refl _ _).alloc _;have HAT:=zh ((hrow.kept hca (by simp)).at_);have HCA:=zh hca;clear hrow hown hca
 go_enter Tryz.func58,Tryz.ntmps58
 go_wp2_with (at_builtin;go_must (refine wpL_append_any rfl _ _ 41 rfl i64T _ 1 8 infoInt Tryz.underlying41 rfl (by decide) _ 0 [] rfl HOWN.out (some a) l.length c (ints l) rfl ?_ HAT.out ?_ ?_ ?_ ?_))
 ·simp
 ·intro u hu
  simp only [ints,List.mem_map] at hu;obtain⟨x,_,rfl⟩:=hu
  rfl
 ·omega
 ·unfold maxLen;omega
 ·intro v' w' hown' hch' hmv'
  have HO:=zh (show w'.ownsRow 0 i64T 1 v' l.length (ints l) by simpa using hown');have hf:From w.heap.size v':=fun g hg=>by
   rcases hmv' g hg with h1|h1
   ·simp [blk] at h1;omega
   ·simp at h1;omega
  have HF:=zh hf;have HC:=zh (HCA.out.trans hch' (fun x hx=>.inr (by simp [blk] at hx;omega)));clear hown' hch' hmv' hf;go_wp2_with fail;go_ret
  exact⟨_,rfl,HO.out,HF.out,HC.out⟩
theorem clone_strs (l:List Nm) (hl : l.length≤1000) (v:Value) (w:World) (hv : w.ownsRow 0 9 1 v l.length (l.map str)) :
  Calls Tryz.prog 87 #[v] w (fun e w'=>∃ v',e = .returned v'∧w'.ownsRow 0 9 1 v' l.length (l.map str)∧From w.heap.size v'∧Chg [] w w'):=by
 obtain⟨a,c,rfl,hlc,hrow⟩:=Row.of_owns (F:=fun _=>True) hv (fun _ _=>trivial);cases a with
 | none=>
  have hc0 : c=0∧l=[]:=by
   rcases hv.2 with⟨h,h2⟩|⟨g,cap,cur,h,_⟩
   ·simp only [Value.slice.injEq,true_and] at h
    exact⟨h.2,List.eq_nil_of_length_eq_zero h2⟩
   ·simp at h
  obtain⟨rfl,rfl⟩:=hc0;clear hrow hlc hv;have hne : ∀ w,(binOp BinOp.eql 27 (.slice none 0 0) (.slice none 0 0)).run Tryz.prog w = .ok (.bool true) w:=fun _=>rfl
  change Calls _ _ #[.slice none 0 0] _ _
  go_enter Tryz.func87,Tryz.ntmps87
  go_wp2_with fail;go_ret
  exact⟨_,rfl,World.ownsRow_nil _ _ _ _,From.nil _,Chg.refl _ _⟩
 | some p=>
  have hne : ∀ w,(binOp BinOp.eql 27 (.slice (some p) l.length c) (.slice none 0 0)).run Tryz.prog w = .ok (.bool false) w:=fun _=>rfl
  have hown : (w.alloc (.cells #[] 9)).ownsRow 0 9 1 (.slice (some ⟨w.heap.size,0,none⟩) 0 0) 0 []:=⟨rfl,.inr ⟨w.heap.size,0,#[],rfl,Nat.zero_le _,heap_alloc_new w _,Nat.le_refl _,Nat.zero_le _,rfl,rfl⟩⟩;have HOWN:=zh hown;have hca:Chg [] w (w.alloc (.cells #[] 9)):=(Chg.refl _ _).alloc _;have HAT:=zh ((hrow.kept hca (by simp)).at_);have HCA:=zh hca;clear hrow hown hca hv
  go_enter Tryz.func87,Tryz.ntmps87
  go_wp2_with (at_builtin;go_must (refine wpL_append_any rfl _ _ 27 rfl 9 _ 1 16 infoStrC Tryz.underlying27 rfl (by decide) _ 0 [] rfl HOWN.out (some p) l.length c (l.map str) rfl ?_ HAT.out ?_ ?_ ?_ ?_))
  ·simp
  ·intro u hu
   simp only [List.mem_map] at hu;obtain⟨x,_,rfl⟩:=hu
   rfl
  ·omega
  ·unfold maxLen;omega
  ·intro v' w' hown' hch' hmv'
   have HO:=zh (show w'.ownsRow 0 9 1 v' l.length (l.map str) by simpa using hown');have hf:From w.heap.size v':=fun g hg=>by
    rcases hmv' g hg with h1|h1
    ·simp [blk] at h1;omega
    ·simp at h1;omega
   have HF:=zh hf;have HC:=zh (HCA.out.trans hch' (fun x hx=>.inr (by simp [blk] at hx;omega)));clear hown' hch' hmv' hf;go_wp2_with fail;go_ret
   exact⟨_,rfl,HO.out,HF.out,HC.out⟩
theorem wnames_any {w:World} {Own G:Nat→Prop} {bw:Nat} {W:Wd} (h:WAt w Own G bw W) :
  Calls Tryz.prog 45 #[ptr bw] w (fun e w'=>∃ v',e = .returned v'∧w'.ownsRow 0 9 1 v' W.order.length (W.order.map str)∧From w.heap.size v'∧Chg [] w w'):=by
 obtain⟨pv,oa,oc,hfr⟩:=h.front;have ho : w.ownsRow 0 9 1 (.slice oa W.order.length oc) W.order.length (W.order.map str):=by
  rcases hfr.at_ with⟨_,rfl,rfl,rfl⟩|⟨bp,L,pes,_,_,ho⟩
  ·exact World.ownsRow_nil _ _ _ _
  ·exact ho.2.1
 have b1:=hfr.blk.cell 1 _ rfl;have HC:=zh (clone_strs W.order (by have:=h.few;omega) _ w ho);clear h hfr ho
 go_enter Tryz.func45,Tryz.ntmps45
 go_wp2_with fail;refine HC.out.mono ?_;rintro _ w1 ⟨v',rfl,h1,h2,h3⟩;have H1:=zh h1;clear h1;go_wp2_with fail;go_ret
 exact⟨_,rfl,H1.out,h2,h3⟩
def getW (W:Wd) (q n:Nm):Option (List Int):=(W.M q).bind fun _=>W.vs q n
theorem getW_none {W:Wd} {q n:Nm} (h:W.M q=none) : getW W q n=none:=by rw [getW,h];rfl
theorem getW_some {W:Wd} {q n:Nm} {m:Mod} (h:W.M q=some m) : getW W q n=W.vs q n:=by rw [getW,h];rfl
def GotV (w:World) (o:Option (List Int)) (e:Ending) (w':World):Prop:=Chg [] w w'∧match o with
 | none=>e = .returned (.tuple #[nils,.iface 46 (num 7)])
 | some l=>∃ v,e = .returned (.tuple #[v,.nilIface])∧w'.ownsRow 0 i64T 1 v l.length (ints l)∧From w.heap.size v∧l.length≤1000
theorem wget_any {w:World} {Own G:Nat→Prop} {bw:Nat} {W:Wd} (h:WAt w Own G bw W) (q n:Nm) :
  Calls Tryz.prog 29 #[ptr bw,str q,str n] w (GotV w (getW W q n)):=by
 obtain⟨pv,oa,oc,hfr⟩:=h.front;cases hq:W.M q with
 | none=>
  obtain⟨o,hlk⟩:=front_look hfr q;rw [hq] at hlk;have hl:=hlk w (Chg.refl _ _);have b0:=hfr.blk.cell 0 _ rfl;rw [getW_none hq];clear h hfr hlk hq
  go_enter Tryz.func29,Tryz.ntmps29
  go_wp2_with fail;go_ret2
  exact⟨Chg.refl _ _,rfl⟩
 | some m=>
  obtain⟨bp,L,pes,rfl,hhas,hord⟩ : ∃ bp L pes,pv=some bp∧Has w Own G bw W L∧OrdAt w Own G bw W L bp (.slice oa W.order.length oc) pes:=by
   rcases hfr.at_ with⟨_,rfl,_⟩|h
   ·cases hq
   ·exact h
  have hqq:=hord.2.2.2.2.2.2 q;rw [hq] at hqq;obtain⟨hget,hown,bv,_,hpart⟩:=hqq;have hl:=run_getMok (P:=Tryz.prog) Tryz.underlying38 Tryz.underlying9 (zero_part w) hord.2.2.1 q;rw [hget] at hl;obtain⟨_,_,ai,ci,av,cv,ap,cp,ab,cb,bv',es,hp3,_,_,hmv,hes⟩:=hpart;have p5:=hp3.cell 5 _ rfl;have b0:=hfr.blk.cell 0 _ rfl;have hg:=run_getM (P:=Tryz.prog) Tryz.underlying99 Tryz.underlying9 (zero_ints w) hmv n;rw [hes n] at hg;have hdy:=hhas.home.dyn q n;rw [getW_some hq];cases hd:L.dim q n with
  | none=>
   rw [hd] at hdy hg;simp only at hdy;rw [hdy];have hne : ∀ w,(binOp BinOp.eql 41 (.slice none 0 0) (.slice none 0 0)).run Tryz.prog w = .ok (.bool true) w:=fun _=>rfl
   clear h hfr hhas hord hget hown hp3 hmv hes hdy hd hq
   go_enter Tryz.func29,Tryz.ntmps29
   go_wp2_with fail;go_ret2
   exact⟨Chg.refl _ _,rfl⟩
  | some x=>
   obtain⟨b,k⟩:=x;rw [hd] at hdy hg;obtain⟨l,hvs,rfl,hb⟩:=hdy;rw [hvs];have hk:=((hhas.home.lay w.heap.size (Nat.le_refl _)).arr hd).2.2;have hne : ∀ w,(binOp BinOp.eql 41 (.slice (some ⟨b,0,none⟩) l.length l.length) (.slice none 0 0)).run Tryz.prog w = .ok (.bool false) w:=fun _=>rfl
   have HC:=zh (clone_ints l (by omega) ⟨b,0,none⟩ l.length (fun _=>True) w ⟨fun _=>⟨b,0,rfl,fun i x hx=>by rw [Nat.zero_add];exact hb.cell i x (by simpa using hx)⟩,fun _ _ _=>trivial⟩);have HK:=zh hk;clear h hfr hhas hord hget hown hp3 hmv hes hd hq hb hvs hk
   go_enter Tryz.func29,Tryz.ntmps29
   go_wp2_with fail;refine HC.out.mono ?_;rintro _ w1 ⟨v',rfl,h1,h2,h3⟩;have H1:=zh h1;clear h1;go_wp2_with fail;go_ret2
   exact⟨h3,_,rfl,H1.out,h2,HK.out⟩
end Go.Proofs.YtechofppmnnomaaGreatDoor
namespace Go.Proofs.YtechofppmnnomaaGreatDoor
open Go Go.RowKit Go.Mq Go.Mq.Tree Go.Mq.Sym Go.Mq.Run
def pairT (u:Int):List UInt8:=[UInt8.ofNat (IntKind.u64.wrap (97 + bits BinOp.and IntKind.u64 u 15) % 256).toNat,UInt8.ofNat (IntKind.u64.wrap (97 + bits BinOp.and IntKind.u64 (u / 16) 15) % 256).toNat]
def valT:Nat→Int→List UInt8
 | 0,_=>[]
 | k + 1,u=>pairT u ++ valT k (u / 256)
def listT (l:List Int):List UInt8:=l.flatMap fun x=>valT 8 (IntKind.u64.wrap x)
def varT (W:Wd) (q v:Nm):List UInt8:=match getW W q v with
 | none=>[45]
 | some l=>v ++ listT l
def vnames:List Nm:=[[120],[121],[116],[117],[122]]
def modT (W:Wd) (q:Nm):List UInt8:=q ++ vnames.flatMap (varT W q) ++ [59]
def allT (W:Wd):List UInt8:=W.order.flatMap (modT W)
theorem bs_app (a b:List UInt8) : bs a ++ bs b=bs (a ++ b):=by
 apply ByteArray.ext
 simp [bs]
theorem flat_take {α:Type} {l:List α} {k:Nat} {x : α} (h : l[k]?=some x) (f : α→List UInt8) : (l.take (k + 1)).flatMap f=(l.take k).flatMap f ++ f x:=by
 rw [take_get h,List.flatMap_append];simp
set_option maxRecDepth 100000
set_option maxHeartbeats 4000000
theorem pair_conv (w:World) (n1 n2:Int) : (convert 114 9 (.slice (some ⟨w.heap.size,0,none⟩) 2 2)).run Tryz.prog (w.alloc (.cells #[.int .u8 n1,.int .u8 n2] 5)) = .ok (.string (bs [UInt8.ofNat n1.toNat,UInt8.ofNat n2.toNat])) (w.alloc (.cells #[.int .u8 n1,.int .u8 n2] 5)):=by
 rw [run_convert_bytes_string _ _ _ 5 _ _ _ Tryz.underlying114 Tryz.underlying5 Tryz.underlying9];refine run_bytesToString _ ⟨w.heap.size,0,none⟩ 2 2 [n1,n2] ?_;have hz:=Blk.new w #[.int .u8 n1,.int .u8 n2] 5;exact run_loadCells_list _ _ [.int .u8 n1,.int .u8 n2] (fun j v hv=>by
  match j,hv with
  | 0,hv=>cases hv;exact hz.cell 0 _ rfl
  | 1,hv=>cases hv;exact hz.cell 1 _ rfl)
theorem wrap_u (x:Int) : 0≤IntKind.u64.wrap x∧IntKind.u64.wrap x < 18446744073709551616:=by
 have h:IntKind.u64.wrap x=x % 18446744073709551616:=rfl;rw [h];omega
theorem wall_any {w:World} {Own G:Nat→Prop} {bw:Nat} {W:Wd} (h:WAt w Own G bw W) (hI:Inv W) :
  Calls Tryz.prog 17 #[ptr bw] w (fun e w'=>e = .returned (str (allT W))∧Chg [] w w'):=by
 have HN:=zh (wnames_any h);have HG:=zh (fun q n w' (hc:Chg [] w w')=>wget_any (h.kept hc (by simp)) q n);have HNL:=zh (fun q (hq : q∈W.order)=>(show q.length≤10 by
  obtain⟨m,hm⟩:=Option.isSome_iff_exists.1 ((hI.order q).1 hq);obtain⟨h1,h2⟩:=hI.ok.good q m hm;rw [← h2];exact h1.wf.name.2.2))
 have hfew:=h.few;clear h hI
 go_enter Tryz.func17,Tryz.ntmps17
 go_wp2_with fail;refine HN.out.mono ?_;rintro _ w1 ⟨vn,rfl,hvn,hfrom,hc1⟩;have hvn0:=hvn;obtain⟨an,cn,rfl,hcn,hrn⟩:=Row.of_owns (F:=fun _=>True) hvn0 (fun _ _=>trivial);have hln : (W.order.map str).length=W.order.length:=by simp
 have HVN:=zh hrn;have HC1:=zh hc1;clear hvn hvn0 hrn hfrom hc1;go_wp2_with fail
 go_loopw [3,5,7,8,9,10,11,12] (fun s i _ _ _ _ _ _ wr=>∃ (k:Nat) (S:ByteArray),s = .string S∧Hid (S=bs ((W.order.take k).flatMap (modT W)))∧S.size≤k * 1000000∧i = .int .i64 k∧k≤W.order.length∧Chg [] w1 wr) (fun _ i _ _ _ _ _ _ _=>W.order.length - (intOf i).toNat)
 case atStart=>exact⟨0,_,rfl,zh rfl,Nat.zero_le _,rfl,Nat.zero_le _,Chg.refl _ _⟩
 case round=>
  obtain⟨k,S,rfl,HS,hSz,rfl,hk,hc⟩:=hrel;have HC:=zh hc;clear hc;by_cases hlt : k < W.order.length
  ·obtain⟨q,hq⟩ : ∃ q,W.order[k]?=some q:=⟨W.order[k],List.getElem?_eq_getElem hlt⟩
   have HQ:=zh hq;have hql:=HNL.out q (List.mem_of_getElem? hq);obtain⟨bb,off,rfl,hc⟩:=cell_drop (HVN.out.kept HC.out (by simp)) (show k < (W.order.map str).length by simpa using hlt);have hcq : wr.cell? ⟨bb,off + k,none⟩=some (str q):=by
    rw [hc];simp only [List.getElem_map];rw [List.getElem?_eq_getElem hlt,Option.some.injEq] at hq;rw [hq]
   obtain⟨qb,hqb⟩ : ∃ x,x=bs q:=⟨_,rfl⟩
   rw [str,← hqb] at hcq;have hqs : qb.size≤10:=by rw [hqb,bs_size];exact hql
   have HQB:=zh hqb;have hz:=Blk.new wr #[.string ⟨#[120]⟩,.string ⟨#[121]⟩,.string ⟨#[116]⟩,.string ⟨#[117]⟩,.string ⟨#[122]⟩] 9;obtain⟨wA,hwA⟩ : ∃ x,wr.alloc (.cells #[.string ⟨#[120]⟩,.string ⟨#[121]⟩,.string ⟨#[116]⟩,.string ⟨#[117]⟩,.string ⟨#[122]⟩] 9)=x:=⟨_,rfl⟩
   rw [hwA] at hz;have hcA:Chg [] wr wA:=by rw [← hwA];exact(Chg.refl _ _).alloc _
   obtain⟨b27,hb27⟩ : ∃ b,b=wr.heap.size:=⟨_,rfl⟩
   rw [← hb27] at hz;have HZ:=zh hz;have HCA:=zh (HC.out.then hcA);have HCAr:=zh hcA;have HCQ:=zh hcq;clear hqb hq hc hql hz hcA;go_wp2_with fail;rw [← hb27];clear hcq hwA hb27
   go_loopw [3,7,8,9,10,11,12,29] (fun s _ _ _ _ _ _ i wr=>∃ (j:Nat) (T:ByteArray),s = .string T∧Hid (T=bs ((W.order.take k).flatMap (modT W) ++ q ++ (vnames.take j).flatMap (varT W q)))∧T.size≤k * 1000000 + 10 + j * 20000∧i = .int .i64 j∧j≤5∧Chg [] wA wr) (fun _ _ _ _ _ _ _ i _=>5 - (intOf i).toNat)
   case atStart=>exact⟨0,_,rfl,zh (by rw [HS.out,HQB.out,bs_app];simp),by simp;omega,rfl,by omega,Chg.refl _ _⟩
   case round=>
    rename_i wr0
    obtain⟨j,T,rfl,HT,hTz,rfl,hj,hc⟩:=hrel;have HC2:=zh hc;clear hc;by_cases hlt2 : j < 5
    ·obtain⟨v,hv,hvc,hvl⟩ : ∃ v,vnames[j]?=some v∧wr.cell? ⟨b27,j,none⟩=some (.string (bs v))∧v.length=1:=by
      have hz:=HZ.out.kept HC2.out (by simp);have : j=0∨j=1∨j=2∨j=3∨j=4:=by omega
      rcases this with rfl|rfl|rfl|rfl|rfl
      ·exact⟨[120],rfl,hz.cell 0 _ rfl,rfl⟩
      ·exact⟨[121],rfl,hz.cell 1 _ rfl,rfl⟩
      ·exact⟨[116],rfl,hz.cell 2 _ rfl,rfl⟩
      ·exact⟨[117],rfl,hz.cell 3 _ rfl,rfl⟩
      ·exact⟨[122],rfl,hz.cell 4 _ rfl,rfl⟩
     have hcw:=HC1.out.then (HCA.out.then HC2.out)
     have hg:=HG.out q v wr hcw;obtain⟨vb,hvb⟩ : ∃ x,x=bs v:=⟨_,rfl⟩
     rw [str,str,← HQB.out,← hvb] at hg;rw [← hvb] at hvc;have hvs : vb.size=1:=by rw [hvb,bs_size];exact hvl
     have hqc : wr.cell? ⟨bb,off + k,none⟩=some (.string qb):=(HCAr.out.then HC2.out).cellSome HCQ.out (by simp);have HGG:=zh hg;have HV:=zh hv;have HVB:=zh hvb;clear hg hv hvb hcw hvl;obtain⟨o,ho⟩ : ∃ o,o=getW W q v:=⟨_,rfl⟩
     rw [← ho] at HGG;have HO:=zh ho;clear ho;cases o with
     | none=>
      go_wp2_with fail;refine HGG.out.mono ?_;rintro _ w2 ⟨hc2,rfl⟩;have HC3:=zh hc2;clear hc2;go_wp2_with fail;refine⟨⟨j + 1,_,rfl,zh ?_,?_,by go_num,by omega,HC2.out.then HC3.out⟩,by simp [intOf];omega⟩
      ·rw [HT.out,flat_take HV.out,varT,← HO.out]
       exact(bs_app _ [45]).trans (by simp)
      ·have : (T ++ (⟨#[45]⟩ : ByteArray)).size=T.size + 1:=by rw [ByteArray.size_append];rfl
       omega
     | some l=>
      go_wp2_with fail;refine HGG.out.mono ?_;rintro _ w2 ⟨hc2,vl,rfl,hown,hfl,hll⟩;obtain⟨al,cl,rfl,hcl,hrl⟩:=Row.of_owns (F:=fun _=>True) hown (fun _ _=>trivial);have HRL:=zh hrl;have HC3:=zh (HC2.out.then hc2);clear hown hfl hrl hc2 hqc hvc;obtain⟨T1,hT1⟩ : ∃ x,x=T ++ vb:=⟨_,rfl⟩
      obtain⟨z0,hz0⟩ : ∃ z,z=k * 1000000 + 11 + j * 20000:=⟨_,rfl⟩
      have hT1s:T1.size≤z0:=by rw [hT1,ByteArray.size_append];omega
      have hz9 : z0≤20000000:=by omega
      have HZ0:=zh hz0;clear hz0;have HT1:=zh (show T1=bs ((W.order.take k).flatMap (modT W) ++ q ++ (vnames.take j).flatMap (varT W q) ++ v) by rw [hT1,HT.out,HVB.out,bs_app]);go_wp2_with fail;rw [← hT1];clear hT1
      go_loopw [3,10,11,12] (fun s i _ _ wr=>∃ (n:Nat) (U:ByteArray),s = .string U∧Hid (U=bs ((W.order.take k).flatMap (modT W) ++ q ++ (vnames.take j).flatMap (varT W q) ++ v ++ (l.take n).flatMap fun x=>valT 8 (IntKind.u64.wrap x)))∧U.size≤z0 + n * 16∧i = .int .i64 n∧n≤l.length∧Chg [] w2 wr) (fun _ i _ _ _=>l.length - (intOf i).toNat)
      case atStart=>exact⟨0,_,rfl,zh (by rw [HT1.out];simp),by omega,rfl,by omega,Chg.refl _ _⟩
      case round=>
       rename_i wr1
       obtain⟨n,U,rfl,HU,hUz,rfl,hn,hc⟩:=hrel;have HC4:=zh hc;clear hc;by_cases hlt3 : n < l.length
       ·obtain⟨x,hx⟩ : ∃ x,l[n]?=some x:=⟨l[n],List.getElem?_eq_getElem hlt3⟩
        obtain⟨b2,off2,rfl,hc⟩:=cell_drop (HRL.out.kept HC4.out (by simp)) (show n < (l.map num).length by simpa using hlt3);have hcx : wr.cell? ⟨b2,off2 + n,none⟩=some (num x):=by
         rw [hc];simp only [List.getElem_map];rw [List.getElem?_eq_getElem hlt3,Option.some.injEq] at hx;rw [hx]
        have HX:=zh hx;clear hc hx;go_wp2_with fail;clear hcx
        go_loopw [3,11,12] (fun s u i wr=>∃ (c:Nat) (V:ByteArray) (y:Int),s = .string V∧Hid (∃ lV,V=bs lV∧lV ++ valT (8 - c) y=(W.order.take k).flatMap (modT W) ++ q ++ (vnames.take j).flatMap (varT W q) ++ v ++ (l.take (n + 1)).flatMap fun x=>valT 8 (IntKind.u64.wrap x))∧V.size≤z0 + n * 16 + c * 2∧u = .int .u64 y∧0≤y∧y < 18446744073709551616∧i = .int .i64 c∧c≤8∧Chg [] w2 wr) (fun _ _ i _=>8 - (intOf i).toNat)
        case atStart=>
         refine⟨0,U,_,rfl,zh ⟨_,HU.out,?_⟩,by omega,rfl,?_,?_,rfl,by omega,HC4.out⟩
         ·rw [flat_take HX.out]
          simp
         ·exact(wrap_u x).1
         ·exact(wrap_u x).2
        case round=>
         rename_i wr2
         obtain⟨c,V,y,rfl,HVV,hVz,rfl,hy0,hy1,rfl,hcc,hc⟩:=hrel;have HC5:=zh hc;clear hc;by_cases hlt4 : c < 8
         ·have hpc:=pair_conv wr (IntKind.u64.wrap (97 + bits BinOp.and IntKind.u64 y 15) % 256) (IntKind.u64.wrap (97 + bits BinOp.and IntKind.u64 (y / 16) 15) % 256)
          obtain⟨pb,hpb⟩ : ∃ x,x=bs [UInt8.ofNat (IntKind.u64.wrap (97 + bits BinOp.and IntKind.u64 y 15) % 256).toNat,UInt8.ofNat (IntKind.u64.wrap (97 + bits BinOp.and IntKind.u64 (y / 16) 15) % 256).toNat]:=⟨_,rfl⟩
          rw [← hpb] at hpc;have hps : pb.size=2:=by rw [hpb];rfl
          have HPB:=zh (show pb=bs (pairT y) from hpb);clear hpb;go_wp2_with fail;refine⟨⟨c + 1,V ++ pb,y / 256,rfl,zh ?_,?_,rfl,by omega,by omega,by go_num,by omega,HC5.out.alloc _⟩,by simp [intOf];omega⟩
          ·obtain⟨lV,h1,h2⟩:=HVV.out
           refine⟨lV ++ pairT y,by rw [h1,HPB.out,bs_app],?_⟩;rw [← h2];obtain⟨d,hd⟩ : ∃ d,8 - c=d + 1:=⟨7 - c,by omega⟩
           rw [hd,show 8 - (c + 1)=d by omega,valT];simp
          ·rw [ByteArray.size_append];omega
         ·go_wp2_with fail
          refine⟨⟨n + 1,V,rfl,zh ?_,?_,by go_num,by omega,HC5.out⟩,by simp [intOf];omega⟩
          ·obtain⟨lV,h1,h2⟩:=HVV.out
           rw [show 8 - c=0 by omega,valT,List.append_nil] at h2;rw [h1,h2]
          ·omega
       ·go_wp2_with fail
        refine⟨⟨j + 1,U,rfl,zh ?_,?_,by go_num,by omega,HC3.out.then HC4.out⟩,by simp [intOf];omega⟩
        ·have e1 : l.take n=l:=List.take_of_length_le (by omega)
         rw [HU.out,flat_take HV.out,varT,← HO.out,e1];simp [listT]
        ·have:=HZ0.out
         omega
    ·go_wp2_with fail
     refine⟨⟨k + 1,_,rfl,zh ?_,?_,by go_num,by omega,HCA.out.then HC2.out⟩,by simp [intOf];omega⟩
     ·have e1 : vnames.take j=vnames:=List.take_of_length_le (by show 5≤j;omega)
      rw [HT.out,flat_take HQ.out,modT,e1];exact(bs_app _ [59]).trans (by simp)
     ·have : (T ++ (⟨#[59]⟩ : ByteArray)).size=T.size + 1:=by rw [ByteArray.size_append];rfl
      omega
  ·go_wp2_with fail
   have hS:S=bs (allT W):=by rw [HS.out,List.take_of_length_le (by omega),allT]
   rw [hS];go_ret
   exact⟨rfl,HC1.out.then HC.out⟩
end Go.Proofs.YtechofppmnnomaaGreatDoor
