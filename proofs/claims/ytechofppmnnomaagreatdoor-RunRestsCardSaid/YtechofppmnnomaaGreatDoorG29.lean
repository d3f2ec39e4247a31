/- Some texts in one. -/
import Derived.Test.YtechofppmnnomaaGreatDoorG2
import Derived.Test.YtechofppmnnomaaGreatDoorG28
namespace Go.Proofs.YtechofppmnnomaaGreatDoor
open Go Go.RowKit Go.Mq Go.Mq.Tree Go.Mq.Sym Go.Mq.Run
set_option maxRecDepth 100000
set_option maxHeartbeats 4000000
theorem ints_cell {w:World} {F:Nat→Prop} {a:Option Addr} {l:List Int} (h:Row w F a (ints l)) {k:Nat} (hk : k < l.length) : ∃ bb off,a=some ⟨bb,off,none⟩∧w.cell? ⟨bb,off + k,none⟩=some (num l[k]):=by
 obtain⟨bb,off,rfl,hc⟩:=h.at_ (by simp;omega);exact⟨bb,off,rfl,hc k _ (by simp [hk])⟩
theorem equal_any (x y:List Int) (hx : x.length≤100000) (hy : y.length≤100000) (a b:Option Addr) (c d:Nat) (F G:Nat→Prop) (w:World) (ha:Row w F a (ints x)) (hb:Row w G b (ints y)) :
  Calls Tryz.prog 18 #[.slice a x.length c,.slice b y.length d] w (fun e w'=>e = .returned (.bool (decide (x=y)))∧Chg [] w w'):=by
 have HA:=zh ha;have HB:=zh hb;clear ha hb;cases hlen : ((x.length:Int) != (y.length:Int)) with
 | true=>
  have hne : x≠y:=fun e=>by subst e;simp at hlen
  go_enter Tryz.func18,Tryz.ntmps18
  go_wp2_with fail;go_ret
  exact⟨by simp [hne],Chg.refl _ _⟩
 | false=>
  have hll : x.length=y.length:=by
   have : (x.length:Int)=y.length:=by simpa using hlen
   omega
  have HLL:=zh hll;clear hll
  go_enter Tryz.func18,Tryz.ntmps18
  go_wp2_with fail
  go_loopw [5,13] (fun _ i wr=>∃ k:Nat,i = .int .i64 k∧k≤x.length∧Chg [] w wr∧x.take k=y.take k) (fun _ i _=>x.length - (intOf i).toNat)
  case atStart=>exact⟨0,rfl,Nat.zero_le _,Chg.refl _ _,by simp⟩
  case round=>
   obtain⟨k,rfl,hk,hc,hno⟩:=hrel;have HNO:=zh hno;have HC:=zh hc;clear hno hc;by_cases hlt : k < x.length
   ·have hlt2 : k < y.length:=by have:=HLL.out;omega
    obtain⟨xk,hxk⟩ : ∃ z,z=x[k]:=⟨_,rfl⟩
    obtain⟨yk,hyk⟩ : ∃ z,z=y[k]:=⟨_,rfl⟩
    have hr:Chg [] w wr.drew:=HC.out.drew;obtain⟨b1,o1,rfl,d1⟩:=ints_cell (HA.out.kept HC.out (by simp)) hlt;obtain⟨b2,o2,rfl,d2⟩:=ints_cell (HB.out.kept HC.out (by simp)) hlt2;rw [← hxk] at d1;rw [← hyk] at d2;have HXK:=zh hxk;have HYK:=zh hyk;have HR:=zh hr;clear hxk hyk hr;have hkl : k < y.length:=hlt2;cases hq : (xk != yk) with
    | true=>
     have hne : x≠y:=fun e=>by
      have h1:=HXK.out;have h2:=HYK.out;subst e;rw [h1,h2] at hq;simp at hq
     go_wp2_with fail
     go_region
     all_goals (try go_wp2_with fail)
     go_ret
     exact⟨by simp [hne],HR.out⟩
    | false=>
     have hee : xk=yk:=by simpa using hq
     have HEE:=zh hee;clear hee;go_wp2_with fail
     go_region
     all_goals (try go_wp2_with fail)
     refine⟨⟨k + 1,by go_num,by omega,HR.out,?_⟩,by simp [intOf];omega⟩;rw [List.take_succ_eq_append_getElem hlt,List.take_succ_eq_append_getElem hlt2,HNO.out,← HXK.out,← HYK.out,HEE.out]
   ·have hkx : k=x.length:=by omega
    have he : x=y:=by
     have h1:=HNO.out;rw [hkx,List.take_length,HLL.out,List.take_length] at h1;exact h1
    go_wp2_with fail;go_ret
    exact⟨by simp [he],HC.out⟩
end Go.Proofs.YtechofppmnnomaaGreatDoor
namespace Go.Proofs.YtechofppmnnomaaGreatDoor
open Go Go.RowKit Go.Mq Go.Mq.Tree Go.Mq.Sym Go.Mq.Run
open Go.Mq.Check (check Out)
set_option maxRecDepth 100000
set_option maxHeartbeats 4000000
def codeO:Out→Int
 | .fine=>0
 | .plain n=>n
 | .at_ en _=>en
theorem tell_out {o:Out} {v:Value} {w:World} (hg:ErrLaid w) (h:ErrV w o v):Calls Tryz.prog 15 #[v] w fun e w'=>e = .returned (.int .i64 (codeO o))∧Chg [] w w':=by
 cases o with
 | fine=>
  simp only [ErrV] at h;subst h;exact(tell_nil w).mono fun e w' ⟨h1,h2⟩=>⟨h1,by rw [h2];exact Chg.refl _ _⟩
 | plain n=>
  simp only [ErrV] at h;subst h;exact tell_errno n w hg
 | at_ en p=>
  obtain⟨b,rfl,hb⟩:=h;exact tell_at en b w hg (hb.cell 0 _ rfl)
theorem pick_of (a:Int) (n:Nat) (hn : 0 < n∧n < 1000000) (w:World):Calls Tryz.prog 13 #[.int .i64 a,.int .i64 n] w (fun e w'=>∃ r:Nat,r < n∧e = .returned (.int .i64 r)∧w'=w):=by
 have hw:IntKind.u64.wrap (n:Int)=n:=by
  have h:IntKind.u64.wrap (n:Int)=(n:Int) % 18446744073709551616:=rfl;rw [h];omega
 have hz : ((n:Int) == 0)=false:=by simp;omega
 go_enter Tryz.func13,Tryz.ntmps13
 go_wp2_with fail;go_ret
 have h0:=wrap_u a;obtain⟨r,hr⟩:=Int.eq_ofNat_of_zero_le (Int.tmod_nonneg (n:Int) h0.1);have hlt : (IntKind.u64.wrap a).tmod n < n:=Int.tmod_lt_of_pos _ (by omega);refine⟨r,by omega,?_,rfl⟩
 show Ending.returned (Value.int .i64 (wrap64 ((IntKind.u64.wrap a).tmod n)))=_
 rw [hr];have : wrap64 (r:Int)=r:=by unfold wrap64;omega
 rw [this]
theorem ends_any {w:World} {y1 y2:Nat} {o1 o2:List Int} {v1 v2:Value} {a1 a2:Option Addr} {c1 c2:Nat} (l1 : o1.length≤100000) (l2 : o2.length≤100000)
  (r1:Row w (fun _=>True) a1 (ints o1)) (r2:Row w (fun _=>True) a2 (ints o2)) (e1 : v1 = .agg #[num y1,.slice a1 o1.length c1]) (e2 : v2 = .agg #[num y2,.slice a2 o2.length c2]) :
  Calls Tryz.prog 16 #[v1,v2] w fun e w'=>e = .returned (.bool (decide (y1=y2) && decide (o1=o2)))∧Chg [] w w':=by
 subst e1 e2;obtain⟨wA,hwA⟩ : ∃ x,w.alloc (.cells #[num y1,.slice a1 o1.length c1] 43)=x:=⟨_,rfl⟩
 have hbA:Blk wA w.heap.size #[num y1,.slice a1 o1.length c1] 43:=by rw [← hwA];exact Blk.new w _ _
 have hcA:Chg [] w wA:=by rw [← hwA];exact(Chg.refl _ _).alloc _
 obtain⟨wB,hwB⟩ : ∃ x,wA.alloc (.cells #[num y2,.slice a2 o2.length c2] 43)=x:=⟨_,rfl⟩
 have hbB:Blk wB wA.heap.size #[num y2,.slice a2 o2.length c2] 43:=by rw [← hwB];exact Blk.new wA _ _
 have hcB:Chg [] wA wB:=by rw [← hwB];exact(Chg.refl _ _).alloc _
 have hbA2:=hbA.kept hcB (by simp);have x0:=hbA2.cell 0 _ rfl;have x1:=hbA2.cell 1 _ rfl;have z0:=hbB.cell 0 _ rfl;have z1:=hbB.cell 1 _ rfl;have HE:=zh (equal_any o1 o2 l1 l2 a1 a2 c1 c2 _ _ wB (r1.kept (hcA.then hcB) (by simp)) (r2.kept (hcA.then hcB) (by simp)));have HC:=zh (hcA.then hcB);clear hbA hcA hbB hcB hbA2 r1 r2 l1 l2;cases hq : ((y1:Int) == (y2:Int)) with
 | true=>
  have hyi : (y1:Int)=y2:=by simpa using hq
  have HY:=zh (show y1=y2 by omega);clear hyi
  go_enter Tryz.func16,Tryz.ntmps16
  go_wp2_with fail;refine HE.out.mono ?_;rintro _ w1 ⟨rfl,hc⟩;go_wp2_with fail;go_ret
  exact⟨by simp [HY.out],HC.out.then hc⟩
 | false=>
  have hyi : ¬ (y1:Int)=y2:=by simpa using hq
  have HY:=zh (show y1≠y2 by omega);clear hyi
  go_enter Tryz.func16,Tryz.ntmps16
  go_wp2_with fail;go_ret
  exact⟨by simp [HY.out],HC.out⟩
end Go.Proofs.YtechofppmnnomaaGreatDoor
namespace Go.Mq.Run
open Go Go.RowKit Go.Mq Go.Mq.Tree Go.Mq.Sym
open Go.Mq.Check (check Out)
def okR:Out→Bool
 | .fine=>true
 | _=>false
theorem ran_fact : (match parse [109,111,100,117,108,101,32,109,59,32,118,97,114,32,120,58,32,105,110,116,59,32,112,114,111,99,32,102,42,40,97,41,59,32,98,101,103,105,110,32,120,32,58,61,32,120,32,43,32,97,59,32,114,101,116,117,114,110,32,120,32,42,32,50,59,32,101,110,100,59,32,98,101,103,105,110,32,119,114,105,116,101,32,102,40,51,41,59,32,101,110,100,46] with
  | .ok m=>match loadW 30 Wd.zero m 100 with
   | some r=>r.2.1 == 1 && r.2.2.1 == [6] && okR r.2.2.2 && match callW 30 r.1 [109] [102] [4] 100 with
    | some c=>c.2.1 == 1 && c.2.2.2.1 == 14 && okR c.2.2.2.2
    | none=>false
   | none=>false
  | .bad _ _=>false)=true:=by
 decide +kernel
theorem ran_at : ∃ m,parse [109,111,100,117,108,101,32,109,59,32,118,97,114,32,120,58,32,105,110,116,59,32,112,114,111,99,32,102,42,40,97,41,59,32,98,101,103,105,110,32,120,32,58,61,32,120,32,43,32,97,59,32,114,101,116,117,114,110,32,120,32,42,32,50,59,32,101,110,100,59,32,98,101,103,105,110,32,119,114,105,116,101,32,102,40,51,41,59,32,101,110,100,46] = .ok m ∧ ∃ W1 W2 out,loadW 30 Wd.zero m 100=some (W1,1,[6],.fine)∧callW 30 W1 [109] [102] [4] 100=some (W2,1,out,14,.fine):=by
 have h:=ran_fact;split at h
 ·rename_i m hm
  refine⟨m,hm,?_⟩;split at h
  ·rename_i r hr
   obtain⟨W1,way,out,o⟩:=r;simp only [Bool.and_eq_true,beq_iff_eq] at h;obtain⟨⟨⟨rfl,rfl⟩,ho⟩,h⟩:=h;split at h
   ·rename_i c hc
    obtain⟨W2,way2,out2,n,o2⟩:=c;simp only [Bool.and_eq_true,beq_iff_eq] at h;obtain⟨⟨rfl,rfl⟩,ho2⟩:=h;refine⟨W1,W2,out2,?_,?_⟩
    ·cases o with
     | fine=>exact hr
     | plain e=>cases ho
     | at_ e p=>cases ho
    ·cases o2 with
     | fine=>exact hc
     | plain e=>cases ho2
     | at_ e p=>cases ho2
   ·cases h
  ·cases h
 ·cases h
theorem WAt.new {w:World} {bw:Nat} (h:Blk w bw #[.map none,nils] 40):WAt w (fun x=>x=bw) (fun _=>False) bw Wd.zero:=
 ⟨rfl,fun x hx=>by rcases hx with rfl|hx;exact h.lt;exact hx.elim,fun _ _ h=>h,fun _ _ h=>(by cases h),by simp [Wd.zero],.inl ⟨rfl,h⟩⟩
theorem ChgO.new {w w1 w2:World} {Own:Nat→Prop} (h:ChgO Own w1 w2) (hc:Chg [] w w1) (hO : ∀ x,Own x→w.heap.size≤x):Chg [] w w2:=by
 obtain⟨Z,hz,hZ⟩:=h;exact hc.trans hz (fun x hx=>.inr (hO x (hZ x hx)))
end Go.Mq.Run
namespace Go.Proofs.YtechofppmnnomaaGreatDoor
open Go Go.RowKit Go.Mq Go.Mq.Tree Go.Mq.Sym Go.Mq.Run
open Go.Mq.Check (check Out)
set_option maxRecDepth 100000
set_option maxHeartbeats 4000000
theorem ran_any (w:World) (B:Nat) (hL:Laid w B):Calls Tryz.prog 9 #[] w (Holds w):=by
 obtain⟨m,hm,W1,W2,out,hl,hcl⟩:=ran_at;have hgood:=good_of (t:=[109,111,100,117,108,101,32,109,59,32,118,97,114,32,120,58,32,105,110,116,59,32,112,114,111,99,32,102,42,40,97,41,59,32,98,101,103,105,110,32,120,32,58,61,32,120,32,43,32,97,59,32,114,101,116,117,114,110,32,120,32,42,32,50,59,32,101,110,100,59,32,98,101,103,105,110,32,119,114,105,116,101,32,102,40,51,41,59,32,101,110,100,46]) (by decide) hm;have hP:=parse_any [109,111,100,117,108,101,32,109,59,32,118,97,114,32,120,58,32,105,110,116,59,32,112,114,111,99,32,102,42,40,97,41,59,32,98,101,103,105,110,32,120,32,58,61,32,120,32,43,32,97,59,32,114,101,116,117,114,110,32,120,32,42,32,50,59,32,101,110,100,59,32,98,101,103,105,110,32,119,114,105,116,101,32,102,40,51,41,59,32,101,110,100,46] (by decide) w B hL;rw [hm] at hP;have HP:=zh hP;have HL1:=zh hl;have HC1:=zh hcl;have HGO:=zh hgood;clear hP hm hl hcl hL hgood
 go_enter Tryz.func9,Tryz.ntmps9
 go_wp2_with fail;refine HP.out.mono ?_;rintro _ w1 ⟨hc1,v,rfl,hmod⟩;have HMD:=zh hmod;obtain⟨aia,cia,ava,cva,apa,cpa,aba,cba,rfl,hgv,hpv⟩:=mod_parts hmod;have hz:=Blk.new w1 #[str [],nils,nils,nils,nils] 32;obtain⟨wA,hwA⟩ : ∃ w',w1.alloc (.cells #[str [],nils,nils,nils,nils] 32)=w':=⟨_,rfl⟩
 rw [hwA] at hz;have hcA:Chg [] w1 wA:=by rw [← hwA];exact(Chg.refl _ _).alloc _
 obtain⟨wF,hwF,hcF,hbF⟩:=set5 (str m.name) (.slice aia m.imports.length cia) (.slice ava m.vars.length cva) (.slice apa m.procs.length cpa) (.slice aba m.body.len cba) hz;have hcG:Chg [] w1 wF:=hcA.trans hcF (fun x hx=>.inr (by simp at hx;omega));have z0:=hz.cell 0 _ rfl;have z1:=hz.cell 1 _ rfl;have z2:=hz.cell 2 _ rfl;have z3:=hz.cell 3 _ rfl;have z4:=hz.cell 4 _ rfl;have y0:=hz.frozen 0;have y1:=hz.frozen 1;have y2:=hz.frozen 2;have y3:=hz.frozen 3;have y4:=hz.frozen 4;obtain⟨wW,hwW⟩ : ∃ x,wF.alloc (.cells #[.map none,nils] 40)=x:=⟨_,rfl⟩
 have hbW:Blk wW wF.heap.size #[.map none,nils] 40:=by rw [← hwW];exact Blk.new wF _ _
 have hcW:Chg [] wF wW:=by rw [← hwW];exact(Chg.refl _ _).alloc _
 have hsW : wW.heap.size=wF.heap.size + 1:=by rw [← hwW];simp
 have hcwW:Chg [] w wW:=hc1.then (hcG.then hcW)
 have hx:=hbF.kept hcW (by simp);have x0:=hx.cell 0 _ rfl;have x1:=hx.cell 1 _ rfl;have x2:=hx.cell 2 _ rfl;have x3:=hx.cell 3 _ rfl;have x4:=hx.cell 4 _ rfl;have hML:ModAt wW (New w w1) m (.agg #[str m.name,.slice aia m.imports.length cia,.slice ava m.vars.length cva,.slice apa m.procs.length cpa,.slice aba m.body.len cba]):=(HMD.out.kept (hcG.then hcW) (by simp)).mono (fun x hx=>hx);have hs1:=hc1.size;have hsG:=hcG.size;have HLD:=zh (load_any 30 (WAt.new hbW) hML (fun x hx=>⟨by have:=hx.2;omega,fun e=>by have:=hx.2;omega⟩) HGO.out (by decide : (100:Nat)≤9223372036854775807) HL1.out);have HCW:=zh hcwW;have HSW:=zh (show w.heap.size≤wF.heap.size∧wW.heap.size=wF.heap.size + 1 by omega);clear hc1 hz hcA hcF hbF hcG hbW hcW hsW hcwW hML hs1 hsG hx hmod hgv hpv;go_wp2_with fail;clear hwA hwF hwW z0 z1 z2 z3 z4 y0 y1 y2 y3 y4 x0 x1 x2 x3 x4;refine HLD.out.mono ?_;rintro _ w2 ⟨ve,vo,rfl,hev,hvo,hwat,hch⟩;obtain⟨ov,rfl,hov,_⟩:=hev;obtain⟨ea,ec,rfl⟩:=slice_of_owns hov;simp only [ErrV] at hvo;subst hvo;have hc02:Chg [] w w2:=hch.new HCW.out (fun x hx=>by have:=HSW.out;omega);obtain⟨wI,hwI⟩ : ∃ x,w2.alloc (.cells #[num 0,nils] 43)=x:=⟨_,rfl⟩
 have hbI:Blk wI w2.heap.size #[num 0,nils] 43:=by rw [← hwI];exact Blk.new w2 _ _
 have hcI:Chg [] w2 wI:=by rw [← hwI];exact(Chg.refl _ _).alloc _
 have i0:=hbI.cell 0 _ rfl;have i1:=hbI.cell 1 _ rfl;have j0:=hbI.frozen 0;have j1:=hbI.frozen 1;obtain⟨wJ,hwJ,hbJ,hcJ⟩:=setE 1 (.slice ea 1 ec) hbI;have hc2J:Chg [] w2 wJ:=hcI.trans hcJ (fun x hx=>.inr (by simp at hx;omega));have k0:=hbJ.cell 0 _ rfl;have k1:=hbJ.cell 1 _ rfl;obtain⟨wK,hwK⟩ : ∃ x,wJ.alloc (.cells #[num 6] i64T)=x:=⟨_,rfl⟩
 have hbK:Blk wK wJ.heap.size #[num 6] i64T:=by rw [← hwK];exact Blk.new wJ _ _
 have hcK:Chg [] wJ wK:=by rw [← hwK];exact(Chg.refl _ _).alloc _
 have hc2K:Chg [] w2 wK:=hc2J.then hcK
 have HEQ:=zh (show Calls Tryz.prog 18 #[.slice ea 1 ec,.slice (some ⟨wJ.heap.size,0,none⟩) 1 1] wK (fun e w'=>e = .returned (.bool true)∧Chg [] wK w') from by
  obtain⟨a',c',he,_,hr⟩:=Row.of_owns (F:=fun _=>True) hov (fun _ _=>trivial);cases he
  exact equal_any [6] [6] (by decide) (by decide) _ _ _ 1 (fun _=>True) (fun _=>True) wK (hr.kept hc2K (by simp)) ⟨fun _=>⟨_,0,rfl,fun i x hx=>by rw [Nat.zero_add];exact hbK.cell i x (by simpa using hx)⟩,fun _ _ _=>trivial⟩)
 have HWAT:=zh hwat;have H02:=zh hc02;have H2K:=zh hc2K;have HBK:=zh (hbJ.kept hcK (by simp));clear hov hch hwat hc02 hbI hcI hbJ hcJ hc2J hbK hcK hc2K;go_wp2_with fail;refine HEQ.out.mono ?_;rintro _ w5 ⟨rfl,hc5⟩;clear hwI hwJ hwK i0 i1 j0 j1 k0 k1;obtain⟨wL,hwL⟩ : ∃ x,w5.alloc (.cells #[num 4] i64T)=x:=⟨_,rfl⟩
 have hbL:Blk wL w5.heap.size #[num 4] i64T:=by rw [← hwL];exact Blk.new w5 _ _
 have hcL:Chg [] w5 wL:=by rw [← hwL];exact(Chg.refl _ _).alloc _
 have h2L:Chg [] w2 wL:=H2K.out.then (hc5.then hcL)
 have hs5 : w2.heap.size≤w5.heap.size:=(H2K.out.then hc5).size;have hsL:=hbL.lt;have HWC:=zh (show Calls Tryz.prog 31 #[ptr wF.heap.size,.string ⟨#[109]⟩,.string ⟨#[102]⟩,.slice (some ⟨w5.heap.size,0,none⟩) 1 1,num 100] wL _ from
  wcall_any 30 (q:=[109]) (n:=[102]) (args:=[4]) (fuel:=100) (a:=some ⟨w5.heap.size,0,none⟩) (c:=1) (HWAT.out.kept h2L (by simp)) (Ga:=fun x=>x=w5.heap.size) ⟨fun _=>⟨_,0,rfl,fun i x hx=>by rw [Nat.zero_add];exact hbL.cell i x (by simpa using hx)⟩,fun _ p hp=>by cases hp;rfl⟩ (fun x hx=>⟨by omega,fun ho=>by
   rcases ho with e|e
   ·have:=HSW.out;have:=H02.out.size;have:=HWAT.out.lt _ (.inl (.inl rfl));omega
   ·omega⟩) (by decide) (by decide) HC1.out)
 have hbe:=HBK.out.kept (hc5.then hcL) (by simp);have HBE:=zh hbe;have HL2:=zh h2L;clear hc5 hbL hcL h2L hs5 hsL hbe;go_wp2_with fail;refine HWC.out.mono ?_;rintro _ w9 ⟨ve,vo,rfl,hev,hvo,hwat,hch⟩;obtain⟨ov,rfl,hov,_⟩:=hev;obtain⟨fa,fc,rfl⟩:=slice_of_owns hov;simp only [ErrV] at hvo;subst hvo;clear hwL;have hbe9:Blk w9 w2.heap.size #[num 1,.slice ea 1 ec] 43:=by
  obtain⟨Z,hz,hZ⟩:=hch;refine HBE.out.kept hz (fun hm=>?_);rcases hZ _ hm with e|e
  ·have:=HSW.out;have:=HWAT.out.lt _ (.inl (.inl rfl));omega
  ·omega
 have i0:=hbe9.cell 0 _ rfl;have i1:=hbe9.cell 1 _ rfl;have j0:=hbe9.frozen 0;have j1:=hbe9.frozen 1;obtain⟨wS,hwS,hbS,hcS⟩:=setE 1 (.slice fa out.length fc) hbe9;have k0:=hbS.cell 0 _ rfl;have k1:=hbS.cell 1 _ rfl;have HFIN:=zh (show Chg [] w wS from(hch.new (H02.out.then HL2.out) (fun x hx=>by
  rcases hx with e|e
  ·have:=HSW.out;omega
  ·have:=HSW.out;omega)).trans hcS (fun x hx=>.inr (by simp at hx;have:=H02.out.size;omega)))
 clear hbe9 hbS hcS hov hwat hch;simp only;go_wp2_with fail;go_ret
 exact⟨rfl,HFIN.out⟩
end Go.Proofs.YtechofppmnnomaaGreatDoor
namespace Go.Mq.Run
open Go Go.RowKit Go.Mq Go.Mq.Tree Go.Mq.Sym
open Go.Mq.Check (check Out)
def up (n:Nat) (s:St):St:={ s with fuel:=s.fuel + n }
def Beg {α:Type} (s:St) (o:O α):Prop:=match o with
 | .ok _ s'=>s.out <+: s'.out
 | .stop _ s'=>s.out <+: s'.out
 | .stuck=>True
def MoR {α:Type} (n:Nat) (a b:O α):Prop:=match a with
 | .ok x s=>b = .ok x (up n s)
 | .stop w s=>if w=5 then Beg s b else b = .stop w (up n s)
 | .stuck=>True
structure MoA {α:Type} (n:Nat) (f:St→O α):Prop where
 mo : ∀ s,MoR n (f s) (f (up n s))
 al : ∀ s,Al (fun s s'=>s.out <+: s'.out) s (f s)
variable {n:Nat}
theorem MoA.bind {α β:Type} {f:St→O α} {g : α→St→O β} (hf:MoA n f) (hg : ∀ x,MoA n (g x)):MoA n (fun s=>(f s).bind g) where
 al s:=Al.bind keeps_out (hf.al s) fun a s'=>(hg a).al s'
 mo s:=by
  have h:=hf.mo s
  show MoR n ((f s).bind g) ((f (up n s)).bind g)
  cases hfs : f s with
  | stuck=>trivial
  | ok x s1=>
   rw [hfs] at h;have h : f (up n s) = .ok x (up n s1):=h;rw [h];exact(hg x).mo s1
  | stop w s1=>
   rw [hfs] at h;by_cases hw : w=5
   ·subst hw
    have h:Beg s1 (f (up n s)):=h
    show Beg s1 ((f (up n s)).bind g)
    cases hb : f (up n s) with
    | stuck=>trivial
    | stop w2 s2=>rw [hb] at h;exact h
    | ok x s2=>
     rw [hb] at h;have h : s1.out <+: s2.out:=h;have h2:=(hg x).al s2
     show Beg s1 (g x s2)
     cases hx : g x s2 with
     | stuck=>trivial
     | stop w3 s3=>rw [hx] at h2;exact List.IsPrefix.trans h h2
     | ok y s3=>rw [hx] at h2;exact List.IsPrefix.trans h h2
   ·have h : f (up n s) = .stop w (up n s1):=by simpa [MoR,hw] using h
    rw [h];simp [MoR,hw,O.bind]
theorem MoA.ok {α:Type} (x : α):MoA n (fun s=>.ok x s):=⟨fun _=>rfl,fun _=>List.prefix_rfl⟩
theorem MoA.stop {α:Type} (w:Nat) (hw : w≠5):MoA n (fun s=>(.stop w s:O α)):=⟨fun s=>by simp [MoR,hw],fun _=>List.prefix_rfl⟩
theorem MoA.stuck {α:Type} : MoA n (fun _=>(.stuck:O α)):=⟨fun _=>trivial,fun _=>trivial⟩
theorem MoA.ite {α:Type} (c:Prop) [Decidable c] {f g:St→O α} (hf:MoA n f) (hg:MoA n g):MoA n (fun s=>if c then f s else g s):=by
 by_cases h : c
 ·simpa only [if_pos h] using hf
 ·simpa only [if_neg h] using hg
theorem mo_tick:MoA n tick where
 al s:=al_tick keeps_out s
 mo s:=by
  unfold tick
  by_cases h : s.fuel=0
  ·rw [if_pos h]
   show Beg s _
   split
   ·exact List.prefix_rfl
   ·exact List.prefix_rfl
  ·rw [if_neg h,if_neg (by show s.fuel + n≠0;omega)]
   show O.ok () _=O.ok () _
   simp only [up]
   congr 2
   omega
theorem mo_item (q x:Nm) (k:Int):MoA n (fun s=>itemO (s.vs q x) k s) where
 al s:=al_item keeps_out _ _ _
 mo s:=by
  show MoR n (itemO (s.vs q x) k s) (itemO (s.vs q x) k (up n s))
  unfold itemO
  split
  ·simp [MoR]
  ·split
   ·rfl
   ·simp [MoR]
theorem mo_var (q x:Nm):MoA n (fun s=>varO (s.vs q x) s) where
 al s:=al_var keeps_out _ _
 mo s:=by
  show MoR n (varO (s.vs q x) s) (varO (s.vs q x) (up n s))
  unfold varO
  split
  ·rfl
  ·trivial
theorem mo_set (q:Nm) (fr:Fr) (x:Nm) (k v:Int):MoA n (fun s=>setO q fr x k v s) where
 al s:=al_set keeps_out _ _ _ _ _ _
 mo s:=by
  show MoR n (setO q fr x k v s) (setO q fr x k v (up n s))
  unfold setO
  split
  ·rfl
  ·show MoR n (match s.vs q x with
    | none=>.stop 3 s
    | some l=>if 0≤k∧k < l.length then O.ok (Fl.go,fr) { s with vs:=putV s.vs q x (l.set k.toNat v) } else .stop 3 s) (match s.vs q x with
    | none=>.stop 3 (up n s)
    | some l=>if 0≤k∧k < l.length then O.ok (Fl.go,fr) { (up n s) with vs:=putV s.vs q x (l.set k.toNat v) } else .stop 3 (up n s))
   cases s.vs q x with
   | none=>simp [MoR]
   | some l=>
    simp only;split
    ·rfl
    ·simp [MoR]
theorem mo_out (fr:Fr) (k:Int):MoA n (fun s=>if s.out.length=200 then O.stop 6 s else .ok (Fl.go,fr) { s with out:=s.out ++ [k] }) where
 al s:=by
  show Al _ s (if s.out.length=200 then O.stop 6 s else .ok (Fl.go,fr) { s with out:=s.out ++ [k] })
  split
  ·exact List.prefix_rfl
  ·exact List.prefix_append _ _
 mo s:=by
  show MoR n (if s.out.length=200 then O.stop 6 s else .ok (Fl.go,fr) { s with out:=s.out ++ [k] }) (if s.out.length=200 then O.stop 6 (up n s) else .ok (Fl.go,fr) { (up n s) with out:=s.out ++ [k] })
  split
  ·simp [MoR]
  ·rfl
structure MoF (n:Nat) (F:Fns):Prop where
 e : ∀ d q fr x,MoA n (F.e d q fr x)
 es : ∀ d q fr x,MoA n (F.es d q fr x)
 c : ∀ d q p a,MoA n (F.c d q p a)
 b : ∀ d q fr x,MoA n (F.b d q fr x)
 l : ∀ d q fr v t,MoA n (F.l d q fr v t)
theorem mo_step {M:Ms} {F:Fns} (h:MoF n F):MoF n ⟨stepE M F,stepEs F,stepC F,stepB F,stepL F⟩ where
 e d q fr x:=by
  show MoA n (stepE M F d q fr x)
  cases x with
  | num p k=>exact .ok _
  | var p m k=>
   show MoA n (fun s=>if m=[] then match getF fr k with
    | some v=>O.ok v s
    | none=>varO (s.vs q k) s
   else varO (s.vs m k) s)
   refine .ite _ ?_ (mo_var _ _);cases getF fr k with
   | none=>exact mo_var _ _
   | some v=>exact .ok _
  | item p m k i=>exact .ite _ (.bind (h.e _ _ _ _) fun x=>mo_item _ _ _) .stuck
  | un p op x=>exact .bind (h.e _ _ _ _) fun _=>.ok _
  | bin p op x y=>
   refine .bind (h.e _ _ _ _) fun a=>.ite _ (.ite _ (.ok _) (.bind (h.e _ _ _ _) fun _=>.ok _)) (.bind (h.e _ _ _ _) fun b=>?_)
   show MoA n (fun s=>match both op a b with
    | some k=>O.ok k s
    | none=>.stop 2 s)
   cases both op a b with
   | none=>exact .stop _ (by decide)
   | some k=>exact .ok _
  | app p m k l=>
   show MoA n (fun s=>match M (where_ q m) with
    | none=>.stuck
    | some mo=>match mo.procs.find? fun p=>p.name == k with
     | none=>.stuck
     | some p=>(F.es d q fr l s).bind fun args s=>F.c d (where_ q m) p args s)
   cases M (where_ q m) with
   | none=>exact .stuck
   | some mo=>
    show MoA n (fun s=>match mo.procs.find? fun p=>p.name == k with
     | none=>.stuck
     | some p=>(F.es d q fr l s).bind fun args s=>F.c d (where_ q m) p args s)
    cases mo.procs.find? fun p=>p.name == k with
    | none=>exact .stuck
    | some p=>exact .bind (h.es _ _ _ _) fun a=>h.c _ _ _ _
  | nil=>exact .stuck
  | cons x r=>exact .stuck
 es d q fr x:=by
  show MoA n (stepEs F d q fr x)
  cases x with
  | nil=>exact .ok _
  | cons x r=>exact .bind (h.e _ _ _ _) fun k=>.bind (h.es _ _ _ _) fun _=>.ok _
  | _=>exact .stuck
 c d q p a:=by
  exact .ite _ (.stop _ (by decide)) (.ite _ .stuck (.bind (h.b _ _ _ _) fun _=>.ok _))
 b d q fr x:=by
  refine .ite _ (.ok _) (.bind ?_ fun x=>?_)
  ·show MoA n (fun s=>stmtO F d q fr _ s)
   cases x with
   | nil=>exact .stuck
   | set p k i v r=>
    refine .bind mo_tick fun _=>.bind ?_ fun k=>.bind (h.e _ _ _ _) fun v=>mo_set _ _ _ _ _
    cases i with
    | none=>exact .ok _
    | some i=>exact h.e _ _ _ _
   | ifs p v t e r=>exact .bind mo_tick fun _=>.bind (h.e _ _ _ _) fun k=>.ite _ (h.b _ _ _ _) (h.b _ _ _ _)
   | whil p v t r=>exact .bind mo_tick fun _=>h.l _ _ _ _ _
   | ret p v r=>exact .bind mo_tick fun _=>.bind (h.e _ _ _ _) fun _=>.ok _
   | wri p v r=>exact .bind mo_tick fun _=>.bind (h.e _ _ _ _) fun k=>mo_out _ _
   | call p v r=>exact .bind mo_tick fun _=>.bind (h.e _ _ _ _) fun _=>.ok _
  ·obtain⟨x1,x2⟩:=x
   cases x1 with
   | go=>exact h.b _ _ _ _
   | ret k=>exact .ok _
 l d q fr v t:=by
  refine .bind (h.e _ _ _ _) fun k=>.ite _ (.ok _) (.bind (h.b _ _ _ _) fun x=>?_)
  obtain⟨x1,x2⟩:=x;cases x1 with
  | go=>exact .bind mo_tick fun _=>h.l _ _ _ _ _
  | ret k=>exact .ok _
theorem more (M:Ms) (n:Nat) : ∀ g,MoF n (fns M g)
 | 0=>⟨fun _ _ _ _=>.stuck,fun _ _ _ _=>.stuck,fun _ _ _ _=>.stuck,fun _ _ _ _=>.stuck,fun _ _ _ _ _=>.stuck⟩
 | g + 1=>mo_step (more M n g)
theorem loadW_le {g g':Nat} (h : g≤g') {W:Wd} {m:Mod} {fuel:Nat} {r:Wd × Nat × List Int × Out} (hr : loadW g W m fuel=some r) : loadW g' W m fuel=some r:=by
 unfold loadW at hr ⊢
 split at hr
 ·rename_i h1;rw [if_pos h1];exact hr
 ·rename_i h1
  rw [if_neg h1];cases hc : check m (seenOf W.M) with
  | fine=>
   rw [hc] at hr;simp only at hr ⊢;split at hr
   ·rename_i h2;rw [if_pos h2];exact hr
   ·rename_i h2
    rw [if_neg h2];rcases (fns_le (setM W.M m) h).b 0 m.name [] m.body ⟨fuel,[],startV W.vs m⟩ with he|he
    ·rw [he] at hr;cases hr
    ·rw [← he];exact hr
  | plain k=>rw [hc] at hr;exact hr
  | at_ e p=>rw [hc] at hr;exact hr
theorem load_rests {W:Wd} {m:Mod} {g1 g2 f n:Nat} {r1 r2:Wd × Nat × List Int × Out} (h1 : loadW g1 W m f=some r1) (h2 : loadW g2 W m (f + n)=some r2) :
  r1.2.2.2=r2.2.2.2∧(r1.2.1≠5→r1=r2)∧r1.2.2.1 <+: r2.2.2.1:=by
 have h1:=loadW_le (Nat.le_max_left g1 g2) h1;have h2:=loadW_le (Nat.le_max_right g1 g2) h2;obtain⟨g,hg⟩ : ∃ g,g=max g1 g2:=⟨_,rfl⟩
 rw [← hg] at h1 h2
 unfold loadW at h1 h2
 split at h1
 ·rename_i hs
  rw [if_pos hs] at h2;cases h1;cases h2
  exact⟨rfl,fun _=>rfl,List.prefix_rfl⟩
 ·rename_i hs
  rw [if_neg hs] at h2;cases hc : check m (seenOf W.M) with
  | plain k=>rw [hc] at h1 h2;cases h1;cases h2;exact⟨rfl,fun _=>rfl,List.prefix_rfl⟩
  | at_ e p=>rw [hc] at h1 h2;cases h1;cases h2;exact⟨rfl,fun _=>rfl,List.prefix_rfl⟩
  | fine=>
   rw [hc] at h1 h2;simp only at h1 h2;split at h1
   ·rename_i h3
    rw [if_pos h3] at h2;cases h1;cases h2
    exact⟨rfl,fun _=>rfl,List.prefix_rfl⟩
   ·rename_i h3
    rw [if_neg h3] at h2;have hm:=((more (setM W.M m) n g).b 0 m.name [] m.body).mo ⟨f,[],startV W.vs m⟩;have hu : up n ⟨f,[],startV W.vs m⟩=⟨f + n,[],startV W.vs m⟩:=rfl;rw [hu] at hm;cases ha : (fns (setM W.M m) g).b 0 m.name [] m.body ⟨f,[],startV W.vs m⟩ with
    | stuck=>rw [ha] at h1;cases h1
    | ok x s=>
     rw [ha] at hm h1;have hm : (fns (setM W.M m) g).b 0 m.name [] m.body ⟨f + n,[],startV W.vs m⟩ = .ok x (up n s):=hm;rw [hm] at h2;cases h1;cases h2
     exact⟨rfl,fun _=>rfl,List.prefix_rfl⟩
    | stop w s=>
     rw [ha] at hm h1;by_cases hw : w=5
     ·subst hw
      have hm:Beg s ((fns (setM W.M m) g).b 0 m.name [] m.body ⟨f + n,[],startV W.vs m⟩):=hm;cases hb : (fns (setM W.M m) g).b 0 m.name [] m.body ⟨f + n,[],startV W.vs m⟩ with
      | stuck=>rw [hb] at h2;cases h2
      | ok x s2=>rw [hb] at h2 hm;cases h1;cases h2;exact⟨rfl,fun h=>(h rfl).elim,hm⟩
      | stop w s2=>rw [hb] at h2 hm;cases h1;cases h2;exact⟨rfl,fun h=>(h rfl).elim,hm⟩
     ·have hm : (fns (setM W.M m) g).b 0 m.name [] m.body ⟨f + n,[],startV W.vs m⟩ = .stop w (up n s):=by simpa [MoR,hw] using hm
      rw [hm] at h2;cases h1;cases h2
      exact⟨rfl,fun _=>rfl,List.prefix_rfl⟩
theorem keeps_few:Keeps fun s s'=>s.out.length≤200→s'.out.length≤200:=⟨fun _ h=>h,fun h k l=>k (h l),fun _ _ h=>h,fun s n hn h=>by simp only [List.length_append,List.length_cons,List.length_nil];omega,fun _ _ _ _ _ _ _ h=>h⟩
theorem load_few {W:Wd} {m:Mod} {g f:Nat} {r:Wd × Nat × List Int × Out} (h : loadW g W m f=some r) : r.2.2.1.length≤200:=by
 unfold loadW at h
 split at h
 ·cases h;simp
 ·cases hc : check m (seenOf W.M) with
  | plain k=>rw [hc] at h;cases h;simp
  | at_ e p=>rw [hc] at h;cases h;simp
  | fine=>
   rw [hc] at h;simp only at h;split at h
   ·cases h;simp
   ·have ha:=(along keeps_few (setM W.M m) g).b 0 m.name [] m.body ⟨f,[],startV W.vs m⟩
    cases hb : (fns (setM W.M m) g).b 0 m.name [] m.body ⟨f,[],startV W.vs m⟩ with
    | stuck=>rw [hb] at h;cases h
    | ok x s=>rw [hb] at h ha;cases h;exact ha (by simp)
    | stop w s=>rw [hb] at h ha;cases h;exact ha (by simp)
end Go.Mq.Run
namespace Go.Proofs.YtechofppmnnomaaGreatDoor
open Go Go.RowKit Go.Mq Go.Mq.Tree Go.Mq.Sym Go.Mq.Run
open Go.Mq.Check (check Out)
set_option maxRecDepth 100000
set_option maxHeartbeats 4000000
theorem errV_kept {w w':World} {o:Out} {v:Value} {Z:List Nat} (h:ErrV w o v) (hc:Chg Z w w') (hZ : ∀ x∈Z,∃ a b t,Blk w x #[.map a,b] t):ErrV w' o v:=by
 cases o with
 | fine=>exact h
 | plain n=>exact h
 | at_ en p=>
  obtain⟨b,h1,h2⟩:=h;refine⟨b,h1,h2.kept hc fun hm=>?_⟩;obtain⟨x,y,t,hb⟩:=hZ b hm
  unfold Blk at h2 hb
  rw [hb] at h2;simp at h2
theorem wrests_any (t:List UInt8) (fu mo:Int) (ht63 : t.length≤9223372036854775807) (w:World) (B:Nat) (hL:Laid w B) (hg:ErrLaid w) :
  Calls Tryz.prog 4 #[str t,num fu,num mo] w (Holds w):=by
 by_cases h1 : 1000 < t.length
 ·go_enter Tryz.func4,Tryz.ntmps4
  go_wp2_with fail;go_ret
  exact⟨rfl,Chg.refl _ _⟩
 have HR:=zh (ran_any w B hL);have HL:=zh hL;have HGL:=zh hg;clear hL hg
 go_enter Tryz.func4,Tryz.ntmps4
 go_wp2_with fail;refine HR.out.mono ?_;rintro _ w0 ⟨rfl,hc0⟩;have HC0:=zh hc0;have hP:=parse_any t (by omega) w0 B (HL.out.kept hc0 (by simp));clear hc0;cases hx : parse t with
 | bad en q=>
  rw [hx] at hP;have HP:=zh hP;clear hP hx;go_wp2_with fail;refine HP.out.mono ?_;rintro _ w1 ⟨hc1,b,rfl,_,_⟩;have HC1:=zh hc1;clear hc1;have hz:=Blk.new w1 #[str [],nils,nils,nils,nils] 32;obtain⟨wA,hwA⟩ : ∃ w',w1.alloc (.cells #[str [],nils,nils,nils,nils] 32)=w':=⟨_,rfl⟩
  rw [hwA] at hz;have hcA:Chg [] w1 wA:=by rw [← hwA];exact(Chg.refl _ _).alloc _
  obtain⟨wF,hwF,hcF,hbF⟩:=set5 (str []) (nils) (nils) (nils) (nils) hz;have HCa:=zh (show Chg [] w1 wF from hcA.trans hcF (fun x hx=>.inr (by simp at hx;omega)));have z0:=hz.cell 0 _ rfl;have z1:=hz.cell 1 _ rfl;have z2:=hz.cell 2 _ rfl;have z3:=hz.cell 3 _ rfl;have z4:=hz.cell 4 _ rfl;have y0:=hz.frozen 0;have y1:=hz.frozen 1;have y2:=hz.frozen 2;have y3:=hz.frozen 3;have y4:=hz.frozen 4;clear hcA hcF hbF hz;go_wp2_with fail;go_ret
  exact⟨rfl,(HC0.out.then HC1.out).then HCa.out⟩
 | ok m=>
  rw [hx] at hP;have HP:=zh hP;have HGO:=zh (good_of (by omega) hx);clear hP hx;go_wp2_with fail;refine HP.out.mono ?_;rintro _ w1 ⟨hc1,v,rfl,hmod⟩;have HMD:=zh hmod;obtain⟨aia,cia,ava,cva,apa,cpa,aba,cba,rfl,hgv,hpv⟩:=mod_parts hmod;have hz:=Blk.new w1 #[str [],nils,nils,nils,nils] 32;obtain⟨wA,hwA⟩ : ∃ w',w1.alloc (.cells #[str [],nils,nils,nils,nils] 32)=w':=⟨_,rfl⟩
  rw [hwA] at hz;have hcA:Chg [] w1 wA:=by rw [← hwA];exact(Chg.refl _ _).alloc _
  obtain⟨wF,hwF,hcF,hbF⟩:=set5 (str m.name) (.slice aia m.imports.length cia) (.slice ava m.vars.length cva) (.slice apa m.procs.length cpa) (.slice aba m.body.len cba) hz;have hcG:Chg [] w1 wF:=hcA.trans hcF (fun x hx=>.inr (by simp at hx;omega));have z0:=hz.cell 0 _ rfl;have z1:=hz.cell 1 _ rfl;have z2:=hz.cell 2 _ rfl;have z3:=hz.cell 3 _ rfl;have z4:=hz.cell 4 _ rfl;have y0:=hz.frozen 0;have y1:=hz.frozen 1;have y2:=hz.frozen 2;have y3:=hz.frozen 3;have y4:=hz.frozen 4;obtain⟨b7,hb7⟩ : ∃ b,b=w1.heap.size:=⟨_,rfl⟩
  rw [← hb7] at hbF;have hs1:=hc1.size;have hsG:=hcG.size;have hs0:=HC0.out.size;have HBF:=zh hbF;have HCG:=zh hcG;have HC1:=zh (HC0.out.then (hc1.then hcG));have HSZ:=zh (show w.heap.size≤w0.heap.size∧w0.heap.size≤w1.heap.size∧b7=w1.heap.size∧w1.heap.size < wF.heap.size by
   have:=hbF.lt;exact⟨hs0,hs1,hb7,by omega⟩)
  have HML:=zh (show ModAt wF (New w0 w1) m (.agg #[str m.name,.slice aia m.imports.length cia,.slice ava m.vars.length cva,.slice apa m.procs.length cpa,.slice aba m.body.len cba]) from(HMD.out.kept hcG (by simp)).mono (fun x hx=>hx));clear hc1 hz hcA hcF hbF hcG hs1 hsG hs0 hmod hgv hpv;go_wp2_with fail;rw [← hb7];clear hb7 hwA hwF z0 z1 z2 z3 z4 y0 y1 y2 y3 y4;refine(pick_of fu 200 (by omega) wF).mono ?_;rintro _ wF' ⟨f1,hf1,rfl,rfl⟩;go_wp2_with fail;refine(pick_of mo 300 (by omega) wF').mono ?_;rintro _ wF ⟨f2,hf2,rfl,rfl⟩;obtain⟨g1,r1,hl1,hi1⟩:=load_total Inv.zero HGO.out f1;obtain⟨g2,r2,hl2,hi2⟩:=load_total Inv.zero HGO.out (f1 + f2);have hgl:=HSZ.out;obtain⟨wV,hwV⟩ : ∃ x,wF.alloc (.cells #[.map none,nils] 40)=x:=⟨_,rfl⟩
  have hbV:Blk wV wF.heap.size #[.map none,nils] 40:=by rw [← hwV];exact Blk.new wF _ _
  have hcV:Chg [] wF wV:=by rw [← hwV];exact(Chg.refl _ _).alloc _
  have hsV : wV.heap.size=wF.heap.size + 1:=by rw [← hwV];simp
  obtain⟨wW,hwW⟩ : ∃ x,wV.alloc (.cells #[.map none,nils] 40)=x:=⟨_,rfl⟩
  have hbW:Blk wW wV.heap.size #[.map none,nils] 40:=by rw [← hwW];exact Blk.new wV _ _
  have hcW:Chg [] wV wW:=by rw [← hwW];exact(Chg.refl _ _).alloc _
  have hsW : wW.heap.size=wV.heap.size + 1:=by rw [← hwW];simp
  obtain⟨bv,hbv⟩ : ∃ b,b=wF.heap.size:=⟨_,rfl⟩
  obtain⟨bw,hbw⟩ : ∃ b,b=wV.heap.size:=⟨_,rfl⟩
  rw [← hbv] at hbV;rw [← hbw] at hbW;have hcFW:=hcV.then hcW
  have hx:=HBF.out.kept hcFW (by simp);have x0:=hx.cell 0 _ rfl;have x1:=hx.cell 1 _ rfl;have x2:=hx.cell 2 _ rfl;have x3:=hx.cell 3 _ rfl;have x4:=hx.cell 4 _ rfl;have HSQ:=zh (show b7 < bv∧bw=bv + 1∧wW.heap.size=bw + 1∧w1.heap.size < bv∧w.heap.size≤w0.heap.size∧w0.heap.size≤w1.heap.size by omega);have HLD:=zh (load_any g1 (WAt.new (hbV.kept hcW (by simp))) (HML.out.kept hcFW (by simp)) (fun x hx=>⟨by have:=hx.2;have:=HSQ.out;omega,fun e=>by have:=hx.2;have:=HSQ.out;omega⟩) HGO.out (by omega : f1≤9223372036854775807) hl1);have HBW:=zh hbW;have HBF2:=zh hx;have HML2:=zh (HML.out.kept hcFW (by simp));have HCW:=zh (HC1.out.then hcFW);have HL1:=zh hl1;have HL2:=zh hl2;have HI1:=zh hi1;have HI2:=zh hi2;clear hgl hbV hcV hsV hbW hcW hsW hcFW hx hl1 hl2 hi1 hi2;go_wp2_with fail;rw [← hbv,← hbw];clear hwV hwW hbv hbw x0 x1 x2 x3 x4;obtain⟨W1,y1,o1,r1o⟩:=r1;obtain⟨W2,y2,o2,r2o⟩:=r2;refine HLD.out.mono ?_;rintro _ w2 ⟨ve,vo,rfl,hev,hvo,hwat,hch⟩;simp only at hev hvo hwat;obtain⟨ov,rfl,hov,hof⟩:=hev;obtain⟨ea,ec,rfl,_,hrow⟩:=Row.of_owns (F:=fun x=>wW.heap.size≤x) hov (fun g hg=>hof g hg);obtain⟨Z,hz,hZ⟩:=hch;have hc2:Chg [bv] wW w2:=hz.mono (fun x hx=>.inl (by have:=hZ x hx;simp [this]));obtain⟨wI,hwI⟩ : ∃ x,w2.alloc (.cells #[num 0,nils] 43)=x:=⟨_,rfl⟩
  have hbI:Blk wI w2.heap.size #[num 0,nils] 43:=by rw [← hwI];exact Blk.new w2 _ _
  have hcI:Chg [] w2 wI:=by rw [← hwI];exact(Chg.refl _ _).alloc _
  have i0:=hbI.cell 0 _ rfl;have i1:=hbI.cell 1 _ rfl;have j0:=hbI.frozen 0;have j1:=hbI.frozen 1;obtain⟨wJ,hwJ,hbJ,hcJ⟩:=setE y1 (.slice ea o1.length ec) hbI;have hc2J:Chg [] w2 wJ:=hcI.trans hcJ (fun x hx=>.inr (by simp at hx;omega));have hcWJ:Chg [bv] wW wJ:=hc2.trans hc2J (fun x hx=>by cases hx);have hs2:=hc2.size;have hsJ:=hc2J.size;have hx:=HBF2.out.kept hcWJ (by have:=HSQ.out;simp;omega);have x0:=hx.cell 0 _ rfl;have x1:=hx.cell 1 _ rfl;have x2:=hx.cell 2 _ rfl;have x3:=hx.cell 3 _ rfl;have x4:=hx.cell 4 _ rfl;have hff : ((f1 + f2:Nat):Int)=(f1:Int) + (f2:Int):=by omega
  have hld2:=load_any g2 (WAt.new (HBW.out.kept hcWJ (by have:=HSQ.out;simp;omega))) (HML2.out.kept hcWJ (fun x hx hg=>by have:=hg.2;have:=HSQ.out;simp at hx;omega)) (fun x hx=>⟨by have:=hx.2;have:=HSQ.out;omega,fun e=>by have:=hx.2;have:=HSQ.out;omega⟩) HGO.out (by omega : f1 + f2≤9223372036854775807) HL2.out;simp only [hff] at hld2;have HLD2:=zh hld2;have HBJ:=zh hbJ;have HWAT:=zh hwat;have HROW:=zh hrow;have HVO:=zh hvo;have HC2J:=zh hc2J;have HCWJ:=zh hcWJ;have HBWJ:=zh (HBW.out.kept hcWJ (by have:=HSQ.out;simp;omega));have HSR:=zh (show wW.heap.size≤w2.heap.size∧w2.heap.size < wJ.heap.size by have:=hbJ.lt;omega);clear hld2 hff hvo hwat hov hof hrow hz hZ hc2 hbI hcI hbJ hcJ hc2J hcWJ hs2 hsJ hx;go_wp2_with fail;clear hwI hwJ i0 i1 j0 j1 x0 x1 x2 x3 x4;refine HLD2.out.mono ?_;rintro _ w3 ⟨ve,vo2,rfl,hev,hvo2,hwat2,hch⟩;simp only at hev hvo2 hwat2;obtain⟨ov,rfl,hov,hof⟩:=hev;obtain⟨ea2,ec2,rfl,hec2,hrow2⟩:=Row.of_owns (F:=fun x=>wJ.heap.size≤x) hov (fun g hg=>hof g hg);obtain⟨Z,hz,hZ⟩:=hch;have hc3:Chg [bw] wJ w3:=hz.mono (fun x hx=>.inl (by have:=hZ x hx;simp [this]));obtain⟨wK,hwK⟩ : ∃ x,w3.alloc (.cells #[num 0,nils] 43)=x:=⟨_,rfl⟩
  have hbK:Blk wK w3.heap.size #[num 0,nils] 43:=by rw [← hwK];exact Blk.new w3 _ _
  have hcK:Chg [] w3 wK:=by rw [← hwK];exact(Chg.refl _ _).alloc _
  have i0:=hbK.cell 0 _ rfl;have i1:=hbK.cell 1 _ rfl;have j0:=hbK.frozen 0;have j1:=hbK.frozen 1;obtain⟨wM,hwM,hbM,hcM⟩:=setE y2 (.slice ea2 o2.length ec2) hbK;have hc3M:Chg [] w3 wM:=hcK.trans hcM (fun x hx=>.inr (by simp at hx;omega));have hcJM:Chg [bw] wJ wM:=hc3.trans hc3M (fun x hx=>by cases hx);have hs3:=hc3.size;have hsM:=hc3M.size;have hcWM:Chg [bv,bw] wW wM:=(HCWJ.out.mono (fun x hx=>.inl (by simp at hx;simp [hx]))).trans hcJM (fun x hx=>.inl (by simp at hx;simp [hx]));have HCM:=zh (show Chg [] w wM from HCW.out.trans hcWM (fun x hx=>.inr (by have:=HSQ.out;simp at hx;omega)));have HE1:=zh (errV_kept (errV_kept HVO.out HC2J.out (fun x hx=>by cases hx)) hcJM (fun x hx=>by simp only [List.mem_singleton] at hx;subst hx;exact⟨_,_,_,HBWJ.out⟩));have HE2:=zh (errV_kept hvo2 hc3M (fun x hx=>by cases hx));have HBE1:=zh (HBJ.out.kept hcJM (by have:=HSQ.out;have:=HSR.out;simp;omega));have HBE2:=zh hbM;have HRW1:=zh ((HROW.out.kept HC2J.out (by simp)).kept hcJM (fun x hx=>by have:=HSQ.out;simp at hx;omega));have HRW2:=zh (hrow2.kept hc3M (by simp));have HEC2:=zh hec2;have HWA1:=zh ((HWAT.out.kept HC2J.out (by simp)).kept hcJM (fun x hx=>by
   simp only [List.mem_singleton] at hx;subst hx;have:=HSQ.out;refine⟨fun h=>?_,fun h=>?_⟩
   ·rcases h with h|h <;> omega
   ·rcases h with h|h
    ·exact h
    ·have:=h.2;omega))
  have HWA2:=zh (hwat2.kept hc3M (by simp));have HGM:=zh (HGL.out.kept HCM.out (by simp));have HLAW:=zh (load_rests HL1.out HL2.out);have HF1:=zh (load_few HL1.out);have HF2:=zh (load_few HL2.out);have hro : r1o=r2o:=HLAW.out.1;subst hro;obtain⟨cd,hcd⟩ : ∃ c,c=codeO r1o:=⟨_,rfl⟩
  have HT1:=zh (tell_out HGM.out HE1.out);have HT2:=zh (fun w' (hc:Chg [] wM w')=>tell_out (HGM.out.kept hc (by simp)) (errV_kept HE2.out hc (fun x hx=>by cases hx)));rw [← hcd] at HT1;simp only [← hcd] at HT2;clear hcd hvo2 hwat2 hov hof hec2 hrow2 hz hZ hc3 hbK hcK hbM hcM hc3M hcJM hs3 hsM hcWM;go_wp2_with fail;clear hwK hwM i0 i1 j0 j1;refine HT1.out.mono ?_;rintro _ w4 ⟨rfl,hc4⟩;have HC4:=zh hc4;clear hc4;go_wp2_with fail;refine(HT2.out w4 HC4.out).mono ?_;rintro _ w5 ⟨rfl,hc5⟩;have HC5:=zh (HC4.out.then hc5);clear hc5;have hbe1:=HBE1.out.kept HC5.out (by simp);have hbe2:=HBE2.out.kept HC5.out (by simp);have k0:=hbe1.cell 0 _ rfl;have k1:=hbe1.cell 1 _ rfl;have l0:=hbe2.cell 0 _ rfl;have l1:=hbe2.cell 1 _ rfl;clear hbe1 hbe2;cases hq : ((y1:Int) == 5) with
  | false=>
   have hy : y1≠5:=fun e=>by subst e;simp at hq
   have heq:=HLAW.out.2.1 hy;simp only [Prod.mk.injEq] at heq;obtain⟨rfl,rfl,rfl,_⟩:=heq;have HEN:=zh (ends_any (w:=w5) (y1:=y1) (y2:=y1) (c1:=ec) (c2:=ec2) (by have:=HF1.out;omega) (by have:=HF1.out;omega) ((HRW1.out.kept HC5.out (by simp)).mono (fun _ _=>trivial)) ((HRW2.out.kept HC5.out (by simp)).mono (fun _ _=>trivial)) rfl rfl);have HA1:=zh (fun w' (hc:Chg [] w5 w')=>wall_any (HWA1.out.kept (HC5.out.then hc) (by simp)) HI1.out);have HA2:=zh (fun w' (hc:Chg [] w5 w')=>wall_any (HWA2.out.kept (HC5.out.then hc) (by simp)) HI1.out);obtain⟨sb,hsb⟩ : ∃ x,x=bs (allT W1):=⟨_,rfl⟩
   simp only [str,← hsb] at HA1 HA2;have hyd : (decide (y1=y1) && decide (o1=o1))=true:=by simp
   rw [hyd] at HEN;clear hsb hyd hy;go_wp2_with fail;refine HEN.out.mono ?_;rintro _ w6 ⟨rfl,hc6⟩;have HC6:=zh hc6;clear hc6;go_wp2_with fail;refine(HA1.out w6 HC6.out).mono ?_;rintro _ w7 ⟨rfl,hc7⟩;have HC7:=zh (HC6.out.then hc7);clear hc7;go_wp2_with fail;refine(HA2.out w7 HC7.out).mono ?_;rintro _ w8 ⟨rfl,hc8⟩;have HC8:=zh (HC7.out.then hc8);clear hc8;go_wp2_with fail;go_ret
   exact⟨rfl,HCM.out.then (HC5.out.then HC8.out)⟩
  | true=>
   have hlen:=HLAW.out.2.2.length_le;have hcap : o1.length≤ec2:=by have:=HEC2.out;omega
   have hle : decide (o1.length≤o2.length)=true:=by simp only [hlen,decide_true]
   obtain⟨wE,hwE⟩ : ∃ x,x=w5.drew:=⟨_,rfl⟩
   have hcE:Chg [] w5 wE:=by rw [hwE];exact(Chg.refl [] w5).drew
   have HCE:=zh (HC5.out.then hcE);have m1:=hcE.cellSome k1 (by simp);have n1:=hcE.cellSome l1 (by simp);have Z1:=zh (Zone.of (X:=[]) (w0:=wE) m1 (by simp));have Z2:=zh (Zone.of (X:=[]) (w0:=wE) n1 (by simp));have HEQ:=zh (show ∀ w',Chg [] wE w'→Calls Tryz.prog 18 #[.slice ea o1.length ec,.slice ea2 o1.length ec2] w' (fun e w''=>e = .returned (.bool true)∧Chg [] w' w'') from fun w' hc=>by
    have hr1:=((HRW1.out.kept HCE.out (by simp)).kept hc (by simp)).mono (G:=fun _=>True) (fun _ _=>trivial);have hr2:=(HRW2.out.kept HCE.out (by simp)).kept hc (by simp);obtain⟨rest,hrest⟩:=HLAW.out.2.2;have hr3:Row w' (fun x=>wJ.heap.size≤x) ea2 (ints o1):=by
     rw [← hrest,ints,List.map_append] at hr2;exact⟨fun hne=>by
      obtain⟨b,off,he,hc⟩:=hr2.at_ (by rw [List.length_append];exact Nat.lt_of_lt_of_le hne (Nat.le_add_right _ _));exact⟨b,off,he,fun i x hx=>hc i x (by rw [List.getElem?_append_left (List.getElem?_eq_some_iff.1 hx).1];exact hx)⟩,fun hne=>hr2.own (by rw [List.length_append];exact Nat.lt_of_lt_of_le hne (Nat.le_add_right _ _))⟩
    have:=equal_any o1 o1 (by have:=HF1.out;omega) (by have:=HF1.out;omega) ea ea2 ec ec2 _ _ w' hr1 hr3
    simpa using this)
   go_wp2_with fail;refine wp_region_L [] rfl (by decide +kernel) ?_;rw [← hwE];clear hwE hcE;have hS:Chg [] wE wE:=Chg.refl _ _
   repeat ((with_reducible show wpX _ _ _ _ _ _ _ _);(first|refine wpX_nil ?_|refine wpX_skip rfl ?_|refine wpX_mv rfl rfl (by kernel_rfl) (fun _ _=>?_)|refine wpX_ldC rfl rfl rfl (by first|exact Z1.out|exact Z2.out) (by assumption) (fun _ _=>?_)|refine wpX_ef' rfl rfl rfl (fun _ _=>?_));go_wp2_with fail)
   refine(HEQ.out wE (Chg.refl _ _)).mono ?_;rintro _ w6 ⟨rfl,hc6⟩;have HC6:=zh hc6;clear hS;go_wp2_with fail;refine And.intro HC6.out ?_;have hS:=HC6.out
   repeat ((with_reducible show wpX _ _ _ _ _ _ _ _);(first|refine wpX_nil ?_|refine wpX_skip rfl ?_|refine wpX_mv rfl rfl (by kernel_rfl) (fun _ _=>?_)|refine wpX_ldC rfl rfl rfl (by assumption) (by assumption) (fun _ _=>?_)|refine wpX_ef' rfl rfl rfl (fun _ _=>?_));go_wp2_with fail)
   go_wp2_with fail;go_ret
   exact⟨rfl,HCM.out.then (HCE.out.then HC6.out)⟩
end Go.Proofs.YtechofppmnnomaaGreatDoor
