/- Some texts in one. -/
import Derived.Defers
import Derived.Recover
import Derived.Laws.OwnMore
import Derived.Test.YtechofppmnnomaaGreatDoorG13
import Derived.Test.YtechofppmnnomaaGreatDoorG18
import Derived.Test.YtechofppmnnomaaGreatDoorG22
import Derived.Test.YtechofppmnnomaaGreatDoorG24
namespace Go.Mq.Run
open Go Go.RowKit Go.Mq Go.Mq.Tree
theorem body_step {M:Ms} {g d:Nat} {q:Nm} {fr:Fr} {r:S} {s:St} {o:O (Fl × Fr)} (h : o=(fns M g).b d q fr r s) (ho : o ≠ .stuck) :
  ∃ g',g=g' + 1∧(r.len=0→o = .ok (.go,fr) s)∧(r.len≠0→o=andThen (fns M g') d q (rest r) (stmtO (fns M g') d q fr r s)):=by
 cases g with
 | zero=>exact absurd h ho
 | succ g'=>
  refine⟨g',rfl,fun h0=>?_,fun h0=>?_⟩
  ·rw [h];show (if r.len=0 then _ else _)=_;rw [if_pos h0]
  ·rw [h];show (if r.len=0 then _ else _)=_;rw [if_neg h0]
end Go.Mq.Run
namespace Go.Proofs.YtechofppmnnomaaGreatDoor
open Go Go.RowKit Go.Mq Go.Mq.Tree Go.Mq.Run
open Go.Mq.Check (FewM FewS FewE argsN set7C cells7C)
set_option maxRecDepth 100000
set_option maxHeartbeats 4000000
theorem rstmt_view (g:Nat) (hE : ∀ g',g'≤g→ConE g') (hB : ∀ g',g'≤g→ConB g') {L:Lay} {d:Nat} {q:Nm} {fr:Fr} {s:St} {w:World} {ov:Value} {ob:Option Nat} {m:Mod} (r:S) (cs:List Value) (hs:SAt w L.Fix r cs) (hf:FewS r) (h0 : r.len≠0) (h:Going w L d s ov) (hq:L.M q=some m) (hfr:FrAt w ob fr) (hfx : ∀ b,ob=some b→¬ L.Fix b) (hne : stmtO (fns L.M g) d q fr r s ≠ .stuck) :
  ∃ (code p n1 k1 n2 k2:Nat) (nm:List UInt8) (oi ox:Option Addr) (a1 a2:Option Addr) (cs':List Value),cs = .int .i64 code :: .int .i64 p :: str nm :: .pointer oi :: .pointer ox :: .slice a1 n1 k1 :: .slice a2 n2 k2 :: cs'∧SAt w L.Fix (rest r) cs'∧FewS (rest r)∧r.len=(rest r).len + 1 ∧
  ∀ w',Chg [] w w'→Calls Tryz.prog 82 #[ptr L.br,ptr (L.pb q),.map ob,.agg #[.int .i64 code,.int .i64 p,str nm,.pointer oi,.pointer ox,.slice a1 n1 k1,.slice a2 n2 k2]] w' (Ran w' L d ov ob.toList (FlowV ob) (stmtO (fns L.M g) d q fr r s)):=by
 cases r with
 | nil=>exact absurd rfl h0
 | set p n i v r=>
  obtain⟨ui,uv,cs',rfl,hi,hv,hr⟩:=hs;obtain⟨oi,rfl⟩:=hi.ptr;obtain⟨bv,rfl⟩:=hv.ptr;exact⟨1,p,0,0,0,0,n,oi,_,none,none,cs',rfl,hr,hf.2.2,rfl,fun w' hc=>s_set g (hE g (Nat.le_refl _)) _ (h.kept hc) hq (hfr.kept hc (by simp)) hfx (hi.kept hc (by simp)) hf.1 (hv.kept hc (by simp)) hf.2.1 rfl hne⟩
 | ifs p v t e r=>
  obtain⟨uv,a1,c1,ts,a2,c2,es,cs',rfl,hv,hc1,hr1,ht,hc2,hr2,he,hr⟩:=hs;obtain⟨bv,rfl⟩:=hv.ptr;exact⟨2,p,_,_,_,_,[],none,_,a1,a2,cs',rfl,hr,hf.2.2.2.2.2,rfl,fun w' hc=>s_ifs g (hE g (Nat.le_refl _)) (hB g (Nat.le_refl _)) _ (h.kept hc) hq (hfr.kept hc (by simp)) hfx (hv.kept hc (by simp)) hf.1 ⟨a1,c1,ts,rfl,hc1,hr1.kept hc (by simp),ht.kept hc (by simp)⟩ ⟨a2,c2,es,rfl,hc2,hr2.kept hc (by simp),he.kept hc (by simp)⟩ ⟨hf.2.1,hf.2.2.1⟩ ⟨hf.2.2.2.1,hf.2.2.2.2.1⟩ rfl hne⟩
 | whil p v t r=>
  obtain⟨uv,a1,c1,ts,cs',rfl,hv,hc1,hr1,ht,hr⟩:=hs;obtain⟨bv,rfl⟩:=hv.ptr;exact⟨3,p,_,_,0,0,[],none,_,a1,none,cs',rfl,hr,hf.2.2.2,rfl,fun w' hc=>s_whil g hE hB _ (h.kept hc) hq (hfr.kept hc (by simp)) hfx (hv.kept hc (by simp)) hf.1 ⟨a1,c1,ts,rfl,hc1,hr1.kept hc (by simp),ht.kept hc (by simp)⟩ ⟨hf.2.1,hf.2.2.1⟩ rfl hne⟩
 | ret p v r=>
  obtain⟨uv,cs',rfl,hv,hr⟩:=hs;obtain⟨bv,rfl⟩:=hv.ptr;exact⟨4,p,0,0,0,0,[],none,_,none,none,cs',rfl,hr,hf.2,rfl,fun w' hc=>s_ret g (hE g (Nat.le_refl _)) _ (h.kept hc) hq (hfr.kept hc (by simp)) hfx (hv.kept hc (by simp)) hf.1 rfl hne⟩
 | wri p v r=>
  obtain⟨uv,cs',rfl,hv,hr⟩:=hs;obtain⟨bv,rfl⟩:=hv.ptr;exact⟨5,p,0,0,0,0,[],none,_,none,none,cs',rfl,hr,hf.2,rfl,fun w' hc=>s_wri g (hE g (Nat.le_refl _)) _ (h.kept hc) hq (hfr.kept hc (by simp)) hfx (hv.kept hc (by simp)) hf.1 rfl hne⟩
 | call p v r=>
  obtain⟨uv,cs',rfl,hv,hr⟩:=hs;obtain⟨bv,rfl⟩:=hv.ptr;exact⟨6,p,0,0,0,0,[],none,_,none,none,cs',rfl,hr,hf.2,rfl,fun w' hc=>s_call g (hE g (Nat.le_refl _)) _ (h.kept hc) hq (hfr.kept hc (by simp)) hfx (hv.kept hc (by simp)) hf.1 rfl hne⟩
theorem conB_zero:ConB 0:=fun _ _ _ _ _ _ _ ho=>absurd rfl ho
theorem conB_succ (g:Nat) (hE : ∀ g',g'≤g→ConE g') (hB : ∀ g',g'≤g→ConB g'):ConB (g + 1):=by
 intro L d q fr x s w ov ob v m h hq hfr hfx hsl hfs hlen hne0;obtain⟨a,k0,cs,rfl,hk0,hrow,hs⟩:=hsl;obtain⟨tgt,ht⟩ : ∃ o,o=(fns L.M (g + 1)).b d q fr x s:=⟨_,rfl⟩
 rw [← ht] at hne0 ⊢;have HNE:=zh hne0;have H:=zh h;have HFR:=zh hfr;have HFX:=zh hfx;have HROW:=zh hrow;have HS:=zh hs;have HFS:=zh hfs;have HT0:=zh ht;have HQ:=zh hq;have HLEN:=zh hlen;have hnotx : ∀ x∈ob.toList ++ mutL L ov,¬ L.Fix x:=fun x hx hf=>by
  rcases List.mem_append.1 hx with hx|hx
  ·cases ob with
   | none=>cases hx
   | some bf=>simp at hx;subst hx;exact hfx _ rfl hf
  ·exact h.notfix x hx hf
 have HNX:=zh hnotx;clear h hfr hfx hrow hs hfs ht hne0 hq hnotx
 go_enter Tryz.func43,Tryz.ntmps43
 go_wp2_with fail
 go_loopw [9,12] (fun _ i wr=>∃ (k:Nat) (r:S) (cs1 cs2:List Value) (g':Nat) (fr':Fr) (s':St) (ov':Value),i = .int .i64 k∧k + r.len=x.len∧cs=cs1 ++ cs2∧cs1.length=k * 7∧SAt wr L.Fix r cs2∧FewS r∧g'≤g + 1∧tgt=(fns L.M g').b d q fr' r s'∧Going wr L d s' ov'∧FrAt wr ob fr'∧Moved w ov ov'∧Chg (ob.toList ++ mutL L ov) w wr) (fun _ i _=>x.len - (intOf i).toNat)
 case atStart=>exact⟨0,x,[],cs,g + 1,fr,s,ov,rfl,by simp,rfl,rfl,HS.out,HFS.out,Nat.le_refl _,HT0.out,H.out,HFR.out,Moved.refl _ _,Chg.refl _ _⟩
 case round=>
  obtain⟨k,r,cs1,cs2,g',fr',s',ov',rfl,hk,hcse,hl1,hat,hfs,hgg,htt,hg,hfr,hm,hc⟩:=hrel;have hlen:=HLEN.out;obtain⟨g2,rfl,hz0,hz1⟩:=body_step htt HNE.out;by_cases hr0 : r.len=0
  ·have hke : ¬ k < x.len:=by omega
   have HT:=zh (hz0 hr0);have HG:=zh hg;have HFR2:=zh hfr;have HM:=zh hm;have HC:=zh hc;clear hk hcse hl1 hat hfs hgg htt hg hfr hm hc hz0 hz1 hr0;go_wp2_with fail;refine bodyPost_end (results_none rfl _ _ _) rfl ?_;rw [HT.out];exact⟨ov',HM.out,HC.out,⟨HFR2.out,rfl⟩,HG.out⟩
  ·have hlt : k < x.len:=by omega
   have ht2:=hz1 hr0;have hnes : stmtO (fns L.M g2) d q fr' r s' ≠ .stuck:=fun hs=>HNE.out (by rw [ht2,hs];rfl)
   obtain⟨code,p,n1,k1,n2,k2,nm,oi,ox,a1,a2,cs',hcs2,hrs,hfs2,hle,hcall⟩:=rstmt_view g2 (fun g' h=>hE g' (by omega)) (fun g' h=>hB g' (by omega)) r cs2 hat hfs hr0 hg HQ.out hfr HFX.out hnes;have hrw:=HROW.out.kept hc HNX.out;rw [hcse,hcs2] at hrw;obtain⟨bb,off,rfl,d0,d1,d2,d3,d4,d5,d6⟩:=cells7C hrw hl1;have hz:=Blk.new wr #[.int .i64 0,.int .i64 0,str [],nilp,nilp,nils,nils] 168;obtain⟨wA,hwA⟩ : ∃ wA,wr.alloc (.cells #[.int .i64 0,.int .i64 0,str [],nilp,nilp,nils,nils] 168)=wA:=⟨_,rfl⟩
   rw [hwA] at hz;have hcA:Chg [] wr wA:=by rw [← hwA];exact(Chg.refl _ _).alloc _
   obtain⟨wF,hwF,hcF,hbF⟩:=set7C (.int .i64 code) (.int .i64 p) (str nm) (.pointer oi) (.pointer ox) (.slice a1 n1 k1) (.slice a2 n2 k2) hz;have hcw:Chg [] wr wF:=hcA.trans hcF (fun x hx=>.inr (by simp at hx;omega));have g0:=hcA.cellSome d0 (by simp);have g1:=hcA.cellSome d1 (by simp);have g2':=hcA.cellSome d2 (by simp);have g3:=hcA.cellSome d3 (by simp);have g4:=hcA.cellSome d4 (by simp);have g5:=hcA.cellSome d5 (by simp);have g6:=hcA.cellSome d6 (by simp);have z0:=hz.cell 0 _ rfl;have z1:=hz.cell 1 _ rfl;have z2:=hz.cell 2 _ rfl;have z3:=hz.cell 3 _ rfl;have z4:=hz.cell 4 _ rfl;have z5:=hz.cell 5 _ rfl;have z6:=hz.cell 6 _ rfl;have y0:=hz.frozen 0;have y1:=hz.frozen 1;have y2:=hz.frozen 2;have y3:=hz.frozen 3;have y4:=hz.frozen 4;have y5:=hz.frozen 5;have y6:=hz.frozen 6;have e0:=hbF.cell 0 _ rfl;have e1:=hbF.cell 1 _ rfl;have e2:=hbF.cell 2 _ rfl;have e3:=hbF.cell 3 _ rfl;have e4:=hbF.cell 4 _ rfl;have e5:=hbF.cell 5 _ rfl;have e6:=hbF.cell 6 _ rfl;have HCW:=zh hcw;have HC:=zh hc;have HM:=zh hm;have HG:=zh hg;have HCALL:=zh (hcall wF hcw);have HNXT:=zh (show cs=(cs1 ++ [.int .i64 code,.int .i64 p,str nm,.pointer oi,.pointer ox,.slice a1 n1 k1,.slice a2 n2 k2]) ++ cs' by rw [hcse,hcs2];simp);have HR:=zh hrs;have HF2:=zh hfs2;have HL1:=zh hl1;have HT2:=zh ht2;have hkr : k + ((rest r).len + 1)=x.len:=by omega
   clear hk hcse hl1 hat hfs htt hg hfr hm hc hz0 hz1 hr0 ht2 hcs2 hrs hfs2 hle hcall hrw hcA hcF hbF hcw hz;cases hso : stmtO (fns L.M g2) d q fr' r s' with
   | stuck=>exact absurd hso hnes
   | stop way s3=>
    rw [hso] at HCALL;have HT:=zh (show tgt = .stop way s3 by rw [HT2.out,hso];rfl);clear hso hnes;go_wp2_with fail;refine HCALL.out.mono ?_;rintro e w4 ⟨ov4,hm4,hc4,⟨older,hol,rfl⟩,d',hg4⟩;obtain⟨hm5,hc5⟩:=acc_step HM.out HC.out (moved_from hm4 HCW.out) (HCW.out.weak.then hc4);have HM5:=zh hm5;have HC5:=zh hc5;have HG4:=zh hg4;clear hm4 hc4 hg4 hm5 hc5;go_wp2_with fail;refine⟨rfl,?_⟩;rw [HT.out];exact⟨ov4,HM5.out,HC5.out,⟨older,hol,rfl⟩,d',HG4.out⟩
   | ok y s3=>
    obtain⟨fl,fr3⟩:=y;rw [hso] at HCALL;cases fl with
    | ret n9=>
     have HT:=zh (show tgt = .ok (.ret n9,fr3) s3 by rw [HT2.out,hso];rfl);clear hso hnes;go_wp2_with fail;refine HCALL.out.mono ?_;rintro e w4 ⟨ov4,hm4,hc4,⟨hfr4,hfl⟩,hg4⟩;simp only at hfl;subst hfl;obtain⟨hm5,hc5⟩:=acc_step HM.out HC.out (moved_from hm4 HCW.out) (HCW.out.weak.then hc4);have HM5:=zh hm5;have HC5:=zh hc5;have HG4:=zh hg4;have HFR4:=zh hfr4;clear hm4 hc4 hg4 hm5 hc5 hfr4;go_wp2_with fail;refine⟨rfl,?_⟩;rw [HT.out];exact⟨ov4,HM5.out,HC5.out,⟨HFR4.out,rfl⟩,HG4.out⟩
    | go=>
     have HT:=zh (show tgt=(fns L.M g2).b d q fr3 (rest r) s3 by rw [HT2.out,hso];rfl);clear hso hnes;go_wp2_with fail;refine HCALL.out.mono ?_;rintro e w4 ⟨ov4,hm4,hc4,⟨hfr4,hfl⟩,hg4⟩;simp only at hfl;subst hfl;obtain⟨hm5,hc5⟩:=acc_step HM.out HC.out (moved_from hm4 HCW.out) (HCW.out.weak.then hc4);have hnotz : ∀ x∈ob.toList ++ mutL L ov',¬ L.Fix x:=fun x hx hf=>by
      rcases List.mem_append.1 hx with hx|hx
      ·exact HNX.out x (List.mem_append_left _ hx) hf
      ·exact HG.out.notfix x hx hf
     have HR4:=zh ((HR.out.kept HCW.out (by simp)).kept hc4 hnotz);have HM5:=zh hm5;have HC5:=zh hc5;have HG4:=zh hg4;have HFR4:=zh hfr4;clear hm4 hc4 hg4 hm5 hc5 hfr4 hnotz;go_wp2_with fail;exact⟨⟨k + 1,rest r,_,cs',g2,fr3,s3,ov4,by go_num,by omega,HNXT.out,by have:=HL1.out;simp;omega,HR4.out,HF2.out,by omega,HT.out,HG4.out,HFR4.out,HM5.out,HC5.out⟩,by simp [intOf];omega⟩
end Go.Proofs.YtechofppmnnomaaGreatDoor
namespace Go.Mq.Run
open Go Go.RowKit Go.Mq Go.Mq.Tree
abbrev retV (n:Int):Value:=.iface 106 (.agg #[num n])
abbrev endV (way:Nat):Value:=.iface 162 (.agg #[num way])
end Go.Mq.Run
namespace Go.Proofs.YtechofppmnnomaaGreatDoor
open Go Go.RowKit Go.Mq Go.Mq.Tree Go.Mq.Run
set_option maxRecDepth 100000
set_option maxHeartbeats 2000000
theorem dcatch_idle (b8 b4 br d:Nat) (c0 c1 c3:Value) (w:World) (h4 : w.cell? ⟨b4,0,none⟩=some (ptr br)) (hr:Blk w br #[c0,c1,num (d + 1:Nat),c3] 160) (hd : d≤30):CallsD Tryz.prog 103 #[ptr b8,ptr b4] .returning w fun e u' w'=>
   e = .returned (.tuple #[])∧u' = .returning∧Chg [br] w w'∧Blk w' br #[c0,c1,num d,c3] 160:=by
 refine callsD_of_wpS Tryz.func103 rfl fun c₀ cs hu=>?_
 simp only [Tryz.ntmps103,List.size_toArray,List.length_cons,List.length_nil,Nat.reduceAdd,Nat.reduceSub,Array.replicate_succ,Array.replicate_zero,List.push_toArray,List.append_toArray,List.nil_append,List.cons_append];have r2:=hr.cell 2 _ rfl;have y2:=hr.frozen 2;have HR:=zh hr;clear hr
 apply wpS_seq
 apply wpS_seq
 apply wpS_region
 simp [wpOpsS,go_sem,recoverD,hu,Exit.thenS]
 refine wpS_of_wp ?_;go_wp2_with fail;refine wpS_of_wp ?_;go_wp2_with fail;have hset:=HR.out.set 2 (num d);have hch:Chg [br] w (w.setCell ⟨br,2,none⟩ (num d)):=Chg.set1 _ _ _ _;refine⟨rfl,.returning,by cases c₀;simp_all,.tuple #[],results_none rfl _ _ _,rfl,rfl,?_⟩;exact⟨hch,by simpa using hset⟩
theorem dcatch_ret (b8 b4 br d:Nat) (n z:Int) (c0 c1 c3:Value) (w:World) (h4 : w.cell? ⟨b4,0,none⟩=some (ptr br)) (h8:Blk w b8 #[num z] 2) (hr:Blk w br #[c0,c1,num (d + 1:Nat),c3] 160) (hd : d≤30) (hne : b8≠br) (hn4 : b8≠b4) :
  CallsD Tryz.prog 103 #[ptr b8,ptr b4] (.panicking [{ v:=retV n,recovered:=false }]) w fun e u' w'=>
   e = .returned (.tuple #[])∧u' = .panicking [{ v:=retV n,recovered:=true }]∧Chg [br,b8] w w'∧Blk w' br #[c0,c1,num d,c3] 160∧Blk w' b8 #[num n] 2:=by
 have hta : ∀ w,(Instr.typeAssert (retV n) 20 106 true).run Tryz.prog w = .ok (.tuple #[.agg #[num n],.bool true]) w:=fun _=>rfl
 refine callsD_of_wpS Tryz.func103 rfl fun c₀ cs hu=>?_
 simp only [Tryz.ntmps103,List.size_toArray,List.length_cons,List.length_nil,Nat.reduceAdd,Nat.reduceSub,Array.replicate_succ,Array.replicate_zero,List.push_toArray,List.append_toArray,List.nil_append,List.cons_append];obtain⟨wX,hwX⟩ : ∃ x,w.alloc (.cells #[num 0] 106)=x:=⟨_,rfl⟩
 have hx:=Blk.new w #[num 0] 106;rw [hwX] at hx;have hcX:Chg [] w wX:=by rw [← hwX];exact(Chg.refl _ _).alloc _
 have x0:=hx.cell 0 _ rfl;have xf:=hx.frozen 0;obtain⟨w1,hw1⟩ : ∃ x,wX.setCell ⟨w.heap.size,0,none⟩ (num n)=x:=⟨_,rfl⟩
 have hx1:Blk w1 w.heap.size #[num n] 106:=by rw [← hw1];simpa using hx.set 0 (num n)
 have hc1:Chg [] w w1:=hcX.trans (by rw [← hw1];exact Chg.set1 _ _ _ _) (fun x hx=>.inr (by simp at hx;omega));have x1:=hx1.cell 0 _ rfl;have h81:=h8.kept hc1 (by simp);have f8:=h81.frozen 0;have e8:=h81.cell 0 _ rfl;obtain⟨w2,hw2⟩ : ∃ x,w1.setCell ⟨b8,0,none⟩ (num n)=x:=⟨_,rfl⟩
 have hc12:Chg [b8] w1 w2:=by rw [← hw2];exact Chg.set1 _ _ _ _
 have h82:Blk w2 b8 #[num n] 2:=by rw [← hw2];simpa using h81.set 0 (num n)
 have hr2:=(hr.kept hc1 (by simp)).kept hc12 (by simpa using Ne.symm hne);have q4:=hc12.cellSome (hc1.cellSome h4 (by simp)) (by simpa using Ne.symm hn4);have r2:=hr2.cell 2 _ rfl;have y2:=hr2.frozen 2;have HR2:=zh hr2;have H82:=zh h82;have HC:=zh (hc1.weak.then hc12);have HNE:=zh hne;clear hr h8 hx hcX hx1 hc1 h81 hc12 h82 hr2 hne hn4 h4
 apply wpS_seq
 apply wpS_seq
 apply wpS_region
 simp [wpOpsS,go_sem,recoverD,hu,Exit.thenS]
 refine wpS_of_wp ?_;go_wp2_with fail;refine wpS_of_wp ?_;go_wp2_with fail;have hset:=HR2.out.set 2 (num d);have hch:Chg [br] w2 (w2.setCell ⟨br,2,none⟩ (num d)):=Chg.set1 _ _ _ _;refine⟨rfl,.panicking [{ v:=retV n,recovered:=true }],rfl,.tuple #[],results_none rfl _ _ _,rfl,rfl,?_⟩;exact⟨(HC.out.mono (fun x hx=>.inl (by simp at hx;simp [hx]))).then (hch.mono (fun x hx=>.inl (by simp at hx;simp [hx]))),by simpa using hset,H82.out.kept hch (by simpa using HNE.out)⟩
theorem dcatch_end (b8 b4:Nat) (way:Nat) (older:List PanicEntry) (w:World) :
  CallsD Tryz.prog 103 #[ptr b8,ptr b4] (.panicking ({ v:=endV way,recovered:=false } :: older)) w fun e u' w'=>
   e = .panicked [{ v:=endV way,recovered:=false }]∧u' = .panicking ({ v:=endV way,recovered:=true } :: older)∧Chg [] w w':=by
 have hta : ∀ w,(Instr.typeAssert (endV way) 20 106 true).run Tryz.prog w = .ok (.tuple #[.agg #[num 0],.bool false]) w:=fun _=>rfl
 refine callsD_of_wpS Tryz.func103 rfl fun c₀ cs hu=>?_
 simp only [Tryz.ntmps103,List.size_toArray,List.length_cons,List.length_nil,Nat.reduceAdd,Nat.reduceSub,Array.replicate_succ,Array.replicate_zero,List.push_toArray,List.append_toArray,List.nil_append,List.cons_append];obtain⟨wX,hwX⟩ : ∃ x,w.alloc (.cells #[num 0] 106)=x:=⟨_,rfl⟩
 have hx:=Blk.new w #[num 0] 106;rw [hwX] at hx;have hcX:Chg [] w wX:=by rw [← hwX];exact(Chg.refl _ _).alloc _
 have x0:=hx.cell 0 _ rfl;have xf:=hx.frozen 0;have hc1:Chg [] w (wX.setCell ⟨w.heap.size,0,none⟩ (num 0)):=hcX.trans (Chg.set1 _ _ _ _) (fun x hx=>.inr (by simp at hx;omega));have HC:=zh hc1;clear hx hcX hc1
 apply wpS_seq
 apply wpS_seq
 apply wpS_region
 simp [wpOpsS,go_sem,recoverD,hu,Exit.thenS]
 refine wpS_of_wp ?_;go_wp2_with fail;refine⟨rfl,.panicking ({ v:=endV way,recovered:=true } :: older),rfl,rfl,rfl,HC.out⟩
end Go.Proofs.YtechofppmnnomaaGreatDoor
namespace Go.Mq.Run
open Go Go.RowKit Go.Mq Go.Mq.Tree
open Go.Mq.Plan (MapIs getM putM)
def frameP (l:List (Nm × Int)):Fr:=l.foldl (fun f x=>putF f x.1 x.2) []
def frameV (l:List Nm) (f:Fr):Fr:=l.foldl (fun f n=>putF f n 0) f
theorem frameP_snoc (l:List (Nm × Int)) (x:Nm × Int) : frameP (l ++ [x])=putF (frameP l) x.1 x.2:=by rw [frameP,List.foldl_append];rfl
theorem frameV_snoc (l:List Nm) (f:Fr) (n:Nm) : frameV (l ++ [n]) f=putF (frameV l f) n 0:=by rw [frameV,List.foldl_append];rfl
theorem frame_is (p:Proc) (args:List Int) : frame p args=frameV p.vars (frameP (p.params.zip args)):=rfl
theorem take_get {α:Type} {l:List α} {k:Nat} {x : α} (h : l[k]?=some x) : l.take (k + 1)=l.take k ++ [x]:=by
 rw [List.take_add_one,h];rfl
theorem row_lt {w:World} {F:Nat→Prop} {a:Option Addr} {cs:List Value} (h:Row w F a cs):Row w (fun b=>b < w.heap.size∧F b) a cs:=⟨h.at_,fun h0 p hp=>⟨by
 obtain⟨b,off,he,hc⟩:=h.at_ h0;subst hp;cases he
 exact lt_of_cell (hc 0 _ (List.getElem?_eq_getElem h0)),h.own h0 p hp⟩⟩
theorem Going.rerunZ {w w':World} {L:Lay} {d:Nat} {s:St} {ov:Value} {Z:List Nat} (h:Going w L d s ov) {f d':Nat} (hc:Chg Z w w') (hZ : ∀ x∈Z,x=L.br∨(x∉mutL L ov∧¬ L.Fix x)) (hb:Blk w' L.br #[ptr L.bw,num f,num d',ov] 160) (hd : d'≤30) (hf : f≤9223372036854775807):Going w' L d' { s with fuel:=f } ov:=
 ⟨h.lay,h.stat.kept hc (fun x hx=>by
  rcases hZ x hx with rfl|⟨_,h2⟩
  ·exact br_notfix h
  ·exact h2),hb,h.dyn.kept hc fun q n b k hq hm=>by
  have ha:=(h.lay.arr hq).1;rcases hZ b hm with rfl|⟨h1,_⟩
  ·exact br_notarr h ha
  ·exact h1 (List.mem_cons_of_mem _ (List.mem_append_right _ ha)),fun hx=>by
  obtain⟨cs,f,hh⟩:=h.arrc hx;refine⟨cs,f,?_⟩;rw [hc.block _ (Array.getElem?_eq_some_iff.1 hh).1 (fun hm=>by
   rcases hZ _ hm with rfl|⟨h1,_⟩
   ·exact br_notarr h hx
   ·exact h1 (List.mem_cons_of_mem _ (List.mem_append_right _ hx)))]
  exact hh,owns_kept h.out hc (fun g hg hm=>by
  rcases hZ g hm with rfl|⟨h1,_⟩
  ·exact br_notblk h hg
  ·exact h1 (List.mem_cons_of_mem _ (List.mem_append_left _ hg))),h.from_,h.few,hd,hf⟩
end Go.Mq.Run
namespace Go.Proofs.YtechofppmnnomaaGreatDoor
open Go Go.RowKit Go.Mq Go.Mq.Tree Go.Mq.Run
open Go.Mq.Plan (MapIs getM putM run_putM)
open Go.Mq.Sym (names_cell)
open Go.Mq.Check (FewM FewS FewE argsN)
set_option maxRecDepth 100000
set_option maxHeartbeats 4000000
theorem call_cell (tmps:Array Value) (b8:Nat) (n:Int) (w:World) (h8 : tmps[8]?.getD undef=ptr b8) (hb:Blk w b8 #[num n] 2) : (results Tryz.f67 tmps).run Tryz.prog w = .ok (num n) w:=by
 have d0:=hb.cell 0 _ rfl;simp [results,Tryz.results67,h8,go_sem,d0]
theorem leave_end (tmps:Array Value) (b8 b4 way:Nat) (older:List PanicEntry) (w:World) (R:Ending→World→Prop) (hR : ∀ w',Chg [] w w'→R (.panicked ({ v:=endV way,recovered:=false } :: { v:=endV way,recovered:=true } :: older)) w') :
  Leaves Tryz.prog Tryz.f67 tmps R [{ target:=.fn (.func 103) #[ptr b8,ptr b4],args:=#[] }] (.panicking ({ v:=endV way,recovered:=false } :: older)) w:=by
 refine leaves_cons (f:=103) (args:=#[ptr b8,ptr b4]) (by simp) (by simp [go_sem]) ?_;refine(dcatch_end b8 b4 way older w).mono ?_;rintro e u' w'' ⟨rfl,rfl,hc⟩;exact hR w'' hc
theorem leave_ret (tmps:Array Value) (b8 b4 br d:Nat) (n z:Int) (c0 c1 c3:Value) (w:World) (R:Ending→World→Prop) (h8t : tmps[8]?.getD undef=ptr b8) (h4 : w.cell? ⟨b4,0,none⟩=some (ptr br)) (h8:Blk w b8 #[num z] 2) (hr:Blk w br #[c0,c1,num (d + 1:Nat),c3] 160) (hd : d≤30) (hne : b8≠br) (hn4 : b8≠b4)
  (hR : ∀ w',Chg [br,b8] w w'→Blk w' br #[c0,c1,num d,c3] 160→R (.returned (num n)) w') :
  Leaves Tryz.prog Tryz.f67 tmps R [{ target:=.fn (.func 103) #[ptr b8,ptr b4],args:=#[] }] (.panicking [{ v:=retV n,recovered:=false }]) w:=by
 refine leaves_cons (f:=103) (args:=#[ptr b8,ptr b4]) (by simp) (by simp [go_sem]) ?_;refine(dcatch_ret b8 b4 br d n z c0 c1 c3 w h4 h8 hr hd hne hn4).mono ?_;rintro e u' w'' ⟨rfl,rfl,hc,hb,hb8⟩;exact⟨_,call_cell tmps b8 n w'' h8t hb8,hR w'' hc hb⟩
theorem leave_go (tmps:Array Value) (b8 b4 br d:Nat) (z:Int) (c0 c1 c3:Value) (w:World) (R:Ending→World→Prop) (h8t : tmps[8]?.getD undef=ptr b8) (h4 : w.cell? ⟨b4,0,none⟩=some (ptr br)) (h8:Blk w b8 #[num z] 2) (hr:Blk w br #[c0,c1,num (d + 1:Nat),c3] 160) (hd : d≤30) (hne : b8≠br)
  (hR : ∀ w',Chg [br] w w'→Blk w' br #[c0,c1,num d,c3] 160→R (.returned (num z)) w') :
  Leaves Tryz.prog Tryz.f67 tmps R [{ target:=.fn (.func 103) #[ptr b8,ptr b4],args:=#[] }] .returning w:=by
 refine leaves_cons (f:=103) (args:=#[ptr b8,ptr b4]) (by simp) (by simp [go_sem]) ?_;refine(dcatch_idle b8 b4 br d c0 c1 c3 w h4 hr hd).mono ?_;rintro e u' w'' ⟨rfl,rfl,hc,hb⟩;exact⟨_,call_cell tmps b8 z w'' h8t (h8.kept hc (by simpa using hne)),hR w'' hc hb⟩
theorem conC_zero:ConC 0:=fun _ _ _ _ _ _ _ _ _ _ _ ho=>absurd rfl ho
theorem conC_succ (g:Nat) (hB:ConB g):ConC (g + 1):=by
 intro L d q p args s w ov vp vv vb a c m h hq hvp hvv hvb hfb hlb hlp hlv hrow hargs hne0;have hmf : ∀ (fn:Fn) (first cap:Array Value) (w:World),(Instr.makeFunc fn first cap).run Tryz.prog w = .ok (.func fn first cap) w:=fun _ _ _ _=>rfl
 have hmm:=@run_makeMap Tryz.prog;obtain⟨tgt,ht⟩ : ∃ o,o=(fns L.M (g + 1)).c d q p args s:=⟨_,rfl⟩
 rw [← ht] at hne0 ⊢;have ht0 : tgt=stepC (fns L.M g) d q p args s:=ht
 unfold stepC at ht0
 have hdeep:=h.deep;obtain⟨w0,hw0⟩ : ∃ x,w.alloc (.cells #[ptr L.br] 104)=x:=⟨_,rfl⟩
 have hb0:Blk w0 w.heap.size #[ptr L.br] 104:=by rw [← hw0];exact Blk.new w _ _
 have hc0:Chg [] w w0:=by rw [← hw0];exact(Chg.refl _ _).alloc _
 have hs0 : w0.heap.size=w.heap.size + 1:=by rw [← hw0];simp
 obtain⟨w1,hw1⟩ : ∃ x,w0.alloc (.cells #[str p.name,num p.pos,.bool p.seen,vp,vv,vb] 72)=x:=⟨_,rfl⟩
 have hb1:Blk w1 w0.heap.size #[str p.name,num p.pos,.bool p.seen,vp,vv,vb] 72:=by rw [← hw1];exact Blk.new w0 _ _
 have hc1:Chg [] w0 w1:=by rw [← hw1];exact(Chg.refl _ _).alloc _
 have hs1 : w1.heap.size=w.heap.size + 1 + 1:=by rw [← hw1];simp [hs0]
 obtain⟨wA,hwA⟩ : ∃ x,w1.alloc (.cells #[num 0] 2)=x:=⟨_,rfl⟩
 have hb8:Blk wA w1.heap.size #[num 0] 2:=by rw [← hwA];exact Blk.new w1 _ _
 have hc2:Chg [] w1 wA:=by rw [← hwA];exact(Chg.refl _ _).alloc _
 have hsA : wA.heap.size=w.heap.size + 1 + 1 + 1:=by rw [← hwA];simp [hs1]
 have hcA:Chg [] w wA:=(hc0.then hc1).then hc2
 have hbA0:=hb0.kept (hc1.then hc2) (by simp);have hbA1:=hb1.kept hc2 (by simp);have k0:=hbA0.cell 0 _ rfl;have hrun:=h.run.kept hcA (by simp);have r2:=hrun.cell 2 _ rfl;have y2:=hrun.frozen 2;have HA:=zh (h.kept hcA);have HCA:=zh hcA;have HB0:=zh hbA0;have HB1:=zh hbA1;have HB8:=zh hb8;have HNE:=zh hne0;have HQ:=zh hq;have HVP:=zh (hvp.kept hcA (by simp));have HVV:=zh (hvv.kept hcA (by simp));have HVB:=zh (hvb.kept hcA (by simp));have HROW:=zh ((row_lt hrow).kept hcA (by simp));have HFB:=zh hfb;have HLB:=zh hlb;have HLT:=zh h.lt;have HSA:=zh hsA;cases hd : decide (d=30) with
 | true=>
  have hd30 : d=30:=of_decide_eq_true hd;have HT:=zh (show tgt = .stop 4 s by rw [ht0,if_pos hd30]);have HS:=zh (fun w=>rstop_any 4 w);rw [hd30] at r2;clear h hq hvp hvv hvb hfb hlb hrow hne0 ht ht0 hb0 hc0 hb1 hc1 hb8 hc2 hcA hbA0 hbA1 hrun hd hd30 hs0 hs1 hsA y2
  go_enter_defers Tryz.func67,Tryz.ntmps67
  go_wp2_with fail;refine(HS.out wA).mono ?_;rintro _ _ ⟨⟨older,hol,rfl⟩,hw⟩;have hw:=hw.symm;subst hw;go_wp2_with fail;simp only [bodyPostD,Leaves];rw [HT.out];exact Ran.after (Ran.halted HA.out (Chg.refl _ _) ⟨older,hol,rfl⟩) HCA.out
 | false=>
  have hd30 : d≠30:=of_decide_eq_false hd;have hdt : ((d:Int) == 30)=false:=by simp;omega
  rw [if_neg hd30] at ht0;by_cases hal : args.length < p.params.length
  ·exact absurd (by rw [ht0,if_pos hal]) hne0
  rw [if_neg hal] at ht0;have HDD:=zh (show d≤30 from hdeep);have HAL:=zh (show p.params.length≤args.length by omega);have HT0:=zh ht0;obtain⟨wB,hwB⟩ : ∃ x,wA.setCell ⟨L.br,2,none⟩ (num ((d:Int) + 1))=x:=⟨_,rfl⟩
  have hcB:Chg [L.br] wA wB:=by rw [← hwB];exact Chg.set1 _ _ _ _
  have hrB:Blk wB L.br #[ptr L.bw,num s.fuel,num (d + 1:Nat),ov] 160:=by rw [← hwB];simpa using hrun.set 2 (num ((d:Int) + 1))
  have hgB:Going wB L (d + 1) s ov:=(h.kept hcA).rerun hcB hrB (by omega) h.most;have hbrl:L.br < w.heap.size:=h.run.lt;have e0:=hcB.cellSome k0 (by simp;omega);have hb1B:=hbA1.kept hcB (by simp;omega);have hsB : wB.heap.size=wA.heap.size:=by rw [← hwB];simp
  obtain⟨wC,hwC⟩ : ∃ x,wB.alloc (.map #[] 0)=x:=⟨_,rfl⟩
  have hmC:MapIs wC wB.heap.size []:=by rw [← hwC];exact MapIs.made wB
  have hcC:Chg [] wB wC:=by rw [← hwC];exact(Chg.refl _ _).alloc _
  have hlC : wB.heap.size < wC.heap.size:=hmC.lt;have e3:=(hb1B.kept hcC (by simp)).cell 3 _ rfl;obtain⟨bf,hbf⟩ : ∃ b,b=wB.heap.size:=⟨_,rfl⟩
  obtain⟨b8,hb8e⟩ : ∃ b,b=w1.heap.size:=⟨_,rfl⟩
  obtain⟨b6,hb6e⟩ : ∃ b,b=w0.heap.size:=⟨_,rfl⟩
  have hord:L.br < w.heap.size∧w.heap.size < b6∧b6 < b8∧b8 < bf:=by omega
  have HORD:=zh hord;have HGC:=zh (hgB.kept hcC);have HCB:=zh hcB;have HCC:=zh hcC;have HMC:=zh hmC;have HBRL:=zh hbrl;have HB8C:=zh ((hb8.kept hcB (by simp;omega)).kept hcC (by simp));have HE0:=zh (hcC.cellSome e0 (by simp));have HB1C:=zh (hb1B.kept hcC (by simp));have hnbr : ∀ x∈[L.br],¬ L.Fix x:=by simpa using br_notfix h
  have HVPC:=zh ((HVP.out.kept hcB hnbr).kept hcC (by simp));have HVVC:=zh ((HVV.out.kept hcB hnbr).kept hcC (by simp));have HVBC:=zh ((HVB.out.kept hcB hnbr).kept hcC (by simp));have HROWC:=zh ((HROW.out.kept hcB (fun x hx=>by simp at hx;subst hx;exact fun hh=>hh.2 List.mem_cons_self)).kept hcC (by simp));obtain⟨ap,cp,rfl,hcp,hrp⟩:=hvp;obtain⟨av,cv,rfl,hcv,hrv⟩:=hvv;obtain⟨_,_,hve,_,hrpC⟩:=HVPC.out;cases hve
  obtain⟨_,_,hve,_,hrvC⟩:=HVVC.out;cases hve
  have HRP:=zh hrpC;have HRV:=zh hrvC;have HNF:=zh (show ∀ b,w.heap.size≤b→¬ L.Fix b from fun b hb hf=>by have:=h.lay.fix hf;omega);clear h hq hvb hfb hlb hrow hne0 ht ht0 hb0 hc0 hb1 hc1 hb8 hc2 hcA hbA0 hbA1 hrun hd hd30 hcB hrB hgB hb1B hmC hcC hal hrp hrv hrpC hrvC hnbr hbrl hsB hord hlC hsA hs0 hs1
  go_enter_defers Tryz.func67,Tryz.ntmps67
  go_wp2_with fail;clear hw0 hw1 hwA hwB hwC e0 e3 k0 r2 y2;rw [← hbf,← hb8e,← hb6e];rw [← hbf] at HMC;rw [← hb8e] at HB8C;rw [← hb6e] at HB1C;clear hbf hb8e hb6e
  go_loopw [10,11,31] (fun _ _ i wr=>∃ k:Nat,i = .int .i64 k∧k≤p.params.length∧MapIs wr bf ((frameP ((p.params.zip args).take k)).map fun p=>(p.1,num p.2))∧Chg [bf] wC wr) (fun _ _ i _=>p.params.length - (intOf i).toNat)
  case atStart=>exact⟨0,rfl,Nat.zero_le _,HMC.out,Chg.refl _ _⟩
  case round=>
   obtain⟨k,rfl,hk,hmap,hc⟩:=hrel;have HC:=zh hc;have hord:=HORD.out;by_cases hlt : k < p.params.length
   ·have hal:=HAL.out
    obtain⟨n,hn⟩ : ∃ n,p.params[k]?=some n:=⟨p.params[k],List.getElem?_eq_getElem hlt⟩
    obtain⟨z,hz⟩ : ∃ z,args[k]?=some z:=⟨args[k]'(by omega),List.getElem?_eq_getElem (by omega)⟩
    obtain⟨bb,off,rfl,d0⟩:=names_cell (HRP.out.kept hc (by simpa using HNF.out bf (by omega))) hn;obtain⟨ba,offa,rfl,hca⟩:=(HROWC.out.kept hc (fun x hx=>by simp at hx;subst hx;exact fun hh=>by have:=hh.1;omega)).at_ (by simp;omega);have d1:=hca k (num z) (by rw [List.getElem?_map,hz];rfl);obtain⟨w5,hu,hmap5,hc5⟩:=run_putM (P:=Tryz.prog) Tryz.underlying165 Tryz.underlying9 hmap n (num z);have HM5:=zh (show MapIs w5 bf ((frameP ((p.params.zip args).take (k + 1))).map fun p=>(p.1,num p.2)) by
     rw [putM_fr] at hmap5;rw [take_get (show (p.params.zip args)[k]?=some (n,z) by rw [List.getElem?_zip_eq_some];exact⟨hn,hz⟩),frameP_snoc];exact hmap5)
    have HC5:=zh (HC.out.then hc5);have hka : k < args.length:=by omega
    clear hmap hc hn hz hca hmap5 hc5 hal;go_wp2_with fail;exact⟨⟨k + 1,by go_num,by omega,HM5.out,HC5.out⟩,by simp [intOf];omega⟩
   ·have hkn : k=p.params.length:=by omega
    have HMP:=zh (show MapIs wr bf ((frameP (p.params.zip args)).map fun p=>(p.1,num p.2)) by
     rw [List.take_of_length_le (by rw [List.length_zip];omega)] at hmap;exact hmap)
    have hb6:=HB1C.out.kept hc (by simp;omega);have e4:=hb6.cell 4 _ rfl;clear hmap hc hb6;go_wp2_with fail;clear e4
    go_loopw [13,46] (fun _ i wr=>∃ k:Nat,i = .int .i64 k∧k≤p.vars.length∧MapIs wr bf ((frameV (p.vars.take k) (frameP (p.params.zip args))).map fun p=>(p.1,num p.2))∧Chg [bf] wC wr) (fun _ i _=>p.vars.length - (intOf i).toNat)
    case atStart=>exact⟨0,rfl,Nat.zero_le _,HMP.out,HC.out⟩
    case round=>
     obtain⟨k,rfl,hk,hmap,hc⟩:=hrel;clear HC;have HC:=zh hc;by_cases hlt : k < p.vars.length
     ·obtain⟨n,hn⟩ : ∃ n,p.vars[k]?=some n:=⟨p.vars[k],List.getElem?_eq_getElem hlt⟩
      obtain⟨bb,off,rfl,d0⟩:=names_cell (HRV.out.kept hc (by simpa using HNF.out bf (by omega))) hn;obtain⟨w5,hu,hmap5,hc5⟩:=run_putM (P:=Tryz.prog) Tryz.underlying165 Tryz.underlying9 hmap n (num 0);have HM5:=zh (show MapIs w5 bf ((frameV (p.vars.take (k + 1)) (frameP (p.params.zip args))).map fun p=>(p.1,num p.2)) by
       rw [putM_fr] at hmap5;rw [take_get hn,frameV_snoc];exact hmap5)
      have HC5:=zh (HC.out.then hc5);clear hmap hc hn hmap5 hc5;go_wp2_with fail;exact⟨⟨k + 1,by go_num,by omega,HM5.out,HC5.out⟩,by simp [intOf];omega⟩
     ·have HFR:=zh (show FrAt wr (some bf) (frame p args) by
       rw [List.take_of_length_le (by omega)] at hmap;exact .inr ⟨bf,rfl,by rw [frame_is];exact hmap⟩)
      have hnotf : ∀ x∈[bf],¬ L.Fix x:=by simpa using HNF.out bf (by omega)
      have hgr:Going wr L (d + 1) s ov:=HGC.out.aside hc (fun x hx=>by
       simp at hx
       subst hx;exact⟨fun hm=>by
        rcases List.mem_cons.1 hm with rfl|hm
        ·omega
        ·have:=HLT.out x (List.mem_cons_of_mem _ hm);omega,HNF.out x (by omega)⟩)
      have HCON:=zh (hB hgr HQ.out HFR.out (fun b hb=>by cases hb;exact HNF.out bf (by omega)) (HVBC.out.kept hc hnotf) HFB.out HLB.out (fun hs=>HNE.out (by rw [HT0.out,hs];rfl)));have hb6:=HB1C.out.kept hc (by simp;omega);have e5:=hb6.cell 5 _ rfl;have e0:=hc.cellSome HE0.out (by simp;omega);have HB8R:=zh (HB8C.out.kept hc (by simp;omega));have HE0R:=zh e0;have hnm : ∀ x,w.heap.size≤x→x∉mutL L ov:=fun x hx hm=>by have:=HLT.out x hm;omega
      have HNM:=zh hnm;have HSZ:=zh hc.size;have hlt8:=HB8R.out.lt;have hlt4:=lt_of_cell e0;have HLT8:=zh hlt8;have HLT4:=zh hlt4;have HCW:=zh (show Chg [L.br] w wr from((HCA.out.weak.then HCB.out).then HCC.out.weak).trans hc (fun x hx=>.inr (by simp at hx;omega)));clear hmap hc hgr hnotf hb6 hnm hlt8 hlt4;go_wp2_with fail;cases hr : (fns L.M g).b (d + 1) q (frame p args) p.body s with
      | stuck=>exact absurd (by rw [HT0.out,hr];rfl) HNE.out
      | stop way s2=>
       rw [hr] at HCON;have HT:=zh (show tgt = .stop way s2 by rw [HT0.out,hr];rfl);clear hr;refine HCON.out.mono ?_;rintro e w2 ⟨ov2,hm,hc,⟨older,hol,rfl⟩,d',hg⟩;have hn8:=notmut_moved (L:=L) hm HLT8.out (HNM.out b8 (by have:=HORD.out;omega));have hbx8:=HB8R.out.kept hc (by simp only [List.mem_append,List.mem_singleton,not_or,Option.toList];exact⟨by have:=HORD.out;simp;omega,HNM.out b8 (by have:=HORD.out;omega)⟩);have hbx4:=hc.cellSome HE0R.out (fun hm=>(List.mem_append.1 hm).elim (fun h=>by have:=HORD.out;simp [Option.toList] at h;omega) (fun h=>HNM.out _ (Nat.le_refl _) h));have HM2:=zh (moved_from hm HCW.out);have HG2:=zh hg;have HN8:=zh hn8;have HX8:=zh hbx8;have HX4:=zh hbx4;have HC2:=zh (show Chg (mutL L ov) w w2 from(HCW.out.mono (fun x hx=>.inl (by simp at hx;subst hx;exact List.mem_cons_self))).trans hc (fun x hx=>by
        rcases List.mem_append.1 hx with hx|hx
        ·exact .inr (by have:=HORD.out;simp at hx;omega)
        ·exact .inl hx))
       clear hm hc hg hn8 hbx8 hbx4;go_wp2_with fail;refine leave_end _ b8 w.heap.size way older w2 _ (fun w' hc=>?_);rw [HT.out];exact⟨ov2,HM2.out,by simpa using HC2.out.then hc.weak,⟨_ :: older,by simp [hol],rfl⟩,d',HG2.out.kept hc⟩
      | ok y s2=>
       obtain⟨fl,fr2⟩:=y;rw [hr] at HCON;cases fl with
       | ret n9=>
        have HT:=zh (show tgt = .ok n9 s2 by rw [HT0.out,hr];rfl);clear hr;refine HCON.out.mono ?_;rintro e w2 ⟨ov2,hm,hc,⟨_,hfl⟩,hg⟩;simp only at hfl;subst hfl;have hn8:=notmut_moved (L:=L) hm HLT8.out (HNM.out b8 (by have:=HORD.out;omega));have hbx8:=HB8R.out.kept hc (by simp only [List.mem_append,List.mem_singleton,not_or,Option.toList];exact⟨by have:=HORD.out;simp;omega,HNM.out b8 (by have:=HORD.out;omega)⟩);have hbx4:=hc.cellSome HE0R.out (fun hm=>(List.mem_append.1 hm).elim (fun h=>by have:=HORD.out;simp [Option.toList] at h;omega) (fun h=>HNM.out _ (Nat.le_refl _) h));have HM2:=zh (moved_from hm HCW.out);have HG2:=zh hg;have HN8:=zh hn8;have HX8:=zh hbx8;have HX4:=zh hbx4;have HC2:=zh (show Chg (mutL L ov) w w2 from(HCW.out.mono (fun x hx=>.inl (by simp at hx;subst hx;exact List.mem_cons_self))).trans hc (fun x hx=>by
         rcases List.mem_append.1 hx with hx|hx
         ·exact .inr (by have:=HORD.out;simp at hx;omega)
         ·exact .inl hx))
        clear hm hc hg hn8 hbx8 hbx4;go_wp2_with fail;refine leave_ret _ b8 w.heap.size L.br d n9 0 _ _ _ w2 _ rfl HX4.out HX8.out HG2.out.run HDD.out (by have:=HORD.out;omega) (by have:=HORD.out;omega) (fun w' hc hb=>?_);rw [HT.out];refine⟨ov2,HM2.out,?_,rfl,HG2.out.rerunZ hc (fun x hx=>?_) hb HDD.out HG2.out.most⟩
        ·exact HC2.out.trans hc (fun x hx=>by
          simp at hx
          rcases hx with rfl|rfl
          ·exact .inl List.mem_cons_self
          ·exact .inr (by have:=HORD.out;omega))
        ·simp at hx
         rcases hx with rfl|rfl
         ·exact .inl rfl
         ·exact .inr ⟨HN8.out,HNF.out _ (by have:=HORD.out;omega)⟩
       | go=>
        have HT:=zh (show tgt = .ok 0 s2 by rw [HT0.out,hr];rfl);clear hr;refine HCON.out.mono ?_;rintro e w2 ⟨ov2,hm,hc,⟨_,hfl⟩,hg⟩;simp only at hfl;subst hfl;have hn8:=notmut_moved (L:=L) hm HLT8.out (HNM.out b8 (by have:=HORD.out;omega));have hbx8:=HB8R.out.kept hc (by simp only [List.mem_append,List.mem_singleton,not_or,Option.toList];exact⟨by have:=HORD.out;simp;omega,HNM.out b8 (by have:=HORD.out;omega)⟩);have hbx4:=hc.cellSome HE0R.out (fun hm=>(List.mem_append.1 hm).elim (fun h=>by have:=HORD.out;simp [Option.toList] at h;omega) (fun h=>HNM.out _ (Nat.le_refl _) h));have HM2:=zh (moved_from hm HCW.out);have HG2:=zh hg;have HN8:=zh hn8;have HX8:=zh hbx8;have HX4:=zh hbx4;have HC2:=zh (show Chg (mutL L ov) w w2 from(HCW.out.mono (fun x hx=>.inl (by simp at hx;subst hx;exact List.mem_cons_self))).trans hc (fun x hx=>by
         rcases List.mem_append.1 hx with hx|hx
         ·exact .inr (by have:=HORD.out;simp at hx;omega)
         ·exact .inl hx))
        clear hm hc hg hn8 hbx8 hbx4;have x8:=HX8.out.frozen 0;have v8:=HX8.out.cell 0 _ rfl;go_wp2_with fail;have hs8:=HX8.out.set 0 (num 0);have hc8:Chg [b8] w2 (w2.setCell ⟨b8,0,none⟩ (num 0)):=Chg.set1 _ _ _ _;have hord:=HORD.out;refine leave_go _ b8 w.heap.size L.br d 0 _ _ _ _ _ rfl (hc8.cellSome HX4.out (by simp;omega)) (by simpa using hs8) (HG2.out.run.kept hc8 (by simp;omega)) HDD.out (by omega) (fun w' hc hb=>?_);rw [HT.out];have hct:Chg [L.br,b8] w2 w':=(hc8.mono (fun x hx=>.inl (by simp at hx;simp [hx]))).then (hc.mono (fun x hx=>.inl (by simp at hx;simp [hx])))
        refine⟨ov2,HM2.out,?_,rfl,HG2.out.rerunZ hct (fun x hx=>?_) hb HDD.out HG2.out.most⟩
        ·exact HC2.out.trans hct (fun x hx=>by
          simp at hx
          rcases hx with rfl|rfl
          ·exact .inl List.mem_cons_self
          ·exact .inr (by omega))
        ·simp at hx
         rcases hx with rfl|rfl
         ·exact .inl rfl
         ·exact .inr ⟨HN8.out,HNF.out _ (by omega)⟩
end Go.Proofs.YtechofppmnnomaaGreatDoor
namespace Go.Proofs.YtechofppmnnomaaGreatDoor
open Go Go.RowKit Go.Mq Go.Mq.Tree Go.Mq.Run
theorem con_upto : ∀ g,(∀ g',g'≤g→ConE g')∧(∀ g',g'≤g→ConC g')∧(∀ g',g'≤g→ConB g')
 | 0=>⟨fun g' h=>by rw [Nat.le_zero.1 h];exact conE_zero,fun g' h=>by rw [Nat.le_zero.1 h];exact conC_zero,fun g' h=>by rw [Nat.le_zero.1 h];exact conB_zero⟩
 | g + 1=>by
  obtain⟨hE,hC,hB⟩:=con_upto g;refine⟨fun g' h=>?_,fun g' h=>?_,fun g' h=>?_⟩
  ·rcases Nat.lt_or_ge g' (g + 1) with h1|h1
   ·exact hE g' (by omega)
   ·rw [show g'=g + 1 by omega];exact conE_succ g hE (hC g (Nat.le_refl _))
  ·rcases Nat.lt_or_ge g' (g + 1) with h1|h1
   ·exact hC g' (by omega)
   ·rw [show g'=g + 1 by omega];exact conC_succ g (hB g (Nat.le_refl _))
  ·rcases Nat.lt_or_ge g' (g + 1) with h1|h1
   ·exact hB g' (by omega)
   ·rw [show g'=g + 1 by omega];exact conB_succ g hE hB
theorem con_c (g:Nat):ConC g:=(con_upto g).2.1 g (Nat.le_refl _)
theorem con_b (g:Nat):ConB g:=(con_upto g).2.2 g (Nat.le_refl _)
end Go.Proofs.YtechofppmnnomaaGreatDoor
namespace Go.Mq.Run
open Go Go.RowKit Go.Mq Go.Mq.Tree
structure Home (w:World) (L:Lay) (vs:Vs):Prop where
 lay : ∀ br,w.heap.size≤br→LayOk { L with br:=br }
 stat:Stat w L
 dyn:Dyn w L.dim vs
 arrc : ∀ {b},b∈L.arrs → ∃ cs f,w.heap[b]?=some (.cells cs i64T f)
theorem Home.kept {w w':World} {L:Lay} {vs:Vs} (h:Home w L vs) (hc:Chg [] w w'):Home w' L vs:=
 ⟨fun br hb=>h.lay br (by have:=hc.size;omega),h.stat.kept hc (by simp),h.dyn.kept hc (by simp),fun hb=>by
  obtain⟨cs,f,hh⟩:=h.arrc hb;exact⟨cs,f,by rw [hc.block _ (Array.getElem?_eq_some_iff.1 hh).1 (by simp)];exact hh⟩⟩
theorem Stat.br {w:World} {L:Lay} (h:Stat w L) (br:Nat):Stat w { L with br:=br }:=⟨h.own,h.at_⟩
theorem Home.going {w:World} {L:Lay} {vs:Vs} (h:Home w L vs) {w':World} {br f:Nat} (hc:Chg [] w w') (hb : w.heap.size≤br) (hr:Blk w' br #[ptr L.bw,num f,num 0,nils] 160) (hf : f≤9223372036854775807):Going w' { L with br:=br } 0 ⟨f,[],vs⟩ nils:=
 ⟨h.lay br hb,(h.kept hc).stat.br br,by simpa using hr,(h.kept hc).dyn,(h.kept hc).arrc,World.ownsRow_nil _ _ _ _,From.nil _,by simp,by simp,hf⟩
theorem Going.home {w:World} {L:Lay} {br d:Nat} {s:St} {ov:Value} (h:Going w { L with br:=br } d s ov) {w':World} {Z:List Nat} (hc:Chg Z w w') (hZ : ∀ x∈Z,¬ L.Fix x∧x∉L.arrs):Home w' L s.vs:=
 ⟨fun br' hb=>by
  have hl:=h.lay;have hbr:=h.run.lt;have hs:=hc.size;simp only at hbr;exact⟨hl.inj,hl.arr,fun hx=>⟨(hl.arrs hx).1,by have:=(hl.arrs hx).2;simp only at this ⊢;omega⟩,fun hx=>by have:=hl.fix hx;simp only at this ⊢;omega,hl.there⟩,
  (show Stat w L from⟨h.stat.own,h.stat.at_⟩).kept hc (fun x hx=>(hZ x hx).1),h.dyn.kept hc (fun q n b k hd hm=>(hZ b hm).2 (h.lay.arr hd).1),fun {b} hb=>by
  obtain⟨cs,f,hh⟩:=h.arrc hb;exact⟨cs,f,by rw [hc.block _ (Array.getElem?_eq_some_iff.1 hh).1 (fun hm=>(hZ _ hm).2 hb)];exact hh⟩⟩
theorem Home.low {w:World} {L:Lay} {vs:Vs} (h:Home w L vs) {x:Nat} (hx : w.heap.size≤x) : ¬ L.Fix x∧x∉L.arrs:=
 ⟨fun hf=>by have:=(h.lay w.heap.size (Nat.le_refl _)).fix hf;simp only at this;omega,fun ha=>by have:=((h.lay w.heap.size (Nat.le_refl _)).arrs ha).2;simp only at this;omega⟩
def EndV (w:World) (lo way:Nat) (out:List Int) (v:Value):Prop:=∃ ov,v = .agg #[num way,ov]∧w.ownsRow 0 i64T 1 ov out.length (ints out)∧From lo ov
def endOf {α:Type} : O α→Nat
 | .ok _ _=>1
 | .stop way _=>way
 | .stuck=>0
def stOf {α:Type} (s0:St):O α→St
 | .ok _ s=>s
 | .stop _ s=>s
 | .stuck=>s0
end Go.Mq.Run
namespace Go.Proofs.YtechofppmnnomaaGreatDoor
open Go Go.RowKit Go.Mq Go.Mq.Tree Go.Mq.Run
set_option maxRecDepth 100000
set_option maxHeartbeats 4000000
theorem gcatch_idle (be bv br:Nat) (e0 e1 c0 c1 c2:Value) (oa:Option Addr) (on oc:Nat) (w:World) (hv : w.cell? ⟨bv,0,none⟩=some (ptr br)) (he:Blk w be #[e0,e1] 43) (hr:Blk w br #[c0,c1,c2,.slice oa on oc] 160):CallsD Tryz.prog 81 #[ptr be,ptr bv] .returning w fun e u' w'=>
   e = .returned (.tuple #[])∧u' = .returning∧Chg [be] w w'∧Blk w' be #[e0,.slice oa on oc] 43:=by
 refine callsD_of_wpS Tryz.func81 rfl fun c₀ cs hu=>?_
 simp only [Tryz.ntmps81,List.size_toArray,List.length_cons,List.length_nil,Nat.reduceAdd,Nat.reduceSub,Array.replicate_succ,Array.replicate_zero,List.push_toArray,List.append_toArray,List.nil_append,List.cons_append];have r3:=hr.cell 3 _ rfl;have y1:=he.frozen 1;have z1:=he.cell 1 _ rfl;have HE:=zh he;clear hr he
 apply wpS_seq
 apply wpS_seq
 apply wpS_region
 simp [wpOpsS,go_sem,recoverD,hu,Exit.thenS]
 refine wpS_of_wp ?_;go_wp2_with fail;refine wpS_of_wp ?_;go_wp2_with fail;have hset:=HE.out.set 1 (.slice oa on oc);have hch:Chg [be] w (w.setCell ⟨be,1,none⟩ (.slice oa on oc)):=Chg.set1 _ _ _ _;refine⟨rfl,.returning,by cases c₀;simp_all,.tuple #[],results_none rfl _ _ _,rfl,rfl,?_⟩;exact⟨hch,by simpa using hset⟩
theorem gcatch_end (be bv br way:Nat) (older:List PanicEntry) (e0 e1 c0 c1 c2:Value) (oa:Option Addr) (on oc:Nat) (w:World) (hv : w.cell? ⟨bv,0,none⟩=some (ptr br)) (he:Blk w be #[e0,e1] 43) (hr:Blk w br #[c0,c1,c2,.slice oa on oc] 160) (hne : be≠br) (hnv : be≠bv) :
  CallsD Tryz.prog 81 #[ptr be,ptr bv] (.panicking ({ v:=endV way,recovered:=false } :: older)) w fun e u' w'=>
   e = .returned (.tuple #[])∧u' = .panicking ({ v:=endV way,recovered:=true } :: older)∧Chg [be] w w'∧Blk w' be #[num way,.slice oa on oc] 43:=by
 have hta : ∀ w,(Instr.typeAssert (endV way) 20 162 true).run Tryz.prog w = .ok (.tuple #[.agg #[num way],.bool true]) w:=fun _=>rfl
 refine callsD_of_wpS Tryz.func81 rfl fun c₀ cs hu=>?_
 simp only [Tryz.ntmps81,List.size_toArray,List.length_cons,List.length_nil,Nat.reduceAdd,Nat.reduceSub,Array.replicate_succ,Array.replicate_zero,List.push_toArray,List.append_toArray,List.nil_append,List.cons_append];obtain⟨wX,hwX⟩ : ∃ x,w.alloc (.cells #[num 0] 162)=x:=⟨_,rfl⟩
 have hx:=Blk.new w #[num 0] 162;rw [hwX] at hx;have hcX:Chg [] w wX:=by rw [← hwX];exact(Chg.refl _ _).alloc _
 have x0:=hx.cell 0 _ rfl;have xf:=hx.frozen 0;obtain⟨w1,hw1⟩ : ∃ x,wX.setCell ⟨w.heap.size,0,none⟩ (num way)=x:=⟨_,rfl⟩
 have hx1:Blk w1 w.heap.size #[num way] 162:=by rw [← hw1];simpa using hx.set 0 (num way)
 have hc1:Chg [] w w1:=hcX.trans (by rw [← hw1];exact Chg.set1 _ _ _ _) (fun x hx=>.inr (by simp at hx;omega));have x1:=hx1.cell 0 _ rfl;have he1:=he.kept hc1 (by simp);have f0:=he1.frozen 0;have d0:=he1.cell 0 _ rfl;obtain⟨w2,hw2⟩ : ∃ x,w1.setCell ⟨be,0,none⟩ (num way)=x:=⟨_,rfl⟩
 have hc12:Chg [be] w1 w2:=by rw [← hw2];exact Chg.set1 _ _ _ _
 have he2:Blk w2 be #[num way,e1] 43:=by rw [← hw2];simpa using he1.set 0 (num way)
 have hr2:=(hr.kept hc1 (by simp)).kept hc12 (by simpa using Ne.symm hne);have q4:=hc12.cellSome (hc1.cellSome hv (by simp)) (by simpa using Ne.symm hnv);have r3:=hr2.cell 3 _ rfl;have f1:=he2.frozen 1;have d1:=he2.cell 1 _ rfl;have HE2:=zh he2;have HC:=zh (hc1.weak.then hc12);clear hr he hx hcX hx1 hc1 he1 hc12 he2 hr2 hne hnv hv
 apply wpS_seq
 apply wpS_seq
 apply wpS_region
 simp [wpOpsS,go_sem,recoverD,hu,Exit.thenS]
 refine wpS_of_wp ?_;go_wp2_with fail;refine wpS_of_wp ?_;go_wp2_with fail;have hset:=HE2.out.set 1 (.slice oa on oc);have hch:Chg [be] w2 (w2.setCell ⟨be,1,none⟩ (.slice oa on oc)):=Chg.set1 _ _ _ _;refine⟨rfl,.panicking ({ v:=endV way,recovered:=true } :: older),rfl,.tuple #[],results_none rfl _ _ _,rfl,rfl,?_⟩;exact⟨HC.out.then hch,by simpa using hset⟩
theorem goes_cell (tmps:Array Value) (be:Nat) (v0 v1:Value) (w:World) (h6 : tmps[6]?.getD undef=ptr be) (hb:Blk w be #[v0,v1] 43) : (results Tryz.f40 tmps).run Tryz.prog w = .ok (.agg #[v0,v1]) w:=by
 have d0:=hb.cell 0 _ rfl;have d1:=hb.cell 1 _ rfl;simp [results,Tryz.results40,h6,go_sem,d0,d1]
theorem gleave_end (tmps:Array Value) (be bv br way:Nat) (older:List PanicEntry) (hol : older.dropWhile (!·.goexit)=[]) (e0 e1 c0 c1 c2:Value) (oa:Option Addr) (on oc:Nat) (w:World) (R:Ending→World→Prop) (h6 : tmps[6]?.getD undef=ptr be) (hv : w.cell? ⟨bv,0,none⟩=some (ptr br)) (he:Blk w be #[e0,e1] 43) (hr:Blk w br #[c0,c1,c2,.slice oa on oc] 160) (hne : be≠br) (hnv : be≠bv)
  (hR : ∀ w',Chg [be] w w'→R (.returned (.agg #[num way,.slice oa on oc])) w') :
  Leaves Tryz.prog Tryz.f40 tmps R [{ target:=.fn (.func 81) #[ptr be,ptr bv],args:=#[] }] (.panicking ({ v:=endV way,recovered:=false } :: older)) w:=by
 refine leaves_cons (f:=81) (args:=#[ptr be,ptr bv]) (by simp) (by simp [go_sem]) ?_;refine(gcatch_end be bv br way older e0 e1 c0 c1 c2 oa on oc w hv he hr hne hnv).mono ?_;rintro e u' w'' ⟨rfl,rfl,hc,hb⟩;have hs : settle (.panicking ({ v:=endV way,recovered:=true } :: older)) = .returning:=by simp only [settle,hol]
 show Leaves _ _ _ _ [] (settle (.panicking ({ v:=endV way,recovered:=true } :: older))) w''
 rw [hs];exact⟨_,goes_cell tmps be _ _ w'' h6 hb,hR w'' hc⟩
theorem gleave_go (tmps:Array Value) (be bv br:Nat) (e0 e1 c0 c1 c2:Value) (oa:Option Addr) (on oc:Nat) (w:World) (R:Ending→World→Prop) (h6 : tmps[6]?.getD undef=ptr be) (hv : w.cell? ⟨bv,0,none⟩=some (ptr br)) (he:Blk w be #[e0,e1] 43) (hr:Blk w br #[c0,c1,c2,.slice oa on oc] 160)
  (hR : ∀ w',Chg [be] w w'→R (.returned (.agg #[e0,.slice oa on oc])) w') :
  Leaves Tryz.prog Tryz.f40 tmps R [{ target:=.fn (.func 81) #[ptr be,ptr bv],args:=#[] }] .returning w:=by
 refine leaves_cons (f:=81) (args:=#[ptr be,ptr bv]) (by simp) (by simp [go_sem]) ?_;refine(gcatch_idle be bv br e0 e1 c0 c1 c2 oa on oc w hv he hr).mono ?_;rintro e u' w'' ⟨rfl,rfl,hc,hb⟩;exact⟨_,goes_cell tmps be _ _ w'' h6 hb,hR w'' hc⟩
end Go.Proofs.YtechofppmnnomaaGreatDoor
namespace Go.Proofs.YtechofppmnnomaaGreatDoor
open Go Go.RowKit Go.Mq Go.Mq.Tree Go.Mq.Run
set_option maxRecDepth 100000
set_option maxHeartbeats 4000000
theorem goes_any2 {α:Type} (fid:FuncId) (k0 k1:Value) (hF : ∀ (args:Array Value) (w:World),(callFunc fid args).run Tryz.prog w = .ok (.enter fid args) w) (o:O α) (V:World→α→Ending→Prop) (hVr : ∀ w a e,V w a e→e = .returned (.tuple #[])) (L:Lay) (vs:Vs) (fuel:Nat) (hfu : fuel≤9223372036854775807) (X:List Nat) (w:World) (h:Home w L vs) (hX : ∀ x∈X,x < w.heap.size) (ho : o ≠ .stuck)
  (hf : ∀ w1 br,w.heap.size≤br→Chg [] w w1→Going w1 { L with br:=br } 0 ⟨fuel,[],vs⟩ nils→Calls Tryz.prog fid #[ptr br,k0,k1] w1 (Ran w1 { L with br:=br } 0 nils X V o)) :
  Calls Tryz.prog 40 #[ptr L.bw,num fuel,.func (.func fid) #[] #[k0,k1]] w (fun e w'=>∃ v,e = .returned v∧EndV w' w.heap.size (endOf o) (stOf ⟨fuel,[],vs⟩ o).out v∧Home w' L (stOf ⟨fuel,[],vs⟩ o).vs∧Chg (X ++ L.arrs) w w'∧(∀ a s,o = .ok a s → ∃ w2,V w2 a (.returned (.tuple #[]))∧Chg [w.heap.size] w2 w')):=by
 have hmf : ∀ (fn:Fn) (first cap:Array Value) (w:World),(Instr.makeFunc fn first cap).run Tryz.prog w = .ok (.func fn first cap) w:=fun _ _ _ _=>rfl
 obtain⟨w0,hw0⟩ : ∃ x,w.alloc (.cells #[num 0,nils] 43)=x:=⟨_,rfl⟩
 have hb0:Blk w0 w.heap.size #[num 0,nils] 43:=by rw [← hw0];exact Blk.new w _ _
 have hc0:Chg [] w w0:=by rw [← hw0];exact(Chg.refl _ _).alloc _
 have hs0 : w0.heap.size=w.heap.size + 1:=by rw [← hw0];simp
 obtain⟨w1,hw1⟩ : ∃ x,w0.alloc (.cells #[ptr L.bw,num fuel,num 0,nils] 160)=x:=⟨_,rfl⟩
 have hb1:Blk w1 w0.heap.size #[ptr L.bw,num fuel,num 0,nils] 160:=by rw [← hw1];exact Blk.new w0 _ _
 have hc1:Chg [] w0 w1:=by rw [← hw1];exact(Chg.refl _ _).alloc _
 have hs1 : w1.heap.size=w0.heap.size + 1:=by rw [← hw1];simp
 obtain⟨w2,hw2⟩ : ∃ x,w1.alloc (.cells #[nilp] 104)=x:=⟨_,rfl⟩
 have hb2:Blk w2 w1.heap.size #[nilp] 104:=by rw [← hw2];exact Blk.new w1 _ _
 have hc2:Chg [] w1 w2:=by rw [← hw2];exact(Chg.refl _ _).alloc _
 obtain⟨w3,hw3⟩ : ∃ x,w2.setCell ⟨w1.heap.size,0,none⟩ (ptr w0.heap.size)=x:=⟨_,rfl⟩
 have hb3:Blk w3 w1.heap.size #[ptr w0.heap.size] 104:=by rw [← hw3];simpa using hb2.set 0 (ptr w0.heap.size)
 have hc3:Chg [w1.heap.size] w2 w3:=by rw [← hw3];exact Chg.set1 _ _ _ _
 have f2:=hb2.frozen 0;have z2:=hb2.cell 0 _ rfl;have hcw:Chg [] w w3:=((hc0.then hc1).then hc2).trans hc3 (fun x hx=>.inr (by simp at hx;omega));have hrun:Blk w3 w0.heap.size #[ptr L.bw,num fuel,num 0,nils] 160:=(hb1.kept hc2 (by simp)).kept hc3 (by simp;omega);have hend:Blk w3 w.heap.size #[num 0,nils] 43:=((hb0.kept hc1 (by simp)).kept hc2 (by simp)).kept hc3 (by simp;omega);have hg:=h.going hcw (show w.heap.size≤w0.heap.size by omega) hrun hfu;have HCON:=zh (hf w3 w0.heap.size (by omega) hcw hg);have x3:=hb3.cell 0 _ rfl;obtain⟨tgt,ht⟩ : ∃ q,q=o:=⟨_,rfl⟩
 obtain⟨br,hbr⟩ : ∃ b,b=w0.heap.size:=⟨_,rfl⟩
 obtain⟨bv,hbv⟩ : ∃ b,b=w1.heap.size:=⟨_,rfl⟩
 have HORD:=zh (show w.heap.size < br∧br < bv∧bv < w3.heap.size by have:=hb3.lt;omega);have HG:=zh hg;have HCW:=zh hcw;have HEND:=zh hend;have HB3:=zh hb3;have HO:=zh ho;have HVR:=zh hVr;have HX:=zh hX;have HT:=zh ht;have HH:=zh h;clear hb0 hc0 hs0 hb1 hc1 hs1 hb2 hc2 hb3 hc3 hcw hrun hend hg ho hVr hX ht h hf
 go_enter_defers Tryz.func40,Tryz.ntmps40
 go_wp2_with fail;rw [← hbr,← hbv];rw [← hbr] at HCON HG HB3;rw [← hbv] at HB3;clear hw0 hw1 hw2 hw3 f2 z2 x3 hbr hbv;refine HCON.out.mono ?_;rintro e w4 ⟨ov',hm,hc,hres⟩;have hord:=HORD.out;have hnb : ∀ x,w.heap.size≤x→x≠br→x∉X ++ mutL { L with br:=br } nils:=fun x hx hne hm=>by
  rcases List.mem_append.1 hm with hm|hm
  ·have:=HX.out x hm;omega
  ·rcases List.mem_cons.1 hm with hm|hm
   ·exact hne hm
   ·exact(HH.out.low hx).2 (by simpa [blk] using hm)
 have he4:=HEND.out.kept hc (hnb _ (Nat.le_refl _) (by omega));have hv4:=(HB3.out.kept hc (hnb _ (by omega) (by omega))).cell 0 _ rfl;have HE4:=zh he4;have HV4:=zh hv4;have HC:=zh hc;have HM:=zh hm;have hpost : ∀ w',Chg [w.heap.size] w4 w'→Chg (X ++ L.arrs) w w':=fun w' hc'=>by
  refine((HCW.out.weak).trans HC.out (fun x hx=>?_)).trans hc' (fun x hx=>.inr (by simp at hx;omega));rcases List.mem_append.1 hx with hx|hx
  ·exact .inl (List.mem_append_left _ hx)
  ·rcases List.mem_cons.1 hx with rfl|hx
   ·exact .inr (by omega)
   ·exact .inl (List.mem_append_right _ (by simpa [blk] using hx))
 have HP:=zh hpost;have hlow:=HH.out.low (Nat.le_refl w.heap.size);have HLOW:=zh hlow;cases o with
 | stuck=>exact hres.elim
 | stop way s=>
  obtain⟨⟨older,hol,rfl⟩,d',hg4⟩:=hres;obtain⟨oa,oc,rfl⟩:=slice_of_owns hg4.out;have HG4:=zh hg4;have HOL:=zh hol;clear hg4 hol hc hm hnb he4 hv4 hpost hlow;go_wp2_with fail;refine gleave_end _ w.heap.size bv br way older HOL.out _ _ _ _ _ oa _ oc w4 _ rfl HV4.out HE4.out HG4.out.run (by omega) (by omega) (fun w' hc'=>?_);have hfr:=HG4.out.from_;refine⟨_,rfl,⟨_,rfl,owns_kept HG4.out.out hc' (fun x hx hm=>by have:=hfr x hx;simp at hm this;omega),fun x hx=>by have:=hfr x hx;simp at this;omega⟩,HG4.out.home hc' (fun x hx=>by simp at hx;subst hx;exact HLOW.out),HP.out w' hc',fun a s h=>by cases h⟩
 | ok a s=>
  obtain⟨hV,hg4⟩:=hres;have hee:=HVR.out _ _ _ hV;subst hee;obtain⟨oa,oc,rfl⟩:=slice_of_owns hg4.out;have HG4:=zh hg4;have HV:=zh hV;have f0:=he4.frozen 0;have f1:=he4.frozen 1;have g0:=he4.cell 0 _ rfl;have g1:=he4.cell 1 _ rfl;clear hg4 hV hc hm hnb he4 hv4 hpost hlow;go_wp2_with fail;have hcb:Chg [w.heap.size] w4 (((w4.setCell ⟨w.heap.size,0,none⟩ (num 1)).setCell ⟨w.heap.size,0,none⟩ (num 1)).setCell ⟨w.heap.size,1,none⟩ nils):=((Chg.set1 _ _ _ _).then (Chg.set1 _ _ _ _)).then (Chg.set1 _ _ _ _)
  have hbb:=((HE4.out.set 0 (num 1)).set 0 (num 1)).set 1 nils;refine gleave_go _ w.heap.size bv br (num 1) nils _ _ _ oa _ oc _ _ rfl (hcb.cellSome HV4.out (by simp;omega)) (by simpa using hbb) (HG4.out.run.kept hcb (by simp;omega)) (fun w' hc'=>?_);have hct:=hcb.then hc'
  have hfr:=HG4.out.from_;exact⟨_,rfl,⟨_,rfl,owns_kept HG4.out.out hct (fun x hx hm=>by have:=hfr x hx;simp at hm this;omega),fun x hx=>by have:=hfr x hx;simp at this;omega⟩,HG4.out.home hct (fun x hx=>by simp at hx;subst hx;exact HLOW.out),HP.out w' hct,fun a' s' h=>by cases h;exact⟨w4,HV.out,hct⟩⟩
theorem goes_any4 {α:Type} (fid:FuncId) (k0 k1 k2 k3:Value) (hF : ∀ (args:Array Value) (w:World),(callFunc fid args).run Tryz.prog w = .ok (.enter fid args) w) (o:O α) (V:World→α→Ending→Prop) (hVr : ∀ w a e,V w a e→e = .returned (.tuple #[])) (L:Lay) (vs:Vs) (fuel:Nat) (hfu : fuel≤9223372036854775807) (X:List Nat) (w:World) (h:Home w L vs) (hX : ∀ x∈X,x < w.heap.size) (ho : o ≠ .stuck)
  (hf : ∀ w1 br,w.heap.size≤br→Chg [] w w1→Going w1 { L with br:=br } 0 ⟨fuel,[],vs⟩ nils→Calls Tryz.prog fid #[ptr br,k0,k1,k2,k3] w1 (Ran w1 { L with br:=br } 0 nils X V o)) :
  Calls Tryz.prog 40 #[ptr L.bw,num fuel,.func (.func fid) #[] #[k0,k1,k2,k3]] w (fun e w'=>∃ v,e = .returned v∧EndV w' w.heap.size (endOf o) (stOf ⟨fuel,[],vs⟩ o).out v∧Home w' L (stOf ⟨fuel,[],vs⟩ o).vs∧Chg (X ++ L.arrs) w w'∧(∀ a s,o = .ok a s → ∃ w2,V w2 a (.returned (.tuple #[]))∧Chg [w.heap.size] w2 w')):=by
 have hmf : ∀ (fn:Fn) (first cap:Array Value) (w:World),(Instr.makeFunc fn first cap).run Tryz.prog w = .ok (.func fn first cap) w:=fun _ _ _ _=>rfl
 obtain⟨w0,hw0⟩ : ∃ x,w.alloc (.cells #[num 0,nils] 43)=x:=⟨_,rfl⟩
 have hb0:Blk w0 w.heap.size #[num 0,nils] 43:=by rw [← hw0];exact Blk.new w _ _
 have hc0:Chg [] w w0:=by rw [← hw0];exact(Chg.refl _ _).alloc _
 have hs0 : w0.heap.size=w.heap.size + 1:=by rw [← hw0];simp
 obtain⟨w1,hw1⟩ : ∃ x,w0.alloc (.cells #[ptr L.bw,num fuel,num 0,nils] 160)=x:=⟨_,rfl⟩
 have hb1:Blk w1 w0.heap.size #[ptr L.bw,num fuel,num 0,nils] 160:=by rw [← hw1];exact Blk.new w0 _ _
 have hc1:Chg [] w0 w1:=by rw [← hw1];exact(Chg.refl _ _).alloc _
 have hs1 : w1.heap.size=w0.heap.size + 1:=by rw [← hw1];simp
 obtain⟨w2,hw2⟩ : ∃ x,w1.alloc (.cells #[nilp] 104)=x:=⟨_,rfl⟩
 have hb2:Blk w2 w1.heap.size #[nilp] 104:=by rw [← hw2];exact Blk.new w1 _ _
 have hc2:Chg [] w1 w2:=by rw [← hw2];exact(Chg.refl _ _).alloc _
 obtain⟨w3,hw3⟩ : ∃ x,w2.setCell ⟨w1.heap.size,0,none⟩ (ptr w0.heap.size)=x:=⟨_,rfl⟩
 have hb3:Blk w3 w1.heap.size #[ptr w0.heap.size] 104:=by rw [← hw3];simpa using hb2.set 0 (ptr w0.heap.size)
 have hc3:Chg [w1.heap.size] w2 w3:=by rw [← hw3];exact Chg.set1 _ _ _ _
 have f2:=hb2.frozen 0;have z2:=hb2.cell 0 _ rfl;have hcw:Chg [] w w3:=((hc0.then hc1).then hc2).trans hc3 (fun x hx=>.inr (by simp at hx;omega));have hrun:Blk w3 w0.heap.size #[ptr L.bw,num fuel,num 0,nils] 160:=(hb1.kept hc2 (by simp)).kept hc3 (by simp;omega);have hend:Blk w3 w.heap.size #[num 0,nils] 43:=((hb0.kept hc1 (by simp)).kept hc2 (by simp)).kept hc3 (by simp;omega);have hg:=h.going hcw (show w.heap.size≤w0.heap.size by omega) hrun hfu;have HCON:=zh (hf w3 w0.heap.size (by omega) hcw hg);have x3:=hb3.cell 0 _ rfl;obtain⟨tgt,ht⟩ : ∃ q,q=o:=⟨_,rfl⟩
 obtain⟨br,hbr⟩ : ∃ b,b=w0.heap.size:=⟨_,rfl⟩
 obtain⟨bv,hbv⟩ : ∃ b,b=w1.heap.size:=⟨_,rfl⟩
 have HORD:=zh (show w.heap.size < br∧br < bv∧bv < w3.heap.size by have:=hb3.lt;omega);have HG:=zh hg;have HCW:=zh hcw;have HEND:=zh hend;have HB3:=zh hb3;have HO:=zh ho;have HVR:=zh hVr;have HX:=zh hX;have HT:=zh ht;have HH:=zh h;clear hb0 hc0 hs0 hb1 hc1 hs1 hb2 hc2 hb3 hc3 hcw hrun hend hg ho hVr hX ht h hf
 go_enter_defers Tryz.func40,Tryz.ntmps40
 go_wp2_with fail;rw [← hbr,← hbv];rw [← hbr] at HCON HG HB3;rw [← hbv] at HB3;clear hw0 hw1 hw2 hw3 f2 z2 x3 hbr hbv;refine HCON.out.mono ?_;rintro e w4 ⟨ov',hm,hc,hres⟩;have hord:=HORD.out;have hnb : ∀ x,w.heap.size≤x→x≠br→x∉X ++ mutL { L with br:=br } nils:=fun x hx hne hm=>by
  rcases List.mem_append.1 hm with hm|hm
  ·have:=HX.out x hm;omega
  ·rcases List.mem_cons.1 hm with hm|hm
   ·exact hne hm
   ·exact(HH.out.low hx).2 (by simpa [blk] using hm)
 have he4:=HEND.out.kept hc (hnb _ (Nat.le_refl _) (by omega));have hv4:=(HB3.out.kept hc (hnb _ (by omega) (by omega))).cell 0 _ rfl;have HE4:=zh he4;have HV4:=zh hv4;have HC:=zh hc;have HM:=zh hm;have hpost : ∀ w',Chg [w.heap.size] w4 w'→Chg (X ++ L.arrs) w w':=fun w' hc'=>by
  refine((HCW.out.weak).trans HC.out (fun x hx=>?_)).trans hc' (fun x hx=>.inr (by simp at hx;omega));rcases List.mem_append.1 hx with hx|hx
  ·exact .inl (List.mem_append_left _ hx)
  ·rcases List.mem_cons.1 hx with rfl|hx
   ·exact .inr (by omega)
   ·exact .inl (List.mem_append_right _ (by simpa [blk] using hx))
 have HP:=zh hpost;have hlow:=HH.out.low (Nat.le_refl w.heap.size);have HLOW:=zh hlow;cases o with
 | stuck=>exact hres.elim
 | stop way s=>
  obtain⟨⟨older,hol,rfl⟩,d',hg4⟩:=hres;obtain⟨oa,oc,rfl⟩:=slice_of_owns hg4.out;have HG4:=zh hg4;have HOL:=zh hol;clear hg4 hol hc hm hnb he4 hv4 hpost hlow;go_wp2_with fail;refine gleave_end _ w.heap.size bv br way older HOL.out _ _ _ _ _ oa _ oc w4 _ rfl HV4.out HE4.out HG4.out.run (by omega) (by omega) (fun w' hc'=>?_);have hfr:=HG4.out.from_;refine⟨_,rfl,⟨_,rfl,owns_kept HG4.out.out hc' (fun x hx hm=>by have:=hfr x hx;simp at hm this;omega),fun x hx=>by have:=hfr x hx;simp at this;omega⟩,HG4.out.home hc' (fun x hx=>by simp at hx;subst hx;exact HLOW.out),HP.out w' hc',fun a s h=>by cases h⟩
 | ok a s=>
  obtain⟨hV,hg4⟩:=hres;have hee:=HVR.out _ _ _ hV;subst hee;obtain⟨oa,oc,rfl⟩:=slice_of_owns hg4.out;have HG4:=zh hg4;have HV:=zh hV;have f0:=he4.frozen 0;have f1:=he4.frozen 1;have g0:=he4.cell 0 _ rfl;have g1:=he4.cell 1 _ rfl;clear hg4 hV hc hm hnb he4 hv4 hpost hlow;go_wp2_with fail;have hcb:Chg [w.heap.size] w4 (((w4.setCell ⟨w.heap.size,0,none⟩ (num 1)).setCell ⟨w.heap.size,0,none⟩ (num 1)).setCell ⟨w.heap.size,1,none⟩ nils):=((Chg.set1 _ _ _ _).then (Chg.set1 _ _ _ _)).then (Chg.set1 _ _ _ _)
  have hbb:=((HE4.out.set 0 (num 1)).set 0 (num 1)).set 1 nils;refine gleave_go _ w.heap.size bv br (num 1) nils _ _ _ oa _ oc _ _ rfl (hcb.cellSome HV4.out (by simp;omega)) (by simpa using hbb) (HG4.out.run.kept hcb (by simp;omega)) (fun w' hc'=>?_);have hct:=hcb.then hc'
  have hfr:=HG4.out.from_;exact⟨_,rfl,⟨_,rfl,owns_kept HG4.out.out hct (fun x hx hm=>by have:=hfr x hx;simp at hm this;omega),fun x hx=>by have:=hfr x hx;simp at this;omega⟩,HG4.out.home hct (fun x hx=>by simp at hx;subst hx;exact HLOW.out),HP.out w' hct,fun a' s' h=>by cases h;exact⟨w4,HV.out,hct⟩⟩
end Go.Proofs.YtechofppmnnomaaGreatDoor
namespace Go.Mq.Run
open Go Go.RowKit Go.Mq Go.Mq.Tree Go.Mq.Sym
open Go.Mq.Plan (MapIs getM putM getM_put Ranging map_range map_next)
def seenOf (M:Ms):Nm→Option (List Sy):=fun q=>(M q).map ofM
theorem getM_check (es:List (Nm × Value)) (n:Nm):Check.getM es n=getM es n:=by
 induction es with
 | nil=>rfl
 | cons p r ih=>obtain⟨k,u⟩:=p;rw [Check.getM,getM,ih]
theorem mapIs_check {w:World} {b:Nat} {es:List (Nm × Value)} (h:MapIs w b es):Check.MapIs w b es:=by
 obtain⟨arr,clock,h1,h2,_⟩:=h;exact⟨arr,clock,h1,h2⟩
theorem getM_in {es:List (Nm × Value)} {n:Nm} (h : (getM es n).isSome=true) : n∈es.map (·.1):=by
 induction es with
 | nil=>cases h
 | cons p r ih=>
  obtain⟨k,u⟩:=p;rw [getM] at h;split at h
  ·next hk=>simp [hk]
  ·have:=ih h;simp at this ⊢;exact .inr this
def Parts (w:World) (L:Lay):Prop:=(L.M=(fun _=>none)∧Blk w L.bw #[.map none,nils] 40)∨Stat w L
theorem Parts.kept {w w':World} {L:Lay} (h:Parts w L) (hc:Chg [] w w'):Parts w' L:=by
 rcases h with⟨h1,h2⟩|h
 ·exact .inl ⟨h1,h2.kept hc (by simp)⟩
 ·exact .inr (h.kept hc (by simp))
section
variable {P:Program}
theorem range_nil {t k e:TypeId} (ht:P.underlying t=some (.map k e)) (w:World) : (Instr.range t (.map none)).run P w = .ok (.pointer (some ⟨w.heap.size,0,none⟩)) (w.alloc (.mapIter none 0 #[] 0)):=by
 simp [Instr.range,run_underlying ht]
theorem next_nil {w:World} {r:Nat} (h : w.heap[r]?=some (.mapIter none 0 #[] 0)) (ty:TypeId) : (Instr.next (.pointer (some ⟨r,0,none⟩)) false ty).run P w = .ok (.tuple #[.bool false]) w:=by
 simp [Instr.next,getObj,Sem.run,h]
end
end Go.Mq.Run
namespace Go.Proofs.YtechofppmnnomaaGreatDoor
open Go Go.RowKit Go.Mq Go.Mq.Tree Go.Mq.Sym Go.Mq.Run
open Go.Mq.Plan (MapIs getM putM getM_put Ranging map_range map_next run_putM)
set_option maxRecDepth 100000
set_option maxHeartbeats 4000000
theorem rnext_ty {r:Nat} {w w':World} {v:Value} {ty:TypeId} (h : (Instr.next (.pointer (some ⟨r,0,none⟩)) false ty).run Tryz.prog w = .ok v w') : ∀ ty',(Instr.next (.pointer (some ⟨r,0,none⟩)) false ty').run Tryz.prog w = .ok v w':=fun _=>h
theorem seen_any (L:Lay) (w:World) (hp:Parts w L) (hfix : ∀ x,L.Fix x→x < w.heap.size) (hgood : ∀ q m,L.M q=some m→m.vars.length≤10∧m.procs.length≤10) :
  Calls Tryz.prog 38 #[ptr L.bw] w (fun e w'=>∃ v,e = .returned v∧Check.SeenAt w' (New w w') (seenOf L.M) v∧Chg [] w w'):=by
 have hmm:=@run_makeMap Tryz.prog;obtain⟨wa,hwa⟩ : ∃ x,w.alloc (.map #[] 0)=x:=⟨_,rfl⟩
 have hma:MapIs wa w.heap.size []:=by rw [← hwa];exact MapIs.made w
 have hca:Chg [] w wa:=by rw [← hwa];exact(Chg.refl _ _).alloc _
 have hsa : wa.heap.size=w.heap.size + 1:=by rw [← hwa];simp
 rcases hp.kept hca with⟨hM,hb⟩|hst
 ·have hrg:=range_nil (P:=Tryz.prog) Tryz.underlying38 wa
  obtain⟨wb,hwb⟩ : ∃ x,wa.alloc (.mapIter none 0 #[] 0)=x:=⟨_,rfl⟩
  rw [hwb] at hrg;have hit : wb.heap[wa.heap.size]?=some (.mapIter none 0 #[] 0):=by rw [← hwb];exact heap_alloc_new wa _
  have hcb:Chg [] wa wb:=by rw [← hwb];exact(Chg.refl _ _).alloc _
  have hnx:=rnext_ty (next_nil (P:=Tryz.prog) hit 0);have b0:=hb.cell 0 _ rfl;have HM:=zh hM;have HMB:=zh (hma.kept hcb (by simp));have HC:=zh (hca.then hcb);clear hma hca hsa hb hit hcb hM
  go_enter Tryz.func38,Tryz.ntmps38
  go_wp2_with fail;refine wp_loop_rounds 1 ?_;rw [rounds_succ];go_wp2_with fail;go_ret
  have hs:=HC.out.size;have hl:=HMB.out.lt;exact⟨_,rfl,.inr ⟨w.heap.size,[],rfl,⟨Nat.le_refl _,hl⟩,mapIs_check HMB.out,fun n=>by rw [seenOf,HM.out];rfl⟩,HC.out⟩
 ·obtain⟨hown,bp,pes,ordv,hbw,hfp,hpm,hall⟩:=hst
  have b0:=hbw.cell 0 _ rfl;obtain⟨wb,hrg,hri,hcb,hsb⟩:=map_range (P:=Tryz.prog) Tryz.underlying38 hpm;have hbpl:=hpm.lt;have HOWN:=zh hown;have HBP:=zh (hfix bp hfp);have hstb:Mq.Run.Stat wb L:=(show Mq.Run.Stat wa L from⟨hown,bp,pes,ordv,hbw,hfp,hpm,hall⟩).kept hcb (by simp);have HST:=zh hstb;have HMB:=zh (hma.kept hcb (by simp));have HC:=zh (hca.then hcb);have HRI:=zh hri;have HG:=zh hgood;have HFX:=zh hfix;have HALL:=zh hall;have HPM:=zh hpm;have hml:=(hma.kept hcb (by simp)).lt;clear hma hca hbw hpm hri hcb hgood hall hstb hfix
  go_enter Tryz.func38,Tryz.ntmps38
  go_wp2_with fail;clear hwa hrg b0;rw [hsa] at HRI;obtain⟨r,hr⟩ : ∃ r,r=w.heap.size + 1:=⟨_,rfl⟩
  rw [← hr] at HRI ⊢;have HR:=zh hr;have hsb' : wb.heap.size=w.heap.size + 2:=by omega
  have HSB:=zh hsb';clear hr hsa hsb hsb' hml
  go_loopw [4,5] (fun _ _ wr=>∃ rest els,Ranging wr bp r pes rest∧MapIs wr w.heap.size els∧(∀ q,q∉rest→match L.M q with
   | none=>getM els q=none
   | some m=>∃ u,getM els q=some u∧SymsAt wr (fun x=>r < x∧x < wr.heap.size) (ofM m) u)∧Chg [] w wr∧Chg [w.heap.size,r] wb wr) (fun _ _ wr=>wr.rangeLeft bp r)
  case atStart=>exact⟨_,[],HRI.out,HMB.out,fun q hq=>by
   have:=HALL.out q;cases hM:L.M q with
   | none=>rfl
   | some m=>
    rw [hM] at this;exact absurd (getM_in (by rw [this.1];rfl)) hq,HC.out,Chg.refl _ _⟩
  case round=>
   obtain⟨rest,els,hri,hmb,hinv,hcw,hc⟩:=hrel;have hr:=HR.out;have hsb:=HSB.out;have hbp:=HBP.out;have hnb : bp≠w.heap.size:=by omega
   have HINV:=zh hinv;have HCW:=zh hcw;have HC2:=zh hc;have HML:=zh hmb;rcases map_next (P:=Tryz.prog) hri (by omega) 0 with⟨hnil,hnx⟩|⟨n,v,rest',wn,hn1,hn2,hn3,hn4,hn5,hnx,hri2,hcn,hent⟩
   ·have hnx':=rnext_ty hnx
    subst hnil;clear hinv hcw hc hmb hnx hri HC HRI HMB hr hsb;go_wp2_with fail;go_ret
    have hr:=HR.out;have hl:=HML.out.lt;refine⟨_,rfl,.inr ⟨w.heap.size,els,rfl,⟨Nat.le_refl _,hl⟩,mapIs_check HML.out,fun q=>?_⟩,HCW.out⟩;have:=HINV.out q (by simp);rw [seenOf];cases hM:L.M q with
    | none=>rw [hM] at this;rw [getM_check];exact this
    | some m=>
     rw [hM] at this;obtain⟨u,h1,h2⟩:=this;have hl2:=HG.out q m hM;exact⟨by have:=seenL_len hl2.1 hl2.2;rw [ofM];omega,u,by rw [getM_check];exact h1,h2.mono (fun x hx=>⟨by have:=hx.1;omega,hx.2⟩)⟩
   ·have hnx':=rnext_ty hnx
    have hq:=HALL.out n;cases hM:L.M n with
    | none=>rw [hM] at hq;simp only at hq;rw [hq] at hn3;cases hn3
    | some m=>
     rw [hM] at hq;have hv : v=ptr (L.pb n):=by have:=hq.1;rw [hn3] at this;cases this;rfl
     subst hv;have hstn:Mq.Run.Stat wn L:=HST.out.kept (hc.then (hcn.mono (fun x hx=>.inl (by simp at hx;simp [hx])))) (fun x hx hf=>by have:=HFX.out x hf;simp at hx;omega);obtain⟨_,_,_,_,_,_,_,hall2⟩:=hstn;have hq2:=hall2 n;rw [hM] at hq2;obtain⟨_,hpo,hfew,ai,ci,av,cv,ap,cp,ab,cb,bv,es,h3,h4,_⟩:=hq2;have p0:=h3.cell 0 _ rfl;have p1:=h3.cell 1 _ rfl;have p2:=h3.cell 2 _ rfl;have p3:=h3.cell 3 _ rfl;have p4:=h3.cell 4 _ rfl;have hlen:=HG.out n m hM;obtain⟨vi,vv,vp,vb,he,_,hgl,hpr,_⟩:=h4;cases he
     have HOF:=zh (of_any m.vars m.procs hlen.1 hlen.2 L.Fix m.name ai m.imports.length ci ab m.body.len cb _ _ wn hgl (procsL_of hpr));have HRI2:=zh hri2;have HRL:=zh hri.left_eq;have HN5:=zh hn5;have HN4:=zh hn4;have HCN:=zh hcn;have HM:=zh hM;have HMN:=zh (hmb.kept hcn (by simp;omega));clear hinv hcw hc hmb hnx hri hri2 hcn hn1 hn2 hn3 hn4 hn5 hq hall2 h3 hgl hpr hfew hM hlen HC HRI HMB hr hsb;go_wp2_with fail;refine HOF.out.mono ?_;rintro e w2 ⟨u,rfl,hu,hc2⟩;obtain⟨w3,hup,hm3,hc3⟩:=run_putM (P:=Tryz.prog) Tryz.underlying97 Tryz.underlying9 (HMN.out.kept hc2 (by simp)) n u;have HU:=zh hu;have HC2':=zh hc2;have HC3:=zh hc3;have HM3:=zh hm3;obtain⟨ua,uc,rfl,_,_,_⟩:=hu;clear hc2 hc3 hm3;have hs23:=HC3.out.size;have HS23:=zh hs23;clear hs23;go_wp2_with fail;have hs23:=HS23.out;have hs2:=HC2'.out.size;have hsn:=HCN.out.size;have hsw:=HCW.out.size;have hrl:=HRI2.out.lt;have hr:=HR.out;have hsb:=HSB.out;have hri3:=(HRI2.out.kept HC2'.out (by simp) (by simp)).kept HC3.out (by simp;omega) (by simp;omega);have hcw3:Chg [] w w3:=(((HCW.out.trans HCN.out (fun x hx=>.inr (by simp at hx;omega))).then HC2'.out)).trans HC3.out (fun x hx=>.inr (by simp at hx;omega));refine⟨⟨rest',_,hri3,HM3.out,fun q hq=>?_,hcw3,?_⟩,?_⟩
     ·rw [getM_put]
      by_cases hqn : n=q
      ·subst hqn
       rw [HM.out,if_pos rfl];exact⟨_,rfl,(HU.out.kept HC3.out (fun x hx hf=>by simp at hx;subst hx;have:=hf.1;omega)).mono (fun x hx=>⟨by have:=hx.1;omega,by have:=hx.2;omega⟩)⟩
      ·rw [if_neg hqn]
       have hq2 : q∉rest:=fun hqr=>hq (HN4.out q hqr (Ne.symm hqn))
       have:=HINV.out q hq2;cases hMq:L.M q with
       | none=>rw [hMq] at this;exact this
       | some mq=>
        rw [hMq] at this;obtain⟨u',h1,h2⟩:=this;exact⟨u',h1,(((h2.kept HCN.out (fun x hx hf=>by simp at hx;subst hx;have:=hf.1;omega)).kept HC2'.out (by simp)).kept HC3.out (fun x hx hf=>by simp at hx;subst hx;have:=hf.1;omega)).mono (fun x hx=>⟨hx.1,by have:=hx.2;omega⟩)⟩
     ·exact((HC2.out.then (HCN.out.mono (fun x hx=>.inl (by simp at hx;simp [hx])))).then HC2'.out.weak).then (HC3.out.mono (fun x hx=>.inl (by simp at hx;simp [hx])))
     ·rw [hri3.left_eq,HRL.out]
      exact HN5.out
end Go.Proofs.YtechofppmnnomaaGreatDoor
namespace Go.Mq.Run
open Go Go.RowKit Go.Mq Go.Mq.Tree
def zeros (k:Nat):List Int:=List.replicate k 0
def sizeG (g:Glob):Nat:=(max g.len 1).toNat
def startF (l:List Glob):Nm→Option (List Int):=l.foldl (fun f g=>fun n=>if g.name=n then some (zeros (sizeG g)) else f n) fun _=>none
theorem startF_snoc (l:List Glob) (g:Glob) : startF (l ++ [g])=fun n=>if g.name=n then some (zeros (sizeG g)) else startF l n:=by rw [startF,List.foldl_append];rfl
end Go.Mq.Run
namespace Go.Mq.Run
open Go Go.RowKit Go.Mq Go.Mq.Tree
theorem set4R {w:World} {b:Nat} (v0 v1 v2 v3:Value) {u0 u1 u2 u3:Value} {t:TypeId} (h:Blk w b #[u0,u1,u2,u3] t) : ∃ wF,((((w.setCell ⟨b,0,none⟩ v0).setCell ⟨b,1,none⟩ v1).setCell ⟨b,2,none⟩ v2).setCell ⟨b,3,none⟩ v3)=wF∧Chg [b] w wF∧Blk wF b #[v0,v1,v2,v3] t:=
 ⟨_,rfl,(((Chg.set1 _ _ _ _).then (Chg.set1 _ _ _ _)).then (Chg.set1 _ _ _ _)).then (Chg.set1 _ _ _ _),by
  have:=(((h.set 0 v0).set 1 v1).set 2 v2).set 3 v3
  simpa using this⟩
end Go.Mq.Run
namespace Go.Proofs.YtechofppmnnomaaGreatDoor
open Go Go.RowKit Go.Mq Go.Mq.Tree Go.Mq.Run
set_option maxRecDepth 100000
set_option maxHeartbeats 4000000
theorem make_ints (w:World) (k:Nat) (hk : k≤1000) : (Instr.makeSlice 41 (num k) (num k)).run Tryz.prog w = .ok (.slice (some ⟨w.heap.size,0,none⟩) k k) (w.alloc (.cells (ints (zeros k)).toArray i64T)):=by
 obtain⟨i,hi⟩ : ∃ i,Tryz.prog.info? 2=some i:=by
  cases h:Tryz.prog.info? 2 with
  | some i=>exact⟨i,rfl⟩
  | none=>have:=infoInt;rw [show Tryz.prog.info? i64T=none from h] at this;cases this
 have hz : i.zero=some (num 0)∧i.size=1∧i.bytes=8:=by
  have:=infoInt;rw [show Tryz.prog.info? i64T=some i from hi] at this;simp only [Option.map_some,Option.some.injEq,Prod.mk.injEq] at this;exact this
 have h:=run_makeSlice (P:=Tryz.prog) w 41 2 i (num 0) Tryz.underlying41 hi hz.1 .i64 .i64 k k (by omega) (Int.le_refl _) (by rw [hz.2.1];simp;omega) (by rw [hz.2.2];omega) (by omega);simp only [Int.toNat_natCast,hz.2.1,Nat.mul_one] at h;rw [h];have hm : madeCells (num 0).cells k=(ints (zeros k)).toArray:=by
  apply Array.ext'
  rw [show (num 0).cells = #[num 0] from rfl,toList_madeCells_one];simp [ints,zeros]
 rw [hm]
structure VarsAt (w:World) (lo b:Nat) (l:List Glob) (dim:Nm→Option (Nat × Nat)) (arrs:List Nat):Prop where
 map : ∃ es,Plan.MapIs w b es ∧ ∀ n,Plan.getM es n=(dim n).map fun x=>.slice (some ⟨x.1,0,none⟩) x.2 x.2
 inj : ∀ {n k n' k' a},dim n=some (a,k)→dim n'=some (a,k')→n=n'
 arr : ∀ {n a k},dim n=some (a,k)→a∈arrs∧1≤k∧k≤1000
 low : ∀ {a},a∈arrs→lo≤a∧a < w.heap.size ∧ ∃ k,Blk w a (ints (zeros k)).toArray i64T
 is : ∀ n,match dim n with
  | some x=>startF l n=some (zeros x.2)∧Blk w x.1 (ints (zeros x.2)).toArray i64T
  | none=>startF l n=none
theorem VarsAt.keptS {w w':World} {lo b:Nat} {l:List Glob} {dim:Nm→Option (Nat × Nat)} {arrs:List Nat} (h:VarsAt w lo b l dim arrs) (hc:Chg [] w w'):VarsAt w' lo b l dim arrs:=by
 obtain⟨es,h1,h2⟩:=h.map;refine⟨⟨es,h1.kept hc (by simp),h2⟩,h.inj,h.arr,fun ha=>?_,fun n=>?_⟩
 ·obtain⟨h3,h4,k,h5⟩:=h.low ha
  exact⟨h3,by have:=hc.size;omega,k,h5.kept hc (by simp)⟩
 ·have:=h.is n
  cases hd : dim n with
  | none=>rw [hd] at this;exact this
  | some x=>rw [hd] at this;exact⟨this.1,this.2.kept hc (by simp)⟩
theorem start_any (m:Mod) (hfew : m.vars.length≤10) (hlen : ∀ g∈m.vars,0≤g.len∧g.len≤30) (F:Nat→Prop) (x1:Option Addr) (y1 z1:Nat) (av:Option Addr) (cv:Nat) (x3:Option Addr) (y3 z3:Nat) (x4:Option Addr) (y4 z4:Nat) (w:World) (hg:GlobsAt w F m.vars (.slice av m.vars.length cv)) :
  Calls Tryz.prog 39 #[.agg #[str m.name,.slice x1 y1 z1,.slice av m.vars.length cv,.slice x3 y3 z3,.slice x4 y4 z4]] w (fun e w'=>∃ b dim arrs,e = .returned (.map (some b))∧w.heap.size≤b∧VarsAt w' w.heap.size b m.vars dim arrs∧Chg [] w w'):=by
 have hmm:=@run_makeMap Tryz.prog;obtain⟨a',c',he,hcv,hrow⟩:=hg;cases he
 obtain⟨w0,hw0⟩ : ∃ x,w.alloc (.cells #[str m.name,.slice x1 y1 z1,.slice av m.vars.length cv,.slice x3 y3 z3,.slice x4 y4 z4] 32)=x:=⟨_,rfl⟩
 have hb0:Blk w0 w.heap.size #[str m.name,.slice x1 y1 z1,.slice av m.vars.length cv,.slice x3 y3 z3,.slice x4 y4 z4] 32:=by rw [← hw0];exact Blk.new w _ _
 have hc0:Chg [] w w0:=by rw [← hw0];exact(Chg.refl _ _).alloc _
 have hs0 : w0.heap.size=w.heap.size + 1:=by rw [← hw0];simp
 obtain⟨w1,hw1⟩ : ∃ x,w0.alloc (.map #[] 0)=x:=⟨_,rfl⟩
 have hm1:Plan.MapIs w1 w0.heap.size []:=by rw [← hw1];exact Plan.MapIs.made w0
 have hc1:Chg [] w0 w1:=by rw [← hw1];exact(Chg.refl _ _).alloc _
 have d2:=(hb0.kept hc1 (by simp)).cell 2 _ rfl;obtain⟨bm,hbm⟩ : ∃ b,b=w0.heap.size:=⟨_,rfl⟩
 have HBM:=zh (show bm=w.heap.size + 1 by omega);have HROW:=zh (row_lt hrow);have HC:=zh (hc0.then hc1);have HM:=zh hm1;have HLEN:=zh hlen;have HSZ:=zh (show bm < w1.heap.size by rw [hbm];exact hm1.lt);clear hrow hb0 hc0 hs0 hm1 hc1 hlen
 go_enter Tryz.func39,Tryz.ntmps39
 go_wp2_with fail;rw [← hbm];rw [← hbm] at HM;clear hw0 hw1 hbm d2
 go_loopw [5,10] (fun _ i wr=>∃ (k:Nat) (dim:Nm→Option (Nat × Nat)) (arrs:List Nat),i = .int .i64 k∧k≤m.vars.length∧VarsAt wr w.heap.size bm (m.vars.take k) dim arrs∧(∀ a∈arrs,bm < a)∧Chg [bm] w1 wr) (fun _ i _=>m.vars.length - (intOf i).toNat)
 case atStart=>exact⟨0,fun _=>none,[],rfl,Nat.zero_le _,⟨⟨[],HM.out,fun n=>rfl⟩,(fun h=>by cases h),(fun h=>by cases h),(fun h=>by cases h),fun n=>rfl⟩,(fun a h=>by cases h),Chg.refl _ _⟩
 case round=>
  obtain⟨k,dim,arrs,rfl,hk,hva,hgt,hc⟩:=hrel;have HVA:=zh hva;have HGT:=zh hgt;have HC2:=zh hc;by_cases hlt : k < m.vars.length
  ·obtain⟨g,hgk⟩ : ∃ g,m.vars[k]?=some g:=⟨m.vars[k],List.getElem?_eq_getElem hlt⟩
   obtain⟨bb,off,rfl,d0,d1,d2,d3⟩:=Check.glob_cells ((HROW.out.kept HC.out (by simp)).kept hc (fun x hx hh=>by have:=hh.1;have:=HBM.out;simp at hx;omega)) hgk;have hz:=Blk.new wr #[str [],num 0,num 0,.bool false] 68;obtain⟨wA,hwA⟩ : ∃ wA,wr.alloc (.cells #[str [],num 0,num 0,.bool false] 68)=wA:=⟨_,rfl⟩
   rw [hwA] at hz;have hcA:Chg [] wr wA:=by rw [← hwA];exact(Chg.refl _ _).alloc _
   obtain⟨wF,hwF,hcF,hbF⟩:=set4R (str g.name) (num g.pos) (num g.len) (.bool g.seen) hz;have hcw:Chg [] wr wF:=hcA.trans hcF (fun x hx=>.inr (by simp at hx;omega));have g0:=hcA.cellSome d0 (by simp);have g1:=hcA.cellSome d1 (by simp);have g2:=hcA.cellSome d2 (by simp);have g3:=hcA.cellSome d3 (by simp);have z0:=hz.cell 0 _ rfl;have z1:=hz.cell 1 _ rfl;have z2:=hz.cell 2 _ rfl;have z3:=hz.cell 3 _ rfl;have y0:=hz.frozen 0;have y1:=hz.frozen 1;have y2:=hz.frozen 2;have y3:=hz.frozen 3;have e0:=hbF.cell 0 _ rfl;have e2:=hbF.cell 2 _ rfl;obtain⟨hl0,hl30⟩:=HLEN.out g (List.mem_of_getElem? hgk);have hmx : max g.len 1=((sizeG g:Nat):Int):=by rw [sizeG];omega
   have hsz1 : 1≤sizeG g∧sizeG g≤30:=by rw [sizeG];omega
   have hmk:=make_ints wF.drew (sizeG g) (by omega);obtain⟨w5,hw5⟩ : ∃ x,wF.drew.alloc (.cells (ints (zeros (sizeG g))).toArray i64T)=x:=⟨_,rfl⟩
   rw [hw5] at hmk;have hc5:Chg [] wr w5:=hcw.then (by rw [← hw5];exact(Chg.refl _ _).drew.alloc _)
   have hcF5:Chg [] wF w5:=by rw [← hw5];exact(Chg.refl _ _).drew.alloc _
   have i0:=hcF5.cellSome e0 (by simp);have i2:=hcF5.cellSome e2 (by simp);have hb5:Blk w5 wF.heap.size (ints (zeros (sizeG g))).toArray i64T:=by rw [← hw5];exact Blk.new wF.drew _ _
   have HB5:=zh hb5;clear hcF5 hb5;obtain⟨es,hme,hes⟩:=hva.map;obtain⟨w6,hup,hm6,hc6⟩:=Plan.run_putM (P:=Tryz.prog) Tryz.underlying99 Tryz.underlying9 (hme.kept hc5 (by simp)) g.name (.slice (some ⟨wF.heap.size,0,none⟩) (sizeG g) (sizeG g));have HCW:=zh hcw;have HM6:=zh hm6;have HC5:=zh hc5;have HC6:=zh hc6;have HES:=zh hes;have HGK:=zh hgk;have HS1:=zh hsz1;clear hva hgt hc hz hcA hcF hbF hcw hl0 hl30 hc5 hme hes hm6 hc6 hgk hsz1;go_wp2_with fail
   go_region
   all_goals (try go_wp2_with fail)
   have hsF:=HC5.out.size;have hs6:=HC6.out.size;have hwF5:=HB5.out.lt;have hbm1:=HSZ.out;have hwr1:=HC2.out.size;have hwFr : wr.heap.size≤wF.heap.size:=HCW.out.size;have hne : wF.heap.size≠bm:=by omega
   have hgk:=HGK.out;refine⟨⟨k + 1,fun n=>if g.name=n then some (wF.heap.size,sizeG g) else dim n,wF.heap.size :: arrs,by go_num,by omega,⟨⟨_,HM6.out,fun n=>?_⟩,?_,?_,?_,fun n=>?_⟩,?_,(HC2.out.then HC5.out.weak).then HC6.out⟩,by simp [intOf];omega⟩
   ·rw [Plan.getM_put,HES.out]
    by_cases hn : g.name=n
    ·simp [hn]
    ·simp [hn]
   ·intro n k n' k' a h1 h2
    split at h1 <;> split at h2
    ·next e1 e2=>rw [← e1,← e2]
    ·next e1 e2=>cases h1;have:=((HVA.out.low ((HVA.out.arr h2).1))).2.1;omega
    ·next e1 e2=>cases h2;have:=((HVA.out.low ((HVA.out.arr h1).1))).2.1;omega
    ·exact HVA.out.inj h1 h2
   ·intro n a k h1
    split at h1
    ·cases h1;have:=HS1.out;exact⟨List.mem_cons_self,by omega,by omega⟩
    ·obtain⟨h3,h4⟩:=HVA.out.arr h1;exact⟨List.mem_cons_of_mem _ h3,h4⟩
   ·intro a ha
    rcases List.mem_cons.1 ha with rfl|ha
    ·have:=HBM.out
     exact⟨by omega,by omega,_,HB5.out.kept HC6.out (by simpa using hne)⟩
    ·obtain⟨h3,h4,k',h5⟩:=HVA.out.low ha
     have:=HGT.out a ha;exact⟨h3,by omega,k',(h5.kept HC5.out (by simp)).kept HC6.out (by simp;omega)⟩
   ·rw [take_get hgk,startF_snoc]
    by_cases hn : g.name=n
    ·simp only [hn,if_true]
     exact⟨trivial,HB5.out.kept HC6.out (by simpa using hne)⟩
    ·simp only [hn,if_false]
     have:=HVA.out.is n;cases hd : dim n with
     | none=>rw [hd] at this;exact this
     | some x=>
      rw [hd] at this;have hx:=HGT.out x.1 (HVA.out.arr (show dim n=some (x.1,x.2) from hd)).1;exact⟨this.1,(this.2.kept HC5.out (by simp)).kept HC6.out (by simp;omega)⟩
   ·intro a ha
    rcases List.mem_cons.1 ha with rfl|ha
    ·omega
    ·exact HGT.out a ha
  ·have hkn : k=m.vars.length:=by omega
   have HV2:=zh (show VarsAt wr w.heap.size bm m.vars dim arrs by rw [List.take_of_length_le (by omega)] at hva;exact hva);clear hva hgt hc;go_wp2_with fail;go_ret
   exact⟨bm,dim,arrs,rfl,by have:=HBM.out;omega,HV2.out,HC.out.trans HC2.out (fun x hx=>.inr (by have:=HBM.out;simp at hx;omega))⟩
end Go.Proofs.YtechofppmnnomaaGreatDoor
