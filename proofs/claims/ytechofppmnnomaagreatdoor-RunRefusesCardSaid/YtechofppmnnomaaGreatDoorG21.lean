/- Some texts in one. -/
import Derived.Defers
import Derived.Recover
import Derived.Test.YtechofppmnnomaaGreatDoorG4
import Derived.Test.YtechofppmnnomaaGreatDoorG18
import Derived.Test.YtechofppmnnomaaGreatDoorG19
import Derived.Test.YtechofppmnnomaaGreatDoorG20
namespace Go.Mq.Run
open Go Go.RowKit Go.Mq Go.Mq.Tree
open Go.Mq.Plan (MapIs getM putM)
def setTail (F:Fns) (d:Nat) (q:Nm) (fr:Fr) (n:Nm) (v:E) (k:Int) (s:St):O (Fl × Fr):=(F.e d q fr v s).bind fun v s=>setO q fr n k v s
theorem FrAt.put {w':World} {b:Nat} {fr:Fr} {n:Nm} {v:Int} (hm:MapIs w' b (putM (fr.map fun p=>(p.1,num p.2)) n (num v))):FrAt w' (some b) (putF fr n v):=.inr ⟨b,rfl,by rw [putM_fr] at hm;exact hm⟩
theorem getF_some {w:World} {ob:Option Nat} {fr:Fr} {n:Nm} {v:Int} (h:FrAt w ob fr) (hg : getF fr n=some v) : ∃ b,ob=some b∧MapIs w b (fr.map fun p=>(p.1,num p.2)):=by
 rcases h with⟨_,rfl⟩|⟨b,h1,h2⟩
 ·cases hg
 ·exact⟨b,h1,h2⟩
end Go.Mq.Run
namespace Go.Proofs.YtechofppmnnomaaGreatDoor
open Go Go.RowKit Go.Mq Go.Mq.Tree Go.Mq.Run
open Go.Mq.Plan (MapIs getM putM run_putM)
open Go.Mq.Check (FewM FewS FewE argsN)
set_option maxRecDepth 100000
set_option maxHeartbeats 4000000
theorem set_plain (g:Nat) (hE:ConE g) {L:Lay} {d:Nat} {q:Nm} {fr:Fr} {p:Nat} {n:Nm} {v:E} {s:St} {w:World} {ov:Value} {ob:Option Nat} {uv:Value} {m:Mod} (tgt:O (Fl × Fr)) (h:Going w L d s ov) (hq:L.M q=some m) (hfr:FrAt w ob fr) (hfx : ∀ b,ob=some b→¬ L.Fix b) (hvl:EAt w L.Fix v [uv]) (hfe:FewE v) (ht : tgt=setTail (fns L.M g) d q fr n v 0 s) (hne : tgt ≠ .stuck) :
  Calls Tryz.prog 116 #[ptr L.br,ptr (L.pb q),.map ob,.agg #[num 1,num p,str n,nilp,uv,nils,nils]] w (Ran w L d ov ob.toList (FlowV ob) tgt):=by
 obtain⟨wA,hwA⟩ : ∃ x,w.alloc (.cells #[num 1,num p,str n,nilp,uv,nils,nils] 168)=x:=⟨_,rfl⟩
 have hc0:Chg [] w wA:=by rw [← hwA];exact(Chg.refl _ _).alloc _
 have hbx:Blk wA w.heap.size #[num 1,num p,str n,nilp,uv,nils,nils] 168:=by rw [← hwA];exact Blk.new w _ _
 have b3:=hbx.cell 3 _ rfl;have b4:=hbx.cell 4 _ rfl;have HBXA:=zh hbx;have HC0:=zh hc0;have HGA:=zh (h.kept hc0);have HFRA:=zh (hfr.kept hc0 (by simp));have HVLA:=zh (hvl.kept hc0 (by simp));have HFX:=zh hfx;have HQ:=zh hq;have HFE:=zh hfe;have HNE:=zh hne;have HTT:=zh ht;clear h hbx hc0 hfr hvl hq hfe hne ht hfx
 go_enter Tryz.func116,Tryz.ntmps116
 go_wp2_with fail;obtain⟨k,hk⟩ : ∃ k:Int,k=0:=⟨_,rfl⟩
 rw [← hk];have HK:=zh hk;clear hk hwA;have HG1:=HGA;have HBX1:=HBXA;have HFR1:=HFRA;have HVL1:=HVLA;have HT1:=zh (show tgt=setTail (fns L.M g) d q fr n v k s by rw [HTT.out,HK.out]);have HCV:=zh (hE HG1.out HQ.out HFR1.out HVL1.out HFE.out (fun hs=>HNE.out (by rw [HT1.out,setTail,hs];rfl)));cases hr : (fns L.M g).e d q fr v s with
 | stuck=>exact absurd (by rw [HT1.out,setTail,hr];rfl) HNE.out
 | stop way s2=>
  rw [hr] at HCV;have HT:=zh (show tgt = .stop way s2 by rw [HT1.out,setTail,hr];rfl);clear hr;go_wp2_with fail;refine HCV.out.mono ?_;rintro e w2 ⟨ov2,hm,hc,⟨older,hol,rfl⟩,d',hg⟩;have HM2:=zh hm;have HC2:=zh hc;have HG2:=zh hg;clear hm hc hg;go_wp2_with fail;refine⟨rfl,?_⟩;rw [HT.out];exact(fun hh=>Ran.after hh HC0.out) (Ran.ended HM2.out HC2.out HG2.out (Chg.refl _ _) ⟨older,hol,rfl⟩)
 | ok z s2=>
  rw [hr] at HCV;have ht2 : tgt=setO q fr n k z s2:=by rw [HT1.out,setTail,hr];rfl
  clear hr;go_wp2_with fail;refine HCV.out.mono ?_;rintro e w2 ⟨ov2,hm,hc,rfl,hg⟩;have hnb:=HG1.out.notblk HBX1.out (by decide) (by decide);have HM2:=zh hm;have HC2:=zh hc;have HG2:=zh hg;have HBX2:=zh (HBX1.out.kept hc (by simpa using hnb));have HFR2:=zh (HFR1.out.kept hc (by simpa using HFR1.out.notmut HG1.out));have HNB2:=zh (notmut_moved (L:=L) hm HBX1.out.lt hnb);have b2:=HBX2.out.cell 2 _ rfl;have hl:=look_local HFR2.out n;cases hgf : getF fr n with
  | some old=>
   obtain⟨bf,rfl,hmap⟩:=getF_some HFR2.out hgf;rw [hgf] at hl;have hT : tgt = .ok (.go,putF fr n z) s2:=by rw [ht2,setO,hgf]
   have HT:=zh hT;have hnf:=hg.notmap hmap;obtain⟨w3,hu,hmap3,hc3⟩:=run_putM (P:=Tryz.prog) Tryz.underlying165 Tryz.underlying9 hmap n (num z);have HM3:=zh hmap3;have HC3:=zh hc3;have HNF:=zh hnf;have HNX:=zh (show ¬ L.Fix bf from fun hf=>HFX.out bf rfl hf);clear hm hc hg hnb hT ht2 hgf hmap hmap3 hc3 hnf b3 b4;go_wp2_with fail;refine bodyPost_end (results_none rfl _ _ _) rfl ?_;rw [HT.out];refine(fun hh=>Ran.after hh HC0.out) (show Ran wA L d ov [bf] (FlowV (some bf)) (.ok (.go,putF fr n z) s2) _ w3 from⟨ov2,HM2.out,(HC2.out.mono (fun x hx=>.inl (by simp at hx ⊢;exact .inr hx))).trans HC3.out (fun x hx=>.inl (by simp at hx;simp [hx])),⟨FrAt.put HM3.out,rfl⟩,HG2.out.aside HC3.out (fun x hx=>by simp at hx;subst hx;exact⟨HNF.out,HNX.out⟩)⟩)
  | none=>
   rw [hgf] at hl;obtain⟨wD,hwD⟩ : ∃ x,x=w2.drew:=⟨_,rfl⟩
   have hcD:Chg [] w2 wD:=by rw [hwD];exact(Chg.refl [] w2).drew
   have HCD:=zh hcD;have HGD:=zh (hg.kept hcD);obtain⟨c0,c1,c2,c3,c4,bm,hpb,hpf,hlk⟩:=part_vars HGD.out HQ.out;have p5:=hpb.cell 5 _ rfl;have q2:=(HBX2.out.kept hcD (by simp)).cell 2 _ rfl;have HFRD:=zh (HFR2.out.kept hcD (by simp));have Z1:=zh (Zone.of (X:=mutL L ov2) q2 HNB2.out);have Z3:=zh (Zone.of (X:=mutL L ov2) p5 (fun hm=>HGD.out.notfix _ hm hpf));have Y1:=zh (show ∃ off u,wD.cell? ⟨w.heap.size,off,none⟩=some u from⟨_,_,q2⟩);have Y3:=zh (show ∃ off u,wD.cell? ⟨L.pb q,off,none⟩=some u from⟨_,_,p5⟩);cases hdm:L.dim q n with
   | none=>
    have hdn:=hg.dyn q n;rw [hdm] at hdn;simp only at hdn;have hlk2 : ∀ w',w'=wD→(Instr.lookup 99 (.map (some bm)) (str n) false).run Tryz.prog w' = .ok nils w':=fun w' hw=>by
     have:=hlk w' [] (by rw [hw];exact Chg.refl _ _) (by simp) n;rw [hdm] at this;exact this
    have HLK:=zh hlk2;have HT:=zh (show tgt = .stop 3 s2 by rw [ht2,setO,hgf,hdn]);have HI:=zh (item_nil k wD);clear hm hc hg hnb ht2 hgf hcD hpb hpf hlk hlk2 hdm hdn b3 b4;go_wp2_with fail;refine wp_region_deadE isEffL 8 [true,true,true,true,true,true,true,true,false,true] rfl (by kernel_rfl) (by kernel_rfl) rfl ?_;rw [← hwD];clear hwD
    repeat ((with_reducible show wpX _ _ _ _ _ _ _ _);(first|refine wpX_nil ?_|refine wpX_skip rfl ?_|refine wpX_mv rfl rfl (by kernel_rfl) (fun _ _=>?_)|refine wpX_ldD rfl rfl rfl (by first|exact Y1.out|exact Y3.out) (fun _ _=>?_));go_wp2_with fail)
    refine wpX_lk rfl rfl rfl rfl HLK.out ?_;go_wp2_with fail
    repeat ((with_reducible show wpX _ _ _ _ _ _ _ _);(first|refine wpX_nil ?_|refine wpX_skip rfl ?_|refine wpX_mv rfl rfl (by kernel_rfl) (fun _ _=>?_)|refine wpX_ldD rfl rfl rfl (by first|exact Y1.out|exact Y3.out) (fun _ _=>?_));go_wp2_with fail)
    refine HI.out.mono ?_;rintro _ _ ⟨⟨older,hol,rfl⟩,hw⟩;have hw:=hw.symm;subst hw;intro a' ha;refine⟨ha,?_⟩;rw [HT.out];exact(fun hh=>Ran.after hh HC0.out) (Ran.ended HM2.out HC2.out HG2.out HCD.out ⟨older,hol,rfl⟩)
   | some x=>
    obtain⟨ba,kk⟩:=x;have hk1000:=(hg.lay.arr hdm).2.2;obtain⟨l,hvs,hll,hcells⟩:=dyn_item HGD.out hdm;have hlkg : ∀ w' Z,Chg Z wD w'→(∀ x∈Z,¬ L.Fix x)→(Instr.lookup 99 (.map (some bm)) (str n) false).run Tryz.prog w' = .ok (.slice (some ⟨ba,0,none⟩) kk kk) w':=fun w' Z hc hZ=>by
     have:=hlk w' Z hc hZ n;rw [hdm] at this;exact this
    have HI:=zh (item_any ba kk kk hk1000 k wD);have HDM:=zh hdm;have HVS:=zh hvs;have HLL:=zh hll;by_cases hin : 0≤k∧k < (kk:Int)
    ·simp only [if_pos hin] at HI
     have HT:=zh (show tgt = .ok (.go,fr) { s2 with vs:=putV s2.vs q n (l.set k.toNat z) } by rw [ht2,setO,hgf,hvs];simp only;rw [if_pos (by rw [hll];exact hin)]);have HLK:=zh (fun w' (hc:Chg (mutL L ov2) wD w')=>hlkg w' _ hc HGD.out.notfix);have hkt : k.toNat < kk:=by omega
     have hcell:=hcells k.toNat hkt;obtain⟨l2,hvs2,_,hblk⟩ : ∃ l2,s2.vs q n=some l2∧l2.length=kk∧Blk wD ba (ints l2).toArray i64T:=by
      have:=HGD.out.dyn q n;rw [hdm] at this;exact this
     rw [hvs] at hvs2;cases hvs2
     have hfz:=hblk.frozen k.toNat;have HBK:=zh hblk;have HIN:=zh hin;clear hm hc hg hnb ht2 hgf hcD hpb hpf hlk hlkg hdm hvs hll hcells hblk hin b3 b4;go_wp2_with fail;refine wp_region_TE isEffL (mutL L ov2) rfl (by kernel_rfl) rfl ?_;rw [← hwD];clear hwD;have hS:Chg (mutL L ov2) wD wD:=Chg.refl _ _
     repeat ((with_reducible refine gX ?_);(first|refine wpX_nil ?_|refine sK ?_|refine sM fun _ _=>?_|refine sL (hz:=by first|exact Z1.out|exact Z3.out) fun _ _=>?_|refine sE fun _ _=>?_);go_wp2_with fail)
     refine wpX_lk rfl rfl rfl rfl HLK.out ?_;go_wp2_with fail
     repeat ((with_reducible refine gX ?_);(first|refine wpX_nil ?_|refine sK ?_|refine sM fun _ _=>?_|refine sL (hz:=by first|exact Z1.out|exact Z3.out) fun _ _=>?_|refine sE fun _ _=>?_);go_wp2_with fail)
     refine HI.out.mono ?_;rintro _ _ ⟨rfl,hw⟩;have hw:=hw.symm;subst hw;go_wp2_with fail;refine⟨Chg.refl _ _,?_⟩
     repeat ((with_reducible refine gX ?_);(first|refine wpX_nil ?_|refine sK ?_|refine sM fun _ _=>?_|refine sL (hz:=by first|exact Z1.out|exact Z3.out) fun _ _=>?_|refine sE fun _ _=>?_);go_wp2_with fail)
     refine stepX_ef rfl rfl (fun _ _=>?_);clear hS Z1 Z3 Y1 Y3 q2 p5;go_wp2_with fail;refine bodyPost_end (results_none rfl _ _ _) rfl ?_;rw [HT.out];have hch:Chg [ba] wD (wD.setCell ⟨ba,k.toNat,none⟩ (num z)):=Chg.set1 _ _ _ _;have hbs:=HBK.out.set k.toNat (num z);have hg3:Going (wD.setCell ⟨ba,k.toNat,none⟩ (num z)) L d { s2 with vs:=putV s2.vs q n (l.set k.toNat z) } ov2:=HGD.out.put HDM.out HVS.out hch (by rw [ints,List.map_set,← List.setIfInBounds_toArray];exact hbs);have hba:=(HGD.out.lay.arr HDM.out).1;have hbm : ba∈mutL L ov:=List.mem_cons_of_mem _ (List.mem_append_right _ hba);refine(fun hh=>Ran.after hh HC0.out) ⟨ov2,HM2.out,?_,⟨HFRD.out.kept hch (fun b hb hm=>?_),rfl⟩,hg3⟩
     ·exact((HC2.out.then HCD.out.weak).mono (fun x hx=>.inl (List.mem_append_right _ (by simpa using hx)))).trans hch (fun x hx=>.inl (by simp at hx;subst hx;exact List.mem_append_right _ hbm))
     ·simp at hm
      subst hm;exact HFRD.out.notmut HGD.out _ hb (List.mem_cons_of_mem _ (List.mem_append_right _ hba))
    ·simp only [if_neg hin] at HI
     have HT:=zh (show tgt = .stop 3 s2 by rw [ht2,setO,hgf,hvs];simp only;rw [if_neg (by rw [hll];exact hin)]);have HLK:=zh (fun w' (hw : w'=wD)=>hlkg w' [] (by rw [hw];exact Chg.refl _ _) (by simp));clear hm hc hg hnb ht2 hgf hcD hpb hpf hlk hlkg hdm hvs hll hcells hin b3 b4;go_wp2_with fail;refine wp_region_deadE isEffL 8 [true,true,true,true,true,true,true,true,false,true] rfl (by kernel_rfl) (by kernel_rfl) rfl ?_;rw [← hwD];clear hwD
     repeat ((with_reducible show wpX _ _ _ _ _ _ _ _);(first|refine wpX_nil ?_|refine wpX_skip rfl ?_|refine wpX_mv rfl rfl (by kernel_rfl) (fun _ _=>?_)|refine wpX_ldD rfl rfl rfl (by first|exact Y1.out|exact Y3.out) (fun _ _=>?_));go_wp2_with fail)
     refine wpX_lk rfl rfl rfl rfl HLK.out ?_;go_wp2_with fail
     repeat ((with_reducible show wpX _ _ _ _ _ _ _ _);(first|refine wpX_nil ?_|refine wpX_skip rfl ?_|refine wpX_mv rfl rfl (by kernel_rfl) (fun _ _=>?_)|refine wpX_ldD rfl rfl rfl (by first|exact Y1.out|exact Y3.out) (fun _ _=>?_));go_wp2_with fail)
     refine HI.out.mono ?_;rintro _ _ ⟨⟨older,hol,rfl⟩,hw⟩;have hw:=hw.symm;subst hw;intro a' ha;refine⟨ha,?_⟩;rw [HT.out];exact(fun hh=>Ran.after hh HC0.out) (Ran.ended HM2.out HC2.out HG2.out HCD.out ⟨older,hol,rfl⟩)
theorem set_item (g:Nat) (hE:ConE g) {L:Lay} {d:Nat} {q:Nm} {fr:Fr} {p:Nat} {n:Nm} {v:E} {s:St} {w:World} {ov:Value} {ob:Option Nat} {uv:Value} {m:Mod} {i:E} {ui:Value} (tgt:O (Fl × Fr)) (h:Going w L d s ov) (hq:L.M q=some m) (hfr:FrAt w ob fr) (hfx : ∀ b,ob=some b→¬ L.Fix b) (hil:EAt w L.Fix i [ui]) (hif:FewE i) (hvl:EAt w L.Fix v [uv]) (hfe:FewE v) (ht : tgt=((fns L.M g).e d q fr i s).bind fun k s=>setTail (fns L.M g) d q fr n v k s) (hne : tgt ≠ .stuck) :
  Calls Tryz.prog 116 #[ptr L.br,ptr (L.pb q),.map ob,.agg #[num 1,num p,str n,ui,uv,nils,nils]] w (Ran w L d ov ob.toList (FlowV ob) tgt):=by
 obtain⟨bi,rfl⟩:=hil.ptr;obtain⟨wA,hwA⟩ : ∃ x,w.alloc (.cells #[num 1,num p,str n,ptr bi,uv,nils,nils] 168)=x:=⟨_,rfl⟩
 have hc0:Chg [] w wA:=by rw [← hwA];exact(Chg.refl _ _).alloc _
 have hbx:Blk wA w.heap.size #[num 1,num p,str n,ptr bi,uv,nils,nils] 168:=by rw [← hwA];exact Blk.new w _ _
 have b3:=hbx.cell 3 _ rfl;have b4:=hbx.cell 4 _ rfl;have HBXA:=zh hbx;have HC0:=zh hc0;have HGA:=zh (h.kept hc0);have HFRA:=zh (hfr.kept hc0 (by simp));have HVLA:=zh (hvl.kept hc0 (by simp));have HFX:=zh hfx;have HQ:=zh hq;have HFE:=zh hfe;have HNE:=zh hne;have HTT:=zh ht;have HCI:=zh (hE HGA.out HQ.out HFRA.out (hil.kept hc0 (by simp)) hif (fun hs=>hne (by rw [ht,hs];rfl)));clear h hbx hc0 hfr hvl hq hfe hne ht hfx hil hif
 go_enter Tryz.func116,Tryz.ntmps116
 go_wp2_with fail;cases hr : (fns L.M g).e d q fr i s with
 | stuck=>exact absurd (by rw [HTT.out,hr];rfl) HNE.out
 | stop way s1=>
  rw [hr] at HCI;have HT:=zh (show tgt = .stop way s1 by rw [HTT.out,hr];rfl);clear hr;refine HCI.out.mono ?_;rintro e w2 ⟨ov2,hm,hc,⟨older,hol,rfl⟩,d',hg⟩;have HM2:=zh hm;have HC2:=zh hc;have HG2:=zh hg;clear hm hc hg;go_wp2_with fail;refine⟨rfl,?_⟩;rw [HT.out];exact Ran.after (Ran.ended HM2.out HC2.out HG2.out (Chg.refl _ _) ⟨older,hol,rfl⟩) HC0.out
 | ok k s1=>
  rw [hr] at HCI;have HT1:=zh (show tgt=setTail (fns L.M g) d q fr n v k s1 by rw [HTT.out,hr];rfl);clear hr;refine HCI.out.mono ?_;rintro e w1 ⟨ov1,hm,hc,rfl,hg⟩;have hnb:=HGA.out.notblk HBXA.out (by decide) (by decide);have HBX1:=zh (HBXA.out.kept hc (by simpa using hnb));have HFR1:=zh (HFRA.out.kept hc (by simpa using HFRA.out.notmut HGA.out));have HVL1:=zh (HVLA.out.kept hc (by simpa using HGA.out.notfix));have HMI:=zh hm;have HCC:=zh hc;have HG1:=zh hg;clear hm hc hg hnb hwA b3 b4;have b4:=HBX1.out.cell 4 _ rfl;go_wp2_with fail;have HCV:=zh (hE HG1.out HQ.out HFR1.out HVL1.out HFE.out (fun hs=>HNE.out (by rw [HT1.out,setTail,hs];rfl)));cases hr : (fns L.M g).e d q fr v s1 with
  | stuck=>exact absurd (by rw [HT1.out,setTail,hr];rfl) HNE.out
  | stop way s2=>
   rw [hr] at HCV;have HT:=zh (show tgt = .stop way s2 by rw [HT1.out,setTail,hr];rfl);clear hr;go_wp2_with fail;refine HCV.out.mono ?_;rintro e w2 ⟨ov2,hm,hc,⟨older,hol,rfl⟩,d',hg⟩;have HM2:=zh hm;have HC2:=zh hc;have HG2:=zh hg;clear hm hc hg;go_wp2_with fail;refine⟨rfl,?_⟩;rw [HT.out];exact(fun hh=>Ran.after (Ran.then HMI.out HCC.out hh) HC0.out) (Ran.ended HM2.out HC2.out HG2.out (Chg.refl _ _) ⟨older,hol,rfl⟩)
  | ok z s2=>
   rw [hr] at HCV;have ht2 : tgt=setO q fr n k z s2:=by rw [HT1.out,setTail,hr];rfl
   clear hr;go_wp2_with fail;refine HCV.out.mono ?_;rintro e w2 ⟨ov2,hm,hc,rfl,hg⟩;have hnb:=HG1.out.notblk HBX1.out (by decide) (by decide);have HM2:=zh hm;have HC2:=zh hc;have HG2:=zh hg;have HBX2:=zh (HBX1.out.kept hc (by simpa using hnb));have HFR2:=zh (HFR1.out.kept hc (by simpa using HFR1.out.notmut HG1.out));have HNB2:=zh (notmut_moved (L:=L) hm HBX1.out.lt hnb);have b2:=HBX2.out.cell 2 _ rfl;have hl:=look_local HFR2.out n;cases hgf : getF fr n with
   | some old=>
    obtain⟨bf,rfl,hmap⟩:=getF_some HFR2.out hgf;rw [hgf] at hl;have hT : tgt = .ok (.go,putF fr n z) s2:=by rw [ht2,setO,hgf]
    have HT:=zh hT;have hnf:=hg.notmap hmap;obtain⟨w3,hu,hmap3,hc3⟩:=run_putM (P:=Tryz.prog) Tryz.underlying165 Tryz.underlying9 hmap n (num z);have HM3:=zh hmap3;have HC3:=zh hc3;have HNF:=zh hnf;have HNX:=zh (show ¬ L.Fix bf from fun hf=>HFX.out bf rfl hf);clear hm hc hg hnb hT ht2 hgf hmap hmap3 hc3 hnf b4;go_wp2_with fail;refine bodyPost_end (results_none rfl _ _ _) rfl ?_;rw [HT.out];refine(fun hh=>Ran.after (Ran.then HMI.out HCC.out hh) HC0.out) (show Ran w1 L d ov1 [bf] (FlowV (some bf)) (.ok (.go,putF fr n z) s2) _ w3 from⟨ov2,HM2.out,(HC2.out.mono (fun x hx=>.inl (by simp at hx ⊢;exact .inr hx))).trans HC3.out (fun x hx=>.inl (by simp at hx;simp [hx])),⟨FrAt.put HM3.out,rfl⟩,HG2.out.aside HC3.out (fun x hx=>by simp at hx;subst hx;exact⟨HNF.out,HNX.out⟩)⟩)
   | none=>
    rw [hgf] at hl;obtain⟨wD,hwD⟩ : ∃ x,x=w2.drew:=⟨_,rfl⟩
    have hcD:Chg [] w2 wD:=by rw [hwD];exact(Chg.refl [] w2).drew
    have HCD:=zh hcD;have HGD:=zh (hg.kept hcD);obtain⟨c0,c1,c2,c3,c4,bm,hpb,hpf,hlk⟩:=part_vars HGD.out HQ.out;have p5:=hpb.cell 5 _ rfl;have q2:=(HBX2.out.kept hcD (by simp)).cell 2 _ rfl;have HFRD:=zh (HFR2.out.kept hcD (by simp));have Z1:=zh (Zone.of (X:=mutL L ov2) q2 HNB2.out);have Z3:=zh (Zone.of (X:=mutL L ov2) p5 (fun hm=>HGD.out.notfix _ hm hpf));have Y1:=zh (show ∃ off u,wD.cell? ⟨w.heap.size,off,none⟩=some u from⟨_,_,q2⟩);have Y3:=zh (show ∃ off u,wD.cell? ⟨L.pb q,off,none⟩=some u from⟨_,_,p5⟩);cases hdm:L.dim q n with
    | none=>
     have hdn:=hg.dyn q n;rw [hdm] at hdn;simp only at hdn;have hlk2 : ∀ w',w'=wD→(Instr.lookup 99 (.map (some bm)) (str n) false).run Tryz.prog w' = .ok nils w':=fun w' hw=>by
      have:=hlk w' [] (by rw [hw];exact Chg.refl _ _) (by simp) n;rw [hdm] at this;exact this
     have HLK:=zh hlk2;have HT:=zh (show tgt = .stop 3 s2 by rw [ht2,setO,hgf,hdn]);have HI:=zh (item_nil k wD);clear hm hc hg hnb ht2 hgf hcD hpb hpf hlk hlk2 hdm hdn b4;go_wp2_with fail;refine wp_region_deadE isEffL 8 [true,true,true,true,true,true,true,true,false,true] rfl (by kernel_rfl) (by kernel_rfl) rfl ?_;rw [← hwD];clear hwD
     repeat ((with_reducible show wpX _ _ _ _ _ _ _ _);(first|refine wpX_nil ?_|refine wpX_skip rfl ?_|refine wpX_mv rfl rfl (by kernel_rfl) (fun _ _=>?_)|refine wpX_ldD rfl rfl rfl (by first|exact Y1.out|exact Y3.out) (fun _ _=>?_));go_wp2_with fail)
     refine wpX_lk rfl rfl rfl rfl HLK.out ?_;go_wp2_with fail
     repeat ((with_reducible show wpX _ _ _ _ _ _ _ _);(first|refine wpX_nil ?_|refine wpX_skip rfl ?_|refine wpX_mv rfl rfl (by kernel_rfl) (fun _ _=>?_)|refine wpX_ldD rfl rfl rfl (by first|exact Y1.out|exact Y3.out) (fun _ _=>?_));go_wp2_with fail)
     refine HI.out.mono ?_;rintro _ _ ⟨⟨older,hol,rfl⟩,hw⟩;have hw:=hw.symm;subst hw;intro a' ha;refine⟨ha,?_⟩;rw [HT.out];exact(fun hh=>Ran.after (Ran.then HMI.out HCC.out hh) HC0.out) (Ran.ended HM2.out HC2.out HG2.out HCD.out ⟨older,hol,rfl⟩)
    | some x=>
     obtain⟨ba,kk⟩:=x;have hk1000:=(hg.lay.arr hdm).2.2;obtain⟨l,hvs,hll,hcells⟩:=dyn_item HGD.out hdm;have hlkg : ∀ w' Z,Chg Z wD w'→(∀ x∈Z,¬ L.Fix x)→(Instr.lookup 99 (.map (some bm)) (str n) false).run Tryz.prog w' = .ok (.slice (some ⟨ba,0,none⟩) kk kk) w':=fun w' Z hc hZ=>by
      have:=hlk w' Z hc hZ n;rw [hdm] at this;exact this
     have HI:=zh (item_any ba kk kk hk1000 k wD);have HDM:=zh hdm;have HVS:=zh hvs;have HLL:=zh hll;by_cases hin : 0≤k∧k < (kk:Int)
     ·simp only [if_pos hin] at HI
      have HT:=zh (show tgt = .ok (.go,fr) { s2 with vs:=putV s2.vs q n (l.set k.toNat z) } by rw [ht2,setO,hgf,hvs];simp only;rw [if_pos (by rw [hll];exact hin)]);have HLK:=zh (fun w' (hc:Chg (mutL L ov2) wD w')=>hlkg w' _ hc HGD.out.notfix);have hkt : k.toNat < kk:=by omega
      have hcell:=hcells k.toNat hkt;obtain⟨l2,hvs2,_,hblk⟩ : ∃ l2,s2.vs q n=some l2∧l2.length=kk∧Blk wD ba (ints l2).toArray i64T:=by
       have:=HGD.out.dyn q n;rw [hdm] at this;exact this
      rw [hvs] at hvs2;cases hvs2
      have hfz:=hblk.frozen k.toNat;have HBK:=zh hblk;have HIN:=zh hin;clear hm hc hg hnb ht2 hgf hcD hpb hpf hlk hlkg hdm hvs hll hcells hblk hin b4;go_wp2_with fail;refine wp_region_TE isEffL (mutL L ov2) rfl (by kernel_rfl) rfl ?_;rw [← hwD];clear hwD;have hS:Chg (mutL L ov2) wD wD:=Chg.refl _ _
      repeat ((with_reducible refine gX ?_);(first|refine wpX_nil ?_|refine sK ?_|refine sM fun _ _=>?_|refine sL (hz:=by first|exact Z1.out|exact Z3.out) fun _ _=>?_|refine sE fun _ _=>?_);go_wp2_with fail)
      refine wpX_lk rfl rfl rfl rfl HLK.out ?_;go_wp2_with fail
      repeat ((with_reducible refine gX ?_);(first|refine wpX_nil ?_|refine sK ?_|refine sM fun _ _=>?_|refine sL (hz:=by first|exact Z1.out|exact Z3.out) fun _ _=>?_|refine sE fun _ _=>?_);go_wp2_with fail)
      refine HI.out.mono ?_;rintro _ _ ⟨rfl,hw⟩;have hw:=hw.symm;subst hw;go_wp2_with fail;refine⟨Chg.refl _ _,?_⟩
      repeat ((with_reducible refine gX ?_);(first|refine wpX_nil ?_|refine sK ?_|refine sM fun _ _=>?_|refine sL (hz:=by first|exact Z1.out|exact Z3.out) fun _ _=>?_|refine sE fun _ _=>?_);go_wp2_with fail)
      refine stepX_ef rfl rfl (fun _ _=>?_);clear hS Z1 Z3 Y1 Y3 q2 p5;go_wp2_with fail;refine bodyPost_end (results_none rfl _ _ _) rfl ?_;rw [HT.out];have hch:Chg [ba] wD (wD.setCell ⟨ba,k.toNat,none⟩ (num z)):=Chg.set1 _ _ _ _;have hbs:=HBK.out.set k.toNat (num z);have hg3:Going (wD.setCell ⟨ba,k.toNat,none⟩ (num z)) L d { s2 with vs:=putV s2.vs q n (l.set k.toNat z) } ov2:=HGD.out.put HDM.out HVS.out hch (by rw [ints,List.map_set,← List.setIfInBounds_toArray];exact hbs);have hba:=(HGD.out.lay.arr HDM.out).1;have hbm : ba∈mutL L ov1:=List.mem_cons_of_mem _ (List.mem_append_right _ hba);refine(fun hh=>Ran.after (Ran.then HMI.out HCC.out hh) HC0.out) ⟨ov2,HM2.out,?_,⟨HFRD.out.kept hch (fun b hb hm=>?_),rfl⟩,hg3⟩
      ·exact((HC2.out.then HCD.out.weak).mono (fun x hx=>.inl (List.mem_append_right _ (by simpa using hx)))).trans hch (fun x hx=>.inl (by simp at hx;subst hx;exact List.mem_append_right _ hbm))
      ·simp at hm
       subst hm;exact HFRD.out.notmut HGD.out _ hb (List.mem_cons_of_mem _ (List.mem_append_right _ hba))
     ·simp only [if_neg hin] at HI
      have HT:=zh (show tgt = .stop 3 s2 by rw [ht2,setO,hgf,hvs];simp only;rw [if_neg (by rw [hll];exact hin)]);have HLK:=zh (fun w' (hw : w'=wD)=>hlkg w' [] (by rw [hw];exact Chg.refl _ _) (by simp));clear hm hc hg hnb ht2 hgf hcD hpb hpf hlk hlkg hdm hvs hll hcells hin b4;go_wp2_with fail;refine wp_region_deadE isEffL 8 [true,true,true,true,true,true,true,true,false,true] rfl (by kernel_rfl) (by kernel_rfl) rfl ?_;rw [← hwD];clear hwD
      repeat ((with_reducible show wpX _ _ _ _ _ _ _ _);(first|refine wpX_nil ?_|refine wpX_skip rfl ?_|refine wpX_mv rfl rfl (by kernel_rfl) (fun _ _=>?_)|refine wpX_ldD rfl rfl rfl (by first|exact Y1.out|exact Y3.out) (fun _ _=>?_));go_wp2_with fail)
      refine wpX_lk rfl rfl rfl rfl HLK.out ?_;go_wp2_with fail
      repeat ((with_reducible show wpX _ _ _ _ _ _ _ _);(first|refine wpX_nil ?_|refine wpX_skip rfl ?_|refine wpX_mv rfl rfl (by kernel_rfl) (fun _ _=>?_)|refine wpX_ldD rfl rfl rfl (by first|exact Y1.out|exact Y3.out) (fun _ _=>?_));go_wp2_with fail)
      refine HI.out.mono ?_;rintro _ _ ⟨⟨older,hol,rfl⟩,hw⟩;have hw:=hw.symm;subst hw;intro a' ha;refine⟨ha,?_⟩;rw [HT.out];exact(fun hh=>Ran.after (Ran.then HMI.out HCC.out hh) HC0.out) (Ran.ended HM2.out HC2.out HG2.out HCD.out ⟨older,hol,rfl⟩)
end Go.Proofs.YtechofppmnnomaaGreatDoor
namespace Go.Proofs.YtechofppmnnomaaGreatDoor
open Go Go.RowKit Go.Mq Go.Mq.Tree Go.Mq.Run
open Go.Mq.Check (FewM FewS FewE argsN)
set_option maxRecDepth 100000
set_option maxHeartbeats 4000000
theorem s_call (g:Nat) (hE:ConE g) {L:Lay} {d:Nat} {q:Nm} {fr:Fr} {p:Nat} {s:St} {w:World} {ov:Value} {ob:Option Nat} {m:Mod} {v:E} {uv:Value} (tgt:O (Fl × Fr)) (h:Going w L d s ov) (hq:L.M q=some m) (hfr:FrAt w ob fr) (hfx : ∀ b,ob=some b→¬ L.Fix b) (hvl:EAt w L.Fix v [uv]) (hfe:FewE v) (ht : tgt=(tick s).bind fun _ s=>((fns L.M g).e d q fr v s).bind fun _ s=>.ok (.go,fr) s) (hne : tgt ≠ .stuck) :
  Calls Tryz.prog 82 #[ptr L.br,ptr (L.pb q),.map ob,.agg #[num 6,num p,str [],nilp,uv,nils,nils]] w (Ran w L d ov ob.toList (FlowV ob) tgt):=by
 obtain⟨wA,hwA⟩ : ∃ x,w.alloc (.cells #[num 6,num p,str [],nilp,uv,nils,nils] 168)=x:=⟨_,rfl⟩
 have hc0:Chg [] w wA:=by rw [← hwA];exact(Chg.refl _ _).alloc _
 have hbx:Blk wA w.heap.size #[num 6,num p,str [],nilp,uv,nils,nils] 168:=by rw [← hwA];exact Blk.new w _ _
 have HBXA:=zh hbx;have HC0:=zh hc0;have HGA:=zh (h.kept hc0);have HFRA:=zh (hfr.kept hc0 (by simp));have HFX:=zh hfx;have HQ:=zh hq;have HNE:=zh hne;have HTT:=zh ht;have HST:=zh (step_any HGA.out);have HVA:=zh (hvl.kept hc0 (by simp));have HFE:=zh hfe;clear h hbx hc0 hfr hq hne ht hfx hvl hfe
 go_enter Tryz.func82,Tryz.ntmps82
 go_wp2_with fail;cases htk : tick s with
 | stuck=>exact absurd (by rw [HTT.out,htk];rfl) HNE.out
 | stop way s1=>
  rw [htk] at HST;have HT:=zh (show tgt = .stop way s1 by rw [HTT.out,htk];rfl);clear htk;refine HST.out.mono ?_;rintro e w2 ⟨ov2,hm,hc,⟨older,hol,rfl⟩,d',hg⟩;have HM2:=zh hm;have HC2:=zh hc;have HG2:=zh hg;clear hm hc hg;go_wp2_with fail;refine⟨rfl,?_⟩;rw [HT.out];exact Ran.after (Ran.ended HM2.out HC2.out HG2.out (Chg.refl _ _) ⟨older,hol,rfl⟩) HC0.out
 | ok _ s1=>
  rw [htk] at HST;have HT1:=zh (show tgt=((fns L.M g).e d q fr v s1).bind fun _ s=>.ok (.go,fr) s by rw [HTT.out,htk];rfl);clear htk;refine HST.out.mono ?_;rintro e w1 ⟨ov1,hm,hc,rfl,hg⟩;have hnb:=HGA.out.notblk HBXA.out (by decide) (by decide);have HBX1:=zh (HBXA.out.kept hc (by simpa using hnb));have HFR1:=zh (HFRA.out.kept hc (by simpa using HFRA.out.notmut HGA.out));have HMI:=zh hm;have HCC:=zh hc;have HG1:=zh hg;have hnf:=HGA.out.notfix;have HV1:=zh (HVA.out.kept hc (by simpa using hnf));clear hm hc hg hnb hnf hwA;have UP : ∀ {o:O (Fl × Fr)} {e:Ending} {w':World},Ran w1 L d ov1 ob.toList (FlowV ob) o e w'→Ran w L d ov ob.toList (FlowV ob) o e w':=fun hh=>Ran.after (Ran.then HMI.out HCC.out hh) HC0.out
  have HUP:=zh (fun(o:O (Fl × Fr)) (e:Ending) (w':World) (hh:Ran w1 L d ov1 ob.toList (FlowV ob) o e w')=>UP hh);clear UP;have b0:=HBX1.out.cell 0 _ rfl;have b4:=HBX1.out.cell 4 _ rfl;go_wp2_with fail;have HCV:=zh (hE HG1.out HQ.out HFR1.out HV1.out HFE.out (fun hs=>HNE.out (by rw [HT1.out,hs];rfl)));cases hr : (fns L.M g).e d q fr v s1 with
  | stuck=>exact absurd (by rw [HT1.out,hr];rfl) HNE.out
  | stop way s2=>
   rw [hr] at HCV;have HT:=zh (show tgt = .stop way s2 by rw [HT1.out,hr];rfl);clear hr;refine HCV.out.mono ?_;rintro e w2 ⟨ov2,hm,hc,⟨older,hol,rfl⟩,d',hg⟩;have HM2:=zh hm;have HC2:=zh hc;have HG2:=zh hg;clear hm hc hg;go_wp2_with fail;refine⟨rfl,?_⟩;rw [HT.out];exact HUP.out _ _ _ (Ran.ended HM2.out HC2.out HG2.out (Chg.refl _ _) ⟨older,hol,rfl⟩)
  | ok z s2=>
   rw [hr] at HCV;have HT2:=zh (show tgt = .ok (.go,fr) s2 by rw [HT1.out,hr];rfl);clear hr;refine HCV.out.mono ?_;rintro e w2 ⟨ov2,hm,hc,rfl,hg⟩;have hnb:=HG1.out.notblk HBX1.out (by decide) (by decide);have HBX2:=zh (HBX1.out.kept hc (by simpa using hnb));have HFR2:=zh (HFR1.out.kept hc (by simpa using HFR1.out.notmut HG1.out));have HM2:=zh hm;have HC2:=zh hc;have HG2:=zh hg;have hnf:=HG1.out.notfix;clear hm hc hg hnb hnf;go_wp2_with fail;refine bodyPost_end (results_none rfl _ _ _) rfl ?_;rw [HT2.out];exact HUP.out _ _ _ (Ran.done HM2.out HC2.out HG2.out (Chg.refl _ _) ⟨HFR2.out,rfl⟩)
theorem s_ret (g:Nat) (hE:ConE g) {L:Lay} {d:Nat} {q:Nm} {fr:Fr} {p:Nat} {s:St} {w:World} {ov:Value} {ob:Option Nat} {m:Mod} {v:E} {uv:Value} (tgt:O (Fl × Fr)) (h:Going w L d s ov) (hq:L.M q=some m) (hfr:FrAt w ob fr) (hfx : ∀ b,ob=some b→¬ L.Fix b) (hvl:EAt w L.Fix v [uv]) (hfe:FewE v) (ht : tgt=(tick s).bind fun _ s=>((fns L.M g).e d q fr v s).bind fun n s=>.ok (.ret n,fr) s) (hne : tgt ≠ .stuck) :
  Calls Tryz.prog 82 #[ptr L.br,ptr (L.pb q),.map ob,.agg #[num 4,num p,str [],nilp,uv,nils,nils]] w (Ran w L d ov ob.toList (FlowV ob) tgt):=by
 obtain⟨wA,hwA⟩ : ∃ x,w.alloc (.cells #[num 4,num p,str [],nilp,uv,nils,nils] 168)=x:=⟨_,rfl⟩
 have hc0:Chg [] w wA:=by rw [← hwA];exact(Chg.refl _ _).alloc _
 have hbx:Blk wA w.heap.size #[num 4,num p,str [],nilp,uv,nils,nils] 168:=by rw [← hwA];exact Blk.new w _ _
 have HBXA:=zh hbx;have HC0:=zh hc0;have HGA:=zh (h.kept hc0);have HFRA:=zh (hfr.kept hc0 (by simp));have HFX:=zh hfx;have HQ:=zh hq;have HNE:=zh hne;have HTT:=zh ht;have HST:=zh (step_any HGA.out);have HVA:=zh (hvl.kept hc0 (by simp));have HFE:=zh hfe;clear h hbx hc0 hfr hq hne ht hfx hvl hfe
 go_enter Tryz.func82,Tryz.ntmps82
 go_wp2_with fail;cases htk : tick s with
 | stuck=>exact absurd (by rw [HTT.out,htk];rfl) HNE.out
 | stop way s1=>
  rw [htk] at HST;have HT:=zh (show tgt = .stop way s1 by rw [HTT.out,htk];rfl);clear htk;refine HST.out.mono ?_;rintro e w2 ⟨ov2,hm,hc,⟨older,hol,rfl⟩,d',hg⟩;have HM2:=zh hm;have HC2:=zh hc;have HG2:=zh hg;clear hm hc hg;go_wp2_with fail;refine⟨rfl,?_⟩;rw [HT.out];exact Ran.after (Ran.ended HM2.out HC2.out HG2.out (Chg.refl _ _) ⟨older,hol,rfl⟩) HC0.out
 | ok _ s1=>
  rw [htk] at HST;have HT1:=zh (show tgt=((fns L.M g).e d q fr v s1).bind fun n s=>.ok (.ret n,fr) s by rw [HTT.out,htk];rfl);clear htk;refine HST.out.mono ?_;rintro e w1 ⟨ov1,hm,hc,rfl,hg⟩;have hnb:=HGA.out.notblk HBXA.out (by decide) (by decide);have HBX1:=zh (HBXA.out.kept hc (by simpa using hnb));have HFR1:=zh (HFRA.out.kept hc (by simpa using HFRA.out.notmut HGA.out));have HMI:=zh hm;have HCC:=zh hc;have HG1:=zh hg;have hnf:=HGA.out.notfix;have HV1:=zh (HVA.out.kept hc (by simpa using hnf));clear hm hc hg hnb hnf hwA;have UP : ∀ {o:O (Fl × Fr)} {e:Ending} {w':World},Ran w1 L d ov1 ob.toList (FlowV ob) o e w'→Ran w L d ov ob.toList (FlowV ob) o e w':=fun hh=>Ran.after (Ran.then HMI.out HCC.out hh) HC0.out
  have HUP:=zh (fun(o:O (Fl × Fr)) (e:Ending) (w':World) (hh:Ran w1 L d ov1 ob.toList (FlowV ob) o e w')=>UP hh);clear UP;have b0:=HBX1.out.cell 0 _ rfl;have b4:=HBX1.out.cell 4 _ rfl;go_wp2_with fail;have HCV:=zh (hE HG1.out HQ.out HFR1.out HV1.out HFE.out (fun hs=>HNE.out (by rw [HT1.out,hs];rfl)));cases hr : (fns L.M g).e d q fr v s1 with
  | stuck=>exact absurd (by rw [HT1.out,hr];rfl) HNE.out
  | stop way s2=>
   rw [hr] at HCV;have HT:=zh (show tgt = .stop way s2 by rw [HT1.out,hr];rfl);clear hr;refine HCV.out.mono ?_;rintro e w2 ⟨ov2,hm,hc,⟨older,hol,rfl⟩,d',hg⟩;have HM2:=zh hm;have HC2:=zh hc;have HG2:=zh hg;clear hm hc hg;go_wp2_with fail;refine⟨rfl,?_⟩;rw [HT.out];exact HUP.out _ _ _ (Ran.ended HM2.out HC2.out HG2.out (Chg.refl _ _) ⟨older,hol,rfl⟩)
  | ok z s2=>
   rw [hr] at HCV;have HT2:=zh (show tgt = .ok (.ret z,fr) s2 by rw [HT1.out,hr];rfl);clear hr;refine HCV.out.mono ?_;rintro e w2 ⟨ov2,hm,hc,rfl,hg⟩;have hnb:=HG1.out.notblk HBX1.out (by decide) (by decide);have HBX2:=zh (HBX1.out.kept hc (by simpa using hnb));have HFR2:=zh (HFR1.out.kept hc (by simpa using HFR1.out.notmut HG1.out));have HM2:=zh hm;have HC2:=zh hc;have HG2:=zh hg;have hnf:=HG1.out.notfix;clear hm hc hg hnb hnf;go_wp2_with fail;refine⟨rfl,?_⟩;rw [HT2.out];exact HUP.out _ _ _ (Ran.done HM2.out HC2.out HG2.out (Chg.refl _ _) ⟨HFR2.out,rfl⟩)
theorem s_wri (g:Nat) (hE:ConE g) {L:Lay} {d:Nat} {q:Nm} {fr:Fr} {p:Nat} {s:St} {w:World} {ov:Value} {ob:Option Nat} {m:Mod} {v:E} {uv:Value} (tgt:O (Fl × Fr)) (h:Going w L d s ov) (hq:L.M q=some m) (hfr:FrAt w ob fr) (hfx : ∀ b,ob=some b→¬ L.Fix b) (hvl:EAt w L.Fix v [uv]) (hfe:FewE v) (ht : tgt=(tick s).bind fun _ s=>((fns L.M g).e d q fr v s).bind fun n s=>if s.out.length=200 then .stop 6 s else .ok (.go,fr) { s with out:=s.out ++ [n] }) (hne : tgt ≠ .stuck) :
  Calls Tryz.prog 82 #[ptr L.br,ptr (L.pb q),.map ob,.agg #[num 5,num p,str [],nilp,uv,nils,nils]] w (Ran w L d ov ob.toList (FlowV ob) tgt):=by
 obtain⟨wA,hwA⟩ : ∃ x,w.alloc (.cells #[num 5,num p,str [],nilp,uv,nils,nils] 168)=x:=⟨_,rfl⟩
 have hc0:Chg [] w wA:=by rw [← hwA];exact(Chg.refl _ _).alloc _
 have hbx:Blk wA w.heap.size #[num 5,num p,str [],nilp,uv,nils,nils] 168:=by rw [← hwA];exact Blk.new w _ _
 have HBXA:=zh hbx;have HC0:=zh hc0;have HGA:=zh (h.kept hc0);have HFRA:=zh (hfr.kept hc0 (by simp));have HFX:=zh hfx;have HQ:=zh hq;have HNE:=zh hne;have HTT:=zh ht;have HST:=zh (step_any HGA.out);have HVA:=zh (hvl.kept hc0 (by simp));have HFE:=zh hfe;clear h hbx hc0 hfr hq hne ht hfx hvl hfe
 go_enter Tryz.func82,Tryz.ntmps82
 go_wp2_with fail;cases htk : tick s with
 | stuck=>exact absurd (by rw [HTT.out,htk];rfl) HNE.out
 | stop way s1=>
  rw [htk] at HST;have HT:=zh (show tgt = .stop way s1 by rw [HTT.out,htk];rfl);clear htk;refine HST.out.mono ?_;rintro e w2 ⟨ov2,hm,hc,⟨older,hol,rfl⟩,d',hg⟩;have HM2:=zh hm;have HC2:=zh hc;have HG2:=zh hg;clear hm hc hg;go_wp2_with fail;refine⟨rfl,?_⟩;rw [HT.out];exact Ran.after (Ran.ended HM2.out HC2.out HG2.out (Chg.refl _ _) ⟨older,hol,rfl⟩) HC0.out
 | ok _ s1=>
  rw [htk] at HST;have HT1:=zh (show tgt=((fns L.M g).e d q fr v s1).bind fun n s=>if s.out.length=200 then .stop 6 s else .ok (.go,fr) { s with out:=s.out ++ [n] } by rw [HTT.out,htk];rfl);clear htk;refine HST.out.mono ?_;rintro e w1 ⟨ov1,hm,hc,rfl,hg⟩;have hnb:=HGA.out.notblk HBXA.out (by decide) (by decide);have HBX1:=zh (HBXA.out.kept hc (by simpa using hnb));have HFR1:=zh (HFRA.out.kept hc (by simpa using HFRA.out.notmut HGA.out));have HMI:=zh hm;have HCC:=zh hc;have HG1:=zh hg;have hnf:=HGA.out.notfix;have HV1:=zh (HVA.out.kept hc (by simpa using hnf));clear hm hc hg hnb hnf hwA;have UP : ∀ {o:O (Fl × Fr)} {e:Ending} {w':World},Ran w1 L d ov1 ob.toList (FlowV ob) o e w'→Ran w L d ov ob.toList (FlowV ob) o e w':=fun hh=>Ran.after (Ran.then HMI.out HCC.out hh) HC0.out
  have HUP:=zh (fun(o:O (Fl × Fr)) (e:Ending) (w':World) (hh:Ran w1 L d ov1 ob.toList (FlowV ob) o e w')=>UP hh);clear UP;have b0:=HBX1.out.cell 0 _ rfl;have b4:=HBX1.out.cell 4 _ rfl;go_wp2_with fail;have HCV:=zh (hE HG1.out HQ.out HFR1.out HV1.out HFE.out (fun hs=>HNE.out (by rw [HT1.out,hs];rfl)));cases hr : (fns L.M g).e d q fr v s1 with
  | stuck=>exact absurd (by rw [HT1.out,hr];rfl) HNE.out
  | stop way s2=>
   rw [hr] at HCV;have HT:=zh (show tgt = .stop way s2 by rw [HT1.out,hr];rfl);clear hr;refine HCV.out.mono ?_;rintro e w2 ⟨ov2,hm,hc,⟨older,hol,rfl⟩,d',hg⟩;have HM2:=zh hm;have HC2:=zh hc;have HG2:=zh hg;clear hm hc hg;go_wp2_with fail;refine⟨rfl,?_⟩;rw [HT.out];exact HUP.out _ _ _ (Ran.ended HM2.out HC2.out HG2.out (Chg.refl _ _) ⟨older,hol,rfl⟩)
  | ok z s2=>
   rw [hr] at HCV;have HT2:=zh (show tgt=if s2.out.length=200 then .stop 6 s2 else .ok (.go,fr) { s2 with out:=s2.out ++ [z] } by rw [HT1.out,hr];rfl);clear hr;refine HCV.out.mono ?_;rintro e w2 ⟨ov2,hm,hc,rfl,hg⟩;have hnb:=HG1.out.notblk HBX1.out (by decide) (by decide);have HBX2:=zh (HBX1.out.kept hc (by simpa using hnb));have HFR2:=zh (HFR1.out.kept hc (by simpa using HFR1.out.notmut HG1.out));have HM2:=zh hm;have HC2:=zh hc;have HG2:=zh hg;have hnf:=HG1.out.notfix;have r3:=hg.run.cell 3 _ rfl;obtain⟨oa,oc,rfl⟩:=slice_of_owns hg.out;have hlt:=hg.few;by_cases hfull : s2.out.length=200
   ·have HT:=zh (show tgt = .stop 6 s2 by rw [HT2.out,if_pos hfull])
    have HS:=zh (fun w=>rstop_any 6 w);have hf2 : ((s2.out.length:Int) == 200)=true:=by rw [hfull];rfl
    clear hm hc hg hnb hnf hfull;go_wp2_with fail;refine(HS.out w2).mono ?_;rintro _ _ ⟨⟨older,hol,rfl⟩,hw⟩;have hw:=hw.symm;subst hw;go_wp2_with fail;refine⟨rfl,?_⟩;rw [HT.out];exact HUP.out _ _ _ (Ran.ended HM2.out HC2.out HG2.out (Chg.refl _ _) ⟨older,hol,rfl⟩)
   ·have HT:=zh (show tgt = .ok (.go,fr) { s2 with out:=s2.out ++ [z] } by rw [HT2.out,if_neg hfull])
    have hf2 : ((s2.out.length:Int) == 200)=false:=by simp;omega
    have HO4:=zh (owns_kept hg.out ((Chg.refl [] w2).alloc (.cells #[num z] i64T)) (by simp));have hbr:=hg.run.lt;have hnr:=br_notblk hg;have HNF:=zh hfull;clear hm hc hg hnb hnf hfull;go_wp2_with (at_builtin;go_must (refine wpL_append rfl _ _ 41 rfl i64T _ 1 8 infoInt Tryz.underlying41 rfl (by decide) _ s2.out.length (ints s2.out) rfl HO4.out ⟨w2.heap.size,0,none⟩ 1 1 [num z] rfl rfl (cell_new1 _ _ _) (by simp [Value.oneCell']) ?_ ?_ ?_))
    ·omega
    ·unfold maxLen;omega
    ·intro v' w' hown' hch' hmv'
     have hca:Chg [] w2 (w2.alloc (.cells #[num z] i64T)):=(Chg.refl [] w2).alloc _;have HO':=zh hown';have HMV:=zh hmv';have hch2:Chg (blk (.slice oa s2.out.length oc)) w2 w':=hca.weak.then hch'
     have HCH:=zh hch2;have hrun:=HG2.out.run.kept hch2 hnr;have HRUN:=zh hrun;have f3:=hrun.frozen 3;have r3':=hrun.cell 3 _ rfl;obtain⟨va,vc,rfl⟩:=slice_of_owns hown';have hs2:=hch2.size;clear hown' hch' hmv' hch2 hca hrun r3;go_wp2_with fail;refine bodyPost_end (results_none rfl _ _ _) rfl ?_;rw [HT.out];have hsc:Chg [L.br] w' (w'.setCell ⟨L.br,3,none⟩ (.slice va (s2.out.length + 1) vc)):=Chg.set1 _ _ _ _;have hrs:=HRUN.out.set 3 (.slice va (s2.out.length + 1) vc);have hfrm:From (L.br + 1) (.slice va (s2.out.length + 1) vc):=fun y hy=>by
      rcases HMV.out y hy with hh|hh
      ·exact HG2.out.from_ y hh
      ·simp at hh;omega
     have hcht:Chg (L.br :: blk (.slice oa s2.out.length oc)) w2 (w'.setCell ⟨L.br,3,none⟩ (.slice va (s2.out.length + 1) vc)):=(HCH.out.mono (fun x hx=>.inl (List.mem_cons_of_mem _ hx))).then (hsc.mono (fun x hx=>.inl (by simp at hx;subst hx;exact List.mem_cons_self)))
     have hown3:=owns_kept HO'.out hsc (fun y hy hm=>by have:=hfrm y hy;simp at hm;omega);have hg3:Going (w'.setCell ⟨L.br,3,none⟩ (.slice va (s2.out.length + 1) vc)) L d { s2 with out:=s2.out ++ [z] } (.slice va (s2.out.length + 1) vc):=HG2.out.told hcht (by simpa using hrs) (by rw [List.length_append,ints,List.map_append];exact hown3) hfrm (by have:=HNF.out;simp;omega);refine HUP.out _ _ _ ⟨_,HM2.out.trans HC2.out (fun y hy=>?_),?_,⟨(HFR2.out.kept HCH.out (fun b hb hm=>HFR2.out.notmut HG2.out b hb (List.mem_cons_of_mem _ (List.mem_append_left _ hm)))).kept hsc (fun b hb hm=>by
      simp at hm
      subst hm;exact HFR2.out.notmut HG2.out _ hb List.mem_cons_self),rfl⟩,hg3⟩
     ·rcases HMV.out y hy with hh|hh
      ·exact .inl hh
      ·exact .inr (by simp at hh;omega)
     ·refine((HC2.out.mono (fun x hx=>.inl (List.mem_append_right _ (by simpa using hx)))).trans hcht (fun x hx=>?_))
      have hx2 : x∈mutL L (.slice oa s2.out.length oc):=by
       rcases List.mem_cons.1 hx with rfl|hx
       ·exact List.mem_cons_self
       ·exact List.mem_cons_of_mem _ (List.mem_append_left _ hx)
      rcases mutL_moved (by simpa using HC2.out) HM2.out x hx2 with hh|hh
      ·exact .inl (List.mem_append_right _ hh)
      ·exact .inr hh
theorem s_ifs (g:Nat) (hE:ConE g) (hB:ConB g) {L:Lay} {d:Nat} {q:Nm} {fr:Fr} {p:Nat} {s:St} {w:World} {ov:Value} {ob:Option Nat} {m:Mod} {v:E} {uv:Value} {t e:S} {a1 a2:Option Addr} {c1 c2:Nat} (tgt:O (Fl × Fr)) (h:Going w L d s ov) (hq:L.M q=some m) (hfr:FrAt w ob fr) (hfx : ∀ b,ob=some b→¬ L.Fix b) (hvl:EAt w L.Fix v [uv]) (hfe:FewE v) (htl:SlAt w L.Fix t (.slice a1 t.len c1)) (hel:SlAt w L.Fix e (.slice a2 e.len c2)) (htf:FewS t∧t.len≤1000) (hef:FewS e∧e.len≤1000) (ht : tgt=(tick s).bind fun _ s=>((fns L.M g).e d q fr v s).bind fun n s=>if n=0 then (fns L.M g).b d q fr e s else (fns L.M g).b d q fr t s) (hne : tgt ≠ .stuck) :
  Calls Tryz.prog 82 #[ptr L.br,ptr (L.pb q),.map ob,.agg #[num 2,num p,str [],nilp,uv,.slice a1 t.len c1,.slice a2 e.len c2]] w (Ran w L d ov ob.toList (FlowV ob) tgt):=by
 obtain⟨wA,hwA⟩ : ∃ x,w.alloc (.cells #[num 2,num p,str [],nilp,uv,.slice a1 t.len c1,.slice a2 e.len c2] 168)=x:=⟨_,rfl⟩
 have hc0:Chg [] w wA:=by rw [← hwA];exact(Chg.refl _ _).alloc _
 have hbx:Blk wA w.heap.size #[num 2,num p,str [],nilp,uv,.slice a1 t.len c1,.slice a2 e.len c2] 168:=by rw [← hwA];exact Blk.new w _ _
 have HBXA:=zh hbx;have HC0:=zh hc0;have HGA:=zh (h.kept hc0);have HFRA:=zh (hfr.kept hc0 (by simp));have HFX:=zh hfx;have HQ:=zh hq;have HNE:=zh hne;have HTT:=zh ht;have HST:=zh (step_any HGA.out);have HVA:=zh (hvl.kept hc0 (by simp));have HFE:=zh hfe;have HTA:=zh (htl.kept hc0 (by simp));have HEA:=zh (hel.kept hc0 (by simp));have HFT:=zh htf;have HFEE:=zh hef;clear h hbx hc0 hfr hq hne ht hfx hvl hfe htl hel htf hef
 go_enter Tryz.func82,Tryz.ntmps82
 go_wp2_with fail;cases htk : tick s with
 | stuck=>exact absurd (by rw [HTT.out,htk];rfl) HNE.out
 | stop way s1=>
  rw [htk] at HST;have HT:=zh (show tgt = .stop way s1 by rw [HTT.out,htk];rfl);clear htk;refine HST.out.mono ?_;rintro e w2 ⟨ov2,hm,hc,⟨older,hol,rfl⟩,d',hg⟩;have HM2:=zh hm;have HC2:=zh hc;have HG2:=zh hg;clear hm hc hg;go_wp2_with fail;refine⟨rfl,?_⟩;rw [HT.out];exact Ran.after (Ran.ended HM2.out HC2.out HG2.out (Chg.refl _ _) ⟨older,hol,rfl⟩) HC0.out
 | ok _ s1=>
  rw [htk] at HST;have HT1:=zh (show tgt=((fns L.M g).e d q fr v s1).bind fun n s=>if n=0 then (fns L.M g).b d q fr e s else (fns L.M g).b d q fr t s by rw [HTT.out,htk];rfl);clear htk;refine HST.out.mono ?_;rintro e w1 ⟨ov1,hm,hc,rfl,hg⟩;have hnb:=HGA.out.notblk HBXA.out (by decide) (by decide);have HBX1:=zh (HBXA.out.kept hc (by simpa using hnb));have HFR1:=zh (HFRA.out.kept hc (by simpa using HFRA.out.notmut HGA.out));have HMI:=zh hm;have HCC:=zh hc;have HG1:=zh hg;have hnf:=HGA.out.notfix;have HV1:=zh (HVA.out.kept hc (by simpa using hnf));have HT_1:=zh (HTA.out.kept hc (by simpa using hnf));have HE_1:=zh (HEA.out.kept hc (by simpa using hnf));clear hm hc hg hnb hnf hwA;have UP : ∀ {o:O (Fl × Fr)} {e:Ending} {w':World},Ran w1 L d ov1 ob.toList (FlowV ob) o e w'→Ran w L d ov ob.toList (FlowV ob) o e w':=fun hh=>Ran.after (Ran.then HMI.out HCC.out hh) HC0.out
  have HUP:=zh (fun(o:O (Fl × Fr)) (e:Ending) (w':World) (hh:Ran w1 L d ov1 ob.toList (FlowV ob) o e w')=>UP hh);clear UP;have b0:=HBX1.out.cell 0 _ rfl;have b4:=HBX1.out.cell 4 _ rfl;go_wp2_with fail;have HCV:=zh (hE HG1.out HQ.out HFR1.out HV1.out HFE.out (fun hs=>HNE.out (by rw [HT1.out,hs];rfl)));cases hr : (fns L.M g).e d q fr v s1 with
  | stuck=>exact absurd (by rw [HT1.out,hr];rfl) HNE.out
  | stop way s2=>
   rw [hr] at HCV;have HT:=zh (show tgt = .stop way s2 by rw [HT1.out,hr];rfl);clear hr;refine HCV.out.mono ?_;rintro e w2 ⟨ov2,hm,hc,⟨older,hol,rfl⟩,d',hg⟩;have HM2:=zh hm;have HC2:=zh hc;have HG2:=zh hg;clear hm hc hg;go_wp2_with fail;refine⟨rfl,?_⟩;rw [HT.out];exact HUP.out _ _ _ (Ran.ended HM2.out HC2.out HG2.out (Chg.refl _ _) ⟨older,hol,rfl⟩)
  | ok z s2=>
   rw [hr] at HCV;have HT2:=zh (show tgt=if z=0 then (fns L.M g).b d q fr e s2 else (fns L.M g).b d q fr t s2 by rw [HT1.out,hr];rfl);clear hr;refine HCV.out.mono ?_;rintro e w2 ⟨ov2,hm,hc,rfl,hg⟩;have hnb:=HG1.out.notblk HBX1.out (by decide) (by decide);have HBX2:=zh (HBX1.out.kept hc (by simpa using hnb));have HFR2:=zh (HFR1.out.kept hc (by simpa using HFR1.out.notmut HG1.out));have HM2:=zh hm;have HC2:=zh hc;have HG2:=zh hg;have hnf:=HG1.out.notfix;have b5:=HBX2.out.cell 5 _ rfl;have b6:=HBX2.out.cell 6 _ rfl;have HT_2:=zh (HT_1.out.kept hc (by simpa using hnf));have HE_2:=zh (HE_1.out.kept hc (by simpa using hnf));cases hz : (z != 0) with
   | true=>
    have hz0 : z≠0:=by simpa using hz
    have HT:=zh (show tgt=(fns L.M g).b d q fr t s2 by rw [HT2.out,if_neg hz0]);clear hz0;have HBB:=zh (hB HG2.out HQ.out HFR2.out HFX.out HT_2.out HFT.out.1 HFT.out.2 (fun hs=>HNE.out (by rw [HT.out,hs])));clear hm hc hg hnb hnf;go_wp2_with fail;refine HBB.out.mono ?_;intro e w3 he;rw [← HT.out] at he;have hee:=HUP.out _ _ _ (Ran.then HM2.out (by simpa using HC2.out) he);have HEE:=zh hee;obtain⟨_,_,_,hres⟩:=hee;clear he;cases tgt with
    | stuck=>exact absurd rfl HNE.out
    | stop way s9=>
     obtain⟨⟨older,hol,rfl⟩,_⟩:=hres;clear hol;go_wp2_with fail;exact⟨rfl,HEE.out⟩
    | ok x s9=>
     obtain⟨⟨_,hfl⟩,_⟩:=hres;obtain⟨fl,fr9⟩:=x;cases fl with
     | go=>
      simp only at hfl;subst hfl;go_wp2_with fail;refine bodyPost_end (results_none rfl _ _ _) rfl ?_;exact HEE.out
     | ret n9=>
      simp only at hfl;subst hfl;go_wp2_with fail;exact⟨rfl,HEE.out⟩
   | false=>
    have hz0 : z=0:=by simpa using hz
    have HT:=zh (show tgt=(fns L.M g).b d q fr e s2 by rw [HT2.out,if_pos hz0]);clear hz0;have HBB:=zh (hB HG2.out HQ.out HFR2.out HFX.out HE_2.out HFEE.out.1 HFEE.out.2 (fun hs=>HNE.out (by rw [HT.out,hs])));clear hm hc hg hnb hnf;go_wp2_with fail;refine HBB.out.mono ?_;intro e w3 he;rw [← HT.out] at he;have hee:=HUP.out _ _ _ (Ran.then HM2.out (by simpa using HC2.out) he);have HEE:=zh hee;obtain⟨_,_,_,hres⟩:=hee;clear he;cases tgt with
    | stuck=>exact absurd rfl HNE.out
    | stop way s9=>
     obtain⟨⟨older,hol,rfl⟩,_⟩:=hres;clear hol;go_wp2_with fail;exact⟨rfl,HEE.out⟩
    | ok x s9=>
     obtain⟨⟨_,hfl⟩,_⟩:=hres;obtain⟨fl,fr9⟩:=x;cases fl with
     | go=>
      simp only at hfl;subst hfl;go_wp2_with fail;refine bodyPost_end (results_none rfl _ _ _) rfl ?_;exact HEE.out
     | ret n9=>
      simp only at hfl;subst hfl;go_wp2_with fail;exact⟨rfl,HEE.out⟩
theorem s_set (g:Nat) (hE:ConE g) {L:Lay} {d:Nat} {q:Nm} {fr:Fr} {p:Nat} {s:St} {w:World} {ov:Value} {ob:Option Nat} {m:Mod} {n:Nm} {i:Option E} {v:E} {ui uv:Value} (tgt:O (Fl × Fr)) (h:Going w L d s ov) (hq:L.M q=some m) (hfr:FrAt w ob fr) (hfx : ∀ b,ob=some b→¬ L.Fix b) (hil:OptAt w L.Fix i ui) (hif : ∀ x,i=some x→FewE x) (hvl:EAt w L.Fix v [uv]) (hfe:FewE v) (ht : tgt=(tick s).bind fun _ s=>(idxO (fns L.M g) d q fr i s).bind fun k s=>setTail (fns L.M g) d q fr n v k s) (hne : tgt ≠ .stuck) :
  Calls Tryz.prog 82 #[ptr L.br,ptr (L.pb q),.map ob,.agg #[num 1,num p,str n,ui,uv,nils,nils]] w (Ran w L d ov ob.toList (FlowV ob) tgt):=by
 obtain⟨wA,hwA⟩ : ∃ x,w.alloc (.cells #[num 1,num p,str n,ui,uv,nils,nils] 168)=x:=⟨_,rfl⟩
 have hc0:Chg [] w wA:=by rw [← hwA];exact(Chg.refl _ _).alloc _
 have hbx:Blk wA w.heap.size #[num 1,num p,str n,ui,uv,nils,nils] 168:=by rw [← hwA];exact Blk.new w _ _
 have HBXA:=zh hbx;have HC0:=zh hc0;have HGA:=zh (h.kept hc0);have HFRA:=zh (hfr.kept hc0 (by simp));have HFX:=zh hfx;have HQ:=zh hq;have HNE:=zh hne;have HTT:=zh ht;have HST:=zh (step_any HGA.out);have HVA:=zh (hvl.kept hc0 (by simp));have HFE:=zh hfe;have HIA:=zh (hil.kept hc0 (by simp));have HIF:=zh hif;clear h hbx hc0 hfr hq hne ht hfx hvl hfe hil hif
 go_enter Tryz.func82,Tryz.ntmps82
 go_wp2_with fail;cases htk : tick s with
 | stuck=>exact absurd (by rw [HTT.out,htk];rfl) HNE.out
 | stop way s1=>
  rw [htk] at HST;have HT:=zh (show tgt = .stop way s1 by rw [HTT.out,htk];rfl);clear htk;refine HST.out.mono ?_;rintro e w2 ⟨ov2,hm,hc,⟨older,hol,rfl⟩,d',hg⟩;have HM2:=zh hm;have HC2:=zh hc;have HG2:=zh hg;clear hm hc hg;go_wp2_with fail;refine⟨rfl,?_⟩;rw [HT.out];exact Ran.after (Ran.ended HM2.out HC2.out HG2.out (Chg.refl _ _) ⟨older,hol,rfl⟩) HC0.out
 | ok _ s1=>
  rw [htk] at HST;have HT1:=zh (show tgt=(idxO (fns L.M g) d q fr i s1).bind fun k s=>setTail (fns L.M g) d q fr n v k s by rw [HTT.out,htk];rfl);clear htk;refine HST.out.mono ?_;rintro e w1 ⟨ov1,hm,hc,rfl,hg⟩;have hnb:=HGA.out.notblk HBXA.out (by decide) (by decide);have HBX1:=zh (HBXA.out.kept hc (by simpa using hnb));have HFR1:=zh (HFRA.out.kept hc (by simpa using HFRA.out.notmut HGA.out));have HMI:=zh hm;have HCC:=zh hc;have HG1:=zh hg;have hnf:=HGA.out.notfix;have HV1:=zh (HVA.out.kept hc (by simpa using hnf));have HI1:=zh (HIA.out.kept hc (by simpa using hnf));clear hm hc hg hnb hnf hwA;have UP : ∀ {o:O (Fl × Fr)} {e:Ending} {w':World},Ran w1 L d ov1 ob.toList (FlowV ob) o e w'→Ran w L d ov ob.toList (FlowV ob) o e w':=fun hh=>Ran.after (Ran.then HMI.out HCC.out hh) HC0.out
  have HUP:=zh (fun(o:O (Fl × Fr)) (e:Ending) (w':World) (hh:Ran w1 L d ov1 ob.toList (FlowV ob) o e w')=>UP hh);clear UP;have b0:=HBX1.out.cell 0 _ rfl;have b1:=HBX1.out.cell 1 _ rfl;have b2:=HBX1.out.cell 2 _ rfl;have b3:=HBX1.out.cell 3 _ rfl;have b4:=HBX1.out.cell 4 _ rfl;have b5:=HBX1.out.cell 5 _ rfl;have b6:=HBX1.out.cell 6 _ rfl;go_wp2_with fail;have hset:Calls Tryz.prog 116 #[ptr L.br,ptr (L.pb q),.map ob,.agg #[num 1,num p,str n,ui,uv,nils,nils]] w1 (Ran w1 L d ov1 ob.toList (FlowV ob) tgt):=by
   have hi:=HI1.out;cases i with
   | none=>
    rw [show ui=nilp from hi];exact set_plain g hE tgt HG1.out HQ.out HFR1.out HFX.out HV1.out HFE.out HT1.out HNE.out
   | some i=>exact set_item g hE tgt HG1.out HQ.out HFR1.out HFX.out hi (HIF.out i rfl) HV1.out HFE.out HT1.out HNE.out
  refine hset.mono ?_;intro e w3 he;have hee:=HUP.out _ _ _ he;have HEE:=zh hee;obtain⟨_,_,_,hres⟩:=hee;clear he hset;cases tgt with
  | stuck=>exact absurd rfl HNE.out
  | stop way s9=>
   obtain⟨⟨older,hol,rfl⟩,_⟩:=hres;clear hol;go_wp2_with fail;exact⟨rfl,HEE.out⟩
  | ok x s9=>
   obtain⟨⟨_,hfl⟩,_⟩:=hres;obtain⟨fl,fr9⟩:=x;cases fl with
   | go=>
    simp only at hfl;subst hfl;go_wp2_with fail;refine bodyPost_end (results_none rfl _ _ _) rfl ?_;exact HEE.out
   | ret n9=>
    simp only at hfl;subst hfl;go_wp2_with fail;exact⟨rfl,HEE.out⟩
end Go.Proofs.YtechofppmnnomaaGreatDoor
namespace Go.Mq.Run
open Go Go.RowKit Go.Mq Go.Mq.Tree
structure Keeps (R:St→St→Prop):Prop where
 refl : ∀ s,R s s
 trans : ∀ {a b c},R a b→R b c→R a c
 tick : ∀ s,s.fuel≠0→R s { s with fuel:=s.fuel - 1 }
 out : ∀ s n,s.out.length≠200→R s { s with out:=s.out ++ [n] }
 put : ∀ s q n l k v,s.vs q n=some l→R s { s with vs:=putV s.vs q n (l.set k v) }
def Al {α:Type} (R:St→St→Prop) (s:St) (o:O α):Prop:=match o with
 | .ok _ s'=>R s s'
 | .stop _ s'=>R s s'
 | .stuck=>True
section
variable {R:St→St→Prop} (K:Keeps R)
include K
theorem Al.bind {α β:Type} {s:St} {o:O α} {f : α→St→O β} (h:Al R s o) (k : ∀ a s',Al R s' (f a s')):Al R s (o.bind f):=by
 cases o with
 | stuck=>trivial
 | stop w s'=>exact h
 | ok a s'=>
  have h2:=k a s'
  show Al R s (f a s')
  cases hf : f a s' with
  | stuck=>trivial
  | stop w s2=>rw [hf] at h2;exact K.trans h h2
  | ok b s2=>rw [hf] at h2;exact K.trans h h2
theorem al_tick (s:St):Al R s (tick s):=by
 unfold tick
 split
 ·exact K.refl s
 ·exact K.tick s ‹_›
structure AlF (R:St→St→Prop) (F:Fns):Prop where
 e : ∀ d q fr x s,Al R s (F.e d q fr x s)
 es : ∀ d q fr x s,Al R s (F.es d q fr x s)
 c : ∀ d q p a s,Al R s (F.c d q p a s)
 b : ∀ d q fr x s,Al R s (F.b d q fr x s)
 l : ∀ d q fr v t s,Al R s (F.l d q fr v t s)
theorem al_item (l:Option (List Int)) (k:Int) (s:St):Al R s (itemO l k s):=by
 unfold itemO
 split
 ·exact K.refl s
 ·split <;> exact K.refl s
theorem al_var (l:Option (List Int)) (s:St):Al R s (varO l s):=by
 unfold varO
 split
 ·exact K.refl s
 ·trivial
theorem al_set (q:Nm) (fr:Fr) (n:Nm) (k v:Int) (s:St):Al R s (setO q fr n k v s):=by
 unfold setO
 split
 ·exact K.refl s
 ·split
  ·exact K.refl s
  ·split
   ·exact K.put _ _ _ _ _ _ ‹_›
   ·exact K.refl s
theorem al_step {M:Ms} {F:Fns} (h:AlF R F):AlF R ⟨stepE M F,stepEs F,stepC F,stepB F,stepL F⟩ where
 e d q fr x s:=by
  show Al R s (stepE M F d q fr x s)
  cases x with
  | num p n=>exact K.refl s
  | var p m n=>
   show Al R s (if m=[] then match getF fr n with
    | some v=>O.ok v s
    | none=>varO (s.vs q n) s
   else varO (s.vs m n) s)
   split
   ·split
    ·exact K.refl s
    ·exact al_var K _ _
   ·exact al_var K _ _
  | item p m n i=>
   show Al R s (if (M (where_ q m)).isSome then _ else _)
   split
   ·exact Al.bind K (h.e _ _ _ _ _) fun k s'=>al_item K _ _ _
   ·trivial
  | un p op x=>exact Al.bind K (h.e _ _ _ _ _) fun _ s'=>K.refl s'
  | bin p op x y=>
   refine Al.bind K (h.e _ _ _ _ _) fun a s'=>?_
   split
   ·split
    ·exact K.refl s'
    ·exact Al.bind K (h.e _ _ _ _ _) fun _ s'=>K.refl s'
   ·refine Al.bind K (h.e _ _ _ _ _) fun b s'=>?_
    split
    ·exact K.refl s'
    ·exact K.refl s'
  | app p m n l=>
   show Al R s (match M (where_ q m) with
    | none=>.stuck
    | some mo=>match mo.procs.find? fun p=>p.name == n with
     | none=>.stuck
     | some p=>(F.es d q fr l s).bind fun args s=>F.c d (where_ q m) p args s)
   split
   ·trivial
   ·split
    ·trivial
    ·exact Al.bind K (h.es _ _ _ _ _) fun a s'=>h.c _ _ _ _ _
  | nil=>trivial
  | cons x r=>trivial
 es d q fr x s:=by
  show Al R s (stepEs F d q fr x s)
  cases x with
  | nil=>exact K.refl s
  | cons x r=>exact Al.bind K (h.e _ _ _ _ _) fun n s'=>Al.bind K (h.es _ _ _ _ _) fun _ s'=>K.refl s'
  | _=>trivial
 c d q p a s:=by
  show Al R s (stepC F d q p a s)
  unfold stepC
  split
  ·exact K.refl s
  ·split
   ·trivial
   ·exact Al.bind K (h.b _ _ _ _ _) fun _ s'=>K.refl s'
 b d q fr x s:=by
  show Al R s (stepB F d q fr x s)
  unfold stepB
  split
  ·exact K.refl s
  ·refine Al.bind K ?_ fun x s'=>?_
   ·cases x with
    | nil=>trivial
    | set p n i v r=>
     refine Al.bind K (al_tick K _) fun _ s'=>Al.bind K ?_ fun k s'=>Al.bind K (h.e _ _ _ _ _) fun v s'=>al_set K _ _ _ _ _ _
     cases i with
     | none=>exact K.refl s'
     | some i=>exact h.e _ _ _ _ _
    | ifs p v t e r=>
     refine Al.bind K (al_tick K _) fun _ s'=>Al.bind K (h.e _ _ _ _ _) fun n s'=>?_
     split
     ·exact h.b _ _ _ _ _
     ·exact h.b _ _ _ _ _
    | whil p v t r=>exact Al.bind K (al_tick K _) fun _ s'=>h.l _ _ _ _ _ _
    | ret p v r=>exact Al.bind K (al_tick K _) fun _ s'=>Al.bind K (h.e _ _ _ _ _) fun _ s'=>K.refl s'
    | wri p v r=>
     refine Al.bind K (al_tick K _) fun _ s'=>Al.bind K (h.e _ _ _ _ _) fun n s'=>?_
     split
     ·exact K.refl s'
     ·exact K.out _ _ ‹_›
    | call p v r=>exact Al.bind K (al_tick K _) fun _ s'=>Al.bind K (h.e _ _ _ _ _) fun _ s'=>K.refl s'
   ·split
    ·exact h.b _ _ _ _ _
    ·exact K.refl s'
 l d q fr v t s:=by
  show Al R s (stepL F d q fr v t s)
  refine Al.bind K (h.e _ _ _ _ _) fun n s'=>?_
  split
  ·exact K.refl s'
  ·refine Al.bind K (h.b _ _ _ _ _) fun x s'=>?_
   split
   ·exact Al.bind K (al_tick K _) fun _ s'=>h.l _ _ _ _ _ _
   ·exact K.refl s'
theorem along (M:Ms) : ∀ g,AlF R (fns M g)
 | 0=>⟨fun _ _ _ _ _=>trivial,fun _ _ _ _ _=>trivial,fun _ _ _ _ _=>trivial,fun _ _ _ _ _=>trivial,fun _ _ _ _ _ _=>trivial⟩
 | g + 1=>al_step K (along M g)
end
theorem keeps_fuel:Keeps fun s s'=>s'.fuel≤s.fuel:=⟨fun _=>Nat.le_refl _,fun h k=>Nat.le_trans k h,fun _ _=>Nat.sub_le _ _,fun _ _ _=>Nat.le_refl _,fun _ _ _ _ _ _ _=>Nat.le_refl _⟩
theorem keeps_out:Keeps fun s s'=>s.out <+: s'.out:=⟨fun _=>List.prefix_rfl,fun h k=>List.IsPrefix.trans h k,fun _ _=>List.prefix_rfl,fun _ _ _=>List.prefix_append _ _,fun _ _ _ _ _ _ _=>List.prefix_rfl⟩
theorem keeps_shape:Keeps fun s s'=>∀ q n,(s'.vs q n).map List.length=(s.vs q n).map List.length:=⟨fun _ _ _=>rfl,fun h k q n=>(k q n).trans (h q n),fun _ _ _ _=>rfl,fun _ _ _ _ _=>rfl,fun s q n l k v hl q' n'=>by
 simp only [putV];split
 ·next hh=>obtain⟨rfl,rfl⟩:=hh;rw [hl];simp
 ·rfl⟩
end Go.Mq.Run
namespace Go.Mq.Run
open Go Go.RowKit Go.Mq Go.Mq.Tree
def fuelAt (w:World) (b:Nat):Nat:=match w.cell? ⟨b,1,none⟩ with
 | some (.int _ n)=>n.toNat
 | _=>0
theorem Going.fuel {w:World} {L:Lay} {d:Nat} {s:St} {ov:Value} (h:Going w L d s ov) : fuelAt w L.br=s.fuel:=by
 have:=h.run.cell 1 _ rfl;rw [fuelAt,this];simp
theorem acc_step {L:Lay} {X:List Nat} {w1 wr w2:World} {ov1 ov' ov2:Value} (hm:Moved w1 ov1 ov') (hc:Chg (X ++ mutL L ov1) w1 wr) (hm2:Moved wr ov' ov2) (hc2:Chg (X ++ mutL L ov') wr w2):Moved w1 ov1 ov2∧Chg (X ++ mutL L ov1) w1 w2:=by
 refine⟨hm.trans hc hm2,hc.trans hc2 (fun x hx=>?_)⟩;rcases List.mem_append.1 hx with hx|hx
 ·exact .inl (List.mem_append_left _ hx)
 ·rcases List.mem_cons.1 hx with rfl|hx
  ·exact .inl (List.mem_append_right _ List.mem_cons_self)
  ·rcases List.mem_append.1 hx with hx|hx
   ·rcases hm x hx with h|h
    ·exact .inl (List.mem_append_right _ (List.mem_cons_of_mem _ (List.mem_append_left _ h)))
    ·exact .inr h
   ·exact .inl (List.mem_append_right _ (List.mem_cons_of_mem _ (List.mem_append_right _ hx)))
theorem chg_add {Z X:List Nat} {a b:World} (h:Chg Z a b):Chg (X ++ Z) a b:=h.mono fun x hx=>.inl (List.mem_append_right _ hx)
theorem loop_step {M:Ms} {g d:Nat} {q:Nm} {fr:Fr} {v:E} {t:S} {s:St} {o:O (Fl × Fr)} (h : o=(fns M g).l d q fr v t s) (ho : o ≠ .stuck) :
  ∃ g',g=g' + 1∧o=((fns M g').e d q fr v s).bind fun n s=>if n=0 then .ok (.go,fr) s else ((fns M g').b d q fr t s).bind fun x s=>match x.1 with
   | .go=>(tick s).bind fun _ s=>(fns M g').l d q x.2 v t s
   | .ret n=>.ok (.ret n,x.2) s:=by
 cases g with
 | zero=>exact absurd h ho
 | succ g'=>exact⟨g',rfl,h⟩
theorem tick_ok {s s2:St} {u:Unit} (h : tick s = .ok u s2) : s2.fuel < s.fuel:=by
 unfold tick at h
 split at h
 ·cases h
 ·cases h
  simp only;omega
end Go.Mq.Run
namespace Go.Proofs.YtechofppmnnomaaGreatDoor
open Go Go.RowKit Go.Mq Go.Mq.Tree Go.Mq.Run
open Go.Mq.Check (FewM FewS FewE argsN)
set_option maxRecDepth 100000
set_option maxHeartbeats 4000000
theorem s_whil (g:Nat) (hE : ∀ g',g'≤g→ConE g') (hB : ∀ g',g'≤g→ConB g') {L:Lay} {d:Nat} {q:Nm} {fr:Fr} {p:Nat} {s:St} {w:World} {ov:Value} {ob:Option Nat} {m:Mod} {v:E} {uv:Value} {t:S} {a1:Option Addr} {c1:Nat} (tgt:O (Fl × Fr)) (h:Going w L d s ov) (hq:L.M q=some m) (hfr:FrAt w ob fr) (hfx : ∀ b,ob=some b→¬ L.Fix b) (hvl:EAt w L.Fix v [uv]) (hfe:FewE v) (htl:SlAt w L.Fix t (.slice a1 t.len c1)) (htf:FewS t∧t.len≤1000) (ht : tgt=(tick s).bind fun _ s=>(fns L.M g).l d q fr v t s) (hne : tgt ≠ .stuck) :
  Calls Tryz.prog 82 #[ptr L.br,ptr (L.pb q),.map ob,.agg #[num 3,num p,str [],nilp,uv,.slice a1 t.len c1,nils]] w (Ran w L d ov ob.toList (FlowV ob) tgt):=by
 obtain⟨wA,hwA⟩ : ∃ x,w.alloc (.cells #[num 3,num p,str [],nilp,uv,.slice a1 t.len c1,nils] 168)=x:=⟨_,rfl⟩
 have hc0:Chg [] w wA:=by rw [← hwA];exact(Chg.refl _ _).alloc _
 have hbx:Blk wA w.heap.size #[num 3,num p,str [],nilp,uv,.slice a1 t.len c1,nils] 168:=by rw [← hwA];exact Blk.new w _ _
 have HBXA:=zh hbx;have HC0:=zh hc0;have HGA:=zh (h.kept hc0);have HFRA:=zh (hfr.kept hc0 (by simp));have HFX:=zh hfx;have HQ:=zh hq;have HNE:=zh hne;have HTT:=zh ht;have HST:=zh (step_any HGA.out);have HVA:=zh (hvl.kept hc0 (by simp));have HFE:=zh hfe;have HTA:=zh (htl.kept hc0 (by simp));have HFT:=zh htf;clear h hbx hc0 hfr hq hne ht hfx hvl hfe htl htf
 go_enter Tryz.func82,Tryz.ntmps82
 go_wp2_with fail;cases htk : tick s with
 | stuck=>exact absurd (by rw [HTT.out,htk];rfl) HNE.out
 | stop way s1=>
  rw [htk] at HST;have HT:=zh (show tgt = .stop way s1 by rw [HTT.out,htk];rfl);clear htk;refine HST.out.mono ?_;rintro e w2 ⟨ov2,hm,hc,⟨older,hol,rfl⟩,d',hg⟩;have HM2:=zh hm;have HC2:=zh hc;have HG2:=zh hg;clear hm hc hg;go_wp2_with fail;refine⟨rfl,?_⟩;rw [HT.out];exact Ran.after (Ran.ended HM2.out HC2.out HG2.out (Chg.refl _ _) ⟨older,hol,rfl⟩) HC0.out
 | ok _ s1=>
  rw [htk] at HST;have HT1:=zh (show tgt=(fns L.M g).l d q fr v t s1 by rw [HTT.out,htk];rfl);clear htk;refine HST.out.mono ?_;rintro e w1 ⟨ov1,hm,hc,rfl,hg⟩;have hnb:=HGA.out.notblk HBXA.out (by decide) (by decide);have HBX1:=zh (HBXA.out.kept hc (by simpa using hnb));have HFR1:=zh (HFRA.out.kept hc (by simpa using HFRA.out.notmut HGA.out));have HMI:=zh hm;have HCC:=zh hc;have HG1:=zh hg;have hnf:=HGA.out.notfix;have HV1:=zh (HVA.out.kept hc (by simpa using hnf));have HT_1:=zh (HTA.out.kept hc (by simpa using hnf));clear hm hc hg hnb hnf hwA;have UP : ∀ {o:O (Fl × Fr)} {e:Ending} {w':World},Ran w1 L d ov1 ob.toList (FlowV ob) o e w'→Ran w L d ov ob.toList (FlowV ob) o e w':=fun hh=>Ran.after (Ran.then HMI.out HCC.out hh) HC0.out
  have HUP:=zh (fun(o:O (Fl × Fr)) (e:Ending) (w':World) (hh:Ran w1 L d ov1 ob.toList (FlowV ob) o e w')=>UP hh);clear UP;have b0:=HBX1.out.cell 0 _ rfl;have b4:=HBX1.out.cell 4 _ rfl;go_wp2_with fail;clear b0 b4;have hfxx:=HFX.out;have hnotx : ∀ (wr:World),∀ x∈ob.toList ++ mutL L ov1,¬ L.Fix x:=fun _ x hx hf=>by
   rcases List.mem_append.1 hx with hx|hx
   ·cases ob with
    | none=>cases hx
    | some bf=>simp at hx;subst hx;exact hfxx _ rfl hf
   ·exact HG1.out.notfix x hx hf
  have hnbx : w.heap.size∉ob.toList ++ mutL L ov1:=fun hx=>by
   rcases List.mem_append.1 hx with hx|hx
   ·cases ob with
    | none=>cases hx
    | some bf=>
     simp at hx
     subst hx;rcases HFR1.out with⟨h1,_⟩|⟨b',h1,⟨arr,clock,hbm,_⟩⟩
     ·cases h1
     ·cases h1
      have:=HBX1.out
      unfold Blk at this
      rw [this] at hbm;cases hbm
   ·exact HG1.out.notblk HBX1.out (by decide) (by decide) hx
  have HNX:=zh (hnotx w1);have HNBX:=zh hnbx;clear hfxx hnotx hnbx
  go_loopw [] (fun wr=>∃ (g':Nat) (fr':Fr) (s':St) (ov':Value),g'≤g∧tgt=(fns L.M g').l d q fr' v t s'∧Going wr L d s' ov'∧FrAt wr ob fr'∧Moved w1 ov1 ov'∧Chg (ob.toList ++ mutL L ov1) w1 wr) (fun wr=>fuelAt wr L.br)
  case atStart=>exact⟨g,fr,s1,ov1,Nat.le_refl _,HT1.out,HG1.out,HFR1.out,Moved.refl _ _,Chg.refl _ _⟩
  case round=>
   obtain⟨g',fr',s',ov',hgg,htl,hg,hfr,hm,hc⟩:=hrel;obtain⟨g2,rfl,ht2⟩:=loop_step htl HNE.out;have HT2:=zh ht2;have HG:=zh hg;have HFR:=zh hfr;have HM:=zh hm;have HC:=zh hc;have hbxr:=HBX1.out.kept hc HNBX.out;have HBXR:=zh hbxr;have HCE:=zh (hE g2 (by omega) hg HQ.out hfr (HV1.out.kept hc HNX.out) HFE.out (fun hs=>HNE.out (by rw [ht2,hs];rfl)));have HTR:=zh (HT_1.out.kept hc HNX.out);have b4:=hbxr.cell 4 _ rfl;clear htl ht2 hg hfr hm hc hbxr;cases hr : (fns L.M g2).e d q fr' v s' with
   | stuck=>exact absurd (by rw [HT2.out,hr];rfl) HNE.out
   | stop way s2=>
    rw [hr] at HCE;have HT:=zh (show tgt = .stop way s2 by rw [HT2.out,hr];rfl);clear hr;go_wp2_with fail;refine HCE.out.mono ?_;rintro e w2 ⟨ov2,hm,hc,⟨older,hol,rfl⟩,d',hg⟩;obtain⟨hm2,hc2⟩:=acc_step HM.out HC.out hm (chg_add (X:=ob.toList) (by simpa using hc));have HM2:=zh hm2;have HC2:=zh hc2;have HG2:=zh hg;clear hm hc hg hm2 hc2;go_wp2_with fail;refine⟨rfl,?_⟩;rw [HT.out];exact HUP.out _ _ _ ⟨ov2,HM2.out,HC2.out,⟨older,hol,rfl⟩,d',HG2.out⟩
   | ok z s2=>
    rw [hr] at HCE;have HT3:=zh (show tgt=(if z=0 then .ok (.go,fr') s2 else ((fns L.M g2).b d q fr' t s2).bind fun x s=>match x.1 with
     | .go=>(tick s).bind fun _ s=>(fns L.M g2).l d q x.2 v t s
     | .ret n=>.ok (.ret n,x.2) s) by rw [HT2.out,hr];rfl)
    have hf2 : s2.fuel≤s'.fuel:=by have:=(along keeps_fuel L.M g2).e d q fr' v s';rw [hr] at this;exact this
    have HF2:=zh hf2;clear hr hf2;go_wp2_with fail;refine HCE.out.mono ?_;rintro e w2 ⟨ov2,hm,hc,rfl,hg⟩;have hnb:=HG.out.notblk HBXR.out (by decide) (by decide);have HBX2:=zh (HBXR.out.kept hc (by simpa using hnb));have HFR2:=zh (HFR.out.kept hc (by simpa using HFR.out.notmut HG.out));have HT_2:=zh (HTR.out.kept hc (by simpa using HG.out.notfix));obtain⟨hm2,hc2⟩:=acc_step HM.out HC.out hm (chg_add (X:=ob.toList) (by simpa using hc));have HM2:=zh hm2;have HC2:=zh hc2;have HG2:=zh hg;have b5:=HBX2.out.cell 5 _ rfl;clear hm hc hg hm2 hc2 hnb b4;cases hz : (z != 0) with
    | false=>
     have hz0 : z=0:=by simpa using hz
     have HT:=zh (show tgt = .ok (.go,fr') s2 by rw [HT3.out,if_pos hz0]);clear hz0;go_wp2_with fail;refine bodyPost_end (results_none rfl _ _ _) rfl ?_;rw [HT.out];exact HUP.out _ _ _ ⟨ov2,HM2.out,HC2.out,⟨HFR2.out,rfl⟩,HG2.out⟩
    | true=>
     have hz0 : z≠0:=by simpa using hz
     have HT4:=zh (show tgt=((fns L.M g2).b d q fr' t s2).bind fun x s=>match x.1 with
      | .go=>(tick s).bind fun _ s=>(fns L.M g2).l d q x.2 v t s
      | .ret n=>.ok (.ret n,x.2) s by rw [HT3.out,if_neg hz0])
     have HCB:=zh (hB g2 (by omega) HG2.out HQ.out HFR2.out HFX.out HT_2.out HFT.out.1 HFT.out.2 (fun hs=>HNE.out (by rw [HT4.out,hs];rfl)));clear hz0;cases hr : (fns L.M g2).b d q fr' t s2 with
     | stuck=>exact absurd (by rw [HT4.out,hr];rfl) HNE.out
     | stop way s3=>
      rw [hr] at HCB;have HT:=zh (show tgt = .stop way s3 by rw [HT4.out,hr];rfl);clear hr;go_wp2_with fail;refine HCB.out.mono ?_;rintro e w3 ⟨ov3,hm,hc,⟨older,hol,rfl⟩,d',hg⟩;obtain⟨hm3,hc3⟩:=acc_step HM2.out HC2.out hm hc;have HM3:=zh hm3;have HC3:=zh hc3;have HG3:=zh hg;clear hm hc hg hm3 hc3;go_wp2_with fail;refine⟨rfl,?_⟩;rw [HT.out];exact HUP.out _ _ _ ⟨ov3,HM3.out,HC3.out,⟨older,hol,rfl⟩,d',HG3.out⟩
     | ok x s3=>
      obtain⟨fl,fr3⟩:=x;rw [hr] at HCB;have hf3 : s3.fuel≤s2.fuel:=by have:=(along keeps_fuel L.M g2).b d q fr' t s2;rw [hr] at this;exact this
      have HF3:=zh hf3;clear hf3;cases fl with
      | ret n9=>
       have HT:=zh (show tgt = .ok (.ret n9,fr3) s3 by rw [HT4.out,hr];rfl);clear hr;go_wp2_with fail;refine HCB.out.mono ?_;rintro e w3 ⟨ov3,hm,hc,⟨hfr3,hfl⟩,hg⟩;simp only at hfl;subst hfl;obtain⟨hm3,hc3⟩:=acc_step HM2.out HC2.out hm hc;have HM3:=zh hm3;have HC3:=zh hc3;have HG3:=zh hg;have HFR3:=zh hfr3;clear hm hc hg hm3 hc3 hfr3;go_wp2_with fail;refine⟨rfl,?_⟩;rw [HT.out];exact HUP.out _ _ _ ⟨ov3,HM3.out,HC3.out,⟨HFR3.out,rfl⟩,HG3.out⟩
      | go=>
       have HT5:=zh (show tgt=(tick s3).bind fun _ s=>(fns L.M g2).l d q fr3 v t s by rw [HT4.out,hr];rfl);clear hr;go_wp2_with fail;refine HCB.out.mono ?_;rintro e w3 ⟨ov3,hm,hc,⟨hfr3,hfl⟩,hg⟩;simp only at hfl;subst hfl;obtain⟨hm3,hc3⟩:=acc_step HM2.out HC2.out hm hc;have HST:=zh (step_any hg);have HM3:=zh hm3;have HC3:=zh hc3;have HG3:=zh hg;have HFR3:=zh hfr3;clear hm hc hg hm3 hc3 hfr3;cases htk : tick s3 with
       | stuck=>exact absurd (by rw [HT5.out,htk];rfl) HNE.out
       | stop way s4=>
        rw [htk] at HST;have HT:=zh (show tgt = .stop way s4 by rw [HT5.out,htk];rfl);clear htk;go_wp2_with fail;refine HST.out.mono ?_;rintro e w4 ⟨ov4,hm,hc,⟨older,hol,rfl⟩,d',hg⟩;obtain⟨hm4,hc4⟩:=acc_step HM3.out HC3.out hm (chg_add (X:=ob.toList) (by simpa using hc));have HM4:=zh hm4;have HC4:=zh hc4;have HG4:=zh hg;clear hm hc hg hm4 hc4;go_wp2_with fail;refine⟨rfl,?_⟩;rw [HT.out];exact HUP.out _ _ _ ⟨ov4,HM4.out,HC4.out,⟨older,hol,rfl⟩,d',HG4.out⟩
       | ok _ s4=>
        rw [htk] at HST;have HT6:=zh (show tgt=(fns L.M g2).l d q fr3 v t s4 by rw [HT5.out,htk];rfl);have HF4:=zh (tick_ok htk);clear htk;go_wp2_with fail;refine HST.out.mono ?_;rintro e w4 ⟨ov4,hm,hc,rfl,hg⟩;obtain⟨hm4,hc4⟩:=acc_step HM3.out HC3.out hm (chg_add (X:=ob.toList) (by simpa using hc));have HFR4:=zh (HFR3.out.kept hc (by simpa using HFR3.out.notmut HG3.out));have HM4:=zh hm4;have HC4:=zh hc4;have HG4:=zh hg;clear hm hc hg hm4 hc4;go_wp2_with fail;refine⟨⟨g2,fr3,s4,ov4,by omega,HT6.out,HG4.out,HFR4.out,HM4.out,HC4.out⟩,?_⟩;rw [HG4.out.fuel,HG.out.fuel];have:=HF2.out;have:=HF3.out;have:=HF4.out;omega
end Go.Proofs.YtechofppmnnomaaGreatDoor
namespace Go.Mq.Run
open Go Go.RowKit Go.Mq Go.Mq.Tree
theorem body_step {M:Ms} {g d:Nat} {q:Nm} {fr:Fr} {r:S} {s:St} {o:O (Fl × Fr)} (h : o=(fns M g).b d q fr r s) (ho : o ≠ .stuck) :
  ∃ g',g=g' + 1∧(r.len=0→o = .ok (.go,fr) s)∧(r.len≠0→o=andThen (fns M g') d q (rest r) (stmtO (fns M g') d q fr r s)):=by
 cases g with
 | zero=>exact absurd h ho
 | succ g'=>
  refine⟨g',rfl,fun h0=>?_,fun h0=>?_⟩
  ·rw [h];show (if r.len=0 then _ else _)=_;rw [if_pos h0]
  ·rw [h];show (if r.len=0 then _ else _)=_;rw [if_neg h0]
end Go.Mq.Run
namespace Go.Proofs.YtechofppmnnomaaGreatDoor
open Go Go.RowKit Go.Mq Go.Mq.Tree Go.Mq.Run
open Go.Mq.Check (FewM FewS FewE argsN set7C cells7C)
set_option maxRecDepth 100000
set_option maxHeartbeats 4000000
theorem rstmt_view (g:Nat) (hE : ∀ g',g'≤g→ConE g') (hB : ∀ g',g'≤g→ConB g') {L:Lay} {d:Nat} {q:Nm} {fr:Fr} {s:St} {w:World} {ov:Value} {ob:Option Nat} {m:Mod} (r:S) (cs:List Value) (hs:SAt w L.Fix r cs) (hf:FewS r) (h0 : r.len≠0) (h:Going w L d s ov) (hq:L.M q=some m) (hfr:FrAt w ob fr) (hfx : ∀ b,ob=some b→¬ L.Fix b) (hne : stmtO (fns L.M g) d q fr r s ≠ .stuck) :
  ∃ (code p n1 k1 n2 k2:Nat) (nm:List UInt8) (oi ox:Option Addr) (a1 a2:Option Addr) (cs':List Value),cs = .int .i64 code :: .int .i64 p :: str nm :: .pointer oi :: .pointer ox :: .slice a1 n1 k1 :: .slice a2 n2 k2 :: cs'∧SAt w L.Fix (rest r) cs'∧FewS (rest r)∧r.len=(rest r).len + 1 ∧
  ∀ w',Chg [] w w'→Calls Tryz.prog 82 #[ptr L.br,ptr (L.pb q),.map ob,.agg #[.int .i64 code,.int .i64 p,str nm,.pointer oi,.pointer ox,.slice a1 n1 k1,.slice a2 n2 k2]] w' (Ran w' L d ov ob.toList (FlowV ob) (stmtO (fns L.M g) d q fr r s)):=by
 cases r with
 | nil=>exact absurd rfl h0
 | set p n i v r=>
  obtain⟨ui,uv,cs',rfl,hi,hv,hr⟩:=hs;obtain⟨oi,rfl⟩:=hi.ptr;obtain⟨bv,rfl⟩:=hv.ptr;exact⟨1,p,0,0,0,0,n,oi,_,none,none,cs',rfl,hr,hf.2.2,rfl,fun w' hc=>s_set g (hE g (Nat.le_refl _)) _ (h.kept hc) hq (hfr.kept hc (by simp)) hfx (hi.kept hc (by simp)) hf.1 (hv.kept hc (by simp)) hf.2.1 rfl hne⟩
 | ifs p v t e r=>
  obtain⟨uv,a1,c1,ts,a2,c2,es,cs',rfl,hv,hc1,hr1,ht,hc2,hr2,he,hr⟩:=hs;obtain⟨bv,rfl⟩:=hv.ptr;exact⟨2,p,_,_,_,_,[],none,_,a1,a2,cs',rfl,hr,hf.2.2.2.2.2,rfl,fun w' hc=>s_ifs g (hE g (Nat.le_refl _)) (hB g (Nat.le_refl _)) _ (h.kept hc) hq (hfr.kept hc (by simp)) hfx (hv.kept hc (by simp)) hf.1 ⟨a1,c1,ts,rfl,hc1,hr1.kept hc (by simp),ht.kept hc (by simp)⟩ ⟨a2,c2,es,rfl,hc2,hr2.kept hc (by simp),he.kept hc (by simp)⟩ ⟨hf.2.1,hf.2.2.1⟩ ⟨hf.2.2.2.1,hf.2.2.2.2.1⟩ rfl hne⟩
 | whil p v t r=>
  obtain⟨uv,a1,c1,ts,cs',rfl,hv,hc1,hr1,ht,hr⟩:=hs;obtain⟨bv,rfl⟩:=hv.ptr;exact⟨3,p,_,_,0,0,[],none,_,a1,none,cs',rfl,hr,hf.2.2.2,rfl,fun w' hc=>s_whil g hE hB _ (h.kept hc) hq (hfr.kept hc (by simp)) hfx (hv.kept hc (by simp)) hf.1 ⟨a1,c1,ts,rfl,hc1,hr1.kept hc (by simp),ht.kept hc (by simp)⟩ ⟨hf.2.1,hf.2.2.1⟩ rfl hne⟩
 | ret p v r=>
  obtain⟨uv,cs',rfl,hv,hr⟩:=hs;obtain⟨bv,rfl⟩:=hv.ptr;exact⟨4,p,0,0,0,0,[],none,_,none,none,cs',rfl,hr,hf.2,rfl,fun w' hc=>s_ret g (hE g (Nat.le_refl _)) _ (h.kept hc) hq (hfr.kept hc (by simp)) hfx (hv.kept hc (by simp)) hf.1 rfl hne⟩
 | wri p v r=>
  obtain⟨uv,cs',rfl,hv,hr⟩:=hs;obtain⟨bv,rfl⟩:=hv.ptr;exact⟨5,p,0,0,0,0,[],none,_,none,none,cs',rfl,hr,hf.2,rfl,fun w' hc=>s_wri g (hE g (Nat.le_refl _)) _ (h.kept hc) hq (hfr.kept hc (by simp)) hfx (hv.kept hc (by simp)) hf.1 rfl hne⟩
 | call p v r=>
  obtain⟨uv,cs',rfl,hv,hr⟩:=hs;obtain⟨bv,rfl⟩:=hv.ptr;exact⟨6,p,0,0,0,0,[],none,_,none,none,cs',rfl,hr,hf.2,rfl,fun w' hc=>s_call g (hE g (Nat.le_refl _)) _ (h.kept hc) hq (hfr.kept hc (by simp)) hfx (hv.kept hc (by simp)) hf.1 rfl hne⟩
theorem conB_zero:ConB 0:=fun _ _ _ _ _ _ _ ho=>absurd rfl ho
theorem conB_succ (g:Nat) (hE : ∀ g',g'≤g→ConE g') (hB : ∀ g',g'≤g→ConB g'):ConB (g + 1):=by
 intro L d q fr x s w ov ob v m h hq hfr hfx hsl hfs hlen hne0;obtain⟨a,k0,cs,rfl,hk0,hrow,hs⟩:=hsl;obtain⟨tgt,ht⟩ : ∃ o,o=(fns L.M (g + 1)).b d q fr x s:=⟨_,rfl⟩
 rw [← ht] at hne0 ⊢;have HNE:=zh hne0;have H:=zh h;have HFR:=zh hfr;have HFX:=zh hfx;have HROW:=zh hrow;have HS:=zh hs;have HFS:=zh hfs;have HT0:=zh ht;have HQ:=zh hq;have HLEN:=zh hlen;have hnotx : ∀ x∈ob.toList ++ mutL L ov,¬ L.Fix x:=fun x hx hf=>by
  rcases List.mem_append.1 hx with hx|hx
  ·cases ob with
   | none=>cases hx
   | some bf=>simp at hx;subst hx;exact hfx _ rfl hf
  ·exact h.notfix x hx hf
 have HNX:=zh hnotx;clear h hfr hfx hrow hs hfs ht hne0 hq hnotx
 go_enter Tryz.func43,Tryz.ntmps43
 go_wp2_with fail
 go_loopw [9,12] (fun _ i wr=>∃ (k:Nat) (r:S) (cs1 cs2:List Value) (g':Nat) (fr':Fr) (s':St) (ov':Value),i = .int .i64 k∧k + r.len=x.len∧cs=cs1 ++ cs2∧cs1.length=k * 7∧SAt wr L.Fix r cs2∧FewS r∧g'≤g + 1∧tgt=(fns L.M g').b d q fr' r s'∧Going wr L d s' ov'∧FrAt wr ob fr'∧Moved w ov ov'∧Chg (ob.toList ++ mutL L ov) w wr) (fun _ i _=>x.len - (intOf i).toNat)
 case atStart=>exact⟨0,x,[],cs,g + 1,fr,s,ov,rfl,by simp,rfl,rfl,HS.out,HFS.out,Nat.le_refl _,HT0.out,H.out,HFR.out,Moved.refl _ _,Chg.refl _ _⟩
 case round=>
  obtain⟨k,r,cs1,cs2,g',fr',s',ov',rfl,hk,hcse,hl1,hat,hfs,hgg,htt,hg,hfr,hm,hc⟩:=hrel;have hlen:=HLEN.out;obtain⟨g2,rfl,hz0,hz1⟩:=body_step htt HNE.out;by_cases hr0 : r.len=0
  ·have hke : ¬ k < x.len:=by omega
   have HT:=zh (hz0 hr0);have HG:=zh hg;have HFR2:=zh hfr;have HM:=zh hm;have HC:=zh hc;clear hk hcse hl1 hat hfs hgg htt hg hfr hm hc hz0 hz1 hr0;go_wp2_with fail;refine bodyPost_end (results_none rfl _ _ _) rfl ?_;rw [HT.out];exact⟨ov',HM.out,HC.out,⟨HFR2.out,rfl⟩,HG.out⟩
  ·have hlt : k < x.len:=by omega
   have ht2:=hz1 hr0;have hnes : stmtO (fns L.M g2) d q fr' r s' ≠ .stuck:=fun hs=>HNE.out (by rw [ht2,hs];rfl)
   obtain⟨code,p,n1,k1,n2,k2,nm,oi,ox,a1,a2,cs',hcs2,hrs,hfs2,hle,hcall⟩:=rstmt_view g2 (fun g' h=>hE g' (by omega)) (fun g' h=>hB g' (by omega)) r cs2 hat hfs hr0 hg HQ.out hfr HFX.out hnes;have hrw:=HROW.out.kept hc HNX.out;rw [hcse,hcs2] at hrw;obtain⟨bb,off,rfl,d0,d1,d2,d3,d4,d5,d6⟩:=cells7C hrw hl1;have hz:=Blk.new wr #[.int .i64 0,.int .i64 0,str [],nilp,nilp,nils,nils] 168;obtain⟨wA,hwA⟩ : ∃ wA,wr.alloc (.cells #[.int .i64 0,.int .i64 0,str [],nilp,nilp,nils,nils] 168)=wA:=⟨_,rfl⟩
   rw [hwA] at hz;have hcA:Chg [] wr wA:=by rw [← hwA];exact(Chg.refl _ _).alloc _
   obtain⟨wF,hwF,hcF,hbF⟩:=set7C (.int .i64 code) (.int .i64 p) (str nm) (.pointer oi) (.pointer ox) (.slice a1 n1 k1) (.slice a2 n2 k2) hz;have hcw:Chg [] wr wF:=hcA.trans hcF (fun x hx=>.inr (by simp at hx;omega));have g0:=hcA.cellSome d0 (by simp);have g1:=hcA.cellSome d1 (by simp);have g2':=hcA.cellSome d2 (by simp);have g3:=hcA.cellSome d3 (by simp);have g4:=hcA.cellSome d4 (by simp);have g5:=hcA.cellSome d5 (by simp);have g6:=hcA.cellSome d6 (by simp);have z0:=hz.cell 0 _ rfl;have z1:=hz.cell 1 _ rfl;have z2:=hz.cell 2 _ rfl;have z3:=hz.cell 3 _ rfl;have z4:=hz.cell 4 _ rfl;have z5:=hz.cell 5 _ rfl;have z6:=hz.cell 6 _ rfl;have y0:=hz.frozen 0;have y1:=hz.frozen 1;have y2:=hz.frozen 2;have y3:=hz.frozen 3;have y4:=hz.frozen 4;have y5:=hz.frozen 5;have y6:=hz.frozen 6;have e0:=hbF.cell 0 _ rfl;have e1:=hbF.cell 1 _ rfl;have e2:=hbF.cell 2 _ rfl;have e3:=hbF.cell 3 _ rfl;have e4:=hbF.cell 4 _ rfl;have e5:=hbF.cell 5 _ rfl;have e6:=hbF.cell 6 _ rfl;have HCW:=zh hcw;have HC:=zh hc;have HM:=zh hm;have HG:=zh hg;have HCALL:=zh (hcall wF hcw);have HNXT:=zh (show cs=(cs1 ++ [.int .i64 code,.int .i64 p,str nm,.pointer oi,.pointer ox,.slice a1 n1 k1,.slice a2 n2 k2]) ++ cs' by rw [hcse,hcs2];simp);have HR:=zh hrs;have HF2:=zh hfs2;have HL1:=zh hl1;have HT2:=zh ht2;have hkr : k + ((rest r).len + 1)=x.len:=by omega
   clear hk hcse hl1 hat hfs htt hg hfr hm hc hz0 hz1 hr0 ht2 hcs2 hrs hfs2 hle hcall hrw hcA hcF hbF hcw hz;cases hso : stmtO (fns L.M g2) d q fr' r s' with
   | stuck=>exact absurd hso hnes
   | stop way s3=>
    rw [hso] at HCALL;have HT:=zh (show tgt = .stop way s3 by rw [HT2.out,hso];rfl);clear hso hnes;go_wp2_with fail;refine HCALL.out.mono ?_;rintro e w4 ⟨ov4,hm4,hc4,⟨older,hol,rfl⟩,d',hg4⟩;obtain⟨hm5,hc5⟩:=acc_step HM.out HC.out (moved_from hm4 HCW.out) (HCW.out.weak.then hc4);have HM5:=zh hm5;have HC5:=zh hc5;have HG4:=zh hg4;clear hm4 hc4 hg4 hm5 hc5;go_wp2_with fail;refine⟨rfl,?_⟩;rw [HT.out];exact⟨ov4,HM5.out,HC5.out,⟨older,hol,rfl⟩,d',HG4.out⟩
   | ok y s3=>
    obtain⟨fl,fr3⟩:=y;rw [hso] at HCALL;cases fl with
    | ret n9=>
     have HT:=zh (show tgt = .ok (.ret n9,fr3) s3 by rw [HT2.out,hso];rfl);clear hso hnes;go_wp2_with fail;refine HCALL.out.mono ?_;rintro e w4 ⟨ov4,hm4,hc4,⟨hfr4,hfl⟩,hg4⟩;simp only at hfl;subst hfl;obtain⟨hm5,hc5⟩:=acc_step HM.out HC.out (moved_from hm4 HCW.out) (HCW.out.weak.then hc4);have HM5:=zh hm5;have HC5:=zh hc5;have HG4:=zh hg4;have HFR4:=zh hfr4;clear hm4 hc4 hg4 hm5 hc5 hfr4;go_wp2_with fail;refine⟨rfl,?_⟩;rw [HT.out];exact⟨ov4,HM5.out,HC5.out,⟨HFR4.out,rfl⟩,HG4.out⟩
    | go=>
     have HT:=zh (show tgt=(fns L.M g2).b d q fr3 (rest r) s3 by rw [HT2.out,hso];rfl);clear hso hnes;go_wp2_with fail;refine HCALL.out.mono ?_;rintro e w4 ⟨ov4,hm4,hc4,⟨hfr4,hfl⟩,hg4⟩;simp only at hfl;subst hfl;obtain⟨hm5,hc5⟩:=acc_step HM.out HC.out (moved_from hm4 HCW.out) (HCW.out.weak.then hc4);have hnotz : ∀ x∈ob.toList ++ mutL L ov',¬ L.Fix x:=fun x hx hf=>by
      rcases List.mem_append.1 hx with hx|hx
      ·exact HNX.out x (List.mem_append_left _ hx) hf
      ·exact HG.out.notfix x hx hf
     have HR4:=zh ((HR.out.kept HCW.out (by simp)).kept hc4 hnotz);have HM5:=zh hm5;have HC5:=zh hc5;have HG4:=zh hg4;have HFR4:=zh hfr4;clear hm4 hc4 hg4 hm5 hc5 hfr4 hnotz;go_wp2_with fail;exact⟨⟨k + 1,rest r,_,cs',g2,fr3,s3,ov4,by go_num,by omega,HNXT.out,by have:=HL1.out;simp;omega,HR4.out,HF2.out,by omega,HT.out,HG4.out,HFR4.out,HM5.out,HC5.out⟩,by simp [intOf];omega⟩
end Go.Proofs.YtechofppmnnomaaGreatDoor
namespace Go.Mq.Run
open Go Go.RowKit Go.Mq Go.Mq.Tree
abbrev retV (n:Int):Value:=.iface 106 (.agg #[num n])
abbrev endV (way:Nat):Value:=.iface 162 (.agg #[num way])
end Go.Mq.Run
namespace Go.Proofs.YtechofppmnnomaaGreatDoor
open Go Go.RowKit Go.Mq Go.Mq.Tree Go.Mq.Run
set_option maxRecDepth 100000
set_option maxHeartbeats 2000000
theorem dcatch_idle (b8 b4 br d:Nat) (c0 c1 c3:Value) (w:World) (h4 : w.cell? ⟨b4,0,none⟩=some (ptr br)) (hr:Blk w br #[c0,c1,num (d + 1:Nat),c3] 160) (hd : d≤30):CallsD Tryz.prog 103 #[ptr b8,ptr b4] .returning w fun e u' w'=>
   e = .returned (.tuple #[])∧u' = .returning∧Chg [br] w w'∧Blk w' br #[c0,c1,num d,c3] 160:=by
 refine callsD_of_wpS Tryz.func103 rfl fun c₀ cs hu=>?_
 simp only [Tryz.ntmps103,List.size_toArray,List.length_cons,List.length_nil,Nat.reduceAdd,Nat.reduceSub,Array.replicate_succ,Array.replicate_zero,List.push_toArray,List.append_toArray,List.nil_append,List.cons_append];have r2:=hr.cell 2 _ rfl;have y2:=hr.frozen 2;have HR:=zh hr;clear hr
 apply wpS_seq
 apply wpS_seq
 apply wpS_region
 simp [wpOpsS,go_sem,recoverD,hu,Exit.thenS]
 refine wpS_of_wp ?_;go_wp2_with fail;refine wpS_of_wp ?_;go_wp2_with fail;have hset:=HR.out.set 2 (num d);have hch:Chg [br] w (w.setCell ⟨br,2,none⟩ (num d)):=Chg.set1 _ _ _ _;refine⟨rfl,.returning,by cases c₀;simp_all,.tuple #[],results_none rfl _ _ _,rfl,rfl,?_⟩;exact⟨hch,by simpa using hset⟩
theorem dcatch_ret (b8 b4 br d:Nat) (n z:Int) (c0 c1 c3:Value) (w:World) (h4 : w.cell? ⟨b4,0,none⟩=some (ptr br)) (h8:Blk w b8 #[num z] 2) (hr:Blk w br #[c0,c1,num (d + 1:Nat),c3] 160) (hd : d≤30) (hne : b8≠br) (hn4 : b8≠b4) :
  CallsD Tryz.prog 103 #[ptr b8,ptr b4] (.panicking [{ v:=retV n,recovered:=false }]) w fun e u' w'=>
   e = .returned (.tuple #[])∧u' = .panicking [{ v:=retV n,recovered:=true }]∧Chg [br,b8] w w'∧Blk w' br #[c0,c1,num d,c3] 160∧Blk w' b8 #[num n] 2:=by
 have hta : ∀ w,(Instr.typeAssert (retV n) 20 106 true).run Tryz.prog w = .ok (.tuple #[.agg #[num n],.bool true]) w:=fun _=>rfl
 refine callsD_of_wpS Tryz.func103 rfl fun c₀ cs hu=>?_
 simp only [Tryz.ntmps103,List.size_toArray,List.length_cons,List.length_nil,Nat.reduceAdd,Nat.reduceSub,Array.replicate_succ,Array.replicate_zero,List.push_toArray,List.append_toArray,List.nil_append,List.cons_append];obtain⟨wX,hwX⟩ : ∃ x,w.alloc (.cells #[num 0] 106)=x:=⟨_,rfl⟩
 have hx:=Blk.new w #[num 0] 106;rw [hwX] at hx;have hcX:Chg [] w wX:=by rw [← hwX];exact(Chg.refl _ _).alloc _
 have x0:=hx.cell 0 _ rfl;have xf:=hx.frozen 0;obtain⟨w1,hw1⟩ : ∃ x,wX.setCell ⟨w.heap.size,0,none⟩ (num n)=x:=⟨_,rfl⟩
 have hx1:Blk w1 w.heap.size #[num n] 106:=by rw [← hw1];simpa using hx.set 0 (num n)
 have hc1:Chg [] w w1:=hcX.trans (by rw [← hw1];exact Chg.set1 _ _ _ _) (fun x hx=>.inr (by simp at hx;omega));have x1:=hx1.cell 0 _ rfl;have h81:=h8.kept hc1 (by simp);have f8:=h81.frozen 0;have e8:=h81.cell 0 _ rfl;obtain⟨w2,hw2⟩ : ∃ x,w1.setCell ⟨b8,0,none⟩ (num n)=x:=⟨_,rfl⟩
 have hc12:Chg [b8] w1 w2:=by rw [← hw2];exact Chg.set1 _ _ _ _
 have h82:Blk w2 b8 #[num n] 2:=by rw [← hw2];simpa using h81.set 0 (num n)
 have hr2:=(hr.kept hc1 (by simp)).kept hc12 (by simpa using Ne.symm hne);have q4:=hc12.cellSome (hc1.cellSome h4 (by simp)) (by simpa using Ne.symm hn4);have r2:=hr2.cell 2 _ rfl;have y2:=hr2.frozen 2;have HR2:=zh hr2;have H82:=zh h82;have HC:=zh (hc1.weak.then hc12);have HNE:=zh hne;clear hr h8 hx hcX hx1 hc1 h81 hc12 h82 hr2 hne hn4 h4
 apply wpS_seq
 apply wpS_seq
 apply wpS_region
 simp [wpOpsS,go_sem,recoverD,hu,Exit.thenS]
 refine wpS_of_wp ?_;go_wp2_with fail;refine wpS_of_wp ?_;go_wp2_with fail;have hset:=HR2.out.set 2 (num d);have hch:Chg [br] w2 (w2.setCell ⟨br,2,none⟩ (num d)):=Chg.set1 _ _ _ _;refine⟨rfl,.panicking [{ v:=retV n,recovered:=true }],rfl,.tuple #[],results_none rfl _ _ _,rfl,rfl,?_⟩;exact⟨(HC.out.mono (fun x hx=>.inl (by simp at hx;simp [hx]))).then (hch.mono (fun x hx=>.inl (by simp at hx;simp [hx]))),by simpa using hset,H82.out.kept hch (by simpa using HNE.out)⟩
theorem dcatch_end (b8 b4:Nat) (way:Nat) (older:List PanicEntry) (w:World) :
  CallsD Tryz.prog 103 #[ptr b8,ptr b4] (.panicking ({ v:=endV way,recovered:=false } :: older)) w fun e u' w'=>
   e = .panicked [{ v:=endV way,recovered:=false }]∧u' = .panicking ({ v:=endV way,recovered:=true } :: older)∧Chg [] w w':=by
 have hta : ∀ w,(Instr.typeAssert (endV way) 20 106 true).run Tryz.prog w = .ok (.tuple #[.agg #[num 0],.bool false]) w:=fun _=>rfl
 refine callsD_of_wpS Tryz.func103 rfl fun c₀ cs hu=>?_
 simp only [Tryz.ntmps103,List.size_toArray,List.length_cons,List.length_nil,Nat.reduceAdd,Nat.reduceSub,Array.replicate_succ,Array.replicate_zero,List.push_toArray,List.append_toArray,List.nil_append,List.cons_append];obtain⟨wX,hwX⟩ : ∃ x,w.alloc (.cells #[num 0] 106)=x:=⟨_,rfl⟩
 have hx:=Blk.new w #[num 0] 106;rw [hwX] at hx;have hcX:Chg [] w wX:=by rw [← hwX];exact(Chg.refl _ _).alloc _
 have x0:=hx.cell 0 _ rfl;have xf:=hx.frozen 0;have hc1:Chg [] w (wX.setCell ⟨w.heap.size,0,none⟩ (num 0)):=hcX.trans (Chg.set1 _ _ _ _) (fun x hx=>.inr (by simp at hx;omega));have HC:=zh hc1;clear hx hcX hc1
 apply wpS_seq
 apply wpS_seq
 apply wpS_region
 simp [wpOpsS,go_sem,recoverD,hu,Exit.thenS]
 refine wpS_of_wp ?_;go_wp2_with fail;refine⟨rfl,.panicking ({ v:=endV way,recovered:=true } :: older),rfl,rfl,rfl,HC.out⟩
end Go.Proofs.YtechofppmnnomaaGreatDoor
namespace Go.Mq.Run
open Go Go.RowKit Go.Mq Go.Mq.Tree
open Go.Mq.Plan (MapIs getM putM)
def frameP (l:List (Nm × Int)):Fr:=l.foldl (fun f x=>putF f x.1 x.2) []
def frameV (l:List Nm) (f:Fr):Fr:=l.foldl (fun f n=>putF f n 0) f
theorem frameP_snoc (l:List (Nm × Int)) (x:Nm × Int) : frameP (l ++ [x])=putF (frameP l) x.1 x.2:=by rw [frameP,List.foldl_append];rfl
theorem frameV_snoc (l:List Nm) (f:Fr) (n:Nm) : frameV (l ++ [n]) f=putF (frameV l f) n 0:=by rw [frameV,List.foldl_append];rfl
theorem frame_is (p:Proc) (args:List Int) : frame p args=frameV p.vars (frameP (p.params.zip args)):=rfl
theorem take_get {α:Type} {l:List α} {k:Nat} {x : α} (h : l[k]?=some x) : l.take (k + 1)=l.take k ++ [x]:=by
 rw [List.take_add_one,h];rfl
theorem row_lt {w:World} {F:Nat→Prop} {a:Option Addr} {cs:List Value} (h:Row w F a cs):Row w (fun b=>b < w.heap.size∧F b) a cs:=⟨h.at_,fun h0 p hp=>⟨by
 obtain⟨b,off,he,hc⟩:=h.at_ h0;subst hp;cases he
 exact lt_of_cell (hc 0 _ (List.getElem?_eq_getElem h0)),h.own h0 p hp⟩⟩
theorem Going.rerunZ {w w':World} {L:Lay} {d:Nat} {s:St} {ov:Value} {Z:List Nat} (h:Going w L d s ov) {f d':Nat} (hc:Chg Z w w') (hZ : ∀ x∈Z,x=L.br∨(x∉mutL L ov∧¬ L.Fix x)) (hb:Blk w' L.br #[ptr L.bw,num f,num d',ov] 160) (hd : d'≤30) (hf : f≤9223372036854775807):Going w' L d' { s with fuel:=f } ov:=
 ⟨h.lay,h.stat.kept hc (fun x hx=>by
  rcases hZ x hx with rfl|⟨_,h2⟩
  ·exact br_notfix h
  ·exact h2),hb,h.dyn.kept hc fun q n b k hq hm=>by
  have ha:=(h.lay.arr hq).1;rcases hZ b hm with rfl|⟨h1,_⟩
  ·exact br_notarr h ha
  ·exact h1 (List.mem_cons_of_mem _ (List.mem_append_right _ ha)),fun hx=>by
  obtain⟨cs,f,hh⟩:=h.arrc hx;refine⟨cs,f,?_⟩;rw [hc.block _ (Array.getElem?_eq_some_iff.1 hh).1 (fun hm=>by
   rcases hZ _ hm with rfl|⟨h1,_⟩
   ·exact br_notarr h hx
   ·exact h1 (List.mem_cons_of_mem _ (List.mem_append_right _ hx)))]
  exact hh,owns_kept h.out hc (fun g hg hm=>by
  rcases hZ g hm with rfl|⟨h1,_⟩
  ·exact br_notblk h hg
  ·exact h1 (List.mem_cons_of_mem _ (List.mem_append_left _ hg))),h.from_,h.few,hd,hf⟩
end Go.Mq.Run
namespace Go.Proofs.YtechofppmnnomaaGreatDoor
open Go Go.RowKit Go.Mq Go.Mq.Tree Go.Mq.Run
open Go.Mq.Plan (MapIs getM putM run_putM)
open Go.Mq.Sym (names_cell)
open Go.Mq.Check (FewM FewS FewE argsN)
set_option maxRecDepth 100000
set_option maxHeartbeats 4000000
theorem call_cell (tmps:Array Value) (b8:Nat) (n:Int) (w:World) (h8 : tmps[8]?.getD undef=ptr b8) (hb:Blk w b8 #[num n] 2) : (results Tryz.f67 tmps).run Tryz.prog w = .ok (num n) w:=by
 have d0:=hb.cell 0 _ rfl;simp [results,Tryz.results67,h8,go_sem,d0]
theorem leave_end (tmps:Array Value) (b8 b4 way:Nat) (older:List PanicEntry) (w:World) (R:Ending→World→Prop) (hR : ∀ w',Chg [] w w'→R (.panicked ({ v:=endV way,recovered:=false } :: { v:=endV way,recovered:=true } :: older)) w') :
  Leaves Tryz.prog Tryz.f67 tmps R [{ target:=.fn (.func 103) #[ptr b8,ptr b4],args:=#[] }] (.panicking ({ v:=endV way,recovered:=false } :: older)) w:=by
 refine leaves_cons (f:=103) (args:=#[ptr b8,ptr b4]) (by simp) (by simp [go_sem]) ?_;refine(dcatch_end b8 b4 way older w).mono ?_;rintro e u' w'' ⟨rfl,rfl,hc⟩;exact hR w'' hc
theorem leave_ret (tmps:Array Value) (b8 b4 br d:Nat) (n z:Int) (c0 c1 c3:Value) (w:World) (R:Ending→World→Prop) (h8t : tmps[8]?.getD undef=ptr b8) (h4 : w.cell? ⟨b4,0,none⟩=some (ptr br)) (h8:Blk w b8 #[num z] 2) (hr:Blk w br #[c0,c1,num (d + 1:Nat),c3] 160) (hd : d≤30) (hne : b8≠br) (hn4 : b8≠b4)
  (hR : ∀ w',Chg [br,b8] w w'→Blk w' br #[c0,c1,num d,c3] 160→R (.returned (num n)) w') :
  Leaves Tryz.prog Tryz.f67 tmps R [{ target:=.fn (.func 103) #[ptr b8,ptr b4],args:=#[] }] (.panicking [{ v:=retV n,recovered:=false }]) w:=by
 refine leaves_cons (f:=103) (args:=#[ptr b8,ptr b4]) (by simp) (by simp [go_sem]) ?_;refine(dcatch_ret b8 b4 br d n z c0 c1 c3 w h4 h8 hr hd hne hn4).mono ?_;rintro e u' w'' ⟨rfl,rfl,hc,hb,hb8⟩;exact⟨_,call_cell tmps b8 n w'' h8t hb8,hR w'' hc hb⟩
theorem leave_go (tmps:Array Value) (b8 b4 br d:Nat) (z:Int) (c0 c1 c3:Value) (w:World) (R:Ending→World→Prop) (h8t : tmps[8]?.getD undef=ptr b8) (h4 : w.cell? ⟨b4,0,none⟩=some (ptr br)) (h8:Blk w b8 #[num z] 2) (hr:Blk w br #[c0,c1,num (d + 1:Nat),c3] 160) (hd : d≤30) (hne : b8≠br)
  (hR : ∀ w',Chg [br] w w'→Blk w' br #[c0,c1,num d,c3] 160→R (.returned (num z)) w') :
  Leaves Tryz.prog Tryz.f67 tmps R [{ target:=.fn (.func 103) #[ptr b8,ptr b4],args:=#[] }] .returning w:=by
 refine leaves_cons (f:=103) (args:=#[ptr b8,ptr b4]) (by simp) (by simp [go_sem]) ?_;refine(dcatch_idle b8 b4 br d c0 c1 c3 w h4 hr hd).mono ?_;rintro e u' w'' ⟨rfl,rfl,hc,hb⟩;exact⟨_,call_cell tmps b8 z w'' h8t (h8.kept hc (by simpa using hne)),hR w'' hc hb⟩
theorem conC_zero:ConC 0:=fun _ _ _ _ _ _ _ _ _ _ _ ho=>absurd rfl ho
theorem conC_succ (g:Nat) (hB:ConB g):ConC (g + 1):=by
 intro L d q p args s w ov vp vv vb a c m h hq hvp hvv hvb hfb hlb hlp hlv hrow hargs hne0;have hmf : ∀ (fn:Fn) (first cap:Array Value) (w:World),(Instr.makeFunc fn first cap).run Tryz.prog w = .ok (.func fn first cap) w:=fun _ _ _ _=>rfl
 have hmm:=@run_makeMap Tryz.prog;obtain⟨tgt,ht⟩ : ∃ o,o=(fns L.M (g + 1)).c d q p args s:=⟨_,rfl⟩
 rw [← ht] at hne0 ⊢;have ht0 : tgt=stepC (fns L.M g) d q p args s:=ht
 unfold stepC at ht0
 have hdeep:=h.deep;obtain⟨w0,hw0⟩ : ∃ x,w.alloc (.cells #[ptr L.br] 104)=x:=⟨_,rfl⟩
 have hb0:Blk w0 w.heap.size #[ptr L.br] 104:=by rw [← hw0];exact Blk.new w _ _
 have hc0:Chg [] w w0:=by rw [← hw0];exact(Chg.refl _ _).alloc _
 have hs0 : w0.heap.size=w.heap.size + 1:=by rw [← hw0];simp
 obtain⟨w1,hw1⟩ : ∃ x,w0.alloc (.cells #[str p.name,num p.pos,.bool p.seen,vp,vv,vb] 72)=x:=⟨_,rfl⟩
 have hb1:Blk w1 w0.heap.size #[str p.name,num p.pos,.bool p.seen,vp,vv,vb] 72:=by rw [← hw1];exact Blk.new w0 _ _
 have hc1:Chg [] w0 w1:=by rw [← hw1];exact(Chg.refl _ _).alloc _
 have hs1 : w1.heap.size=w.heap.size + 1 + 1:=by rw [← hw1];simp [hs0]
 obtain⟨wA,hwA⟩ : ∃ x,w1.alloc (.cells #[num 0] 2)=x:=⟨_,rfl⟩
 have hb8:Blk wA w1.heap.size #[num 0] 2:=by rw [← hwA];exact Blk.new w1 _ _
 have hc2:Chg [] w1 wA:=by rw [← hwA];exact(Chg.refl _ _).alloc _
 have hsA : wA.heap.size=w.heap.size + 1 + 1 + 1:=by rw [← hwA];simp [hs1]
 have hcA:Chg [] w wA:=(hc0.then hc1).then hc2
 have hbA0:=hb0.kept (hc1.then hc2) (by simp);have hbA1:=hb1.kept hc2 (by simp);have k0:=hbA0.cell 0 _ rfl;have hrun:=h.run.kept hcA (by simp);have r2:=hrun.cell 2 _ rfl;have y2:=hrun.frozen 2;have HA:=zh (h.kept hcA);have HCA:=zh hcA;have HB0:=zh hbA0;have HB1:=zh hbA1;have HB8:=zh hb8;have HNE:=zh hne0;have HQ:=zh hq;have HVP:=zh (hvp.kept hcA (by simp));have HVV:=zh (hvv.kept hcA (by simp));have HVB:=zh (hvb.kept hcA (by simp));have HROW:=zh ((row_lt hrow).kept hcA (by simp));have HFB:=zh hfb;have HLB:=zh hlb;have HLT:=zh h.lt;have HSA:=zh hsA;cases hd : decide (d=30) with
 | true=>
  have hd30 : d=30:=of_decide_eq_true hd;have HT:=zh (show tgt = .stop 4 s by rw [ht0,if_pos hd30]);have HS:=zh (fun w=>rstop_any 4 w);rw [hd30] at r2;clear h hq hvp hvv hvb hfb hlb hrow hne0 ht ht0 hb0 hc0 hb1 hc1 hb8 hc2 hcA hbA0 hbA1 hrun hd hd30 hs0 hs1 hsA y2
  go_enter_defers Tryz.func67,Tryz.ntmps67
  go_wp2_with fail;refine(HS.out wA).mono ?_;rintro _ _ ⟨⟨older,hol,rfl⟩,hw⟩;have hw:=hw.symm;subst hw;go_wp2_with fail;simp only [bodyPostD,Leaves];rw [HT.out];exact Ran.after (Ran.halted HA.out (Chg.refl _ _) ⟨older,hol,rfl⟩) HCA.out
 | false=>
  have hd30 : d≠30:=of_decide_eq_false hd;have hdt : ((d:Int) == 30)=false:=by simp;omega
  rw [if_neg hd30] at ht0;by_cases hal : args.length < p.params.length
  ·exact absurd (by rw [ht0,if_pos hal]) hne0
  rw [if_neg hal] at ht0;have HDD:=zh (show d≤30 from hdeep);have HAL:=zh (show p.params.length≤args.length by omega);have HT0:=zh ht0;obtain⟨wB,hwB⟩ : ∃ x,wA.setCell ⟨L.br,2,none⟩ (num ((d:Int) + 1))=x:=⟨_,rfl⟩
  have hcB:Chg [L.br] wA wB:=by rw [← hwB];exact Chg.set1 _ _ _ _
  have hrB:Blk wB L.br #[ptr L.bw,num s.fuel,num (d + 1:Nat),ov] 160:=by rw [← hwB];simpa using hrun.set 2 (num ((d:Int) + 1))
  have hgB:Going wB L (d + 1) s ov:=(h.kept hcA).rerun hcB hrB (by omega) h.most;have hbrl:L.br < w.heap.size:=h.run.lt;have e0:=hcB.cellSome k0 (by simp;omega);have hb1B:=hbA1.kept hcB (by simp;omega);have hsB : wB.heap.size=wA.heap.size:=by rw [← hwB];simp
  obtain⟨wC,hwC⟩ : ∃ x,wB.alloc (.map #[] 0)=x:=⟨_,rfl⟩
  have hmC:MapIs wC wB.heap.size []:=by rw [← hwC];exact MapIs.made wB
  have hcC:Chg [] wB wC:=by rw [← hwC];exact(Chg.refl _ _).alloc _
  have hlC : wB.heap.size < wC.heap.size:=hmC.lt;have e3:=(hb1B.kept hcC (by simp)).cell 3 _ rfl;obtain⟨bf,hbf⟩ : ∃ b,b=wB.heap.size:=⟨_,rfl⟩
  obtain⟨b8,hb8e⟩ : ∃ b,b=w1.heap.size:=⟨_,rfl⟩
  obtain⟨b6,hb6e⟩ : ∃ b,b=w0.heap.size:=⟨_,rfl⟩
  have hord:L.br < w.heap.size∧w.heap.size < b6∧b6 < b8∧b8 < bf:=by omega
  have HORD:=zh hord;have HGC:=zh (hgB.kept hcC);have HCB:=zh hcB;have HCC:=zh hcC;have HMC:=zh hmC;have HBRL:=zh hbrl;have HB8C:=zh ((hb8.kept hcB (by simp;omega)).kept hcC (by simp));have HE0:=zh (hcC.cellSome e0 (by simp));have HB1C:=zh (hb1B.kept hcC (by simp));have hnbr : ∀ x∈[L.br],¬ L.Fix x:=by simpa using br_notfix h
  have HVPC:=zh ((HVP.out.kept hcB hnbr).kept hcC (by simp));have HVVC:=zh ((HVV.out.kept hcB hnbr).kept hcC (by simp));have HVBC:=zh ((HVB.out.kept hcB hnbr).kept hcC (by simp));have HROWC:=zh ((HROW.out.kept hcB (fun x hx=>by simp at hx;subst hx;exact fun hh=>hh.2 List.mem_cons_self)).kept hcC (by simp));obtain⟨ap,cp,rfl,hcp,hrp⟩:=hvp;obtain⟨av,cv,rfl,hcv,hrv⟩:=hvv;obtain⟨_,_,hve,_,hrpC⟩:=HVPC.out;cases hve
  obtain⟨_,_,hve,_,hrvC⟩:=HVVC.out;cases hve
  have HRP:=zh hrpC;have HRV:=zh hrvC;have HNF:=zh (show ∀ b,w.heap.size≤b→¬ L.Fix b from fun b hb hf=>by have:=h.lay.fix hf;omega);clear h hq hvb hfb hlb hrow hne0 ht ht0 hb0 hc0 hb1 hc1 hb8 hc2 hcA hbA0 hbA1 hrun hd hd30 hcB hrB hgB hb1B hmC hcC hal hrp hrv hrpC hrvC hnbr hbrl hsB hord hlC hsA hs0 hs1
  go_enter_defers Tryz.func67,Tryz.ntmps67
  go_wp2_with fail;clear hw0 hw1 hwA hwB hwC e0 e3 k0 r2 y2;rw [← hbf,← hb8e,← hb6e];rw [← hbf] at HMC;rw [← hb8e] at HB8C;rw [← hb6e] at HB1C;clear hbf hb8e hb6e
  go_loopw [10,11,31] (fun _ _ i wr=>∃ k:Nat,i = .int .i64 k∧k≤p.params.length∧MapIs wr bf ((frameP ((p.params.zip args).take k)).map fun p=>(p.1,num p.2))∧Chg [bf] wC wr) (fun _ _ i _=>p.params.length - (intOf i).toNat)
  case atStart=>exact⟨0,rfl,Nat.zero_le _,HMC.out,Chg.refl _ _⟩
  case round=>
   obtain⟨k,rfl,hk,hmap,hc⟩:=hrel;have HC:=zh hc;have hord:=HORD.out;by_cases hlt : k < p.params.length
   ·have hal:=HAL.out
    obtain⟨n,hn⟩ : ∃ n,p.params[k]?=some n:=⟨p.params[k],List.getElem?_eq_getElem hlt⟩
    obtain⟨z,hz⟩ : ∃ z,args[k]?=some z:=⟨args[k]'(by omega),List.getElem?_eq_getElem (by omega)⟩
    obtain⟨bb,off,rfl,d0⟩:=names_cell (HRP.out.kept hc (by simpa using HNF.out bf (by omega))) hn;obtain⟨ba,offa,rfl,hca⟩:=(HROWC.out.kept hc (fun x hx=>by simp at hx;subst hx;exact fun hh=>by have:=hh.1;omega)).at_ (by simp;omega);have d1:=hca k (num z) (by rw [List.getElem?_map,hz];rfl);obtain⟨w5,hu,hmap5,hc5⟩:=run_putM (P:=Tryz.prog) Tryz.underlying165 Tryz.underlying9 hmap n (num z);have HM5:=zh (show MapIs w5 bf ((frameP ((p.params.zip args).take (k + 1))).map fun p=>(p.1,num p.2)) by
     rw [putM_fr] at hmap5;rw [take_get (show (p.params.zip args)[k]?=some (n,z) by rw [List.getElem?_zip_eq_some];exact⟨hn,hz⟩),frameP_snoc];exact hmap5)
    have HC5:=zh (HC.out.then hc5);have hka : k < args.length:=by omega
    clear hmap hc hn hz hca hmap5 hc5 hal;go_wp2_with fail;exact⟨⟨k + 1,by go_num,by omega,HM5.out,HC5.out⟩,by simp [intOf];omega⟩
   ·have hkn : k=p.params.length:=by omega
    have HMP:=zh (show MapIs wr bf ((frameP (p.params.zip args)).map fun p=>(p.1,num p.2)) by
     rw [List.take_of_length_le (by rw [List.length_zip];omega)] at hmap;exact hmap)
    have hb6:=HB1C.out.kept hc (by simp;omega);have e4:=hb6.cell 4 _ rfl;clear hmap hc hb6;go_wp2_with fail;clear e4
    go_loopw [13,46] (fun _ i wr=>∃ k:Nat,i = .int .i64 k∧k≤p.vars.length∧MapIs wr bf ((frameV (p.vars.take k) (frameP (p.params.zip args))).map fun p=>(p.1,num p.2))∧Chg [bf] wC wr) (fun _ i _=>p.vars.length - (intOf i).toNat)
    case atStart=>exact⟨0,rfl,Nat.zero_le _,HMP.out,HC.out⟩
    case round=>
     obtain⟨k,rfl,hk,hmap,hc⟩:=hrel;clear HC;have HC:=zh hc;by_cases hlt : k < p.vars.length
     ·obtain⟨n,hn⟩ : ∃ n,p.vars[k]?=some n:=⟨p.vars[k],List.getElem?_eq_getElem hlt⟩
      obtain⟨bb,off,rfl,d0⟩:=names_cell (HRV.out.kept hc (by simpa using HNF.out bf (by omega))) hn;obtain⟨w5,hu,hmap5,hc5⟩:=run_putM (P:=Tryz.prog) Tryz.underlying165 Tryz.underlying9 hmap n (num 0);have HM5:=zh (show MapIs w5 bf ((frameV (p.vars.take (k + 1)) (frameP (p.params.zip args))).map fun p=>(p.1,num p.2)) by
       rw [putM_fr] at hmap5;rw [take_get hn,frameV_snoc];exact hmap5)
      have HC5:=zh (HC.out.then hc5);clear hmap hc hn hmap5 hc5;go_wp2_with fail;exact⟨⟨k + 1,by go_num,by omega,HM5.out,HC5.out⟩,by simp [intOf];omega⟩
     ·have HFR:=zh (show FrAt wr (some bf) (frame p args) by
       rw [List.take_of_length_le (by omega)] at hmap;exact .inr ⟨bf,rfl,by rw [frame_is];exact hmap⟩)
      have hnotf : ∀ x∈[bf],¬ L.Fix x:=by simpa using HNF.out bf (by omega)
      have hgr:Going wr L (d + 1) s ov:=HGC.out.aside hc (fun x hx=>by
       simp at hx
       subst hx;exact⟨fun hm=>by
        rcases List.mem_cons.1 hm with rfl|hm
        ·omega
        ·have:=HLT.out x (List.mem_cons_of_mem _ hm);omega,HNF.out x (by omega)⟩)
      have HCON:=zh (hB hgr HQ.out HFR.out (fun b hb=>by cases hb;exact HNF.out bf (by omega)) (HVBC.out.kept hc hnotf) HFB.out HLB.out (fun hs=>HNE.out (by rw [HT0.out,hs];rfl)));have hb6:=HB1C.out.kept hc (by simp;omega);have e5:=hb6.cell 5 _ rfl;have e0:=hc.cellSome HE0.out (by simp;omega);have HB8R:=zh (HB8C.out.kept hc (by simp;omega));have HE0R:=zh e0;have hnm : ∀ x,w.heap.size≤x→x∉mutL L ov:=fun x hx hm=>by have:=HLT.out x hm;omega
      have HNM:=zh hnm;have HSZ:=zh hc.size;have hlt8:=HB8R.out.lt;have hlt4:=lt_of_cell e0;have HLT8:=zh hlt8;have HLT4:=zh hlt4;have HCW:=zh (show Chg [L.br] w wr from((HCA.out.weak.then HCB.out).then HCC.out.weak).trans hc (fun x hx=>.inr (by simp at hx;omega)));clear hmap hc hgr hnotf hb6 hnm hlt8 hlt4;go_wp2_with fail;cases hr : (fns L.M g).b (d + 1) q (frame p args) p.body s with
      | stuck=>exact absurd (by rw [HT0.out,hr];rfl) HNE.out
      | stop way s2=>
       rw [hr] at HCON;have HT:=zh (show tgt = .stop way s2 by rw [HT0.out,hr];rfl);clear hr;refine HCON.out.mono ?_;rintro e w2 ⟨ov2,hm,hc,⟨older,hol,rfl⟩,d',hg⟩;have hn8:=notmut_moved (L:=L) hm HLT8.out (HNM.out b8 (by have:=HORD.out;omega));have hbx8:=HB8R.out.kept hc (by simp only [List.mem_append,List.mem_singleton,not_or,Option.toList];exact⟨by have:=HORD.out;simp;omega,HNM.out b8 (by have:=HORD.out;omega)⟩);have hbx4:=hc.cellSome HE0R.out (fun hm=>(List.mem_append.1 hm).elim (fun h=>by have:=HORD.out;simp [Option.toList] at h;omega) (fun h=>HNM.out _ (Nat.le_refl _) h));have HM2:=zh (moved_from hm HCW.out);have HG2:=zh hg;have HN8:=zh hn8;have HX8:=zh hbx8;have HX4:=zh hbx4;have HC2:=zh (show Chg (mutL L ov) w w2 from(HCW.out.mono (fun x hx=>.inl (by simp at hx;subst hx;exact List.mem_cons_self))).trans hc (fun x hx=>by
        rcases List.mem_append.1 hx with hx|hx
        ·exact .inr (by have:=HORD.out;simp at hx;omega)
        ·exact .inl hx))
       clear hm hc hg hn8 hbx8 hbx4;go_wp2_with fail;refine leave_end _ b8 w.heap.size way older w2 _ (fun w' hc=>?_);rw [HT.out];exact⟨ov2,HM2.out,by simpa using HC2.out.then hc.weak,⟨_ :: older,by simp [hol],rfl⟩,d',HG2.out.kept hc⟩
      | ok y s2=>
       obtain⟨fl,fr2⟩:=y;rw [hr] at HCON;cases fl with
       | ret n9=>
        have HT:=zh (show tgt = .ok n9 s2 by rw [HT0.out,hr];rfl);clear hr;refine HCON.out.mono ?_;rintro e w2 ⟨ov2,hm,hc,⟨_,hfl⟩,hg⟩;simp only at hfl;subst hfl;have hn8:=notmut_moved (L:=L) hm HLT8.out (HNM.out b8 (by have:=HORD.out;omega));have hbx8:=HB8R.out.kept hc (by simp only [List.mem_append,List.mem_singleton,not_or,Option.toList];exact⟨by have:=HORD.out;simp;omega,HNM.out b8 (by have:=HORD.out;omega)⟩);have hbx4:=hc.cellSome HE0R.out (fun hm=>(List.mem_append.1 hm).elim (fun h=>by have:=HORD.out;simp [Option.toList] at h;omega) (fun h=>HNM.out _ (Nat.le_refl _) h));have HM2:=zh (moved_from hm HCW.out);have HG2:=zh hg;have HN8:=zh hn8;have HX8:=zh hbx8;have HX4:=zh hbx4;have HC2:=zh (show Chg (mutL L ov) w w2 from(HCW.out.mono (fun x hx=>.inl (by simp at hx;subst hx;exact List.mem_cons_self))).trans hc (fun x hx=>by
         rcases List.mem_append.1 hx with hx|hx
         ·exact .inr (by have:=HORD.out;simp at hx;omega)
         ·exact .inl hx))
        clear hm hc hg hn8 hbx8 hbx4;go_wp2_with fail;refine leave_ret _ b8 w.heap.size L.br d n9 0 _ _ _ w2 _ rfl HX4.out HX8.out HG2.out.run HDD.out (by have:=HORD.out;omega) (by have:=HORD.out;omega) (fun w' hc hb=>?_);rw [HT.out];refine⟨ov2,HM2.out,?_,rfl,HG2.out.rerunZ hc (fun x hx=>?_) hb HDD.out HG2.out.most⟩
        ·exact HC2.out.trans hc (fun x hx=>by
          simp at hx
          rcases hx with rfl|rfl
          ·exact .inl List.mem_cons_self
          ·exact .inr (by have:=HORD.out;omega))
        ·simp at hx
         rcases hx with rfl|rfl
         ·exact .inl rfl
         ·exact .inr ⟨HN8.out,HNF.out _ (by have:=HORD.out;omega)⟩
       | go=>
        have HT:=zh (show tgt = .ok 0 s2 by rw [HT0.out,hr];rfl);clear hr;refine HCON.out.mono ?_;rintro e w2 ⟨ov2,hm,hc,⟨_,hfl⟩,hg⟩;simp only at hfl;subst hfl;have hn8:=notmut_moved (L:=L) hm HLT8.out (HNM.out b8 (by have:=HORD.out;omega));have hbx8:=HB8R.out.kept hc (by simp only [List.mem_append,List.mem_singleton,not_or,Option.toList];exact⟨by have:=HORD.out;simp;omega,HNM.out b8 (by have:=HORD.out;omega)⟩);have hbx4:=hc.cellSome HE0R.out (fun hm=>(List.mem_append.1 hm).elim (fun h=>by have:=HORD.out;simp [Option.toList] at h;omega) (fun h=>HNM.out _ (Nat.le_refl _) h));have HM2:=zh (moved_from hm HCW.out);have HG2:=zh hg;have HN8:=zh hn8;have HX8:=zh hbx8;have HX4:=zh hbx4;have HC2:=zh (show Chg (mutL L ov) w w2 from(HCW.out.mono (fun x hx=>.inl (by simp at hx;subst hx;exact List.mem_cons_self))).trans hc (fun x hx=>by
         rcases List.mem_append.1 hx with hx|hx
         ·exact .inr (by have:=HORD.out;simp at hx;omega)
         ·exact .inl hx))
        clear hm hc hg hn8 hbx8 hbx4;have x8:=HX8.out.frozen 0;have v8:=HX8.out.cell 0 _ rfl;go_wp2_with fail;have hs8:=HX8.out.set 0 (num 0);have hc8:Chg [b8] w2 (w2.setCell ⟨b8,0,none⟩ (num 0)):=Chg.set1 _ _ _ _;have hord:=HORD.out;refine leave_go _ b8 w.heap.size L.br d 0 _ _ _ _ _ rfl (hc8.cellSome HX4.out (by simp;omega)) (by simpa using hs8) (HG2.out.run.kept hc8 (by simp;omega)) HDD.out (by omega) (fun w' hc hb=>?_);rw [HT.out];have hct:Chg [L.br,b8] w2 w':=(hc8.mono (fun x hx=>.inl (by simp at hx;simp [hx]))).then (hc.mono (fun x hx=>.inl (by simp at hx;simp [hx])))
        refine⟨ov2,HM2.out,?_,rfl,HG2.out.rerunZ hct (fun x hx=>?_) hb HDD.out HG2.out.most⟩
        ·exact HC2.out.trans hct (fun x hx=>by
          simp at hx
          rcases hx with rfl|rfl
          ·exact .inl List.mem_cons_self
          ·exact .inr (by omega))
        ·simp at hx
         rcases hx with rfl|rfl
         ·exact .inl rfl
         ·exact .inr ⟨HN8.out,HNF.out _ (by omega)⟩
end Go.Proofs.YtechofppmnnomaaGreatDoor
namespace Go.Proofs.YtechofppmnnomaaGreatDoor
open Go Go.RowKit Go.Mq Go.Mq.Tree Go.Mq.Run
theorem con_upto : ∀ g,(∀ g',g'≤g→ConE g')∧(∀ g',g'≤g→ConC g')∧(∀ g',g'≤g→ConB g')
 | 0=>⟨fun g' h=>by rw [Nat.le_zero.1 h];exact conE_zero,fun g' h=>by rw [Nat.le_zero.1 h];exact conC_zero,fun g' h=>by rw [Nat.le_zero.1 h];exact conB_zero⟩
 | g + 1=>by
  obtain⟨hE,hC,hB⟩:=con_upto g;refine⟨fun g' h=>?_,fun g' h=>?_,fun g' h=>?_⟩
  ·rcases Nat.lt_or_ge g' (g + 1) with h1|h1
   ·exact hE g' (by omega)
   ·rw [show g'=g + 1 by omega];exact conE_succ g hE (hC g (Nat.le_refl _))
  ·rcases Nat.lt_or_ge g' (g + 1) with h1|h1
   ·exact hC g' (by omega)
   ·rw [show g'=g + 1 by omega];exact conC_succ g (hB g (Nat.le_refl _))
  ·rcases Nat.lt_or_ge g' (g + 1) with h1|h1
   ·exact hB g' (by omega)
   ·rw [show g'=g + 1 by omega];exact conB_succ g hE hB
theorem con_c (g:Nat):ConC g:=(con_upto g).2.1 g (Nat.le_refl _)
theorem con_b (g:Nat):ConB g:=(con_upto g).2.2 g (Nat.le_refl _)
end Go.Proofs.YtechofppmnnomaaGreatDoor
