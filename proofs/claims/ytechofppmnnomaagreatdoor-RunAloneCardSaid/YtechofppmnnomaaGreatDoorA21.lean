/- Some texts in one. -/
import Derived.Defers
import Derived.Recover
import Derived.Test.YtechofppmnnomaaGreatDoorA4
import Derived.Test.YtechofppmnnomaaGreatDoorA18
import Derived.Test.YtechofppmnnomaaGreatDoorA19
import Derived.Test.YtechofppmnnomaaGreatDoorA20
namespace Go.Mq.Run
open Go Go.RowKit Go.Mq Go.Mq.Tree
open Go.Mq.fu (bA getM dG)
def setTail (F:kM) (d:Nat) (q:Nm) (fr:Fr) (n:Nm) (v:E) (k:Int) (s:St):O (Fl × Fr):=(F.e d q fr v s).bind fun v s=>ic q fr n k v s
theorem eG.put {w':World} {b:Nat} {fr:Fr} {n:Nm} {v:Int} (hm:bA w' b (dG (fr.map fun p=>(p.1,num p.2)) n (num v))):eG w' (some b) (jZ fr n v):=.inr ⟨b,rfl,by rw [JY] at hm;exact hm⟩
theorem QU {w:World} {ob:Option Nat} {fr:Fr} {n:Nm} {v:Int} (h:eG w ob fr) (hg : dN fr n=some v) : ∃ b,ob=some b∧bA w b (fr.map fun p=>(p.1,num p.2)):=by
 rcases h with⟨_,rfl⟩|⟨b,h1,h2⟩
 ·cases hg
 ·exact⟨b,h1,h2⟩
end Go.Mq.Run
namespace Go.Proofs.YtechofppmnnomaaGreatDoor
open Go Go.RowKit Go.Mq Go.Mq.Tree Go.Mq.Run
open Go.Mq.fu (bA getM dG kH)
open Go.Mq.Check (fG bZ bK dx)
set_option maxRecDepth 100000
set_option maxHeartbeats 4000000
theorem aau (g:Nat) (hE:ji g) {L:Lay} {d:Nat} {q:Nm} {fr:Fr} {p:Nat} {n:Nm} {v:E} {s:St} {w:World} {ov:Value} {ob:Option Nat} {uv:Value} {m:Mod} (tgt:O (Fl × Fr)) (h:Going w L d s ov) (hq:L.M q=some m) (hfr:eG w ob fr) (hfx : ∀ b,ob=some b→¬ L.Fix b) (hvl:aY w L.Fix v [uv]) (hfe:bK v) (ht : tgt=setTail (fns L.M g) d q fr n v 0 s) (hne : tgt ≠ .stuck) :
  Calls Tryz.prog 116 #[ptr L.br,ptr (L.pb q),.map ob,.agg #[num 1,num p,str n,aI,uv,ah,ah]] w (aj w L d ov ob.toList (gB ob) tgt):=by
 obtain⟨wA,ay⟩ : ∃ x,w.alloc (.cells #[num 1,num p,str n,aI,uv,ah,ah] 168)=x:=⟨_,rfl⟩
 have hc0:ae [] w wA:=by rw [← ay];exact(ae.refl _ _).alloc _
 have hbx:ag wA w.heap.size #[num 1,num p,str n,aI,uv,ah,ah] 168:=by rw [← ay];exact ag.new w _ _
 have b3:=hbx.cell 3 _ rfl;have b4:=hbx.cell 4 _ rfl;have jM:=zh hbx;have aC:=zh hc0;have eY:=zh (h.kept hc0);have jD:=zh (hfr.kept hc0 (by simp));have KE:=zh (hvl.kept hc0 (by simp));have kZ:=zh hfx;have HQ:=zh hq;have iM:=zh hfe;have cZ:=zh hne;have gV:=zh ht;clear h hbx hc0 hfr hvl hq hfe hne ht hfx
 go_enter Tryz.func116,Tryz.ntmps116
 go_wp2_with fail;obtain⟨k,hk⟩ : ∃ k:Int,k=0:=⟨_,rfl⟩
 rw [← hk];have HK:=zh hk;clear hk ay;have dE:=eY;have dm:=jM;have fo:=jD;have KF:=KE;have HT1:=zh (show tgt=setTail (fns L.M g) d q fr n v k s by rw [gV.out,HK.out]);have fM:=zh (hE dE.out HQ.out fo.out KF.out iM.out (fun hs=>cZ.out (by rw [HT1.out,setTail,hs];rfl)));cases hr : (fns L.M g).e d q fr v s with
 | stuck=>exact absurd (by rw [HT1.out,setTail,hr];rfl) cZ.out
 | stop way s2=>
  rw [hr] at fM;have HT:=zh (show tgt = .stop way s2 by rw [HT1.out,setTail,hr];rfl);clear hr;go_wp2_with fail;refine fM.out.mono ?_;rintro e w2 ⟨bT,hm,hc,⟨older,hol,rfl⟩,d',hg⟩;have bC:=zh hm;have aD:=zh hc;have HG2:=zh hg;clear hm hc hg;go_wp2_with fail;refine⟨rfl,?_⟩;rw [HT.out];exact(fun hh=>aj.after hh aC.out) (aj.ended bC.out aD.out HG2.out (ae.refl _ _) ⟨older,hol,rfl⟩)
 | ok z s2=>
  rw [hr] at fM;have ht2 : tgt=ic q fr n k z s2:=by rw [HT1.out,setTail,hr];rfl
  clear hr;go_wp2_with fail;refine fM.out.mono ?_;rintro e w2 ⟨bT,hm,hc,rfl,hg⟩;have hnb:=dE.out.gT dm.out (by decide) (by decide);have bC:=zh hm;have aD:=zh hc;have HG2:=zh hg;have qc:=zh (dm.out.kept hc (by simpa using hnb));have jE:=zh (fo.out.kept hc (by simpa using fo.out.iK dE.out));have KG:=zh (lN (L:=L) hm dm.out.lt hnb);have b2:=qc.out.cell 2 _ rfl;have hl:=Di jE.out n;cases hgf : dN fr n with
  | some old=>
   obtain⟨bf,rfl,hmap⟩:=QU jE.out hgf;rw [hgf] at hl;have hT : tgt = .ok (.go,jZ fr n z) s2:=by rw [ht2,ic,hgf]
   have HT:=zh hT;have hnf:=hg.JX hmap;obtain⟨w3,hu,Dx,hc3⟩:=kH (P:=Tryz.prog) Tryz.underlying165 Tryz.underlying9 hmap n (num z);have nT:=zh Dx;have bz:=zh hc3;have mh:=zh hnf;have eZ:=zh (show ¬ L.Fix bf from fun hf=>kZ.out bf rfl hf);clear hm hc hg hnb hT ht2 hgf hmap Dx hc3 hnf b3 b4;go_wp2_with fail;refine bodyPost_end (results_none rfl _ _ _) rfl ?_;rw [HT.out];refine(fun hh=>aj.after hh aC.out) (show aj wA L d ov [bf] (gB (some bf)) (.ok (.go,jZ fr n z) s2) _ w3 from⟨bT,bC.out,(aD.out.mono (fun x hx=>.inl (by simp at hx ⊢;exact .inr hx))).trans bz.out (fun x hx=>.inl (by simp at hx;simp [hx])),⟨eG.put nT.out,rfl⟩,HG2.out.aside bz.out (fun x hx=>by simp at hx;subst hx;exact⟨mh.out,eZ.out⟩)⟩)
  | none=>
   rw [hgf] at hl;obtain⟨wD,aH⟩ : ∃ x,x=w2.drew:=⟨_,rfl⟩
   have bg:ae [] w2 wD:=by rw [aH];exact(ae.refl [] w2).drew
   have dW:=zh bg;have mi:=zh (hg.kept bg);obtain⟨c0,c1,c2,c3,c4,bm,hpb,iD,hlk⟩:=tX mi.out HQ.out;have p5:=hpb.cell 5 _ rfl;have q2:=(qc.out.kept bg (by simp)).cell 2 _ rfl;have Dy:=zh (jE.out.kept bg (by simp));have Z1:=zh (bX.of (X:=aJ L bT) q2 KG.out);have Z3:=zh (bX.of (X:=aJ L bT) p5 (fun hm=>mi.out.dz _ hm iD));have Y1:=zh (show ∃ off u,wD.cell? ⟨w.heap.size,off,none⟩=some u from⟨_,_,q2⟩);have Y3:=zh (show ∃ off u,wD.cell? ⟨L.pb q,off,none⟩=some u from⟨_,_,p5⟩);cases fC:L.ak q n with
   | none=>
    have hdn:=hg.dyn q n;rw [fC] at hdn;simp only at hdn;have hlk2 : ∀ w',w'=wD→(Instr.lookup 99 (.map (some bm)) (str n) false).run Tryz.prog w' = .ok ah w':=fun w' hw=>by
     have:=hlk w' [] (by rw [hw];exact ae.refl _ _) (by simp) n;rw [fC] at this;exact this
    have fU:=zh hlk2;have HT:=zh (show tgt = .stop 3 s2 by rw [ht2,ic,hgf,hdn]);have HI:=zh (Gr k wD);clear hm hc hg hnb ht2 hgf bg hpb iD hlk hlk2 fC hdn b3 b4;go_wp2_with fail;refine GA mX 8 [true,true,true,true,true,true,true,true,false,true] rfl (by kernel_rfl) (by kernel_rfl) rfl ?_;rw [← aH];clear aH
    repeat ((with_reducible show bU _ _ _ _ _ _ _ _);(first|refine aL ?_|refine oW rfl ?_|refine lg rfl rfl (by kernel_rfl) (fun _ _=>?_)|refine qd rfl rfl rfl (by first|exact Y1.out|exact Y3.out) (fun _ _=>?_));go_wp2_with fail)
    refine qU rfl rfl rfl rfl fU.out ?_;go_wp2_with fail
    repeat ((with_reducible show bU _ _ _ _ _ _ _ _);(first|refine aL ?_|refine oW rfl ?_|refine lg rfl rfl (by kernel_rfl) (fun _ _=>?_)|refine qd rfl rfl rfl (by first|exact Y1.out|exact Y3.out) (fun _ _=>?_));go_wp2_with fail)
    refine HI.out.mono ?_;rintro _ _ ⟨⟨older,hol,rfl⟩,hw⟩;have hw:=hw.symm;subst hw;intro a' ha;refine⟨ha,?_⟩;rw [HT.out];exact(fun hh=>aj.after hh aC.out) (aj.ended bC.out aD.out HG2.out dW.out ⟨older,hol,rfl⟩)
   | some x=>
    obtain⟨ba,kk⟩:=x;have y8:=(hg.lay.arr fC).2.2;obtain⟨l,hvs,hll,hcells⟩:=Gw mi.out fC;have uW : ∀ w' Z,ae Z wD w'→(∀ x∈Z,¬ L.Fix x)→(Instr.lookup 99 (.map (some bm)) (str n) false).run Tryz.prog w' = .ok (.slice (some ⟨ba,0,none⟩) kk kk) w':=fun w' Z hc hZ=>by
     have:=hlk w' Z hc hZ n;rw [fC] at this;exact this
    have HI:=zh (Gs ba kk kk y8 k wD);have Dz:=zh fC;have Dc:=zh hvs;have GD:=zh hll;by_cases hin : 0≤k∧k < (kk:Int)
    ·simp only [if_pos hin] at HI
     have HT:=zh (show tgt = .ok (.go,fr) { s2 with vs:=oU s2.vs q n (l.set k.toNat z) } by rw [ht2,ic,hgf,hvs];simp only;rw [if_pos (by rw [hll];exact hin)]);have fU:=zh (fun w' (hc:ae (aJ L bT) wD w')=>uW w' _ hc mi.out.dz);have hkt : k.toNat < kk:=by omega
     have hcell:=hcells k.toNat hkt;obtain⟨l2,DC,_,hblk⟩ : ∃ l2,s2.vs q n=some l2∧l2.length=kk∧ag wD ba (ints l2).toArray bN:=by
      have:=mi.out.dyn q n;rw [fC] at this;exact this
     rw [hvs] at DC;cases DC
     have hfz:=hblk.frozen k.toNat;have DD:=zh hblk;have yR:=zh hin;clear hm hc hg hnb ht2 hgf bg hpb iD hlk uW fC hvs hll hcells hblk hin b3 b4;go_wp2_with fail;refine KH mX (aJ L bT) rfl (by kernel_rfl) rfl ?_;rw [← aH];clear aH;have hS:ae (aJ L bT) wD wD:=ae.refl _ _
     repeat ((with_reducible refine gX ?_);(first|refine aL ?_|refine sK ?_|refine sM fun _ _=>?_|refine sL (hz:=by first|exact Z1.out|exact Z3.out) fun _ _=>?_|refine sE fun _ _=>?_);go_wp2_with fail)
     refine qU rfl rfl rfl rfl fU.out ?_;go_wp2_with fail
     repeat ((with_reducible refine gX ?_);(first|refine aL ?_|refine sK ?_|refine sM fun _ _=>?_|refine sL (hz:=by first|exact Z1.out|exact Z3.out) fun _ _=>?_|refine sE fun _ _=>?_);go_wp2_with fail)
     refine HI.out.mono ?_;rintro _ _ ⟨rfl,hw⟩;have hw:=hw.symm;subst hw;go_wp2_with fail;refine⟨ae.refl _ _,?_⟩
     repeat ((with_reducible refine gX ?_);(first|refine aL ?_|refine sK ?_|refine sM fun _ _=>?_|refine sL (hz:=by first|exact Z1.out|exact Z3.out) fun _ _=>?_|refine sE fun _ _=>?_);go_wp2_with fail)
     refine tN rfl rfl (fun _ _=>?_);clear hS Z1 Z3 Y1 Y3 q2 p5;go_wp2_with fail;refine bodyPost_end (results_none rfl _ _ _) rfl ?_;rw [HT.out];have hch:ae [ba] wD (wD.setCell ⟨ba,k.toNat,none⟩ (num z)):=ae.set1 _ _ _ _;have hbs:=DD.out.set k.toNat (num z);have hg3:Going (wD.setCell ⟨ba,k.toNat,none⟩ (num z)) L d { s2 with vs:=oU s2.vs q n (l.set k.toNat z) } bT:=mi.out.put Dz.out Dc.out hch (by rw [ints,List.map_set,← List.setIfInBounds_toArray];exact hbs);have jN:=(mi.out.lay.arr Dz.out).1;have iy : ba∈aJ L ov:=List.mem_cons_of_mem _ (List.mem_append_right _ jN);refine(fun hh=>aj.after hh aC.out) ⟨bT,bC.out,?_,⟨Dy.out.kept hch (fun b hb hm=>?_),rfl⟩,hg3⟩
     ·exact((aD.out.then dW.out.weak).mono (fun x hx=>.inl (List.mem_append_right _ (by simpa using hx)))).trans hch (fun x hx=>.inl (by simp at hx;subst hx;exact List.mem_append_right _ iy))
     ·simp at hm
      subst hm;exact Dy.out.iK mi.out _ hb (List.mem_cons_of_mem _ (List.mem_append_right _ jN))
    ·simp only [if_neg hin] at HI
     have HT:=zh (show tgt = .stop 3 s2 by rw [ht2,ic,hgf,hvs];simp only;rw [if_neg (by rw [hll];exact hin)]);have fU:=zh (fun w' (hw : w'=wD)=>uW w' [] (by rw [hw];exact ae.refl _ _) (by simp));clear hm hc hg hnb ht2 hgf bg hpb iD hlk uW fC hvs hll hcells hin b3 b4;go_wp2_with fail;refine GA mX 8 [true,true,true,true,true,true,true,true,false,true] rfl (by kernel_rfl) (by kernel_rfl) rfl ?_;rw [← aH];clear aH
     repeat ((with_reducible show bU _ _ _ _ _ _ _ _);(first|refine aL ?_|refine oW rfl ?_|refine lg rfl rfl (by kernel_rfl) (fun _ _=>?_)|refine qd rfl rfl rfl (by first|exact Y1.out|exact Y3.out) (fun _ _=>?_));go_wp2_with fail)
     refine qU rfl rfl rfl rfl fU.out ?_;go_wp2_with fail
     repeat ((with_reducible show bU _ _ _ _ _ _ _ _);(first|refine aL ?_|refine oW rfl ?_|refine lg rfl rfl (by kernel_rfl) (fun _ _=>?_)|refine qd rfl rfl rfl (by first|exact Y1.out|exact Y3.out) (fun _ _=>?_));go_wp2_with fail)
     refine HI.out.mono ?_;rintro _ _ ⟨⟨older,hol,rfl⟩,hw⟩;have hw:=hw.symm;subst hw;intro a' ha;refine⟨ha,?_⟩;rw [HT.out];exact(fun hh=>aj.after hh aC.out) (aj.ended bC.out aD.out HG2.out dW.out ⟨older,hol,rfl⟩)
theorem aav (g:Nat) (hE:ji g) {L:Lay} {d:Nat} {q:Nm} {fr:Fr} {p:Nat} {n:Nm} {v:E} {s:St} {w:World} {ov:Value} {ob:Option Nat} {uv:Value} {m:Mod} {i:E} {ui:Value} (tgt:O (Fl × Fr)) (h:Going w L d s ov) (hq:L.M q=some m) (hfr:eG w ob fr) (hfx : ∀ b,ob=some b→¬ L.Fix b) (hil:aY w L.Fix i [ui]) (hif:bK i) (hvl:aY w L.Fix v [uv]) (hfe:bK v) (ht : tgt=((fns L.M g).e d q fr i s).bind fun k s=>setTail (fns L.M g) d q fr n v k s) (hne : tgt ≠ .stuck) :
  Calls Tryz.prog 116 #[ptr L.br,ptr (L.pb q),.map ob,.agg #[num 1,num p,str n,ui,uv,ah,ah]] w (aj w L d ov ob.toList (gB ob) tgt):=by
 obtain⟨bi,rfl⟩:=hil.ptr;obtain⟨wA,ay⟩ : ∃ x,w.alloc (.cells #[num 1,num p,str n,ptr bi,uv,ah,ah] 168)=x:=⟨_,rfl⟩
 have hc0:ae [] w wA:=by rw [← ay];exact(ae.refl _ _).alloc _
 have hbx:ag wA w.heap.size #[num 1,num p,str n,ptr bi,uv,ah,ah] 168:=by rw [← ay];exact ag.new w _ _
 have b3:=hbx.cell 3 _ rfl;have b4:=hbx.cell 4 _ rfl;have jM:=zh hbx;have aC:=zh hc0;have eY:=zh (h.kept hc0);have jD:=zh (hfr.kept hc0 (by simp));have KE:=zh (hvl.kept hc0 (by simp));have kZ:=zh hfx;have HQ:=zh hq;have iM:=zh hfe;have cZ:=zh hne;have gV:=zh ht;have GG:=zh (hE eY.out HQ.out jD.out (hil.kept hc0 (by simp)) hif (fun hs=>hne (by rw [ht,hs];rfl)));clear h hbx hc0 hfr hvl hq hfe hne ht hfx hil hif
 go_enter Tryz.func116,Tryz.ntmps116
 go_wp2_with fail;cases hr : (fns L.M g).e d q fr i s with
 | stuck=>exact absurd (by rw [gV.out,hr];rfl) cZ.out
 | stop way s1=>
  rw [hr] at GG;have HT:=zh (show tgt = .stop way s1 by rw [gV.out,hr];rfl);clear hr;refine GG.out.mono ?_;rintro e w2 ⟨bT,hm,hc,⟨older,hol,rfl⟩,d',hg⟩;have bC:=zh hm;have aD:=zh hc;have HG2:=zh hg;clear hm hc hg;go_wp2_with fail;refine⟨rfl,?_⟩;rw [HT.out];exact aj.after (aj.ended bC.out aD.out HG2.out (ae.refl _ _) ⟨older,hol,rfl⟩) aC.out
 | ok k s1=>
  rw [hr] at GG;have HT1:=zh (show tgt=setTail (fns L.M g) d q fr n v k s1 by rw [gV.out,hr];rfl);clear hr;refine GG.out.mono ?_;rintro e w1 ⟨gF,hm,hc,rfl,hg⟩;have hnb:=eY.out.gT jM.out (by decide) (by decide);have dm:=zh (jM.out.kept hc (by simpa using hnb));have fo:=zh (jD.out.kept hc (by simpa using jD.out.iK eY.out));have KF:=zh (KE.out.kept hc (by simpa using eY.out.dz));have lh:=zh hm;have gK:=zh hc;have dE:=zh hg;clear hm hc hg hnb ay b3 b4;have b4:=dm.out.cell 4 _ rfl;go_wp2_with fail;have fM:=zh (hE dE.out HQ.out fo.out KF.out iM.out (fun hs=>cZ.out (by rw [HT1.out,setTail,hs];rfl)));cases hr : (fns L.M g).e d q fr v s1 with
  | stuck=>exact absurd (by rw [HT1.out,setTail,hr];rfl) cZ.out
  | stop way s2=>
   rw [hr] at fM;have HT:=zh (show tgt = .stop way s2 by rw [HT1.out,setTail,hr];rfl);clear hr;go_wp2_with fail;refine fM.out.mono ?_;rintro e w2 ⟨bT,hm,hc,⟨older,hol,rfl⟩,d',hg⟩;have bC:=zh hm;have aD:=zh hc;have HG2:=zh hg;clear hm hc hg;go_wp2_with fail;refine⟨rfl,?_⟩;rw [HT.out];exact(fun hh=>aj.after (aj.then lh.out gK.out hh) aC.out) (aj.ended bC.out aD.out HG2.out (ae.refl _ _) ⟨older,hol,rfl⟩)
  | ok z s2=>
   rw [hr] at fM;have ht2 : tgt=ic q fr n k z s2:=by rw [HT1.out,setTail,hr];rfl
   clear hr;go_wp2_with fail;refine fM.out.mono ?_;rintro e w2 ⟨bT,hm,hc,rfl,hg⟩;have hnb:=dE.out.gT dm.out (by decide) (by decide);have bC:=zh hm;have aD:=zh hc;have HG2:=zh hg;have qc:=zh (dm.out.kept hc (by simpa using hnb));have jE:=zh (fo.out.kept hc (by simpa using fo.out.iK dE.out));have KG:=zh (lN (L:=L) hm dm.out.lt hnb);have b2:=qc.out.cell 2 _ rfl;have hl:=Di jE.out n;cases hgf : dN fr n with
   | some old=>
    obtain⟨bf,rfl,hmap⟩:=QU jE.out hgf;rw [hgf] at hl;have hT : tgt = .ok (.go,jZ fr n z) s2:=by rw [ht2,ic,hgf]
    have HT:=zh hT;have hnf:=hg.JX hmap;obtain⟨w3,hu,Dx,hc3⟩:=kH (P:=Tryz.prog) Tryz.underlying165 Tryz.underlying9 hmap n (num z);have nT:=zh Dx;have bz:=zh hc3;have mh:=zh hnf;have eZ:=zh (show ¬ L.Fix bf from fun hf=>kZ.out bf rfl hf);clear hm hc hg hnb hT ht2 hgf hmap Dx hc3 hnf b4;go_wp2_with fail;refine bodyPost_end (results_none rfl _ _ _) rfl ?_;rw [HT.out];refine(fun hh=>aj.after (aj.then lh.out gK.out hh) aC.out) (show aj w1 L d gF [bf] (gB (some bf)) (.ok (.go,jZ fr n z) s2) _ w3 from⟨bT,bC.out,(aD.out.mono (fun x hx=>.inl (by simp at hx ⊢;exact .inr hx))).trans bz.out (fun x hx=>.inl (by simp at hx;simp [hx])),⟨eG.put nT.out,rfl⟩,HG2.out.aside bz.out (fun x hx=>by simp at hx;subst hx;exact⟨mh.out,eZ.out⟩)⟩)
   | none=>
    rw [hgf] at hl;obtain⟨wD,aH⟩ : ∃ x,x=w2.drew:=⟨_,rfl⟩
    have bg:ae [] w2 wD:=by rw [aH];exact(ae.refl [] w2).drew
    have dW:=zh bg;have mi:=zh (hg.kept bg);obtain⟨c0,c1,c2,c3,c4,bm,hpb,iD,hlk⟩:=tX mi.out HQ.out;have p5:=hpb.cell 5 _ rfl;have q2:=(qc.out.kept bg (by simp)).cell 2 _ rfl;have Dy:=zh (jE.out.kept bg (by simp));have Z1:=zh (bX.of (X:=aJ L bT) q2 KG.out);have Z3:=zh (bX.of (X:=aJ L bT) p5 (fun hm=>mi.out.dz _ hm iD));have Y1:=zh (show ∃ off u,wD.cell? ⟨w.heap.size,off,none⟩=some u from⟨_,_,q2⟩);have Y3:=zh (show ∃ off u,wD.cell? ⟨L.pb q,off,none⟩=some u from⟨_,_,p5⟩);cases fC:L.ak q n with
    | none=>
     have hdn:=hg.dyn q n;rw [fC] at hdn;simp only at hdn;have hlk2 : ∀ w',w'=wD→(Instr.lookup 99 (.map (some bm)) (str n) false).run Tryz.prog w' = .ok ah w':=fun w' hw=>by
      have:=hlk w' [] (by rw [hw];exact ae.refl _ _) (by simp) n;rw [fC] at this;exact this
     have fU:=zh hlk2;have HT:=zh (show tgt = .stop 3 s2 by rw [ht2,ic,hgf,hdn]);have HI:=zh (Gr k wD);clear hm hc hg hnb ht2 hgf bg hpb iD hlk hlk2 fC hdn b4;go_wp2_with fail;refine GA mX 8 [true,true,true,true,true,true,true,true,false,true] rfl (by kernel_rfl) (by kernel_rfl) rfl ?_;rw [← aH];clear aH
     repeat ((with_reducible show bU _ _ _ _ _ _ _ _);(first|refine aL ?_|refine oW rfl ?_|refine lg rfl rfl (by kernel_rfl) (fun _ _=>?_)|refine qd rfl rfl rfl (by first|exact Y1.out|exact Y3.out) (fun _ _=>?_));go_wp2_with fail)
     refine qU rfl rfl rfl rfl fU.out ?_;go_wp2_with fail
     repeat ((with_reducible show bU _ _ _ _ _ _ _ _);(first|refine aL ?_|refine oW rfl ?_|refine lg rfl rfl (by kernel_rfl) (fun _ _=>?_)|refine qd rfl rfl rfl (by first|exact Y1.out|exact Y3.out) (fun _ _=>?_));go_wp2_with fail)
     refine HI.out.mono ?_;rintro _ _ ⟨⟨older,hol,rfl⟩,hw⟩;have hw:=hw.symm;subst hw;intro a' ha;refine⟨ha,?_⟩;rw [HT.out];exact(fun hh=>aj.after (aj.then lh.out gK.out hh) aC.out) (aj.ended bC.out aD.out HG2.out dW.out ⟨older,hol,rfl⟩)
    | some x=>
     obtain⟨ba,kk⟩:=x;have y8:=(hg.lay.arr fC).2.2;obtain⟨l,hvs,hll,hcells⟩:=Gw mi.out fC;have uW : ∀ w' Z,ae Z wD w'→(∀ x∈Z,¬ L.Fix x)→(Instr.lookup 99 (.map (some bm)) (str n) false).run Tryz.prog w' = .ok (.slice (some ⟨ba,0,none⟩) kk kk) w':=fun w' Z hc hZ=>by
      have:=hlk w' Z hc hZ n;rw [fC] at this;exact this
     have HI:=zh (Gs ba kk kk y8 k wD);have Dz:=zh fC;have Dc:=zh hvs;have GD:=zh hll;by_cases hin : 0≤k∧k < (kk:Int)
     ·simp only [if_pos hin] at HI
      have HT:=zh (show tgt = .ok (.go,fr) { s2 with vs:=oU s2.vs q n (l.set k.toNat z) } by rw [ht2,ic,hgf,hvs];simp only;rw [if_pos (by rw [hll];exact hin)]);have fU:=zh (fun w' (hc:ae (aJ L bT) wD w')=>uW w' _ hc mi.out.dz);have hkt : k.toNat < kk:=by omega
      have hcell:=hcells k.toNat hkt;obtain⟨l2,DC,_,hblk⟩ : ∃ l2,s2.vs q n=some l2∧l2.length=kk∧ag wD ba (ints l2).toArray bN:=by
       have:=mi.out.dyn q n;rw [fC] at this;exact this
      rw [hvs] at DC;cases DC
      have hfz:=hblk.frozen k.toNat;have DD:=zh hblk;have yR:=zh hin;clear hm hc hg hnb ht2 hgf bg hpb iD hlk uW fC hvs hll hcells hblk hin b4;go_wp2_with fail;refine KH mX (aJ L bT) rfl (by kernel_rfl) rfl ?_;rw [← aH];clear aH;have hS:ae (aJ L bT) wD wD:=ae.refl _ _
      repeat ((with_reducible refine gX ?_);(first|refine aL ?_|refine sK ?_|refine sM fun _ _=>?_|refine sL (hz:=by first|exact Z1.out|exact Z3.out) fun _ _=>?_|refine sE fun _ _=>?_);go_wp2_with fail)
      refine qU rfl rfl rfl rfl fU.out ?_;go_wp2_with fail
      repeat ((with_reducible refine gX ?_);(first|refine aL ?_|refine sK ?_|refine sM fun _ _=>?_|refine sL (hz:=by first|exact Z1.out|exact Z3.out) fun _ _=>?_|refine sE fun _ _=>?_);go_wp2_with fail)
      refine HI.out.mono ?_;rintro _ _ ⟨rfl,hw⟩;have hw:=hw.symm;subst hw;go_wp2_with fail;refine⟨ae.refl _ _,?_⟩
      repeat ((with_reducible refine gX ?_);(first|refine aL ?_|refine sK ?_|refine sM fun _ _=>?_|refine sL (hz:=by first|exact Z1.out|exact Z3.out) fun _ _=>?_|refine sE fun _ _=>?_);go_wp2_with fail)
      refine tN rfl rfl (fun _ _=>?_);clear hS Z1 Z3 Y1 Y3 q2 p5;go_wp2_with fail;refine bodyPost_end (results_none rfl _ _ _) rfl ?_;rw [HT.out];have hch:ae [ba] wD (wD.setCell ⟨ba,k.toNat,none⟩ (num z)):=ae.set1 _ _ _ _;have hbs:=DD.out.set k.toNat (num z);have hg3:Going (wD.setCell ⟨ba,k.toNat,none⟩ (num z)) L d { s2 with vs:=oU s2.vs q n (l.set k.toNat z) } bT:=mi.out.put Dz.out Dc.out hch (by rw [ints,List.map_set,← List.setIfInBounds_toArray];exact hbs);have jN:=(mi.out.lay.arr Dz.out).1;have iy : ba∈aJ L gF:=List.mem_cons_of_mem _ (List.mem_append_right _ jN);refine(fun hh=>aj.after (aj.then lh.out gK.out hh) aC.out) ⟨bT,bC.out,?_,⟨Dy.out.kept hch (fun b hb hm=>?_),rfl⟩,hg3⟩
      ·exact((aD.out.then dW.out.weak).mono (fun x hx=>.inl (List.mem_append_right _ (by simpa using hx)))).trans hch (fun x hx=>.inl (by simp at hx;subst hx;exact List.mem_append_right _ iy))
      ·simp at hm
       subst hm;exact Dy.out.iK mi.out _ hb (List.mem_cons_of_mem _ (List.mem_append_right _ jN))
     ·simp only [if_neg hin] at HI
      have HT:=zh (show tgt = .stop 3 s2 by rw [ht2,ic,hgf,hvs];simp only;rw [if_neg (by rw [hll];exact hin)]);have fU:=zh (fun w' (hw : w'=wD)=>uW w' [] (by rw [hw];exact ae.refl _ _) (by simp));clear hm hc hg hnb ht2 hgf bg hpb iD hlk uW fC hvs hll hcells hin b4;go_wp2_with fail;refine GA mX 8 [true,true,true,true,true,true,true,true,false,true] rfl (by kernel_rfl) (by kernel_rfl) rfl ?_;rw [← aH];clear aH
      repeat ((with_reducible show bU _ _ _ _ _ _ _ _);(first|refine aL ?_|refine oW rfl ?_|refine lg rfl rfl (by kernel_rfl) (fun _ _=>?_)|refine qd rfl rfl rfl (by first|exact Y1.out|exact Y3.out) (fun _ _=>?_));go_wp2_with fail)
      refine qU rfl rfl rfl rfl fU.out ?_;go_wp2_with fail
      repeat ((with_reducible show bU _ _ _ _ _ _ _ _);(first|refine aL ?_|refine oW rfl ?_|refine lg rfl rfl (by kernel_rfl) (fun _ _=>?_)|refine qd rfl rfl rfl (by first|exact Y1.out|exact Y3.out) (fun _ _=>?_));go_wp2_with fail)
      refine HI.out.mono ?_;rintro _ _ ⟨⟨older,hol,rfl⟩,hw⟩;have hw:=hw.symm;subst hw;intro a' ha;refine⟨ha,?_⟩;rw [HT.out];exact(fun hh=>aj.after (aj.then lh.out gK.out hh) aC.out) (aj.ended bC.out aD.out HG2.out dW.out ⟨older,hol,rfl⟩)
end Go.Proofs.YtechofppmnnomaaGreatDoor
namespace Go.Proofs.YtechofppmnnomaaGreatDoor
open Go Go.RowKit Go.Mq Go.Mq.Tree Go.Mq.Run
open Go.Mq.Check (fG bZ bK dx)
set_option maxRecDepth 100000
set_option maxHeartbeats 4000000
theorem s_call (g:Nat) (hE:ji g) {L:Lay} {d:Nat} {q:Nm} {fr:Fr} {p:Nat} {s:St} {w:World} {ov:Value} {ob:Option Nat} {m:Mod} {v:E} {uv:Value} (tgt:O (Fl × Fr)) (h:Going w L d s ov) (hq:L.M q=some m) (hfr:eG w ob fr) (hfx : ∀ b,ob=some b→¬ L.Fix b) (hvl:aY w L.Fix v [uv]) (hfe:bK v) (ht : tgt=(tick s).bind fun _ s=>((fns L.M g).e d q fr v s).bind fun _ s=>.ok (.go,fr) s) (hne : tgt ≠ .stuck) :
  Calls Tryz.prog 82 #[ptr L.br,ptr (L.pb q),.map ob,.agg #[num 6,num p,str [],aI,uv,ah,ah]] w (aj w L d ov ob.toList (gB ob) tgt):=by
 obtain⟨wA,ay⟩ : ∃ x,w.alloc (.cells #[num 6,num p,str [],aI,uv,ah,ah] 168)=x:=⟨_,rfl⟩
 have hc0:ae [] w wA:=by rw [← ay];exact(ae.refl _ _).alloc _
 have hbx:ag wA w.heap.size #[num 6,num p,str [],aI,uv,ah,ah] 168:=by rw [← ay];exact ag.new w _ _
 have jM:=zh hbx;have aC:=zh hc0;have eY:=zh (h.kept hc0);have jD:=zh (hfr.kept hc0 (by simp));have kZ:=zh hfx;have HQ:=zh hq;have cZ:=zh hne;have gV:=zh ht;have HST:=zh (yV eY.out);have iQ:=zh (hvl.kept hc0 (by simp));have iM:=zh hfe;clear h hbx hc0 hfr hq hne ht hfx hvl hfe
 go_enter Tryz.func82,Tryz.ntmps82
 go_wp2_with fail;cases htk : tick s with
 | stuck=>exact absurd (by rw [gV.out,htk];rfl) cZ.out
 | stop way s1=>
  rw [htk] at HST;have HT:=zh (show tgt = .stop way s1 by rw [gV.out,htk];rfl);clear htk;refine HST.out.mono ?_;rintro e w2 ⟨bT,hm,hc,⟨older,hol,rfl⟩,d',hg⟩;have bC:=zh hm;have aD:=zh hc;have HG2:=zh hg;clear hm hc hg;go_wp2_with fail;refine⟨rfl,?_⟩;rw [HT.out];exact aj.after (aj.ended bC.out aD.out HG2.out (ae.refl _ _) ⟨older,hol,rfl⟩) aC.out
 | ok _ s1=>
  rw [htk] at HST;have HT1:=zh (show tgt=((fns L.M g).e d q fr v s1).bind fun _ s=>.ok (.go,fr) s by rw [gV.out,htk];rfl);clear htk;refine HST.out.mono ?_;rintro e w1 ⟨gF,hm,hc,rfl,hg⟩;have hnb:=eY.out.gT jM.out (by decide) (by decide);have dm:=zh (jM.out.kept hc (by simpa using hnb));have fo:=zh (jD.out.kept hc (by simpa using jD.out.iK eY.out));have lh:=zh hm;have gK:=zh hc;have dE:=zh hg;have hnf:=eY.out.dz;have mD:=zh (iQ.out.kept hc (by simpa using hnf));clear hm hc hg hnb hnf ay;have UP : ∀ {o:O (Fl × Fr)} {e:Ending} {w':World},aj w1 L d gF ob.toList (gB ob) o e w'→aj w L d ov ob.toList (gB ob) o e w':=fun hh=>aj.after (aj.then lh.out gK.out hh) aC.out
  have j6:=zh (fun(o:O (Fl × Fr)) (e:Ending) (w':World) (hh:aj w1 L d gF ob.toList (gB ob) o e w')=>UP hh);clear UP;have b0:=dm.out.cell 0 _ rfl;have b4:=dm.out.cell 4 _ rfl;go_wp2_with fail;have fM:=zh (hE dE.out HQ.out fo.out mD.out iM.out (fun hs=>cZ.out (by rw [HT1.out,hs];rfl)));cases hr : (fns L.M g).e d q fr v s1 with
  | stuck=>exact absurd (by rw [HT1.out,hr];rfl) cZ.out
  | stop way s2=>
   rw [hr] at fM;have HT:=zh (show tgt = .stop way s2 by rw [HT1.out,hr];rfl);clear hr;refine fM.out.mono ?_;rintro e w2 ⟨bT,hm,hc,⟨older,hol,rfl⟩,d',hg⟩;have bC:=zh hm;have aD:=zh hc;have HG2:=zh hg;clear hm hc hg;go_wp2_with fail;refine⟨rfl,?_⟩;rw [HT.out];exact j6.out _ _ _ (aj.ended bC.out aD.out HG2.out (ae.refl _ _) ⟨older,hol,rfl⟩)
  | ok z s2=>
   rw [hr] at fM;have HT2:=zh (show tgt = .ok (.go,fr) s2 by rw [HT1.out,hr];rfl);clear hr;refine fM.out.mono ?_;rintro e w2 ⟨bT,hm,hc,rfl,hg⟩;have hnb:=dE.out.gT dm.out (by decide) (by decide);have qc:=zh (dm.out.kept hc (by simpa using hnb));have jE:=zh (fo.out.kept hc (by simpa using fo.out.iK dE.out));have bC:=zh hm;have aD:=zh hc;have HG2:=zh hg;have hnf:=dE.out.dz;clear hm hc hg hnb hnf;go_wp2_with fail;refine bodyPost_end (results_none rfl _ _ _) rfl ?_;rw [HT2.out];exact j6.out _ _ _ (aj.done bC.out aD.out HG2.out (ae.refl _ _) ⟨jE.out,rfl⟩)
theorem aaw (g:Nat) (hE:ji g) {L:Lay} {d:Nat} {q:Nm} {fr:Fr} {p:Nat} {s:St} {w:World} {ov:Value} {ob:Option Nat} {m:Mod} {v:E} {uv:Value} (tgt:O (Fl × Fr)) (h:Going w L d s ov) (hq:L.M q=some m) (hfr:eG w ob fr) (hfx : ∀ b,ob=some b→¬ L.Fix b) (hvl:aY w L.Fix v [uv]) (hfe:bK v) (ht : tgt=(tick s).bind fun _ s=>((fns L.M g).e d q fr v s).bind fun n s=>.ok (.ret n,fr) s) (hne : tgt ≠ .stuck) :
  Calls Tryz.prog 82 #[ptr L.br,ptr (L.pb q),.map ob,.agg #[num 4,num p,str [],aI,uv,ah,ah]] w (aj w L d ov ob.toList (gB ob) tgt):=by
 obtain⟨wA,ay⟩ : ∃ x,w.alloc (.cells #[num 4,num p,str [],aI,uv,ah,ah] 168)=x:=⟨_,rfl⟩
 have hc0:ae [] w wA:=by rw [← ay];exact(ae.refl _ _).alloc _
 have hbx:ag wA w.heap.size #[num 4,num p,str [],aI,uv,ah,ah] 168:=by rw [← ay];exact ag.new w _ _
 have jM:=zh hbx;have aC:=zh hc0;have eY:=zh (h.kept hc0);have jD:=zh (hfr.kept hc0 (by simp));have kZ:=zh hfx;have HQ:=zh hq;have cZ:=zh hne;have gV:=zh ht;have HST:=zh (yV eY.out);have iQ:=zh (hvl.kept hc0 (by simp));have iM:=zh hfe;clear h hbx hc0 hfr hq hne ht hfx hvl hfe
 go_enter Tryz.func82,Tryz.ntmps82
 go_wp2_with fail;cases htk : tick s with
 | stuck=>exact absurd (by rw [gV.out,htk];rfl) cZ.out
 | stop way s1=>
  rw [htk] at HST;have HT:=zh (show tgt = .stop way s1 by rw [gV.out,htk];rfl);clear htk;refine HST.out.mono ?_;rintro e w2 ⟨bT,hm,hc,⟨older,hol,rfl⟩,d',hg⟩;have bC:=zh hm;have aD:=zh hc;have HG2:=zh hg;clear hm hc hg;go_wp2_with fail;refine⟨rfl,?_⟩;rw [HT.out];exact aj.after (aj.ended bC.out aD.out HG2.out (ae.refl _ _) ⟨older,hol,rfl⟩) aC.out
 | ok _ s1=>
  rw [htk] at HST;have HT1:=zh (show tgt=((fns L.M g).e d q fr v s1).bind fun n s=>.ok (.ret n,fr) s by rw [gV.out,htk];rfl);clear htk;refine HST.out.mono ?_;rintro e w1 ⟨gF,hm,hc,rfl,hg⟩;have hnb:=eY.out.gT jM.out (by decide) (by decide);have dm:=zh (jM.out.kept hc (by simpa using hnb));have fo:=zh (jD.out.kept hc (by simpa using jD.out.iK eY.out));have lh:=zh hm;have gK:=zh hc;have dE:=zh hg;have hnf:=eY.out.dz;have mD:=zh (iQ.out.kept hc (by simpa using hnf));clear hm hc hg hnb hnf ay;have UP : ∀ {o:O (Fl × Fr)} {e:Ending} {w':World},aj w1 L d gF ob.toList (gB ob) o e w'→aj w L d ov ob.toList (gB ob) o e w':=fun hh=>aj.after (aj.then lh.out gK.out hh) aC.out
  have j6:=zh (fun(o:O (Fl × Fr)) (e:Ending) (w':World) (hh:aj w1 L d gF ob.toList (gB ob) o e w')=>UP hh);clear UP;have b0:=dm.out.cell 0 _ rfl;have b4:=dm.out.cell 4 _ rfl;go_wp2_with fail;have fM:=zh (hE dE.out HQ.out fo.out mD.out iM.out (fun hs=>cZ.out (by rw [HT1.out,hs];rfl)));cases hr : (fns L.M g).e d q fr v s1 with
  | stuck=>exact absurd (by rw [HT1.out,hr];rfl) cZ.out
  | stop way s2=>
   rw [hr] at fM;have HT:=zh (show tgt = .stop way s2 by rw [HT1.out,hr];rfl);clear hr;refine fM.out.mono ?_;rintro e w2 ⟨bT,hm,hc,⟨older,hol,rfl⟩,d',hg⟩;have bC:=zh hm;have aD:=zh hc;have HG2:=zh hg;clear hm hc hg;go_wp2_with fail;refine⟨rfl,?_⟩;rw [HT.out];exact j6.out _ _ _ (aj.ended bC.out aD.out HG2.out (ae.refl _ _) ⟨older,hol,rfl⟩)
  | ok z s2=>
   rw [hr] at fM;have HT2:=zh (show tgt = .ok (.ret z,fr) s2 by rw [HT1.out,hr];rfl);clear hr;refine fM.out.mono ?_;rintro e w2 ⟨bT,hm,hc,rfl,hg⟩;have hnb:=dE.out.gT dm.out (by decide) (by decide);have qc:=zh (dm.out.kept hc (by simpa using hnb));have jE:=zh (fo.out.kept hc (by simpa using fo.out.iK dE.out));have bC:=zh hm;have aD:=zh hc;have HG2:=zh hg;have hnf:=dE.out.dz;clear hm hc hg hnb hnf;go_wp2_with fail;refine⟨rfl,?_⟩;rw [HT2.out];exact j6.out _ _ _ (aj.done bC.out aD.out HG2.out (ae.refl _ _) ⟨jE.out,rfl⟩)
theorem aax (g:Nat) (hE:ji g) {L:Lay} {d:Nat} {q:Nm} {fr:Fr} {p:Nat} {s:St} {w:World} {ov:Value} {ob:Option Nat} {m:Mod} {v:E} {uv:Value} (tgt:O (Fl × Fr)) (h:Going w L d s ov) (hq:L.M q=some m) (hfr:eG w ob fr) (hfx : ∀ b,ob=some b→¬ L.Fix b) (hvl:aY w L.Fix v [uv]) (hfe:bK v) (ht : tgt=(tick s).bind fun _ s=>((fns L.M g).e d q fr v s).bind fun n s=>if s.out.length=200 then .stop 6 s else .ok (.go,fr) { s with out:=s.out ++ [n] }) (hne : tgt ≠ .stuck) :
  Calls Tryz.prog 82 #[ptr L.br,ptr (L.pb q),.map ob,.agg #[num 5,num p,str [],aI,uv,ah,ah]] w (aj w L d ov ob.toList (gB ob) tgt):=by
 obtain⟨wA,ay⟩ : ∃ x,w.alloc (.cells #[num 5,num p,str [],aI,uv,ah,ah] 168)=x:=⟨_,rfl⟩
 have hc0:ae [] w wA:=by rw [← ay];exact(ae.refl _ _).alloc _
 have hbx:ag wA w.heap.size #[num 5,num p,str [],aI,uv,ah,ah] 168:=by rw [← ay];exact ag.new w _ _
 have jM:=zh hbx;have aC:=zh hc0;have eY:=zh (h.kept hc0);have jD:=zh (hfr.kept hc0 (by simp));have kZ:=zh hfx;have HQ:=zh hq;have cZ:=zh hne;have gV:=zh ht;have HST:=zh (yV eY.out);have iQ:=zh (hvl.kept hc0 (by simp));have iM:=zh hfe;clear h hbx hc0 hfr hq hne ht hfx hvl hfe
 go_enter Tryz.func82,Tryz.ntmps82
 go_wp2_with fail;cases htk : tick s with
 | stuck=>exact absurd (by rw [gV.out,htk];rfl) cZ.out
 | stop way s1=>
  rw [htk] at HST;have HT:=zh (show tgt = .stop way s1 by rw [gV.out,htk];rfl);clear htk;refine HST.out.mono ?_;rintro e w2 ⟨bT,hm,hc,⟨older,hol,rfl⟩,d',hg⟩;have bC:=zh hm;have aD:=zh hc;have HG2:=zh hg;clear hm hc hg;go_wp2_with fail;refine⟨rfl,?_⟩;rw [HT.out];exact aj.after (aj.ended bC.out aD.out HG2.out (ae.refl _ _) ⟨older,hol,rfl⟩) aC.out
 | ok _ s1=>
  rw [htk] at HST;have HT1:=zh (show tgt=((fns L.M g).e d q fr v s1).bind fun n s=>if s.out.length=200 then .stop 6 s else .ok (.go,fr) { s with out:=s.out ++ [n] } by rw [gV.out,htk];rfl);clear htk;refine HST.out.mono ?_;rintro e w1 ⟨gF,hm,hc,rfl,hg⟩;have hnb:=eY.out.gT jM.out (by decide) (by decide);have dm:=zh (jM.out.kept hc (by simpa using hnb));have fo:=zh (jD.out.kept hc (by simpa using jD.out.iK eY.out));have lh:=zh hm;have gK:=zh hc;have dE:=zh hg;have hnf:=eY.out.dz;have mD:=zh (iQ.out.kept hc (by simpa using hnf));clear hm hc hg hnb hnf ay;have UP : ∀ {o:O (Fl × Fr)} {e:Ending} {w':World},aj w1 L d gF ob.toList (gB ob) o e w'→aj w L d ov ob.toList (gB ob) o e w':=fun hh=>aj.after (aj.then lh.out gK.out hh) aC.out
  have j6:=zh (fun(o:O (Fl × Fr)) (e:Ending) (w':World) (hh:aj w1 L d gF ob.toList (gB ob) o e w')=>UP hh);clear UP;have b0:=dm.out.cell 0 _ rfl;have b4:=dm.out.cell 4 _ rfl;go_wp2_with fail;have fM:=zh (hE dE.out HQ.out fo.out mD.out iM.out (fun hs=>cZ.out (by rw [HT1.out,hs];rfl)));cases hr : (fns L.M g).e d q fr v s1 with
  | stuck=>exact absurd (by rw [HT1.out,hr];rfl) cZ.out
  | stop way s2=>
   rw [hr] at fM;have HT:=zh (show tgt = .stop way s2 by rw [HT1.out,hr];rfl);clear hr;refine fM.out.mono ?_;rintro e w2 ⟨bT,hm,hc,⟨older,hol,rfl⟩,d',hg⟩;have bC:=zh hm;have aD:=zh hc;have HG2:=zh hg;clear hm hc hg;go_wp2_with fail;refine⟨rfl,?_⟩;rw [HT.out];exact j6.out _ _ _ (aj.ended bC.out aD.out HG2.out (ae.refl _ _) ⟨older,hol,rfl⟩)
  | ok z s2=>
   rw [hr] at fM;have HT2:=zh (show tgt=if s2.out.length=200 then .stop 6 s2 else .ok (.go,fr) { s2 with out:=s2.out ++ [z] } by rw [HT1.out,hr];rfl);clear hr;refine fM.out.mono ?_;rintro e w2 ⟨bT,hm,hc,rfl,hg⟩;have hnb:=dE.out.gT dm.out (by decide) (by decide);have qc:=zh (dm.out.kept hc (by simpa using hnb));have jE:=zh (fo.out.kept hc (by simpa using fo.out.iK dE.out));have bC:=zh hm;have aD:=zh hc;have HG2:=zh hg;have hnf:=dE.out.dz;have r3:=hg.run.cell 3 _ rfl;obtain⟨oa,oc,rfl⟩:=gq hg.out;have hlt:=hg.few;by_cases hfull : s2.out.length=200
   ·have HT:=zh (show tgt = .stop 6 s2 by rw [HT2.out,if_pos hfull])
    have HS:=zh (fun w=>Az 6 w);have hf2 : ((s2.out.length:Int) == 200)=true:=by rw [hfull];rfl
    clear hm hc hg hnb hnf hfull;go_wp2_with fail;refine(HS.out w2).mono ?_;rintro _ _ ⟨⟨older,hol,rfl⟩,hw⟩;have hw:=hw.symm;subst hw;go_wp2_with fail;refine⟨rfl,?_⟩;rw [HT.out];exact j6.out _ _ _ (aj.ended bC.out aD.out HG2.out (ae.refl _ _) ⟨older,hol,rfl⟩)
   ·have HT:=zh (show tgt = .ok (.go,fr) { s2 with out:=s2.out ++ [z] } by rw [HT2.out,if_neg hfull])
    have hf2 : ((s2.out.length:Int) == 200)=false:=by simp;omega
    have rX:=zh (cK hg.out ((ae.refl [] w2).alloc (.cells #[num z] bN)) (by simp));have hbr:=hg.run.lt;have hnr:=Ki hg;have mh:=zh hfull;clear hm hc hg hnb hnf hfull;go_wp2_with (at_builtin;go_must (refine pO rfl _ _ 41 rfl bN _ 1 8 AZ Tryz.underlying41 rfl (by decide) _ s2.out.length (ints s2.out) rfl rX.out ⟨w2.heap.size,0,none⟩ 1 1 [num z] rfl rfl (Aj _ _ _) (by simp [Value.oneCell']) ?_ ?_ ?_))
    ·omega
    ·unfold maxLen;omega
    ·intro v' w' hown' hch' cz
     have aO:ae [] w2 (w2.alloc (.cells #[num z] bN)):=(ae.refl [] w2).alloc _;have iV:=zh hown';have iP:=zh cz;have GH:ae (blk (.slice oa s2.out.length oc)) w2 w':=aO.weak.then hch'
     have qI:=zh GH;have hrun:=HG2.out.run.kept GH hnr;have aay:=zh hrun;have f3:=hrun.frozen 3;have r3':=hrun.cell 3 _ rfl;obtain⟨va,vc,rfl⟩:=gq hown';have hs2:=GH.size;clear hown' hch' cz GH aO hrun r3;go_wp2_with fail;refine bodyPost_end (results_none rfl _ _ _) rfl ?_;rw [HT.out];have hsc:ae [L.br] w' (w'.setCell ⟨L.br,3,none⟩ (.slice va (s2.out.length + 1) vc)):=ae.set1 _ _ _ _;have hrs:=aay.out.set 3 (.slice va (s2.out.length + 1) vc);have tY:From (L.br + 1) (.slice va (s2.out.length + 1) vc):=fun y hy=>by
      rcases iP.out y hy with hh|hh
      ·exact HG2.out.from_ y hh
      ·simp at hh;omega
     have QV:ae (L.br :: blk (.slice oa s2.out.length oc)) w2 (w'.setCell ⟨L.br,3,none⟩ (.slice va (s2.out.length + 1) vc)):=(qI.out.mono (fun x hx=>.inl (List.mem_cons_of_mem _ hx))).then (hsc.mono (fun x hx=>.inl (by simp at hx;subst hx;exact List.mem_cons_self)))
     have hown3:=cK iV.out hsc (fun y hy hm=>by have:=tY y hy;simp at hm;omega);have hg3:Going (w'.setCell ⟨L.br,3,none⟩ (.slice va (s2.out.length + 1) vc)) L d { s2 with out:=s2.out ++ [z] } (.slice va (s2.out.length + 1) vc):=HG2.out.told QV (by simpa using hrs) (by rw [List.length_append,ints,List.map_append];exact hown3) tY (by have:=mh.out;simp;omega);refine j6.out _ _ _ ⟨_,bC.out.trans aD.out (fun y hy=>?_),?_,⟨(jE.out.kept qI.out (fun b hb hm=>jE.out.iK HG2.out b hb (List.mem_cons_of_mem _ (List.mem_append_left _ hm)))).kept hsc (fun b hb hm=>by
      simp at hm
      subst hm;exact jE.out.iK HG2.out _ hb List.mem_cons_self),rfl⟩,hg3⟩
     ·rcases iP.out y hy with hh|hh
      ·exact .inl hh
      ·exact .inr (by simp at hh;omega)
     ·refine((aD.out.mono (fun x hx=>.inl (List.mem_append_right _ (by simpa using hx)))).trans QV (fun x hx=>?_))
      have hx2 : x∈aJ L (.slice oa s2.out.length oc):=by
       rcases List.mem_cons.1 hx with rfl|hx
       ·exact List.mem_cons_self
       ·exact List.mem_cons_of_mem _ (List.mem_append_left _ hx)
      rcases F5 (by simpa using aD.out) bC.out x hx2 with hh|hh
      ·exact .inl (List.mem_append_right _ hh)
      ·exact .inr hh
theorem aaz (g:Nat) (hE:ji g) (hB:uP g) {L:Lay} {d:Nat} {q:Nm} {fr:Fr} {p:Nat} {s:St} {w:World} {ov:Value} {ob:Option Nat} {m:Mod} {v:E} {uv:Value} {t e:S} {a1 a2:Option Addr} {c1 c2:Nat} (tgt:O (Fl × Fr)) (h:Going w L d s ov) (hq:L.M q=some m) (hfr:eG w ob fr) (hfx : ∀ b,ob=some b→¬ L.Fix b) (hvl:aY w L.Fix v [uv]) (hfe:bK v) (htl:fQ w L.Fix t (.slice a1 t.len c1)) (hel:fQ w L.Fix e (.slice a2 e.len c2)) (DF:bZ t∧t.len≤1000) (hef:bZ e∧e.len≤1000) (ht : tgt=(tick s).bind fun _ s=>((fns L.M g).e d q fr v s).bind fun n s=>if n=0 then (fns L.M g).b d q fr e s else (fns L.M g).b d q fr t s) (hne : tgt ≠ .stuck) :
  Calls Tryz.prog 82 #[ptr L.br,ptr (L.pb q),.map ob,.agg #[num 2,num p,str [],aI,uv,.slice a1 t.len c1,.slice a2 e.len c2]] w (aj w L d ov ob.toList (gB ob) tgt):=by
 obtain⟨wA,ay⟩ : ∃ x,w.alloc (.cells #[num 2,num p,str [],aI,uv,.slice a1 t.len c1,.slice a2 e.len c2] 168)=x:=⟨_,rfl⟩
 have hc0:ae [] w wA:=by rw [← ay];exact(ae.refl _ _).alloc _
 have hbx:ag wA w.heap.size #[num 2,num p,str [],aI,uv,.slice a1 t.len c1,.slice a2 e.len c2] 168:=by rw [← ay];exact ag.new w _ _
 have jM:=zh hbx;have aC:=zh hc0;have eY:=zh (h.kept hc0);have jD:=zh (hfr.kept hc0 (by simp));have kZ:=zh hfx;have HQ:=zh hq;have cZ:=zh hne;have gV:=zh ht;have HST:=zh (yV eY.out);have iQ:=zh (hvl.kept hc0 (by simp));have iM:=zh hfe;have KI:=zh (htl.kept hc0 (by simp));have HEA:=zh (hel.kept hc0 (by simp));have yN:=zh DF;have QW:=zh hef;clear h hbx hc0 hfr hq hne ht hfx hvl hfe htl hel DF hef
 go_enter Tryz.func82,Tryz.ntmps82
 go_wp2_with fail;cases htk : tick s with
 | stuck=>exact absurd (by rw [gV.out,htk];rfl) cZ.out
 | stop way s1=>
  rw [htk] at HST;have HT:=zh (show tgt = .stop way s1 by rw [gV.out,htk];rfl);clear htk;refine HST.out.mono ?_;rintro e w2 ⟨bT,hm,hc,⟨older,hol,rfl⟩,d',hg⟩;have bC:=zh hm;have aD:=zh hc;have HG2:=zh hg;clear hm hc hg;go_wp2_with fail;refine⟨rfl,?_⟩;rw [HT.out];exact aj.after (aj.ended bC.out aD.out HG2.out (ae.refl _ _) ⟨older,hol,rfl⟩) aC.out
 | ok _ s1=>
  rw [htk] at HST;have HT1:=zh (show tgt=((fns L.M g).e d q fr v s1).bind fun n s=>if n=0 then (fns L.M g).b d q fr e s else (fns L.M g).b d q fr t s by rw [gV.out,htk];rfl);clear htk;refine HST.out.mono ?_;rintro e w1 ⟨gF,hm,hc,rfl,hg⟩;have hnb:=eY.out.gT jM.out (by decide) (by decide);have dm:=zh (jM.out.kept hc (by simpa using hnb));have fo:=zh (jD.out.kept hc (by simpa using jD.out.iK eY.out));have lh:=zh hm;have gK:=zh hc;have dE:=zh hg;have hnf:=eY.out.dz;have mD:=zh (iQ.out.kept hc (by simpa using hnf));have KJ:=zh (KI.out.kept hc (by simpa using hnf));have aaB:=zh (HEA.out.kept hc (by simpa using hnf));clear hm hc hg hnb hnf ay;have UP : ∀ {o:O (Fl × Fr)} {e:Ending} {w':World},aj w1 L d gF ob.toList (gB ob) o e w'→aj w L d ov ob.toList (gB ob) o e w':=fun hh=>aj.after (aj.then lh.out gK.out hh) aC.out
  have j6:=zh (fun(o:O (Fl × Fr)) (e:Ending) (w':World) (hh:aj w1 L d gF ob.toList (gB ob) o e w')=>UP hh);clear UP;have b0:=dm.out.cell 0 _ rfl;have b4:=dm.out.cell 4 _ rfl;go_wp2_with fail;have fM:=zh (hE dE.out HQ.out fo.out mD.out iM.out (fun hs=>cZ.out (by rw [HT1.out,hs];rfl)));cases hr : (fns L.M g).e d q fr v s1 with
  | stuck=>exact absurd (by rw [HT1.out,hr];rfl) cZ.out
  | stop way s2=>
   rw [hr] at fM;have HT:=zh (show tgt = .stop way s2 by rw [HT1.out,hr];rfl);clear hr;refine fM.out.mono ?_;rintro e w2 ⟨bT,hm,hc,⟨older,hol,rfl⟩,d',hg⟩;have bC:=zh hm;have aD:=zh hc;have HG2:=zh hg;clear hm hc hg;go_wp2_with fail;refine⟨rfl,?_⟩;rw [HT.out];exact j6.out _ _ _ (aj.ended bC.out aD.out HG2.out (ae.refl _ _) ⟨older,hol,rfl⟩)
  | ok z s2=>
   rw [hr] at fM;have HT2:=zh (show tgt=if z=0 then (fns L.M g).b d q fr e s2 else (fns L.M g).b d q fr t s2 by rw [HT1.out,hr];rfl);clear hr;refine fM.out.mono ?_;rintro e w2 ⟨bT,hm,hc,rfl,hg⟩;have hnb:=dE.out.gT dm.out (by decide) (by decide);have qc:=zh (dm.out.kept hc (by simpa using hnb));have jE:=zh (fo.out.kept hc (by simpa using fo.out.iK dE.out));have bC:=zh hm;have aD:=zh hc;have HG2:=zh hg;have hnf:=dE.out.dz;have b5:=qc.out.cell 5 _ rfl;have b6:=qc.out.cell 6 _ rfl;have KL:=zh (KJ.out.kept hc (by simpa using hnf));have aaC:=zh (aaB.out.kept hc (by simpa using hnf));cases hz : (z != 0) with
   | true=>
    have hz0 : z≠0:=by simpa using hz
    have HT:=zh (show tgt=(fns L.M g).b d q fr t s2 by rw [HT2.out,if_neg hz0]);clear hz0;have qf:=zh (hB HG2.out HQ.out jE.out kZ.out KL.out yN.out.1 yN.out.2 (fun hs=>cZ.out (by rw [HT.out,hs])));clear hm hc hg hnb hnf;go_wp2_with fail;refine qf.out.mono ?_;intro e w3 he;rw [← HT.out] at he;have jl:=j6.out _ _ _ (aj.then bC.out (by simpa using aD.out) he);have aR:=zh jl;obtain⟨_,_,_,hres⟩:=jl;clear he;cases tgt with
    | stuck=>exact absurd rfl cZ.out
    | stop way s9=>
     obtain⟨⟨older,hol,rfl⟩,_⟩:=hres;clear hol;go_wp2_with fail;exact⟨rfl,aR.out⟩
    | ok x s9=>
     obtain⟨⟨_,hfl⟩,_⟩:=hres;obtain⟨fl,QX⟩:=x;cases fl with
     | go=>
      simp only at hfl;subst hfl;go_wp2_with fail;refine bodyPost_end (results_none rfl _ _ _) rfl ?_;exact aR.out
     | ret n9=>
      simp only at hfl;subst hfl;go_wp2_with fail;exact⟨rfl,aR.out⟩
   | false=>
    have hz0 : z=0:=by simpa using hz
    have HT:=zh (show tgt=(fns L.M g).b d q fr e s2 by rw [HT2.out,if_pos hz0]);clear hz0;have qf:=zh (hB HG2.out HQ.out jE.out kZ.out aaC.out QW.out.1 QW.out.2 (fun hs=>cZ.out (by rw [HT.out,hs])));clear hm hc hg hnb hnf;go_wp2_with fail;refine qf.out.mono ?_;intro e w3 he;rw [← HT.out] at he;have jl:=j6.out _ _ _ (aj.then bC.out (by simpa using aD.out) he);have aR:=zh jl;obtain⟨_,_,_,hres⟩:=jl;clear he;cases tgt with
    | stuck=>exact absurd rfl cZ.out
    | stop way s9=>
     obtain⟨⟨older,hol,rfl⟩,_⟩:=hres;clear hol;go_wp2_with fail;exact⟨rfl,aR.out⟩
    | ok x s9=>
     obtain⟨⟨_,hfl⟩,_⟩:=hres;obtain⟨fl,QX⟩:=x;cases fl with
     | go=>
      simp only at hfl;subst hfl;go_wp2_with fail;refine bodyPost_end (results_none rfl _ _ _) rfl ?_;exact aR.out
     | ret n9=>
      simp only at hfl;subst hfl;go_wp2_with fail;exact⟨rfl,aR.out⟩
theorem aaD (g:Nat) (hE:ji g) {L:Lay} {d:Nat} {q:Nm} {fr:Fr} {p:Nat} {s:St} {w:World} {ov:Value} {ob:Option Nat} {m:Mod} {n:Nm} {i:Option E} {v:E} {ui uv:Value} (tgt:O (Fl × Fr)) (h:Going w L d s ov) (hq:L.M q=some m) (hfr:eG w ob fr) (hfx : ∀ b,ob=some b→¬ L.Fix b) (hil:oF w L.Fix i ui) (hif : ∀ x,i=some x→bK x) (hvl:aY w L.Fix v [uv]) (hfe:bK v) (ht : tgt=(tick s).bind fun _ s=>(GI (fns L.M g) d q fr i s).bind fun k s=>setTail (fns L.M g) d q fr n v k s) (hne : tgt ≠ .stuck) :
  Calls Tryz.prog 82 #[ptr L.br,ptr (L.pb q),.map ob,.agg #[num 1,num p,str n,ui,uv,ah,ah]] w (aj w L d ov ob.toList (gB ob) tgt):=by
 obtain⟨wA,ay⟩ : ∃ x,w.alloc (.cells #[num 1,num p,str n,ui,uv,ah,ah] 168)=x:=⟨_,rfl⟩
 have hc0:ae [] w wA:=by rw [← ay];exact(ae.refl _ _).alloc _
 have hbx:ag wA w.heap.size #[num 1,num p,str n,ui,uv,ah,ah] 168:=by rw [← ay];exact ag.new w _ _
 have jM:=zh hbx;have aC:=zh hc0;have eY:=zh (h.kept hc0);have jD:=zh (hfr.kept hc0 (by simp));have kZ:=zh hfx;have HQ:=zh hq;have cZ:=zh hne;have gV:=zh ht;have HST:=zh (yV eY.out);have iQ:=zh (hvl.kept hc0 (by simp));have iM:=zh hfe;have HIA:=zh (hil.kept hc0 (by simp));have HIF:=zh hif;clear h hbx hc0 hfr hq hne ht hfx hvl hfe hil hif
 go_enter Tryz.func82,Tryz.ntmps82
 go_wp2_with fail;cases htk : tick s with
 | stuck=>exact absurd (by rw [gV.out,htk];rfl) cZ.out
 | stop way s1=>
  rw [htk] at HST;have HT:=zh (show tgt = .stop way s1 by rw [gV.out,htk];rfl);clear htk;refine HST.out.mono ?_;rintro e w2 ⟨bT,hm,hc,⟨older,hol,rfl⟩,d',hg⟩;have bC:=zh hm;have aD:=zh hc;have HG2:=zh hg;clear hm hc hg;go_wp2_with fail;refine⟨rfl,?_⟩;rw [HT.out];exact aj.after (aj.ended bC.out aD.out HG2.out (ae.refl _ _) ⟨older,hol,rfl⟩) aC.out
 | ok _ s1=>
  rw [htk] at HST;have HT1:=zh (show tgt=(GI (fns L.M g) d q fr i s1).bind fun k s=>setTail (fns L.M g) d q fr n v k s by rw [gV.out,htk];rfl);clear htk;refine HST.out.mono ?_;rintro e w1 ⟨gF,hm,hc,rfl,hg⟩;have hnb:=eY.out.gT jM.out (by decide) (by decide);have dm:=zh (jM.out.kept hc (by simpa using hnb));have fo:=zh (jD.out.kept hc (by simpa using jD.out.iK eY.out));have lh:=zh hm;have gK:=zh hc;have dE:=zh hg;have hnf:=eY.out.dz;have mD:=zh (iQ.out.kept hc (by simpa using hnf));have HI1:=zh (HIA.out.kept hc (by simpa using hnf));clear hm hc hg hnb hnf ay;have UP : ∀ {o:O (Fl × Fr)} {e:Ending} {w':World},aj w1 L d gF ob.toList (gB ob) o e w'→aj w L d ov ob.toList (gB ob) o e w':=fun hh=>aj.after (aj.then lh.out gK.out hh) aC.out
  have j6:=zh (fun(o:O (Fl × Fr)) (e:Ending) (w':World) (hh:aj w1 L d gF ob.toList (gB ob) o e w')=>UP hh);clear UP;have b0:=dm.out.cell 0 _ rfl;have b1:=dm.out.cell 1 _ rfl;have b2:=dm.out.cell 2 _ rfl;have b3:=dm.out.cell 3 _ rfl;have b4:=dm.out.cell 4 _ rfl;have b5:=dm.out.cell 5 _ rfl;have b6:=dm.out.cell 6 _ rfl;go_wp2_with fail;have hset:Calls Tryz.prog 116 #[ptr L.br,ptr (L.pb q),.map ob,.agg #[num 1,num p,str n,ui,uv,ah,ah]] w1 (aj w1 L d gF ob.toList (gB ob) tgt):=by
   have hi:=HI1.out;cases i with
   | none=>
    rw [show ui=aI from hi];exact aau g hE tgt dE.out HQ.out fo.out kZ.out mD.out iM.out HT1.out cZ.out
   | some i=>exact aav g hE tgt dE.out HQ.out fo.out kZ.out hi (HIF.out i rfl) mD.out iM.out HT1.out cZ.out
  refine hset.mono ?_;intro e w3 he;have jl:=j6.out _ _ _ he;have aR:=zh jl;obtain⟨_,_,_,hres⟩:=jl;clear he hset;cases tgt with
  | stuck=>exact absurd rfl cZ.out
  | stop way s9=>
   obtain⟨⟨older,hol,rfl⟩,_⟩:=hres;clear hol;go_wp2_with fail;exact⟨rfl,aR.out⟩
  | ok x s9=>
   obtain⟨⟨_,hfl⟩,_⟩:=hres;obtain⟨fl,QX⟩:=x;cases fl with
   | go=>
    simp only at hfl;subst hfl;go_wp2_with fail;refine bodyPost_end (results_none rfl _ _ _) rfl ?_;exact aR.out
   | ret n9=>
    simp only at hfl;subst hfl;go_wp2_with fail;exact⟨rfl,aR.out⟩
end Go.Proofs.YtechofppmnnomaaGreatDoor
namespace Go.Mq.Run
open Go Go.RowKit Go.Mq Go.Mq.Tree
structure Ba (R:St→St→Prop):Prop where
 refl : ∀ s,R s s
 trans : ∀ {a b c},R a b→R b c→R a c
 tick : ∀ s,s.fuel≠0→R s { s with fuel:=s.fuel - 1 }
 out : ∀ s n,s.out.length≠200→R s { s with out:=s.out ++ [n] }
 put : ∀ s q n l k v,s.vs q n=some l→R s { s with vs:=oU s.vs q n (l.set k v) }
def Al {α:Type} (R:St→St→Prop) (s:St) (o:O α):Prop:=match o with
 | .ok _ s'=>R s s'
 | .stop _ s'=>R s s'
 | .stuck=>True
section
variable {R:St→St→Prop} (K:Ba R)
include K
theorem Al.bind {α β:Type} {s:St} {o:O α} {f : α→St→O β} (h:Al R s o) (k : ∀ a s',Al R s' (f a s')):Al R s (o.bind f):=by
 cases o with
 | stuck=>trivial
 | stop w s'=>exact h
 | ok a s'=>
  have h2:=k a s'
  show Al R s (f a s')
  cases hf : f a s' with
  | stuck=>trivial
  | stop w s2=>rw [hf] at h2;exact K.trans h h2
  | ok b s2=>rw [hf] at h2;exact K.trans h h2
theorem oZ (s:St):Al R s (tick s):=by
 unfold tick
 split
 ·exact K.refl s
 ·exact K.tick s ‹_›
structure GJ (R:St→St→Prop) (F:kM):Prop where
 e : ∀ d q fr x s,Al R s (F.e d q fr x s)
 es : ∀ d q fr x s,Al R s (F.es d q fr x s)
 c : ∀ d q p a s,Al R s (F.c d q p a s)
 b : ∀ d q fr x s,Al R s (F.b d q fr x s)
 l : ∀ d q fr v t s,Al R s (F.l d q fr v t s)
theorem QY (l:Option (List Int)) (k:Int) (s:St):Al R s (ib l k s):=by
 unfold ib
 split
 ·exact K.refl s
 ·split <;> exact K.refl s
theorem KM (l:Option (List Int)) (s:St):Al R s (fV l s):=by
 unfold fV
 split
 ·exact K.refl s
 ·trivial
theorem KN (q:Nm) (fr:Fr) (n:Nm) (k v:Int) (s:St):Al R s (ic q fr n k v s):=by
 unfold ic
 split
 ·exact K.refl s
 ·split
  ·exact K.refl s
  ·split
   ·exact K.put _ _ _ _ _ _ ‹_›
   ·exact K.refl s
theorem aaG {M:Ms} {F:kM} (h:GJ R F):GJ R ⟨kg M F,qV F,lq F,mY F,uX F⟩ where
 e d q fr x s:=by
  show Al R s (kg M F d q fr x s)
  cases x with
  | num p n=>exact K.refl s
  | var p m n=>
   show Al R s (if m=[] then match dN fr n with
    | some v=>O.ok v s
    | none=>fV (s.vs q n) s
   else fV (s.vs m n) s)
   split
   ·split
    ·exact K.refl s
    ·exact KM K _ _
   ·exact KM K _ _
  | item p m n i=>
   show Al R s (if (M (bV q m)).isSome then _ else _)
   split
   ·exact Al.bind K (h.e _ _ _ _ _) fun k s'=>QY K _ _ _
   ·trivial
  | un p op x=>exact Al.bind K (h.e _ _ _ _ _) fun _ s'=>K.refl s'
  | bin p op x y=>
   refine Al.bind K (h.e _ _ _ _ _) fun a s'=>?_
   split
   ·split
    ·exact K.refl s'
    ·exact Al.bind K (h.e _ _ _ _ _) fun _ s'=>K.refl s'
   ·refine Al.bind K (h.e _ _ _ _ _) fun b s'=>?_
    split
    ·exact K.refl s'
    ·exact K.refl s'
  | app p m n l=>
   show Al R s (match M (bV q m) with
    | none=>.stuck
    | some mo=>match mo.procs.find? fun p=>p.name == n with
     | none=>.stuck
     | some p=>(F.es d q fr l s).bind fun args s=>F.c d (bV q m) p args s)
   split
   ·trivial
   ·split
    ·trivial
    ·exact Al.bind K (h.es _ _ _ _ _) fun a s'=>h.c _ _ _ _ _
  | nil=>trivial
  | cons x r=>trivial
 es d q fr x s:=by
  show Al R s (qV F d q fr x s)
  cases x with
  | nil=>exact K.refl s
  | cons x r=>exact Al.bind K (h.e _ _ _ _ _) fun n s'=>Al.bind K (h.es _ _ _ _ _) fun _ s'=>K.refl s'
  | _=>trivial
 c d q p a s:=by
  show Al R s (lq F d q p a s)
  unfold lq
  split
  ·exact K.refl s
  ·split
   ·trivial
   ·exact Al.bind K (h.b _ _ _ _ _) fun _ s'=>K.refl s'
 b d q fr x s:=by
  show Al R s (mY F d q fr x s)
  unfold mY
  split
  ·exact K.refl s
  ·refine Al.bind K ?_ fun x s'=>?_
   ·cases x with
    | nil=>trivial
    | set p n i v r=>
     refine Al.bind K (oZ K _) fun _ s'=>Al.bind K ?_ fun k s'=>Al.bind K (h.e _ _ _ _ _) fun v s'=>KN K _ _ _ _ _ _
     cases i with
     | none=>exact K.refl s'
     | some i=>exact h.e _ _ _ _ _
    | ifs p v t e r=>
     refine Al.bind K (oZ K _) fun _ s'=>Al.bind K (h.e _ _ _ _ _) fun n s'=>?_
     split
     ·exact h.b _ _ _ _ _
     ·exact h.b _ _ _ _ _
    | dB p v t r=>exact Al.bind K (oZ K _) fun _ s'=>h.l _ _ _ _ _ _
    | ret p v r=>exact Al.bind K (oZ K _) fun _ s'=>Al.bind K (h.e _ _ _ _ _) fun _ s'=>K.refl s'
    | dD p v r=>
     refine Al.bind K (oZ K _) fun _ s'=>Al.bind K (h.e _ _ _ _ _) fun n s'=>?_
     split
     ·exact K.refl s'
     ·exact K.out _ _ ‹_›
    | call p v r=>exact Al.bind K (oZ K _) fun _ s'=>Al.bind K (h.e _ _ _ _ _) fun _ s'=>K.refl s'
   ·split
    ·exact h.b _ _ _ _ _
    ·exact K.refl s'
 l d q fr v t s:=by
  show Al R s (uX F d q fr v t s)
  refine Al.bind K (h.e _ _ _ _ _) fun n s'=>?_
  split
  ·exact K.refl s'
  ·refine Al.bind K (h.b _ _ _ _ _) fun x s'=>?_
   split
   ·exact Al.bind K (oZ K _) fun _ s'=>h.l _ _ _ _ _ _
   ·exact K.refl s'
theorem along (M:Ms) : ∀ g,GJ R (fns M g)
 | 0=>⟨fun _ _ _ _ _=>trivial,fun _ _ _ _ _=>trivial,fun _ _ _ _ _=>trivial,fun _ _ _ _ _=>trivial,fun _ _ _ _ _ _=>trivial⟩
 | g + 1=>aaG K (along M g)
end
theorem zl:Ba fun s s'=>s'.fuel≤s.fuel:=⟨fun _=>Nat.le_refl _,fun h k=>Nat.le_trans k h,fun _ _=>Nat.sub_le _ _,fun _ _ _=>Nat.le_refl _,fun _ _ _ _ _ _ _=>Nat.le_refl _⟩
theorem DI:Ba fun s s'=>s.out <+: s'.out:=⟨fun _=>List.prefix_rfl,fun h k=>List.IsPrefix.trans h k,fun _ _=>List.prefix_rfl,fun _ _ _=>List.prefix_append _ _,fun _ _ _ _ _ _ _=>List.prefix_rfl⟩
theorem zm:Ba fun s s'=>∀ q n,(s'.vs q n).map List.length=(s.vs q n).map List.length:=⟨fun _ _ _=>rfl,fun h k q n=>(k q n).trans (h q n),fun _ _ _ _=>rfl,fun _ _ _ _ _=>rfl,fun s q n l k v hl q' n'=>by
 simp only [oU];split
 ·next hh=>obtain⟨rfl,rfl⟩:=hh;rw [hl];simp
 ·rfl⟩
end Go.Mq.Run
namespace Go.Mq.Run
open Go Go.RowKit Go.Mq Go.Mq.Tree
def KO (w:World) (b:Nat):Nat:=match w.cell? ⟨b,1,none⟩ with
 | some (.int _ n)=>n.toNat
 | _=>0
theorem Going.fuel {w:World} {L:Lay} {d:Nat} {s:St} {ov:Value} (h:Going w L d s ov) : KO w L.br=s.fuel:=by
 have:=h.run.cell 1 _ rfl;rw [KO,this];simp
theorem tZ {L:Lay} {X:List Nat} {w1 wr w2:World} {gF aP bT:Value} (hm:dS w1 gF aP) (hc:ae (X ++ aJ L gF) w1 wr) (hm2:dS wr aP bT) (hc2:ae (X ++ aJ L aP) wr w2):dS w1 gF bT∧ae (X ++ aJ L gF) w1 w2:=by
 refine⟨hm.trans hc hm2,hc.trans hc2 (fun x hx=>?_)⟩;rcases List.mem_append.1 hx with hx|hx
 ·exact .inl (List.mem_append_left _ hx)
 ·rcases List.mem_cons.1 hx with rfl|hx
  ·exact .inl (List.mem_append_right _ List.mem_cons_self)
  ·rcases List.mem_append.1 hx with hx|hx
   ·rcases hm x hx with h|h
    ·exact .inl (List.mem_append_right _ (List.mem_cons_of_mem _ (List.mem_append_left _ h)))
    ·exact .inr h
   ·exact .inl (List.mem_append_right _ (List.mem_cons_of_mem _ (List.mem_append_right _ hx)))
theorem GK {Z X:List Nat} {a b:World} (h:ae Z a b):ae (X ++ Z) a b:=h.mono fun x hx=>.inl (List.mem_append_right _ hx)
theorem aaH {M:Ms} {g d:Nat} {q:Nm} {fr:Fr} {v:E} {t:S} {s:St} {o:O (Fl × Fr)} (h : o=(fns M g).l d q fr v t s) (ho : o ≠ .stuck) :
  ∃ g',g=g' + 1∧o=((fns M g').e d q fr v s).bind fun n s=>if n=0 then .ok (.go,fr) s else ((fns M g').b d q fr t s).bind fun x s=>match x.1 with
   | .go=>(tick s).bind fun _ s=>(fns M g').l d q x.2 v t s
   | .ret n=>.ok (.ret n,x.2) s:=by
 cases g with
 | zero=>exact absurd h ho
 | succ g'=>exact⟨g',rfl,h⟩
theorem aaI {s s2:St} {u:Unit} (h : tick s = .ok u s2) : s2.fuel < s.fuel:=by
 unfold tick at h
 split at h
 ·cases h
 ·cases h
  simp only;omega
end Go.Mq.Run
namespace Go.Proofs.YtechofppmnnomaaGreatDoor
open Go Go.RowKit Go.Mq Go.Mq.Tree Go.Mq.Run
open Go.Mq.Check (fG bZ bK dx)
set_option maxRecDepth 100000
set_option maxHeartbeats 4000000
theorem aaJ (g:Nat) (hE : ∀ g',g'≤g→ji g') (hB : ∀ g',g'≤g→uP g') {L:Lay} {d:Nat} {q:Nm} {fr:Fr} {p:Nat} {s:St} {w:World} {ov:Value} {ob:Option Nat} {m:Mod} {v:E} {uv:Value} {t:S} {a1:Option Addr} {c1:Nat} (tgt:O (Fl × Fr)) (h:Going w L d s ov) (hq:L.M q=some m) (hfr:eG w ob fr) (hfx : ∀ b,ob=some b→¬ L.Fix b) (hvl:aY w L.Fix v [uv]) (hfe:bK v) (htl:fQ w L.Fix t (.slice a1 t.len c1)) (DF:bZ t∧t.len≤1000) (ht : tgt=(tick s).bind fun _ s=>(fns L.M g).l d q fr v t s) (hne : tgt ≠ .stuck) :
  Calls Tryz.prog 82 #[ptr L.br,ptr (L.pb q),.map ob,.agg #[num 3,num p,str [],aI,uv,.slice a1 t.len c1,ah]] w (aj w L d ov ob.toList (gB ob) tgt):=by
 obtain⟨wA,ay⟩ : ∃ x,w.alloc (.cells #[num 3,num p,str [],aI,uv,.slice a1 t.len c1,ah] 168)=x:=⟨_,rfl⟩
 have hc0:ae [] w wA:=by rw [← ay];exact(ae.refl _ _).alloc _
 have hbx:ag wA w.heap.size #[num 3,num p,str [],aI,uv,.slice a1 t.len c1,ah] 168:=by rw [← ay];exact ag.new w _ _
 have jM:=zh hbx;have aC:=zh hc0;have eY:=zh (h.kept hc0);have jD:=zh (hfr.kept hc0 (by simp));have kZ:=zh hfx;have HQ:=zh hq;have cZ:=zh hne;have gV:=zh ht;have HST:=zh (yV eY.out);have iQ:=zh (hvl.kept hc0 (by simp));have iM:=zh hfe;have KI:=zh (htl.kept hc0 (by simp));have yN:=zh DF;clear h hbx hc0 hfr hq hne ht hfx hvl hfe htl DF
 go_enter Tryz.func82,Tryz.ntmps82
 go_wp2_with fail;cases htk : tick s with
 | stuck=>exact absurd (by rw [gV.out,htk];rfl) cZ.out
 | stop way s1=>
  rw [htk] at HST;have HT:=zh (show tgt = .stop way s1 by rw [gV.out,htk];rfl);clear htk;refine HST.out.mono ?_;rintro e w2 ⟨bT,hm,hc,⟨older,hol,rfl⟩,d',hg⟩;have bC:=zh hm;have aD:=zh hc;have HG2:=zh hg;clear hm hc hg;go_wp2_with fail;refine⟨rfl,?_⟩;rw [HT.out];exact aj.after (aj.ended bC.out aD.out HG2.out (ae.refl _ _) ⟨older,hol,rfl⟩) aC.out
 | ok _ s1=>
  rw [htk] at HST;have HT1:=zh (show tgt=(fns L.M g).l d q fr v t s1 by rw [gV.out,htk];rfl);clear htk;refine HST.out.mono ?_;rintro e w1 ⟨gF,hm,hc,rfl,hg⟩;have hnb:=eY.out.gT jM.out (by decide) (by decide);have dm:=zh (jM.out.kept hc (by simpa using hnb));have fo:=zh (jD.out.kept hc (by simpa using jD.out.iK eY.out));have lh:=zh hm;have gK:=zh hc;have dE:=zh hg;have hnf:=eY.out.dz;have mD:=zh (iQ.out.kept hc (by simpa using hnf));have KJ:=zh (KI.out.kept hc (by simpa using hnf));clear hm hc hg hnb hnf ay;have UP : ∀ {o:O (Fl × Fr)} {e:Ending} {w':World},aj w1 L d gF ob.toList (gB ob) o e w'→aj w L d ov ob.toList (gB ob) o e w':=fun hh=>aj.after (aj.then lh.out gK.out hh) aC.out
  have j6:=zh (fun(o:O (Fl × Fr)) (e:Ending) (w':World) (hh:aj w1 L d gF ob.toList (gB ob) o e w')=>UP hh);clear UP;have b0:=dm.out.cell 0 _ rfl;have b4:=dm.out.cell 4 _ rfl;go_wp2_with fail;clear b0 b4;have QZ:=kZ.out;have DJ : ∀ (wr:World),∀ x∈ob.toList ++ aJ L gF,¬ L.Fix x:=fun _ x hx hf=>by
   rcases List.mem_append.1 hx with hx|hx
   ·cases ob with
    | none=>cases hx
    | some bf=>simp at hx;subst hx;exact QZ _ rfl hf
   ·exact dE.out.dz x hx hf
  have qR : w.heap.size∉ob.toList ++ aJ L gF:=fun hx=>by
   rcases List.mem_append.1 hx with hx|hx
   ·cases ob with
    | none=>cases hx
    | some bf=>
     simp at hx
     subst hx;rcases fo.out with⟨h1,_⟩|⟨b',h1,⟨arr,clock,iy,_⟩⟩
     ·cases h1
     ·cases h1
      have:=dm.out
      unfold ag at this
      rw [this] at iy;cases iy
   ·exact dE.out.gT dm.out (by decide) (by decide) hx
  have eZ:=zh (DJ w1);have aaK:=zh qR;clear QZ DJ qR
  go_loopw [] (fun wr=>∃ (g':Nat) (fr':Fr) (s':St) (aP:Value),g'≤g∧tgt=(fns L.M g').l d q fr' v t s'∧Going wr L d s' aP∧eG wr ob fr'∧dS w1 gF aP∧ae (ob.toList ++ aJ L gF) w1 wr) (fun wr=>KO wr L.br)
  case atStart=>exact⟨g,fr,s1,gF,Nat.le_refl _,HT1.out,dE.out,fo.out,dS.refl _ _,ae.refl _ _⟩
  case round=>
   obtain⟨g',fr',s',aP,hgg,htl,hg,hfr,hm,hc⟩:=hrel;obtain⟨g2,rfl,ht2⟩:=aaH htl cZ.out;have HT2:=zh ht2;have HG:=zh hg;have di:=zh hfr;have HM:=zh hm;have HC:=zh hc;have KP:=dm.out.kept hc aaK.out;have Q0:=zh KP;have fK:=zh (hE g2 (by omega) hg HQ.out hfr (mD.out.kept hc eZ.out) iM.out (fun hs=>cZ.out (by rw [ht2,hs];rfl)));have HTR:=zh (KJ.out.kept hc eZ.out);have b4:=KP.cell 4 _ rfl;clear htl ht2 hg hfr hm hc KP;cases hr : (fns L.M g2).e d q fr' v s' with
   | stuck=>exact absurd (by rw [HT2.out,hr];rfl) cZ.out
   | stop way s2=>
    rw [hr] at fK;have HT:=zh (show tgt = .stop way s2 by rw [HT2.out,hr];rfl);clear hr;go_wp2_with fail;refine fK.out.mono ?_;rintro e w2 ⟨bT,hm,hc,⟨older,hol,rfl⟩,d',hg⟩;obtain⟨hm2,hc2⟩:=tZ HM.out HC.out hm (GK (X:=ob.toList) (by simpa using hc));have bC:=zh hm2;have aD:=zh hc2;have HG2:=zh hg;clear hm hc hg hm2 hc2;go_wp2_with fail;refine⟨rfl,?_⟩;rw [HT.out];exact j6.out _ _ _ ⟨bT,bC.out,aD.out,⟨older,hol,rfl⟩,d',HG2.out⟩
   | ok z s2=>
    rw [hr] at fK;have HT3:=zh (show tgt=(if z=0 then .ok (.go,fr') s2 else ((fns L.M g2).b d q fr' t s2).bind fun x s=>match x.1 with
     | .go=>(tick s).bind fun _ s=>(fns L.M g2).l d q x.2 v t s
     | .ret n=>.ok (.ret n,x.2) s) by rw [HT2.out,hr];rfl)
    have hf2 : s2.fuel≤s'.fuel:=by have:=(along zl L.M g2).e d q fr' v s';rw [hr] at this;exact this
    have DK:=zh hf2;clear hr hf2;go_wp2_with fail;refine fK.out.mono ?_;rintro e w2 ⟨bT,hm,hc,rfl,hg⟩;have hnb:=HG.out.gT Q0.out (by decide) (by decide);have qc:=zh (Q0.out.kept hc (by simpa using hnb));have jE:=zh (di.out.kept hc (by simpa using di.out.iK HG.out));have KL:=zh (HTR.out.kept hc (by simpa using HG.out.dz));obtain⟨hm2,hc2⟩:=tZ HM.out HC.out hm (GK (X:=ob.toList) (by simpa using hc));have bC:=zh hm2;have aD:=zh hc2;have HG2:=zh hg;have b5:=qc.out.cell 5 _ rfl;clear hm hc hg hm2 hc2 hnb b4;cases hz : (z != 0) with
    | false=>
     have hz0 : z=0:=by simpa using hz
     have HT:=zh (show tgt = .ok (.go,fr') s2 by rw [HT3.out,if_pos hz0]);clear hz0;go_wp2_with fail;refine bodyPost_end (results_none rfl _ _ _) rfl ?_;rw [HT.out];exact j6.out _ _ _ ⟨bT,bC.out,aD.out,⟨jE.out,rfl⟩,HG2.out⟩
    | true=>
     have hz0 : z≠0:=by simpa using hz
     have xq:=zh (show tgt=((fns L.M g2).b d q fr' t s2).bind fun x s=>match x.1 with
      | .go=>(tick s).bind fun _ s=>(fns L.M g2).l d q x.2 v t s
      | .ret n=>.ok (.ret n,x.2) s by rw [HT3.out,if_neg hz0])
     have jk:=zh (hB g2 (by omega) HG2.out HQ.out jE.out kZ.out KL.out yN.out.1 yN.out.2 (fun hs=>cZ.out (by rw [xq.out,hs];rfl)));clear hz0;cases hr : (fns L.M g2).b d q fr' t s2 with
     | stuck=>exact absurd (by rw [xq.out,hr];rfl) cZ.out
     | stop way s3=>
      rw [hr] at jk;have HT:=zh (show tgt = .stop way s3 by rw [xq.out,hr];rfl);clear hr;go_wp2_with fail;refine jk.out.mono ?_;rintro e w3 ⟨GL,hm,hc,⟨older,hol,rfl⟩,d',hg⟩;obtain⟨kK,hc3⟩:=tZ bC.out aD.out hm hc;have nT:=zh kK;have bz:=zh hc3;have DL:=zh hg;clear hm hc hg kK hc3;go_wp2_with fail;refine⟨rfl,?_⟩;rw [HT.out];exact j6.out _ _ _ ⟨GL,nT.out,bz.out,⟨older,hol,rfl⟩,d',DL.out⟩
     | ok x s3=>
      obtain⟨fl,xu⟩:=x;rw [hr] at jk;have hf3 : s3.fuel≤s2.fuel:=by have:=(along zl L.M g2).b d q fr' t s2;rw [hr] at this;exact this
      have pY:=zh hf3;clear hf3;cases fl with
      | ret n9=>
       have HT:=zh (show tgt = .ok (.ret n9,xu) s3 by rw [xq.out,hr];rfl);clear hr;go_wp2_with fail;refine jk.out.mono ?_;rintro e w3 ⟨GL,hm,hc,⟨DN,hfl⟩,hg⟩;simp only at hfl;subst hfl;obtain⟨kK,hc3⟩:=tZ bC.out aD.out hm hc;have nT:=zh kK;have bz:=zh hc3;have DL:=zh hg;have GM:=zh DN;clear hm hc hg kK hc3 DN;go_wp2_with fail;refine⟨rfl,?_⟩;rw [HT.out];exact j6.out _ _ _ ⟨GL,nT.out,bz.out,⟨GM.out,rfl⟩,DL.out⟩
      | go=>
       have lQ:=zh (show tgt=(tick s3).bind fun _ s=>(fns L.M g2).l d q xu v t s by rw [xq.out,hr];rfl);clear hr;go_wp2_with fail;refine jk.out.mono ?_;rintro e w3 ⟨GL,hm,hc,⟨DN,hfl⟩,hg⟩;simp only at hfl;subst hfl;obtain⟨kK,hc3⟩:=tZ bC.out aD.out hm hc;have HST:=zh (yV hg);have nT:=zh kK;have bz:=zh hc3;have DL:=zh hg;have GM:=zh DN;clear hm hc hg kK hc3 DN;cases htk : tick s3 with
       | stuck=>exact absurd (by rw [lQ.out,htk];rfl) cZ.out
       | stop way s4=>
        rw [htk] at HST;have HT:=zh (show tgt = .stop way s4 by rw [lQ.out,htk];rfl);clear htk;go_wp2_with fail;refine HST.out.mono ?_;rintro e w4 ⟨uY,hm,hc,⟨older,hol,rfl⟩,d',hg⟩;obtain⟨iL,hc4⟩:=tZ nT.out bz.out hm (GK (X:=ob.toList) (by simpa using hc));have xw:=zh iL;have cu:=zh hc4;have gL:=zh hg;clear hm hc hg iL hc4;go_wp2_with fail;refine⟨rfl,?_⟩;rw [HT.out];exact j6.out _ _ _ ⟨uY,xw.out,cu.out,⟨older,hol,rfl⟩,d',gL.out⟩
       | ok _ s4=>
        rw [htk] at HST;have DR:=zh (show tgt=(fns L.M g2).l d q xu v t s4 by rw [lQ.out,htk];rfl);have HF4:=zh (aaI htk);clear htk;go_wp2_with fail;refine HST.out.mono ?_;rintro e w4 ⟨uY,hm,hc,rfl,hg⟩;obtain⟨iL,hc4⟩:=tZ nT.out bz.out hm (GK (X:=ob.toList) (by simpa using hc));have DT:=zh (GM.out.kept hc (by simpa using GM.out.iK DL.out));have xw:=zh iL;have cu:=zh hc4;have gL:=zh hg;clear hm hc hg iL hc4;go_wp2_with fail;refine⟨⟨g2,xu,s4,uY,by omega,DR.out,gL.out,DT.out,xw.out,cu.out⟩,?_⟩;rw [gL.out.fuel,HG.out.fuel];have:=DK.out;have:=pY.out;have:=HF4.out;omega
end Go.Proofs.YtechofppmnnomaaGreatDoor
namespace Go.Mq.Run
open Go Go.RowKit Go.Mq Go.Mq.Tree
theorem aaN {M:Ms} {g d:Nat} {q:Nm} {fr:Fr} {r:S} {s:St} {o:O (Fl × Fr)} (h : o=(fns M g).b d q fr r s) (ho : o ≠ .stuck) :
  ∃ g',g=g' + 1∧(r.len=0→o = .ok (.go,fr) s)∧(r.len≠0→o=andThen (fns M g') d q (rest r) (nU (fns M g') d q fr r s)):=by
 cases g with
 | zero=>exact absurd h ho
 | succ g'=>
  refine⟨g',rfl,fun h0=>?_,fun h0=>?_⟩
  ·rw [h];show (if r.len=0 then _ else _)=_;rw [if_pos h0]
  ·rw [h];show (if r.len=0 then _ else _)=_;rw [if_neg h0]
end Go.Mq.Run
namespace Go.Proofs.YtechofppmnnomaaGreatDoor
open Go Go.RowKit Go.Mq Go.Mq.Tree Go.Mq.Run
open Go.Mq.Check (fG bZ bK dx Ke Kg)
set_option maxRecDepth 100000
set_option maxHeartbeats 4000000
theorem aaO (g:Nat) (hE : ∀ g',g'≤g→ji g') (hB : ∀ g',g'≤g→uP g') {L:Lay} {d:Nat} {q:Nm} {fr:Fr} {s:St} {w:World} {ov:Value} {ob:Option Nat} {m:Mod} (r:S) (cs:List Value) (hs:dI w L.Fix r cs) (hf:bZ r) (h0 : r.len≠0) (h:Going w L d s ov) (hq:L.M q=some m) (hfr:eG w ob fr) (hfx : ∀ b,ob=some b→¬ L.Fix b) (hne : nU (fns L.M g) d q fr r s ≠ .stuck) :
  ∃ (code p n1 k1 n2 k2:Nat) (nm:List UInt8) (oi ox:Option Addr) (a1 a2:Option Addr) (cs':List Value),cs = .int .i64 code :: .int .i64 p :: str nm :: .pointer oi :: .pointer ox :: .slice a1 n1 k1 :: .slice a2 n2 k2 :: cs'∧dI w L.Fix (rest r) cs'∧bZ (rest r)∧r.len=(rest r).len + 1 ∧
  ∀ w',ae [] w w'→Calls Tryz.prog 82 #[ptr L.br,ptr (L.pb q),.map ob,.agg #[.int .i64 code,.int .i64 p,str nm,.pointer oi,.pointer ox,.slice a1 n1 k1,.slice a2 n2 k2]] w' (aj w' L d ov ob.toList (gB ob) (nU (fns L.M g) d q fr r s)):=by
 cases r with
 | nil=>exact absurd rfl h0
 | set p n i v r=>
  obtain⟨ui,uv,cs',rfl,hi,hv,hr⟩:=hs;obtain⟨oi,rfl⟩:=hi.ptr;obtain⟨bv,rfl⟩:=hv.ptr;exact⟨1,p,0,0,0,0,n,oi,_,none,none,cs',rfl,hr,hf.2.2,rfl,fun w' hc=>aaD g (hE g (Nat.le_refl _)) _ (h.kept hc) hq (hfr.kept hc (by simp)) hfx (hi.kept hc (by simp)) hf.1 (hv.kept hc (by simp)) hf.2.1 rfl hne⟩
 | ifs p v t e r=>
  obtain⟨uv,a1,c1,ts,a2,c2,es,cs',rfl,hv,hc1,hr1,ht,hc2,hr2,he,hr⟩:=hs;obtain⟨bv,rfl⟩:=hv.ptr;exact⟨2,p,_,_,_,_,[],none,_,a1,a2,cs',rfl,hr,hf.2.2.2.2.2,rfl,fun w' hc=>aaz g (hE g (Nat.le_refl _)) (hB g (Nat.le_refl _)) _ (h.kept hc) hq (hfr.kept hc (by simp)) hfx (hv.kept hc (by simp)) hf.1 ⟨a1,c1,ts,rfl,hc1,hr1.kept hc (by simp),ht.kept hc (by simp)⟩ ⟨a2,c2,es,rfl,hc2,hr2.kept hc (by simp),he.kept hc (by simp)⟩ ⟨hf.2.1,hf.2.2.1⟩ ⟨hf.2.2.2.1,hf.2.2.2.2.1⟩ rfl hne⟩
 | dB p v t r=>
  obtain⟨uv,a1,c1,ts,cs',rfl,hv,hc1,hr1,ht,hr⟩:=hs;obtain⟨bv,rfl⟩:=hv.ptr;exact⟨3,p,_,_,0,0,[],none,_,a1,none,cs',rfl,hr,hf.2.2.2,rfl,fun w' hc=>aaJ g hE hB _ (h.kept hc) hq (hfr.kept hc (by simp)) hfx (hv.kept hc (by simp)) hf.1 ⟨a1,c1,ts,rfl,hc1,hr1.kept hc (by simp),ht.kept hc (by simp)⟩ ⟨hf.2.1,hf.2.2.1⟩ rfl hne⟩
 | ret p v r=>
  obtain⟨uv,cs',rfl,hv,hr⟩:=hs;obtain⟨bv,rfl⟩:=hv.ptr;exact⟨4,p,0,0,0,0,[],none,_,none,none,cs',rfl,hr,hf.2,rfl,fun w' hc=>aaw g (hE g (Nat.le_refl _)) _ (h.kept hc) hq (hfr.kept hc (by simp)) hfx (hv.kept hc (by simp)) hf.1 rfl hne⟩
 | dD p v r=>
  obtain⟨uv,cs',rfl,hv,hr⟩:=hs;obtain⟨bv,rfl⟩:=hv.ptr;exact⟨5,p,0,0,0,0,[],none,_,none,none,cs',rfl,hr,hf.2,rfl,fun w' hc=>aax g (hE g (Nat.le_refl _)) _ (h.kept hc) hq (hfr.kept hc (by simp)) hfx (hv.kept hc (by simp)) hf.1 rfl hne⟩
 | call p v r=>
  obtain⟨uv,cs',rfl,hv,hr⟩:=hs;obtain⟨bv,rfl⟩:=hv.ptr;exact⟨6,p,0,0,0,0,[],none,_,none,none,cs',rfl,hr,hf.2,rfl,fun w' hc=>s_call g (hE g (Nat.le_refl _)) _ (h.kept hc) hq (hfr.kept hc (by simp)) hfx (hv.kept hc (by simp)) hf.1 rfl hne⟩
theorem aaP:uP 0:=fun _ _ _ _ _ _ _ ho=>absurd rfl ho
theorem aaQ (g:Nat) (hE : ∀ g',g'≤g→ji g') (hB : ∀ g',g'≤g→uP g'):uP (g + 1):=by
 intro L d q fr x s w ov ob v m h hq hfr hfx hsl hfs hlen hne0;obtain⟨a,k0,cs,rfl,hk0,hrow,hs⟩:=hsl;obtain⟨tgt,ht⟩ : ∃ o,o=(fns L.M (g + 1)).b d q fr x s:=⟨_,rfl⟩
 rw [← ht] at hne0 ⊢;have cZ:=zh hne0;have H:=zh h;have di:=zh hfr;have kZ:=zh hfx;have fH:=zh hrow;have HS:=zh hs;have HFS:=zh hfs;have HT0:=zh ht;have HQ:=zh hq;have HLEN:=zh hlen;have DJ : ∀ x∈ob.toList ++ aJ L ov,¬ L.Fix x:=fun x hx hf=>by
  rcases List.mem_append.1 hx with hx|hx
  ·cases ob with
   | none=>cases hx
   | some bf=>simp at hx;subst hx;exact hfx _ rfl hf
  ·exact h.dz x hx hf
 have eZ:=zh DJ;clear h hfr hfx hrow hs hfs ht hne0 hq DJ
 go_enter Tryz.func43,Tryz.ntmps43
 go_wp2_with fail
 go_loopw [9,12] (fun _ i wr=>∃ (k:Nat) (r:S) (cs1 cs2:List Value) (g':Nat) (fr':Fr) (s':St) (aP:Value),i = .int .i64 k∧k + r.len=x.len∧cs=cs1 ++ cs2∧cs1.length=k * 7∧dI wr L.Fix r cs2∧bZ r∧g'≤g + 1∧tgt=(fns L.M g').b d q fr' r s'∧Going wr L d s' aP∧eG wr ob fr'∧dS w ov aP∧ae (ob.toList ++ aJ L ov) w wr) (fun _ i _=>x.len - (intOf i).toNat)
 case atStart=>exact⟨0,x,[],cs,g + 1,fr,s,ov,rfl,by simp,rfl,rfl,HS.out,HFS.out,Nat.le_refl _,HT0.out,H.out,di.out,dS.refl _ _,ae.refl _ _⟩
 case round=>
  obtain⟨k,r,cs1,cs2,g',fr',s',aP,rfl,hk,j4,hl1,hat,hfs,hgg,KQ,hg,hfr,hm,hc⟩:=hrel;have hlen:=HLEN.out;obtain⟨g2,rfl,hz0,hz1⟩:=aaN KQ cZ.out;by_cases hr0 : r.len=0
  ·have hke : ¬ k < x.len:=by omega
   have HT:=zh (hz0 hr0);have HG:=zh hg;have jE:=zh hfr;have HM:=zh hm;have HC:=zh hc;clear hk j4 hl1 hat hfs hgg KQ hg hfr hm hc hz0 hz1 hr0;go_wp2_with fail;refine bodyPost_end (results_none rfl _ _ _) rfl ?_;rw [HT.out];exact⟨aP,HM.out,HC.out,⟨jE.out,rfl⟩,HG.out⟩
  ·have hlt : k < x.len:=by omega
   have ht2:=hz1 hr0;have DU : nU (fns L.M g2) d q fr' r s' ≠ .stuck:=fun hs=>cZ.out (by rw [ht2,hs];rfl)
   obtain⟨code,p,n1,k1,n2,k2,nm,oi,ox,a1,a2,cs',hcs2,hrs,Q3,hle,hcall⟩:=aaO g2 (fun g' h=>hE g' (by omega)) (fun g' h=>hB g' (by omega)) r cs2 hat hfs hr0 hg HQ.out hfr kZ.out DU;have hrw:=fH.out.kept hc eZ.out;rw [j4,hcs2] at hrw;obtain⟨bb,off,rfl,d0,d1,d2,d3,d4,d5,d6⟩:=Kg hrw hl1;have hz:=ag.new wr #[.int .i64 0,.int .i64 0,str [],aI,aI,ah,ah] 168;obtain⟨wA,ay⟩ : ∃ wA,wr.alloc (.cells #[.int .i64 0,.int .i64 0,str [],aI,aI,ah,ah] 168)=wA:=⟨_,rfl⟩
   rw [ay] at hz;have hcA:ae [] wr wA:=by rw [← ay];exact(ae.refl _ _).alloc _
   obtain⟨wF,hwF,aZ,aG⟩:=Ke (.int .i64 code) (.int .i64 p) (str nm) (.pointer oi) (.pointer ox) (.slice a1 n1 k1) (.slice a2 n2 k2) hz;have hcw:ae [] wr wF:=hcA.trans aZ (fun x hx=>.inr (by simp at hx;omega));have g0:=hcA.aF d0 (by simp);have g1:=hcA.aF d1 (by simp);have g2':=hcA.aF d2 (by simp);have g3:=hcA.aF d3 (by simp);have g4:=hcA.aF d4 (by simp);have g5:=hcA.aF d5 (by simp);have g6:=hcA.aF d6 (by simp);have z0:=hz.cell 0 _ rfl;have z1:=hz.cell 1 _ rfl;have z2:=hz.cell 2 _ rfl;have z3:=hz.cell 3 _ rfl;have z4:=hz.cell 4 _ rfl;have z5:=hz.cell 5 _ rfl;have z6:=hz.cell 6 _ rfl;have y0:=hz.frozen 0;have y1:=hz.frozen 1;have y2:=hz.frozen 2;have y3:=hz.frozen 3;have y4:=hz.frozen 4;have y5:=hz.frozen 5;have y6:=hz.frozen 6;have e0:=aG.cell 0 _ rfl;have e1:=aG.cell 1 _ rfl;have e2:=aG.cell 2 _ rfl;have e3:=aG.cell 3 _ rfl;have e4:=aG.cell 4 _ rfl;have e5:=aG.cell 5 _ rfl;have e6:=aG.cell 6 _ rfl;have aB:=zh hcw;have HC:=zh hc;have HM:=zh hm;have HG:=zh hg;have mf:=zh (hcall wF hcw);have aaS:=zh (show cs=(cs1 ++ [.int .i64 code,.int .i64 p,str nm,.pointer oi,.pointer ox,.slice a1 n1 k1,.slice a2 n2 k2]) ++ cs' by rw [j4,hcs2];simp);have HR:=zh hrs;have DK:=zh Q3;have yU:=zh hl1;have HT2:=zh ht2;have hkr : k + ((rest r).len + 1)=x.len:=by omega
   clear hk j4 hl1 hat hfs KQ hg hfr hm hc hz0 hz1 hr0 ht2 hcs2 hrs Q3 hle hcall hrw hcA aZ aG hcw hz;cases hso : nU (fns L.M g2) d q fr' r s' with
   | stuck=>exact absurd hso DU
   | stop way s3=>
    rw [hso] at mf;have HT:=zh (show tgt = .stop way s3 by rw [HT2.out,hso];rfl);clear hso DU;go_wp2_with fail;refine mf.out.mono ?_;rintro e w4 ⟨uY,iL,hc4,⟨older,hol,rfl⟩,d',hg4⟩;obtain⟨rY,bH⟩:=tZ HM.out HC.out (yX iL aB.out) (aB.out.weak.then hc4);have qW:=zh rY;have cO:=zh bH;have gL:=zh hg4;clear iL hc4 hg4 rY bH;go_wp2_with fail;refine⟨rfl,?_⟩;rw [HT.out];exact⟨uY,qW.out,cO.out,⟨older,hol,rfl⟩,d',gL.out⟩
   | ok y s3=>
    obtain⟨fl,xu⟩:=y;rw [hso] at mf;cases fl with
    | ret n9=>
     have HT:=zh (show tgt = .ok (.ret n9,xu) s3 by rw [HT2.out,hso];rfl);clear hso DU;go_wp2_with fail;refine mf.out.mono ?_;rintro e w4 ⟨uY,iL,hc4,⟨mZ,hfl⟩,hg4⟩;simp only at hfl;subst hfl;obtain⟨rY,bH⟩:=tZ HM.out HC.out (yX iL aB.out) (aB.out.weak.then hc4);have qW:=zh rY;have cO:=zh bH;have gL:=zh hg4;have DT:=zh mZ;clear iL hc4 hg4 rY bH mZ;go_wp2_with fail;refine⟨rfl,?_⟩;rw [HT.out];exact⟨uY,qW.out,cO.out,⟨DT.out,rfl⟩,gL.out⟩
    | go=>
     have HT:=zh (show tgt=(fns L.M g2).b d q xu (rest r) s3 by rw [HT2.out,hso];rfl);clear hso DU;go_wp2_with fail;refine mf.out.mono ?_;rintro e w4 ⟨uY,iL,hc4,⟨mZ,hfl⟩,hg4⟩;simp only at hfl;subst hfl;obtain⟨rY,bH⟩:=tZ HM.out HC.out (yX iL aB.out) (aB.out.weak.then hc4);have Q4 : ∀ x∈ob.toList ++ aJ L aP,¬ L.Fix x:=fun x hx hf=>by
      rcases List.mem_append.1 hx with hx|hx
      ·exact eZ.out x (List.mem_append_left _ hx) hf
      ·exact HG.out.dz x hx hf
     have HR4:=zh ((HR.out.kept aB.out (by simp)).kept hc4 Q4);have qW:=zh rY;have cO:=zh bH;have gL:=zh hg4;have DT:=zh mZ;clear iL hc4 hg4 rY bH mZ Q4;go_wp2_with fail;exact⟨⟨k + 1,rest r,_,cs',g2,xu,s3,uY,by go_num,by omega,aaS.out,by have:=yU.out;simp;omega,HR4.out,DK.out,by omega,HT.out,gL.out,DT.out,qW.out,cO.out⟩,by simp [intOf];omega⟩
end Go.Proofs.YtechofppmnnomaaGreatDoor
namespace Go.Mq.Run
open Go Go.RowKit Go.Mq Go.Mq.Tree
abbrev uZ (n:Int):Value:=.iface 106 (.agg #[num n])
abbrev kN (way:Nat):Value:=.iface 162 (.agg #[num way])
end Go.Mq.Run
namespace Go.Proofs.YtechofppmnnomaaGreatDoor
open Go Go.RowKit Go.Mq Go.Mq.Tree Go.Mq.Run
set_option maxRecDepth 100000
set_option maxHeartbeats 2000000
theorem aaT (b8 b4 br d:Nat) (c0 c1 c3:Value) (w:World) (h4 : w.cell? ⟨b4,0,none⟩=some (ptr br)) (hr:ag w br #[c0,c1,num (d + 1:Nat),c3] 160) (hd : d≤30):CallsD Tryz.prog 103 #[ptr b8,ptr b4] .returning w fun e u' w'=>
   e = .returned (.tuple #[])∧u' = .returning∧ae [br] w w'∧ag w' br #[c0,c1,num d,c3] 160:=by
 refine callsD_of_wpS Tryz.func103 rfl fun c₀ cs hu=>?_
 simp only [Tryz.ntmps103,List.size_toArray,List.length_cons,List.length_nil,Nat.reduceAdd,Nat.reduceSub,Array.replicate_succ,Array.replicate_zero,List.push_toArray,List.append_toArray,List.nil_append,List.cons_append];have r2:=hr.cell 2 _ rfl;have y2:=hr.frozen 2;have HR:=zh hr;clear hr
 apply wpS_seq
 apply wpS_seq
 apply wpS_region
 simp [wpOpsS,go_sem,recoverD,hu,Exit.thenS]
 refine wpS_of_wp ?_;go_wp2_with fail;refine wpS_of_wp ?_;go_wp2_with fail;have hset:=HR.out.set 2 (num d);have hch:ae [br] w (w.setCell ⟨br,2,none⟩ (num d)):=ae.set1 _ _ _ _;refine⟨rfl,.returning,by cases c₀;simp_all,.tuple #[],results_none rfl _ _ _,rfl,rfl,?_⟩;exact⟨hch,by simpa using hset⟩
theorem aaU (b8 b4 br d:Nat) (n z:Int) (c0 c1 c3:Value) (w:World) (h4 : w.cell? ⟨b4,0,none⟩=some (ptr br)) (h8:ag w b8 #[num z] 2) (hr:ag w br #[c0,c1,num (d + 1:Nat),c3] 160) (hd : d≤30) (hne : b8≠br) (rZ : b8≠b4) :
  CallsD Tryz.prog 103 #[ptr b8,ptr b4] (.panicking [{ v:=uZ n,recovered:=false }]) w fun e u' w'=>
   e = .returned (.tuple #[])∧u' = .panicking [{ v:=uZ n,recovered:=true }]∧ae [br,b8] w w'∧ag w' br #[c0,c1,num d,c3] 160∧ag w' b8 #[num n] 2:=by
 have yA : ∀ w,(Instr.typeAssert (uZ n) 20 106 true).run Tryz.prog w = .ok (.tuple #[.agg #[num n],.bool true]) w:=fun _=>rfl
 refine callsD_of_wpS Tryz.func103 rfl fun c₀ cs hu=>?_
 simp only [Tryz.ntmps103,List.size_toArray,List.length_cons,List.length_nil,Nat.reduceAdd,Nat.reduceSub,Array.replicate_succ,Array.replicate_zero,List.push_toArray,List.append_toArray,List.nil_append,List.cons_append];obtain⟨wX,lS⟩ : ∃ x,w.alloc (.cells #[num 0] 106)=x:=⟨_,rfl⟩
 have hx:=ag.new w #[num 0] 106;rw [lS] at hx;have iX:ae [] w wX:=by rw [← lS];exact(ae.refl _ _).alloc _
 have x0:=hx.cell 0 _ rfl;have xf:=hx.frozen 0;obtain⟨w1,hw1⟩ : ∃ x,wX.setCell ⟨w.heap.size,0,none⟩ (num n)=x:=⟨_,rfl⟩
 have hx1:ag w1 w.heap.size #[num n] 106:=by rw [← hw1];simpa using hx.set 0 (num n)
 have hc1:ae [] w w1:=iX.trans (by rw [← hw1];exact ae.set1 _ _ _ _) (fun x hx=>.inr (by simp at hx;omega));have x1:=hx1.cell 0 _ rfl;have h81:=h8.kept hc1 (by simp);have f8:=h81.frozen 0;have e8:=h81.cell 0 _ rfl;obtain⟨w2,hw2⟩ : ∃ x,w1.setCell ⟨b8,0,none⟩ (num n)=x:=⟨_,rfl⟩
 have qX:ae [b8] w1 w2:=by rw [← hw2];exact ae.set1 _ _ _ _
 have h82:ag w2 b8 #[num n] 2:=by rw [← hw2];simpa using h81.set 0 (num n)
 have hr2:=(hr.kept hc1 (by simp)).kept qX (by simpa using Ne.symm hne);have q4:=qX.aF (hc1.aF h4 (by simp)) (by simpa using Ne.symm rZ);have r2:=hr2.cell 2 _ rfl;have y2:=hr2.frozen 2;have HR2:=zh hr2;have H82:=zh h82;have HC:=zh (hc1.weak.then qX);have cZ:=zh hne;clear hr h8 hx iX hx1 hc1 h81 qX h82 hr2 hne rZ h4
 apply wpS_seq
 apply wpS_seq
 apply wpS_region
 simp [wpOpsS,go_sem,recoverD,hu,Exit.thenS]
 refine wpS_of_wp ?_;go_wp2_with fail;refine wpS_of_wp ?_;go_wp2_with fail;have hset:=HR2.out.set 2 (num d);have hch:ae [br] w2 (w2.setCell ⟨br,2,none⟩ (num d)):=ae.set1 _ _ _ _;refine⟨rfl,.panicking [{ v:=uZ n,recovered:=true }],rfl,.tuple #[],results_none rfl _ _ _,rfl,rfl,?_⟩;exact⟨(HC.out.mono (fun x hx=>.inl (by simp at hx;simp [hx]))).then (hch.mono (fun x hx=>.inl (by simp at hx;simp [hx]))),by simpa using hset,H82.out.kept hch (by simpa using cZ.out)⟩
theorem aaW (b8 b4:Nat) (way:Nat) (older:List PanicEntry) (w:World) :
  CallsD Tryz.prog 103 #[ptr b8,ptr b4] (.panicking ({ v:=kN way,recovered:=false } :: older)) w fun e u' w'=>
   e = .panicked [{ v:=kN way,recovered:=false }]∧u' = .panicking ({ v:=kN way,recovered:=true } :: older)∧ae [] w w':=by
 have yA : ∀ w,(Instr.typeAssert (kN way) 20 106 true).run Tryz.prog w = .ok (.tuple #[.agg #[num 0],.bool false]) w:=fun _=>rfl
 refine callsD_of_wpS Tryz.func103 rfl fun c₀ cs hu=>?_
 simp only [Tryz.ntmps103,List.size_toArray,List.length_cons,List.length_nil,Nat.reduceAdd,Nat.reduceSub,Array.replicate_succ,Array.replicate_zero,List.push_toArray,List.append_toArray,List.nil_append,List.cons_append];obtain⟨wX,lS⟩ : ∃ x,w.alloc (.cells #[num 0] 106)=x:=⟨_,rfl⟩
 have hx:=ag.new w #[num 0] 106;rw [lS] at hx;have iX:ae [] w wX:=by rw [← lS];exact(ae.refl _ _).alloc _
 have x0:=hx.cell 0 _ rfl;have xf:=hx.frozen 0;have hc1:ae [] w (wX.setCell ⟨w.heap.size,0,none⟩ (num 0)):=iX.trans (ae.set1 _ _ _ _) (fun x hx=>.inr (by simp at hx;omega));have HC:=zh hc1;clear hx iX hc1
 apply wpS_seq
 apply wpS_seq
 apply wpS_region
 simp [wpOpsS,go_sem,recoverD,hu,Exit.thenS]
 refine wpS_of_wp ?_;go_wp2_with fail;refine⟨rfl,.panicking ({ v:=kN way,recovered:=true } :: older),rfl,rfl,rfl,HC.out⟩
end Go.Proofs.YtechofppmnnomaaGreatDoor
namespace Go.Mq.Run
open Go Go.RowKit Go.Mq Go.Mq.Tree
open Go.Mq.fu (bA getM dG)
def u7 (l:List (Nm × Int)):Fr:=l.foldl (fun f x=>jZ f x.1 x.2) []
def Bb (l:List Nm) (f:Fr):Fr:=l.foldl (fun f n=>jZ f n 0) f
theorem aaX (l:List (Nm × Int)) (x:Nm × Int) : u7 (l ++ [x])=jZ (u7 l) x.1 x.2:=by rw [u7,List.foldl_append];rfl
theorem aaY (l:List Nm) (f:Fr) (n:Nm) : Bb (l ++ [n]) f=jZ (Bb l f) n 0:=by rw [Bb,List.foldl_append];rfl
theorem aaZ (p:aX) (args:List Int) : frame p args=Bb p.vars (u7 (p.params.zip args)):=rfl
theorem zn {α:Type} {l:List α} {k:Nat} {x : α} (h : l[k]?=some x) : l.take (k + 1)=l.take k ++ [x]:=by
 rw [List.take_add_one,h];rfl
theorem Q5 {w:World} {F:Nat→Prop} {a:Option Addr} {cs:List Value} (h:Row w F a cs):Row w (fun b=>b < w.heap.size∧F b) a cs:=⟨h.at_,fun h0 p hp=>⟨by
 obtain⟨b,off,he,hc⟩:=h.at_ h0;subst hp;cases he
 exact lt_of_cell (hc 0 _ (List.getElem?_eq_getElem h0)),h.own h0 p hp⟩⟩
theorem Going.Q6 {w w':World} {L:Lay} {d:Nat} {s:St} {ov:Value} {Z:List Nat} (h:Going w L d s ov) {f d':Nat} (hc:ae Z w w') (hZ : ∀ x∈Z,x=L.br∨(x∉aJ L ov∧¬ L.Fix x)) (hb:ag w' L.br #[ptr L.bw,num f,num d',ov] 160) (hd : d'≤30) (hf : f≤9223372036854775807):Going w' L d' { s with fuel:=f } ov:=
 ⟨h.lay,h.stat.kept hc (fun x hx=>by
  rcases hZ x hx with rfl|⟨_,h2⟩
  ·exact Kk h
  ·exact h2),hb,h.dyn.kept hc fun q n b k hq hm=>by
  have ha:=(h.lay.arr hq).1;rcases hZ b hm with rfl|⟨h1,_⟩
  ·exact AU h ha
  ·exact h1 (List.mem_cons_of_mem _ (List.mem_append_right _ ha)),fun hx=>by
  obtain⟨cs,f,hh⟩:=h.oN hx;refine⟨cs,f,?_⟩;rw [hc.block _ (Array.getElem?_eq_some_iff.1 hh).1 (fun hm=>by
   rcases hZ _ hm with rfl|⟨h1,_⟩
   ·exact AU h hx
   ·exact h1 (List.mem_cons_of_mem _ (List.mem_append_right _ hx)))]
  exact hh,cK h.out hc (fun g hg hm=>by
  rcases hZ g hm with rfl|⟨h1,_⟩
  ·exact Ki h hg
  ·exact h1 (List.mem_cons_of_mem _ (List.mem_append_left _ hg))),h.from_,h.few,hd,hf⟩
end Go.Mq.Run
namespace Go.Proofs.YtechofppmnnomaaGreatDoor
open Go Go.RowKit Go.Mq Go.Mq.Tree Go.Mq.Run
open Go.Mq.fu (bA getM dG kH)
open Go.Mq.Sym (xe)
open Go.Mq.Check (fG bZ bK dx)
set_option maxRecDepth 100000
set_option maxHeartbeats 4000000
theorem Q7 (tmps:Array Value) (b8:Nat) (n:Int) (w:World) (h8 : tmps[8]?.getD undef=ptr b8) (hb:ag w b8 #[num n] 2) : (results Tryz.f67 tmps).run Tryz.prog w = .ok (num n) w:=by
 have d0:=hb.cell 0 _ rfl;simp [results,Tryz.results67,h8,go_sem,d0]
theorem aa0 (tmps:Array Value) (b8 b4 way:Nat) (older:List PanicEntry) (w:World) (R:Ending→World→Prop) (hR : ∀ w',ae [] w w'→R (.panicked ({ v:=kN way,recovered:=false } :: { v:=kN way,recovered:=true } :: older)) w') :
  Leaves Tryz.prog Tryz.f67 tmps R [{ target:=.fn (.func 103) #[ptr b8,ptr b4],args:=#[] }] (.panicking ({ v:=kN way,recovered:=false } :: older)) w:=by
 refine leaves_cons (f:=103) (args:=#[ptr b8,ptr b4]) (by simp) (by simp [go_sem]) ?_;refine(aaW b8 b4 way older w).mono ?_;rintro e u' w'' ⟨rfl,rfl,hc⟩;exact hR w'' hc
theorem aa1 (tmps:Array Value) (b8 b4 br d:Nat) (n z:Int) (c0 c1 c3:Value) (w:World) (R:Ending→World→Prop) (KR : tmps[8]?.getD undef=ptr b8) (h4 : w.cell? ⟨b4,0,none⟩=some (ptr br)) (h8:ag w b8 #[num z] 2) (hr:ag w br #[c0,c1,num (d + 1:Nat),c3] 160) (hd : d≤30) (hne : b8≠br) (rZ : b8≠b4)
  (hR : ∀ w',ae [br,b8] w w'→ag w' br #[c0,c1,num d,c3] 160→R (.returned (num n)) w') :
  Leaves Tryz.prog Tryz.f67 tmps R [{ target:=.fn (.func 103) #[ptr b8,ptr b4],args:=#[] }] (.panicking [{ v:=uZ n,recovered:=false }]) w:=by
 refine leaves_cons (f:=103) (args:=#[ptr b8,ptr b4]) (by simp) (by simp [go_sem]) ?_;refine(aaU b8 b4 br d n z c0 c1 c3 w h4 h8 hr hd hne rZ).mono ?_;rintro e u' w'' ⟨rfl,rfl,hc,hb,eD⟩;exact⟨_,Q7 tmps b8 n w'' KR eD,hR w'' hc hb⟩
theorem aa2 (tmps:Array Value) (b8 b4 br d:Nat) (z:Int) (c0 c1 c3:Value) (w:World) (R:Ending→World→Prop) (KR : tmps[8]?.getD undef=ptr b8) (h4 : w.cell? ⟨b4,0,none⟩=some (ptr br)) (h8:ag w b8 #[num z] 2) (hr:ag w br #[c0,c1,num (d + 1:Nat),c3] 160) (hd : d≤30) (hne : b8≠br)
  (hR : ∀ w',ae [br] w w'→ag w' br #[c0,c1,num d,c3] 160→R (.returned (num z)) w') :
  Leaves Tryz.prog Tryz.f67 tmps R [{ target:=.fn (.func 103) #[ptr b8,ptr b4],args:=#[] }] .returning w:=by
 refine leaves_cons (f:=103) (args:=#[ptr b8,ptr b4]) (by simp) (by simp [go_sem]) ?_;refine(aaT b8 b4 br d c0 c1 c3 w h4 hr hd).mono ?_;rintro e u' w'' ⟨rfl,rfl,hc,hb⟩;exact⟨_,Q7 tmps b8 z w'' KR (h8.kept hc (by simpa using hne)),hR w'' hc hb⟩
theorem aa3:yM 0:=fun _ _ _ _ _ _ _ _ _ _ _ ho=>absurd rfl ho
theorem aa4 (g:Nat) (hB:uP g):yM (g + 1):=by
 intro L d q p args s w ov vp vv vb a c m h hq hvp hvv hvb DV hlb hlp hlv hrow hargs hne0;have pU : ∀ (fn:Fn) (first cap:Array Value) (w:World),(Instr.makeFunc fn first cap).run Tryz.prog w = .ok (.func fn first cap) w:=fun _ _ _ _=>rfl
 have hmm:=@run_makeMap Tryz.prog;obtain⟨tgt,ht⟩ : ∃ o,o=(fns L.M (g + 1)).c d q p args s:=⟨_,rfl⟩
 rw [← ht] at hne0 ⊢;have ht0 : tgt=lq (fns L.M g) d q p args s:=ht
 unfold lq at ht0
 have aa5:=h.deep;obtain⟨w0,hw0⟩ : ∃ x,w.alloc (.cells #[ptr L.br] 104)=x:=⟨_,rfl⟩
 have hb0:ag w0 w.heap.size #[ptr L.br] 104:=by rw [← hw0];exact ag.new w _ _
 have hc0:ae [] w w0:=by rw [← hw0];exact(ae.refl _ _).alloc _
 have hs0 : w0.heap.size=w.heap.size + 1:=by rw [← hw0];simp
 obtain⟨w1,hw1⟩ : ∃ x,w0.alloc (.cells #[str p.name,num p.pos,.bool p.seen,vp,vv,vb] 72)=x:=⟨_,rfl⟩
 have hb1:ag w1 w0.heap.size #[str p.name,num p.pos,.bool p.seen,vp,vv,vb] 72:=by rw [← hw1];exact ag.new w0 _ _
 have hc1:ae [] w0 w1:=by rw [← hw1];exact(ae.refl _ _).alloc _
 have hs1 : w1.heap.size=w.heap.size + 1 + 1:=by rw [← hw1];simp [hs0]
 obtain⟨wA,ay⟩ : ∃ x,w1.alloc (.cells #[num 0] 2)=x:=⟨_,rfl⟩
 have eD:ag wA w1.heap.size #[num 0] 2:=by rw [← ay];exact ag.new w1 _ _
 have hc2:ae [] w1 wA:=by rw [← ay];exact(ae.refl _ _).alloc _
 have hsA : wA.heap.size=w.heap.size + 1 + 1 + 1:=by rw [← ay];simp [hs1]
 have hcA:ae [] w wA:=(hc0.then hc1).then hc2
 have GN:=hb0.kept (hc1.then hc2) (by simp);have GQ:=hb1.kept hc2 (by simp);have k0:=GN.cell 0 _ rfl;have hrun:=h.run.kept hcA (by simp);have r2:=hrun.cell 2 _ rfl;have y2:=hrun.frozen 2;have HA:=zh (h.kept hcA);have r9:=zh hcA;have HB0:=zh GN;have HB1:=zh GQ;have Bc:=zh eD;have cZ:=zh hne0;have HQ:=zh hq;have HVP:=zh (hvp.kept hcA (by simp));have GR:=zh (hvv.kept hcA (by simp));have KS:=zh (hvb.kept hcA (by simp));have fH:=zh ((Q5 hrow).kept hcA (by simp));have Q8:=zh DV;have HLB:=zh hlb;have dK:=zh h.lt;have HSA:=zh hsA;cases hd : decide (d=30) with
 | true=>
  have vg : d=30:=of_decide_eq_true hd;have HT:=zh (show tgt = .stop 4 s by rw [ht0,if_pos vg]);have HS:=zh (fun w=>Az 4 w);rw [vg] at r2;clear h hq hvp hvv hvb DV hlb hrow hne0 ht ht0 hb0 hc0 hb1 hc1 eD hc2 hcA GN GQ hrun hd vg hs0 hs1 hsA y2
  go_enter_defers Tryz.func67,Tryz.ntmps67
  go_wp2_with fail;refine(HS.out wA).mono ?_;rintro _ _ ⟨⟨older,hol,rfl⟩,hw⟩;have hw:=hw.symm;subst hw;go_wp2_with fail;simp only [bodyPostD,Leaves];rw [HT.out];exact aj.after (aj.halted HA.out (ae.refl _ _) ⟨older,hol,rfl⟩) r9.out
 | false=>
  have vg : d≠30:=of_decide_eq_false hd;have hdt : ((d:Int) == 30)=false:=by simp;omega
  rw [if_neg vg] at ht0;by_cases hal : args.length < p.params.length
  ·exact absurd (by rw [ht0,if_pos hal]) hne0
  rw [if_neg hal] at ht0;have GU:=zh (show d≤30 from aa5);have KU:=zh (show p.params.length≤args.length by omega);have HT0:=zh ht0;obtain⟨wB,fB⟩ : ∃ x,wA.setCell ⟨L.br,2,none⟩ (num ((d:Int) + 1))=x:=⟨_,rfl⟩
  have hcB:ae [L.br] wA wB:=by rw [← fB];exact ae.set1 _ _ _ _
  have Q9:ag wB L.br #[ptr L.bw,num s.fuel,num (d + 1:Nat),ov] 160:=by rw [← fB];simpa using hrun.set 2 (num ((d:Int) + 1))
  have hgB:Going wB L (d + 1) s ov:=(h.kept hcA).Qo hcB Q9 (by omega) h.most;have xm:L.br < w.heap.size:=h.run.lt;have e0:=hcB.aF k0 (by simp;omega);have KV:=GQ.kept hcB (by simp;omega);have hsB : wB.heap.size=wA.heap.size:=by rw [← fB];simp
  obtain⟨wC,yS⟩ : ∃ x,wB.alloc (.map #[] 0)=x:=⟨_,rfl⟩
  have KW:bA wC wB.heap.size []:=by rw [← yS];exact bA.made wB
  have hcC:ae [] wB wC:=by rw [← yS];exact(ae.refl _ _).alloc _
  have hlC : wB.heap.size < wC.heap.size:=KW.lt;have e3:=(KV.kept hcC (by simp)).cell 3 _ rfl;obtain⟨bf,hbf⟩ : ∃ b,b=wB.heap.size:=⟨_,rfl⟩
  obtain⟨b8,KX⟩ : ∃ b,b=w1.heap.size:=⟨_,rfl⟩
  obtain⟨b6,KY⟩ : ∃ b,b=w0.heap.size:=⟨_,rfl⟩
  have fZ:L.br < w.heap.size∧w.heap.size < b6∧b6 < b8∧b8 < bf:=by omega
  have fD:=zh fZ;have HGC:=zh (hgB.kept hcC);have jk:=zh hcB;have gK:=zh hcC;have GX:=zh KW;have aie:=zh xm;have Ra:=zh ((eD.kept hcB (by simp;omega)).kept hcC (by simp));have HE0:=zh (hcC.aF e0 (by simp));have KZ:=zh (KV.kept hcC (by simp));have GY : ∀ x∈[L.br],¬ L.Fix x:=by simpa using Kk h
  have abb:=zh ((HVP.out.kept hcB GY).kept hcC (by simp));have abd:=zh ((GR.out.kept hcB GY).kept hcC (by simp));have abe:=zh ((KS.out.kept hcB GY).kept hcC (by simp));have abf:=zh ((fH.out.kept hcB (fun x hx=>by simp at hx;subst hx;exact fun hh=>hh.2 List.mem_cons_self)).kept hcC (by simp));obtain⟨ap,cp,rfl,hcp,hrp⟩:=hvp;obtain⟨av,cv,rfl,hcv,hrv⟩:=hvv;obtain⟨_,_,nS,_,Rb⟩:=abb.out;cases nS
  obtain⟨_,_,nS,_,Rc⟩:=abd.out;cases nS
  have HRP:=zh Rb;have HRV:=zh Rc;have mh:=zh (show ∀ b,w.heap.size≤b→¬ L.Fix b from fun b hb hf=>by have:=h.lay.fix hf;omega);clear h hq hvb DV hlb hrow hne0 ht ht0 hb0 hc0 hb1 hc1 eD hc2 hcA GN GQ hrun hd vg hcB Q9 hgB KV KW hcC hal hrp hrv Rb Rc GY xm hsB fZ hlC hsA hs0 hs1
  go_enter_defers Tryz.func67,Tryz.ntmps67
  go_wp2_with fail;clear hw0 hw1 ay fB yS e0 e3 k0 r2 y2;rw [← hbf,← KX,← KY];rw [← hbf] at GX;rw [← KX] at Ra;rw [← KY] at KZ;clear hbf KX KY
  go_loopw [10,11,31] (fun _ _ i wr=>∃ k:Nat,i = .int .i64 k∧k≤p.params.length∧bA wr bf ((u7 ((p.params.zip args).take k)).map fun p=>(p.1,num p.2))∧ae [bf] wC wr) (fun _ _ i _=>p.params.length - (intOf i).toNat)
  case atStart=>exact⟨0,rfl,Nat.zero_le _,GX.out,ae.refl _ _⟩
  case round=>
   obtain⟨k,rfl,hk,hmap,hc⟩:=hrel;have HC:=zh hc;have fZ:=fD.out;by_cases hlt : k < p.params.length
   ·have hal:=KU.out
    obtain⟨n,hn⟩ : ∃ n,p.params[k]?=some n:=⟨p.params[k],List.getElem?_eq_getElem hlt⟩
    obtain⟨z,hz⟩ : ∃ z,args[k]?=some z:=⟨args[k]'(by omega),List.getElem?_eq_getElem (by omega)⟩
    obtain⟨bb,off,rfl,d0⟩:=xe (HRP.out.kept hc (by simpa using mh.out bf (by omega))) hn;obtain⟨ba,aif,rfl,aO⟩:=(abf.out.kept hc (fun x hx=>by simp at hx;subst hx;exact fun hh=>by have:=hh.1;omega)).at_ (by simp;omega);have d1:=aO k (num z) (by rw [List.getElem?_map,hz];rfl);obtain⟨w5,hu,zo,bH⟩:=kH (P:=Tryz.prog) Tryz.underlying165 Tryz.underlying9 hmap n (num z);have qW:=zh (show bA w5 bf ((u7 ((p.params.zip args).take (k + 1))).map fun p=>(p.1,num p.2)) by
     rw [JY] at zo;rw [zn (show (p.params.zip args)[k]?=some (n,z) by rw [List.getElem?_zip_eq_some];exact⟨hn,hz⟩),aaX];exact zo)
    have cO:=zh (HC.out.then bH);have hka : k < args.length:=by omega
    clear hmap hc hn hz aO zo bH hal;go_wp2_with fail;exact⟨⟨k + 1,by go_num,by omega,qW.out,cO.out⟩,by simp [intOf];omega⟩
   ·have hkn : k=p.params.length:=by omega
    have HMP:=zh (show bA wr bf ((u7 (p.params.zip args)).map fun p=>(p.1,num p.2)) by
     rw [List.take_of_length_le (by rw [List.length_zip];omega)] at hmap;exact hmap)
    have hb6:=KZ.out.kept hc (by simp;omega);have e4:=hb6.cell 4 _ rfl;clear hmap hc hb6;go_wp2_with fail;clear e4
    go_loopw [13,46] (fun _ i wr=>∃ k:Nat,i = .int .i64 k∧k≤p.vars.length∧bA wr bf ((Bb (p.vars.take k) (u7 (p.params.zip args))).map fun p=>(p.1,num p.2))∧ae [bf] wC wr) (fun _ i _=>p.vars.length - (intOf i).toNat)
    case atStart=>exact⟨0,rfl,Nat.zero_le _,HMP.out,HC.out⟩
    case round=>
     obtain⟨k,rfl,hk,hmap,hc⟩:=hrel;clear HC;have HC:=zh hc;by_cases hlt : k < p.vars.length
     ·obtain⟨n,hn⟩ : ∃ n,p.vars[k]?=some n:=⟨p.vars[k],List.getElem?_eq_getElem hlt⟩
      obtain⟨bb,off,rfl,d0⟩:=xe (HRV.out.kept hc (by simpa using mh.out bf (by omega))) hn;obtain⟨w5,hu,zo,bH⟩:=kH (P:=Tryz.prog) Tryz.underlying165 Tryz.underlying9 hmap n (num 0);have qW:=zh (show bA w5 bf ((Bb (p.vars.take (k + 1)) (u7 (p.params.zip args))).map fun p=>(p.1,num p.2)) by
       rw [JY] at zo;rw [zn hn,aaY];exact zo)
      have cO:=zh (HC.out.then bH);clear hmap hc hn zo bH;go_wp2_with fail;exact⟨⟨k + 1,by go_num,by omega,qW.out,cO.out⟩,by simp [intOf];omega⟩
     ·have di:=zh (show eG wr (some bf) (frame p args) by
       rw [List.take_of_length_le (by omega)] at hmap;exact .inr ⟨bf,rfl,by rw [aaZ];exact hmap⟩)
      have Re : ∀ x∈[bf],¬ L.Fix x:=by simpa using mh.out bf (by omega)
      have hgr:Going wr L (d + 1) s ov:=HGC.out.aside hc (fun x hx=>by
       simp at hx
       subst hx;exact⟨fun hm=>by
        rcases List.mem_cons.1 hm with rfl|hm
        ·omega
        ·have:=dK.out x (List.mem_cons_of_mem _ hm);omega,mh.out x (by omega)⟩)
      have bS:=zh (hB hgr HQ.out di.out (fun b hb=>by cases hb;exact mh.out bf (by omega)) (abe.out.kept hc Re) Q8.out HLB.out (fun hs=>cZ.out (by rw [HT0.out,hs];rfl)));have hb6:=KZ.out.kept hc (by simp;omega);have e5:=hb6.cell 5 _ rfl;have e0:=hc.aF HE0.out (by simp;omega);have GZ:=zh (Ra.out.kept hc (by simp;omega));have K5:=zh e0;have hnm : ∀ x,w.heap.size≤x→x∉aJ L ov:=fun x hx hm=>by have:=dK.out x hm;omega
      have l7:=zh hnm;have jF:=zh hc.size;have K6:=GZ.out.lt;have K7:=lt_of_cell e0;have K8:=zh K6;have aih:=zh K7;have aB:=zh (show ae [L.br] w wr from((r9.out.weak.then jk.out).then gK.out.weak).trans hc (fun x hx=>.inr (by simp at hx;omega)));clear hmap hc hgr Re hb6 hnm K6 K7;go_wp2_with fail;cases hr : (fns L.M g).b (d + 1) q (frame p args) p.body s with
      | stuck=>exact absurd (by rw [HT0.out,hr];rfl) cZ.out
      | stop way s2=>
       rw [hr] at bS;have HT:=zh (show tgt = .stop way s2 by rw [HT0.out,hr];rfl);clear hr;refine bS.out.mono ?_;rintro e w2 ⟨bT,hm,hc,⟨older,hol,rfl⟩,d',hg⟩;have xx:=lN (L:=L) hm K8.out (l7.out b8 (by have:=fD.out;omega));have xy:=GZ.out.kept hc (by simp only [List.mem_append,List.mem_singleton,not_or,Option.toList];exact⟨by have:=fD.out;simp;omega,l7.out b8 (by have:=fD.out;omega)⟩);have xz:=hc.aF K5.out (fun hm=>(List.mem_append.1 hm).elim (fun h=>by have:=fD.out;simp [Option.toList] at h;omega) (fun h=>l7.out _ (Nat.le_refl _) h));have bC:=zh (yX hm aB.out);have HG2:=zh hg;have G5:=zh xx;have Bd:=zh xy;have Be:=zh xz;have aD:=zh (show ae (aJ L ov) w w2 from(aB.out.mono (fun x hx=>.inl (by simp at hx;subst hx;exact List.mem_cons_self))).trans hc (fun x hx=>by
        rcases List.mem_append.1 hx with hx|hx
        ·exact .inr (by have:=fD.out;simp at hx;omega)
        ·exact .inl hx))
       clear hm hc hg xx xy xz;go_wp2_with fail;refine aa0 _ b8 w.heap.size way older w2 _ (fun w' hc=>?_);rw [HT.out];exact⟨bT,bC.out,by simpa using aD.out.then hc.weak,⟨_ :: older,by simp [hol],rfl⟩,d',HG2.out.kept hc⟩
      | ok y s2=>
       obtain⟨fl,fr2⟩:=y;rw [hr] at bS;cases fl with
       | ret n9=>
        have HT:=zh (show tgt = .ok n9 s2 by rw [HT0.out,hr];rfl);clear hr;refine bS.out.mono ?_;rintro e w2 ⟨bT,hm,hc,⟨_,hfl⟩,hg⟩;simp only at hfl;subst hfl;have xx:=lN (L:=L) hm K8.out (l7.out b8 (by have:=fD.out;omega));have xy:=GZ.out.kept hc (by simp only [List.mem_append,List.mem_singleton,not_or,Option.toList];exact⟨by have:=fD.out;simp;omega,l7.out b8 (by have:=fD.out;omega)⟩);have xz:=hc.aF K5.out (fun hm=>(List.mem_append.1 hm).elim (fun h=>by have:=fD.out;simp [Option.toList] at h;omega) (fun h=>l7.out _ (Nat.le_refl _) h));have bC:=zh (yX hm aB.out);have HG2:=zh hg;have G5:=zh xx;have Bd:=zh xy;have Be:=zh xz;have aD:=zh (show ae (aJ L ov) w w2 from(aB.out.mono (fun x hx=>.inl (by simp at hx;subst hx;exact List.mem_cons_self))).trans hc (fun x hx=>by
         rcases List.mem_append.1 hx with hx|hx
         ·exact .inr (by have:=fD.out;simp at hx;omega)
         ·exact .inl hx))
        clear hm hc hg xx xy xz;go_wp2_with fail;refine aa1 _ b8 w.heap.size L.br d n9 0 _ _ _ w2 _ rfl Be.out Bd.out HG2.out.run GU.out (by have:=fD.out;omega) (by have:=fD.out;omega) (fun w' hc hb=>?_);rw [HT.out];refine⟨bT,bC.out,?_,rfl,HG2.out.Q6 hc (fun x hx=>?_) hb GU.out HG2.out.most⟩
        ·exact aD.out.trans hc (fun x hx=>by
          simp at hx
          rcases hx with rfl|rfl
          ·exact .inl List.mem_cons_self
          ·exact .inr (by have:=fD.out;omega))
        ·simp at hx
         rcases hx with rfl|rfl
         ·exact .inl rfl
         ·exact .inr ⟨G5.out,mh.out _ (by have:=fD.out;omega)⟩
       | go=>
        have HT:=zh (show tgt = .ok 0 s2 by rw [HT0.out,hr];rfl);clear hr;refine bS.out.mono ?_;rintro e w2 ⟨bT,hm,hc,⟨_,hfl⟩,hg⟩;simp only at hfl;subst hfl;have xx:=lN (L:=L) hm K8.out (l7.out b8 (by have:=fD.out;omega));have xy:=GZ.out.kept hc (by simp only [List.mem_append,List.mem_singleton,not_or,Option.toList];exact⟨by have:=fD.out;simp;omega,l7.out b8 (by have:=fD.out;omega)⟩);have xz:=hc.aF K5.out (fun hm=>(List.mem_append.1 hm).elim (fun h=>by have:=fD.out;simp [Option.toList] at h;omega) (fun h=>l7.out _ (Nat.le_refl _) h));have bC:=zh (yX hm aB.out);have HG2:=zh hg;have G5:=zh xx;have Bd:=zh xy;have Be:=zh xz;have aD:=zh (show ae (aJ L ov) w w2 from(aB.out.mono (fun x hx=>.inl (by simp at hx;subst hx;exact List.mem_cons_self))).trans hc (fun x hx=>by
         rcases List.mem_append.1 hx with hx|hx
         ·exact .inr (by have:=fD.out;simp at hx;omega)
         ·exact .inl hx))
        clear hm hc hg xx xy xz;have x8:=Bd.out.frozen 0;have v8:=Bd.out.cell 0 _ rfl;go_wp2_with fail;have Bf:=Bd.out.set 0 (num 0);have hc8:ae [b8] w2 (w2.setCell ⟨b8,0,none⟩ (num 0)):=ae.set1 _ _ _ _;have fZ:=fD.out;refine aa2 _ b8 w.heap.size L.br d 0 _ _ _ _ _ rfl (hc8.aF Be.out (by simp;omega)) (by simpa using Bf) (HG2.out.run.kept hc8 (by simp;omega)) GU.out (by omega) (fun w' hc hb=>?_);rw [HT.out];have hct:ae [L.br,b8] w2 w':=(hc8.mono (fun x hx=>.inl (by simp at hx;simp [hx]))).then (hc.mono (fun x hx=>.inl (by simp at hx;simp [hx])))
        refine⟨bT,bC.out,?_,rfl,HG2.out.Q6 hct (fun x hx=>?_) hb GU.out HG2.out.most⟩
        ·exact aD.out.trans hct (fun x hx=>by
          simp at hx
          rcases hx with rfl|rfl
          ·exact .inl List.mem_cons_self
          ·exact .inr (by omega))
        ·simp at hx
         rcases hx with rfl|rfl
         ·exact .inl rfl
         ·exact .inr ⟨G5.out,mh.out _ (by omega)⟩
end Go.Proofs.YtechofppmnnomaaGreatDoor
namespace Go.Proofs.YtechofppmnnomaaGreatDoor
open Go Go.RowKit Go.Mq Go.Mq.Tree Go.Mq.Run
theorem K9 : ∀ g,(∀ g',g'≤g→ji g')∧(∀ g',g'≤g→yM g')∧(∀ g',g'≤g→uP g')
 | 0=>⟨fun g' h=>by rw [Nat.le_zero.1 h];exact aaa,fun g' h=>by rw [Nat.le_zero.1 h];exact aa3,fun g' h=>by rw [Nat.le_zero.1 h];exact aaP⟩
 | g + 1=>by
  obtain⟨hE,hC,hB⟩:=K9 g;refine⟨fun g' h=>?_,fun g' h=>?_,fun g' h=>?_⟩
  ·rcases Nat.lt_or_ge g' (g + 1) with h1|h1
   ·exact hE g' (by omega)
   ·rw [show g'=g + 1 by omega];exact aab g hE (hC g (Nat.le_refl _))
  ·rcases Nat.lt_or_ge g' (g + 1) with h1|h1
   ·exact hC g' (by omega)
   ·rw [show g'=g + 1 by omega];exact aa4 g (hB g (Nat.le_refl _))
  ·rcases Nat.lt_or_ge g' (g + 1) with h1|h1
   ·exact hB g' (by omega)
   ·rw [show g'=g + 1 by omega];exact aaQ g hE hB
theorem abp (g:Nat):yM g:=(K9 g).2.1 g (Nat.le_refl _)
theorem abq (g:Nat):uP g:=(K9 g).2.2 g (Nat.le_refl _)
end Go.Proofs.YtechofppmnnomaaGreatDoor
