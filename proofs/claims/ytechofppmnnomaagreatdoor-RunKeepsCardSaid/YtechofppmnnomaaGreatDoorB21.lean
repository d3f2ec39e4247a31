/- Some texts in one. -/
import Derived.Defers
import Derived.Recover
import Derived.Test.YtechofppmnnomaaGreatDoorB4
import Derived.Test.YtechofppmnnomaaGreatDoorB18
import Derived.Test.YtechofppmnnomaaGreatDoorB19
import Derived.Test.YtechofppmnnomaaGreatDoorB20
namespace Go.Mq.Run
open Go Go.RowKit Go.Mq Go.Mq.Tree
open Go.Mq.fo (aZ getM dB)
def setTail (F:lJ) (d:Nat) (q:Nm) (fr:Fr) (n:Nm) (v:E) (k:Int) (s:St):O (Fl × Fr):=(F.e d q fr v s).bind fun v s=>jy q fr n k v s
theorem eG.put {w':World} {b:Nat} {fr:Fr} {n:Nm} {v:Int} (hm:aZ w' b (dB (fr.map fun p=>(p.1,num p.2)) n (num v))):eG w' (some b) (jX fr n v):=.inr ⟨b,rfl,by rw [JN] at hm;exact hm⟩
theorem QF {w:World} {ob:Option Nat} {fr:Fr} {n:Nm} {v:Int} (h:eG w ob fr) (hg : eH fr n=some v) : ∃ b,ob=some b∧aZ w b (fr.map fun p=>(p.1,num p.2)):=by
 rcases h with⟨_,rfl⟩|⟨b,h1,h2⟩
 ·cases hg
 ·exact⟨b,h1,h2⟩
end Go.Mq.Run
namespace Go.Proofs.YtechofppmnnomaaGreatDoor
open Go Go.RowKit Go.Mq Go.Mq.Tree Go.Mq.Run
open Go.Mq.fo (aZ getM dB jo)
open Go.Mq.Check (fI cu bK dx)
set_option maxRecDepth 100000
set_option maxHeartbeats 4000000
theorem ZV (g:Nat) (hE:jd g) {L:Lay} {d:Nat} {q:Nm} {fr:Fr} {p:Nat} {n:Nm} {v:E} {s:St} {w:World} {ov:Value} {ob:Option Nat} {uv:Value} {m:Mod} (tgt:O (Fl × Fr)) (h:Going w L d s ov) (hq:L.M q=some m) (hfr:eG w ob fr) (hfx : ∀ b,ob=some b→¬ L.Fix b) (hvl:aY w L.Fix v [uv]) (hfe:bK v) (ht : tgt=setTail (fns L.M g) d q fr n v 0 s) (hne : tgt ≠ .stuck) :
  Calls Tryz.prog 116 #[ptr L.br,ptr (L.pb q),.map ob,.agg #[num 1,num p,str n,aJ,uv,ah,ah]] w (aj w L d ov ob.toList (gD ob) tgt):=by
 obtain⟨wA,az⟩ : ∃ x,w.alloc (.cells #[num 1,num p,str n,aJ,uv,ah,ah] 168)=x:=⟨_,rfl⟩
 have hc0:ae [] w wA:=by rw [← az];exact(ae.refl _ _).alloc _
 have hbx:ag wA w.heap.size #[num 1,num p,str n,aJ,uv,ah,ah] 168:=by rw [← az];exact ag.new w _ _
 have b3:=hbx.cell 3 _ rfl;have b4:=hbx.cell 4 _ rfl;have jK:=zh hbx;have aF:=zh hc0;have eY:=zh (h.kept hc0);have jA:=zh (hfr.kept hc0 (by simp));have Kr:=zh (hvl.kept hc0 (by simp));have kW:=zh hfx;have HQ:=zh hq;have iE:=zh hfe;have df:=zh hne;have gV:=zh ht;clear h hbx hc0 hfr hvl hq hfe hne ht hfx
 go_enter Tryz.func116,Tryz.ntmps116
 go_wp2_with fail;obtain⟨k,hk⟩ : ∃ k:Int,k=0:=⟨_,rfl⟩
 rw [← hk];have HK:=zh hk;clear hk az;have dG:=eY;have dn:=jK;have fq:=jA;have Kt:=Kr;have HT1:=zh (show tgt=setTail (fns L.M g) d q fr n v k s by rw [gV.out,HK.out]);have fP:=zh (hE dG.out HQ.out fq.out Kt.out iE.out (fun hs=>df.out (by rw [HT1.out,setTail,hs];rfl)));cases hr : (fns L.M g).e d q fr v s with
 | stuck=>exact absurd (by rw [HT1.out,setTail,hr];rfl) df.out
 | stop way s2=>
  rw [hr] at fP;have HT:=zh (show tgt = .stop way s2 by rw [HT1.out,setTail,hr];rfl);clear hr;go_wp2_with fail;refine fP.out.mono ?_;rintro e w2 ⟨bU,hm,hc,⟨older,hol,rfl⟩,d',hg⟩;have bD:=zh hm;have aD:=zh hc;have HG2:=zh hg;clear hm hc hg;go_wp2_with fail;refine⟨rfl,?_⟩;rw [HT.out];exact(fun hh=>aj.after hh aF.out) (aj.ended bD.out aD.out HG2.out (ae.refl _ _) ⟨older,hol,rfl⟩)
 | ok z s2=>
  rw [hr] at fP;have ht2 : tgt=jy q fr n k z s2:=by rw [HT1.out,setTail,hr];rfl
  clear hr;go_wp2_with fail;refine fP.out.mono ?_;rintro e w2 ⟨bU,hm,hc,rfl,hg⟩;have hnb:=dG.out.gQ dn.out (by decide) (by decide);have bD:=zh hm;have aD:=zh hc;have HG2:=zh hg;have qd:=zh (dn.out.kept hc (by simpa using hnb));have jB:=zh (fq.out.kept hc (by simpa using fq.out.iC dG.out));have Ku:=zh (lH (L:=L) hm dn.out.lt hnb);have b2:=qd.out.cell 2 _ rfl;have hl:=Db jB.out n;cases hgf : eH fr n with
  | some old=>
   obtain⟨bf,rfl,hmap⟩:=QF jB.out hgf;rw [hgf] at hl;have hT : tgt = .ok (.go,jX fr n z) s2:=by rw [ht2,jy,hgf]
   have HT:=zh hT;have hnf:=hg.JM hmap;obtain⟨w3,hu,Dr,hc3⟩:=jo (P:=Tryz.prog) Tryz.underlying165 Tryz.underlying9 hmap n (num z);have lK:=zh Dr;have bG:=zh hc3;have l7:=zh hnf;have eZ:=zh (show ¬ L.Fix bf from fun hf=>kW.out bf rfl hf);clear hm hc hg hnb hT ht2 hgf hmap Dr hc3 hnf b3 b4;go_wp2_with fail;refine bodyPost_end (results_none rfl _ _ _) rfl ?_;rw [HT.out];refine(fun hh=>aj.after hh aF.out) (show aj wA L d ov [bf] (gD (some bf)) (.ok (.go,jX fr n z) s2) _ w3 from⟨bU,bD.out,(aD.out.mono (fun x hx=>.inl (by simp at hx ⊢;exact .inr hx))).trans bG.out (fun x hx=>.inl (by simp at hx;simp [hx])),⟨eG.put lK.out,rfl⟩,HG2.out.aside bG.out (fun x hx=>by simp at hx;subst hx;exact⟨l7.out,eZ.out⟩)⟩)
  | none=>
   rw [hgf] at hl;obtain⟨wD,aI⟩ : ∃ x,x=w2.drew:=⟨_,rfl⟩
   have bz:ae [] w2 wD:=by rw [aI];exact(ae.refl [] w2).drew
   have dL:=zh bz;have l8:=zh (hg.kept bz);obtain⟨c0,c1,c2,c3,c4,bm,hpb,il,hlk⟩:=tQ l8.out HQ.out;have p5:=hpb.cell 5 _ rfl;have q2:=(qd.out.kept bz (by simp)).cell 2 _ rfl;have Dt:=zh (jB.out.kept bz (by simp));have Z1:=zh (bZ.of (X:=aL L bU) q2 Ku.out);have Z3:=zh (bZ.of (X:=aL L bU) p5 (fun hm=>l8.out.dz _ hm il));have Y1:=zh (show ∃ off u,wD.cell? ⟨w.heap.size,off,none⟩=some u from⟨_,_,q2⟩);have Y3:=zh (show ∃ off u,wD.cell? ⟨L.pb q,off,none⟩=some u from⟨_,_,p5⟩);cases fB:L.au q n with
   | none=>
    have hdn:=hg.dyn q n;rw [fB] at hdn;simp only at hdn;have hlk2 : ∀ w',w'=wD→(Instr.lookup 99 (.map (some bm)) (str n) false).run Tryz.prog w' = .ok ah w':=fun w' hw=>by
     have:=hlk w' [] (by rw [hw];exact ae.refl _ _) (by simp) n;rw [fB] at this;exact this
    have fV:=zh hlk2;have HT:=zh (show tgt = .stop 3 s2 by rw [ht2,jy,hgf,hdn]);have HI:=zh (Gh k wD);clear hm hc hg hnb ht2 hgf bz hpb il hlk hlk2 fB hdn b3 b4;go_wp2_with fail;refine Gt mV 8 [true,true,true,true,true,true,true,true,false,true] rfl (by kernel_rfl) (by kernel_rfl) rfl ?_;rw [← aI];clear aI
    repeat ((with_reducible show bW _ _ _ _ _ _ _ _);(first|refine aM ?_|refine oP rfl ?_|refine kX rfl rfl (by kernel_rfl) (fun _ _=>?_)|refine qf rfl rfl rfl (by first|exact Y1.out|exact Y3.out) (fun _ _=>?_));go_wp2_with fail)
    refine qW rfl rfl rfl rfl fV.out ?_;go_wp2_with fail
    repeat ((with_reducible show bW _ _ _ _ _ _ _ _);(first|refine aM ?_|refine oP rfl ?_|refine kX rfl rfl (by kernel_rfl) (fun _ _=>?_)|refine qf rfl rfl rfl (by first|exact Y1.out|exact Y3.out) (fun _ _=>?_));go_wp2_with fail)
    refine HI.out.mono ?_;rintro _ _ ⟨⟨older,hol,rfl⟩,hw⟩;have hw:=hw.symm;subst hw;intro a' ha;refine⟨ha,?_⟩;rw [HT.out];exact(fun hh=>aj.after hh aF.out) (aj.ended bD.out aD.out HG2.out dL.out ⟨older,hol,rfl⟩)
   | some x=>
    obtain⟨ba,kk⟩:=x;have y8:=(hg.lay.arr fB).2.2;obtain⟨l,hvs,hll,hcells⟩:=Gp l8.out fB;have uV : ∀ w' Z,ae Z wD w'→(∀ x∈Z,¬ L.Fix x)→(Instr.lookup 99 (.map (some bm)) (str n) false).run Tryz.prog w' = .ok (.slice (some ⟨ba,0,none⟩) kk kk) w':=fun w' Z hc hZ=>by
     have:=hlk w' Z hc hZ n;rw [fB] at this;exact this
    have HI:=zh (Gi ba kk kk y8 k wD);have Du:=zh fB;have CZ:=zh hvs;have Gu:=zh hll;by_cases hin : 0≤k∧k < (kk:Int)
    ·simp only [if_pos hin] at HI
     have HT:=zh (show tgt = .ok (.go,fr) { s2 with vs:=qa s2.vs q n (l.set k.toNat z) } by rw [ht2,jy,hgf,hvs];simp only;rw [if_pos (by rw [hll];exact hin)]);have fV:=zh (fun w' (hc:ae (aL L bU) wD w')=>uV w' _ hc l8.out.dz);have hkt : k.toNat < kk:=by omega
     have hcell:=hcells k.toNat hkt;obtain⟨l2,Dv,_,hblk⟩ : ∃ l2,s2.vs q n=some l2∧l2.length=kk∧ag wD ba (ints l2).toArray bO:=by
      have:=l8.out.dyn q n;rw [fB] at this;exact this
     rw [hvs] at Dv;cases Dv
     have hfz:=hblk.frozen k.toNat;have Dw:=zh hblk;have yR:=zh hin;clear hm hc hg hnb ht2 hgf bz hpb il hlk uV fB hvs hll hcells hblk hin b3 b4;go_wp2_with fail;refine Kv mV (aL L bU) rfl (by kernel_rfl) rfl ?_;rw [← aI];clear aI;have hS:ae (aL L bU) wD wD:=ae.refl _ _
     repeat ((with_reducible refine gX ?_);(first|refine aM ?_|refine sK ?_|refine sM fun _ _=>?_|refine sL (hz:=by first|exact Z1.out|exact Z3.out) fun _ _=>?_|refine sE fun _ _=>?_);go_wp2_with fail)
     refine qW rfl rfl rfl rfl fV.out ?_;go_wp2_with fail
     repeat ((with_reducible refine gX ?_);(first|refine aM ?_|refine sK ?_|refine sM fun _ _=>?_|refine sL (hz:=by first|exact Z1.out|exact Z3.out) fun _ _=>?_|refine sE fun _ _=>?_);go_wp2_with fail)
     refine HI.out.mono ?_;rintro _ _ ⟨rfl,hw⟩;have hw:=hw.symm;subst hw;go_wp2_with fail;refine⟨ae.refl _ _,?_⟩
     repeat ((with_reducible refine gX ?_);(first|refine aM ?_|refine sK ?_|refine sM fun _ _=>?_|refine sL (hz:=by first|exact Z1.out|exact Z3.out) fun _ _=>?_|refine sE fun _ _=>?_);go_wp2_with fail)
     refine tJ rfl rfl (fun _ _=>?_);clear hS Z1 Z3 Y1 Y3 q2 p5;go_wp2_with fail;refine bodyPost_end (results_none rfl _ _ _) rfl ?_;rw [HT.out];have hch:ae [ba] wD (wD.setCell ⟨ba,k.toNat,none⟩ (num z)):=ae.set1 _ _ _ _;have hbs:=Dw.out.set k.toNat (num z);have hg3:Going (wD.setCell ⟨ba,k.toNat,none⟩ (num z)) L d { s2 with vs:=qa s2.vs q n (l.set k.toNat z) } bU:=l8.out.put Du.out CZ.out hch (by rw [ints,List.map_set,← List.setIfInBounds_toArray];exact hbs);have jL:=(l8.out.lay.arr Du.out).1;have gy : ba∈aL L ov:=List.mem_cons_of_mem _ (List.mem_append_right _ jL);refine(fun hh=>aj.after hh aF.out) ⟨bU,bD.out,?_,⟨Dt.out.kept hch (fun b hb hm=>?_),rfl⟩,hg3⟩
     ·exact((aD.out.then dL.out.weak).mono (fun x hx=>.inl (List.mem_append_right _ (by simpa using hx)))).trans hch (fun x hx=>.inl (by simp at hx;subst hx;exact List.mem_append_right _ gy))
     ·simp at hm
      subst hm;exact Dt.out.iC l8.out _ hb (List.mem_cons_of_mem _ (List.mem_append_right _ jL))
    ·simp only [if_neg hin] at HI
     have HT:=zh (show tgt = .stop 3 s2 by rw [ht2,jy,hgf,hvs];simp only;rw [if_neg (by rw [hll];exact hin)]);have fV:=zh (fun w' (hw : w'=wD)=>uV w' [] (by rw [hw];exact ae.refl _ _) (by simp));clear hm hc hg hnb ht2 hgf bz hpb il hlk uV fB hvs hll hcells hin b3 b4;go_wp2_with fail;refine Gt mV 8 [true,true,true,true,true,true,true,true,false,true] rfl (by kernel_rfl) (by kernel_rfl) rfl ?_;rw [← aI];clear aI
     repeat ((with_reducible show bW _ _ _ _ _ _ _ _);(first|refine aM ?_|refine oP rfl ?_|refine kX rfl rfl (by kernel_rfl) (fun _ _=>?_)|refine qf rfl rfl rfl (by first|exact Y1.out|exact Y3.out) (fun _ _=>?_));go_wp2_with fail)
     refine qW rfl rfl rfl rfl fV.out ?_;go_wp2_with fail
     repeat ((with_reducible show bW _ _ _ _ _ _ _ _);(first|refine aM ?_|refine oP rfl ?_|refine kX rfl rfl (by kernel_rfl) (fun _ _=>?_)|refine qf rfl rfl rfl (by first|exact Y1.out|exact Y3.out) (fun _ _=>?_));go_wp2_with fail)
     refine HI.out.mono ?_;rintro _ _ ⟨⟨older,hol,rfl⟩,hw⟩;have hw:=hw.symm;subst hw;intro a' ha;refine⟨ha,?_⟩;rw [HT.out];exact(fun hh=>aj.after hh aF.out) (aj.ended bD.out aD.out HG2.out dL.out ⟨older,hol,rfl⟩)
theorem ZW (g:Nat) (hE:jd g) {L:Lay} {d:Nat} {q:Nm} {fr:Fr} {p:Nat} {n:Nm} {v:E} {s:St} {w:World} {ov:Value} {ob:Option Nat} {uv:Value} {m:Mod} {i:E} {ui:Value} (tgt:O (Fl × Fr)) (h:Going w L d s ov) (hq:L.M q=some m) (hfr:eG w ob fr) (hfx : ∀ b,ob=some b→¬ L.Fix b) (hil:aY w L.Fix i [ui]) (hif:bK i) (hvl:aY w L.Fix v [uv]) (hfe:bK v) (ht : tgt=((fns L.M g).e d q fr i s).bind fun k s=>setTail (fns L.M g) d q fr n v k s) (hne : tgt ≠ .stuck) :
  Calls Tryz.prog 116 #[ptr L.br,ptr (L.pb q),.map ob,.agg #[num 1,num p,str n,ui,uv,ah,ah]] w (aj w L d ov ob.toList (gD ob) tgt):=by
 obtain⟨bi,rfl⟩:=hil.ptr;obtain⟨wA,az⟩ : ∃ x,w.alloc (.cells #[num 1,num p,str n,ptr bi,uv,ah,ah] 168)=x:=⟨_,rfl⟩
 have hc0:ae [] w wA:=by rw [← az];exact(ae.refl _ _).alloc _
 have hbx:ag wA w.heap.size #[num 1,num p,str n,ptr bi,uv,ah,ah] 168:=by rw [← az];exact ag.new w _ _
 have b3:=hbx.cell 3 _ rfl;have b4:=hbx.cell 4 _ rfl;have jK:=zh hbx;have aF:=zh hc0;have eY:=zh (h.kept hc0);have jA:=zh (hfr.kept hc0 (by simp));have Kr:=zh (hvl.kept hc0 (by simp));have kW:=zh hfx;have HQ:=zh hq;have iE:=zh hfe;have df:=zh hne;have gV:=zh ht;have Gv:=zh (hE eY.out HQ.out jA.out (hil.kept hc0 (by simp)) hif (fun hs=>hne (by rw [ht,hs];rfl)));clear h hbx hc0 hfr hvl hq hfe hne ht hfx hil hif
 go_enter Tryz.func116,Tryz.ntmps116
 go_wp2_with fail;cases hr : (fns L.M g).e d q fr i s with
 | stuck=>exact absurd (by rw [gV.out,hr];rfl) df.out
 | stop way s1=>
  rw [hr] at Gv;have HT:=zh (show tgt = .stop way s1 by rw [gV.out,hr];rfl);clear hr;refine Gv.out.mono ?_;rintro e w2 ⟨bU,hm,hc,⟨older,hol,rfl⟩,d',hg⟩;have bD:=zh hm;have aD:=zh hc;have HG2:=zh hg;clear hm hc hg;go_wp2_with fail;refine⟨rfl,?_⟩;rw [HT.out];exact aj.after (aj.ended bD.out aD.out HG2.out (ae.refl _ _) ⟨older,hol,rfl⟩) aF.out
 | ok k s1=>
  rw [hr] at Gv;have HT1:=zh (show tgt=setTail (fns L.M g) d q fr n v k s1 by rw [gV.out,hr];rfl);clear hr;refine Gv.out.mono ?_;rintro e w1 ⟨gG,hm,hc,rfl,hg⟩;have hnb:=eY.out.gQ jK.out (by decide) (by decide);have dn:=zh (jK.out.kept hc (by simpa using hnb));have fq:=zh (jA.out.kept hc (by simpa using jA.out.iC eY.out));have Kt:=zh (Kr.out.kept hc (by simpa using eY.out.dz));have kY:=zh hm;have gK:=zh hc;have dG:=zh hg;clear hm hc hg hnb az b3 b4;have b4:=dn.out.cell 4 _ rfl;go_wp2_with fail;have fP:=zh (hE dG.out HQ.out fq.out Kt.out iE.out (fun hs=>df.out (by rw [HT1.out,setTail,hs];rfl)));cases hr : (fns L.M g).e d q fr v s1 with
  | stuck=>exact absurd (by rw [HT1.out,setTail,hr];rfl) df.out
  | stop way s2=>
   rw [hr] at fP;have HT:=zh (show tgt = .stop way s2 by rw [HT1.out,setTail,hr];rfl);clear hr;go_wp2_with fail;refine fP.out.mono ?_;rintro e w2 ⟨bU,hm,hc,⟨older,hol,rfl⟩,d',hg⟩;have bD:=zh hm;have aD:=zh hc;have HG2:=zh hg;clear hm hc hg;go_wp2_with fail;refine⟨rfl,?_⟩;rw [HT.out];exact(fun hh=>aj.after (aj.then kY.out gK.out hh) aF.out) (aj.ended bD.out aD.out HG2.out (ae.refl _ _) ⟨older,hol,rfl⟩)
  | ok z s2=>
   rw [hr] at fP;have ht2 : tgt=jy q fr n k z s2:=by rw [HT1.out,setTail,hr];rfl
   clear hr;go_wp2_with fail;refine fP.out.mono ?_;rintro e w2 ⟨bU,hm,hc,rfl,hg⟩;have hnb:=dG.out.gQ dn.out (by decide) (by decide);have bD:=zh hm;have aD:=zh hc;have HG2:=zh hg;have qd:=zh (dn.out.kept hc (by simpa using hnb));have jB:=zh (fq.out.kept hc (by simpa using fq.out.iC dG.out));have Ku:=zh (lH (L:=L) hm dn.out.lt hnb);have b2:=qd.out.cell 2 _ rfl;have hl:=Db jB.out n;cases hgf : eH fr n with
   | some old=>
    obtain⟨bf,rfl,hmap⟩:=QF jB.out hgf;rw [hgf] at hl;have hT : tgt = .ok (.go,jX fr n z) s2:=by rw [ht2,jy,hgf]
    have HT:=zh hT;have hnf:=hg.JM hmap;obtain⟨w3,hu,Dr,hc3⟩:=jo (P:=Tryz.prog) Tryz.underlying165 Tryz.underlying9 hmap n (num z);have lK:=zh Dr;have bG:=zh hc3;have l7:=zh hnf;have eZ:=zh (show ¬ L.Fix bf from fun hf=>kW.out bf rfl hf);clear hm hc hg hnb hT ht2 hgf hmap Dr hc3 hnf b4;go_wp2_with fail;refine bodyPost_end (results_none rfl _ _ _) rfl ?_;rw [HT.out];refine(fun hh=>aj.after (aj.then kY.out gK.out hh) aF.out) (show aj w1 L d gG [bf] (gD (some bf)) (.ok (.go,jX fr n z) s2) _ w3 from⟨bU,bD.out,(aD.out.mono (fun x hx=>.inl (by simp at hx ⊢;exact .inr hx))).trans bG.out (fun x hx=>.inl (by simp at hx;simp [hx])),⟨eG.put lK.out,rfl⟩,HG2.out.aside bG.out (fun x hx=>by simp at hx;subst hx;exact⟨l7.out,eZ.out⟩)⟩)
   | none=>
    rw [hgf] at hl;obtain⟨wD,aI⟩ : ∃ x,x=w2.drew:=⟨_,rfl⟩
    have bz:ae [] w2 wD:=by rw [aI];exact(ae.refl [] w2).drew
    have dL:=zh bz;have l8:=zh (hg.kept bz);obtain⟨c0,c1,c2,c3,c4,bm,hpb,il,hlk⟩:=tQ l8.out HQ.out;have p5:=hpb.cell 5 _ rfl;have q2:=(qd.out.kept bz (by simp)).cell 2 _ rfl;have Dt:=zh (jB.out.kept bz (by simp));have Z1:=zh (bZ.of (X:=aL L bU) q2 Ku.out);have Z3:=zh (bZ.of (X:=aL L bU) p5 (fun hm=>l8.out.dz _ hm il));have Y1:=zh (show ∃ off u,wD.cell? ⟨w.heap.size,off,none⟩=some u from⟨_,_,q2⟩);have Y3:=zh (show ∃ off u,wD.cell? ⟨L.pb q,off,none⟩=some u from⟨_,_,p5⟩);cases fB:L.au q n with
    | none=>
     have hdn:=hg.dyn q n;rw [fB] at hdn;simp only at hdn;have hlk2 : ∀ w',w'=wD→(Instr.lookup 99 (.map (some bm)) (str n) false).run Tryz.prog w' = .ok ah w':=fun w' hw=>by
      have:=hlk w' [] (by rw [hw];exact ae.refl _ _) (by simp) n;rw [fB] at this;exact this
     have fV:=zh hlk2;have HT:=zh (show tgt = .stop 3 s2 by rw [ht2,jy,hgf,hdn]);have HI:=zh (Gh k wD);clear hm hc hg hnb ht2 hgf bz hpb il hlk hlk2 fB hdn b4;go_wp2_with fail;refine Gt mV 8 [true,true,true,true,true,true,true,true,false,true] rfl (by kernel_rfl) (by kernel_rfl) rfl ?_;rw [← aI];clear aI
     repeat ((with_reducible show bW _ _ _ _ _ _ _ _);(first|refine aM ?_|refine oP rfl ?_|refine kX rfl rfl (by kernel_rfl) (fun _ _=>?_)|refine qf rfl rfl rfl (by first|exact Y1.out|exact Y3.out) (fun _ _=>?_));go_wp2_with fail)
     refine qW rfl rfl rfl rfl fV.out ?_;go_wp2_with fail
     repeat ((with_reducible show bW _ _ _ _ _ _ _ _);(first|refine aM ?_|refine oP rfl ?_|refine kX rfl rfl (by kernel_rfl) (fun _ _=>?_)|refine qf rfl rfl rfl (by first|exact Y1.out|exact Y3.out) (fun _ _=>?_));go_wp2_with fail)
     refine HI.out.mono ?_;rintro _ _ ⟨⟨older,hol,rfl⟩,hw⟩;have hw:=hw.symm;subst hw;intro a' ha;refine⟨ha,?_⟩;rw [HT.out];exact(fun hh=>aj.after (aj.then kY.out gK.out hh) aF.out) (aj.ended bD.out aD.out HG2.out dL.out ⟨older,hol,rfl⟩)
    | some x=>
     obtain⟨ba,kk⟩:=x;have y8:=(hg.lay.arr fB).2.2;obtain⟨l,hvs,hll,hcells⟩:=Gp l8.out fB;have uV : ∀ w' Z,ae Z wD w'→(∀ x∈Z,¬ L.Fix x)→(Instr.lookup 99 (.map (some bm)) (str n) false).run Tryz.prog w' = .ok (.slice (some ⟨ba,0,none⟩) kk kk) w':=fun w' Z hc hZ=>by
      have:=hlk w' Z hc hZ n;rw [fB] at this;exact this
     have HI:=zh (Gi ba kk kk y8 k wD);have Du:=zh fB;have CZ:=zh hvs;have Gu:=zh hll;by_cases hin : 0≤k∧k < (kk:Int)
     ·simp only [if_pos hin] at HI
      have HT:=zh (show tgt = .ok (.go,fr) { s2 with vs:=qa s2.vs q n (l.set k.toNat z) } by rw [ht2,jy,hgf,hvs];simp only;rw [if_pos (by rw [hll];exact hin)]);have fV:=zh (fun w' (hc:ae (aL L bU) wD w')=>uV w' _ hc l8.out.dz);have hkt : k.toNat < kk:=by omega
      have hcell:=hcells k.toNat hkt;obtain⟨l2,Dv,_,hblk⟩ : ∃ l2,s2.vs q n=some l2∧l2.length=kk∧ag wD ba (ints l2).toArray bO:=by
       have:=l8.out.dyn q n;rw [fB] at this;exact this
      rw [hvs] at Dv;cases Dv
      have hfz:=hblk.frozen k.toNat;have Dw:=zh hblk;have yR:=zh hin;clear hm hc hg hnb ht2 hgf bz hpb il hlk uV fB hvs hll hcells hblk hin b4;go_wp2_with fail;refine Kv mV (aL L bU) rfl (by kernel_rfl) rfl ?_;rw [← aI];clear aI;have hS:ae (aL L bU) wD wD:=ae.refl _ _
      repeat ((with_reducible refine gX ?_);(first|refine aM ?_|refine sK ?_|refine sM fun _ _=>?_|refine sL (hz:=by first|exact Z1.out|exact Z3.out) fun _ _=>?_|refine sE fun _ _=>?_);go_wp2_with fail)
      refine qW rfl rfl rfl rfl fV.out ?_;go_wp2_with fail
      repeat ((with_reducible refine gX ?_);(first|refine aM ?_|refine sK ?_|refine sM fun _ _=>?_|refine sL (hz:=by first|exact Z1.out|exact Z3.out) fun _ _=>?_|refine sE fun _ _=>?_);go_wp2_with fail)
      refine HI.out.mono ?_;rintro _ _ ⟨rfl,hw⟩;have hw:=hw.symm;subst hw;go_wp2_with fail;refine⟨ae.refl _ _,?_⟩
      repeat ((with_reducible refine gX ?_);(first|refine aM ?_|refine sK ?_|refine sM fun _ _=>?_|refine sL (hz:=by first|exact Z1.out|exact Z3.out) fun _ _=>?_|refine sE fun _ _=>?_);go_wp2_with fail)
      refine tJ rfl rfl (fun _ _=>?_);clear hS Z1 Z3 Y1 Y3 q2 p5;go_wp2_with fail;refine bodyPost_end (results_none rfl _ _ _) rfl ?_;rw [HT.out];have hch:ae [ba] wD (wD.setCell ⟨ba,k.toNat,none⟩ (num z)):=ae.set1 _ _ _ _;have hbs:=Dw.out.set k.toNat (num z);have hg3:Going (wD.setCell ⟨ba,k.toNat,none⟩ (num z)) L d { s2 with vs:=qa s2.vs q n (l.set k.toNat z) } bU:=l8.out.put Du.out CZ.out hch (by rw [ints,List.map_set,← List.setIfInBounds_toArray];exact hbs);have jL:=(l8.out.lay.arr Du.out).1;have gy : ba∈aL L gG:=List.mem_cons_of_mem _ (List.mem_append_right _ jL);refine(fun hh=>aj.after (aj.then kY.out gK.out hh) aF.out) ⟨bU,bD.out,?_,⟨Dt.out.kept hch (fun b hb hm=>?_),rfl⟩,hg3⟩
      ·exact((aD.out.then dL.out.weak).mono (fun x hx=>.inl (List.mem_append_right _ (by simpa using hx)))).trans hch (fun x hx=>.inl (by simp at hx;subst hx;exact List.mem_append_right _ gy))
      ·simp at hm
       subst hm;exact Dt.out.iC l8.out _ hb (List.mem_cons_of_mem _ (List.mem_append_right _ jL))
     ·simp only [if_neg hin] at HI
      have HT:=zh (show tgt = .stop 3 s2 by rw [ht2,jy,hgf,hvs];simp only;rw [if_neg (by rw [hll];exact hin)]);have fV:=zh (fun w' (hw : w'=wD)=>uV w' [] (by rw [hw];exact ae.refl _ _) (by simp));clear hm hc hg hnb ht2 hgf bz hpb il hlk uV fB hvs hll hcells hin b4;go_wp2_with fail;refine Gt mV 8 [true,true,true,true,true,true,true,true,false,true] rfl (by kernel_rfl) (by kernel_rfl) rfl ?_;rw [← aI];clear aI
      repeat ((with_reducible show bW _ _ _ _ _ _ _ _);(first|refine aM ?_|refine oP rfl ?_|refine kX rfl rfl (by kernel_rfl) (fun _ _=>?_)|refine qf rfl rfl rfl (by first|exact Y1.out|exact Y3.out) (fun _ _=>?_));go_wp2_with fail)
      refine qW rfl rfl rfl rfl fV.out ?_;go_wp2_with fail
      repeat ((with_reducible show bW _ _ _ _ _ _ _ _);(first|refine aM ?_|refine oP rfl ?_|refine kX rfl rfl (by kernel_rfl) (fun _ _=>?_)|refine qf rfl rfl rfl (by first|exact Y1.out|exact Y3.out) (fun _ _=>?_));go_wp2_with fail)
      refine HI.out.mono ?_;rintro _ _ ⟨⟨older,hol,rfl⟩,hw⟩;have hw:=hw.symm;subst hw;intro a' ha;refine⟨ha,?_⟩;rw [HT.out];exact(fun hh=>aj.after (aj.then kY.out gK.out hh) aF.out) (aj.ended bD.out aD.out HG2.out dL.out ⟨older,hol,rfl⟩)
end Go.Proofs.YtechofppmnnomaaGreatDoor
namespace Go.Proofs.YtechofppmnnomaaGreatDoor
open Go Go.RowKit Go.Mq Go.Mq.Tree Go.Mq.Run
open Go.Mq.Check (fI cu bK dx)
set_option maxRecDepth 100000
set_option maxHeartbeats 4000000
theorem s_call (g:Nat) (hE:jd g) {L:Lay} {d:Nat} {q:Nm} {fr:Fr} {p:Nat} {s:St} {w:World} {ov:Value} {ob:Option Nat} {m:Mod} {v:E} {uv:Value} (tgt:O (Fl × Fr)) (h:Going w L d s ov) (hq:L.M q=some m) (hfr:eG w ob fr) (hfx : ∀ b,ob=some b→¬ L.Fix b) (hvl:aY w L.Fix v [uv]) (hfe:bK v) (ht : tgt=(tick s).bind fun _ s=>((fns L.M g).e d q fr v s).bind fun _ s=>.ok (.go,fr) s) (hne : tgt ≠ .stuck) :
  Calls Tryz.prog 82 #[ptr L.br,ptr (L.pb q),.map ob,.agg #[num 6,num p,str [],aJ,uv,ah,ah]] w (aj w L d ov ob.toList (gD ob) tgt):=by
 obtain⟨wA,az⟩ : ∃ x,w.alloc (.cells #[num 6,num p,str [],aJ,uv,ah,ah] 168)=x:=⟨_,rfl⟩
 have hc0:ae [] w wA:=by rw [← az];exact(ae.refl _ _).alloc _
 have hbx:ag wA w.heap.size #[num 6,num p,str [],aJ,uv,ah,ah] 168:=by rw [← az];exact ag.new w _ _
 have jK:=zh hbx;have aF:=zh hc0;have eY:=zh (h.kept hc0);have jA:=zh (hfr.kept hc0 (by simp));have kW:=zh hfx;have HQ:=zh hq;have df:=zh hne;have gV:=zh ht;have HST:=zh (yV eY.out);have iJ:=zh (hvl.kept hc0 (by simp));have iE:=zh hfe;clear h hbx hc0 hfr hq hne ht hfx hvl hfe
 go_enter Tryz.func82,Tryz.ntmps82
 go_wp2_with fail;cases htk : tick s with
 | stuck=>exact absurd (by rw [gV.out,htk];rfl) df.out
 | stop way s1=>
  rw [htk] at HST;have HT:=zh (show tgt = .stop way s1 by rw [gV.out,htk];rfl);clear htk;refine HST.out.mono ?_;rintro e w2 ⟨bU,hm,hc,⟨older,hol,rfl⟩,d',hg⟩;have bD:=zh hm;have aD:=zh hc;have HG2:=zh hg;clear hm hc hg;go_wp2_with fail;refine⟨rfl,?_⟩;rw [HT.out];exact aj.after (aj.ended bD.out aD.out HG2.out (ae.refl _ _) ⟨older,hol,rfl⟩) aF.out
 | ok _ s1=>
  rw [htk] at HST;have HT1:=zh (show tgt=((fns L.M g).e d q fr v s1).bind fun _ s=>.ok (.go,fr) s by rw [gV.out,htk];rfl);clear htk;refine HST.out.mono ?_;rintro e w1 ⟨gG,hm,hc,rfl,hg⟩;have hnb:=eY.out.gQ jK.out (by decide) (by decide);have dn:=zh (jK.out.kept hc (by simpa using hnb));have fq:=zh (jA.out.kept hc (by simpa using jA.out.iC eY.out));have kY:=zh hm;have gK:=zh hc;have dG:=zh hg;have hnf:=eY.out.dz;have ma:=zh (iJ.out.kept hc (by simpa using hnf));clear hm hc hg hnb hnf az;have UP : ∀ {o:O (Fl × Fr)} {e:Ending} {w':World},aj w1 L d gG ob.toList (gD ob) o e w'→aj w L d ov ob.toList (gD ob) o e w':=fun hh=>aj.after (aj.then kY.out gK.out hh) aF.out
  have j5:=zh (fun(o:O (Fl × Fr)) (e:Ending) (w':World) (hh:aj w1 L d gG ob.toList (gD ob) o e w')=>UP hh);clear UP;have b0:=dn.out.cell 0 _ rfl;have b4:=dn.out.cell 4 _ rfl;go_wp2_with fail;have fP:=zh (hE dG.out HQ.out fq.out ma.out iE.out (fun hs=>df.out (by rw [HT1.out,hs];rfl)));cases hr : (fns L.M g).e d q fr v s1 with
  | stuck=>exact absurd (by rw [HT1.out,hr];rfl) df.out
  | stop way s2=>
   rw [hr] at fP;have HT:=zh (show tgt = .stop way s2 by rw [HT1.out,hr];rfl);clear hr;refine fP.out.mono ?_;rintro e w2 ⟨bU,hm,hc,⟨older,hol,rfl⟩,d',hg⟩;have bD:=zh hm;have aD:=zh hc;have HG2:=zh hg;clear hm hc hg;go_wp2_with fail;refine⟨rfl,?_⟩;rw [HT.out];exact j5.out _ _ _ (aj.ended bD.out aD.out HG2.out (ae.refl _ _) ⟨older,hol,rfl⟩)
  | ok z s2=>
   rw [hr] at fP;have HT2:=zh (show tgt = .ok (.go,fr) s2 by rw [HT1.out,hr];rfl);clear hr;refine fP.out.mono ?_;rintro e w2 ⟨bU,hm,hc,rfl,hg⟩;have hnb:=dG.out.gQ dn.out (by decide) (by decide);have qd:=zh (dn.out.kept hc (by simpa using hnb));have jB:=zh (fq.out.kept hc (by simpa using fq.out.iC dG.out));have bD:=zh hm;have aD:=zh hc;have HG2:=zh hg;have hnf:=dG.out.dz;clear hm hc hg hnb hnf;go_wp2_with fail;refine bodyPost_end (results_none rfl _ _ _) rfl ?_;rw [HT2.out];exact j5.out _ _ _ (aj.done bD.out aD.out HG2.out (ae.refl _ _) ⟨jB.out,rfl⟩)
theorem ZX (g:Nat) (hE:jd g) {L:Lay} {d:Nat} {q:Nm} {fr:Fr} {p:Nat} {s:St} {w:World} {ov:Value} {ob:Option Nat} {m:Mod} {v:E} {uv:Value} (tgt:O (Fl × Fr)) (h:Going w L d s ov) (hq:L.M q=some m) (hfr:eG w ob fr) (hfx : ∀ b,ob=some b→¬ L.Fix b) (hvl:aY w L.Fix v [uv]) (hfe:bK v) (ht : tgt=(tick s).bind fun _ s=>((fns L.M g).e d q fr v s).bind fun n s=>.ok (.ret n,fr) s) (hne : tgt ≠ .stuck) :
  Calls Tryz.prog 82 #[ptr L.br,ptr (L.pb q),.map ob,.agg #[num 4,num p,str [],aJ,uv,ah,ah]] w (aj w L d ov ob.toList (gD ob) tgt):=by
 obtain⟨wA,az⟩ : ∃ x,w.alloc (.cells #[num 4,num p,str [],aJ,uv,ah,ah] 168)=x:=⟨_,rfl⟩
 have hc0:ae [] w wA:=by rw [← az];exact(ae.refl _ _).alloc _
 have hbx:ag wA w.heap.size #[num 4,num p,str [],aJ,uv,ah,ah] 168:=by rw [← az];exact ag.new w _ _
 have jK:=zh hbx;have aF:=zh hc0;have eY:=zh (h.kept hc0);have jA:=zh (hfr.kept hc0 (by simp));have kW:=zh hfx;have HQ:=zh hq;have df:=zh hne;have gV:=zh ht;have HST:=zh (yV eY.out);have iJ:=zh (hvl.kept hc0 (by simp));have iE:=zh hfe;clear h hbx hc0 hfr hq hne ht hfx hvl hfe
 go_enter Tryz.func82,Tryz.ntmps82
 go_wp2_with fail;cases htk : tick s with
 | stuck=>exact absurd (by rw [gV.out,htk];rfl) df.out
 | stop way s1=>
  rw [htk] at HST;have HT:=zh (show tgt = .stop way s1 by rw [gV.out,htk];rfl);clear htk;refine HST.out.mono ?_;rintro e w2 ⟨bU,hm,hc,⟨older,hol,rfl⟩,d',hg⟩;have bD:=zh hm;have aD:=zh hc;have HG2:=zh hg;clear hm hc hg;go_wp2_with fail;refine⟨rfl,?_⟩;rw [HT.out];exact aj.after (aj.ended bD.out aD.out HG2.out (ae.refl _ _) ⟨older,hol,rfl⟩) aF.out
 | ok _ s1=>
  rw [htk] at HST;have HT1:=zh (show tgt=((fns L.M g).e d q fr v s1).bind fun n s=>.ok (.ret n,fr) s by rw [gV.out,htk];rfl);clear htk;refine HST.out.mono ?_;rintro e w1 ⟨gG,hm,hc,rfl,hg⟩;have hnb:=eY.out.gQ jK.out (by decide) (by decide);have dn:=zh (jK.out.kept hc (by simpa using hnb));have fq:=zh (jA.out.kept hc (by simpa using jA.out.iC eY.out));have kY:=zh hm;have gK:=zh hc;have dG:=zh hg;have hnf:=eY.out.dz;have ma:=zh (iJ.out.kept hc (by simpa using hnf));clear hm hc hg hnb hnf az;have UP : ∀ {o:O (Fl × Fr)} {e:Ending} {w':World},aj w1 L d gG ob.toList (gD ob) o e w'→aj w L d ov ob.toList (gD ob) o e w':=fun hh=>aj.after (aj.then kY.out gK.out hh) aF.out
  have j5:=zh (fun(o:O (Fl × Fr)) (e:Ending) (w':World) (hh:aj w1 L d gG ob.toList (gD ob) o e w')=>UP hh);clear UP;have b0:=dn.out.cell 0 _ rfl;have b4:=dn.out.cell 4 _ rfl;go_wp2_with fail;have fP:=zh (hE dG.out HQ.out fq.out ma.out iE.out (fun hs=>df.out (by rw [HT1.out,hs];rfl)));cases hr : (fns L.M g).e d q fr v s1 with
  | stuck=>exact absurd (by rw [HT1.out,hr];rfl) df.out
  | stop way s2=>
   rw [hr] at fP;have HT:=zh (show tgt = .stop way s2 by rw [HT1.out,hr];rfl);clear hr;refine fP.out.mono ?_;rintro e w2 ⟨bU,hm,hc,⟨older,hol,rfl⟩,d',hg⟩;have bD:=zh hm;have aD:=zh hc;have HG2:=zh hg;clear hm hc hg;go_wp2_with fail;refine⟨rfl,?_⟩;rw [HT.out];exact j5.out _ _ _ (aj.ended bD.out aD.out HG2.out (ae.refl _ _) ⟨older,hol,rfl⟩)
  | ok z s2=>
   rw [hr] at fP;have HT2:=zh (show tgt = .ok (.ret z,fr) s2 by rw [HT1.out,hr];rfl);clear hr;refine fP.out.mono ?_;rintro e w2 ⟨bU,hm,hc,rfl,hg⟩;have hnb:=dG.out.gQ dn.out (by decide) (by decide);have qd:=zh (dn.out.kept hc (by simpa using hnb));have jB:=zh (fq.out.kept hc (by simpa using fq.out.iC dG.out));have bD:=zh hm;have aD:=zh hc;have HG2:=zh hg;have hnf:=dG.out.dz;clear hm hc hg hnb hnf;go_wp2_with fail;refine⟨rfl,?_⟩;rw [HT2.out];exact j5.out _ _ _ (aj.done bD.out aD.out HG2.out (ae.refl _ _) ⟨jB.out,rfl⟩)
theorem ZY (g:Nat) (hE:jd g) {L:Lay} {d:Nat} {q:Nm} {fr:Fr} {p:Nat} {s:St} {w:World} {ov:Value} {ob:Option Nat} {m:Mod} {v:E} {uv:Value} (tgt:O (Fl × Fr)) (h:Going w L d s ov) (hq:L.M q=some m) (hfr:eG w ob fr) (hfx : ∀ b,ob=some b→¬ L.Fix b) (hvl:aY w L.Fix v [uv]) (hfe:bK v) (ht : tgt=(tick s).bind fun _ s=>((fns L.M g).e d q fr v s).bind fun n s=>if s.out.length=200 then .stop 6 s else .ok (.go,fr) { s with out:=s.out ++ [n] }) (hne : tgt ≠ .stuck) :
  Calls Tryz.prog 82 #[ptr L.br,ptr (L.pb q),.map ob,.agg #[num 5,num p,str [],aJ,uv,ah,ah]] w (aj w L d ov ob.toList (gD ob) tgt):=by
 obtain⟨wA,az⟩ : ∃ x,w.alloc (.cells #[num 5,num p,str [],aJ,uv,ah,ah] 168)=x:=⟨_,rfl⟩
 have hc0:ae [] w wA:=by rw [← az];exact(ae.refl _ _).alloc _
 have hbx:ag wA w.heap.size #[num 5,num p,str [],aJ,uv,ah,ah] 168:=by rw [← az];exact ag.new w _ _
 have jK:=zh hbx;have aF:=zh hc0;have eY:=zh (h.kept hc0);have jA:=zh (hfr.kept hc0 (by simp));have kW:=zh hfx;have HQ:=zh hq;have df:=zh hne;have gV:=zh ht;have HST:=zh (yV eY.out);have iJ:=zh (hvl.kept hc0 (by simp));have iE:=zh hfe;clear h hbx hc0 hfr hq hne ht hfx hvl hfe
 go_enter Tryz.func82,Tryz.ntmps82
 go_wp2_with fail;cases htk : tick s with
 | stuck=>exact absurd (by rw [gV.out,htk];rfl) df.out
 | stop way s1=>
  rw [htk] at HST;have HT:=zh (show tgt = .stop way s1 by rw [gV.out,htk];rfl);clear htk;refine HST.out.mono ?_;rintro e w2 ⟨bU,hm,hc,⟨older,hol,rfl⟩,d',hg⟩;have bD:=zh hm;have aD:=zh hc;have HG2:=zh hg;clear hm hc hg;go_wp2_with fail;refine⟨rfl,?_⟩;rw [HT.out];exact aj.after (aj.ended bD.out aD.out HG2.out (ae.refl _ _) ⟨older,hol,rfl⟩) aF.out
 | ok _ s1=>
  rw [htk] at HST;have HT1:=zh (show tgt=((fns L.M g).e d q fr v s1).bind fun n s=>if s.out.length=200 then .stop 6 s else .ok (.go,fr) { s with out:=s.out ++ [n] } by rw [gV.out,htk];rfl);clear htk;refine HST.out.mono ?_;rintro e w1 ⟨gG,hm,hc,rfl,hg⟩;have hnb:=eY.out.gQ jK.out (by decide) (by decide);have dn:=zh (jK.out.kept hc (by simpa using hnb));have fq:=zh (jA.out.kept hc (by simpa using jA.out.iC eY.out));have kY:=zh hm;have gK:=zh hc;have dG:=zh hg;have hnf:=eY.out.dz;have ma:=zh (iJ.out.kept hc (by simpa using hnf));clear hm hc hg hnb hnf az;have UP : ∀ {o:O (Fl × Fr)} {e:Ending} {w':World},aj w1 L d gG ob.toList (gD ob) o e w'→aj w L d ov ob.toList (gD ob) o e w':=fun hh=>aj.after (aj.then kY.out gK.out hh) aF.out
  have j5:=zh (fun(o:O (Fl × Fr)) (e:Ending) (w':World) (hh:aj w1 L d gG ob.toList (gD ob) o e w')=>UP hh);clear UP;have b0:=dn.out.cell 0 _ rfl;have b4:=dn.out.cell 4 _ rfl;go_wp2_with fail;have fP:=zh (hE dG.out HQ.out fq.out ma.out iE.out (fun hs=>df.out (by rw [HT1.out,hs];rfl)));cases hr : (fns L.M g).e d q fr v s1 with
  | stuck=>exact absurd (by rw [HT1.out,hr];rfl) df.out
  | stop way s2=>
   rw [hr] at fP;have HT:=zh (show tgt = .stop way s2 by rw [HT1.out,hr];rfl);clear hr;refine fP.out.mono ?_;rintro e w2 ⟨bU,hm,hc,⟨older,hol,rfl⟩,d',hg⟩;have bD:=zh hm;have aD:=zh hc;have HG2:=zh hg;clear hm hc hg;go_wp2_with fail;refine⟨rfl,?_⟩;rw [HT.out];exact j5.out _ _ _ (aj.ended bD.out aD.out HG2.out (ae.refl _ _) ⟨older,hol,rfl⟩)
  | ok z s2=>
   rw [hr] at fP;have HT2:=zh (show tgt=if s2.out.length=200 then .stop 6 s2 else .ok (.go,fr) { s2 with out:=s2.out ++ [z] } by rw [HT1.out,hr];rfl);clear hr;refine fP.out.mono ?_;rintro e w2 ⟨bU,hm,hc,rfl,hg⟩;have hnb:=dG.out.gQ dn.out (by decide) (by decide);have qd:=zh (dn.out.kept hc (by simpa using hnb));have jB:=zh (fq.out.kept hc (by simpa using fq.out.iC dG.out));have bD:=zh hm;have aD:=zh hc;have HG2:=zh hg;have hnf:=dG.out.dz;have r3:=hg.run.cell 3 _ rfl;obtain⟨oa,oc,rfl⟩:=gu hg.out;have hlt:=hg.few;by_cases hfull : s2.out.length=200
   ·have HT:=zh (show tgt = .stop 6 s2 by rw [HT2.out,if_pos hfull])
    have HS:=zh (fun w=>Ay 6 w);have hf2 : ((s2.out.length:Int) == 200)=true:=by rw [hfull];rfl
    clear hm hc hg hnb hnf hfull;go_wp2_with fail;refine(HS.out w2).mono ?_;rintro _ _ ⟨⟨older,hol,rfl⟩,hw⟩;have hw:=hw.symm;subst hw;go_wp2_with fail;refine⟨rfl,?_⟩;rw [HT.out];exact j5.out _ _ _ (aj.ended bD.out aD.out HG2.out (ae.refl _ _) ⟨older,hol,rfl⟩)
   ·have HT:=zh (show tgt = .ok (.go,fr) { s2 with out:=s2.out ++ [z] } by rw [HT2.out,if_neg hfull])
    have hf2 : ((s2.out.length:Int) == 200)=false:=by simp;omega
    have nP:=zh (cK hg.out ((ae.refl [] w2).alloc (.cells #[num z] bO)) (by simp));have hbr:=hg.run.lt;have hnr:=J6 hg;have l7:=zh hfull;clear hm hc hg hnb hnf hfull;go_wp2_with (at_builtin;go_must (refine pO rfl _ _ 41 rfl bO _ 1 8 AR Tryz.underlying41 rfl (by decide) _ s2.out.length (ints s2.out) rfl nP.out ⟨w2.heap.size,0,none⟩ 1 1 [num z] rfl rfl (Aj _ _ _) (by simp [Value.oneCell']) ?_ ?_ ?_))
    ·omega
    ·unfold maxLen;omega
    ·intro v' w' hown' hch' bX
     have aO:ae [] w2 (w2.alloc (.cells #[num z] bO)):=(ae.refl [] w2).alloc _;have iQ:=zh hown';have iI:=zh bX;have Gw:ae (blk (.slice oa s2.out.length oc)) w2 w':=aO.weak.then hch'
     have qN:=zh Gw;have hrun:=HG2.out.run.kept Gw hnr;have ZZ:=zh hrun;have f3:=hrun.frozen 3;have r3':=hrun.cell 3 _ rfl;obtain⟨va,vc,rfl⟩:=gu hown';have hs2:=Gw.size;clear hown' hch' bX Gw aO hrun r3;go_wp2_with fail;refine bodyPost_end (results_none rfl _ _ _) rfl ?_;rw [HT.out];have hsc:ae [L.br] w' (w'.setCell ⟨L.br,3,none⟩ (.slice va (s2.out.length + 1) vc)):=ae.set1 _ _ _ _;have hrs:=ZZ.out.set 3 (.slice va (s2.out.length + 1) vc);have tT:From (L.br + 1) (.slice va (s2.out.length + 1) vc):=fun y hy=>by
      rcases iI.out y hy with hh|hh
      ·exact HG2.out.from_ y hh
      ·simp at hh;omega
     have QG:ae (L.br :: blk (.slice oa s2.out.length oc)) w2 (w'.setCell ⟨L.br,3,none⟩ (.slice va (s2.out.length + 1) vc)):=(qN.out.mono (fun x hx=>.inl (List.mem_cons_of_mem _ hx))).then (hsc.mono (fun x hx=>.inl (by simp at hx;subst hx;exact List.mem_cons_self)))
     have hown3:=cK iQ.out hsc (fun y hy hm=>by have:=tT y hy;simp at hm;omega);have hg3:Going (w'.setCell ⟨L.br,3,none⟩ (.slice va (s2.out.length + 1) vc)) L d { s2 with out:=s2.out ++ [z] } (.slice va (s2.out.length + 1) vc):=HG2.out.told QG (by simpa using hrs) (by rw [List.length_append,ints,List.map_append];exact hown3) tT (by have:=l7.out;simp;omega);refine j5.out _ _ _ ⟨_,bD.out.trans aD.out (fun y hy=>?_),?_,⟨(jB.out.kept qN.out (fun b hb hm=>jB.out.iC HG2.out b hb (List.mem_cons_of_mem _ (List.mem_append_left _ hm)))).kept hsc (fun b hb hm=>by
      simp at hm
      subst hm;exact jB.out.iC HG2.out _ hb List.mem_cons_self),rfl⟩,hg3⟩
     ·rcases iI.out y hy with hh|hh
      ·exact .inl hh
      ·exact .inr (by simp at hh;omega)
     ·refine((aD.out.mono (fun x hx=>.inl (List.mem_append_right _ (by simpa using hx)))).trans QG (fun x hx=>?_))
      have hx2 : x∈aL L (.slice oa s2.out.length oc):=by
       rcases List.mem_cons.1 hx with rfl|hx
       ·exact List.mem_cons_self
       ·exact List.mem_cons_of_mem _ (List.mem_append_left _ hx)
      rcases FX (by simpa using aD.out) bD.out x hx2 with hh|hh
      ·exact .inl (List.mem_append_right _ hh)
      ·exact .inr hh
theorem Z0 (g:Nat) (hE:jd g) (hB:uM g) {L:Lay} {d:Nat} {q:Nm} {fr:Fr} {p:Nat} {s:St} {w:World} {ov:Value} {ob:Option Nat} {m:Mod} {v:E} {uv:Value} {t e:S} {a1 a2:Option Addr} {c1 c2:Nat} (tgt:O (Fl × Fr)) (h:Going w L d s ov) (hq:L.M q=some m) (hfr:eG w ob fr) (hfx : ∀ b,ob=some b→¬ L.Fix b) (hvl:aY w L.Fix v [uv]) (hfe:bK v) (htl:fT w L.Fix t (.slice a1 t.len c1)) (hel:fT w L.Fix e (.slice a2 e.len c2)) (Dx:cu t∧t.len≤1000) (hef:cu e∧e.len≤1000) (ht : tgt=(tick s).bind fun _ s=>((fns L.M g).e d q fr v s).bind fun n s=>if n=0 then (fns L.M g).b d q fr e s else (fns L.M g).b d q fr t s) (hne : tgt ≠ .stuck) :
  Calls Tryz.prog 82 #[ptr L.br,ptr (L.pb q),.map ob,.agg #[num 2,num p,str [],aJ,uv,.slice a1 t.len c1,.slice a2 e.len c2]] w (aj w L d ov ob.toList (gD ob) tgt):=by
 obtain⟨wA,az⟩ : ∃ x,w.alloc (.cells #[num 2,num p,str [],aJ,uv,.slice a1 t.len c1,.slice a2 e.len c2] 168)=x:=⟨_,rfl⟩
 have hc0:ae [] w wA:=by rw [← az];exact(ae.refl _ _).alloc _
 have hbx:ag wA w.heap.size #[num 2,num p,str [],aJ,uv,.slice a1 t.len c1,.slice a2 e.len c2] 168:=by rw [← az];exact ag.new w _ _
 have jK:=zh hbx;have aF:=zh hc0;have eY:=zh (h.kept hc0);have jA:=zh (hfr.kept hc0 (by simp));have kW:=zh hfx;have HQ:=zh hq;have df:=zh hne;have gV:=zh ht;have HST:=zh (yV eY.out);have iJ:=zh (hvl.kept hc0 (by simp));have iE:=zh hfe;have Kw:=zh (htl.kept hc0 (by simp));have Z6:=zh (hel.kept hc0 (by simp));have yN:=zh Dx;have QH:=zh hef;clear h hbx hc0 hfr hq hne ht hfx hvl hfe htl hel Dx hef
 go_enter Tryz.func82,Tryz.ntmps82
 go_wp2_with fail;cases htk : tick s with
 | stuck=>exact absurd (by rw [gV.out,htk];rfl) df.out
 | stop way s1=>
  rw [htk] at HST;have HT:=zh (show tgt = .stop way s1 by rw [gV.out,htk];rfl);clear htk;refine HST.out.mono ?_;rintro e w2 ⟨bU,hm,hc,⟨older,hol,rfl⟩,d',hg⟩;have bD:=zh hm;have aD:=zh hc;have HG2:=zh hg;clear hm hc hg;go_wp2_with fail;refine⟨rfl,?_⟩;rw [HT.out];exact aj.after (aj.ended bD.out aD.out HG2.out (ae.refl _ _) ⟨older,hol,rfl⟩) aF.out
 | ok _ s1=>
  rw [htk] at HST;have HT1:=zh (show tgt=((fns L.M g).e d q fr v s1).bind fun n s=>if n=0 then (fns L.M g).b d q fr e s else (fns L.M g).b d q fr t s by rw [gV.out,htk];rfl);clear htk;refine HST.out.mono ?_;rintro e w1 ⟨gG,hm,hc,rfl,hg⟩;have hnb:=eY.out.gQ jK.out (by decide) (by decide);have dn:=zh (jK.out.kept hc (by simpa using hnb));have fq:=zh (jA.out.kept hc (by simpa using jA.out.iC eY.out));have kY:=zh hm;have gK:=zh hc;have dG:=zh hg;have hnf:=eY.out.dz;have ma:=zh (iJ.out.kept hc (by simpa using hnf));have Ky:=zh (Kw.out.kept hc (by simpa using hnf));have Z7:=zh (Z6.out.kept hc (by simpa using hnf));clear hm hc hg hnb hnf az;have UP : ∀ {o:O (Fl × Fr)} {e:Ending} {w':World},aj w1 L d gG ob.toList (gD ob) o e w'→aj w L d ov ob.toList (gD ob) o e w':=fun hh=>aj.after (aj.then kY.out gK.out hh) aF.out
  have j5:=zh (fun(o:O (Fl × Fr)) (e:Ending) (w':World) (hh:aj w1 L d gG ob.toList (gD ob) o e w')=>UP hh);clear UP;have b0:=dn.out.cell 0 _ rfl;have b4:=dn.out.cell 4 _ rfl;go_wp2_with fail;have fP:=zh (hE dG.out HQ.out fq.out ma.out iE.out (fun hs=>df.out (by rw [HT1.out,hs];rfl)));cases hr : (fns L.M g).e d q fr v s1 with
  | stuck=>exact absurd (by rw [HT1.out,hr];rfl) df.out
  | stop way s2=>
   rw [hr] at fP;have HT:=zh (show tgt = .stop way s2 by rw [HT1.out,hr];rfl);clear hr;refine fP.out.mono ?_;rintro e w2 ⟨bU,hm,hc,⟨older,hol,rfl⟩,d',hg⟩;have bD:=zh hm;have aD:=zh hc;have HG2:=zh hg;clear hm hc hg;go_wp2_with fail;refine⟨rfl,?_⟩;rw [HT.out];exact j5.out _ _ _ (aj.ended bD.out aD.out HG2.out (ae.refl _ _) ⟨older,hol,rfl⟩)
  | ok z s2=>
   rw [hr] at fP;have HT2:=zh (show tgt=if z=0 then (fns L.M g).b d q fr e s2 else (fns L.M g).b d q fr t s2 by rw [HT1.out,hr];rfl);clear hr;refine fP.out.mono ?_;rintro e w2 ⟨bU,hm,hc,rfl,hg⟩;have hnb:=dG.out.gQ dn.out (by decide) (by decide);have qd:=zh (dn.out.kept hc (by simpa using hnb));have jB:=zh (fq.out.kept hc (by simpa using fq.out.iC dG.out));have bD:=zh hm;have aD:=zh hc;have HG2:=zh hg;have hnf:=dG.out.dz;have b5:=qd.out.cell 5 _ rfl;have b6:=qd.out.cell 6 _ rfl;have Kz:=zh (Ky.out.kept hc (by simpa using hnf));have Z8:=zh (Z7.out.kept hc (by simpa using hnf));cases hz : (z != 0) with
   | true=>
    have hz0 : z≠0:=by simpa using hz
    have HT:=zh (show tgt=(fns L.M g).b d q fr t s2 by rw [HT2.out,if_neg hz0]);clear hz0;have qg:=zh (hB HG2.out HQ.out jB.out kW.out Kz.out yN.out.1 yN.out.2 (fun hs=>df.out (by rw [HT.out,hs])));clear hm hc hg hnb hnf;go_wp2_with fail;refine qg.out.mono ?_;intro e w3 he;rw [← HT.out] at he;have je:=j5.out _ _ _ (aj.then bD.out (by simpa using aD.out) he);have aW:=zh je;obtain⟨_,_,_,hres⟩:=je;clear he;cases tgt with
    | stuck=>exact absurd rfl df.out
    | stop way s9=>
     obtain⟨⟨older,hol,rfl⟩,_⟩:=hres;clear hol;go_wp2_with fail;exact⟨rfl,aW.out⟩
    | ok x s9=>
     obtain⟨⟨_,hfl⟩,_⟩:=hres;obtain⟨fl,QI⟩:=x;cases fl with
     | go=>
      simp only at hfl;subst hfl;go_wp2_with fail;refine bodyPost_end (results_none rfl _ _ _) rfl ?_;exact aW.out
     | ret n9=>
      simp only at hfl;subst hfl;go_wp2_with fail;exact⟨rfl,aW.out⟩
   | false=>
    have hz0 : z=0:=by simpa using hz
    have HT:=zh (show tgt=(fns L.M g).b d q fr e s2 by rw [HT2.out,if_pos hz0]);clear hz0;have qg:=zh (hB HG2.out HQ.out jB.out kW.out Z8.out QH.out.1 QH.out.2 (fun hs=>df.out (by rw [HT.out,hs])));clear hm hc hg hnb hnf;go_wp2_with fail;refine qg.out.mono ?_;intro e w3 he;rw [← HT.out] at he;have je:=j5.out _ _ _ (aj.then bD.out (by simpa using aD.out) he);have aW:=zh je;obtain⟨_,_,_,hres⟩:=je;clear he;cases tgt with
    | stuck=>exact absurd rfl df.out
    | stop way s9=>
     obtain⟨⟨older,hol,rfl⟩,_⟩:=hres;clear hol;go_wp2_with fail;exact⟨rfl,aW.out⟩
    | ok x s9=>
     obtain⟨⟨_,hfl⟩,_⟩:=hres;obtain⟨fl,QI⟩:=x;cases fl with
     | go=>
      simp only at hfl;subst hfl;go_wp2_with fail;refine bodyPost_end (results_none rfl _ _ _) rfl ?_;exact aW.out
     | ret n9=>
      simp only at hfl;subst hfl;go_wp2_with fail;exact⟨rfl,aW.out⟩
theorem Z9 (g:Nat) (hE:jd g) {L:Lay} {d:Nat} {q:Nm} {fr:Fr} {p:Nat} {s:St} {w:World} {ov:Value} {ob:Option Nat} {m:Mod} {n:Nm} {i:Option E} {v:E} {ui uv:Value} (tgt:O (Fl × Fr)) (h:Going w L d s ov) (hq:L.M q=some m) (hfr:eG w ob fr) (hfx : ∀ b,ob=some b→¬ L.Fix b) (hil:ow w L.Fix i ui) (hif : ∀ x,i=some x→bK x) (hvl:aY w L.Fix v [uv]) (hfe:bK v) (ht : tgt=(tick s).bind fun _ s=>(Gx (fns L.M g) d q fr i s).bind fun k s=>setTail (fns L.M g) d q fr n v k s) (hne : tgt ≠ .stuck) :
  Calls Tryz.prog 82 #[ptr L.br,ptr (L.pb q),.map ob,.agg #[num 1,num p,str n,ui,uv,ah,ah]] w (aj w L d ov ob.toList (gD ob) tgt):=by
 obtain⟨wA,az⟩ : ∃ x,w.alloc (.cells #[num 1,num p,str n,ui,uv,ah,ah] 168)=x:=⟨_,rfl⟩
 have hc0:ae [] w wA:=by rw [← az];exact(ae.refl _ _).alloc _
 have hbx:ag wA w.heap.size #[num 1,num p,str n,ui,uv,ah,ah] 168:=by rw [← az];exact ag.new w _ _
 have jK:=zh hbx;have aF:=zh hc0;have eY:=zh (h.kept hc0);have jA:=zh (hfr.kept hc0 (by simp));have kW:=zh hfx;have HQ:=zh hq;have df:=zh hne;have gV:=zh ht;have HST:=zh (yV eY.out);have iJ:=zh (hvl.kept hc0 (by simp));have iE:=zh hfe;have HIA:=zh (hil.kept hc0 (by simp));have HIF:=zh hif;clear h hbx hc0 hfr hq hne ht hfx hvl hfe hil hif
 go_enter Tryz.func82,Tryz.ntmps82
 go_wp2_with fail;cases htk : tick s with
 | stuck=>exact absurd (by rw [gV.out,htk];rfl) df.out
 | stop way s1=>
  rw [htk] at HST;have HT:=zh (show tgt = .stop way s1 by rw [gV.out,htk];rfl);clear htk;refine HST.out.mono ?_;rintro e w2 ⟨bU,hm,hc,⟨older,hol,rfl⟩,d',hg⟩;have bD:=zh hm;have aD:=zh hc;have HG2:=zh hg;clear hm hc hg;go_wp2_with fail;refine⟨rfl,?_⟩;rw [HT.out];exact aj.after (aj.ended bD.out aD.out HG2.out (ae.refl _ _) ⟨older,hol,rfl⟩) aF.out
 | ok _ s1=>
  rw [htk] at HST;have HT1:=zh (show tgt=(Gx (fns L.M g) d q fr i s1).bind fun k s=>setTail (fns L.M g) d q fr n v k s by rw [gV.out,htk];rfl);clear htk;refine HST.out.mono ?_;rintro e w1 ⟨gG,hm,hc,rfl,hg⟩;have hnb:=eY.out.gQ jK.out (by decide) (by decide);have dn:=zh (jK.out.kept hc (by simpa using hnb));have fq:=zh (jA.out.kept hc (by simpa using jA.out.iC eY.out));have kY:=zh hm;have gK:=zh hc;have dG:=zh hg;have hnf:=eY.out.dz;have ma:=zh (iJ.out.kept hc (by simpa using hnf));have HI1:=zh (HIA.out.kept hc (by simpa using hnf));clear hm hc hg hnb hnf az;have UP : ∀ {o:O (Fl × Fr)} {e:Ending} {w':World},aj w1 L d gG ob.toList (gD ob) o e w'→aj w L d ov ob.toList (gD ob) o e w':=fun hh=>aj.after (aj.then kY.out gK.out hh) aF.out
  have j5:=zh (fun(o:O (Fl × Fr)) (e:Ending) (w':World) (hh:aj w1 L d gG ob.toList (gD ob) o e w')=>UP hh);clear UP;have b0:=dn.out.cell 0 _ rfl;have b1:=dn.out.cell 1 _ rfl;have b2:=dn.out.cell 2 _ rfl;have b3:=dn.out.cell 3 _ rfl;have b4:=dn.out.cell 4 _ rfl;have b5:=dn.out.cell 5 _ rfl;have b6:=dn.out.cell 6 _ rfl;go_wp2_with fail;have hset:Calls Tryz.prog 116 #[ptr L.br,ptr (L.pb q),.map ob,.agg #[num 1,num p,str n,ui,uv,ah,ah]] w1 (aj w1 L d gG ob.toList (gD ob) tgt):=by
   have hi:=HI1.out;cases i with
   | none=>
    rw [show ui=aJ from hi];exact ZV g hE tgt dG.out HQ.out fq.out kW.out ma.out iE.out HT1.out df.out
   | some i=>exact ZW g hE tgt dG.out HQ.out fq.out kW.out hi (HIF.out i rfl) ma.out iE.out HT1.out df.out
  refine hset.mono ?_;intro e w3 he;have je:=j5.out _ _ _ he;have aW:=zh je;obtain⟨_,_,_,hres⟩:=je;clear he hset;cases tgt with
  | stuck=>exact absurd rfl df.out
  | stop way s9=>
   obtain⟨⟨older,hol,rfl⟩,_⟩:=hres;clear hol;go_wp2_with fail;exact⟨rfl,aW.out⟩
  | ok x s9=>
   obtain⟨⟨_,hfl⟩,_⟩:=hres;obtain⟨fl,QI⟩:=x;cases fl with
   | go=>
    simp only at hfl;subst hfl;go_wp2_with fail;refine bodyPost_end (results_none rfl _ _ _) rfl ?_;exact aW.out
   | ret n9=>
    simp only at hfl;subst hfl;go_wp2_with fail;exact⟨rfl,aW.out⟩
end Go.Proofs.YtechofppmnnomaaGreatDoor
namespace Go.Mq.Run
open Go Go.RowKit Go.Mq Go.Mq.Tree
structure Dy (R:St→St→Prop):Prop where
 refl : ∀ s,R s s
 trans : ∀ {a b c},R a b→R b c→R a c
 tick : ∀ s,s.fuel≠0→R s { s with fuel:=s.fuel - 1 }
 out : ∀ s n,s.out.length≠200→R s { s with out:=s.out ++ [n] }
 put : ∀ s q n l k v,s.vs q n=some l→R s { s with vs:=qa s.vs q n (l.set k v) }
def Al {α:Type} (R:St→St→Prop) (s:St) (o:O α):Prop:=match o with
 | .ok _ s'=>R s s'
 | .stop _ s'=>R s s'
 | .stuck=>True
section
variable {R:St→St→Prop} (K:Dy R)
include K
theorem Al.bind {α β:Type} {s:St} {o:O α} {f : α→St→O β} (h:Al R s o) (k : ∀ a s',Al R s' (f a s')):Al R s (o.bind f):=by
 cases o with
 | stuck=>trivial
 | stop w s'=>exact h
 | ok a s'=>
  have h2:=k a s'
  show Al R s (f a s')
  cases hf : f a s' with
  | stuck=>trivial
  | stop w s2=>rw [hf] at h2;exact K.trans h h2
  | ok b s2=>rw [hf] at h2;exact K.trans h h2
theorem oQ (s:St):Al R s (tick s):=by
 unfold tick
 split
 ·exact K.refl s
 ·exact K.tick s ‹_›
structure Gy (R:St→St→Prop) (F:lJ):Prop where
 e : ∀ d q fr x s,Al R s (F.e d q fr x s)
 es : ∀ d q fr x s,Al R s (F.es d q fr x s)
 c : ∀ d q p a s,Al R s (F.c d q p a s)
 b : ∀ d q fr x s,Al R s (F.b d q fr x s)
 l : ∀ d q fr v t s,Al R s (F.l d q fr v t s)
theorem QJ (l:Option (List Int)) (k:Int) (s:St):Al R s (j4 l k s):=by
 unfold j4
 split
 ·exact K.refl s
 ·split <;> exact K.refl s
theorem KA (l:Option (List Int)) (s:St):Al R s (jv l s):=by
 unfold jv
 split
 ·exact K.refl s
 ·trivial
theorem KC (q:Nm) (fr:Fr) (n:Nm) (k v:Int) (s:St):Al R s (jy q fr n k v s):=by
 unfold jy
 split
 ·exact K.refl s
 ·split
  ·exact K.refl s
  ·split
   ·exact K.put _ _ _ _ _ _ ‹_›
   ·exact K.refl s
theorem aac {M:Ms} {F:lJ} (h:Gy R F):Gy R ⟨mf M F,xq F,mg F,oU F,zl F⟩ where
 e d q fr x s:=by
  show Al R s (mf M F d q fr x s)
  cases x with
  | num p n=>exact K.refl s
  | var p m n=>
   show Al R s (if m=[] then match eH fr n with
    | some v=>O.ok v s
    | none=>jv (s.vs q n) s
   else jv (s.vs m n) s)
   split
   ·split
    ·exact K.refl s
    ·exact KA K _ _
   ·exact KA K _ _
  | item p m n i=>
   show Al R s (if (M (dC q m)).isSome then _ else _)
   split
   ·exact Al.bind K (h.e _ _ _ _ _) fun k s'=>QJ K _ _ _
   ·trivial
  | un p op x=>exact Al.bind K (h.e _ _ _ _ _) fun _ s'=>K.refl s'
  | bin p op x y=>
   refine Al.bind K (h.e _ _ _ _ _) fun a s'=>?_
   split
   ·split
    ·exact K.refl s'
    ·exact Al.bind K (h.e _ _ _ _ _) fun _ s'=>K.refl s'
   ·refine Al.bind K (h.e _ _ _ _ _) fun b s'=>?_
    split
    ·exact K.refl s'
    ·exact K.refl s'
  | app p m n l=>
   show Al R s (match M (dC q m) with
    | none=>.stuck
    | some mo=>match mo.procs.find? fun p=>p.name == n with
     | none=>.stuck
     | some p=>(F.es d q fr l s).bind fun args s=>F.c d (dC q m) p args s)
   split
   ·trivial
   ·split
    ·trivial
    ·exact Al.bind K (h.es _ _ _ _ _) fun a s'=>h.c _ _ _ _ _
  | nil=>trivial
  | cons x r=>trivial
 es d q fr x s:=by
  show Al R s (xq F d q fr x s)
  cases x with
  | nil=>exact K.refl s
  | cons x r=>exact Al.bind K (h.e _ _ _ _ _) fun n s'=>Al.bind K (h.es _ _ _ _ _) fun _ s'=>K.refl s'
  | _=>trivial
 c d q p a s:=by
  show Al R s (mg F d q p a s)
  unfold mg
  split
  ·exact K.refl s
  ·split
   ·trivial
   ·exact Al.bind K (h.b _ _ _ _ _) fun _ s'=>K.refl s'
 b d q fr x s:=by
  show Al R s (oU F d q fr x s)
  unfold oU
  split
  ·exact K.refl s
  ·refine Al.bind K ?_ fun x s'=>?_
   ·cases x with
    | nil=>trivial
    | set p n i v r=>
     refine Al.bind K (oQ K _) fun _ s'=>Al.bind K ?_ fun k s'=>Al.bind K (h.e _ _ _ _ _) fun v s'=>KC K _ _ _ _ _ _
     cases i with
     | none=>exact K.refl s'
     | some i=>exact h.e _ _ _ _ _
    | ifs p v t e r=>
     refine Al.bind K (oQ K _) fun _ s'=>Al.bind K (h.e _ _ _ _ _) fun n s'=>?_
     split
     ·exact h.b _ _ _ _ _
     ·exact h.b _ _ _ _ _
    | dE p v t r=>exact Al.bind K (oQ K _) fun _ s'=>h.l _ _ _ _ _ _
    | ret p v r=>exact Al.bind K (oQ K _) fun _ s'=>Al.bind K (h.e _ _ _ _ _) fun _ s'=>K.refl s'
    | dI p v r=>
     refine Al.bind K (oQ K _) fun _ s'=>Al.bind K (h.e _ _ _ _ _) fun n s'=>?_
     split
     ·exact K.refl s'
     ·exact K.out _ _ ‹_›
    | call p v r=>exact Al.bind K (oQ K _) fun _ s'=>Al.bind K (h.e _ _ _ _ _) fun _ s'=>K.refl s'
   ·split
    ·exact h.b _ _ _ _ _
    ·exact K.refl s'
 l d q fr v t s:=by
  show Al R s (zl F d q fr v t s)
  refine Al.bind K (h.e _ _ _ _ _) fun n s'=>?_
  split
  ·exact K.refl s'
  ·refine Al.bind K (h.b _ _ _ _ _) fun x s'=>?_
   split
   ·exact Al.bind K (oQ K _) fun _ s'=>h.l _ _ _ _ _ _
   ·exact K.refl s'
theorem along (M:Ms) : ∀ g,Gy R (fns M g)
 | 0=>⟨fun _ _ _ _ _=>trivial,fun _ _ _ _ _=>trivial,fun _ _ _ _ _=>trivial,fun _ _ _ _ _=>trivial,fun _ _ _ _ _ _=>trivial⟩
 | g + 1=>aac K (along M g)
end
theorem zm:Dy fun s s'=>s'.fuel≤s.fuel:=⟨fun _=>Nat.le_refl _,fun h k=>Nat.le_trans k h,fun _ _=>Nat.sub_le _ _,fun _ _ _=>Nat.le_refl _,fun _ _ _ _ _ _ _=>Nat.le_refl _⟩
theorem Dz:Dy fun s s'=>s.out <+: s'.out:=⟨fun _=>List.prefix_rfl,fun h k=>List.IsPrefix.trans h k,fun _ _=>List.prefix_rfl,fun _ _ _=>List.prefix_append _ _,fun _ _ _ _ _ _ _=>List.prefix_rfl⟩
theorem zn:Dy fun s s'=>∀ q n,(s'.vs q n).map List.length=(s.vs q n).map List.length:=⟨fun _ _ _=>rfl,fun h k q n=>(k q n).trans (h q n),fun _ _ _ _=>rfl,fun _ _ _ _ _=>rfl,fun s q n l k v hl q' n'=>by
 simp only [qa];split
 ·next hh=>obtain⟨rfl,rfl⟩:=hh;rw [hl];simp
 ·rfl⟩
end Go.Mq.Run
namespace Go.Mq.Run
open Go Go.RowKit Go.Mq Go.Mq.Tree
def KD (w:World) (b:Nat):Nat:=match w.cell? ⟨b,1,none⟩ with
 | some (.int _ n)=>n.toNat
 | _=>0
theorem Going.fuel {w:World} {L:Lay} {d:Nat} {s:St} {ov:Value} (h:Going w L d s ov) : KD w L.br=s.fuel:=by
 have:=h.run.cell 1 _ rfl;rw [KD,this];simp
theorem tV {L:Lay} {X:List Nat} {w1 wr w2:World} {gG aR bU:Value} (hm:dS w1 gG aR) (hc:ae (X ++ aL L gG) w1 wr) (hm2:dS wr aR bU) (hc2:ae (X ++ aL L aR) wr w2):dS w1 gG bU∧ae (X ++ aL L gG) w1 w2:=by
 refine⟨hm.trans hc hm2,hc.trans hc2 (fun x hx=>?_)⟩;rcases List.mem_append.1 hx with hx|hx
 ·exact .inl (List.mem_append_left _ hx)
 ·rcases List.mem_cons.1 hx with rfl|hx
  ·exact .inl (List.mem_append_right _ List.mem_cons_self)
  ·rcases List.mem_append.1 hx with hx|hx
   ·rcases hm x hx with h|h
    ·exact .inl (List.mem_append_right _ (List.mem_cons_of_mem _ (List.mem_append_left _ h)))
    ·exact .inr h
   ·exact .inl (List.mem_append_right _ (List.mem_cons_of_mem _ (List.mem_append_right _ hx)))
theorem Gz {Z X:List Nat} {a b:World} (h:ae Z a b):ae (X ++ Z) a b:=h.mono fun x hx=>.inl (List.mem_append_right _ hx)
theorem aad {M:Ms} {g d:Nat} {q:Nm} {fr:Fr} {v:E} {t:S} {s:St} {o:O (Fl × Fr)} (h : o=(fns M g).l d q fr v t s) (ho : o ≠ .stuck) :
  ∃ g',g=g' + 1∧o=((fns M g').e d q fr v s).bind fun n s=>if n=0 then .ok (.go,fr) s else ((fns M g').b d q fr t s).bind fun x s=>match x.1 with
   | .go=>(tick s).bind fun _ s=>(fns M g').l d q x.2 v t s
   | .ret n=>.ok (.ret n,x.2) s:=by
 cases g with
 | zero=>exact absurd h ho
 | succ g'=>exact⟨g',rfl,h⟩
theorem aae {s s2:St} {u:Unit} (h : tick s = .ok u s2) : s2.fuel < s.fuel:=by
 unfold tick at h
 split at h
 ·cases h
 ·cases h
  simp only;omega
end Go.Mq.Run
namespace Go.Proofs.YtechofppmnnomaaGreatDoor
open Go Go.RowKit Go.Mq Go.Mq.Tree Go.Mq.Run
open Go.Mq.Check (fI cu bK dx)
set_option maxRecDepth 100000
set_option maxHeartbeats 4000000
theorem aaf (g:Nat) (hE : ∀ g',g'≤g→jd g') (hB : ∀ g',g'≤g→uM g') {L:Lay} {d:Nat} {q:Nm} {fr:Fr} {p:Nat} {s:St} {w:World} {ov:Value} {ob:Option Nat} {m:Mod} {v:E} {uv:Value} {t:S} {a1:Option Addr} {c1:Nat} (tgt:O (Fl × Fr)) (h:Going w L d s ov) (hq:L.M q=some m) (hfr:eG w ob fr) (hfx : ∀ b,ob=some b→¬ L.Fix b) (hvl:aY w L.Fix v [uv]) (hfe:bK v) (htl:fT w L.Fix t (.slice a1 t.len c1)) (Dx:cu t∧t.len≤1000) (ht : tgt=(tick s).bind fun _ s=>(fns L.M g).l d q fr v t s) (hne : tgt ≠ .stuck) :
  Calls Tryz.prog 82 #[ptr L.br,ptr (L.pb q),.map ob,.agg #[num 3,num p,str [],aJ,uv,.slice a1 t.len c1,ah]] w (aj w L d ov ob.toList (gD ob) tgt):=by
 obtain⟨wA,az⟩ : ∃ x,w.alloc (.cells #[num 3,num p,str [],aJ,uv,.slice a1 t.len c1,ah] 168)=x:=⟨_,rfl⟩
 have hc0:ae [] w wA:=by rw [← az];exact(ae.refl _ _).alloc _
 have hbx:ag wA w.heap.size #[num 3,num p,str [],aJ,uv,.slice a1 t.len c1,ah] 168:=by rw [← az];exact ag.new w _ _
 have jK:=zh hbx;have aF:=zh hc0;have eY:=zh (h.kept hc0);have jA:=zh (hfr.kept hc0 (by simp));have kW:=zh hfx;have HQ:=zh hq;have df:=zh hne;have gV:=zh ht;have HST:=zh (yV eY.out);have iJ:=zh (hvl.kept hc0 (by simp));have iE:=zh hfe;have Kw:=zh (htl.kept hc0 (by simp));have yN:=zh Dx;clear h hbx hc0 hfr hq hne ht hfx hvl hfe htl Dx
 go_enter Tryz.func82,Tryz.ntmps82
 go_wp2_with fail;cases htk : tick s with
 | stuck=>exact absurd (by rw [gV.out,htk];rfl) df.out
 | stop way s1=>
  rw [htk] at HST;have HT:=zh (show tgt = .stop way s1 by rw [gV.out,htk];rfl);clear htk;refine HST.out.mono ?_;rintro e w2 ⟨bU,hm,hc,⟨older,hol,rfl⟩,d',hg⟩;have bD:=zh hm;have aD:=zh hc;have HG2:=zh hg;clear hm hc hg;go_wp2_with fail;refine⟨rfl,?_⟩;rw [HT.out];exact aj.after (aj.ended bD.out aD.out HG2.out (ae.refl _ _) ⟨older,hol,rfl⟩) aF.out
 | ok _ s1=>
  rw [htk] at HST;have HT1:=zh (show tgt=(fns L.M g).l d q fr v t s1 by rw [gV.out,htk];rfl);clear htk;refine HST.out.mono ?_;rintro e w1 ⟨gG,hm,hc,rfl,hg⟩;have hnb:=eY.out.gQ jK.out (by decide) (by decide);have dn:=zh (jK.out.kept hc (by simpa using hnb));have fq:=zh (jA.out.kept hc (by simpa using jA.out.iC eY.out));have kY:=zh hm;have gK:=zh hc;have dG:=zh hg;have hnf:=eY.out.dz;have ma:=zh (iJ.out.kept hc (by simpa using hnf));have Ky:=zh (Kw.out.kept hc (by simpa using hnf));clear hm hc hg hnb hnf az;have UP : ∀ {o:O (Fl × Fr)} {e:Ending} {w':World},aj w1 L d gG ob.toList (gD ob) o e w'→aj w L d ov ob.toList (gD ob) o e w':=fun hh=>aj.after (aj.then kY.out gK.out hh) aF.out
  have j5:=zh (fun(o:O (Fl × Fr)) (e:Ending) (w':World) (hh:aj w1 L d gG ob.toList (gD ob) o e w')=>UP hh);clear UP;have b0:=dn.out.cell 0 _ rfl;have b4:=dn.out.cell 4 _ rfl;go_wp2_with fail;clear b0 b4;have QK:=kW.out;have DC : ∀ (wr:World),∀ x∈ob.toList ++ aL L gG,¬ L.Fix x:=fun _ x hx hf=>by
   rcases List.mem_append.1 hx with hx|hx
   ·cases ob with
    | none=>cases hx
    | some bf=>simp at hx;subst hx;exact QK _ rfl hf
   ·exact dG.out.dz x hx hf
  have qV : w.heap.size∉ob.toList ++ aL L gG:=fun hx=>by
   rcases List.mem_append.1 hx with hx|hx
   ·cases ob with
    | none=>cases hx
    | some bf=>
     simp at hx
     subst hx;rcases fq.out with⟨h1,_⟩|⟨b',h1,⟨arr,clock,gy,_⟩⟩
     ·cases h1
     ·cases h1
      have:=dn.out
      unfold ag at this
      rw [this] at gy;cases gy
   ·exact dG.out.gQ dn.out (by decide) (by decide) hx
  have eZ:=zh (DC w1);have aag:=zh qV;clear QK DC qV
  go_loopw [] (fun wr=>∃ (g':Nat) (fr':Fr) (s':St) (aR:Value),g'≤g∧tgt=(fns L.M g').l d q fr' v t s'∧Going wr L d s' aR∧eG wr ob fr'∧dS w1 gG aR∧ae (ob.toList ++ aL L gG) w1 wr) (fun wr=>KD wr L.br)
  case atStart=>exact⟨g,fr,s1,gG,Nat.le_refl _,HT1.out,dG.out,fq.out,dS.refl _ _,ae.refl _ _⟩
  case round=>
   obtain⟨g',fr',s',aR,hgg,htl,hg,hfr,hm,hc⟩:=hrel;obtain⟨g2,rfl,ht2⟩:=aad htl df.out;have HT2:=zh ht2;have HG:=zh hg;have cB:=zh hfr;have HM:=zh hm;have HC:=zh hc;have KE:=dn.out.kept hc aag.out;have QL:=zh KE;have fJ:=zh (hE g2 (by omega) hg HQ.out hfr (ma.out.kept hc eZ.out) iE.out (fun hs=>df.out (by rw [ht2,hs];rfl)));have HTR:=zh (Ky.out.kept hc eZ.out);have b4:=KE.cell 4 _ rfl;clear htl ht2 hg hfr hm hc KE;cases hr : (fns L.M g2).e d q fr' v s' with
   | stuck=>exact absurd (by rw [HT2.out,hr];rfl) df.out
   | stop way s2=>
    rw [hr] at fJ;have HT:=zh (show tgt = .stop way s2 by rw [HT2.out,hr];rfl);clear hr;go_wp2_with fail;refine fJ.out.mono ?_;rintro e w2 ⟨bU,hm,hc,⟨older,hol,rfl⟩,d',hg⟩;obtain⟨hm2,hc2⟩:=tV HM.out HC.out hm (Gz (X:=ob.toList) (by simpa using hc));have bD:=zh hm2;have aD:=zh hc2;have HG2:=zh hg;clear hm hc hg hm2 hc2;go_wp2_with fail;refine⟨rfl,?_⟩;rw [HT.out];exact j5.out _ _ _ ⟨bU,bD.out,aD.out,⟨older,hol,rfl⟩,d',HG2.out⟩
   | ok z s2=>
    rw [hr] at fJ;have HT3:=zh (show tgt=(if z=0 then .ok (.go,fr') s2 else ((fns L.M g2).b d q fr' t s2).bind fun x s=>match x.1 with
     | .go=>(tick s).bind fun _ s=>(fns L.M g2).l d q x.2 v t s
     | .ret n=>.ok (.ret n,x.2) s) by rw [HT2.out,hr];rfl)
    have hf2 : s2.fuel≤s'.fuel:=by have:=(along zm L.M g2).e d q fr' v s';rw [hr] at this;exact this
    have KF:=zh hf2;clear hr hf2;go_wp2_with fail;refine fJ.out.mono ?_;rintro e w2 ⟨bU,hm,hc,rfl,hg⟩;have hnb:=HG.out.gQ QL.out (by decide) (by decide);have qd:=zh (QL.out.kept hc (by simpa using hnb));have jB:=zh (cB.out.kept hc (by simpa using cB.out.iC HG.out));have Kz:=zh (HTR.out.kept hc (by simpa using HG.out.dz));obtain⟨hm2,hc2⟩:=tV HM.out HC.out hm (Gz (X:=ob.toList) (by simpa using hc));have bD:=zh hm2;have aD:=zh hc2;have HG2:=zh hg;have b5:=qd.out.cell 5 _ rfl;clear hm hc hg hm2 hc2 hnb b4;cases hz : (z != 0) with
    | false=>
     have hz0 : z=0:=by simpa using hz
     have HT:=zh (show tgt = .ok (.go,fr') s2 by rw [HT3.out,if_pos hz0]);clear hz0;go_wp2_with fail;refine bodyPost_end (results_none rfl _ _ _) rfl ?_;rw [HT.out];exact j5.out _ _ _ ⟨bU,bD.out,aD.out,⟨jB.out,rfl⟩,HG2.out⟩
    | true=>
     have hz0 : z≠0:=by simpa using hz
     have xu:=zh (show tgt=((fns L.M g2).b d q fr' t s2).bind fun x s=>match x.1 with
      | .go=>(tick s).bind fun _ s=>(fns L.M g2).l d q x.2 v t s
      | .ret n=>.ok (.ret n,x.2) s by rw [HT3.out,if_neg hz0])
     have iH:=zh (hB g2 (by omega) HG2.out HQ.out jB.out kW.out Kz.out yN.out.1 yN.out.2 (fun hs=>df.out (by rw [xu.out,hs];rfl)));clear hz0;cases hr : (fns L.M g2).b d q fr' t s2 with
     | stuck=>exact absurd (by rw [xu.out,hr];rfl) df.out
     | stop way s3=>
      rw [hr] at iH;have HT:=zh (show tgt = .stop way s3 by rw [xu.out,hr];rfl);clear hr;go_wp2_with fail;refine iH.out.mono ?_;rintro e w3 ⟨GA,hm,hc,⟨older,hol,rfl⟩,d',hg⟩;obtain⟨kI,hc3⟩:=tV bD.out aD.out hm hc;have lK:=zh kI;have bG:=zh hc3;have DD:=zh hg;clear hm hc hg kI hc3;go_wp2_with fail;refine⟨rfl,?_⟩;rw [HT.out];exact j5.out _ _ _ ⟨GA,lK.out,bG.out,⟨older,hol,rfl⟩,d',DD.out⟩
     | ok x s3=>
      obtain⟨fl,xw⟩:=x;rw [hr] at iH;have hf3 : s3.fuel≤s2.fuel:=by have:=(along zm L.M g2).b d q fr' t s2;rw [hr] at this;exact this
      have pY:=zh hf3;clear hf3;cases fl with
      | ret n9=>
       have HT:=zh (show tgt = .ok (.ret n9,xw) s3 by rw [xu.out,hr];rfl);clear hr;go_wp2_with fail;refine iH.out.mono ?_;rintro e w3 ⟨GA,hm,hc,⟨DF,hfl⟩,hg⟩;simp only at hfl;subst hfl;obtain⟨kI,hc3⟩:=tV bD.out aD.out hm hc;have lK:=zh kI;have bG:=zh hc3;have DD:=zh hg;have GD:=zh DF;clear hm hc hg kI hc3 DF;go_wp2_with fail;refine⟨rfl,?_⟩;rw [HT.out];exact j5.out _ _ _ ⟨GA,lK.out,bG.out,⟨GD.out,rfl⟩,DD.out⟩
      | go=>
       have lL:=zh (show tgt=(tick s3).bind fun _ s=>(fns L.M g2).l d q xw v t s by rw [xu.out,hr];rfl);clear hr;go_wp2_with fail;refine iH.out.mono ?_;rintro e w3 ⟨GA,hm,hc,⟨DF,hfl⟩,hg⟩;simp only at hfl;subst hfl;obtain⟨kI,hc3⟩:=tV bD.out aD.out hm hc;have HST:=zh (yV hg);have lK:=zh kI;have bG:=zh hc3;have DD:=zh hg;have GD:=zh DF;clear hm hc hg kI hc3 DF;cases htk : tick s3 with
       | stuck=>exact absurd (by rw [lL.out,htk];rfl) df.out
       | stop way s4=>
        rw [htk] at HST;have HT:=zh (show tgt = .stop way s4 by rw [lL.out,htk];rfl);clear htk;go_wp2_with fail;refine HST.out.mono ?_;rintro e w4 ⟨uW,hm,hc,⟨older,hol,rfl⟩,d',hg⟩;obtain⟨iK,hc4⟩:=tV lK.out bG.out hm (Gz (X:=ob.toList) (by simpa using hc));have rT:=zh iK;have cz:=zh hc4;have gL:=zh hg;clear hm hc hg iK hc4;go_wp2_with fail;refine⟨rfl,?_⟩;rw [HT.out];exact j5.out _ _ _ ⟨uW,rT.out,cz.out,⟨older,hol,rfl⟩,d',gL.out⟩
       | ok _ s4=>
        rw [htk] at HST;have HT6:=zh (show tgt=(fns L.M g2).l d q xw v t s4 by rw [lL.out,htk];rfl);have HF4:=zh (aae htk);clear htk;go_wp2_with fail;refine HST.out.mono ?_;rintro e w4 ⟨uW,hm,hc,rfl,hg⟩;obtain⟨iK,hc4⟩:=tV lK.out bG.out hm (Gz (X:=ob.toList) (by simpa using hc));have DI:=zh (GD.out.kept hc (by simpa using GD.out.iC DD.out));have rT:=zh iK;have cz:=zh hc4;have gL:=zh hg;clear hm hc hg iK hc4;go_wp2_with fail;refine⟨⟨g2,xw,s4,uW,by omega,HT6.out,gL.out,DI.out,rT.out,cz.out⟩,?_⟩;rw [gL.out.fuel,HG.out.fuel];have:=KF.out;have:=pY.out;have:=HF4.out;omega
end Go.Proofs.YtechofppmnnomaaGreatDoor
namespace Go.Mq.Run
open Go Go.RowKit Go.Mq Go.Mq.Tree
theorem aak {M:Ms} {g d:Nat} {q:Nm} {fr:Fr} {r:S} {s:St} {o:O (Fl × Fr)} (h : o=(fns M g).b d q fr r s) (ho : o ≠ .stuck) :
  ∃ g',g=g' + 1∧(r.len=0→o = .ok (.go,fr) s)∧(r.len≠0→o=andThen (fns M g') d q (rest r) (qh (fns M g') d q fr r s)):=by
 cases g with
 | zero=>exact absurd h ho
 | succ g'=>
  refine⟨g',rfl,fun h0=>?_,fun h0=>?_⟩
  ·rw [h];show (if r.len=0 then _ else _)=_;rw [if_pos h0]
  ·rw [h];show (if r.len=0 then _ else _)=_;rw [if_neg h0]
end Go.Mq.Run
namespace Go.Proofs.YtechofppmnnomaaGreatDoor
open Go Go.RowKit Go.Mq Go.Mq.Tree Go.Mq.Run
open Go.Mq.Check (fI cu bK dx J4 J5)
set_option maxRecDepth 100000
set_option maxHeartbeats 4000000
theorem aal (g:Nat) (hE : ∀ g',g'≤g→jd g') (hB : ∀ g',g'≤g→uM g') {L:Lay} {d:Nat} {q:Nm} {fr:Fr} {s:St} {w:World} {ov:Value} {ob:Option Nat} {m:Mod} (r:S) (cs:List Value) (hs:dJ w L.Fix r cs) (hf:cu r) (h0 : r.len≠0) (h:Going w L d s ov) (hq:L.M q=some m) (hfr:eG w ob fr) (hfx : ∀ b,ob=some b→¬ L.Fix b) (hne : qh (fns L.M g) d q fr r s ≠ .stuck) :
  ∃ (code p n1 k1 n2 k2:Nat) (nm:List UInt8) (oi ox:Option Addr) (a1 a2:Option Addr) (cs':List Value),cs = .int .i64 code :: .int .i64 p :: str nm :: .pointer oi :: .pointer ox :: .slice a1 n1 k1 :: .slice a2 n2 k2 :: cs'∧dJ w L.Fix (rest r) cs'∧cu (rest r)∧r.len=(rest r).len + 1 ∧
  ∀ w',ae [] w w'→Calls Tryz.prog 82 #[ptr L.br,ptr (L.pb q),.map ob,.agg #[.int .i64 code,.int .i64 p,str nm,.pointer oi,.pointer ox,.slice a1 n1 k1,.slice a2 n2 k2]] w' (aj w' L d ov ob.toList (gD ob) (qh (fns L.M g) d q fr r s)):=by
 cases r with
 | nil=>exact absurd rfl h0
 | set p n i v r=>
  obtain⟨ui,uv,cs',rfl,hi,hv,hr⟩:=hs;obtain⟨oi,rfl⟩:=hi.ptr;obtain⟨bv,rfl⟩:=hv.ptr;exact⟨1,p,0,0,0,0,n,oi,_,none,none,cs',rfl,hr,hf.2.2,rfl,fun w' hc=>Z9 g (hE g (Nat.le_refl _)) _ (h.kept hc) hq (hfr.kept hc (by simp)) hfx (hi.kept hc (by simp)) hf.1 (hv.kept hc (by simp)) hf.2.1 rfl hne⟩
 | ifs p v t e r=>
  obtain⟨uv,a1,c1,ts,a2,c2,es,cs',rfl,hv,hc1,hr1,ht,hc2,hr2,he,hr⟩:=hs;obtain⟨bv,rfl⟩:=hv.ptr;exact⟨2,p,_,_,_,_,[],none,_,a1,a2,cs',rfl,hr,hf.2.2.2.2.2,rfl,fun w' hc=>Z0 g (hE g (Nat.le_refl _)) (hB g (Nat.le_refl _)) _ (h.kept hc) hq (hfr.kept hc (by simp)) hfx (hv.kept hc (by simp)) hf.1 ⟨a1,c1,ts,rfl,hc1,hr1.kept hc (by simp),ht.kept hc (by simp)⟩ ⟨a2,c2,es,rfl,hc2,hr2.kept hc (by simp),he.kept hc (by simp)⟩ ⟨hf.2.1,hf.2.2.1⟩ ⟨hf.2.2.2.1,hf.2.2.2.2.1⟩ rfl hne⟩
 | dE p v t r=>
  obtain⟨uv,a1,c1,ts,cs',rfl,hv,hc1,hr1,ht,hr⟩:=hs;obtain⟨bv,rfl⟩:=hv.ptr;exact⟨3,p,_,_,0,0,[],none,_,a1,none,cs',rfl,hr,hf.2.2.2,rfl,fun w' hc=>aaf g hE hB _ (h.kept hc) hq (hfr.kept hc (by simp)) hfx (hv.kept hc (by simp)) hf.1 ⟨a1,c1,ts,rfl,hc1,hr1.kept hc (by simp),ht.kept hc (by simp)⟩ ⟨hf.2.1,hf.2.2.1⟩ rfl hne⟩
 | ret p v r=>
  obtain⟨uv,cs',rfl,hv,hr⟩:=hs;obtain⟨bv,rfl⟩:=hv.ptr;exact⟨4,p,0,0,0,0,[],none,_,none,none,cs',rfl,hr,hf.2,rfl,fun w' hc=>ZX g (hE g (Nat.le_refl _)) _ (h.kept hc) hq (hfr.kept hc (by simp)) hfx (hv.kept hc (by simp)) hf.1 rfl hne⟩
 | dI p v r=>
  obtain⟨uv,cs',rfl,hv,hr⟩:=hs;obtain⟨bv,rfl⟩:=hv.ptr;exact⟨5,p,0,0,0,0,[],none,_,none,none,cs',rfl,hr,hf.2,rfl,fun w' hc=>ZY g (hE g (Nat.le_refl _)) _ (h.kept hc) hq (hfr.kept hc (by simp)) hfx (hv.kept hc (by simp)) hf.1 rfl hne⟩
 | call p v r=>
  obtain⟨uv,cs',rfl,hv,hr⟩:=hs;obtain⟨bv,rfl⟩:=hv.ptr;exact⟨6,p,0,0,0,0,[],none,_,none,none,cs',rfl,hr,hf.2,rfl,fun w' hc=>s_call g (hE g (Nat.le_refl _)) _ (h.kept hc) hq (hfr.kept hc (by simp)) hfx (hv.kept hc (by simp)) hf.1 rfl hne⟩
theorem aam:uM 0:=fun _ _ _ _ _ _ _ ho=>absurd rfl ho
theorem aan (g:Nat) (hE : ∀ g',g'≤g→jd g') (hB : ∀ g',g'≤g→uM g'):uM (g + 1):=by
 intro L d q fr x s w ov ob v m h hq hfr hfx hsl hfs hlen hne0;obtain⟨a,k0,cs,rfl,hk0,hrow,hs⟩:=hsl;obtain⟨tgt,ht⟩ : ∃ o,o=(fns L.M (g + 1)).b d q fr x s:=⟨_,rfl⟩
 rw [← ht] at hne0 ⊢;have df:=zh hne0;have H:=zh h;have cB:=zh hfr;have kW:=zh hfx;have iD:=zh hrow;have HS:=zh hs;have HFS:=zh hfs;have HT0:=zh ht;have HQ:=zh hq;have HLEN:=zh hlen;have DC : ∀ x∈ob.toList ++ aL L ov,¬ L.Fix x:=fun x hx hf=>by
  rcases List.mem_append.1 hx with hx|hx
  ·cases ob with
   | none=>cases hx
   | some bf=>simp at hx;subst hx;exact hfx _ rfl hf
  ·exact h.dz x hx hf
 have eZ:=zh DC;clear h hfr hfx hrow hs hfs ht hne0 hq DC
 go_enter Tryz.func43,Tryz.ntmps43
 go_wp2_with fail
 go_loopw [9,12] (fun _ i wr=>∃ (k:Nat) (r:S) (cs1 cs2:List Value) (g':Nat) (fr':Fr) (s':St) (aR:Value),i = .int .i64 k∧k + r.len=x.len∧cs=cs1 ++ cs2∧cs1.length=k * 7∧dJ wr L.Fix r cs2∧cu r∧g'≤g + 1∧tgt=(fns L.M g').b d q fr' r s'∧Going wr L d s' aR∧eG wr ob fr'∧dS w ov aR∧ae (ob.toList ++ aL L ov) w wr) (fun _ i _=>x.len - (intOf i).toNat)
 case atStart=>exact⟨0,x,[],cs,g + 1,fr,s,ov,rfl,by simp,rfl,rfl,HS.out,HFS.out,Nat.le_refl _,HT0.out,H.out,cB.out,dS.refl _ _,ae.refl _ _⟩
 case round=>
  obtain⟨k,r,cs1,cs2,g',fr',s',aR,rfl,hk,jZ,hl1,hat,hfs,hgg,KG,hg,hfr,hm,hc⟩:=hrel;have hlen:=HLEN.out;obtain⟨g2,rfl,hz0,hz1⟩:=aak KG df.out;by_cases hr0 : r.len=0
  ·have hke : ¬ k < x.len:=by omega
   have HT:=zh (hz0 hr0);have HG:=zh hg;have jB:=zh hfr;have HM:=zh hm;have HC:=zh hc;clear hk jZ hl1 hat hfs hgg KG hg hfr hm hc hz0 hz1 hr0;go_wp2_with fail;refine bodyPost_end (results_none rfl _ _ _) rfl ?_;rw [HT.out];exact⟨aR,HM.out,HC.out,⟨jB.out,rfl⟩,HG.out⟩
  ·have hlt : k < x.len:=by omega
   have ht2:=hz1 hr0;have DJ : qh (fns L.M g2) d q fr' r s' ≠ .stuck:=fun hs=>df.out (by rw [ht2,hs];rfl)
   obtain⟨code,p,n1,k1,n2,k2,nm,oi,ox,a1,a2,cs',hcs2,hrs,QM,hle,hcall⟩:=aal g2 (fun g' h=>hE g' (by omega)) (fun g' h=>hB g' (by omega)) r cs2 hat hfs hr0 hg HQ.out hfr kW.out DJ;have hrw:=iD.out.kept hc eZ.out;rw [jZ,hcs2] at hrw;obtain⟨bb,off,rfl,d0,d1,d2,d3,d4,d5,d6⟩:=J5 hrw hl1;have hz:=ag.new wr #[.int .i64 0,.int .i64 0,str [],aJ,aJ,ah,ah] 168;obtain⟨wA,az⟩ : ∃ wA,wr.alloc (.cells #[.int .i64 0,.int .i64 0,str [],aJ,aJ,ah,ah] 168)=wA:=⟨_,rfl⟩
   rw [az] at hz;have hcA:ae [] wr wA:=by rw [← az];exact(ae.refl _ _).alloc _
   obtain⟨wF,hwF,aV,aG⟩:=J4 (.int .i64 code) (.int .i64 p) (str nm) (.pointer oi) (.pointer ox) (.slice a1 n1 k1) (.slice a2 n2 k2) hz;have hcw:ae [] wr wF:=hcA.trans aV (fun x hx=>.inr (by simp at hx;omega));have g0:=hcA.aH d0 (by simp);have g1:=hcA.aH d1 (by simp);have g2':=hcA.aH d2 (by simp);have g3:=hcA.aH d3 (by simp);have g4:=hcA.aH d4 (by simp);have g5:=hcA.aH d5 (by simp);have g6:=hcA.aH d6 (by simp);have z0:=hz.cell 0 _ rfl;have z1:=hz.cell 1 _ rfl;have z2:=hz.cell 2 _ rfl;have z3:=hz.cell 3 _ rfl;have z4:=hz.cell 4 _ rfl;have z5:=hz.cell 5 _ rfl;have z6:=hz.cell 6 _ rfl;have y0:=hz.frozen 0;have y1:=hz.frozen 1;have y2:=hz.frozen 2;have y3:=hz.frozen 3;have y4:=hz.frozen 4;have y5:=hz.frozen 5;have y6:=hz.frozen 6;have e0:=aG.cell 0 _ rfl;have e1:=aG.cell 1 _ rfl;have e2:=aG.cell 2 _ rfl;have e3:=aG.cell 3 _ rfl;have e4:=aG.cell 4 _ rfl;have e5:=aG.cell 5 _ rfl;have e6:=aG.cell 6 _ rfl;have aC:=zh hcw;have HC:=zh hc;have HM:=zh hm;have HG:=zh hg;have l5:=zh (hcall wF hcw);have aap:=zh (show cs=(cs1 ++ [.int .i64 code,.int .i64 p,str nm,.pointer oi,.pointer ox,.slice a1 n1 k1,.slice a2 n2 k2]) ++ cs' by rw [jZ,hcs2];simp);have HR:=zh hrs;have KF:=zh QM;have yU:=zh hl1;have HT2:=zh ht2;have hkr : k + ((rest r).len + 1)=x.len:=by omega
   clear hk jZ hl1 hat hfs KG hg hfr hm hc hz0 hz1 hr0 ht2 hcs2 hrs QM hle hcall hrw hcA aV aG hcw hz;cases hso : qh (fns L.M g2) d q fr' r s' with
   | stuck=>exact absurd hso DJ
   | stop way s3=>
    rw [hso] at l5;have HT:=zh (show tgt = .stop way s3 by rw [HT2.out,hso];rfl);clear hso DJ;go_wp2_with fail;refine l5.out.mono ?_;rintro e w4 ⟨uW,iK,hc4,⟨older,hol,rfl⟩,d',hg4⟩;obtain⟨rU,bC⟩:=tV HM.out HC.out (yX iK aC.out) (aC.out.weak.then hc4);have oV:=zh rU;have cO:=zh bC;have gL:=zh hg4;clear iK hc4 hg4 rU bC;go_wp2_with fail;refine⟨rfl,?_⟩;rw [HT.out];exact⟨uW,oV.out,cO.out,⟨older,hol,rfl⟩,d',gL.out⟩
   | ok y s3=>
    obtain⟨fl,xw⟩:=y;rw [hso] at l5;cases fl with
    | ret n9=>
     have HT:=zh (show tgt = .ok (.ret n9,xw) s3 by rw [HT2.out,hso];rfl);clear hso DJ;go_wp2_with fail;refine l5.out.mono ?_;rintro e w4 ⟨uW,iK,hc4,⟨mW,hfl⟩,hg4⟩;simp only at hfl;subst hfl;obtain⟨rU,bC⟩:=tV HM.out HC.out (yX iK aC.out) (aC.out.weak.then hc4);have oV:=zh rU;have cO:=zh bC;have gL:=zh hg4;have DI:=zh mW;clear iK hc4 hg4 rU bC mW;go_wp2_with fail;refine⟨rfl,?_⟩;rw [HT.out];exact⟨uW,oV.out,cO.out,⟨DI.out,rfl⟩,gL.out⟩
    | go=>
     have HT:=zh (show tgt=(fns L.M g2).b d q xw (rest r) s3 by rw [HT2.out,hso];rfl);clear hso DJ;go_wp2_with fail;refine l5.out.mono ?_;rintro e w4 ⟨uW,iK,hc4,⟨mW,hfl⟩,hg4⟩;simp only at hfl;subst hfl;obtain⟨rU,bC⟩:=tV HM.out HC.out (yX iK aC.out) (aC.out.weak.then hc4);have QN : ∀ x∈ob.toList ++ aL L aR,¬ L.Fix x:=fun x hx hf=>by
      rcases List.mem_append.1 hx with hx|hx
      ·exact eZ.out x (List.mem_append_left _ hx) hf
      ·exact HG.out.dz x hx hf
     have HR4:=zh ((HR.out.kept aC.out (by simp)).kept hc4 QN);have oV:=zh rU;have cO:=zh bC;have gL:=zh hg4;have DI:=zh mW;clear iK hc4 hg4 rU bC mW QN;go_wp2_with fail;exact⟨⟨k + 1,rest r,_,cs',g2,xw,s3,uW,by go_num,by omega,aap.out,by have:=yU.out;simp;omega,HR4.out,KF.out,by omega,HT.out,gL.out,DI.out,oV.out,cO.out⟩,by simp [intOf];omega⟩
end Go.Proofs.YtechofppmnnomaaGreatDoor
namespace Go.Mq.Run
open Go Go.RowKit Go.Mq Go.Mq.Tree
abbrev uX (n:Int):Value:=.iface 106 (.agg #[num n])
abbrev kJ (way:Nat):Value:=.iface 162 (.agg #[num way])
end Go.Mq.Run
namespace Go.Proofs.YtechofppmnnomaaGreatDoor
open Go Go.RowKit Go.Mq Go.Mq.Tree Go.Mq.Run
set_option maxRecDepth 100000
set_option maxHeartbeats 2000000
theorem aaq (b8 b4 br d:Nat) (c0 c1 c3:Value) (w:World) (h4 : w.cell? ⟨b4,0,none⟩=some (ptr br)) (hr:ag w br #[c0,c1,num (d + 1:Nat),c3] 160) (hd : d≤30):CallsD Tryz.prog 103 #[ptr b8,ptr b4] .returning w fun e u' w'=>
   e = .returned (.tuple #[])∧u' = .returning∧ae [br] w w'∧ag w' br #[c0,c1,num d,c3] 160:=by
 refine callsD_of_wpS Tryz.func103 rfl fun c₀ cs hu=>?_
 simp only [Tryz.ntmps103,List.size_toArray,List.length_cons,List.length_nil,Nat.reduceAdd,Nat.reduceSub,Array.replicate_succ,Array.replicate_zero,List.push_toArray,List.append_toArray,List.nil_append,List.cons_append];have r2:=hr.cell 2 _ rfl;have y2:=hr.frozen 2;have HR:=zh hr;clear hr
 apply wpS_seq
 apply wpS_seq
 apply wpS_region
 simp [wpOpsS,go_sem,recoverD,hu,Exit.thenS]
 refine wpS_of_wp ?_;go_wp2_with fail;refine wpS_of_wp ?_;go_wp2_with fail;have hset:=HR.out.set 2 (num d);have hch:ae [br] w (w.setCell ⟨br,2,none⟩ (num d)):=ae.set1 _ _ _ _;refine⟨rfl,.returning,by cases c₀;simp_all,.tuple #[],results_none rfl _ _ _,rfl,rfl,?_⟩;exact⟨hch,by simpa using hset⟩
theorem aar (b8 b4 br d:Nat) (n z:Int) (c0 c1 c3:Value) (w:World) (h4 : w.cell? ⟨b4,0,none⟩=some (ptr br)) (h8:ag w b8 #[num z] 2) (hr:ag w br #[c0,c1,num (d + 1:Nat),c3] 160) (hd : d≤30) (hne : b8≠br) (rV : b8≠b4) :
  CallsD Tryz.prog 103 #[ptr b8,ptr b4] (.panicking [{ v:=uX n,recovered:=false }]) w fun e u' w'=>
   e = .returned (.tuple #[])∧u' = .panicking [{ v:=uX n,recovered:=true }]∧ae [br,b8] w w'∧ag w' br #[c0,c1,num d,c3] 160∧ag w' b8 #[num n] 2:=by
 have yA : ∀ w,(Instr.typeAssert (uX n) 20 106 true).run Tryz.prog w = .ok (.tuple #[.agg #[num n],.bool true]) w:=fun _=>rfl
 refine callsD_of_wpS Tryz.func103 rfl fun c₀ cs hu=>?_
 simp only [Tryz.ntmps103,List.size_toArray,List.length_cons,List.length_nil,Nat.reduceAdd,Nat.reduceSub,Array.replicate_succ,Array.replicate_zero,List.push_toArray,List.append_toArray,List.nil_append,List.cons_append];obtain⟨wX,lM⟩ : ∃ x,w.alloc (.cells #[num 0] 106)=x:=⟨_,rfl⟩
 have hx:=ag.new w #[num 0] 106;rw [lM] at hx;have iT:ae [] w wX:=by rw [← lM];exact(ae.refl _ _).alloc _
 have x0:=hx.cell 0 _ rfl;have xf:=hx.frozen 0;obtain⟨w1,hw1⟩ : ∃ x,wX.setCell ⟨w.heap.size,0,none⟩ (num n)=x:=⟨_,rfl⟩
 have hx1:ag w1 w.heap.size #[num n] 106:=by rw [← hw1];simpa using hx.set 0 (num n)
 have hc1:ae [] w w1:=iT.trans (by rw [← hw1];exact ae.set1 _ _ _ _) (fun x hx=>.inr (by simp at hx;omega));have x1:=hx1.cell 0 _ rfl;have h81:=h8.kept hc1 (by simp);have f8:=h81.frozen 0;have e8:=h81.cell 0 _ rfl;obtain⟨w2,hw2⟩ : ∃ x,w1.setCell ⟨b8,0,none⟩ (num n)=x:=⟨_,rfl⟩
 have nR:ae [b8] w1 w2:=by rw [← hw2];exact ae.set1 _ _ _ _
 have h82:ag w2 b8 #[num n] 2:=by rw [← hw2];simpa using h81.set 0 (num n)
 have hr2:=(hr.kept hc1 (by simp)).kept nR (by simpa using Ne.symm hne);have q4:=nR.aH (hc1.aH h4 (by simp)) (by simpa using Ne.symm rV);have r2:=hr2.cell 2 _ rfl;have y2:=hr2.frozen 2;have HR2:=zh hr2;have H82:=zh h82;have HC:=zh (hc1.weak.then nR);have df:=zh hne;clear hr h8 hx iT hx1 hc1 h81 nR h82 hr2 hne rV h4
 apply wpS_seq
 apply wpS_seq
 apply wpS_region
 simp [wpOpsS,go_sem,recoverD,hu,Exit.thenS]
 refine wpS_of_wp ?_;go_wp2_with fail;refine wpS_of_wp ?_;go_wp2_with fail;have hset:=HR2.out.set 2 (num d);have hch:ae [br] w2 (w2.setCell ⟨br,2,none⟩ (num d)):=ae.set1 _ _ _ _;refine⟨rfl,.panicking [{ v:=uX n,recovered:=true }],rfl,.tuple #[],results_none rfl _ _ _,rfl,rfl,?_⟩;exact⟨(HC.out.mono (fun x hx=>.inl (by simp at hx;simp [hx]))).then (hch.mono (fun x hx=>.inl (by simp at hx;simp [hx]))),by simpa using hset,H82.out.kept hch (by simpa using df.out)⟩
theorem aat (b8 b4:Nat) (way:Nat) (older:List PanicEntry) (w:World) :
  CallsD Tryz.prog 103 #[ptr b8,ptr b4] (.panicking ({ v:=kJ way,recovered:=false } :: older)) w fun e u' w'=>
   e = .panicked [{ v:=kJ way,recovered:=false }]∧u' = .panicking ({ v:=kJ way,recovered:=true } :: older)∧ae [] w w':=by
 have yA : ∀ w,(Instr.typeAssert (kJ way) 20 106 true).run Tryz.prog w = .ok (.tuple #[.agg #[num 0],.bool false]) w:=fun _=>rfl
 refine callsD_of_wpS Tryz.func103 rfl fun c₀ cs hu=>?_
 simp only [Tryz.ntmps103,List.size_toArray,List.length_cons,List.length_nil,Nat.reduceAdd,Nat.reduceSub,Array.replicate_succ,Array.replicate_zero,List.push_toArray,List.append_toArray,List.nil_append,List.cons_append];obtain⟨wX,lM⟩ : ∃ x,w.alloc (.cells #[num 0] 106)=x:=⟨_,rfl⟩
 have hx:=ag.new w #[num 0] 106;rw [lM] at hx;have iT:ae [] w wX:=by rw [← lM];exact(ae.refl _ _).alloc _
 have x0:=hx.cell 0 _ rfl;have xf:=hx.frozen 0;have hc1:ae [] w (wX.setCell ⟨w.heap.size,0,none⟩ (num 0)):=iT.trans (ae.set1 _ _ _ _) (fun x hx=>.inr (by simp at hx;omega));have HC:=zh hc1;clear hx iT hc1
 apply wpS_seq
 apply wpS_seq
 apply wpS_region
 simp [wpOpsS,go_sem,recoverD,hu,Exit.thenS]
 refine wpS_of_wp ?_;go_wp2_with fail;refine⟨rfl,.panicking ({ v:=kJ way,recovered:=true } :: older),rfl,rfl,rfl,HC.out⟩
end Go.Proofs.YtechofppmnnomaaGreatDoor
namespace Go.Mq.Run
open Go Go.RowKit Go.Mq Go.Mq.Tree
open Go.Mq.fo (aZ getM dB)
def uY (l:List (Nm × Int)):Fr:=l.foldl (fun f x=>jX f x.1 x.2) []
def AY (l:List Nm) (f:Fr):Fr:=l.foldl (fun f n=>jX f n 0) f
theorem aau (l:List (Nm × Int)) (x:Nm × Int) : uY (l ++ [x])=jX (uY l) x.1 x.2:=by rw [uY,List.foldl_append];rfl
theorem aav (l:List Nm) (f:Fr) (n:Nm) : AY (l ++ [n]) f=jX (AY l f) n 0:=by rw [AY,List.foldl_append];rfl
theorem aaw (p:aX) (args:List Int) : frame p args=AY p.vars (uY (p.params.zip args)):=rfl
theorem zo {α:Type} {l:List α} {k:Nat} {x : α} (h : l[k]?=some x) : l.take (k + 1)=l.take k ++ [x]:=by
 rw [List.take_add_one,h];rfl
theorem QO {w:World} {F:Nat→Prop} {a:Option Addr} {cs:List Value} (h:Row w F a cs):Row w (fun b=>b < w.heap.size∧F b) a cs:=⟨h.at_,fun h0 p hp=>⟨by
 obtain⟨b,off,he,hc⟩:=h.at_ h0;subst hp;cases he
 exact lt_of_cell (hc 0 _ (List.getElem?_eq_getElem h0)),h.own h0 p hp⟩⟩
theorem Going.QP {w w':World} {L:Lay} {d:Nat} {s:St} {ov:Value} {Z:List Nat} (h:Going w L d s ov) {f d':Nat} (hc:ae Z w w') (hZ : ∀ x∈Z,x=L.br∨(x∉aL L ov∧¬ L.Fix x)) (hb:ag w' L.br #[ptr L.bw,num f,num d',ov] 160) (hd : d'≤30) (hf : f≤9223372036854775807):Going w' L d' { s with fuel:=f } ov:=
 ⟨h.lay,h.stat.kept hc (fun x hx=>by
  rcases hZ x hx with rfl|⟨_,h2⟩
  ·exact J8 h
  ·exact h2),hb,h.dyn.kept hc fun q n b k hq hm=>by
  have ha:=(h.lay.arr hq).1;rcases hZ b hm with rfl|⟨h1,_⟩
  ·exact AL h ha
  ·exact h1 (List.mem_cons_of_mem _ (List.mem_append_right _ ha)),fun hx=>by
  obtain⟨cs,f,hh⟩:=h.oJ hx;refine⟨cs,f,?_⟩;rw [hc.block _ (Array.getElem?_eq_some_iff.1 hh).1 (fun hm=>by
   rcases hZ _ hm with rfl|⟨h1,_⟩
   ·exact AL h hx
   ·exact h1 (List.mem_cons_of_mem _ (List.mem_append_right _ hx)))]
  exact hh,cK h.out hc (fun g hg hm=>by
  rcases hZ g hm with rfl|⟨h1,_⟩
  ·exact J6 h hg
  ·exact h1 (List.mem_cons_of_mem _ (List.mem_append_left _ hg))),h.from_,h.few,hd,hf⟩
end Go.Mq.Run
namespace Go.Proofs.YtechofppmnnomaaGreatDoor
open Go Go.RowKit Go.Mq Go.Mq.Tree Go.Mq.Run
open Go.Mq.fo (aZ getM dB jo)
open Go.Mq.Sym (xe)
open Go.Mq.Check (fI cu bK dx)
set_option maxRecDepth 100000
set_option maxHeartbeats 4000000
theorem QQ (tmps:Array Value) (b8:Nat) (n:Int) (w:World) (h8 : tmps[8]?.getD undef=ptr b8) (hb:ag w b8 #[num n] 2) : (results Tryz.f67 tmps).run Tryz.prog w = .ok (num n) w:=by
 have d0:=hb.cell 0 _ rfl;simp [results,Tryz.results67,h8,go_sem,d0]
theorem aax (tmps:Array Value) (b8 b4 way:Nat) (older:List PanicEntry) (w:World) (R:Ending→World→Prop) (hR : ∀ w',ae [] w w'→R (.panicked ({ v:=kJ way,recovered:=false } :: { v:=kJ way,recovered:=true } :: older)) w') :
  Leaves Tryz.prog Tryz.f67 tmps R [{ target:=.fn (.func 103) #[ptr b8,ptr b4],args:=#[] }] (.panicking ({ v:=kJ way,recovered:=false } :: older)) w:=by
 refine leaves_cons (f:=103) (args:=#[ptr b8,ptr b4]) (by simp) (by simp [go_sem]) ?_;refine(aat b8 b4 way older w).mono ?_;rintro e u' w'' ⟨rfl,rfl,hc⟩;exact hR w'' hc
theorem aay (tmps:Array Value) (b8 b4 br d:Nat) (n z:Int) (c0 c1 c3:Value) (w:World) (R:Ending→World→Prop) (KH : tmps[8]?.getD undef=ptr b8) (h4 : w.cell? ⟨b4,0,none⟩=some (ptr br)) (h8:ag w b8 #[num z] 2) (hr:ag w br #[c0,c1,num (d + 1:Nat),c3] 160) (hd : d≤30) (hne : b8≠br) (rV : b8≠b4)
  (hR : ∀ w',ae [br,b8] w w'→ag w' br #[c0,c1,num d,c3] 160→R (.returned (num n)) w') :
  Leaves Tryz.prog Tryz.f67 tmps R [{ target:=.fn (.func 103) #[ptr b8,ptr b4],args:=#[] }] (.panicking [{ v:=uX n,recovered:=false }]) w:=by
 refine leaves_cons (f:=103) (args:=#[ptr b8,ptr b4]) (by simp) (by simp [go_sem]) ?_;refine(aar b8 b4 br d n z c0 c1 c3 w h4 h8 hr hd hne rV).mono ?_;rintro e u' w'' ⟨rfl,rfl,hc,hb,eD⟩;exact⟨_,QQ tmps b8 n w'' KH eD,hR w'' hc hb⟩
theorem aaz (tmps:Array Value) (b8 b4 br d:Nat) (z:Int) (c0 c1 c3:Value) (w:World) (R:Ending→World→Prop) (KH : tmps[8]?.getD undef=ptr b8) (h4 : w.cell? ⟨b4,0,none⟩=some (ptr br)) (h8:ag w b8 #[num z] 2) (hr:ag w br #[c0,c1,num (d + 1:Nat),c3] 160) (hd : d≤30) (hne : b8≠br)
  (hR : ∀ w',ae [br] w w'→ag w' br #[c0,c1,num d,c3] 160→R (.returned (num z)) w') :
  Leaves Tryz.prog Tryz.f67 tmps R [{ target:=.fn (.func 103) #[ptr b8,ptr b4],args:=#[] }] .returning w:=by
 refine leaves_cons (f:=103) (args:=#[ptr b8,ptr b4]) (by simp) (by simp [go_sem]) ?_;refine(aaq b8 b4 br d c0 c1 c3 w h4 hr hd).mono ?_;rintro e u' w'' ⟨rfl,rfl,hc,hb⟩;exact⟨_,QQ tmps b8 z w'' KH (h8.kept hc (by simpa using hne)),hR w'' hc hb⟩
theorem aaA:yM 0:=fun _ _ _ _ _ _ _ _ _ _ _ ho=>absurd rfl ho
theorem aaB (g:Nat) (hB:uM g):yM (g + 1):=by
 intro L d q p args s w ov vp vv vb a c m h hq hvp hvv hvb DK hlb hlp hlv hrow hargs hne0;have mO : ∀ (fn:Fn) (first cap:Array Value) (w:World),(Instr.makeFunc fn first cap).run Tryz.prog w = .ok (.func fn first cap) w:=fun _ _ _ _=>rfl
 have hmm:=@run_makeMap Tryz.prog;obtain⟨tgt,ht⟩ : ∃ o,o=(fns L.M (g + 1)).c d q p args s:=⟨_,rfl⟩
 rw [← ht] at hne0 ⊢;have ht0 : tgt=mg (fns L.M g) d q p args s:=ht
 unfold mg at ht0
 have aaC:=h.deep;obtain⟨w0,hw0⟩ : ∃ x,w.alloc (.cells #[ptr L.br] 104)=x:=⟨_,rfl⟩
 have hb0:ag w0 w.heap.size #[ptr L.br] 104:=by rw [← hw0];exact ag.new w _ _
 have hc0:ae [] w w0:=by rw [← hw0];exact(ae.refl _ _).alloc _
 have hs0 : w0.heap.size=w.heap.size + 1:=by rw [← hw0];simp
 obtain⟨w1,hw1⟩ : ∃ x,w0.alloc (.cells #[str p.name,num p.pos,.bool p.seen,vp,vv,vb] 72)=x:=⟨_,rfl⟩
 have hb1:ag w1 w0.heap.size #[str p.name,num p.pos,.bool p.seen,vp,vv,vb] 72:=by rw [← hw1];exact ag.new w0 _ _
 have hc1:ae [] w0 w1:=by rw [← hw1];exact(ae.refl _ _).alloc _
 have hs1 : w1.heap.size=w.heap.size + 1 + 1:=by rw [← hw1];simp [hs0]
 obtain⟨wA,az⟩ : ∃ x,w1.alloc (.cells #[num 0] 2)=x:=⟨_,rfl⟩
 have eD:ag wA w1.heap.size #[num 0] 2:=by rw [← az];exact ag.new w1 _ _
 have hc2:ae [] w1 wA:=by rw [← az];exact(ae.refl _ _).alloc _
 have hsA : wA.heap.size=w.heap.size + 1 + 1 + 1:=by rw [← az];simp [hs1]
 have hcA:ae [] w wA:=(hc0.then hc1).then hc2
 have GG:=hb0.kept (hc1.then hc2) (by simp);have GH:=hb1.kept hc2 (by simp);have k0:=GG.cell 0 _ rfl;have hrun:=h.run.kept hcA (by simp);have r2:=hrun.cell 2 _ rfl;have y2:=hrun.frozen 2;have HA:=zh (h.kept hcA);have rX:=zh hcA;have HB0:=zh GG;have HB1:=zh GH;have AZ:=zh eD;have df:=zh hne0;have HQ:=zh hq;have HVP:=zh (hvp.kept hcA (by simp));have GI:=zh (hvv.kept hcA (by simp));have KI:=zh (hvb.kept hcA (by simp));have iD:=zh ((QO hrow).kept hcA (by simp));have QR:=zh DK;have HLB:=zh hlb;have dW:=zh h.lt;have HSA:=zh hsA;cases hd : decide (d=30) with
 | true=>
  have uZ : d=30:=of_decide_eq_true hd;have HT:=zh (show tgt = .stop 4 s by rw [ht0,if_pos uZ]);have HS:=zh (fun w=>Ay 4 w);rw [uZ] at r2;clear h hq hvp hvv hvb DK hlb hrow hne0 ht ht0 hb0 hc0 hb1 hc1 eD hc2 hcA GG GH hrun hd uZ hs0 hs1 hsA y2
  go_enter_defers Tryz.func67,Tryz.ntmps67
  go_wp2_with fail;refine(HS.out wA).mono ?_;rintro _ _ ⟨⟨older,hol,rfl⟩,hw⟩;have hw:=hw.symm;subst hw;go_wp2_with fail;simp only [bodyPostD,Leaves];rw [HT.out];exact aj.after (aj.halted HA.out (ae.refl _ _) ⟨older,hol,rfl⟩) rX.out
 | false=>
  have uZ : d≠30:=of_decide_eq_false hd;have hdt : ((d:Int) == 30)=false:=by simp;omega
  rw [if_neg uZ] at ht0;by_cases hal : args.length < p.params.length
  ·exact absurd (by rw [ht0,if_pos hal]) hne0
  rw [if_neg hal] at ht0;have GJ:=zh (show d≤30 from aaC);have KJ:=zh (show p.params.length≤args.length by omega);have HT0:=zh ht0;obtain⟨wB,fA⟩ : ∃ x,wA.setCell ⟨L.br,2,none⟩ (num ((d:Int) + 1))=x:=⟨_,rfl⟩
  have hcB:ae [L.br] wA wB:=by rw [← fA];exact ae.set1 _ _ _ _
  have QS:ag wB L.br #[ptr L.bw,num s.fuel,num (d + 1:Nat),ov] 160:=by rw [← fA];simpa using hrun.set 2 (num ((d:Int) + 1))
  have hgB:Going wB L (d + 1) s ov:=(h.kept hcA).P8 hcB QS (by omega) h.most;have xm:L.br < w.heap.size:=h.run.lt;have e0:=hcB.aH k0 (by simp;omega);have KL:=GH.kept hcB (by simp;omega);have hsB : wB.heap.size=wA.heap.size:=by rw [← fA];simp
  obtain⟨wC,yS⟩ : ∃ x,wB.alloc (.map #[] 0)=x:=⟨_,rfl⟩
  have KM:aZ wC wB.heap.size []:=by rw [← yS];exact aZ.made wB
  have hcC:ae [] wB wC:=by rw [← yS];exact(ae.refl _ _).alloc _
  have hlC : wB.heap.size < wC.heap.size:=KM.lt;have e3:=(KL.kept hcC (by simp)).cell 3 _ rfl;obtain⟨bf,hbf⟩ : ∃ b,b=wB.heap.size:=⟨_,rfl⟩
  obtain⟨b8,KN⟩ : ∃ b,b=w1.heap.size:=⟨_,rfl⟩
  obtain⟨b6,KO⟩ : ∃ b,b=w0.heap.size:=⟨_,rfl⟩
  have fZ:L.br < w.heap.size∧w.heap.size < b6∧b6 < b8∧b8 < bf:=by omega
  have fC:=zh fZ;have HGC:=zh (hgB.kept hcC);have iH:=zh hcB;have gK:=zh hcC;have GK:=zh KM;have ah6:=zh xm;have QT:=zh ((eD.kept hcB (by simp;omega)).kept hcC (by simp));have HE0:=zh (hcC.aH e0 (by simp));have KP:=zh (KL.kept hcC (by simp));have GL : ∀ x∈[L.br],¬ L.Fix x:=by simpa using J8 h
  have aaI:=zh ((HVP.out.kept hcB GL).kept hcC (by simp));have aaJ:=zh ((GI.out.kept hcB GL).kept hcC (by simp));have aaK:=zh ((KI.out.kept hcB GL).kept hcC (by simp));have aaL:=zh ((iD.out.kept hcB (fun x hx=>by simp at hx;subst hx;exact fun hh=>hh.2 List.mem_cons_self)).kept hcC (by simp));obtain⟨ap,cp,rfl,hcp,hrp⟩:=hvp;obtain⟨av,cv,rfl,hcv,hrv⟩:=hvv;obtain⟨_,_,nQ,_,QU⟩:=aaI.out;cases nQ
  obtain⟨_,_,nQ,_,QV⟩:=aaJ.out;cases nQ
  have HRP:=zh QU;have HRV:=zh QV;have l7:=zh (show ∀ b,w.heap.size≤b→¬ L.Fix b from fun b hb hf=>by have:=h.lay.fix hf;omega);clear h hq hvb DK hlb hrow hne0 ht ht0 hb0 hc0 hb1 hc1 eD hc2 hcA GG GH hrun hd uZ hcB QS hgB KL KM hcC hal hrp hrv QU QV GL xm hsB fZ hlC hsA hs0 hs1
  go_enter_defers Tryz.func67,Tryz.ntmps67
  go_wp2_with fail;clear hw0 hw1 az fA yS e0 e3 k0 r2 y2;rw [← hbf,← KN,← KO];rw [← hbf] at GK;rw [← KN] at QT;rw [← KO] at KP;clear hbf KN KO
  go_loopw [10,11,31] (fun _ _ i wr=>∃ k:Nat,i = .int .i64 k∧k≤p.params.length∧aZ wr bf ((uY ((p.params.zip args).take k)).map fun p=>(p.1,num p.2))∧ae [bf] wC wr) (fun _ _ i _=>p.params.length - (intOf i).toNat)
  case atStart=>exact⟨0,rfl,Nat.zero_le _,GK.out,ae.refl _ _⟩
  case round=>
   obtain⟨k,rfl,hk,hmap,hc⟩:=hrel;have HC:=zh hc;have fZ:=fC.out;by_cases hlt : k < p.params.length
   ·have hal:=KJ.out
    obtain⟨n,hn⟩ : ∃ n,p.params[k]?=some n:=⟨p.params[k],List.getElem?_eq_getElem hlt⟩
    obtain⟨z,hz⟩ : ∃ z,args[k]?=some z:=⟨args[k]'(by omega),List.getElem?_eq_getElem (by omega)⟩
    obtain⟨bb,off,rfl,d0⟩:=xe (HRP.out.kept hc (by simpa using l7.out bf (by omega))) hn;obtain⟨ba,ah7,rfl,aO⟩:=(aaL.out.kept hc (fun x hx=>by simp at hx;subst hx;exact fun hh=>by have:=hh.1;omega)).at_ (by simp;omega);have d1:=aO k (num z) (by rw [List.getElem?_map,hz];rfl);obtain⟨w5,hu,zq,bC⟩:=jo (P:=Tryz.prog) Tryz.underlying165 Tryz.underlying9 hmap n (num z);have oV:=zh (show aZ w5 bf ((uY ((p.params.zip args).take (k + 1))).map fun p=>(p.1,num p.2)) by
     rw [JN] at zq;rw [zo (show (p.params.zip args)[k]?=some (n,z) by rw [List.getElem?_zip_eq_some];exact⟨hn,hz⟩),aau];exact zq)
    have cO:=zh (HC.out.then bC);have hka : k < args.length:=by omega
    clear hmap hc hn hz aO zq bC hal;go_wp2_with fail;exact⟨⟨k + 1,by go_num,by omega,oV.out,cO.out⟩,by simp [intOf];omega⟩
   ·have hkn : k=p.params.length:=by omega
    have HMP:=zh (show aZ wr bf ((uY (p.params.zip args)).map fun p=>(p.1,num p.2)) by
     rw [List.take_of_length_le (by rw [List.length_zip];omega)] at hmap;exact hmap)
    have hb6:=KP.out.kept hc (by simp;omega);have e4:=hb6.cell 4 _ rfl;clear hmap hc hb6;go_wp2_with fail;clear e4
    go_loopw [13,46] (fun _ i wr=>∃ k:Nat,i = .int .i64 k∧k≤p.vars.length∧aZ wr bf ((AY (p.vars.take k) (uY (p.params.zip args))).map fun p=>(p.1,num p.2))∧ae [bf] wC wr) (fun _ i _=>p.vars.length - (intOf i).toNat)
    case atStart=>exact⟨0,rfl,Nat.zero_le _,HMP.out,HC.out⟩
    case round=>
     obtain⟨k,rfl,hk,hmap,hc⟩:=hrel;clear HC;have HC:=zh hc;by_cases hlt : k < p.vars.length
     ·obtain⟨n,hn⟩ : ∃ n,p.vars[k]?=some n:=⟨p.vars[k],List.getElem?_eq_getElem hlt⟩
      obtain⟨bb,off,rfl,d0⟩:=xe (HRV.out.kept hc (by simpa using l7.out bf (by omega))) hn;obtain⟨w5,hu,zq,bC⟩:=jo (P:=Tryz.prog) Tryz.underlying165 Tryz.underlying9 hmap n (num 0);have oV:=zh (show aZ w5 bf ((AY (p.vars.take (k + 1)) (uY (p.params.zip args))).map fun p=>(p.1,num p.2)) by
       rw [JN] at zq;rw [zo hn,aav];exact zq)
      have cO:=zh (HC.out.then bC);clear hmap hc hn zq bC;go_wp2_with fail;exact⟨⟨k + 1,by go_num,by omega,oV.out,cO.out⟩,by simp [intOf];omega⟩
     ·have cB:=zh (show eG wr (some bf) (frame p args) by
       rw [List.take_of_length_le (by omega)] at hmap;exact .inr ⟨bf,rfl,by rw [aaw];exact hmap⟩)
      have QW : ∀ x∈[bf],¬ L.Fix x:=by simpa using l7.out bf (by omega)
      have hgr:Going wr L (d + 1) s ov:=HGC.out.aside hc (fun x hx=>by
       simp at hx
       subst hx;exact⟨fun hm=>by
        rcases List.mem_cons.1 hm with rfl|hm
        ·omega
        ·have:=dW.out x (List.mem_cons_of_mem _ hm);omega,l7.out x (by omega)⟩)
      have bS:=zh (hB hgr HQ.out cB.out (fun b hb=>by cases hb;exact l7.out bf (by omega)) (aaK.out.kept hc QW) QR.out HLB.out (fun hs=>df.out (by rw [HT0.out,hs];rfl)));have hb6:=KP.out.kept hc (by simp;omega);have e5:=hb6.cell 5 _ rfl;have e0:=hc.aH HE0.out (by simp;omega);have GM:=zh (QT.out.kept hc (by simp;omega));have KQ:=zh e0;have hnm : ∀ x,w.heap.size≤x→x∉aL L ov:=fun x hx hm=>by have:=dW.out x hm;omega
      have lW:=zh hnm;have jM:=zh hc.size;have KR:=GM.out.lt;have KS:=lt_of_cell e0;have KU:=zh KR;have ah8:=zh KS;have aC:=zh (show ae [L.br] w wr from((rX.out.weak.then iH.out).then gK.out.weak).trans hc (fun x hx=>.inr (by simp at hx;omega)));clear hmap hc hgr QW hb6 hnm KR KS;go_wp2_with fail;cases hr : (fns L.M g).b (d + 1) q (frame p args) p.body s with
      | stuck=>exact absurd (by rw [HT0.out,hr];rfl) df.out
      | stop way s2=>
       rw [hr] at bS;have HT:=zh (show tgt = .stop way s2 by rw [HT0.out,hr];rfl);clear hr;refine bS.out.mono ?_;rintro e w2 ⟨bU,hm,hc,⟨older,hol,rfl⟩,d',hg⟩;have xx:=lH (L:=L) hm KU.out (lW.out b8 (by have:=fC.out;omega));have rY:=GM.out.kept hc (by simp only [List.mem_append,List.mem_singleton,not_or,Option.toList];exact⟨by have:=fC.out;simp;omega,lW.out b8 (by have:=fC.out;omega)⟩);have xy:=hc.aH KQ.out (fun hm=>(List.mem_append.1 hm).elim (fun h=>by have:=fC.out;simp [Option.toList] at h;omega) (fun h=>lW.out _ (Nat.le_refl _) h));have bD:=zh (yX hm aC.out);have HG2:=zh hg;have GN:=zh xx;have A7:=zh rY;have A8:=zh xy;have aD:=zh (show ae (aL L ov) w w2 from(aC.out.mono (fun x hx=>.inl (by simp at hx;subst hx;exact List.mem_cons_self))).trans hc (fun x hx=>by
        rcases List.mem_append.1 hx with hx|hx
        ·exact .inr (by have:=fC.out;simp at hx;omega)
        ·exact .inl hx))
       clear hm hc hg xx rY xy;go_wp2_with fail;refine aax _ b8 w.heap.size way older w2 _ (fun w' hc=>?_);rw [HT.out];exact⟨bU,bD.out,by simpa using aD.out.then hc.weak,⟨_ :: older,by simp [hol],rfl⟩,d',HG2.out.kept hc⟩
      | ok y s2=>
       obtain⟨fl,fr2⟩:=y;rw [hr] at bS;cases fl with
       | ret n9=>
        have HT:=zh (show tgt = .ok n9 s2 by rw [HT0.out,hr];rfl);clear hr;refine bS.out.mono ?_;rintro e w2 ⟨bU,hm,hc,⟨_,hfl⟩,hg⟩;simp only at hfl;subst hfl;have xx:=lH (L:=L) hm KU.out (lW.out b8 (by have:=fC.out;omega));have rY:=GM.out.kept hc (by simp only [List.mem_append,List.mem_singleton,not_or,Option.toList];exact⟨by have:=fC.out;simp;omega,lW.out b8 (by have:=fC.out;omega)⟩);have xy:=hc.aH KQ.out (fun hm=>(List.mem_append.1 hm).elim (fun h=>by have:=fC.out;simp [Option.toList] at h;omega) (fun h=>lW.out _ (Nat.le_refl _) h));have bD:=zh (yX hm aC.out);have HG2:=zh hg;have GN:=zh xx;have A7:=zh rY;have A8:=zh xy;have aD:=zh (show ae (aL L ov) w w2 from(aC.out.mono (fun x hx=>.inl (by simp at hx;subst hx;exact List.mem_cons_self))).trans hc (fun x hx=>by
         rcases List.mem_append.1 hx with hx|hx
         ·exact .inr (by have:=fC.out;simp at hx;omega)
         ·exact .inl hx))
        clear hm hc hg xx rY xy;go_wp2_with fail;refine aay _ b8 w.heap.size L.br d n9 0 _ _ _ w2 _ rfl A8.out A7.out HG2.out.run GJ.out (by have:=fC.out;omega) (by have:=fC.out;omega) (fun w' hc hb=>?_);rw [HT.out];refine⟨bU,bD.out,?_,rfl,HG2.out.QP hc (fun x hx=>?_) hb GJ.out HG2.out.most⟩
        ·exact aD.out.trans hc (fun x hx=>by
          simp at hx
          rcases hx with rfl|rfl
          ·exact .inl List.mem_cons_self
          ·exact .inr (by have:=fC.out;omega))
        ·simp at hx
         rcases hx with rfl|rfl
         ·exact .inl rfl
         ·exact .inr ⟨GN.out,l7.out _ (by have:=fC.out;omega)⟩
       | go=>
        have HT:=zh (show tgt = .ok 0 s2 by rw [HT0.out,hr];rfl);clear hr;refine bS.out.mono ?_;rintro e w2 ⟨bU,hm,hc,⟨_,hfl⟩,hg⟩;simp only at hfl;subst hfl;have xx:=lH (L:=L) hm KU.out (lW.out b8 (by have:=fC.out;omega));have rY:=GM.out.kept hc (by simp only [List.mem_append,List.mem_singleton,not_or,Option.toList];exact⟨by have:=fC.out;simp;omega,lW.out b8 (by have:=fC.out;omega)⟩);have xy:=hc.aH KQ.out (fun hm=>(List.mem_append.1 hm).elim (fun h=>by have:=fC.out;simp [Option.toList] at h;omega) (fun h=>lW.out _ (Nat.le_refl _) h));have bD:=zh (yX hm aC.out);have HG2:=zh hg;have GN:=zh xx;have A7:=zh rY;have A8:=zh xy;have aD:=zh (show ae (aL L ov) w w2 from(aC.out.mono (fun x hx=>.inl (by simp at hx;subst hx;exact List.mem_cons_self))).trans hc (fun x hx=>by
         rcases List.mem_append.1 hx with hx|hx
         ·exact .inr (by have:=fC.out;simp at hx;omega)
         ·exact .inl hx))
        clear hm hc hg xx rY xy;have x8:=A7.out.frozen 0;have v8:=A7.out.cell 0 _ rfl;go_wp2_with fail;have A9:=A7.out.set 0 (num 0);have hc8:ae [b8] w2 (w2.setCell ⟨b8,0,none⟩ (num 0)):=ae.set1 _ _ _ _;have fZ:=fC.out;refine aaz _ b8 w.heap.size L.br d 0 _ _ _ _ _ rfl (hc8.aH A8.out (by simp;omega)) (by simpa using A9) (HG2.out.run.kept hc8 (by simp;omega)) GJ.out (by omega) (fun w' hc hb=>?_);rw [HT.out];have hct:ae [L.br,b8] w2 w':=(hc8.mono (fun x hx=>.inl (by simp at hx;simp [hx]))).then (hc.mono (fun x hx=>.inl (by simp at hx;simp [hx])))
        refine⟨bU,bD.out,?_,rfl,HG2.out.QP hct (fun x hx=>?_) hb GJ.out HG2.out.most⟩
        ·exact aD.out.trans hct (fun x hx=>by
          simp at hx
          rcases hx with rfl|rfl
          ·exact .inl List.mem_cons_self
          ·exact .inr (by omega))
        ·simp at hx
         rcases hx with rfl|rfl
         ·exact .inl rfl
         ·exact .inr ⟨GN.out,l7.out _ (by omega)⟩
end Go.Proofs.YtechofppmnnomaaGreatDoor
namespace Go.Proofs.YtechofppmnnomaaGreatDoor
open Go Go.RowKit Go.Mq Go.Mq.Tree Go.Mq.Run
theorem KV : ∀ g,(∀ g',g'≤g→jd g')∧(∀ g',g'≤g→yM g')∧(∀ g',g'≤g→uM g')
 | 0=>⟨fun g' h=>by rw [Nat.le_zero.1 h];exact Zz,fun g' h=>by rw [Nat.le_zero.1 h];exact aaA,fun g' h=>by rw [Nat.le_zero.1 h];exact aam⟩
 | g + 1=>by
  obtain⟨hE,hC,hB⟩:=KV g;refine⟨fun g' h=>?_,fun g' h=>?_,fun g' h=>?_⟩
  ·rcases Nat.lt_or_ge g' (g + 1) with h1|h1
   ·exact hE g' (by omega)
   ·rw [show g'=g + 1 by omega];exact ZA g hE (hC g (Nat.le_refl _))
  ·rcases Nat.lt_or_ge g' (g + 1) with h1|h1
   ·exact hC g' (by omega)
   ·rw [show g'=g + 1 by omega];exact aaB g (hB g (Nat.le_refl _))
  ·rcases Nat.lt_or_ge g' (g + 1) with h1|h1
   ·exact hB g' (by omega)
   ·rw [show g'=g + 1 by omega];exact aan g hE hB
theorem aaS (g:Nat):yM g:=(KV g).2.1 g (Nat.le_refl _)
theorem aaT (g:Nat):uM g:=(KV g).2.2 g (Nat.le_refl _)
end Go.Proofs.YtechofppmnnomaaGreatDoor
