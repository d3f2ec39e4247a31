/- Some texts in one. -/
import Derived.Shelf.Strings.Prefix
import Derived.Test.YtechofppmnnomaaGreatDoorB1
import Derived.Test.YtechofppmnnomaaGreatDoorB7
import Derived.Test.YtechofppmnnomaaGreatDoorB8
namespace Go.Mq.Tree
open Go Go.RowKit Go.Mq
theorem lU.ag8 {α β:Type} {w w1 w2:World} {B bp bs' bx bt z en p:Nat} {V:World→α→Prop} {V':World→β→Prop} {e:Ending} (h:lU w1 B bp bx bt z (.bad en p:R α) V e w2) (hc:ae [bp,bs'] w w1) (hx : w.heap.size≤bx):lU w B bp bs' bt z (.bad en p:R β) V' e w2:=by
 obtain⟨hc2,b,he,hb,hB⟩:=h;exact⟨hc.trans hc2 (fun x hm=>by simp at hm;rcases hm with rfl|rfl;exact .inl (by simp);exact .inr hx),b,he,Nat.le_trans hc.size hb,hB⟩
theorem yz (z d:Nat) (ts:List Tok) : (bodies z (d + 1)).2 ts=nH z (bodies z d).1 (bodies z d).2 ts:=rfl
end Go.Mq.Tree
namespace Go.Proofs.YtechofppmnnomaaGreatDoor
open Go Go.RowKit Go.Mq Go.Mq.Tree
set_option maxRecDepth 100000
set_option maxHeartbeats 8000000
def I5 (deep d:Nat):Prop:=∀ (w:World) (B bp bt z:Nat) (ts:List Tok),bQ w B bp bt z ts→Calls Tryz.prog 76 #[ptr bp,.int .i64 deep] w (eP w B bp bt z ((bodies z d).1 ts) (fun w' s v=>fT w' (New w w') s v))
def Ci (deep d:Nat):Prop:=∀ (p:Nat) (w:World) (B bp bs' bt z:Nat) (ts:List Tok),bQ w B bp bt z ts→ag w bs' (kC p) 168→B≤bs'→bs'≠bp→bs'≠bt →
  Calls Tryz.prog 135 #[ptr bp,ptr bs',.int .i64 deep] w (lU w B bp bs' bt z ((bodies z d).2 ts) (fun w' x=>NH w' (New w w') bs' (.ifs p x.1 x.2.1 x.2.2 .nil)))
theorem VX {deep d:Nat} (h:I5 (deep + 1) d) : ∀ (w:World) (B bp bt z:Nat) (ts:List Tok),bQ w B bp bt z ts→Calls Tryz.prog 76 #[ptr bp,.int .i64 ((deep:Int) + 1)] w (eP w B bp bt z ((bodies z d).1 ts) (fun w' s v=>fT w' (New w w') s v)):=fun w B bp bt z ts hp=>by
 have:=h w B bp bt z ts hp
 simpa using this
theorem ag9 {deep d:Nat} (h:Ci (deep + 1) d) : ∀ (p:Nat) (w:World) (B bp bs' bt z:Nat) (ts:List Tok),bQ w B bp bt z ts→ag w bs' (kC p) 168→B≤bs'→bs'≠bp→bs'≠bt →
  Calls Tryz.prog 135 #[ptr bp,ptr bs',.int .i64 ((deep:Int) + 1)] w (lU w B bp bs' bt z ((bodies z d).2 ts) (fun w' x=>NH w' (New w w') bs' (.ifs p x.1 x.2.1 x.2.2 .nil))):=fun p w B bp bs' bt z ts hp h1 h2 h3 h4=>by
 have:=h p w B bp bs' bt z ts hp h1 h2 h3 h4
 simpa using this
theorem rest_step (deep d:Nat) (hdp : deep≤10) (hB:I5 (deep + 1) d) (hR:Ci (deep + 1) d∨d=0):Ci deep (d + 1):=by
 intro p w B bp bs' bt z ts h hbs hB' hne hnt;have AQ:=zh (VX hB);have HRN:=zh hR;have hbp:=h.ru;have hbt:=h.vT;have hbl:=hbs.lt;have hB0:=h.laid.le;have jP:=zh hbs;have HE:=zh (Fh w B bp bt z ts h);have hwr:=E9 (deep:=deep) (by omega);clear h hbs hB hR
 go_enter Tryz.func135,Tryz.ntmps135
 go_wp2_with fail;refine HE.out.mono ?_;intro e w1 he;rcases he.part with⟨en,q,b9,rfl,hx,aW⟩|⟨aK,rK,hx,he⟩
 ·go_wp2_with fail;exact⟨rfl,by rw [show (bodies z (d + 1)).2 ts = .bad en q by rw [yz,nH];simp only [hx.out]];exact aW.out.vW (ae.refl _ _)⟩
 have fK:=hx;obtain⟨v,rfl⟩ : ∃ v,v=aK:=⟨aK,rfl⟩
 obtain⟨r,rfl⟩ : ∃ r,r=rK:=⟨rK,rfl⟩
 obtain⟨hc1,v1,rfl,hv1,hp1⟩:=he;clear hx;obtain⟨b1,rfl⟩:=hv1.ptr;have hb1:=jP.out.kept hc1 (by simpa using hne);have f0:=hb1.frozen 0;have f4:=hb1.frozen 4;have e0:=hb1.cell 0 _ rfl;have e4:=hb1.cell 4 _ rfl;have hb2:=(hb1.set 0 (.int .i64 2)).set 4 (ptr b1);have hc2:ae [bs'] w1 ((w1.setCell ⟨bs',0,none⟩ (.int .i64 2)).setCell ⟨bs',4,none⟩ (ptr b1)):=(ae.set1 _ _ _ _).then (ae.set1 _ _ _ _)
 have cZ:=zh hc1;have D5:=zh (show aY ((w1.setCell ⟨bs',0,none⟩ (.int .i64 2)).setCell ⟨bs',4,none⟩ (ptr b1)) (New w _) v [ptr b1] from(hv1.kept hc2 (fun x hx hn=>by simp at hx;have:=hn.1;omega)).mono (fun x hx=>⟨hx.1,Nat.lt_of_lt_of_le hx.2 hc2.size⟩));have Ab:=zh (hp1.kept hc2 (fun x hx=>by simp at hx;omega) (by simpa using Ne.symm hne) (by simpa using Ne.symm hnt));have HB2:=zh (by simpa using hb2:ag ((w1.setCell ⟨bs',0,none⟩ (.int .i64 2)).setCell ⟨bs',4,none⟩ (ptr b1)) bs' #[.int .i64 2,.int .i64 p,str [],aJ,ptr b1,ah,ah] 168);have aD:=zh hc2;clear hc1 hv1 hp1 hb1 hb2 hc2;go_wp2_with fail
 generalize (w1.setCell ⟨bs',0,none⟩ (.int .i64 2)).setCell ⟨bs',4,none⟩ (ptr b1)=w2 at *
 have iy:=zh (gN [116,104,101,110] w2 B bp bt z r Ab.out);go_wp2_with fail;refine iy.out.mono ?_;intro e w3 he;rcases he.part with⟨en,q,b9,rfl,hx,aW⟩|⟨aK,rK,hx,he⟩
 ·go_wp2_with fail;exact⟨rfl,by rw [show (bodies z (d + 1)).2 ts = .bad en q by rw [yz,nH];simp only [fK.out,hx.out]];exact aW.out.vW ((s1 cZ.out).then (s2 aD.out))⟩
 have nu:=hx;obtain⟨r2,rfl⟩ : ∃ r2,r2=rK:=⟨rK,rfl⟩
 obtain⟨hc3,_,rfl,rfl,hp3⟩:=he;clear hx;have bG:=zh hc3;have oG:=zh (AQ.out w3 B bp bt z r2 hp3);clear hc3 hp3;go_wp2_with fail;refine oG.out.mono ?_;intro e w4 he;rcases he.part with⟨en,q,b9,rfl,hx,aW⟩|⟨aK,rK,hx,he⟩
 ·go_wp2_with fail;exact⟨rfl,by rw [show (bodies z (d + 1)).2 ts = .bad en q by rw [yz,nH];simp only [fK.out,nu.out,hx.out]];exact aW.out.vW (((s1 cZ.out).then (s2 aD.out)).then (s1 bG.out))⟩
 have Cj:=hx;obtain⟨t,rfl⟩ : ∃ t,t=aK:=⟨aK,rfl⟩
 obtain⟨r3,rfl⟩ : ∃ r3,r3=rK:=⟨rK,rfl⟩
 obtain⟨hc4,v4,rfl,⟨a4,k4,Fj,rfl,hl4,hr4,hs4⟩,gz⟩:=he;clear hx;have hb4:=(HB2.out.kept bG.out (by simpa using hne)).kept hc4 (by simpa using hne);have f5:=hb4.frozen 5;have e5:=hb4.cell 5 _ rfl;have hb5:=hb4.set 5 (.slice a4 t.len k4);have bC:ae [bs'] w4 (w4.setCell ⟨bs',5,none⟩ (.slice a4 t.len k4)):=ae.set1 _ _ _ _;have NK:=zh hl4;have Ff:ae [bp,bs'] w w4:=((((s1 cZ.out).then (s2 aD.out)).then (s1 bG.out)).then (s1 hc4));have hv4:aY w4 (New w w4) v [ptr b1]:=(D5.out.grown hbp (bG.out.then hc4));have hsz : w.heap.size≤w3.heap.size:=(((s1 cZ.out).then (s2 aD.out)).then (s1 bG.out)).size;have rV : ∀ x,New w3 w4 x→New w w4 x:=fun x hx=>⟨Nat.le_trans hsz hx.1,hx.2⟩
 have hk5 : ∀ x∈[bs'],¬ New w w4 x:=fun x hx hn=>by simp at hx;have:=hn.1;omega
 have hg5 : ∀ x,New w w4 x→New w (w4.setCell ⟨bs',5,none⟩ (.slice a4 t.len k4)) x:=fun x hx=>⟨hx.1,Nat.lt_of_lt_of_le hx.2 bC.size⟩
 have HV5:=zh (show aY (w4.setCell ⟨bs',5,none⟩ (.slice a4 t.len k4)) (New w _) v [ptr b1]∧Row (w4.setCell ⟨bs',5,none⟩ (.slice a4 t.len k4)) (New w _) a4 Fj∧dJ (w4.setCell ⟨bs',5,none⟩ (.slice a4 t.len k4)) (New w _) t Fj from⟨(hv4.kept bC hk5).mono hg5,((hr4.mono rV).kept bC hk5).mono hg5,((hs4.mono rV).kept bC hk5).mono hg5⟩);have nD:=zh (gz.kept bC (fun x hx=>by simp at hx;omega) (by simpa using Ne.symm hne) (by simpa using Ne.symm hnt));have qR:=zh (by simpa using hb5:ag (w4.setCell ⟨bs',5,none⟩ (.slice a4 t.len k4)) bs' [.int .i64 2,.int .i64 p,str [],aJ,ptr b1,.slice a4 t.len k4,ah].toArray 168);have Ck:=zh (Ff.then (s2 bC));clear hc4 hl4 hr4 hs4 gz hb4 hb5 bC Ff hv4 hsz rV hk5 hg5;have pq:=zh Ck.out.size;go_wp2_with fail
 generalize w4.setCell ⟨bs',5,none⟩ (.slice a4 t.len k4)=w5 at *
 have pz:=zh (yl [101,108,115,105,102] w5 B bp bt z r3 nD.out);refine pz.out.mono ?_;rintro _ w6 ⟨rfl,iq⟩;have aha:=iq.symm;subst aha;clear iq;cases h4 : see [101,108,115,105,102] r3 with
 | true=>
  have HI4:=zh h4;clear h4;rcases HRN.out with hrn|rfl
  ·have ahb:=zh (ag9 hrn)
   clear hrn;obtain⟨off,c,nn,c0,c2⟩:=Fb nD.out;have dH:=nD.out.kept ((ae.refl [] w5).alloc (.cells (kC (hd z r3)) 168)) (by simp) (by simp) (by simp);have hb6:=ag.new w5 (kC (hd z r3)) 168;have hc6:ae [bp] w5 (w5.alloc (.cells (kC (hd z r3)) 168)):=(ae.refl _ _).alloc _;have lS:=zh hb6;have bI:=zh hc6;have Af:=zh (gN [101,108,115,105,102] _ B bp bt z r3 dH);rw [must,HI4.out,if_pos rfl] at Af;have Rj : bp < w5.heap.size:=Nat.lt_of_lt_of_le hbp pq.out;have ai4 : bt < w5.heap.size:=Nat.lt_of_lt_of_le hbt pq.out;have ai5 : bs' < w5.heap.size:=Nat.lt_of_lt_of_le hbl pq.out;have hS5:=pq.out;clear dH hb6 hc6;go_wp2_with fail;refine Af.out.mono ?_;rintro e w7 ⟨dQ,_,rfl,rfl,mJ⟩;have BD:=zh (bI.out.then dQ);have dR:=lS.out.kept dQ (by simp;omega);have rz:=zh dR;have HM:=zh (ahb.out (hd z r3) w7 B bp w5.heap.size bt z r3.tail mJ dR (by omega) (by omega) (by omega));clear dQ dR mJ c0 c2;go_wp2_with fail;refine HM.out.mono ?_;intro e w8 he;rcases he.part with⟨en,q,b9,rfl,hx,aW⟩|⟨aK,rK,hx,he⟩
   ·go_wp2_with fail;exact⟨rfl,by rw [show (bodies z (d + 1)).2 ts = .bad en q by rw [yz,nH];simp only [fK.out,nu.out,Cj.out];rw [if_pos HI4.out];simp only [hx.out]];exact aW.out.ag8 (Ck.out.then (s1 BD.out)) (by omega)⟩
   have HX7:=hx;have HRR:=zh (show (bodies z (d + 1)).2 ts = .ok (v,t,.ifs (hd z r3) aK.1 aK.2.1 aK.2.2 .nil) rK by rw [yz,nH];simp only [fK.out,nu.out,Cj.out];rw [if_pos HI4.out,HX7.out]);obtain⟨hc8,rfl,⟨cs8,eD,A9⟩,mH⟩:=he;clear hx;have NA:=zh A9;obtain⟨u8,a8,k8,ts8,a9,k9,es8,cs9,rfl,_,_,_,_,_,_,_,hnil⟩:=A9;obtain rfl : cs9=[]:=hnil;have d0:=eD.cell 0 _ rfl;have d1:=eD.cell 1 _ rfl;have d2:=eD.cell 2 _ rfl;have d3:=eD.cell 3 _ rfl;have d4:=eD.cell 4 _ rfl;have d5:=eD.cell 5 _ rfl;have d6:=eD.cell 6 _ rfl;have eU:=zh hc8;have vV:=zh mH;have Fp:=(qR.out.kept BD.out (by simpa using hne)).kept hc8 (by simp;omega);have f6:=Fp.frozen 6;have e6:=Fp.cell 6 _ rfl;have AZ:=zh Fp;have KR:=Fp.lt;clear hc8 mH eD Fp;go_wp2_with fail;refine bodyPost_end (results_none rfl _ _ _) rfl ?_;rw [HRR.out];have hz8 : (w8.setCell ⟨bs',6,none⟩ (.slice (some ⟨w8.heap.size,0,none⟩) 1 1)).heap.size=w8.heap.size:=by simp [World.setCell]
   have bg:=(AZ.out.set 6 (.slice (some ⟨w8.heap.size,0,none⟩) 1 1)).kept ((ae.refl [] _).alloc (.cells #[.int .i64 2,.int .i64 (hd z r3),str [],aJ,u8,.slice a8 aK.2.1.len k8,.slice a9 aK.2.2.len k9] 168)) (by simp);have hbn:=ag.new (w8.setCell ⟨bs',6,none⟩ (.slice (some ⟨w8.heap.size,0,none⟩) 1 1)) #[.int .i64 2,.int .i64 (hd z r3),str [],aJ,u8,.slice a8 aK.2.1.len k8,.slice a9 aK.2.2.len k9] 168;have bN:ae [bs'] w8 ((w8.setCell ⟨bs',6,none⟩ (.slice (some ⟨w8.heap.size,0,none⟩) 1 1)).alloc (.cells #[.int .i64 2,.int .i64 (hd z r3),str [],aJ,u8,.slice a8 aK.2.1.len k8,.slice a9 aK.2.2.len k9] 168)):=(ae.set1 _ _ _ _).alloc _;rw [hz8] at hbn;clear f6 e6 d0 d1 d2 d3 d4 d5 d6
   generalize (w8.setCell ⟨bs',6,none⟩ (.slice (some ⟨w8.heap.size,0,none⟩) 1 1)).alloc (.cells #[.int .i64 2,.int .i64 (hd z r3),str [],aJ,u8,.slice a8 aK.2.1.len k8,.slice a9 aK.2.2.len k9] 168)=w9 at *
   have hk:ae [bp,w5.heap.size] w5 w8:=(BD.out.mono (fun x hx=>.inl (by simp at hx;simp [hx]))).then eU.out
   have hcW:ae [bp,bs'] w w9:=(Ck.out.trans hk (fun x hx=>by simp at hx;rcases hx with rfl|rfl;exact .inl (by simp);exact .inr pq.out)).then (s2 bN)
   have hbk : ∀ x∈[bp,w5.heap.size],¬ New w w5 x:=fun x hx hn=>by simp at hx;have:=hn.1;have:=hn.2;omega
   have ai9 : w5.heap.size≤w9.heap.size:=Nat.le_trans hk.size bN.size;have hg5 : ∀ x,New w w5 x→New w w8 x:=fun x hx=>⟨hx.1,Nat.lt_of_lt_of_le hx.2 hk.size⟩
   have I6 : ∀ x∈[bs'],¬ New w w8 x:=fun x hx hn=>by simp at hx;have:=hn.1;omega
   have I7 : ∀ x,New w w8 x→New w w9 x:=fun x hx=>⟨hx.1,Nat.lt_of_lt_of_le hx.2 bN.size⟩
   have hs7 : w.heap.size≤w7.heap.size:=Nat.le_trans pq.out BD.out.size;have ahf:dJ w8 (New w w8) _ _:=NA.out.mono (fun x hx=>⟨Nat.le_trans hs7 hx.1,hx.2⟩);have ahg:ag w9 bs' [.int .i64 2,.int .i64 p,str [],aJ,ptr b1,.slice a4 t.len k4,.slice (some ⟨w8.heap.size,0,none⟩) 1 1].toArray 168:=by simpa using bg
   refine⟨hcW,rfl,⟨_,ahg,ptr b1,a4,k4,Fj,some ⟨w8.heap.size,0,none⟩,1,_,[],rfl,?_,NK.out,?_,?_,Nat.le_refl _,?_,(ahf.kept bN I6).mono I7,rfl⟩,vV.out.kept bN (fun x hx=>by simp at hx;omega) (by simpa using Ne.symm hne) (by simpa using Ne.symm hnt)⟩
   ·exact(((HV5.out.1.kept hk hbk).mono hg5).kept bN I6).mono I7
   ·exact(((HV5.out.2.1.kept hk hbk).mono hg5).kept bN I6).mono I7
   ·exact(((HV5.out.2.2.kept hk hbk).mono hg5).kept bN I6).mono I7
   ·refine⟨fun _=>⟨w8.heap.size,0,rfl,fun i x hx=>?_⟩,fun _ q hq=>?_⟩
    ·rw [Nat.zero_add];exact hbn.cell i x (by simpa using hx)
    ·cases hq;exact⟨Nat.le_trans hs7 eU.out.size,hbn.lt⟩
  ·have:=Cj.out
   cases this
 | false=>
  have HI4:=zh h4;clear h4;have lL:=zh (kQ [101,108,115,101] w5 B bp bt z r3 nD.out);cases h5 : see [101,108,115,101] r3 with
  | true=>
   have fG:=zh h5;clear h5;go_wp2_with fail;refine lL.out.mono ?_;rintro _ w6 ⟨rfl,dH,hc6,_⟩;rw [fG.out];rw [skip,fG.out,if_pos rfl] at dH;have bI:=zh hc6;have ahh:=zh (AQ.out w6 B bp bt z r3.tail dH);clear dH hc6;go_wp2_with fail;refine ahh.out.mono ?_;intro e w7 he;rcases he.part with⟨en,q,b9,rfl,hx,aW⟩|⟨aK,rK,hx,he⟩
   ·go_wp2_with fail;exact⟨rfl,by rw [show (bodies z (d + 1)).2 ts = .bad en q by rw [yz,nH];simp only [fK.out,nu.out,Cj.out];rw [if_neg (by rw [HI4.out];simp),if_pos fG.out];simp only [hx.out]];exact aW.out.vW (Ck.out.then (s1 bI.out))⟩
   have NL:=hx;have HRR:=zh (show (bodies z (d + 1)).2 ts = .ok (v,t,aK) rK by rw [yz,nH];simp only [fK.out,nu.out,Cj.out];rw [if_neg (by rw [HI4.out];simp),if_pos fG.out,NL.out]);obtain⟨dQ,v7,rfl,⟨a7,k7,VY,rfl,vP,Cf,hs7⟩,mJ⟩:=he;clear hx;have fF:=zh dQ;have Ag:=zh mJ;have HV7:=zh (And.intro vP (And.intro Cf hs7));have dR:=qR.out.kept (bI.out.then dQ) (by simpa using hne);have f6:=dR.frozen 6;have e6:=dR.cell 6 _ rfl;have eD:=dR.set 6 (.slice a7 aK.len k7);have hc8:ae [bs'] w7 (w7.setCell ⟨bs',6,none⟩ (.slice a7 aK.len k7)):=ae.set1 _ _ _ _;have AZ:=zh eD;have eU:=zh hc8;clear dQ mJ vP Cf hs7 dR eD hc8;go_wp2_with fail;refine bodyPost_end (results_none rfl _ _ _) rfl ?_;rw [HRR.out];have Fq:ae [bp] w5 w7:=bI.out.then fF.out
   have hbn : ∀ x∈[bp],¬ New w w5 x:=fun x hx hn=>by simp at hx;have:=hn.1;omega
   have hgrow : ∀ x,New w w5 x→New w w7 x:=fun x hx=>⟨hx.1,Nat.lt_of_lt_of_le hx.2 Fq.size⟩
   have VZ : w.heap.size≤w6.heap.size:=Nat.le_trans pq.out bI.out.size;have Fs : ∀ x∈[bs'],¬ New w w7 x:=fun x hx hn=>by simp at hx;have:=hn.1;omega
   have Fu : ∀ x,New w w7 x→New w (w7.setCell ⟨bs',6,none⟩ (.slice a7 aK.len k7)) x:=fun x hx=>⟨hx.1,Nat.lt_of_lt_of_le hx.2 eU.out.size⟩
   obtain⟨vP,Cf,hs7⟩:=HV7.out;have V3 : ∀ x,New w6 w7 x→New w w7 x:=fun x hx=>⟨Nat.le_trans VZ hx.1,hx.2⟩
   refine⟨(Ck.out.then (s1 Fq)).then (s2 eU.out),rfl,⟨_,by simpa using AZ.out,ptr b1,a4,k4,Fj,a7,k7,VY,[],rfl,?_,NK.out,?_,?_,vP,?_,?_,rfl⟩,Ag.out.kept eU.out (fun x hx=>by simp at hx;omega) (by simpa using Ne.symm hne) (by simpa using Ne.symm hnt)⟩
   ·exact(((HV5.out.1.kept Fq hbn).mono hgrow).kept eU.out Fs).mono Fu
   ·exact(((HV5.out.2.1.kept Fq hbn).mono hgrow).kept eU.out Fs).mono Fu
   ·exact(((HV5.out.2.2.kept Fq hbn).mono hgrow).kept eU.out Fs).mono Fu
   ·exact((Cf.mono V3).kept eU.out Fs).mono Fu
   ·exact((hs7.mono V3).kept eU.out Fs).mono Fu
  | false=>
   have fG:=zh h5;clear h5;have HRR:=zh (show (bodies z (d + 1)).2 ts = .ok (v,t,.nil) r3 by rw [yz,nH];simp only [fK.out,nu.out,Cj.out];rw [if_neg (by rw [HI4.out];simp),if_neg (by rw [fG.out];simp)]);go_wp2_with fail;refine lL.out.mono ?_;rintro _ w6 ⟨rfl,_,_,hw⟩;rw [fG.out];have hw':=(hw fG.out).symm;subst hw';clear hw;go_wp2_with fail;refine bodyPost_end (results_none rfl _ _ _) rfl ?_;rw [HRR.out];exact⟨Ck.out,rfl,⟨_,qR.out,ptr b1,a4,k4,Fj,none,0,[],[],rfl,HV5.out.1,NK.out,HV5.out.2.1,HV5.out.2.2,Nat.le_refl _,Row.nil _ _ _,rfl,rfl⟩,nD.out⟩
end Go.Proofs.YtechofppmnnomaaGreatDoor
namespace Go.Mq.Tree
open Go Go.RowKit Go.Mq
theorem V4 {z p:Nat} {ts r:List Tok} {s:S} (h : first z p ts = .ok s r) : s.len=1:=by
 rw [first] at h
 repeat' (split at h)
 all_goals first|(cases h;rfl)|cases h|(rename_i h2;split at h2;all_goals first|cases h2|(cases h;rfl))
theorem S.len_nil {s:S} (h : s.len=0) : s = .nil:=by
 cases s <;> first|rfl|(simp [S.len] at h)
theorem ow.ptr {w:World} {F:Nat→Prop} {i:Option E} {u:Value} (h:ow w F i u) : ∃ b,u = .pointer b:=by
 cases i with
 | none=>exact⟨_,h⟩
 | some x=>obtain⟨b,rfl⟩:=aY.ptr h;exact⟨_,rfl⟩
theorem dJ.shape {w:World} {F:Nat→Prop} {s:S} {cs:List Value} (h:dJ w F s cs) (hl : s.len=1) : ∃ (k p:Int) (n:List UInt8) (i v:Option Addr) (a1:Option Addr) (l1 c1:Nat) (a2:Option Addr) (l2 c2:Nat),
  cs=[.int .i64 k,.int .i64 p,str n,.pointer i,.pointer v,.slice a1 l1 c1,.slice a2 l2 c2]:=by
 cases s with
 | nil=>cases hl
 | set p n i v r=>
  obtain⟨ui,uv,cs',rfl,h2,h3,h4⟩:=h;obtain rfl:=S.len_nil (s:=r) (by simp [S.len] at hl;exact hl);obtain rfl : cs'=[]:=h4;obtain⟨b,rfl⟩:=h2.ptr;obtain⟨c,rfl⟩:=h3.ptr;exact⟨_,_,_,_,_,_,_,_,_,_,_,rfl⟩
 | ifs p v t e r=>
  obtain⟨uv,a1,c1,ts,a2,c2,es,cs',rfl,h2,h3,h4,h5,h6,h7,h8,h9⟩:=h;obtain rfl:=S.len_nil (s:=r) (by simp [S.len] at hl;exact hl);obtain rfl : cs'=[]:=h9;obtain⟨c,rfl⟩:=h2.ptr;exact⟨_,_,_,_,_,_,_,_,_,_,_,rfl⟩
 | dE p v t r=>
  obtain⟨uv,a1,c1,ts,cs',rfl,h2,h3,h4,h5,h6⟩:=h;obtain rfl:=S.len_nil (s:=r) (by simp [S.len] at hl;exact hl);obtain rfl : cs'=[]:=h6;obtain⟨c,rfl⟩:=h2.ptr;exact⟨_,_,_,_,_,_,_,_,_,_,_,rfl⟩
 | ret p v r=>
  obtain⟨uv,cs',rfl,h2,h3⟩:=h;obtain rfl:=S.len_nil (s:=r) (by simp [S.len] at hl;exact hl);obtain rfl : cs'=[]:=h3;obtain⟨c,rfl⟩:=h2.ptr;exact⟨_,_,_,_,_,_,_,_,_,_,_,rfl⟩
 | dI p v r=>
  obtain⟨uv,cs',rfl,h2,h3⟩:=h;obtain rfl:=S.len_nil (s:=r) (by simp [S.len] at hl;exact hl);obtain rfl : cs'=[]:=h3;obtain⟨c,rfl⟩:=h2.ptr;exact⟨_,_,_,_,_,_,_,_,_,_,_,rfl⟩
 | call p v r=>
  obtain⟨uv,cs',rfl,h2,h3⟩:=h;obtain rfl:=S.len_nil (s:=r) (by simp [S.len] at hl;exact hl);obtain rfl : cs'=[]:=h3;obtain⟨c,rfl⟩:=h2.ptr;exact⟨_,_,_,_,_,_,_,_,_,_,_,rfl⟩
end Go.Mq.Tree
namespace Go.Proofs.YtechofppmnnomaaGreatDoor
open Go Go.RowKit Go.Mq Go.Mq.Tree
set_option maxRecDepth 100000
set_option maxHeartbeats 16000000
abbrev SV (w:World):World→S→Value→Prop:=fun w' s v=>∃ cs,v = .agg cs.toArray∧cs.length=7∧dJ w' (New w w') s cs
def V5 (deep:Nat) (st:Nat→Ps S):Prop:=∀ (w:World) (B bp bt z:Nat) (ts:List Tok),bQ w B bp bt z ts→Calls Tryz.prog 111 #[ptr bp,.int .i64 deep] w (eP w B bp bt z (st z ts) (SV w))
theorem ahj {w:World} {b:Nat} (v0 v1 v2 v3 v4 v5 v6:Value) {u0 u1 u2 u3 u4 u5 u6:Value} {t:TypeId} (h:ag w b #[u0,u1,u2,u3,u4,u5,u6] t) : ∃ wF,(((((((w.setCell ⟨b,0,none⟩ v0).setCell ⟨b,1,none⟩ v1).setCell ⟨b,2,none⟩ v2).setCell ⟨b,3,none⟩ v3).setCell ⟨b,4,none⟩ v4).setCell ⟨b,5,none⟩ v5).setCell ⟨b,6,none⟩ v6)=wF∧ae [b] w wF∧ag wF b #[v0,v1,v2,v3,v4,v5,v6] t:=
 ⟨_,rfl,((((((ae.set1 _ _ _ _).then (ae.set1 _ _ _ _)).then (ae.set1 _ _ _ _)).then (ae.set1 _ _ _ _)).then (ae.set1 _ _ _ _)).then (ae.set1 _ _ _ _)).then (ae.set1 _ _ _ _),by
  have:=((((((h.set 0 v0).set 1 v1).set 2 v2).set 3 v3).set 4 v4).set 5 v5).set 6 v6
  simpa using this⟩
theorem ahk (deep d:Nat) (hdp : deep≤10) (hB:I5 (deep + 1) d) (hR:Ci deep (d + 1)):V5 deep (fun z=>stmt z (bodies z d).1 (bodies z (d + 1)).2):=by
 intro w B bp bt z ts h;have AQ:=zh (VX hB);have K7:=zh hR;have hbp:=h.ru;have hbt:=h.vT;have hB0:=h.laid.le;have hwr:=E9 (deep:=deep) (by omega);obtain⟨off,c,nn,c0,c2⟩:=Fb h;have hw1 : (w.alloc (.cells (kC 0) 168)).heap.size=w.heap.size + 1:=by simp
 have hb1:=ag.new (w.alloc (.cells (kC 0) 168)) (kC (hd z ts)) 168;rw [hw1] at hb1;obtain⟨w1,NM⟩ : ∃ x,x=(w.alloc (.cells (kC 0) 168)).alloc (.cells (kC (hd z ts)) 168):=⟨_,rfl⟩
 have H1:Hid (Mk 168 w w1 B bp bt z ts (kC 0) (kC (hd z ts)) (fun _ _=>True)):=zh (by
  rw [NM];exact⟨NG,hbp,hbt,((ae.refl _ _).alloc _).alloc _,h.kept (((ae.refl [] w).alloc _).alloc _) (by simp) (by simp) (by simp),hb1,(ag.new w _ 168).kept ((ae.refl [] _).alloc _) (by simp),by simp,trivial⟩)
 clear h hB hR hb1 hw1
 go_enter Tryz.func111,Tryz.ntmps111
 go_wp2_with fail;clear c0 c2
 change Calls _ _ _ ((w.alloc (.cells (kC 0) 168)).alloc (.cells (kC (hd z ts)) 168)) _
 rw [← NM];clear NM;have K:=zh (kQ [105,102] _ _ _ _ _ _ H1.out.par);cases hk : see [105,102] ts
 case' true=>
  have lC:=zh hk;clear hk;refine K.out.mono ?_;rintro _ w2 ⟨rfl,hp,hc,_⟩;rw [lC.out];rw [skip,lC.out,if_pos rfl] at hp;have H2:=zh (H1.out.step hc hp);clear hc hp K;have K:=zh (K7.out (hd z ts) _ _ _ _ _ _ _ H2.out.par H2.out.blk (by omega) (by omega) (by omega));go_wp2_with fail;refine K.out.mono ?_;intro e w3 he;rcases he.cut with⟨en,q,b9,rfl,hx,HE⟩|⟨x3,r3,rfl,X3,⟨cs,hb,hs⟩,hc,hp⟩
  ·go_wp2_with fail;exact⟨rfl,H2.out.bad HE.out (by rw [stmt,if_pos lC.out];simp only [hx.out])⟩
  have H3:=zh ((H2.out.loop hc hp hb).add (yn (.ifs (hd z ts) x3.1 x3.2.1 x3.2.2 .nil) cs) (hs.mono (fun x hx=>⟨Nat.le_trans H2.out.sz hx.1,hx.2⟩)));clear hc hp hb hs K he;have K:=zh (gN [101,110,100] _ _ _ _ _ _ H3.out.par);go_wp2_with fail;refine K.out.mono ?_;intro e w4 he;rcases he.cut with⟨en,q,b9,rfl,hx,HE⟩|⟨_,r4,_,rfl,X4,rfl,hc,hp⟩
  ·go_wp2_with fail;exact⟨rfl,HE.out _ _ _ H3.out.aP (by rw [stmt,if_pos lC.out];simp only [X3.out,hx.out])⟩
  have H4:=zh (H3.out.step hc hp);clear hc hp K he;obtain⟨wE,rfl⟩ : ∃ x,x=w4:=⟨_,rfl⟩
  obtain⟨sx,rE,cs,Q,H9,pz,Fv,HRR⟩ : ∃ (sx:S) (rE:List Tok) (cs:List Value) (Q:World→(Nat→Prop)→Prop),Hid (Mk 168 w wE B bp bt z rE (kC 0) cs.toArray Q)∧Hid (dJ wE (yx w wE) sx cs)∧S.len sx=1∧Hid (stmt z (bodies z d).1 (bodies z (d + 1)).2 ts = .ok sx rE):=
   ⟨(.ifs (hd z ts) x3.1 x3.2.1 x3.2.2 .nil),_,_,_,H4,zh (H4.out.q.2),rfl,zh (by rw [stmt,if_pos lC.out];simp only [X3.out,X4.out])⟩
 case' false=>
  have lC:=zh hk;clear hk;refine K.out.mono ?_;rintro _ w2 ⟨rfl,_,_,hw⟩;rw [lC.out];have hw':=(hw lC.out).symm;subst hw';clear hw K;have K:=zh (kQ [119,104,105,108,101] _ _ _ _ _ _ H1.out.par);cases hk : see [119,104,105,108,101] ts
  case' true=>
   have nE:=zh hk;clear hk;go_wp2_with fail;refine K.out.mono ?_;rintro _ w2 ⟨rfl,hp,hc,_⟩;rw [nE.out];rw [skip,nE.out,if_pos rfl] at hp;have H2:=zh (H1.out.step hc hp);clear hc hp K;have K:=zh (Fh _ _ _ _ _ _ H2.out.par);go_wp2_with fail;refine K.out.mono ?_;intro e w3 he;rcases he.cut with⟨en,q,b9,rfl,hx,HE⟩|⟨v,r3,u,rfl,X3,hv,hc,hp⟩
   ·go_wp2_with fail;exact⟨rfl,HE.out _ _ _ H2.out.aP (by rw [stmt,if_neg (by rw [lC.out];simp),if_pos nE.out];simp only [hx.out])⟩
   obtain⟨b3,rfl⟩:=hv.ptr;have H3:=zh (H2.out.call hc hp (Ad v [ptr b3]) hv);clear hc hp hv K he;obtain⟨e0,_,_,_,e4,_,_⟩:=H3.out.blk.seven;obtain⟨f0,_,_,_,f4,_,_⟩:=H3.out.blk.Cq;obtain⟨pK,hw⟩ : ∃ x,x=(w3.setCell ⟨w.heap.size + 1,0,none⟩ (.int .i64 3)).setCell ⟨w.heap.size + 1,4,none⟩ (ptr b3):=⟨_,rfl⟩
   have om:=zh ((H3.out.store 0 (.int .i64 3)).store 4 (ptr b3));simp only [Array.setIfInBounds] at om;rw [← hw] at om;have K:=zh (gN [100,111] _ _ _ _ _ _ om.out.par);go_wp2_with fail;rw [← hw];refine K.out.mono ?_;intro e w5 he;rcases he.cut with⟨en,q,b9,rfl,hx,HE⟩|⟨_,r5,_,rfl,X5,rfl,hc,hp⟩
   ·go_wp2_with fail;exact⟨rfl,HE.out _ _ _ om.out.aP (by rw [stmt,if_neg (by rw [lC.out];simp),if_pos nE.out];simp only [X3.out,hx.out])⟩
   have H5:=zh (om.out.step hc hp);clear hc hp K he;clear e0 f0 e4 f4 hw;have K:=zh (AQ.out _ _ _ _ _ _ H5.out.par);go_wp2_with fail;refine K.out.mono ?_;intro e w6 he;rcases he.cut with⟨en,q,b9,rfl,hx,HE⟩|⟨t,r6,_,rfl,X6,⟨a6,k6,cs6,rfl,hl,hr,hs⟩,hc,hp⟩
   ·go_wp2_with fail;exact⟨rfl,HE.out _ _ _ H5.out.aP (by rw [stmt,if_neg (by rw [lC.out];simp),if_pos nE.out];simp only [X3.out,X5.out,hx.out])⟩
   have H6:=zh (H5.out.call hc hp (NF t (.slice a6 t.len k6)) ⟨_,_,_,rfl,hl,hr,hs⟩);clear hc hp K he;clear hl hr hs;obtain⟨_,_,_,_,_,e5,_⟩:=H6.out.blk.seven;obtain⟨_,_,_,_,_,f5,_⟩:=H6.out.blk.Cq;obtain⟨w6b,hw⟩ : ∃ x,x=w6.setCell ⟨w.heap.size + 1,5,none⟩ (.slice a6 t.len k6):=⟨_,rfl⟩
   have Fw:=zh (H6.out.store 5 (.slice a6 t.len k6));simp only [Array.setIfInBounds] at Fw;rw [← hw] at Fw;have K:=zh (gN [101,110,100] _ _ _ _ _ _ Fw.out.par);go_wp2_with fail;rw [← hw];refine K.out.mono ?_;intro e w7 he;rcases he.cut with⟨en,q,b9,rfl,hx,HE⟩|⟨_,r7,_,rfl,X7,rfl,hc,hp⟩
   ·go_wp2_with fail;exact⟨rfl,HE.out _ _ _ Fw.out.aP (by rw [stmt,if_neg (by rw [lC.out];simp),if_pos nE.out];simp only [X3.out,X5.out,X6.out,hx.out])⟩
   have H7:=zh (Fw.out.step hc hp);clear hc hp K he;clear e5 f5 hw;obtain⟨wE,rfl⟩ : ∃ x,x=w7:=⟨_,rfl⟩
   obtain⟨sx,rE,cs,Q,H9,pz,Fv,HRR⟩ : ∃ (sx:S) (rE:List Tok) (cs:List Value) (Q:World→(Nat→Prop)→Prop),Hid (Mk 168 w wE B bp bt z rE (kC 0) cs.toArray Q)∧Hid (dJ wE (yx w wE) sx cs)∧S.len sx=1∧Hid (stmt z (bodies z d).1 (bodies z (d + 1)).2 ts = .ok sx rE):=
    ⟨(.dE (hd z ts) v t .nil),_,_,_,H7,zh (by obtain⟨a,c,VY,he,h1,h2,h3⟩:=H7.out.q.2;cases he;exact⟨_,_,_,_,[],rfl,H7.out.q.1.2,h1,h2,h3,rfl⟩),rfl,zh (by rw [stmt,if_neg (by rw [lC.out];simp),if_pos nE.out];simp only [X3.out,X5.out,X6.out,X7.out])⟩
  case' false=>
   have nE:=zh hk;clear hk;go_wp2_with fail;refine K.out.mono ?_;rintro _ w2 ⟨rfl,_,_,hw⟩;rw [nE.out];have hw':=(hw nE.out).symm;subst hw';clear hw K;have K:=zh (kQ [114,101,116,117,114,110] _ _ _ _ _ _ H1.out.par);cases hk : see [114,101,116,117,114,110] ts
   case' true=>
    have sS:=zh hk;clear hk;go_wp2_with fail;refine K.out.mono ?_;rintro _ w2 ⟨rfl,hp,hc,_⟩;rw [sS.out];rw [skip,sS.out,if_pos rfl] at hp;have H2:=zh (H1.out.step hc hp);clear hc hp K;have K:=zh (Fh _ _ _ _ _ _ H2.out.par);go_wp2_with fail;refine K.out.mono ?_;intro e w3 he;rcases he.cut with⟨en,q,b9,rfl,hx,HE⟩|⟨v,r3,u,rfl,X3,hv,hc,hp⟩
    ·go_wp2_with fail;exact⟨rfl,HE.out _ _ _ H2.out.aP (by rw [stmt,if_neg (by rw [lC.out];simp),if_neg (by rw [nE.out];simp),if_pos sS.out];simp only [hx.out])⟩
    obtain⟨b3,rfl⟩:=hv.ptr;have H3:=zh (H2.out.call hc hp (Ad v [ptr b3]) hv);clear hc hp hv K he;obtain⟨e0,_,_,_,e4,_,_⟩:=H3.out.blk.seven;obtain⟨f0,_,_,_,f4,_,_⟩:=H3.out.blk.Cq;obtain⟨pK,hw⟩ : ∃ x,(w3.setCell ⟨w.heap.size + 1,0,none⟩ (.int .i64 4)).setCell ⟨w.heap.size + 1,4,none⟩ (ptr b3)=x:=⟨_,rfl⟩
    have om:=zh ((H3.out.store 0 (.int .i64 4)).store 4 (ptr b3));simp only [Array.setIfInBounds] at om;rw [hw] at om;obtain⟨wE,rfl⟩ : ∃ x,x=pK:=⟨_,rfl⟩
    obtain⟨sx,rE,cs,Q,H9,pz,Fv,HRR⟩ : ∃ (sx:S) (rE:List Tok) (cs:List Value) (Q:World→(Nat→Prop)→Prop),Hid (Mk 168 w wE B bp bt z rE (kC 0) cs.toArray Q)∧Hid (dJ wE (yx w wE) sx cs)∧S.len sx=1∧Hid (stmt z (bodies z d).1 (bodies z (d + 1)).2 ts = .ok sx rE):=
     ⟨(.ret (hd z ts) v .nil),_,_,_,om,zh (⟨_,[],rfl,om.out.q.2,rfl⟩),rfl,zh (by rw [stmt,if_neg (by rw [lC.out];simp),if_neg (by rw [nE.out];simp),if_pos sS.out];simp only [X3.out])⟩
   case' false=>
    have sS:=zh hk;clear hk;go_wp2_with fail;refine K.out.mono ?_;rintro _ w2 ⟨rfl,_,_,hw⟩;rw [sS.out];have hw':=(hw sS.out).symm;subst hw';clear hw K;have K:=zh (kQ [119,114,105,116,101] _ _ _ _ _ _ H1.out.par);cases hk : see [119,114,105,116,101] ts
    case' true=>
     have vX:=zh hk;clear hk;go_wp2_with fail;refine K.out.mono ?_;rintro _ w2 ⟨rfl,hp,hc,_⟩;rw [vX.out];rw [skip,vX.out,if_pos rfl] at hp;have H2:=zh (H1.out.step hc hp);clear hc hp K;have K:=zh (Fh _ _ _ _ _ _ H2.out.par);go_wp2_with fail;refine K.out.mono ?_;intro e w3 he;rcases he.cut with⟨en,q,b9,rfl,hx,HE⟩|⟨v,r3,u,rfl,X3,hv,hc,hp⟩
     ·go_wp2_with fail;exact⟨rfl,HE.out _ _ _ H2.out.aP (by rw [stmt,if_neg (by rw [lC.out];simp),if_neg (by rw [nE.out];simp),if_neg (by rw [sS.out];simp),if_pos vX.out];simp only [hx.out])⟩
     obtain⟨b3,rfl⟩:=hv.ptr;have H3:=zh (H2.out.call hc hp (Ad v [ptr b3]) hv);clear hc hp hv K he;obtain⟨e0,_,_,_,e4,_,_⟩:=H3.out.blk.seven;obtain⟨f0,_,_,_,f4,_,_⟩:=H3.out.blk.Cq;obtain⟨pK,hw⟩ : ∃ x,(w3.setCell ⟨w.heap.size + 1,0,none⟩ (.int .i64 5)).setCell ⟨w.heap.size + 1,4,none⟩ (ptr b3)=x:=⟨_,rfl⟩
     have om:=zh ((H3.out.store 0 (.int .i64 5)).store 4 (ptr b3));simp only [Array.setIfInBounds] at om;rw [hw] at om;obtain⟨wE,rfl⟩ : ∃ x,x=pK:=⟨_,rfl⟩
     obtain⟨sx,rE,cs,Q,H9,pz,Fv,HRR⟩ : ∃ (sx:S) (rE:List Tok) (cs:List Value) (Q:World→(Nat→Prop)→Prop),Hid (Mk 168 w wE B bp bt z rE (kC 0) cs.toArray Q)∧Hid (dJ wE (yx w wE) sx cs)∧S.len sx=1∧Hid (stmt z (bodies z d).1 (bodies z (d + 1)).2 ts = .ok sx rE):=
      ⟨(.dI (hd z ts) v .nil),_,_,_,om,zh (⟨_,[],rfl,om.out.q.2,rfl⟩),rfl,zh (by rw [stmt,if_neg (by rw [lC.out];simp),if_neg (by rw [nE.out];simp),if_neg (by rw [sS.out];simp),if_pos vX.out];simp only [X3.out])⟩
    case' false=>
     have vX:=zh hk;clear hk;go_wp2_with fail;refine K.out.mono ?_;rintro _ w2 ⟨rfl,_,_,hw⟩;rw [vX.out];have hw':=(hw vX.out).symm;subst hw';clear hw K;have K:=zh (ag7 (hd z ts) _ _ _ _ _ _ _ H1.out.par H1.out.blk (by omega) (by omega) (by omega));go_wp2_with fail;refine K.out.mono ?_;intro e w2 he;rcases he.cut with⟨en,q,b9,rfl,hx,HE⟩|⟨x2,r2,rfl,X2,⟨cs,hb,hs⟩,hc,hp⟩
     ·go_wp2_with fail;exact⟨rfl,H1.out.bad HE.out (by rw [stmt,if_neg (by rw [lC.out];simp),if_neg (by rw [nE.out];simp),if_neg (by rw [sS.out];simp),if_neg (by rw [vX.out];simp)];simp only [hx.out])⟩
     have H2:=zh ((H1.out.loop hc hp hb).add (yn x2 cs) (hs.mono (fun x hx=>⟨Nat.le_trans H1.out.sz hx.1,hx.2⟩)));clear hc hp hb hs K he;obtain⟨wE,rfl⟩ : ∃ x,x=w2:=⟨_,rfl⟩
     obtain⟨sx,rE,cs,Q,H9,pz,Fv,HRR⟩ : ∃ (sx:S) (rE:List Tok) (cs:List Value) (Q:World→(Nat→Prop)→Prop),Hid (Mk 168 w wE B bp bt z rE (kC 0) cs.toArray Q)∧Hid (dJ wE (yx w wE) sx cs)∧S.len sx=1∧Hid (stmt z (bodies z d).1 (bodies z (d + 1)).2 ts = .ok sx rE):=
      ⟨x2,_,_,_,H2,zh (H2.out.q.2),V4 X2.out,zh (by rw [stmt,if_neg (by rw [lC.out];simp),if_neg (by rw [nE.out];simp),if_neg (by rw [sS.out];simp),if_neg (by rw [vX.out];simp)];simp only [X2.out])⟩
 all_goals
  obtain⟨k9,q9,n9,i9,v9,a9,l9,m9,b9,j9,o9,rfl⟩:=pz.out.shape Fv;obtain⟨d0,d1,d2,d3,d4,d5,d6⟩:=H9.out.blk.seven;obtain⟨e0,e1,e2,e3,e4,e5,e6⟩:=H9.out.res.seven;obtain⟨f0,f1,f2,f3,f4,f5,f6⟩:=H9.out.res.Cq;go_wp2_with fail;obtain⟨wF,hwF,aV,aG⟩:=ahj (.int .i64 k9) (.int .i64 q9) (str n9) (.pointer i9) (.pointer v9) (.slice a9 l9 m9) (.slice b9 j9 o9) H9.out.res;rw [hwF];clear hwF;obtain⟨g0,g1,g2,g3,g4,g5,g6⟩:=aG.seven;refine bodyPost_ret (v:=.agg #[.int .i64 k9,.int .i64 q9,str n9,.pointer i9,.pointer v9,.slice a9 l9 m9,.slice b9 j9 o9]) (by simp [results,Tryz.results111,go_sem,g0,g1,g2,g3,g4,g5,g6]) rfl ?_;rw [HRR.out];have hkF : ∀ x∈[w.heap.size],¬ yx w wE x:=fun x hx hn=>by simp at hx;have:=hn.1;omega
  exact⟨H9.out.aP.trans aV (fun x hx=>.inr (by simp at hx;omega)),_,rfl,⟨_,rfl,rfl,(pz.out.kept aV hkF).mono (fun x hx=>⟨by have:=hx.1;omega,Nat.lt_of_lt_of_le hx.2 aV.size⟩)⟩,H9.out.par.kept aV (fun x hx=>by simp at hx;omega) (by simp;omega) (by simp;omega)⟩
end Go.Proofs.YtechofppmnnomaaGreatDoor
namespace Go.Mq.Tree
open Go Go.RowKit Go.Mq
theorem Cm (z:Nat):pI (iA z):=BV (Cg z 11) 5
theorem ahm (z p:Nat):aN (first z p):=by
 intro ts a r h;rw [first] at h;cases hn : named z (expr z (one z 10) 5) ts with
 | bad e q=>rw [hn] at h;cases h
 | ok e r1=>
  have g1:=VK (BV (Cg z 10) 5) _ _ _ hn;rcases VV hn with⟨q,m,n,rfl⟩|⟨q,m,n,i,rfl⟩|⟨q,m,n,l,rfl⟩
  ·simp only [hn] at h
   split at h
   ·cases h
   ·cases hm : must z [58,61] r1 with
    | bad e q=>simp only [hm] at h;cases h
    | ok u r2=>
     have g2:=uE hm;simp only [hm] at h;cases hx : iA z r2 with
     | bad e q=>simp only [hx] at h;cases h
     | ok v r3=>
      have g3:=Cm z _ _ _ hx;simp only [hx] at h;cases h
      omega
  ·simp only [hn] at h
   split at h
   ·cases h
   ·cases hm : must z [58,61] r1 with
    | bad e q=>simp only [hm] at h;cases h
    | ok u r2=>
     have g2:=uE hm;simp only [hm] at h;cases hx : iA z r2 with
     | bad e q=>simp only [hx] at h;cases h
     | ok v r3=>
      have g3:=Cm z _ _ _ hx;simp only [hx] at h;cases h
      omega
  ·simp only [hn] at h
   cases h
   omega
theorem V6 {z:Nat} {bd:Ps S} {more:Ps (E × S × S)} (hb:aN bd) (hm:aN more):aN (nH z bd more):=by
 intro ts a r h;rw [nH] at h;cases h1 : iA z ts with
 | bad e q=>rw [h1] at h;cases h
 | ok v r1=>
  have g1:=Cm z _ _ _ h1;simp only [h1] at h;cases h2 : must z [116,104,101,110] r1 with
  | bad e q=>simp only [h2] at h;cases h
  | ok u r2=>
   have g2:=uE h2;simp only [h2] at h;cases h3 : bd r2 with
   | bad e q=>simp only [h3] at h;cases h
   | ok t r3=>
    have g3:=hb _ _ _ h3;simp only [h3] at h;split at h
    ·cases h4 : more r3.tail with
     | bad e q=>simp only [h4] at h;cases h
     | ok x r4=>
      have g4:=hm _ _ _ h4;simp only [h4] at h;cases h
      simp at g4;omega
    ·split at h
     ·cases h4 : bd r3.tail with
      | bad e q=>simp only [h4] at h;cases h
      | ok x r4=>
       have g4:=hb _ _ _ h4;simp only [h4] at h;cases h
       simp at g4;omega
     ·cases h;omega
theorem V7 {z:Nat} {bd:Ps S} {rest:Ps (E × S × S)} (hb:aN bd) (hr:aN rest):aN (stmt z bd rest):=by
 intro ts a r h;have ht : ts.tail.length≤ts.length:=by simp
 rw [stmt] at h;split at h
 ·cases h1 : rest ts.tail with
  | bad e q=>simp only [h1] at h;cases h
  | ok x r1=>
   have g1:=hr _ _ _ h1;simp only [h1] at h;cases h2 : must z [101,110,100] r1 with
   | bad e q=>simp only [h2] at h;cases h
   | ok u r2=>
    have g2:=uE h2;simp only [h2] at h;cases h;omega
 ·split at h
  ·cases h1 : iA z ts.tail with
   | bad e q=>simp only [h1] at h;cases h
   | ok v r1=>
    have g1:=Cm z _ _ _ h1;simp only [h1] at h;cases h2 : must z [100,111] r1 with
    | bad e q=>simp only [h2] at h;cases h
    | ok u r2=>
     have g2:=uE h2;simp only [h2] at h;cases h3 : bd r2 with
     | bad e q=>simp only [h3] at h;cases h
     | ok t r3=>
      have g3:=hb _ _ _ h3;simp only [h3] at h;cases h4 : must z [101,110,100] r3 with
      | bad e q=>simp only [h4] at h;cases h
      | ok u r4=>
       have g4:=uE h4;simp only [h4] at h;cases h;omega
  ·split at h
   ·cases h1 : iA z ts.tail with
    | bad e q=>simp only [h1] at h;cases h
    | ok v r1=>
     have g1:=Cm z _ _ _ h1;simp only [h1] at h;cases h;omega
   ·split at h
    ·cases h1 : iA z ts.tail with
     | bad e q=>simp only [h1] at h;cases h
     | ok v r1=>
      have g1:=Cm z _ _ _ h1;simp only [h1] at h;cases h;omega
    ·exact ahm z _ _ _ _ h
theorem ahn {z:Nat} {st:Ps S} (hs:aN st) : ∀ f l,aN (aQ z st f l):=by
 intro f
 induction f with
 | zero=>intro l ts a r h;cases h
 | succ f ih=>
  intro l ts a r h;rw [aQ] at h;split at h
  ·cases h;exact Nat.le_refl _
  ·cases h1 : st ts with
   | bad e q=>rw [h1] at h;cases h
   | ok s r1=>
    have g1:=hs _ _ _ h1;simp only [h1] at h;cases h2 : must z [59] r1 with
    | bad e q=>simp only [h2] at h;cases h
    | ok u r2=>
     have g2:=uE h2;simp only [h2] at h;have g3:=ih _ _ _ _ h;omega
theorem V8 (z:Nat) : ∀ d,aN (bodies z d).1∧aN (bodies z d).2:=by
 intro d
 induction d with
 | zero=>exact⟨fun ts a r h=>(by cases h),fun ts a r h=>(by cases h)⟩
 | succ d ih=>exact⟨fun ts a r h=>ahn (V7 ih.1 (V6 ih.1 ih.2)) _ _ _ _ _ h,V6 ih.1 ih.2⟩
theorem aho {z:Nat} {bd:Ps S} {rest:Ps (E × S × S)} {ts r:List Tok} {s:S} (h : stmt z bd rest ts = .ok s r) : s.len=1:=by
 rw [stmt] at h
 repeat' (split at h)
 all_goals first|(cases h;rfl)|cases h|exact V4 h|(rename_i h2;split at h2;all_goals first|cases h2|(cases h;rfl))
end Go.Mq.Tree
namespace Go.Proofs.YtechofppmnnomaaGreatDoor
open Go Go.RowKit Go.Mq Go.Mq.Tree
set_option maxRecDepth 100000
set_option maxHeartbeats 8000000
theorem ahp : (Tryz.prog.info? 168).map (fun i=>(i.zero,i.size,i.bytes))=some (some (.agg #[.int .i64 0,.int .i64 0,.string ⟨#[]⟩,.pointer none,.pointer none,.slice none 0 0,.slice none 0 0]),7,96):=by kernel_rfl
theorem ahq (deep:Nat) (hdp : deep≤10) (st:Nat→Ps S) (hS:V5 deep st) (hm : ∀ z,aN (st z)) (hl : ∀ z ts s r,st z ts = .ok s r→s.len=1) (w:World) (B bp bt z:Nat) (ts:List Tok) (h:bQ w B bp bt z ts) :
  Calls Tryz.prog 76 #[ptr bp,.int .i64 deep] w (eP w B bp bt z (aQ z (st z) (ts.length + 1) .nil ts) (fun w' s v=>fT w' (New w w') s v)):=by
 have HS:=zh hS;have H:=zh h;have hB:=h.laid.le;have hbp:=h.ru;have hbt:=h.vT;have dK:=h.few;have HM:=zh (hm z);have HL:=zh (hl z);have hdec : decide ((10:Int) < (deep:Int))=false:=by simp;omega
 clear h hS hm hl
 go_enter Tryz.func76,Tryz.ntmps76
 go_wp2_with fail;clear hdec
 go_loopw [5] (fun l wr=>∃ (f:Nat) (acc:S) (cs:List Value) (ts':List Tok),aQ z (st z) (ts.length + 1) .nil ts=aQ z (st z) f acc ts'∧ts'.length < f∧acc.len + ts'.length≤600 ∧
   bQ wr B bp bt z ts'∧wr.ownsRow 0 168 7 l acc.len cs∧dJ wr (Off w wr l) acc cs∧From w.heap.size l∧ae [bp] w wr) (fun _ wr=>E8 wr bp)
 case atStart=>exact⟨ts.length + 1,.nil,[],ts,rfl,by omega,by simpa [S.len] using dK,H.out,World.ownsRow_nil _ _ _ _,rfl,From.nil _,ae.refl _ _⟩
 case round=>
  obtain⟨f,acc,cs,ts',hr,hf,hlen,hp,ho,hes,hF,hC⟩:=hrel;have HR:=zh hr;have HP:=zh hp;have HO:=zh ho;have qj:=zh hes;have HF:=zh hF;have HC:=zh hC;obtain⟨sa,sc,hs⟩:=gu ho;clear hr hp ho hes hF hC;subst hs;obtain⟨f,rfl⟩ : ∃ f',f=f' + 1:=⟨f - 1,by omega⟩
  have HA:=zh (yl [101,110,100] wr B bp bt z ts' HP.out);have HB:=zh (yl [101,108,115,101] wr B bp bt z ts' HP.out);have HD:=zh (yl [101,108,115,105,102] wr B bp bt z ts' HP.out);have qi:Hid ((see [101,110,100] ts' || see [101,108,115,101] ts' || see [101,108,115,105,102] ts')=true→eP w B bp bt z (aQ z (st z) (ts.length + 1) .nil ts) (fun w' s v=>fT w' (New w w') s v) (.returned (.slice sa acc.len sc)) wr):=zh (fun vU=>by
   rw [HR.out,aQ,if_pos vU];refine⟨HC.out,_,rfl,?_,HP.out⟩;obtain⟨a,c,he,hac,hrow⟩:=Row.jF HO.out (Am HO.out HF.out);cases he
   exact⟨_,_,_,rfl,hac,hrow,(yn acc cs).done qj.out⟩)
  cases ha : see [101,110,100] ts' with
  | true=>
   rw [ha] at HA qi;clear ha;go_wp2_with fail;refine HA.out.mono ?_;rintro _ _ ⟨rfl,hw⟩;have hw:=hw.symm;subst hw;go_wp2_with fail;go_ret
   exact qi.out (by simp)
  | false=>
   rw [ha] at HA qi;cases hb : see [101,108,115,101] ts' with
   | true=>
    rw [hb] at HB qi;clear ha hb;go_wp2_with fail;refine HA.out.mono ?_;rintro _ _ ⟨rfl,hw⟩;have hw:=hw.symm;subst hw;go_wp2_with fail;refine HB.out.mono ?_;rintro _ _ ⟨rfl,hw⟩;have hw:=hw.symm;subst hw;go_wp2_with fail;go_ret
    exact qi.out (by simp)
   | false=>
    rw [hb] at HB qi;cases hd' : see [101,108,115,105,102] ts' with
    | true=>
     rw [hd'] at HD qi;clear ha hb hd';go_wp2_with fail;refine HA.out.mono ?_;rintro _ _ ⟨rfl,hw⟩;have hw:=hw.symm;subst hw;go_wp2_with fail;refine HB.out.mono ?_;rintro _ _ ⟨rfl,hw⟩;have hw:=hw.symm;subst hw;go_wp2_with fail;refine HD.out.mono ?_;rintro _ _ ⟨rfl,hw⟩;have hw:=hw.symm;subst hw;go_wp2_with fail;go_ret
     exact qi.out (by simp)
    | false=>
     rw [hd'] at HD;have HRR:Hid (∀ q,st z ts'=q→aQ z (st z) (ts.length + 1) .nil ts=match q with | .bad e p=>.bad e p | .ok s r=>(match must z [59] r with | .bad e p=>.bad e p | .ok _ r2=>aQ z (st z) f (acc.app s) r2)):=zh (fun q hq=>by rw [HR.out,aQ,ha,hb,hd',if_neg (by simp),hq];cases q <;> rfl);clear ha hb hd' qi;have HX:=zh (HS.out wr B bp bt z ts' HP.out);cases hx : st z ts' with
     | bad en p=>
      have HE:=zh (HRR.out _ hx);rw [hx] at HX;clear hx;go_wp2_with fail;refine HA.out.mono ?_;rintro _ _ ⟨rfl,hw⟩;have hw:=hw.symm;subst hw;go_wp2_with fail;refine HB.out.mono ?_;rintro _ _ ⟨rfl,hw⟩;have hw:=hw.symm;subst hw;go_wp2_with fail;refine HD.out.mono ?_;rintro _ _ ⟨rfl,hw⟩;have hw:=hw.symm;subst hw;go_wp2_with fail;refine HX.out.mono ?_;intro e w2 he;have aW:=zh he;obtain⟨b,rfl⟩:=he.thrown;clear he;go_wp2_with fail;refine⟨rfl,?_⟩;rw [HE.out];exact aW.out.eO HC.out
     | ok s r=>
      have hxl:=HM.out _ _ _ hx;have hs1:=HL.out _ _ _ hx;have HE:=zh (HRR.out _ hx);rw [hx] at HX;clear hx;go_wp2_with fail;refine HA.out.mono ?_;rintro _ _ ⟨rfl,hw⟩;have hw:=hw.symm;subst hw;go_wp2_with fail;refine HB.out.mono ?_;rintro _ _ ⟨rfl,hw⟩;have hw:=hw.symm;subst hw;go_wp2_with fail;refine HD.out.mono ?_;rintro _ _ ⟨rfl,hw⟩;have hw:=hw.symm;subst hw;go_wp2_with fail;refine HX.out.mono ?_;rintro _ w4 ⟨hc4,_,rfl,⟨cx,rfl,hcl,hsx⟩,gz⟩;have HSX:=zh hsx;obtain⟨k9,q9,n9,i9,v9,a9,l9,m9,b9,j9,o9,rfl⟩:=hsx.shape hs1;have cz:=zh hc4;have og:=zh gz;have pg:=cK HO.out hc4 (fun g hg hm=>by have:=HF.out g hg;simp at hm;omega);have yo:=cK pg ((ae.refl [] w4).alloc (.cells #[.int .i64 k9,.int .i64 q9,str n9,.pointer i9,.pointer v9,.slice a9 l9 m9,.slice b9 j9 o9] 168)) (by simp);have nP:=zh yo;have hal : acc.len≤600:=by omega
      clear hc4 gz pg yo hcl hsx;go_wp2_with (at_builtin;go_must (refine pO rfl _ _ 30 rfl 168 _ 7 96 ahp Tryz.underlying30 rfl (by decide) _ _ _ rfl nP.out ⟨w4.heap.size,0,none⟩ 1 1 [.int .i64 k9,.int .i64 q9,str n9,.pointer i9,.pointer v9,.slice a9 l9 m9,.slice b9 j9 o9] rfl rfl (uI _ _ _) (by simp [Value.oneCell']) ?_ ?_ ?_))
      ·omega
      ·unfold maxLen;omega
      ·intro v' w' hown' hch' bX
       have iQ:=zh hown';clear hown';obtain⟨kR,bC,yt⟩:=grow_step hB hbp hbt HC.out cz.out og.out HF.out hch' bX;have jw : ∀ g∈blk _,g < wr.heap.size:=fun g hg=>pM HO.out g hg
       have yu:=(yn acc cs).call qj.out cz.out hbp;have hx4:=(yn s _).fresh HSX.out jw HC.out.size;have yw:=(yn acc cs).app yu hch' bX;have hx5:=(yn s _).app hx4 hch' bX;have Fa:=zh (dJ.append hx5 yw);have nD:=zh kR;have cO:=zh bC;have Cb:=zh yt;have V9 : (acc.app s).len=acc.len + 1:=by rw [S.WE,hs1]
       have iy:=zh (gN [59] w' B bp bt z r kR);clear hch' bX kR bC yt yu hx4 yw hx5 jw;cases hmu : must z [59] r with
       | bad en p=>
        have kZ:=zh (show aQ z (st z) (ts.length + 1) .nil ts = .bad en p by rw [HE.out];simp only [hmu]);rw [hmu] at iy;clear hmu;go_wp2_with fail;refine iy.out.mono ?_;intro e w6 he;have aW:=zh he;obtain⟨b,rfl⟩:=he.thrown;clear he;go_wp2_with fail;refine⟨rfl,?_⟩;rw [kZ.out];exact aW.out.eO cO.out
       | ok u r2=>
        have Ji:=uE hmu;have qm:=zh (show aQ z (st z) (ts.length + 1) .nil ts=aQ z (st z) f (acc.app s) r2 by rw [HE.out];simp only [hmu]);rw [hmu] at iy;clear hmu;go_wp2_with fail;refine iy.out.mono ?_;rintro _ w6 ⟨hc6,_,rfl,rfl,dH⟩;have bI:=zh hc6;have iP:=zh dH;clear hc6 dH;go_wp2_with fail;have ho6:=cK iQ.out bI.out (fun g hg hm=>by have:=Cb.out g hg;simp at hm;omega);refine⟨⟨f,acc.app s,_,r2,qm.out,by omega,by rw [V9];omega,iP.out,by rw [V9];exact ho6,(yn _ _).call Fa.out bI.out hbp,Cb.out,cO.out.then bI.out⟩,?_⟩;rw [iP.out.cnt,HP.out.cnt];omega
theorem aht (w:World) (B bp bt z:Nat) (ts:List Tok) (h:bQ w B bp bt z ts) :
  Calls Tryz.prog 76 #[ptr bp,.int .i64 (11:Nat)] w (eP w B bp bt z (.bad 4 (hd z ts):R S) (fun w' s v=>fT w' (New w w') s v)):=by
 have HF:=zh (lF 4 w B bp bt z ts h);clear h
 go_enter Tryz.func76,Tryz.ntmps76
 go_wp2_with fail;refine HF.out.mono ?_;intro e w6 he;have aW:=zh he;obtain⟨b,rfl⟩:=he.thrown;clear he;go_wp2_with fail;refine⟨rfl,?_⟩;exact aW.out.eO (ae.refl _ _)
theorem ahu : ∀ d deep,deep + d=11→I5 deep d∧(0 < d→Ci deep d):=by
 intro d
 induction d with
 | zero=>
  intro deep h;obtain rfl : deep=11:=by omega
  exact⟨fun w B bp bt z ts hp=>aht w B bp bt z ts hp,fun h=>by omega⟩
 | succ d ih=>
  intro deep h;have hB:=(ih (deep + 1) (by omega)).1;have hR:Ci (deep + 1) d∨d=0:=by
   rcases Nat.eq_zero_or_pos d with h0|h0
   ·exact .inr h0
   ·exact .inl ((ih (deep + 1) (by omega)).2 h0)
  have hRR:=rest_step deep d (by omega) hB hR;refine⟨?_,fun _=>hRR⟩;have hS:=ahk deep d (by omega) hB hRR;exact fun w B bp bt z ts hp=>ahq deep (by omega) _ hS (fun z=>V7 (V8 z d).1 (V8 z (d + 1)).2) (fun z ts s r hx=>aho hx) w B bp bt z ts hp
theorem We (w:World) (B bp bt z:Nat) (ts:List Tok) (h:bQ w B bp bt z ts) :
  Calls Tryz.prog 76 #[ptr bp,.int .i64 0] w (eP w B bp bt z (FI z ts) (fun w' s v=>fT w' (New w w') s v)):=
 (ahu 11 0 rfl).1 w B bp bt z ts h
end Go.Proofs.YtechofppmnnomaaGreatDoor
namespace Go.Proofs.YtechofppmnnomaaGreatDoor
open Go Go.RowKit Go.Mq Go.Mq.Tree
set_option maxRecDepth 100000
set_option maxHeartbeats 8000000
theorem Wh : (Tryz.prog.info? 68).map (fun i=>(i.zero,i.size,i.bytes))=some (some (.agg #[.string ⟨#[]⟩,.int .i64 0,.int .i64 0,.bool false]),4,40):=by kernel_rfl
theorem ahv (w:World) (B bp bt z:Nat) (ts:List Tok) (h:bQ w B bp bt z ts) :
  Calls Tryz.prog 73 #[ptr bp] w (eP w B bp bt z (jS z 11 [] ts) (fun w' l v=>lD w' (New w w') l v)):=by
 have H:=zh h;have hB:=h.laid.le;have hbp:=h.ru;have hbt:=h.vT;clear h
 go_enter Tryz.func73,Tryz.ntmps73
 go_wp2_with fail
 go_loopw [3] (fun l wr=>∃ (f:Nat) (acc:List bJ) (ts':List Tok),jS z 11 [] ts=jS z f acc ts'∧f + acc.length=11∧acc.length≤10 ∧
   bQ wr B bp bt z ts'∧wr.ownsRow 0 68 4 l acc.length (acc.flatMap bJ.cells)∧From w.heap.size l∧ae [bp] w wr) (fun l _=>11 - lenOf l)
 case atStart=>exact⟨11,[],ts,rfl,rfl,Nat.zero_le _,H.out,World.ownsRow_nil _ _ _ _,From.nil _,ae.refl _ _⟩
 case round=>
  obtain⟨f,acc,ts',hr,hf,ha,hp,ho,hF,hC⟩:=hrel;have HR:=zh hr;have HP:=zh hp;have HO:=zh ho;have HF:=zh hF;have HC:=zh hC;obtain⟨sa,sc,hs⟩:=gu ho;have hsz:=hC.size;clear hr hp ho hF hC;subst hs;obtain⟨f,rfl⟩ : ∃ f',f=f' + 1:=⟨f - 1,by omega⟩
  have HT:=zh (kQ [118,97,114] wr B bp bt z ts' HP.out);cases hk : see [118,97,114] ts' with
  | false=>
   have HRR:=zh (show jS z 11 [] ts = .ok acc ts' by rw [HR.out,jS,if_neg (by rw [hk];simp)]);have HI:=zh hk;clear hk;go_wp2_with fail;refine HT.out.mono ?_;rintro _ w1 ⟨rfl,_,_,hw⟩;rw [HI.out];have hw':=(hw HI.out).symm;subst hw';clear hw;go_wp2_with fail;go_ret
   rw [HRR.out];obtain⟨a,c,he,hac,hrow⟩:=Row.jF HO.out (Am HO.out HF.out);cases he
   exact⟨HC.out,_,rfl,⟨_,_,rfl,hac,hrow⟩,HP.out⟩
  | true=>
   obtain⟨t1,ht1⟩ : ∃ t1,t1=ts'.tail:=⟨_,rfl⟩
   have HI:=zh hk;cases he : decide (acc.length=10) with
   | true=>
    have he1 : ((acc.length:Int) == 10)=true:=by have:=of_decide_eq_true he;simp [this]
    have HRR:=zh (show jS z 11 [] ts = .bad 4 (hd z t1) by rw [HR.out,jS,if_pos hk,if_pos (of_decide_eq_true he),ht1]);clear he hk;go_wp2_with fail;refine HT.out.mono ?_;rintro _ w1 ⟨rfl,hp1,hc1,_⟩;rw [HI.out];rw [skip,HI.out,if_pos rfl,← ht1] at hp1;have cZ:=zh hc1;have oh:=zh hp1;clear hp1 hc1;go_wp2_with fail;refine(lF 4 _ B bp bt z t1 oh.out).mono ?_;intro e w2 he;have HE:=zh he;obtain⟨b,rfl⟩:=he.thrown;clear he;go_wp2_with fail;refine⟨rfl,?_⟩;rw [HRR.out];exact HE.out.eO (HC.out.then cZ.out)
   | false=>
    have he1 : ((acc.length:Int) == 10)=false:=by have:=of_decide_eq_false he;simp;omega
    have hne:=of_decide_eq_false he;have HG:Hid (∀ q,jl z t1=q→jS z 11 [] ts=match q with | .bad e p=>.bad e p | .ok g r=>jS z f (acc ++ [g]) r):=zh (fun q hq=>by rw [HR.out,jS,if_pos hk,if_neg hne,← ht1,hq];cases q <;> rfl);clear he hk;go_wp2_with fail;refine HT.out.mono ?_;rintro _ w1 ⟨rfl,hp1,hc1,_⟩;rw [HI.out];rw [skip,HI.out,if_pos rfl,← ht1] at hp1;obtain⟨off,c,nn,c0,c2⟩:=Fb hp1;have hG : wr.heap.size≤w1.heap.size:=hc1.size;have hgp : w1.heap.size≠bp:=by omega
    have hgt : w1.heap.size≠bt:=by omega
    obtain⟨w2,hw2⟩ : ∃ w2,w2=w1.alloc (.cells #[str [],.int .i64 (hd z t1),.int .i64 0,.bool false] 68):=⟨_,rfl⟩
    have aD:Hid (ae [bp] wr w2):=zh (by rw [hw2];exact hc1.alloc _);have Ab:Hid (bQ w2 B bp bt z t1):=zh (by rw [hw2];exact hp1.kept ((ae.refl [] w1).alloc _) (by simp) (by simp) (by simp));have HB2:Hid (ag w2 w1.heap.size #[str [],.int .i64 (hd z t1),.int .i64 0,.bool false] 68):=zh (by rw [hw2];exact ag.new _ _ _);have HN:=zh (BU w2 B bp bt z t1 Ab.out);clear hp1 hc1 ht1;go_wp2_with fail
    try rw [← hw2]
    refine HN.out.mono ?_;intro e w3 he;rcases he.part with⟨en,q,b9,rfl,hx,aW⟩|⟨aK,rK,hx,he⟩
    ·go_wp2_with fail;exact⟨rfl,by rw [show jS z 11 [] ts = .bad en q by rw [HG.out _ (show jl z t1 = .bad en q by rw [jl];simp only [hx.out])]];exact aW.out.eO (HC.out.then aD.out)⟩
    obtain⟨n,rfl⟩ : ∃ n,n=aK:=⟨aK,rfl⟩
    obtain⟨r1,rfl⟩ : ∃ r1,r1=rK:=⟨rK,rfl⟩
    have fK:=hx;obtain⟨hc3,_,rfl,rfl,hp3⟩:=he;clear hx;have hb3:=HB2.out.kept hc3 (by simp;omega);have f0:=hb3.frozen 0;have e0:=hb3.cell 0 _ rfl;obtain⟨pK,hw3⟩ : ∃ pK,pK=w3.setCell ⟨w1.heap.size,0,none⟩ (str n):=⟨_,rfl⟩
    have HB3:Hid (ag pK w1.heap.size #[str n,.int .i64 (hd z t1),.int .i64 0,.bool false] 68):=zh (by rw [hw3];simpa using hb3.set 0 (str n));have qx:Hid (bQ pK B bp bt z r1):=zh (by rw [hw3];exact hp3.kept (ae.set1 w3 w1.heap.size 0 (str n)) (fun x hx=>by simp at hx;omega) (by simp;omega) (by simp;omega));have bG:Hid (ae [bp] wr pK):=zh (by rw [hw3];exact(aD.out.then hc3).trans (ae.set1 w3 w1.heap.size 0 (str n)) (fun x hx=>.inr (by simp at hx;omega)));have HTS:=zh (kQ [42] pK B bp bt z r1 qx.out);clear hb3 hc3 hp3;go_wp2_with fail;rw [← hw3];clear f0 e0 hw3;refine HTS.out.mono ?_;rintro _ w4 ⟨rfl,gz,hc4,_⟩;have hb4:=HB3.out.kept hc4 (by simp;omega);have f3:=hb4.frozen 3;have e3:=hb4.cell 3 _ rfl;obtain⟨Cn,hw4⟩ : ∃ Cn,Cn=w4.setCell ⟨w1.heap.size,3,none⟩ (.bool (see [42] r1)):=⟨_,rfl⟩
    have ahx:Hid (ag Cn w1.heap.size #[str n,.int .i64 (hd z t1),.int .i64 0,.bool (see [42] r1)] 68):=zh (by rw [hw4];simpa using hb4.set 3 (.bool (see [42] r1)));have ahy:Hid (bQ Cn B bp bt z (skip [42] r1)):=zh (by rw [hw4];exact gz.kept (ae.set1 w4 w1.heap.size 3 (.bool (see [42] r1))) (fun x hx=>by simp at hx;omega) (by simp;omega) (by simp;omega));have Wi:Hid (ae [bp] wr Cn):=zh (by rw [hw4];exact(bG.out.then hc4).trans (ae.set1 w4 w1.heap.size 3 (.bool (see [42] r1))) (fun x hx=>.inr (by simp at hx;omega)));have GK:=zh (gN [58] Cn B bp bt z (skip [42] r1) ahy.out);clear hb4 hc4 gz;go_wp2_with fail;rw [← hw4];refine GK.out.mono ?_;intro e w5 he;rcases he.part with⟨en,q,b9,rfl,hx,aW⟩|⟨aK,rK,hx,he⟩
    ·go_wp2_with fail;exact⟨rfl,by rw [show jS z 11 [] ts = .bad en q by rw [HG.out _ (show jl z t1 = .bad en q by rw [jl];simp only [fK.out,hx.out])]];exact aW.out.eO (HC.out.then Wi.out)⟩
    obtain⟨r2,rfl⟩ : ∃ r2,r2=rK:=⟨rK,rfl⟩
    have nu:=hx;clear f3 e3 hw4;obtain⟨bC,_,rfl,rfl,kR⟩:=he;clear hx;have qC:=zh (ahx.out.kept bC (by simp;omega));have cz:=zh (Wi.out.then bC);have og:=zh kR;clear bC kR;have lL:=zh (kQ [97,114,114,97,121] w5 B bp bt z r2 og.out);cases hk : see [97,114,114,97,121] r2 with
    | true=>
     have fG:=zh hk;clear hk;go_wp2_with fail;refine lL.out.mono ?_;rintro _ w5 ⟨rfl,kR,bC,_⟩;rw [fG.out];rw [skip,fG.out,if_pos rfl] at kR;have cO:=zh (cz.out.then bC);have nD:=zh kR;have qR:=zh (qC.out.kept bC (by simp;omega));clear kR bC;have HN:=zh (VE 30 w5 B bp bt z r2.tail nD.out);cases hx : number z 30 r2.tail with
     | bad en q=>
      have HRR:=zh (show jS z 11 [] ts = .bad en q by rw [HG.out _ (show jl z t1 = .bad en q by rw [jl];simp only [fK.out,nu.out,kindOf,fG.out,if_true,hx])]);rw [hx] at HN;clear hx;go_wp2_with fail;refine HN.out.mono ?_;intro e w9 he;have aW:=zh he;obtain⟨b9,rfl⟩:=he.thrown;clear he;go_wp2_with fail;refine⟨rfl,?_⟩;rw [HRR.out];exact aW.out.eO (HC.out.then cO.out)
     | ok aK rK=>
      obtain⟨m,rfl⟩ : ∃ m,m=aK:=⟨aK,rfl⟩
      obtain⟨r3,rfl⟩ : ∃ r3,r3=rK:=⟨rK,rfl⟩
      have Wj:=zh hx;rw [hx] at HN;clear hx;have hb5:=qR.out;cases hz : decide (m=0) with
      | true=>
       have hz1 : (m == 0)=true:=by have:=of_decide_eq_true hz;simp [this]
       have HRR:=zh (HG.out _ (show jl z t1 = .bad 2 (hd z r3) by rw [jl];simp only [fK.out,nu.out,kindOf,fG.out,if_true,Wj.out,of_decide_eq_true hz]));clear hz;go_wp2_with fail;refine HN.out.mono ?_;rintro _ w6 ⟨hc6,_,rfl,rfl,dH⟩;have hb6:=hb5.kept hc6 (by simp;omega);have f2:=hb6.frozen 2;have e2:=hb6.cell 2 _ rfl;have iP:=zh (dH.kept (ae.set1 w6 w1.heap.size 2 (.int .i64 m)) (fun x hx=>by simp at hx;omega) (by simp;omega) (by simp;omega));have bI:=zh ((cO.out.then hc6).trans (ae.set1 w6 w1.heap.size 2 (.int .i64 m)) (fun x hx=>.inr (by simp at hx;omega)));clear hb5 hb6 hc6 dH;go_wp2_with fail;refine(lF 2 _ B bp bt z r3 iP.out).mono ?_;intro e w9 he;have aW:=zh he;obtain⟨b9,rfl⟩:=he.thrown;clear he;go_wp2_with fail;refine⟨rfl,?_⟩;rw [HRR.out];exact aW.out.eO (HC.out.then bI.out)
      | false=>
       have hz1 : (m == 0)=false:=by have:=of_decide_eq_false hz;simp [this]
       have Fx:=zh (show kindOf z r2 = .ok m r3 by simp only [kindOf,fG.out,if_true,Wj.out,if_neg (of_decide_eq_false hz)]);clear hz;go_wp2_with fail;refine HN.out.mono ?_;rintro _ w6 ⟨hc6,_,rfl,rfl,dH⟩;have hb6:=hb5.kept hc6 (by simp;omega);have f2:=hb6.frozen 2;have e2:=hb6.cell 2 _ rfl;have lS:Hid (ag (w6.setCell ⟨w1.heap.size,2,none⟩ (.int .i64 m)) w1.heap.size #[str n,.int .i64 (hd z t1),.int .i64 m,.bool (see [42] r1)] 68):=zh (by simpa using hb6.set 2 (.int .i64 m));have iP:=zh (dH.kept (ae.set1 w6 w1.heap.size 2 (.int .i64 m)) (fun x hx=>by simp at hx;omega) (by simp;omega) (by simp;omega));have bI:=zh ((cO.out.then hc6).trans (ae.set1 w6 w1.heap.size 2 (.int .i64 m)) (fun x hx=>.inr (by simp at hx;omega)));clear hb5 hb6 hc6 dH;go_wp2_with fail;have NN:=zh (gN [59] _ B bp bt z r3 iP.out);go_wp2_with fail;refine NN.out.mono ?_;intro e w7 he;rcases he.part with⟨en,q,b9,rfl,hx,aW⟩|⟨aK,rK,hx,he⟩
       ·go_wp2_with fail;exact⟨rfl,by rw [show jS z 11 [] ts = .bad en q by rw [HG.out _ (show jl z t1 = .bad en q by rw [jl];simp only [fK.out,nu.out,Fx.out,hx.out])]];exact aW.out.eO (HC.out.then bI.out)⟩
       have HRR:=zh (HG.out _ (show jl z t1 = .ok ⟨n,hd z t1,m,see [42] r1⟩ rK by rw [jl];simp only [fK.out,nu.out,Fx.out,hx.out]));obtain⟨dQ,_,rfl,rfl,mJ⟩:=he;clear hx;have dR:=lS.out.kept dQ (by simp;omega);have d0:=dR.cell 0 _ rfl;have d1:=dR.cell 1 _ rfl;have d2:=dR.cell 2 _ rfl;have d3:=dR.cell 3 _ rfl;have fF:=zh (bI.out.then dQ);have Ag:=zh mJ;have vH:=cK HO.out fF.out (fun g hg hm=>by have:=HF.out g hg;simp at hm;omega);have zJ:=zh (cK vH ((ae.refl [] w7).alloc (.cells #[str n,.int .i64 (hd z t1),.int .i64 m,.bool (see [42] r1)] 68)) (by simp));clear dQ mJ vH dR;go_wp2_with (at_builtin;go_must (refine pO rfl _ _ 28 rfl 68 _ 4 40 Wh Tryz.underlying28 rfl (by decide) _ _ _ rfl zJ.out ⟨w7.heap.size,0,none⟩ 1 1 [str n,.int .i64 (hd z t1),.int .i64 m,.bool (see [42] r1)] rfl rfl (uI _ _ _) (by simp [Value.oneCell']) ?_ ?_ ?_))
       ·omega
       ·unfold maxLen;omega
       ·intro v' w' hown' hch' bX
        have iQ:=zh hown';clear hown';obtain⟨mH,hc8,Fy⟩:=grow_step hB hbp hbt HC.out fF.out Ag.out HF.out hch' bX;have vV:=zh mH;have eU:=zh hc8;have NP:=zh Fy;clear hch' bX mH hc8 Fy;go_wp2_with fail;have NQ : lenOf v'=acc.length + 1:=IY iQ.out;refine⟨⟨f,acc ++ [⟨n,hd z t1,m,see [42] r1⟩],rK,HRR.out,by simp;omega,by simp;omega,vV.out,by simpa [bJ.cells] using iQ.out,NP.out,eU.out⟩,?_⟩;rw [NQ];simp only [lenOf];omega
    | false=>
     have fG:=zh hk;clear hk;go_wp2_with fail;refine lL.out.mono ?_;rintro _ w5 ⟨rfl,_,_,hw⟩;rw [fG.out];have hw':=(hw fG.out).symm;subst hw';clear hw;have kY:=zh (gN [105,110,116] _ B bp bt z r2 og.out);go_wp2_with fail;refine kY.out.mono ?_;intro e w6 he;rcases he.part with⟨en,q,b9,rfl,hx,aW⟩|⟨aK,rK,hx,he⟩
     ·go_wp2_with fail;exact⟨rfl,by rw [show jS z 11 [] ts = .bad en q by rw [HG.out _ (show jl z t1 = .bad en q by rw [jl];simp only [fK.out,nu.out,kindOf,fG.out,Bool.false_eq_true,if_false,hx.out])]];exact aW.out.eO (HC.out.then cz.out)⟩
     obtain⟨r3,rfl⟩ : ∃ r3,r3=rK:=⟨rK,rfl⟩
     have Fx:=zh (show kindOf z r2 = .ok 0 r3 by simp only [kindOf,fG.out,Bool.false_eq_true,if_false,hx.out]);obtain⟨hc6,_,rfl,rfl,dH⟩:=he;clear hx;have lS:=zh (qC.out.kept hc6 (by simp;omega));have bI:=zh (cz.out.then hc6);have iP:=zh dH;clear hc6 dH;have NN:=zh (gN [59] w6 B bp bt z r3 iP.out);go_wp2_with fail;refine NN.out.mono ?_;intro e w7 he;rcases he.part with⟨en,q,b9,rfl,hx,aW⟩|⟨aK,rK,hx,he⟩
     ·go_wp2_with fail;exact⟨rfl,by rw [show jS z 11 [] ts = .bad en q by rw [HG.out _ (show jl z t1 = .bad en q by rw [jl];simp only [fK.out,nu.out,Fx.out,hx.out])]];exact aW.out.eO (HC.out.then bI.out)⟩
     have HRR:=zh (HG.out _ (show jl z t1 = .ok ⟨n,hd z t1,0,see [42] r1⟩ rK by rw [jl];simp only [fK.out,nu.out,Fx.out,hx.out]));obtain⟨dQ,_,rfl,rfl,mJ⟩:=he;clear hx;have dR:=lS.out.kept dQ (by simp;omega);have d0:=dR.cell 0 _ rfl;have d1:=dR.cell 1 _ rfl;have d2:=dR.cell 2 _ rfl;have d3:=dR.cell 3 _ rfl;have fF:=zh (bI.out.then dQ);have Ag:=zh mJ;have vH:=cK HO.out fF.out (fun g hg hm=>by have:=HF.out g hg;simp at hm;omega);have zJ:=zh (cK vH ((ae.refl [] w7).alloc (.cells #[str n,.int .i64 (hd z t1),.int .i64 0,.bool (see [42] r1)] 68)) (by simp));clear dQ mJ vH dR;go_wp2_with (at_builtin;go_must (refine pO rfl _ _ 28 rfl 68 _ 4 40 Wh Tryz.underlying28 rfl (by decide) _ _ _ rfl zJ.out ⟨w7.heap.size,0,none⟩ 1 1 [str n,.int .i64 (hd z t1),.int .i64 0,.bool (see [42] r1)] rfl rfl (uI _ _ _) (by simp [Value.oneCell']) ?_ ?_ ?_))
     ·omega
     ·unfold maxLen;omega
     ·intro v' w' hown' hch' bX
      have iQ:=zh hown';clear hown';obtain⟨mH,hc8,Fy⟩:=grow_step hB hbp hbt HC.out fF.out Ag.out HF.out hch' bX;have vV:=zh mH;have eU:=zh hc8;have NP:=zh Fy;clear hch' bX mH hc8 Fy;go_wp2_with fail;have NQ : lenOf v'=acc.length + 1:=IY iQ.out;refine⟨⟨f,acc ++ [⟨n,hd z t1,0,see [42] r1⟩],rK,HRR.out,by simp;omega,by simp;omega,vV.out,by simpa [bJ.cells] using iQ.out,NP.out,eU.out⟩,?_⟩;rw [NQ];simp only [lenOf];omega
end Go.Proofs.YtechofppmnnomaaGreatDoor
namespace Go.Mq.Tree
open Go Go.RowKit Go.Mq
theorem ahz {z most:Nat} : ∀ f l (ts:List Tok) a r,l.length≤most→rA z most f l ts = .ok a r→a.length≤most:=by
 intro f
 induction f with
 | zero=>intro l ts a r _ h;cases h
 | succ f ih=>
  intro l ts a r hl h;rw [rA] at h;split at h
  ·cases h
  ·rename_i hne
   cases hn : name z ts with
   | bad e q=>simp only [hn] at h;cases h
   | ok n r1=>
    simp only [hn] at h;split at h
    ·exact ih _ _ _ _ (by simp;omega) h
    ·cases h;simp;omega
theorem ahA {z most:Nat} {ts r:List Tok} {l:List (List UInt8)} (h : names z most ts = .ok l r) : l.length≤most:=ahz _ _ _ _ _ (Nat.zero_le _) h
theorem ahB {k:Nat} (h : k≤10):IntKind.i64.wrap (10 - (k:Int))=((10 - k:Nat):Int):=by
 simp only [IntKind.wrap,IntKind.bits,IntKind.signed];simp;omega
theorem ahC {w:World} {b:Nat} (v0 v1 v2 v3 v4 v5:Value) {u0 u1 u2 u3 u4 u5:Value} {t:TypeId} (h:ag w b #[u0,u1,u2,u3,u4,u5] t) : ∃ wF,((((((w.setCell ⟨b,0,none⟩ v0).setCell ⟨b,1,none⟩ v1).setCell ⟨b,2,none⟩ v2).setCell ⟨b,3,none⟩ v3).setCell ⟨b,4,none⟩ v4).setCell ⟨b,5,none⟩ v5)=wF∧ae [b] w wF∧ag wF b #[v0,v1,v2,v3,v4,v5] t:=
 ⟨_,rfl,(((((ae.set1 _ _ _ _).then (ae.set1 _ _ _ _)).then (ae.set1 _ _ _ _)).then (ae.set1 _ _ _ _)).then (ae.set1 _ _ _ _)).then (ae.set1 _ _ _ _),by
  have:=(((((h.set 0 v0).set 1 v1).set 2 v2).set 3 v3).set 4 v4).set 5 v5
  simpa using this⟩
end Go.Mq.Tree
namespace Go.Proofs.YtechofppmnnomaaGreatDoor
open Go Go.RowKit Go.Mq Go.Mq.Tree
set_option maxRecDepth 100000
set_option maxHeartbeats 16000000
abbrev PV (w:World):World→aX→Value→Prop:=fun w' x v=>∃ cs,v = .agg cs.toArray∧pR w' (New w w') x cs
theorem ahD (w:World) (B bp bt z:Nat) (ts:List Tok) (h:bQ w B bp bt z ts):Calls Tryz.prog 75 #[ptr bp] w (eP w B bp bt z (proc z ts) (PV w)):=by
 have hbp:=h.ru;have hbt:=h.vT;have hB0:=h.laid.le;have hBp:=h.Ak;obtain⟨off,c,nn,c0,c2⟩:=Fb h;have hw1 : (w.alloc (.cells #[str [],.int .i64 0,.bool false,ah,ah,ah] 72)).heap.size=w.heap.size + 1:=by simp
 obtain⟨w0,hw0⟩ : ∃ w0,w0=(w.alloc (.cells #[str [],.int .i64 0,.bool false,ah,ah,ah] 72)).alloc (.cells #[str [],.int .i64 (hd z ts),.bool false,ah,ah,ah] 72):=⟨_,rfl⟩
 have hb0:=ag.new (w.alloc (.cells #[str [],.int .i64 0,.bool false,ah,ah,ah] 72)) #[str [],.int .i64 (hd z ts),.bool false,ah,ah,ah] 72;rw [hw1,← hw0] at hb0;have H0:Hid (Mk 72 w w0 B bp bt z ts #[str [],.int .i64 0,.bool false,ah,ah,ah] #[str [],.int .i64 (hd z ts),.bool false,ah,ah,ah] (fun _ _=>True)):=zh (by
  refine⟨NG,hbp,hbt,?_,?_,hb0,?_,?_,trivial⟩
  ·rw [hw0];exact((ae.refl _ _).alloc _).alloc _
  ·rw [hw0];exact h.kept (((ae.refl [] w).alloc _).alloc _) (by simp) (by simp) (by simp)
  ·rw [hw0];exact(ag.new w _ 72).kept ((ae.refl [] _).alloc _) (by simp)
  ·rw [hw0];simp)
 clear h hb0 hw1
 go_enter Tryz.func75,Tryz.ntmps75
 go_wp2_with fail;clear c0 c2
 change Calls _ _ _ ((w.alloc (.cells #[str [],.int .i64 0,.bool false,ah,ah,ah] 72)).alloc (.cells #[str [],.int .i64 (hd z ts),.bool false,ah,ah,ah] 72)) _
 rw [← hw0];clear hw0;have K:=zh (gN [112,114,111,99] _ _ _ _ _ ts H0.out.par);go_wp2_with fail;refine K.out.mono ?_;intro e w1 he;rcases he.cut with⟨en,q,b9,rfl,hx,HE⟩|⟨_,r1,_,rfl,X1,rfl,hc,hp⟩
 ·go_wp2_with fail;exact⟨rfl,HE.out _ _ _ H0.out.aP (by simp only [proc,hx.out])⟩
 have H1:=zh (H0.out.step hc hp);clear hc hp K he;have K:=zh (BU _ _ _ _ _ _ H1.out.par);go_wp2_with fail;refine K.out.mono ?_;intro e w2 he;rcases he.cut with⟨en,q,b9,rfl,hx,HE⟩|⟨n,r2,_,rfl,X2,rfl,hc,hp⟩
 ·go_wp2_with fail;exact⟨rfl,HE.out _ _ _ H1.out.aP (by simp only [proc,X1.out,hx.out])⟩
 have H2:=zh (H1.out.step hc hp);clear hc hp K he;have K:=zh (kQ [42] _ _ _ _ _ _ H2.out.par);go_wp2_with fail;refine K.out.mono ?_;rintro _ w3 ⟨rfl,hp,hc,_⟩;have NR:=zh (H2.out.step hc hp);clear hc hp K;obtain⟨e0,_,e2,_⟩:=NR.out.blk.six;obtain⟨f0,_,f2,_⟩:=NR.out.blk.kE;obtain⟨pK,hw⟩ : ∃ pK,pK=(w3.setCell ⟨w.heap.size + 1,0,none⟩ (str n)).setCell ⟨w.heap.size + 1,2,none⟩ (.bool (see [42] r2)):=⟨_,rfl⟩
 have H3:=zh ((NR.out.store 0 (str n)).store 2 (.bool (see [42] r2)));simp only [Array.setIfInBounds] at H3;rw [← hw] at H3;have K:=zh (gN [40] _ _ _ _ _ _ H3.out.par);go_wp2_with fail;rw [← hw];refine K.out.mono ?_;intro e w4 he;rcases he.cut with⟨en,q,b9,rfl,hx,HE⟩|⟨_,r4,_,rfl,X4,rfl,hc,hp⟩
 ·go_wp2_with fail;exact⟨rfl,HE.out _ _ _ H3.out.aP (by simp only [proc,X1.out,X2.out,hx.out])⟩
 have H4:=zh (H3.out.step hc hp);clear hc hp K he;clear e0 e2 f0 f2 hw;have KT:=zh (kQ [41] _ _ _ _ _ _ H4.out.par);cases hk : see [41] r4
 case' true=>
  have HI:=zh hk;clear hk;go_wp2_with fail;refine KT.out.mono ?_;rintro _ wP ⟨rfl,hp,hc,_⟩;rw [HI.out];rw [skip,HI.out,if_pos rfl] at hp;obtain⟨rP,ps,a3,c3,hps,HP,HS⟩ : ∃ rP ps a3 c3,ps.length≤10∧Hid (params z r4 = .ok ps rP)∧Hid (Mk 72 w wP B bp bt z rP #[str [],.int .i64 0,.bool false,ah,ah,ah] #[str n,.int .i64 (hd z ts),.bool (see [42] r2),.slice a3 ps.length c3,ah,ah] (fun w F=>True∧eF w F ps (.slice a3 ps.length c3))):=
   ⟨_,[],none,0,by simp,zh (by rw [params,if_pos HI.out]),zh ((H4.out.step hc hp).add (Ch [] ah) eF.nil)⟩
  clear hc hp HI
 case' false=>
  have HI:=zh hk;clear hk;go_wp2_with fail;refine KT.out.mono ?_;rintro _ w5 ⟨rfl,_,_,hw⟩;rw [HI.out];have hw':=(hw HI.out).symm;subst hw';clear hw;have K:=zh (Nz 10 (by omega) _ _ _ _ _ _ H4.out.par);go_wp2_with fail;refine K.out.mono ?_;intro e w5 he;rcases he.cut with⟨en,q,b9,rfl,hx,HE⟩|⟨ps,r5,_,rfl,X5,⟨a3,c3,rfl,hac,hv⟩,hc,hp⟩
  ·go_wp2_with fail;exact⟨rfl,HE.out _ _ _ H4.out.aP (by simp only [proc,X1.out,X2.out,X4.out,params,HI.out,Bool.false_eq_true,if_false,hx.out])⟩
  have H5:=zh (H4.out.call hc hp (Ch ps (.slice a3 ps.length c3)) ⟨_,_,rfl,hac,hv⟩);clear hc hp K he;have hps : ps.length≤10:=ahA X5.out;clear hac hv;obtain⟨_,_,_,e3,_⟩:=H5.out.blk.six;obtain⟨_,_,_,f3,_⟩:=H5.out.blk.kE;obtain⟨w6,hw⟩ : ∃ x,x=w5.setCell ⟨w.heap.size + 1,3,none⟩ (.slice a3 ps.length c3):=⟨_,rfl⟩
  have H6:=zh (H5.out.store 3 (.slice a3 ps.length c3));simp only [Array.setIfInBounds] at H6;rw [← hw] at H6;have K:=zh (gN [41] _ _ _ _ _ _ H6.out.par);go_wp2_with fail;rw [← hw];refine K.out.mono ?_;intro e w7 he;rcases he.cut with⟨en,q,b9,rfl,hx,HE⟩|⟨_,r7,_,rfl,X7,rfl,hc,hp⟩
  ·go_wp2_with fail;exact⟨rfl,HE.out _ _ _ H6.out.aP (by simp only [proc,X1.out,X2.out,X4.out,params,HI.out,Bool.false_eq_true,if_false,X5.out,hx.out])⟩
  have HS:=zh (H6.out.step hc hp);clear hc hp K he;have HP:=zh (show params z r4 = .ok ps r7 by simp only [params,HI.out,Bool.false_eq_true,if_false,X5.out,X7.out]);obtain⟨rP,rfl⟩ : ∃ x,x=r7:=⟨_,rfl⟩
  obtain⟨wP,rfl⟩ : ∃ x,x=w7:=⟨_,rfl⟩
  clear e3 f3 hw HI
 all_goals
  clear KT;have K:=zh (gN [59] _ _ _ _ _ _ HS.out.par);go_wp2_with fail;refine K.out.mono ?_;intro e w8 he;rcases he.cut with⟨en,q,b9,rfl,hx,HE⟩|⟨_,r8,_,rfl,X8,rfl,hc,hp⟩
  ·go_wp2_with fail;exact⟨rfl,HE.out _ _ _ HS.out.aP (by simp only [proc,X1.out,X2.out,X4.out,HP.out,hx.out])⟩
  have H8:=zh (HS.out.step hc hp);clear hc hp K he;have KT:=zh (kQ [118,97,114] _ _ _ _ _ _ H8.out.par);obtain⟨_,_,_,e3,_⟩:=H8.out.blk.six;cases hk : see [118,97,114] r8
  case' true=>
   have HI:=zh hk;clear hk;go_wp2_with fail;refine KT.out.mono ?_;rintro _ w9 ⟨rfl,hp,hc,_⟩;rw [HI.out];rw [skip,HI.out,if_pos rfl] at hp;have H9:=zh (H8.out.step hc hp);clear hc hp e3;obtain⟨_,_,_,e3,_⟩:=H9.out.blk.six;have hsub:=ahB hps;have K:=zh (Nz (10 - ps.length) (by omega) _ _ _ _ _ _ H9.out.par);go_wp2_with fail;refine K.out.mono ?_;intro e w10 he;rcases he.cut with⟨en,q,b9,rfl,hx,HE⟩|⟨vs,r10,_,rfl,Wl,⟨a4,c4,rfl,hac,hv⟩,hc,hp⟩
   ·go_wp2_with fail;exact⟨rfl,HE.out _ _ _ H9.out.aP (by simp only [proc,X1.out,X2.out,X4.out,HP.out,X8.out,locals,HI.out,if_true,hx.out])⟩
   have NS:=zh (H9.out.call hc hp (Ch vs (.slice a4 vs.length c4)) ⟨_,_,rfl,hac,hv⟩);clear hc hp K he;clear hac hv e3 hsub;obtain⟨_,_,_,_,e4,_⟩:=NS.out.blk.six;obtain⟨_,_,_,_,f4,_⟩:=NS.out.blk.kE;obtain⟨w11,hw⟩ : ∃ x,x=w10.setCell ⟨w.heap.size + 1,4,none⟩ (.slice a4 vs.length c4):=⟨_,rfl⟩
   have Fz:=zh (NS.out.store 4 (.slice a4 vs.length c4));simp only [Array.setIfInBounds] at Fz;rw [← hw] at Fz;have K:=zh (gN [59] _ _ _ _ _ _ Fz.out.par);go_wp2_with fail;rw [← hw];refine K.out.mono ?_;intro e w12 he;rcases he.cut with⟨en,q,b9,rfl,hx,HE⟩|⟨_,r12,_,rfl,X12,rfl,hc,hp⟩
   ·go_wp2_with fail;exact⟨rfl,HE.out _ _ _ Fz.out.aP (by simp only [proc,X1.out,X2.out,X4.out,HP.out,X8.out,locals,HI.out,if_true,Wl.out,hx.out])⟩
   have HT:=zh (Fz.out.step hc hp);clear hc hp K he;have HL:=zh (show locals z (10 - ps.length) r8 = .ok vs r12 by simp only [locals,HI.out,if_true,Wl.out,X12.out]);obtain⟨rL,rfl⟩ : ∃ x,x=r12:=⟨_,rfl⟩
   obtain⟨wL,rfl⟩ : ∃ x,x=w12:=⟨_,rfl⟩
   clear e4 f4 hw HI
  case' false=>
   have HI:=zh hk;clear hk;go_wp2_with fail;refine KT.out.mono ?_;rintro _ w9 ⟨rfl,_,_,hw⟩;rw [HI.out];have hw':=(hw HI.out).symm;subst hw';clear hw e3;obtain⟨rL,vs,a4,c4,HL,HT⟩ : ∃ rL vs a4 c4,Hid (locals z (10 - ps.length) r8 = .ok vs rL)∧Hid (Mk 72 w w8 B bp bt z rL #[str [],.int .i64 0,.bool false,ah,ah,ah] #[str n,.int .i64 (hd z ts),.bool (see [42] r2),.slice a3 ps.length c3,.slice a4 vs.length c4,ah] (fun w F=>(True∧eF w F ps (.slice a3 ps.length c3))∧eF w F vs (.slice a4 vs.length c4))):=
    ⟨_,[],none,0,zh (by simp only [locals,HI.out,Bool.false_eq_true,if_false]),zh (H8.out.add (Ch [] ah) eF.nil)⟩
   obtain⟨wL,rfl⟩ : ∃ x,x=w8:=⟨_,rfl⟩
   clear HI
  all_goals
   clear KT;have K:=zh (gN [98,101,103,105,110] _ _ _ _ _ _ HT.out.par);go_wp2_with fail;refine K.out.mono ?_;intro e w13 he;rcases he.cut with⟨en,q,b9,rfl,hx,HE⟩|⟨_,r13,_,rfl,I8,rfl,hc,hp⟩
   ·go_wp2_with fail;exact⟨rfl,HE.out _ _ _ HT.out.aP (by simp only [proc,X1.out,X2.out,X4.out,HP.out,X8.out,HL.out,block,hx.out])⟩
   have NT:=zh (HT.out.step hc hp);clear hc hp K he;have K:=zh (We _ _ _ _ _ _ NT.out.par);go_wp2_with fail;refine K.out.mono ?_;intro e w14 he;rcases he.cut with⟨en,q,b9,rfl,hx,HE⟩|⟨b,r14,_,rfl,NU,⟨a5,c5,cs5,rfl,hv⟩,hc,hp⟩
   ·go_wp2_with fail;exact⟨rfl,HE.out _ _ _ NT.out.aP (by simp only [proc,X1.out,X2.out,X4.out,HP.out,X8.out,HL.out,block,I8.out,hx.out])⟩
   have NV:=zh (NT.out.call hc hp (NF b (.slice a5 b.len c5)) ⟨_,_,_,rfl,hv⟩);clear hc hp K he;clear hv;obtain⟨_,_,_,_,_,e5⟩:=NV.out.blk.six;obtain⟨_,_,_,_,_,f5⟩:=NV.out.blk.kE;obtain⟨w15,hw⟩ : ∃ x,x=w14.setCell ⟨w.heap.size + 1,5,none⟩ (.slice a5 b.len c5):=⟨_,rfl⟩
   have FB:=zh (NV.out.store 5 (.slice a5 b.len c5));simp only [Array.setIfInBounds] at FB;rw [← hw] at FB;have K:=zh (gN [101,110,100] _ _ _ _ _ _ FB.out.par);go_wp2_with fail;rw [← hw];refine K.out.mono ?_;intro e w16 he;rcases he.cut with⟨en,q,b9,rfl,hx,HE⟩|⟨_,r16,_,rfl,Wm,rfl,hc,hp⟩
   ·go_wp2_with fail;exact⟨rfl,HE.out _ _ _ FB.out.aP (by simp only [proc,X1.out,X2.out,X4.out,HP.out,X8.out,HL.out,block,I8.out,NU.out,hx.out])⟩
   have NW:=zh (FB.out.step hc hp);clear hc hp K he;clear e5 f5 hw;have K:=zh (gN [59] _ _ _ _ _ _ NW.out.par);go_wp2_with fail;refine K.out.mono ?_;intro e w17 he;rcases he.cut with⟨en,q,b9,rfl,hx,HE⟩|⟨_,r17,_,rfl,X17,rfl,hc,hp⟩
   ·go_wp2_with fail;exact⟨rfl,HE.out _ _ _ NW.out.aP (by simp only [proc,X1.out,X2.out,X4.out,HP.out,X8.out,HL.out,block,I8.out,NU.out,Wm.out,hx.out])⟩
   have Ah:=zh (NW.out.step hc hp);clear hc hp K he;have HRR:=zh (show proc z ts = .ok ⟨n,hd z ts,see [42] r2,ps,vs,b⟩ r17 by simp only [proc,X1.out,X2.out,X4.out,HP.out,X8.out,HL.out,block,I8.out,NU.out,Wm.out,X17.out]);obtain⟨d0,d1,d2,d3,d4,d5⟩:=Ah.out.blk.six;obtain⟨e0,e1,e2,e3,e4,e5⟩:=Ah.out.res.six;obtain⟨f0,f1,f2,f3,f4,f5⟩:=Ah.out.res.kE;go_wp2_with fail;obtain⟨wF,hwF,aV,aG⟩:=ahC (str n) (.int .i64 (hd z ts)) (.bool (see [42] r2)) (.slice a3 ps.length c3) (.slice a4 vs.length c4) (.slice a5 b.len c5) Ah.out.res;rw [hwF];clear hwF;obtain⟨g0,g1,g2,g3,g4,g5⟩:=aG.six;refine bodyPost_ret (v:=.agg #[str n,.int .i64 (hd z ts),.bool (see [42] r2),.slice a3 ps.length c3,.slice a4 vs.length c4,.slice a5 b.len c5]) (by simp [results,Tryz.results75,go_sem,g0,g1,g2,g3,g4,g5]) rfl ?_;rw [HRR.out];have hq:=Ah.out.fin aV;exact⟨Ah.out.aP.trans aV (fun x hx=>.inr (by simp at hx;omega)),_,rfl,⟨_,rfl,_,_,_,rfl,hq.1.1.2,hq.1.2,hq.2⟩,Ah.out.par.kept aV (fun x hx=>by simp at hx;omega) (by simp;omega) (by simp;omega)⟩
end Go.Proofs.YtechofppmnnomaaGreatDoor
namespace Go.Mq.Tree
open Go Go.RowKit Go.Mq
theorem ahI (l:List bJ) (v:Value):jb (fun w F=>lD w F l v):=⟨fun hF h=>h.mono hF,fun hc hS h=>h.kept hc hS⟩
theorem ahJ (l:List aX) (v:Value):jb (fun w F=>oz w F l v):=⟨fun hF h=>h.mono hF,fun hc hS h=>h.kept hc hS⟩
theorem Wn (x:aX) (cs:List Value):jb (fun w F=>pR w F x cs):=⟨fun hF h=>h.mono hF,fun hc hS h=>h.kept hc hS⟩
theorem sV {w:World} {b:Nat} (v0 v1 v2 v3 v4:Value) {u0 u1 u2 u3 u4:Value} {t:TypeId} (h:ag w b #[u0,u1,u2,u3,u4] t) : ∃ wF,(((((w.setCell ⟨b,0,none⟩ v0).setCell ⟨b,1,none⟩ v1).setCell ⟨b,2,none⟩ v2).setCell ⟨b,3,none⟩ v3).setCell ⟨b,4,none⟩ v4)=wF∧ae [b] w wF∧ag wF b #[v0,v1,v2,v3,v4] t:=
 ⟨_,rfl,((((ae.set1 _ _ _ _).then (ae.set1 _ _ _ _)).then (ae.set1 _ _ _ _)).then (ae.set1 _ _ _ _)).then (ae.set1 _ _ _ _),by
  have:=((((h.set 0 v0).set 1 v1).set 2 v2).set 3 v3).set 4 v4
  simpa using this⟩
end Go.Mq.Tree
namespace Go.Proofs.YtechofppmnnomaaGreatDoor
open Go Go.RowKit Go.Mq Go.Mq.Tree
set_option maxRecDepth 100000
set_option maxHeartbeats 16000000
theorem ahK : (Tryz.prog.info? 72).map (fun i=>(i.zero,i.size,i.bytes))=some (some (.agg #[.string ⟨#[]⟩,.int .i64 0,.bool false,.slice none 0 0,.slice none 0 0,.slice none 0 0]),6,104):=by kernel_rfl
theorem Xr (w:World) (B bp bt z:Nat) (ts:List Tok) (h:bQ w B bp bt z ts):Calls Tryz.prog 35 #[ptr bp] w (eP w B bp bt z (jE z ts) (fun w' m v=>gY w' (New w w') m v)):=by
 have hbp:=h.ru;have hbt:=h.vT;have hB0:=h.laid.le;have hBp:=h.Ak;have hw1 : (w.alloc (.cells #[str [],ah,ah,ah,ah] 32)).heap.size=w.heap.size + 1:=by simp
 obtain⟨w0,hw0⟩ : ∃ w0,w0=(w.alloc (.cells #[str [],ah,ah,ah,ah] 32)).alloc (.cells #[str [],ah,ah,ah,ah] 32):=⟨_,rfl⟩
 have hb0:=ag.new (w.alloc (.cells #[str [],ah,ah,ah,ah] 32)) #[str [],ah,ah,ah,ah] 32;rw [hw1,← hw0] at hb0;have H0:Hid (Mk 32 w w0 B bp bt z ts #[str [],ah,ah,ah,ah] #[str [],ah,ah,ah,ah] (fun _ _=>True)):=zh (by
  refine⟨NG,hbp,hbt,?_,?_,hb0,?_,?_,trivial⟩
  ·rw [hw0];exact((ae.refl _ _).alloc _).alloc _
  ·rw [hw0];exact h.kept (((ae.refl [] w).alloc _).alloc _) (by simp) (by simp) (by simp)
  ·rw [hw0];exact(ag.new w _ 32).kept ((ae.refl [] _).alloc _) (by simp)
  ·rw [hw0];simp)
 clear h hb0 hw1
 go_enter Tryz.func35,Tryz.ntmps35
 go_wp2_with fail
 change Calls _ _ _ ((w.alloc (.cells #[str [],ah,ah,ah,ah] 32)).alloc (.cells #[str [],ah,ah,ah,ah] 32)) _
 rw [← hw0];clear hw0;have K:=zh (gN [109,111,100,117,108,101] _ _ _ _ _ ts H0.out.par);go_wp2_with fail;refine K.out.mono ?_;intro e w1 he;rcases he.cut with⟨en,q,b9,rfl,hx,HE⟩|⟨_,r1,_,rfl,X1,rfl,hc,hp⟩
 ·go_wp2_with fail;exact⟨rfl,HE.out _ _ _ H0.out.aP (by simp only [jE,hx.out])⟩
 have H1:=zh (H0.out.step hc hp);clear hc hp K he;have K:=zh (BU _ _ _ _ _ _ H1.out.par);go_wp2_with fail;refine K.out.mono ?_;intro e w2 he;rcases he.cut with⟨en,q,b9,rfl,hx,HE⟩|⟨n,r2,_,rfl,X2,rfl,hc,hp⟩
 ·go_wp2_with fail;exact⟨rfl,HE.out _ _ _ H1.out.aP (by simp only [jE,X1.out,hx.out])⟩
 have H2:=zh (H1.out.step hc hp);clear hc hp K he;obtain⟨e0,_⟩:=H2.out.blk.five;obtain⟨f0,_⟩:=H2.out.blk.kE;obtain⟨w2b,hw⟩ : ∃ x,x=w2.setCell ⟨w.heap.size + 1,0,none⟩ (str n):=⟨_,rfl⟩
 have FC:=zh (H2.out.store 0 (str n));simp only [Array.setIfInBounds] at FC;rw [← hw] at FC;have K:=zh (gN [59] _ _ _ _ _ _ FC.out.par);go_wp2_with fail;rw [← hw];refine K.out.mono ?_;intro e w3 he;rcases he.cut with⟨en,q,b9,rfl,hx,HE⟩|⟨_,r3,_,rfl,X3,rfl,hc,hp⟩
 ·go_wp2_with fail;exact⟨rfl,HE.out _ _ _ FC.out.aP (by simp only [jE,X1.out,X2.out,hx.out])⟩
 have H3:=zh (FC.out.step hc hp);clear hc hp K he;clear e0 f0 hw;have KT:=zh (kQ [105,109,112,111,114,116] _ _ _ _ _ _ H3.out.par);cases hk : see [105,109,112,111,114,116] r3
 case' true=>
  have HI:=zh hk;clear hk;go_wp2_with fail;refine KT.out.mono ?_;rintro _ w4 ⟨rfl,hp,hc,_⟩;rw [HI.out];rw [skip,HI.out,if_pos rfl] at hp;have H4:=zh (H3.out.step hc hp);clear hc hp;have K:=zh (Nz 6 (by omega) _ _ _ _ _ _ H4.out.par);go_wp2_with fail;refine K.out.mono ?_;intro e w5 he;rcases he.cut with⟨en,q,b9,rfl,hx,HE⟩|⟨nG,r5,_,rfl,X5,⟨a3,c3,rfl,hac,hv⟩,hc,hp⟩
  ·go_wp2_with fail;exact⟨rfl,HE.out _ _ _ H4.out.aP (by simp only [jE,X1.out,X2.out,X3.out,imports,HI.out,if_true,hx.out])⟩
  have H5:=zh (H4.out.call hc hp (Ch nG (.slice a3 nG.length c3)) ⟨_,_,rfl,hac,hv⟩);clear hc hp K he;clear hac hv;obtain⟨_,e1,_⟩:=H5.out.blk.five;obtain⟨_,f1,_⟩:=H5.out.blk.kE;obtain⟨w5b,hw⟩ : ∃ x,x=w5.setCell ⟨w.heap.size + 1,1,none⟩ (.slice a3 nG.length c3):=⟨_,rfl⟩
  have FD:=zh (H5.out.store 1 (.slice a3 nG.length c3));simp only [Array.setIfInBounds] at FD;rw [← hw] at FD;have K:=zh (gN [59] _ _ _ _ _ _ FD.out.par);go_wp2_with fail;rw [← hw];refine K.out.mono ?_;intro e w6 he;rcases he.cut with⟨en,q,b9,rfl,hx,HE⟩|⟨_,r6,_,rfl,X6,rfl,hc,hp⟩
  ·go_wp2_with fail;exact⟨rfl,HE.out _ _ _ FD.out.aP (by simp only [jE,X1.out,X2.out,X3.out,imports,HI.out,if_true,X5.out,hx.out])⟩
  have H6:=zh (FD.out.step hc hp);clear hc hp K he;have vY:=zh (show imports z r3 = .ok nG r6 by simp only [imports,HI.out,if_true,X5.out,X6.out]);obtain⟨r4,rfl⟩ : ∃ x,x=r6:=⟨_,rfl⟩
  clear e1 f1 hw HI
 case' false=>
  have HI:=zh hk;clear hk;go_wp2_with fail;refine KT.out.mono ?_;rintro _ w6 ⟨rfl,_,_,hw⟩;rw [HI.out];have hw':=(hw HI.out).symm;subst hw';clear hw;obtain⟨r4,nG,a3,c3,vY,H6⟩ : ∃ r4 nG a3 c3,Hid (imports z r3 = .ok nG r4)∧Hid (Mk 32 w w3 B bp bt z r4 #[str [],ah,ah,ah,ah] #[str n,.slice a3 nG.length c3,ah,ah,ah] (fun w F=>True∧eF w F nG (.slice a3 nG.length c3))):=
   ⟨_,[],none,0,zh (by simp only [imports,HI.out,Bool.false_eq_true,if_false]),zh (H3.out.add (Ch [] ah) eF.nil)⟩
  clear HI
 all_goals
  clear KT;have K:=zh (ahv _ _ _ _ _ _ H6.out.par);go_wp2_with fail;refine K.out.mono ?_;intro e w7 he;rcases he.cut with⟨en,q,b9,rfl,hx,HE⟩|⟨gs,r7,_,rfl,X7,⟨a7,c7,rfl,hac,hv⟩,hc,hp⟩
  ·go_wp2_with fail;exact⟨rfl,HE.out _ _ _ H6.out.aP (by simp only [jE,X1.out,X2.out,X3.out,vY.out,hx.out])⟩
  have H7:=zh (H6.out.call hc hp (ahI gs (.slice a7 gs.length c7)) ⟨_,_,rfl,hac,hv⟩);clear hc hp K he;clear hac hv;obtain⟨_,_,e2,_⟩:=H7.out.blk.five;obtain⟨_,_,f2,_⟩:=H7.out.blk.kE;obtain⟨w8,hw⟩ : ∃ x,x=w7.setCell ⟨w.heap.size + 1,2,none⟩ (.slice a7 gs.length c7):=⟨_,rfl⟩
  have H8:=zh (H7.out.store 2 (.slice a7 gs.length c7));simp only [Array.setIfInBounds] at H8;rw [← hw] at H8;go_wp2_with fail;rw [← hw];clear e2 f2 hw
  go_loopw [] (fun wr=>∃ (f:Nat) (acc:List aX) (cs:List Value) (l:Value) (ts':List Tok),dV z 11 [] r7=dV z f acc ts'∧f + acc.length=11∧acc.length≤10∧ae [bp,w.heap.size + 1] w8 wr∧bQ wr B bp bt z ts' ∧
    ag wr (w.heap.size + 1) #[str n,.slice a3 nG.length c3,.slice a7 gs.length c7,l,ah] 32∧wr.ownsRow 0 72 6 l acc.length cs∧kG wr (Off w8 wr l) acc cs∧From w8.heap.size l) (fun wr=>11 - lenOf ((wr.cell? ⟨w.heap.size + 1,3,none⟩).getD aJ))
  case atStart=>exact⟨11,[],[],ah,r7,rfl,rfl,Nat.zero_le _,ae.refl _ _,H8.out.par,H8.out.blk,World.ownsRow_nil _ _ _ _,rfl,From.nil _⟩
  case round=>
   obtain⟨f,acc,cs,l,ts',hr,hf,ha,hC,hp,hb,ho,hes,hF⟩:=hrel;have HR:=zh hr;have HP:=zh hp;have HO:=zh ho;have qj:=zh hes;have HF:=zh hF;have HC:=zh hC;have HB:=zh hb;obtain⟨sa,sc,hs⟩:=gu ho;have hsz:=hC.size;have A9:=H8.out.sz;have hbl:=hb.lt;have HW:=zh (show ae [bp] w wr from H8.out.aP.trans hC (fun x hx=>by simp at hx;rcases hx with rfl|rfl;exact .inl (by simp);exact .inr (by omega)));clear hr hp ho hes hF hC hb;subst hs;obtain⟨f,rfl⟩ : ∃ f',f=f' + 1:=⟨f - 1,by omega⟩
   have Co:=zh (yl [112,114,111,99] wr B bp bt z ts' HP.out);cases hk : see [112,114,111,99] ts' with
   | false=>
    rw [hk] at Co;have Wo:=zh (show dV z 11 [] r7 = .ok acc ts' by rw [HR.out,dV,if_neg (by rw [hk];simp)]);clear hk;go_wp2_with fail;refine Co.out.mono ?_;rintro _ _ ⟨rfl,hw⟩;have hw:=hw.symm;subst hw;obtain⟨r6,hr6⟩ : ∃ r6,r6=ts':=⟨_,rfl⟩
    subst hr6;have mR:=Wo;have H9:=zh ((H8.out.loop HC.out HP.out HB.out).add (ahJ acc (.slice sa acc.length sc)) (by
     obtain⟨a,c,he,hac,hrow⟩:=Row.jF HO.out (Am HO.out HF.out);cases he
     refine oz.mono (F:=New w8 wr) (fun x hx=>⟨Nat.le_trans A9 hx.1,hx.2⟩) ⟨_,_,_,rfl,hac,hrow,(IZ acc cs).done qj.out⟩))
    clear qj HO HR Wo;go_wp2_with fail;have K:=zh (gN [98,101,103,105,110] _ _ _ _ _ _ H9.out.par);go_wp2_with fail;refine K.out.mono ?_;intro e w18 he;rcases he.cut with⟨en,q,b9,rfl,hx,HE⟩|⟨_,r18,_,rfl,I9,rfl,hc,hp⟩
    ·go_wp2_with fail;exact⟨rfl,HE.out _ _ _ H9.out.aP (by simp only [jE,X1.out,X2.out,X3.out,vY.out,X7.out,mR.out,block,hx.out])⟩
    have NY:=zh (H9.out.step hc hp);clear hc hp K he;have K:=zh (We _ _ _ _ _ _ NY.out.par);go_wp2_with fail;refine K.out.mono ?_;intro e w19 he;rcases he.cut with⟨en,q,b9,rfl,hx,HE⟩|⟨b,r19,_,rfl,N7,⟨a5,c5,cs5,rfl,hv⟩,hc,hp⟩
    ·go_wp2_with fail;exact⟨rfl,HE.out _ _ _ NY.out.aP (by simp only [jE,X1.out,X2.out,X3.out,vY.out,X7.out,mR.out,block,I9.out,hx.out])⟩
    have N8:=zh (NY.out.call hc hp (NF b (.slice a5 b.len c5)) ⟨_,_,_,rfl,hv⟩);clear hc hp K he;clear hv;obtain⟨_,_,_,_,e4⟩:=N8.out.blk.five;obtain⟨_,_,_,_,f4,_⟩:=N8.out.blk.kE;obtain⟨aje,hw⟩ : ∃ x,x=w19.setCell ⟨w.heap.size + 1,4,none⟩ (.slice a5 b.len c5):=⟨_,rfl⟩
    have FE:=zh (N8.out.store 4 (.slice a5 b.len c5));simp only [Array.setIfInBounds] at FE;rw [← hw] at FE;have K:=zh (gN [101,110,100] _ _ _ _ _ _ FE.out.par);go_wp2_with fail;rw [← hw];refine K.out.mono ?_;intro e w20 he;rcases he.cut with⟨en,q,b9,rfl,hx,HE⟩|⟨_,r20,_,rfl,Wp,rfl,hc,hp⟩
    ·go_wp2_with fail;exact⟨rfl,HE.out _ _ _ FE.out.aP (by simp only [jE,X1.out,X2.out,X3.out,vY.out,X7.out,mR.out,block,I9.out,N7.out,hx.out])⟩
    have N9:=zh (FE.out.step hc hp);clear hc hp K he;clear e4 f4 hw;have K:=zh (gN [46] _ _ _ _ _ _ N9.out.par);go_wp2_with fail;refine K.out.mono ?_;intro e w21 he;rcases he.cut with⟨en,q,b9,rfl,hx,HE⟩|⟨_,r21,_,rfl,X21,rfl,hc,hp⟩
    ·go_wp2_with fail;exact⟨rfl,HE.out _ _ _ N9.out.aP (by simp only [jE,X1.out,X2.out,X3.out,vY.out,X7.out,mR.out,block,I9.out,N7.out,Wp.out,hx.out])⟩
    have Ai:=zh (N9.out.step hc hp);clear hc hp K he;have HRR:=zh (show jE z ts = .ok ⟨n,nG,gs,acc,b⟩ r21 by simp only [jE,X1.out,X2.out,X3.out,vY.out,X7.out,mR.out,block,I9.out,N7.out,Wp.out,X21.out]);obtain⟨d0,d1,d2,d3,d4⟩:=Ai.out.blk.five;obtain⟨e0,e1,e2,e3,e4⟩:=Ai.out.res.five;obtain⟨f0,f1,f2,f3,f4,_⟩:=Ai.out.res.kE;go_wp2_with fail;obtain⟨wF,hwF,aV,aG⟩:=sV (str n) (.slice a3 nG.length c3) (.slice a7 gs.length c7) (.slice sa acc.length sc) (.slice a5 b.len c5) Ai.out.res;rw [hwF];clear hwF;obtain⟨g0,g1,g2,g3,g4⟩:=aG.five;refine bodyPost_ret (v:=.agg #[str n,.slice a3 nG.length c3,.slice a7 gs.length c7,.slice sa acc.length sc,.slice a5 b.len c5]) (by simp [results,Tryz.results35,go_sem,g0,g1,g2,g3,g4]) rfl ?_;rw [HRR.out];have hq:=Ai.out.fin aV;exact⟨Ai.out.aP.trans aV (fun x hx=>.inr (by simp at hx;omega)),_,rfl,⟨_,_,_,_,rfl,hq.1.1.1.2,hq.1.1.2,hq.1.2,hq.2⟩,Ai.out.par.kept aV (fun x hx=>by simp at hx;omega) (by simp;omega) (by simp;omega)⟩
   | true=>
    rw [hk] at Co;have d3:=HB.out.cell 3 _ rfl;cases he : decide (acc.length=10) with
    | true=>
     have he1 : ((acc.length:Int) == 10)=true:=by have:=of_decide_eq_true he;simp [this]
     have mR:=zh (show dV z 11 [] r7 = .bad 4 (hd z ts') by rw [HR.out,dV,if_pos hk,if_pos (of_decide_eq_true he)]);have HRR:=zh (show jE z ts = .bad 4 (hd z ts') by simp only [jE,X1.out,X2.out,X3.out,vY.out,X7.out,mR.out]);clear he hk;go_wp2_with fail;refine Co.out.mono ?_;rintro _ _ ⟨rfl,hw⟩;have hw:=hw.symm;subst hw;go_wp2_with fail;refine(lF 4 _ B bp bt z ts' HP.out).mono ?_;intro e w2 he;have HE:=zh he;obtain⟨b,rfl⟩:=he.thrown;clear he;go_wp2_with fail;refine⟨rfl,?_⟩;rw [HRR.out];exact HE.out.eO HW.out
    | false=>
     have he1 : ((acc.length:Int) == 10)=false:=by have:=of_decide_eq_false he;simp;omega
     have hne:=of_decide_eq_false he;have HG:Hid (∀ q,proc z ts'=q→dV z 11 [] r7=match q with | .bad e p=>.bad e p | .ok g r=>dV z f (acc ++ [g]) r):=zh (fun q hq=>by rw [HR.out,dV,if_pos hk,if_neg hne,hq];cases q <;> rfl);have Wq:bQ wr.drew B bp bt z ts':=HP.out.kept (ae.refl [] wr).drew (by simp) (by simp) (by simp);have HX:=zh (ahD wr.drew B bp bt z ts' Wq);have Ws : wr.drew.cell? ⟨w.heap.size + 1,3,none⟩=some (.slice sa acc.length sc):=d3;clear he hk Wq;cases hx : proc z ts' with
     | bad en q=>
      have mR:=zh (HG.out _ hx);have HRR:=zh (show jE z ts = .bad en q by simp only [jE,X1.out,X2.out,X3.out,vY.out,X7.out,mR.out]);rw [hx] at HX;clear hx;go_wp2_with fail;refine Co.out.mono ?_;rintro _ _ ⟨rfl,hw⟩;have hw:=hw.symm;subst hw;go_wp2_with fail;refine EZ 3 [true,true,true] rfl (by kernel_rfl) (by kernel_rfl) rfl ?_
      repeat ((with_reducible show bW _ _ _ _ _ _ _ _);(first|refine aM ?_|refine oP rfl ?_|refine kX rfl rfl (by kernel_rfl) (fun _ _=>?_)|refine qf rfl rfl rfl (by exact⟨_,_,Ws⟩) (fun _ _=>?_));go_wp2_with fail)
      refine HX.out.mono ?_;intro e w6 he;have aW:=zh he;obtain⟨b,rfl⟩:=he.thrown;clear he;intro a' ha;refine⟨ha,?_⟩;rw [HRR.out];exact aW.out.eO HW.out.drew
     | ok x r=>
      have mR:=zh (HG.out _ hx);rw [hx] at HX;clear hx;have hxb : (w.heap.size + 1)∉bp :: blk (.slice sa acc.length sc):=by
       simp only [List.mem_cons,not_or];exact⟨by omega,fun hm=>by have:=HF.out _ hm;omega⟩
      have HXB:=zh hxb;have HZ:=zh (bZ.of (X:=bp :: blk (.slice sa acc.length sc)) Ws hxb);clear hxb;go_wp2_with fail;refine Co.out.mono ?_;rintro _ _ ⟨rfl,hw⟩;have hw:=hw.symm;subst hw;go_wp2_with fail;refine AA (bp :: blk (.slice sa acc.length sc)) rfl (by kernel_rfl) rfl ?_;have hS:ae (bp :: blk (.slice sa acc.length sc)) wr.drew wr.drew:=ae.refl _ _
      repeat ((with_reducible refine gX ?_);(first|refine aM ?_|refine sK ?_|refine sM fun _ _=>?_|refine sL (hz:=by exact HZ.out) fun _ _=>?_|refine sE fun _ _=>?_);go_wp2_with fail)
      refine HX.out.mono ?_;rintro _ w6 ⟨hc6,_,rfl,⟨cx,rfl,hx6⟩,dH⟩;have NL:=zh hx6;obtain⟨vp,vv,vb,rfl,h1,h2,h3⟩:=hx6;obtain⟨x1,y1,rfl,_,_⟩:=h1;obtain⟨x2,y2,rfl,_,_⟩:=h2;obtain⟨x3,y3,_,rfl,_,_⟩:=h3;have hS:ae (bp :: blk (.slice sa acc.length sc)) wr.drew w6:=hc6.mono (fun x hx=>.inl (by simp at hx;simp [hx]));have bI:=zh hc6;have iP:=zh dH;clear hc6 dH;go_wp2_with fail;refine And.intro hS ?_
      repeat ((with_reducible refine gX ?_);(first|refine aM ?_|refine sK ?_|refine sM fun _ _=>?_|refine sL (hz:=by exact HZ.out) fun _ _=>?_|refine sE fun _ _=>?_);go_wp2_with fail)
      refine And.intro (hS.alloc _) ?_
      repeat ((with_reducible refine gX ?_);(first|refine aM ?_|refine sK ?_|refine sM fun _ _=>?_|refine sL (hz:=by exact HZ.out) fun _ _=>?_|refine sE fun _ _=>?_);go_wp2_with fail)
      have how:=cK (w:=wr.drew) (cK HO.out (ae.refl [] wr).drew (by simp)) (bI.out.alloc (.cells #[str x.name,.int .i64 x.pos,.bool x.seen,.slice x1 x.params.length y1,.slice x2 x.vars.length y2,.slice x3 x.body.len y3] 72)) (fun g hg hm=>by have:=HF.out g hg;simp at hm;omega);refine Ub _ _ 29 rfl rfl rfl 72 _ 6 104 ahK Tryz.underlying29 rfl (by decide) (.slice sa acc.length sc) acc.length _ rfl how ⟨w6.heap.size,0,none⟩ 1 1 [str x.name,.int .i64 x.pos,.bool x.seen,.slice x1 x.params.length y1,.slice x2 x.vars.length y2,.slice x3 x.body.len y3] rfl rfl (uI _ _ _) (by simp [Value.oneCell']) (by omega) (by unfold maxLen;omega) ?_;intro v' w7 hown' hch' bX;obtain⟨a',c',rfl⟩:=gu hown';obtain⟨v',hv'⟩ : ∃ v',v'=Value.slice a' (acc.length + 1) c':=⟨_,rfl⟩
      rw [← hv'] at hown' bX;have dQ:ae (bp :: blk (.slice sa acc.length sc)) wr.drew w7:=(hS.alloc _).then (hch'.mono (fun x hx=>.inl (by simp [hx])))
      have dR:ag w7 (w.heap.size + 1) _ _:=HB.out.kept (ae.trans (S:=bp :: blk (.slice sa acc.length sc)) (⟨rfl,rfl,rfl,Nat.le_refl _,fun _ _ _=>rfl⟩ : ae _ wr wr.drew) dQ (fun x hx=>.inl hx)) HXB.out;have ajf:=dR.cell 3 _ rfl;have ajg:=dR.frozen 3;have VZ:=bI.out.size;have ajh : w6.heap.size≤w7.heap.size:=Nat.le_trans (by simp) hch'.size;have aji : wr.drew.heap.size=wr.heap.size:=rfl;have Wt:=(IZ acc cs).call qj.out ((⟨rfl,rfl,rfl,Nat.le_refl _,fun _ _ _=>rfl⟩ : ae [bp] wr wr.drew).then bI.out) (by omega);have jw : ∀ g∈blk (.slice sa acc.length sc),g < wr.drew.heap.size:=fun g hg=>pM HO.out g hg
      have Wu:=(Wn x _).fresh (w:=w8) (l:=.slice sa acc.length sc) NL.out jw (by omega);have Wv:=(IZ acc cs).app Wt hch' bX;have hx7:=(Wn x _).app Wu hch' bX;have ahN:=zh (kG.snoc Wv hx7);have Ww:From w8.heap.size v':=HF.out.moved bX (by simp;omega);have Wx:=zh Ww;have mJ:bQ w7 B bp bt z r:=(iP.out.kept ((ae.refl [] w6).alloc _) (by simp) (by simp) (by simp)).kept hch' (fun g hg=>by have:=HF.out g hg;omega) (fun hm=>by have:=HF.out _ hm;omega) (fun hm=>by have:=HF.out _ hm;omega);have Ag:=zh mJ;have zJ:=zh hown';have rz:=zh dR;have fF:=zh dQ;have vP : lenOf v'=acc.length + 1:=IY hown';have HL7:=zh vP;clear hown' hch' bX dR hS how Wt jw Wu Wv hx7 Ww mJ vP dQ;refine And.intro fF.out ?_
      repeat ((with_reducible refine gX ?_);(first|refine aM ?_|refine sK ?_|refine sM fun _ _=>?_|refine sL (hz:=by exact HZ.out) fun _ _=>?_|refine sE fun _ _=>?_);go_wp2_with fail)
      refine tJ rfl rfl (fun _ _=>?_)
      change Oper.wp _ (Oper.mk _ _ _ _ _ _) _ _ _ _
      go_wp2_with fail;rw [← hv'];have hcs:ae [w.heap.size + 1] w7 (w7.setCell ⟨w.heap.size + 1,3,none⟩ v'):=ae.set1 _ _ _ _;have hbs:ag (w7.setCell ⟨w.heap.size + 1,3,none⟩ v') (w.heap.size + 1) #[str n,.slice a3 nG.length c3,.slice a7 gs.length c7,v',ah] 32:=rz.out.set 3 v';have ahP:ae [bp,w.heap.size + 1] w8 w7:=(HC.out.trans (⟨rfl,rfl,rfl,Nat.le_refl _,fun _ _ _=>rfl⟩ : ae [bp] wr wr.drew) (fun x hx=>.inl (by simp at hx;simp [hx]))).trans fF.out (fun x hx=>by
       rcases List.mem_cons.1 hx with rfl|hx
       ·exact .inl (by simp)
       ·exact .inr (HF.out x hx))
      go_roundw
      case rel=>
       refine⟨f,acc ++ [x],_,v',r,mR.out,by simp;omega,by simp;omega,ahP.trans hcs (fun x hx=>.inl (by simp at hx;simp [hx])),Ag.out.kept hcs (fun x hx=>by simp at hx;omega) (by simp;omega) (by simp;omega),hbs,?_,(IZ _ _).call ahN.out hcs (by omega),Wx.out⟩
       simpa using cK zJ.out hcs (fun g hg hm=>by have:=Wx.out g hg;simp at hm;omega)
      case measure=>
       have g3:=hbs.cell 3 _ rfl;rw [g3,HB.out.cell 3 _ rfl]
       show 11 - lenOf v' < 11 - lenOf (.slice sa acc.length sc)
       rw [HL7.out];simp only [lenOf];omega
end Go.Proofs.YtechofppmnnomaaGreatDoor
namespace Go.Proofs.YtechofppmnnomaaGreatDoor
open Go Go.RowKit Go.Mq Go.Mq.Tree
set_option maxRecDepth 100000
set_option maxHeartbeats 4000000
theorem Ol (c:UInt8) (w:World):Calls Tryz.prog 104 #[.int .u8 c.toNat] w (fun e w'=>e = .returned (.bool (letter c))∧w'=w):=by
 obtain⟨n,hn⟩ : ∃ n:Nat,n=c.toNat:=⟨_,rfl⟩
 have HL:=zh (show letter c=(decide (97≤n) && decide (n≤122)) by rw [letter,hn]);rw [← hn];clear hn;cases h1 : decide (97≤n) with
 | false=>
  have h1' : decide ((97:Int)≤(n:Int))=false:=by have:=of_decide_eq_false h1;simp;omega
  rw [h1] at HL;clear h1
  go_enter Tryz.func104,Tryz.ntmps104
  go_wp2_with fail;go_ret
  rw [HL.out];exact⟨rfl,rfl⟩
 | true=>
  have h1' : decide ((97:Int)≤(n:Int))=true:=by have:=of_decide_eq_true h1;simp;omega
  have h2' : decide ((n:Int)≤122)=decide (n≤122):=by by_cases h : n≤122 <;> simp [h] <;> omega
  rw [h1] at HL;clear h1
  go_enter Tryz.func104,Tryz.ntmps104
  go_wp2_with fail;go_ret
  rw [HL.out,← h2'];exact⟨rfl,rfl⟩
theorem Jg (c:UInt8) (w:World):Calls Tryz.prog 107 #[.int .u8 c.toNat] w (fun e w'=>e = .returned (.bool (digit c))∧w'=w):=by
 obtain⟨n,hn⟩ : ∃ n:Nat,n=c.toNat:=⟨_,rfl⟩
 have HL:=zh (show digit c=(decide (48≤n) && decide (n≤57)) by rw [digit,hn]);rw [← hn];clear hn;cases h1 : decide (48≤n) with
 | false=>
  have h1' : decide ((48:Int)≤(n:Int))=false:=by have:=of_decide_eq_false h1;simp;omega
  rw [h1] at HL;clear h1
  go_enter Tryz.func107,Tryz.ntmps107
  go_wp2_with fail;go_ret
  rw [HL.out];exact⟨rfl,rfl⟩
 | true=>
  have h1' : decide ((48:Int)≤(n:Int))=true:=by have:=of_decide_eq_true h1;simp;omega
  have h2' : decide ((n:Int)≤57)=decide (n≤57):=by by_cases h : n≤57 <;> simp [h] <;> omega
  rw [h1] at HL;clear h1
  go_enter Tryz.func107,Tryz.ntmps107
  go_wp2_with fail;go_ret
  rw [HL.out,← h2'];exact⟨rfl,rfl⟩
theorem WX (c:UInt8) (w:World):Calls Tryz.prog 106 #[.int .u8 c.toNat] w (fun e w'=>e = .returned (.bool (letter c || digit c))∧w'=w):=by
 have HL:=zh (Ol c w);have HD:=zh (Jg c w);obtain⟨n,hn⟩ : ∃ n:Nat,n=c.toNat:=⟨_,rfl⟩
 rw [← hn] at HL HD;rw [← hn];clear hn;cases h1 : letter c with
 | true=>
  rw [h1] at HL;clear h1
  go_enter Tryz.func106,Tryz.ntmps106
  go_wp2_with fail;refine HL.out.mono ?_;rintro _ w2 ⟨rfl,hw⟩;have hw:=hw.symm;subst hw;go_wp2_with fail;go_ret
  exact⟨rfl,rfl⟩
 | false=>
  rw [h1] at HL;clear h1
  go_enter Tryz.func106,Tryz.ntmps106
  go_wp2_with fail;refine HL.out.mono ?_;rintro _ w2 ⟨rfl,hw⟩;have hw:=hw.symm;subst hw;go_wp2_with fail;refine HD.out.mono ?_;rintro _ w2 ⟨rfl,hw⟩;have hw:=hw.symm;subst hw;go_wp2_with fail;go_ret
  exact⟨rfl,rfl⟩
theorem Om (f:UInt8→Bool) (F:FuncId) (hF : ∀ (cs:Array Value) (w:World),(callFunc F cs).run Tryz.prog w = .ok (.enter F cs) w) (w:World) (hc : ∀ c:UInt8,Calls Tryz.prog F #[.int .u8 c.toNat] w (fun e w'=>e = .returned (.bool (f c))∧w'=w))
  (l:List UInt8) (hl : l.length≤1099511627776):Calls Tryz.prog 105 #[str l,.func (.func F) #[] #[]] w (fun e w'=>e = .returned (.int .i64 (gq f l))∧w'=w):=by
 have HC:=zh hc;obtain⟨s,hs⟩ : ∃ s,s=bs l:=⟨_,rfl⟩
 have hsz : s.size=l.length:=by rw [hs];rfl
 have HS:=zh hs
 show Calls Tryz.prog 105 #[.string (bs l),.func (.func F) #[] #[]] w _
 rw [← hs];clear hc hs
 go_enter Tryz.func105,Tryz.ntmps105
 go_wp2_with fail
 go_loopw [5] (fun v wr=>∃ k:Nat,v = .int .i64 k∧k≤l.length∧wr=w∧gq f l=k + gq f (l.drop k)) (fun v _=>l.length - (intOf v).toNat)
 case atStart=>exact⟨0,rfl,Nat.zero_le _,rfl,by simp⟩
 case round=>
  obtain⟨k,rfl,hk,rfl,hr⟩:=hrel;have HR:=zh hr;clear hr;by_cases hlt : k < l.length
  ·have hdec : decide ((k:Int) < (s.size:Int))=true:=by simp;omega
   obtain⟨c,hcc⟩ : ∃ c,l[k]?=some c:=⟨l[k],List.getElem?_eq_getElem hlt⟩
   have hdrop : l.drop k=c :: l.drop (k + 1):=by
    rw [List.drop_eq_getElem_cons hlt]
    congr 1
    rw [List.getElem?_eq_getElem hlt] at hcc;exact Option.some.inj hcc
   have hidx:=Jd (P:=Tryz.prog) Tryz.underlying9 (show s[k]?=some c by rw [HS.out,Jc];exact hcc);have uR:=zh (HC.out c);obtain⟨n,hn⟩ : ∃ n:Nat,n=c.toNat:=⟨_,rfl⟩
   rw [← hn] at hidx uR;clear hn hcc;cases hf : f c with
   | true=>
    have HRR:=zh (show gq f l=(k + 1) + gq f (l.drop (k + 1)) by rw [HR.out,hdrop,gq,if_pos hf];omega);rw [hf] at uR;clear hf hdrop;go_wp2_with fail;refine uR.out.mono ?_;rintro _ w2 ⟨rfl,hw⟩;have hw:=hw.symm;subst hw;go_wp2_with fail;exact⟨⟨k + 1,by go_num,by omega,by first|rfl|trivial,HRR.out⟩,by simp [intOf];omega⟩
   | false=>
    have HRR:=zh (show gq f l=k by rw [HR.out,hdrop,gq,if_neg (by rw [hf];simp)];rfl);rw [hf] at uR;clear hf hdrop;go_wp2_with fail;refine uR.out.mono ?_;rintro _ w2 ⟨rfl,hw⟩;have hw:=hw.symm;subst hw;go_wp2_with fail;go_ret
    rw [HRR.out];exact⟨rfl,rfl⟩
  ·have hdec : decide ((k:Int) < (s.size:Int))=false:=by simp;omega
   have HRR:=zh (show gq f l=k by rw [HR.out,List.drop_eq_nil_of_le (by omega)];rfl);go_wp2_with fail;go_ret
   rw [HRR.out];exact⟨rfl,rfl⟩
theorem WY (k:Nat) (hk : k < 18) (w:World) : (Instr.index 201 (.agg #[str [58,61],str [60,61],str [62,61],str [35],str [61],str [60],str [62],str [43],str [45],str [42],str [40],str [41],str [91],str [93],str [44],str [59],str [58],str [46]]) (.int .i64 k)).run Tryz.prog w = .ok (str (marks.getD k [])) w:=by
 match k,hk with
 | 0,_=>rfl
 | 1,_=>rfl
 | 2,_=>rfl
 | 3,_=>rfl
 | 4,_=>rfl
 | 5,_=>rfl
 | 6,_=>rfl
 | 7,_=>rfl
 | 8,_=>rfl
 | 9,_=>rfl
 | 10,_=>rfl
 | 11,_=>rfl
 | 12,_=>rfl
 | 13,_=>rfl
 | 14,_=>rfl
 | 15,_=>rfl
 | 16,_=>rfl
 | 17,_=>rfl
 | n + 18,h=>omega
end Go.Proofs.YtechofppmnnomaaGreatDoor
