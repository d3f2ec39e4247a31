/- Some texts in one. -/
import Derived.Test.YtojkkgghndeimaaGreatDoorO9
import Derived.Test.YtojkkgghndeimaaGreatDoorO10
namespace Go.Mq.Tree
open Go Go.RowKit Go.Mq
section
variable {w wk w':World} {Q:World→(Nat→Prop)→Prop} {Z:List Nat}
theorem Framed.going (hQ:Framed Q) (h:Q wk (New w wk)) (hc:Chg Z wk w') (hZ : ∀ x∈Z,x < w.heap.size):Q w' (New w w'):=
 hQ.mono (fun x hx=>⟨hx.1,Nat.lt_of_lt_of_le hx.2 hc.size⟩) (hQ.kept hc (fun x hx hn=>by have:=hZ x hx; have:=hn.1; omega) h)
theorem Framed.newer (hQ:Framed Q) (h:Q w' (New wk w')) (hs : w.heap.size≤wk.heap.size):Q w' (New w w'):=hQ.mono (fun _ hx=>⟨Nat.le_trans hs hx.1,hx.2⟩) h
end
end Go.Mq.Tree
namespace Go.Mq.Ref
open Go Go.RowKit Go.Mq Go.Mq.Tree
structure Mks (w wk:World) (bp bs':Nat) (cs:Array Value):Prop where
 blk:Blk wk bs' cs 138
 chg:Chg [bp,bs'] w wk
 old : bs' < w.heap.size
section
variable {w wk w':World} {bp bs':Nat} {cs:Array Value}
theorem Mks.call (h:Mks w wk bp bs' cs) (hc:Chg [bp] wk w') (hne : bs'≠bp):Mks w w' bp bs' cs:=⟨h.blk.kept hc (by simpa using hne),h.chg.then (hc.mono fun x hx=>.inl (by simp at hx; simp [hx])),h.old⟩
theorem Mks.set (h:Mks w wk bp bs' cs) (i:Nat) (v:Value):Mks w (wk.setCell ⟨bs',i,none⟩ v) bp bs' (cs.setIfInBounds i v):=⟨h.blk.set i v,h.chg.setCell _ (.inl (by simp)) v,h.old⟩
theorem RQ.stored {α:Type} {B bt z i:Nat} {q:R α} {v:Value} (h:RQ wk B bp bt z q) (hB:B≤bs') (hne : bs'≠bp) (hnt : bs'≠bt):RQ (wk.setCell ⟨bs',i,none⟩ v) B bp bt z q:=
 h.kept (Chg.set1 _ _ _ _) (fun x hx=>by simp at hx; subst hx; exact ⟨hB,hne,hnt⟩)
end
def RestV (w w':World) (bs' p:Nat) (o:R (E × S × S)):Prop:=∃ (v a1:Option Addr) (l1 c1:Nat) (a2:Option Addr) (l2 c2:Nat),Blk w' bs' #[num 2,num p,str [],nilp,.pointer v,.slice a1 l1 c1,.slice a2 l2 c2] 138 ∧
 ∀ x r,o = .ok x r→EAt w' (New w w') x.1 [.pointer v]∧SlAt w' (New w w') x.2.1 (.slice a1 l1 c1)∧SlAt w' (New w w') x.2.2 (.slice a2 l2 c2)
def RBodyOK (deep d:Nat):Prop:=∀ (w:World) (B bp bt z:Nat) (ts:List Tok),RP w B bp bt z none ts →
 Calls Go.Proofs.Tryz.prog 47 #[ptr bp,num deep] w (RTold w B bp bt z ((bodies z d).1 ts) (fun w' s v=>SlAt w' (New w w') s v) (fun _ v=>∃ a n c,v = .slice a n c))
def RRestOK (deep d:Nat):Prop:=∀ (p:Nat) (w:World) (B bp bs' bt z:Nat) (ts:List Tok),RP w B bp bt z none ts→Blk w bs' (sCells p) 138→B≤bs'→bs'≠bp→bs'≠bt →
 Calls Go.Proofs.Tryz.prog 140 #[ptr bp,ptr bs',num deep] w (fun e w'=>e = .returned (.tuple #[])∧Chg [bp,bs'] w w'∧RQ w' B bp bt z ((bodies z d).2 ts)∧RestV w w' bs' p ((bodies z d).2 ts))
theorem rest_bad {z:Nat} {bd:Ps S} {more:Ps (E × S × S)} {ts:List Tok} {e p:Nat} (h : (((ex0 z ts).bind fun _=>must z [116,104,101,110]).bind fun _=>bd) = .bad e p) : restL z bd more ts = .bad e p:=by
 rw [restL]
 cases h1 : ex0 z ts with
 | bad e' p'=>rw [h1] at h; cases h; rfl
 | ok v r=>
  rw [h1] at h; simp only [R.bind] at h ⊢
  cases h2 : must z [116,104,101,110] r with
  | bad e' p'=>rw [h2] at h; cases h; rfl
  | ok u r2=>rw [h2] at h; simp only at h ⊢; rw [h]
theorem rest_ok {z:Nat} {bd:Ps S} {more:Ps (E × S × S)} {ts r3:List Tok} {t:S} (h : (((ex0 z ts).bind fun _=>must z [116,104,101,110]).bind fun _=>bd) = .ok t r3) : ∃ v r,ex0 z ts = .ok v r∧restL z bd more ts =
  if see [101,108,115,105,102] r3 then ((more r3.tail).bind fun x r4=>.ok (v,t,.ifs (hd z r3) x.1 x.2.1 x.2.2 .nil) r4) else if see [101,108,115,101] r3 then ((bd r3.tail).bind fun e2 r4=>.ok (v,t,e2) r4) else .ok (v,t,.nil) r3:=by
 rw [restL]
 cases h1 : ex0 z ts with
 | bad e' p'=>rw [h1] at h; cases h
 | ok v r=>
  refine ⟨v,r,rfl,?_⟩
  rw [h1] at h; simp only [R.bind] at h ⊢
  cases h2 : must z [116,104,101,110] r with
  | bad e' p'=>rw [h2] at h; cases h
  | ok u r2=>
   rw [h2] at h; simp only at h ⊢; rw [h]; simp only
   split
   ·cases more r3.tail <;> rfl
   ·split
    ·cases bd r3.tail <;> rfl
    ·rfl
end Go.Mq.Ref
namespace Go.Proofs.YtojkkgghndeimaaGreatDoor
open Go Go.RowKit Go.Mq Go.Mq.Tree Go.Mq.Ref
set_option maxRecDepth 100000
set_option maxHeartbeats 4000000
theorem rvalue_q {α:Type} {w:World} {B bp bt z:Nat} {q:R α} (h:RQ w B bp bt z q):Calls Tryz.prog 139 #[ptr bp] w (RTold w B bp bt z (q.bind fun _=>ex0 z) (EV w) (fun _ v=>∃ o,v = .pointer o)):=by
 have HOK:=Lib.hid (rok_q h); have H:=Lib.hid h
 clear h
 go_enter Tryz.func139,Tryz.ntmps139
 go_wp2_with fail
 refine HOK.out.mono ?_; rintro _ w1 ⟨rfl,hc1⟩
 have HQ:=Lib.hid (H.out.same hc1); have HC:=Lib.hid hc1
 clear hc1
 cases q with
 | bad en p=>
  simp only [R.isOk]
  go_wp2_with fail
  go_ret
  exact ⟨HC.out.weak,_,rfl,⟨_,rfl⟩,HQ.out,fun _ _ e=>by cases e⟩
 | ok a ts=>
  simp only [R.isOk]
  have HX:Hid (Calls Tryz.prog 193 #[ptr bp,num 0,num 0] w1 (RTold w1 B bp bt z (ex0 z ts) (EV w1) (fun _ v=>∃ o,v = .pointer o))):=Lib.hid (by
   have:=rex_any 0 11 rfl w1 B bp bt z ts HQ.out
   simpa [ex0] using this)
  go_wp2_with fail
  refine HX.out.mono ?_; rintro _ w2 ⟨hc2,_,rfl,⟨o,rfl⟩,hq2,hv2⟩
  have HC2:=Lib.hid (HC.out.weak.then hc2); have HQ2:=Lib.hid hq2; have HV2:=Lib.hid hv2
  clear hc2 hq2 hv2
  go_wp2_with fail
  go_ret
  exact ⟨HC2.out,_,rfl,⟨_,rfl⟩,HQ2.out,fun x r e=>EAt.later (HV2.out x r e) HC.out.size⟩
theorem rrest_step (deep d:Nat) (hdp : deep≤10) (hB:RBodyOK (deep + 1) d) (hR:RRestOK (deep + 1) d∨d=0):RRestOK deep (d + 1):=by
 intro p w B bp bs' bt z ts h hbs hB' hne hnt
 have HBO:Hid (∀ (w:World) (B bp bt z:Nat) (ts:List Tok),RP w B bp bt z none ts→Calls Tryz.prog 47 #[ptr bp,num ((deep:Int) + 1)] w (RTold w B bp bt z ((bodies z d).1 ts) (fun w' s v=>SlAt w' (New w w') s v) (fun _ v=>∃ a n c,v = .slice a n c))):=Lib.hid fun w B bp bt z ts hp=>by
  have:=hB w B bp bt z ts hp
  simpa using this
 have HRN:=Lib.hid hR
 have hbp:=RQ.lt (r:=.ok () ts) h
 have hbt:=RQ.bt_lt (r:=.ok () ts) h
 have hB0:B≤w.heap.size:=h.laid.laid.le
 have HM0:=Lib.hid (show Mks w w bp bs' (sCells p) from ⟨hbs,Chg.refl _ _,hbs.lt⟩)
 have hbl:=hbs.lt
 have HV0:=Lib.hid (rvalue_q (q:=(.ok () ts:R Unit)) h)
 have hwr:=wrap_next (deep:=deep) (by omega)
 clear h hbs hB hR
 go_enter Tryz.func140,Tryz.ntmps140
 go_wp2_with fail
 refine HV0.out.mono ?_; rintro _ w1 ⟨hc1,_,rfl,⟨o,rfl⟩,hq1,hv1⟩
 have hm1:=HM0.out.call hc1 hne
 have f0:=hm1.blk.frozen 0; have f4:=hm1.blk.frozen 4; have c0:=hm1.blk.cell 0 _ rfl; have c4:=hm1.blk.cell 4 _ rfl
 obtain ⟨w2,hw2⟩ : ∃ x,(w1.setCell ⟨bs',0,none⟩ (num 2)).setCell ⟨bs',4,none⟩ (.pointer o)=x:=⟨_,rfl⟩
 have HM2:=Lib.hid (show Mks w w2 bp bs' #[num 2,num p,str [],nilp,.pointer o,nils,nils] from hw2 ▸ (hm1.set 0 (num 2)).set 4 (.pointer o))
 have hq2:RQ w2 B bp bt z (ex0 z ts):=hw2 ▸ RQ.stored (RQ.stored hq1 hB' hne hnt) hB' hne hnt
 have hc2:Chg [bs'] w1 w2:=hw2 ▸ (Chg.set1 _ _ _ _).then (Chg.set1 _ _ _ _)
 have HE2:Hid (∀ x r,ex0 z ts = .ok x r→EAt w2 (New w w2) x [.pointer o]):=Lib.hid fun x r e=>(framed_E x _).going (hv1 x r e) hc2 (by simpa using hbl)
 have HMU:=Lib.hid (rmust_q hq2 [116,104,101,110])
 clear hc1 hq1 hv1 hm1 hq2 hc2
 go_wp2_with fail
 clear hw2 f0 f4 c0 c4
 refine HMU.out.mono ?_; rintro _ w3 ⟨rfl,hc3,hq3⟩
 have HM3:=Lib.hid (HM2.out.call hc3 hne); have HOK:=Lib.hid (rok_q hq3); have HQ3:=Lib.hid hq3
 have HE3:Hid (∀ x r,ex0 z ts = .ok x r→EAt w3 (New w w3) x [.pointer o]):=Lib.hid fun x r e=>(framed_E x _).going (HE2.out x r e) hc3 (by simpa using hbp)
 clear hc3 hq3
 go_wp2_with fail
 refine HOK.out.mono ?_; rintro _ w4 ⟨rfl,hc4⟩
 have HM4:=Lib.hid (HM3.out.call hc4.weak hne); have HQ4:=Lib.hid (HQ3.out.same hc4)
 have HE4:Hid (∀ x r,ex0 z ts = .ok x r→EAt w4 (New w w4) x [.pointer o]):=Lib.hid fun x r e=>(framed_E x _).going (HE3.out x r e) hc4 (by simp)
 obtain ⟨Q3,hQ3⟩ : ∃ Q,Q=(((ex0 z ts).bind fun _=>must z [116,104,101,110]).bind fun _=>(bodies z d).1):=⟨_,rfl⟩
 have HQE:=Lib.hid hQ3; have HQ0:=Lib.hid hQ3
 clear hc4 hQ3
 cases hr : (ex0 z ts).bind fun _=>must z [116,104,101,110]
 case' ok u t2=>
  rw [hr] at HQ4 HQE
  simp only [R.isOk]
  have HST:=Lib.hid (HBO.out w4 B bp bt z t2 HQ4.out)
  clear hr
  go_wp2_with fail
  refine HST.out.mono ?_; rintro _ w5 ⟨hc5,_,rfl,⟨a1,l1,c1,rfl⟩,hq5,hv5⟩
  have hm5:=HM4.out.call hc5 hne
  have f5:=hm5.blk.frozen 5; have c5:=hm5.blk.cell 5 _ rfl
  obtain ⟨w6,hw6⟩ : ∃ x,w5.setCell ⟨bs',5,none⟩ (.slice a1 l1 c1)=x:=⟨_,rfl⟩
  have hc6:Chg [bs'] w5 w6:=hw6 ▸ Chg.set1 _ _ _ _
  have HM6:=Lib.hid (show Mks w w6 bp bs' #[num 2,num p,str [],nilp,.pointer o,.slice a1 l1 c1,nils] from hw6 ▸ hm5.set 5 (.slice a1 l1 c1))
  have HQ6:=Lib.hid (show RQ w6 B bp bt z Q3 by rw [HQE.out]; exact hw6 ▸ RQ.stored hq5 hB' hne hnt)
  have HE6:Hid (∀ x r,ex0 z ts = .ok x r→EAt w6 (New w w6) x [.pointer o]):=Lib.hid fun x r e=>(framed_E x _).going ((framed_E x _).going (HE4.out x r e) hc5 (by simpa using hbp)) hc6 (by simpa using hbl)
  have HT6:Hid (∀ t r,Q3 = .ok t r→SlAt w6 (New w w6) t (.slice a1 l1 c1)):=Lib.hid fun t r e=>(framed_Sl t _).going ((framed_Sl t _).newer (hv5 t r (by rw [HQE.out] at e; exact e)) HM4.out.chg.size) hc6 (by simpa using hbl)
  clear hc5 hq5 hv5 hm5 hc6
  obtain ⟨st,t6,hp6,ht6⟩:=HQ6.out.st
  obtain ⟨off,cc,k,t,HH,⟨b0,b1,b2⟩,e0,e1,e2⟩:=hp6.cells
  clear hp6
  go_wp2_with fail
  clear hw6 f5 c5
 case' bad en q=>
  rw [hr] at HQ4 HQE
  simp only [R.isOk]
  obtain ⟨w6,rfl⟩ : ∃ x,x=w4:=⟨_,rfl⟩
  obtain ⟨a1,ha1⟩ : ∃ x:Option Addr,x=none:=⟨_,rfl⟩
  obtain ⟨l1,hl1⟩ : ∃ x:Nat,x=0:=⟨_,rfl⟩
  obtain ⟨c1,hc1⟩ : ∃ x:Nat,x=0:=⟨_,rfl⟩
  have HM6:=Lib.hid (show Mks w w6 bp bs' #[num 2,num p,str [],nilp,.pointer o,.slice a1 l1 c1,nils] by rw [ha1,hl1,hc1]; exact HM4.out)
  have HQ6:=Lib.hid (show RQ w6 B bp bt z Q3 by rw [HQE.out]; exact HQ4.out)
  have HE6:=HE4
  have HT6:Hid (∀ t r,Q3 = .ok t r→SlAt w6 (New w w6) t (.slice a1 l1 c1)):=Lib.hid fun t r e=>by rw [HQE.out] at e; cases e
  obtain ⟨st,t6,hp6,ht6⟩:=HQ6.out.st
  obtain ⟨off,cc,k,t,HH,⟨b0,b1,b2⟩,e0,e1,e2⟩:=hp6.cells
  clear hp6 hr ha1 hl1 hc1
  go_wp2_with fail
 all_goals
  refine (rtake_q HQ6.out [101,108,115,105,102]).mono ?_; rintro _ w7 ⟨rfl,hc7,hq7⟩
  have HM7:=Lib.hid (HM6.out.call hc7 hne); have HT6':=Lib.hid ht6
  have HE7:Hid (∀ x r,ex0 z ts = .ok x r→EAt w7 (New w w7) x [.pointer o]):=Lib.hid fun x r e=>(framed_E x _).going (HE6.out x r e) hc7 (by simpa using hbp)
  have HT7:Hid (∀ t r,Q3 = .ok t r→SlAt w7 (New w w7) t (.slice a1 l1 c1)):=Lib.hid fun t r e=>(framed_Sl t _).going (HT6.out t r e) hc7 (by simpa using hbp)
  clear hc7 ht6 b0 b1 b2 e0 e1 e2
  cases hs:Q3.sees [101,108,115,105,102]
  ·rw [R.skips_false hs] at hq7
   have HQ7:=Lib.hid hq7; have HS7:=Lib.hid hs
   clear hs hq7
   go_wp2_with fail
   refine (rtake_q HQ7.out [101,108,115,101]).mono ?_; rintro _ w8 ⟨rfl,hc8,hq8⟩
   have HM8:=Lib.hid (HM7.out.call hc8 hne)
   have HE8:Hid (∀ x r,ex0 z ts = .ok x r→EAt w8 (New w w8) x [.pointer o]):=Lib.hid fun x r e=>(framed_E x _).going (HE7.out x r e) hc8 (by simpa using hbp)
   have HT8:Hid (∀ t r,Q3 = .ok t r→SlAt w8 (New w w8) t (.slice a1 l1 c1)):=Lib.hid fun t r e=>(framed_Sl t _).going (HT7.out t r e) hc8 (by simpa using hbp)
   clear hc8
   cases hs:Q3.sees [101,108,115,101]
   ·rw [R.skips_false hs] at hq8
    have HQ8:=Lib.hid hq8; have HS8:=Lib.hid hs
    clear hs hq8
    go_wp2_with fail
    refine bodyPost_end (results_none rfl _ _ _) rfl ⟨rfl,HM8.out.chg,?_⟩
    rw [bodies_rest]
    cases hq:Q3 with
    | bad e' q'=>
     rw [rest_bad (by rw [← HQ0.out]; exact hq)]
     exact ⟨by have:=HQ8.out; rw [hq] at this; exact this,o,a1,l1,c1,none,0,0,HM8.out.blk,fun x r e=>by cases e⟩
    | ok t r3=>
     have h7:=HS7.out; have h8:=HS8.out
     rw [hq] at h7 h8
     simp only [R.sees] at h7 h8
     obtain ⟨v,r,hv,hrl⟩:=rest_ok (z:=z) (bd:=(bodies z d).1) (more:=(bodies z d).2) (ts:=ts) (by rw [← HQ0.out]; exact hq)
     rw [hrl,h7,h8,if_neg (by simp),if_neg (by simp)]
     exact ⟨by have:=HQ8.out; rw [hq] at this; exact this,o,a1,l1,c1,none,0,0,HM8.out.blk,fun x r e=>by cases e; exact ⟨HE8.out _ _ hv,HT8.out _ _ hq,none,0,[],rfl,Nat.le_refl _,Row.nil _ _ _,rfl⟩⟩
   ·obtain ⟨t,r3,hq,hsr⟩:=R.sees_true hs
    rw [hq] at hq8
    have HB8:=Lib.hid (HBO.out w8 B bp bt z r3.tail (hq8.taken hsr))
    have HQQ:=Lib.hid hq; have HSR:=Lib.hid hsr
    clear hs hq8 hq hsr
    go_wp2_with fail
    refine HB8.out.mono ?_; rintro _ w9 ⟨hc9,_,rfl,⟨a2,l2,c2,rfl⟩,hq9,hv9⟩
    have hm9:=HM8.out.call hc9 hne
    have f6:=hm9.blk.frozen 6; have c6:=hm9.blk.cell 6 _ rfl
    obtain ⟨wA,hwA⟩ : ∃ x,w9.setCell ⟨bs',6,none⟩ (.slice a2 l2 c2)=x:=⟨_,rfl⟩
    have hcA:Chg [bs'] w9 wA:=hwA ▸ Chg.set1 _ _ _ _
    have HMA:=Lib.hid (show Mks w wA bp bs' #[num 2,num p,str [],nilp,.pointer o,.slice a1 l1 c1,.slice a2 l2 c2] from hwA ▸ hm9.set 6 (.slice a2 l2 c2))
    have HQA:=Lib.hid (show RQ wA B bp bt z ((bodies z d).1 r3.tail) from hwA ▸ RQ.stored hq9 hB' hne hnt)
    have HEA:Hid (∀ x r,ex0 z ts = .ok x r→EAt wA (New w wA) x [.pointer o]):=Lib.hid fun x r e=>(framed_E x _).going ((framed_E x _).going (HE8.out x r e) hc9 (by simpa using hbp)) hcA (by simpa using hbl)
    have HTA:Hid (∀ t r,Q3 = .ok t r→SlAt wA (New w wA) t (.slice a1 l1 c1)):=Lib.hid fun t r e=>(framed_Sl t _).going ((framed_Sl t _).going (HT8.out t r e) hc9 (by simpa using hbp)) hcA (by simpa using hbl)
    have HLA:Hid (∀ t r,(bodies z d).1 r3.tail = .ok t r→SlAt wA (New w wA) t (.slice a2 l2 c2)):=Lib.hid fun t r e=>(framed_Sl t _).going ((framed_Sl t _).newer (hv9 t r e) HM8.out.chg.size) hcA (by simpa using hbl)
    clear hc9 hq9 hv9 hm9 hcA
    go_wp2_with fail
    refine bodyPost_end (results_none rfl _ _ _) rfl ⟨rfl,HMA.out.chg,?_⟩
    have h7:=HS7.out
    rw [HQQ.out] at h7
    simp only [R.sees] at h7
    obtain ⟨v,r,hv,hrl⟩:=rest_ok (z:=z) (bd:=(bodies z d).1) (more:=(bodies z d).2) (ts:=ts) (by rw [← HQ0.out]; exact HQQ.out)
    rw [bodies_rest,hrl,h7,if_neg (by simp),if_pos HSR.out]
    have hqa:=HQA.out
    cases hx : (bodies z d).1 r3.tail with
    | bad e' q'=>rw [hx] at hqa; exact ⟨hqa,o,a1,l1,c1,a2,l2,c2,HMA.out.blk,fun x r e=>by cases e⟩
    | ok e2 r4=>rw [hx] at hqa; exact ⟨hqa,o,a1,l1,c1,a2,l2,c2,HMA.out.blk,fun x r e=>by cases e; exact ⟨HEA.out _ _ hv,HTA.out _ _ HQQ.out,HLA.out _ _ hx⟩⟩
  ·obtain ⟨t,r3,hq,hsr⟩:=R.sees_true hs
   rw [hq] at hq7
   have hp7:=hq7.taken hsr
   rcases HRN.out with hrn | rfl
   case inr=>exfalso; have:=HQE.out; rw [hq] at this; cases this
   have HRN2:Hid (∀ (p:Nat) (w:World) (B bp bs' bt z:Nat) (ts:List Tok),RP w B bp bt z none ts→Blk w bs' (sCells p) 138→B≤bs'→bs'≠bp→bs'≠bt →
     Calls Tryz.prog 140 #[ptr bp,ptr bs',num ((deep:Int) + 1)] w (fun e w'=>e = .returned (.tuple #[])∧Chg [bp,bs'] w w'∧RQ w' B bp bt z ((bodies z d).2 ts)∧RestV w w' bs' p ((bodies z d).2 ts))):=Lib.hid fun p w B bp bs' bt z ts h1 h2 h3 h4 h5=>by
    have:=hrn p w B bp bs' bt z ts h1 h2 h3 h4 h5
    simpa using this
   obtain rfl:=HT6'.out t r3 hq
   obtain ⟨bx,hbx⟩ : ∃ b,b=w7.heap.size:=⟨_,rfl⟩
   have hs7:=HM7.out.chg.size
   have hxp : bx≠bp:=by omega
   have hxs : bx≠bs':=by omega
   have hxt : bx≠bt:=by omega
   obtain ⟨w8,hw8⟩ : ∃ x,w7.alloc (.cells (sCells (hd z r3)) 138)=x:=⟨_,rfl⟩
   have hc8:Chg [] w7 w8:=hw8 ▸ (Chg.refl _ _).alloc _
   have hb8:Blk w8 bx (sCells (hd z r3)) 138:=hbx ▸ hw8 ▸ Blk.new w7 _ _
   have HRE:=Lib.hid (HRN2.out (hd z r3) w8 B bp bx bt z r3.tail (hp7.same hc8) hb8 (by omega) hxp hxt)
   have HC8:=Lib.hid hc8
   have HQQ:=Lib.hid hq; have HSR:=Lib.hid hsr
   have HBX:=Lib.hid hbx; have HW8:=Lib.hid hw8
   clear hw8 hrn hq7 hp7 hq hsr hc8 hb8 hs hbx hxp hxs hxt hs7
   go_wp2_with fail
   rw [← HBX.out,HW8.out]
   refine HRE.out.mono ?_; rintro _ w9 ⟨rfl,hc9,hq9,o',a1',l1',c1',a2',l2',c2',hb9,hv9⟩
   have d0:=hb9.cell 0 _ rfl; have d1:=hb9.cell 1 _ rfl; have d2:=hb9.cell 2 _ rfl; have d3:=hb9.cell 3 _ rfl; have d4:=hb9.cell 4 _ rfl; have d5:=hb9.cell 5 _ rfl; have d6:=hb9.cell 6 _ rfl
   have hbx:=HBX.out; have hs7:=HM7.out.chg.size
   have hbs9:=(HM7.out.blk.kept HC8.out (by simp)).kept hc9 (by simp; omega)
   have f6:=hbs9.frozen 6; have e6:=hbs9.cell 6 _ rfl
   have HC9:=Lib.hid hc9; have HQ9:=Lib.hid hq9; have HV9:=Lib.hid hv9; have HBS:=Lib.hid hbs9
   have hl9:=hbs9.lt
   clear hc9 hq9 hv9 hb9 hbs9 hbx hs7
   go_wp2_with fail
   refine bodyPost_end (results_none rfl _ _ _) rfl ?_
   clear d0 d1 d2 d3 d4 d5 d6 f6 e6
   obtain ⟨wF,hwF⟩ : ∃ x,x=(w9.setCell ⟨bs',6,none⟩ (.slice (some ⟨w9.heap.size,0,none⟩) 1 1)).alloc (.cells #[num 2,num (hd z r3),str [],nilp,.pointer o',.slice a1' l1' c1',.slice a2' l2' c2'] 138):=⟨_,rfl⟩
   have hz8 : (w9.setCell ⟨bs',6,none⟩ (.slice (some ⟨w9.heap.size,0,none⟩) 1 1)).heap.size=w9.heap.size:=by simp [World.setCell]
   have hbF:Blk wF bs' #[num 2,num p,str [],nilp,.pointer o,.slice a1 l1 c1,.slice (some ⟨w9.heap.size,0,none⟩) 1 1] 138:=hwF ▸ (HBS.out.set 6 (.slice (some ⟨w9.heap.size,0,none⟩) 1 1)).kept ((Chg.refl [] _).alloc _) (by simp)
   have hbn:Blk wF w9.heap.size #[num 2,num (hd z r3),str [],nilp,.pointer o',.slice a1' l1' c1',.slice a2' l2' c2'] 138:=by
    rw [hwF,← hz8,hz8]
    have:=Blk.new (w9.setCell ⟨bs',6,none⟩ (.slice (some ⟨w9.heap.size,0,none⟩) 1 1)) #[num 2,num (hd z r3),str [],nilp,.pointer o',.slice a1' l1' c1',.slice a2' l2' c2'] 138
    rwa [hz8] at this
   have hcF:Chg [bs'] w9 wF:=hwF ▸ (Chg.set1 _ _ _ _).alloc _
   have hqF:RQ wF B bp bt z ((bodies z d).2 r3.tail):=HQ9.out.kept hcF (fun x hx=>by simp at hx; subst hx; exact ⟨hB',hne,hnt⟩)
   have hbx:=HBX.out
   have hs7:=HM7.out.chg.size
   have hk:Chg [bp,bx] w7 w9:=HC8.out.weak.then HC9.out
   have hs9:=hk.size; have hs8:=HC8.out.size
   have hcW:Chg [bp,bs'] w wF:=(HM7.out.chg.trans hk (fun x hx=>by simp at hx; rcases hx with rfl | rfl; exact .inl (by simp); exact .inr (by omega))).then (hcF.mono fun x hx=>.inl (by simp at hx; simp [hx]))
   have hbk : ∀ x∈[bp,bx],¬ New w w7 x:=fun x hx hn=>by simp at hx; have:=hn.1; have:=hn.2; omega
   have keep : ∀ {Q:World→(Nat→Prop)→Prop},Framed Q→Q w7 (New w w7)→Q wF (New w wF):=fun hQ h=>hQ.going (hQ.mono (fun x hx=>⟨hx.1,Nat.lt_of_lt_of_le hx.2 hs9⟩) (hQ.kept hk hbk h)) hcF (by simpa using hbl)
   rw [← hwF]
   clear hwF hz8
   refine ⟨rfl,hcW,?_⟩
   obtain ⟨v,r,hv,hrl⟩:=rest_ok (z:=z) (bd:=(bodies z d).1) (more:=(bodies z d).2) (ts:=ts) (by rw [← HQ0.out]; exact HQQ.out)
   rw [bodies_rest,hrl,if_pos HSR.out]
   cases hx : (bodies z d).2 r3.tail with
   | bad e' q'=>rw [hx] at hqF; exact ⟨hqF,o,a1,l1,c1,_,1,1,hbF,fun x r e=>by cases e⟩
   | ok x r4=>
    rw [hx] at hqF
    refine ⟨hqF,o,a1,l1,c1,_,1,1,hbF,fun x' r' e=>?_⟩
    cases e
    obtain ⟨g1,g2,g3⟩:=HV9.out x r4 hx
    have h8w : w.heap.size≤w8.heap.size:=by omega
    have g1:=(framed_E _ _).going ((framed_E _ _).newer g1 h8w) hcF (by simpa using hbl)
    obtain ⟨_,_,cs1,e1,g2a,g2b,g2c⟩:=(framed_Sl _ _).going ((framed_Sl _ _).newer g2 h8w) hcF (by simpa using hbl)
    obtain ⟨_,_,cs2,e2,g3a,g3b,g3c⟩:=(framed_Sl _ _).going ((framed_Sl _ _).newer g3 h8w) hcF (by simpa using hbl)
    cases e1; cases e2
    refine ⟨keep (framed_E v _) (HE7.out v r hv),keep (framed_Sl t _) (HT7.out t r3 HQQ.out),some ⟨w9.heap.size,0,none⟩,1,_,rfl,Nat.le_refl _,⟨fun _=>⟨w9.heap.size,0,rfl,fun i y hy=>?_⟩,fun _ q hq=>?_⟩,⟨_,_,_,cs1,_,_,cs2,[],rfl,g1,g2a,g2b,g2c,g3a,g3b,g3c,rfl⟩⟩
    ·rw [Nat.zero_add]; exact hbn.cell i y (by simpa using hy)
    ·cases hq; exact ⟨by show w.heap.size≤w9.heap.size; omega,hbn.lt⟩
end Go.Proofs.YtojkkgghndeimaaGreatDoor
namespace Go.Mq.Tree
open Go Go.RowKit Go.Mq
theorem framed_when {α:Type} (o:R α) {P : α→World→(Nat→Prop)→Prop} (h : ∀ a,Framed (P a)):Framed (fun w F=>∀ a r,o = .ok a r→P a w F):=⟨fun hF x a r e=>(h a).mono hF (x a r e),fun hc hS x a r e=>(h a).kept hc hS (x a r e)⟩
theorem see_one {a b:List UInt8} {ts:List Tok} (h : see a ts=true) (hn : (a == b)=false) : see b ts=false:=by
 cases ts with
 | nil=>rfl
 | cons t r=>
  have : t.text=a:=by simpa [see] using h
  simp only [see,this]; exact hn
end Go.Mq.Tree
namespace Go.Mq.Ref
open Go Go.RowKit Go.Mq Go.Mq.Tree
structure RMk {α:Type} (T:TypeId) (w wk:World) (B bp bt z:Nat) (q:R α) (zs cs:Array Value) (Q:World→(Nat→Prop)→Prop):Prop where
 fr:Framed Q
 hB:B≤w.heap.size
 hbp : bp < w.heap.size
 hbt : bt < w.heap.size
 chg:Chg [bp] w wk
 rq:RQ wk B bp bt z q
 blk:Blk wk (w.heap.size + 1) cs T
 res:Blk wk w.heap.size zs T
 sz : w.heap.size + 2≤wk.heap.size
 q:Q wk (New2 w wk)
section
variable {α β:Type} {T:TypeId} {w wk w':World} {B bp bt z:Nat} {q:R α} {q':R β} {zs cs cs':Array Value} {Q Q':World→(Nat→Prop)→Prop}
theorem RMk.step (h:RMk T w wk B bp bt z q zs cs Q) (hc:Chg [bp] wk w') (hq:RQ w' B bp bt z q'):RMk T w w' B bp bt z q' zs cs Q:=
 ⟨h.fr,h.hB,h.hbp,h.hbt,h.chg.then hc,hq,h.blk.kept hc (by have:=h.hbp; simp; omega),h.res.kept hc (by have:=h.hbp; simp; omega),Nat.le_trans h.sz hc.size,
  h.fr.mono (fun x hx=>⟨hx.1,Nat.lt_of_lt_of_le hx.2 hc.size⟩) (h.fr.kept hc (fun x hx hn=>by have:=h.hbp; simp at hx; have:=hn.1; omega) h.q)⟩
theorem RMk.as (h:RMk T w wk B bp bt z q zs cs Q) (hq:RQ wk B bp bt z q'):RMk T w wk B bp bt z q' zs cs Q:=⟨h.fr,h.hB,h.hbp,h.hbt,h.chg,hq,h.blk,h.res,h.sz,h.q⟩
theorem RMk.add (h:RMk T w wk B bp bt z q zs cs Q) (hf:Framed Q') (hq:Q' wk (New2 w wk)):RMk T w wk B bp bt z q zs cs (fun w F=>Q w F∧Q' w F):=
 ⟨h.fr.and hf,h.hB,h.hbp,h.hbt,h.chg,h.rq,h.blk,h.res,h.sz,h.q,hq⟩
theorem RMk.call (h:RMk T w wk B bp bt z q zs cs Q) (hc:Chg [bp] wk w') (hp:RQ w' B bp bt z q') (hf:Framed Q') (hq:Q' w' (New wk w')):RMk T w w' B bp bt z q' zs cs (fun w F=>Q w F∧Q' w F):=
 (h.step hc hp).add hf (hf.mono (fun _ hx=>⟨Nat.le_trans h.sz hx.1,hx.2⟩) hq)
theorem RMk.loop (h:RMk T w wk B bp bt z q zs cs Q) (hc:Chg [bp,w.heap.size + 1] wk w') (hp:RQ w' B bp bt z q') (hb:Blk w' (w.heap.size + 1) cs' T):RMk T w w' B bp bt z q' zs cs' Q:=
 ⟨h.fr,h.hB,h.hbp,h.hbt,h.chg.trans hc (fun x hx=>by simp at hx; rcases hx with rfl | rfl; exact .inl (by simp); exact .inr (by omega)),hp,hb,h.res.kept hc (by have:=h.hbp; simp; omega),Nat.le_trans h.sz hc.size,
  h.fr.mono (fun x hx=>⟨hx.1,Nat.lt_of_lt_of_le hx.2 hc.size⟩) (h.fr.kept hc (fun x hx hn=>by have:=h.hbp; simp at hx; have:=hn.1; omega) h.q)⟩
theorem RMk.store (h:RMk T w wk B bp bt z q zs cs Q) (i:Nat) (v:Value):RMk T w (wk.setCell ⟨w.heap.size + 1,i,none⟩ v) B bp bt z q zs (cs.setIfInBounds i v) Q:=by
 have h1:=h.hbp; have h2:=h.hbt; have h3:=h.hB
 exact h.loop ((Chg.set1 _ _ _ _).mono fun x hx=>.inl (by simp at hx; simp [hx])) (h.rq.kept (Chg.set1 _ _ _ _) (fun x hx=>by simp at hx; omega)) (h.blk.set i v)
end
end Go.Mq.Ref
namespace Go.Mq.Ref
open Go Go.RowKit Go.Mq Go.Mq.Tree
section
variable {z:Nat} {bd:Ps S} {rest:Ps (E × S × S)} {ts:List Tok}
theorem stmt_ret (h : see [114,101,116,117,114,110] ts=true) : stmt z bd rest ts=(ex0 z ts.tail).bind fun v r=>.ok (.ret (hd z ts) v .nil) r:=by
 rw [stmt,see_one h (b:=[105,102]) (by decide),see_one h (b:=[119,104,105,108,101]) (by decide),if_neg (by simp),if_neg (by simp),if_pos h]
 cases ex0 z ts.tail <;> rfl
theorem stmt_wri (h : see [119,114,105,116,101] ts=true) : stmt z bd rest ts=(ex0 z ts.tail).bind fun v r=>.ok (.wri (hd z ts) v .nil) r:=by
 rw [stmt,see_one h (b:=[105,102]) (by decide),see_one h (b:=[119,104,105,108,101]) (by decide),see_one h (b:=[114,101,116,117,114,110]) (by decide),if_neg (by simp),if_neg (by simp),if_neg (by simp),if_pos h]
 cases ex0 z ts.tail <;> rfl
theorem stmt_whil (h : see [119,104,105,108,101] ts=true) : stmt z bd rest ts=(ex0 z ts.tail).bind fun v r=>(must z [100,111] r).bind fun _ r2=>(bd r2).bind fun t r3=>(must z [101,110,100] r3).bind fun _ r4=>.ok (.whil (hd z ts) v t .nil) r4:=by
 rw [stmt,see_one h (b:=[105,102]) (by decide),if_neg (by simp),if_pos h]
 cases ex0 z ts.tail with
 | bad e p=>rfl
 | ok v r=>
  simp only [R.bind]
  cases must z [100,111] r with
  | bad e p=>rfl
  | ok u r2=>
   simp only
   cases bd r2 with
   | bad e p=>rfl
   | ok t r3=>simp only; cases must z [101,110,100] r3 <;> rfl
theorem stmt_if (h : see [105,102] ts=true) : stmt z bd rest ts=(rest ts.tail).bind fun x r=>(must z [101,110,100] r).bind fun _ r2=>.ok (.ifs (hd z ts) x.1 x.2.1 x.2.2 .nil) r2:=by
 rw [stmt,if_pos h]
 cases rest ts.tail with
 | bad e p=>rfl
 | ok x r=>simp only [R.bind]; cases must z [101,110,100] r <;> rfl
theorem stmt_first (h1 : see [114,101,116,117,114,110] ts=false) (h2 : see [119,114,105,116,101] ts=false) (h3 : see [119,104,105,108,101] ts=false) (h4 : see [105,102] ts=false) : stmt z bd rest ts=first z (hd z ts) ts:=by
 rw [stmt,h1,h2,h3,h4]; rfl
theorem first_bad {p e q:Nat} (h : named z (expr z (one z 10) 5) ts = .bad e q) : first z p ts = .bad e q:=by
 rw [first,h]
theorem first_app {p p':Nat} {m n:List UInt8} {l:E} {r:List Tok} (h : named z (expr z (one z 10) 5) ts = .ok (.app p' m n l) r) : first z p ts = .ok (.call p (.app p' m n l) .nil) r:=by
 rw [first,h]
theorem first_set {p p':Nat} {m n:List UInt8} {i:Option E} {e:E} {r:List Tok} (h : named z (expr z (one z 10) 5) ts = .ok e r) (he : (∃ x,i=some x∧e = .item p' m n x)∨(i=none∧e = .var p' m n)) :
  first z p ts=if m≠[] then .bad 3 (hd z r) else (must z [58,61] r).bind fun _ r2=>(ex0 z r2).bind fun v r3=>.ok (.set p n i v .nil) r3:=by
 rw [first,h]
 rcases he with ⟨x,rfl,rfl⟩ | ⟨rfl,rfl⟩
 all_goals
  simp only
  split
  ·rfl
  ·cases must z [58,61] r with
   | bad e p=>rfl
   | ok u r2=>simp only [R.bind]; cases ex0 z r2 <;> rfl
theorem named_parts {w:World} {F:Nat→Prop} {ex:Ps E} {e:E} {r:List Tok} {xb:Nat} {k p:Int} {m n:List UInt8} {i a:Option Addr} {l c:Nat} (h : named z ex ts = .ok e r) (he:EAt w F e [ptr xb])
  (hb:Blk w xb #[num k,num p,num 0,str m,str n,str [],.pointer i,nilp,.slice a l c] 155) :
  ((k == 6)=true ∧ ∃ p' m' n' l',e = .app p' m' n' l')∨((k == 6)=false ∧ ∃ i' p',OptAt w F i' (.pointer i)∧((∃ x,i'=some x∧e = .item p' m n x)∨(i'=none∧e = .var p' m n))):=by
 have inj : ∀ {cs:Array Value},Blk w xb cs 155→cs = #[num k,num p,num 0,str m,str n,str [],.pointer i,nilp,.slice a l c]:=fun h=>by
  have:=h.symm.trans hb; simpa using this
 rcases named_shape h with ⟨p',m',n',rfl⟩ | ⟨p',m',n',x,rfl⟩ | ⟨p',m',n',l',rfl⟩
 ·obtain ⟨b,h1,_,h3⟩:=he
  cases h1
  have:=inj h3
  simp [bs] at this
  obtain ⟨rfl,_,rfl,rfl,rfl,_⟩:=this
  exact .inr ⟨rfl,none,p',rfl,.inr ⟨rfl,rfl⟩⟩
 ·obtain ⟨b,u,h1,_,h3,h4⟩:=he
  cases h1
  have:=inj h3
  simp [bs] at this
  obtain ⟨rfl,_,rfl,rfl,rfl,_⟩:=this
  exact .inr ⟨rfl,some x,p',h4,.inl ⟨x,rfl,rfl⟩⟩
 ·obtain ⟨b,a',c',vs,h1,_,h3,_⟩:=he
  cases h1
  have:=inj h3
  simp at this
  obtain ⟨rfl,_⟩:=this
  exact .inl ⟨rfl,_,_,_,_,rfl⟩
end
def StU (v:Value):Prop:=∃ (k p:Int) (n:List UInt8) (i v' a:Option Addr) (l c:Nat) (a2:Option Addr) (l2 c2:Nat),v = .agg #[num k,num p,str n,.pointer i,.pointer v',.slice a l c,.slice a2 l2 c2]
def StEnd (w wE:World) (B bp bt z p:Nat) (O:R S):Prop:=∃ (k9:Int) (n9:List UInt8) (i9 v9 a9:Option Addr) (l9 m9:Nat) (b9:Option Addr) (j9 o9:Nat) (Q:World→(Nat→Prop)→Prop),
 RMk 138 w wE B bp bt z O (sCells 0) #[num k9,num p,str n9,.pointer i9,.pointer v9,.slice a9 l9 m9,.slice b9 j9 o9] Q ∧
 ∀ s r,O = .ok s r→SAt wE (New2 w wE) s [num k9,num p,str n9,.pointer i9,.pointer v9,.slice a9 l9 m9,.slice b9 j9 o9]
theorem bind_ok {α β:Type} {q:R α} {f : α→Ps β} {b : β} {r:List Tok} (h : q.bind f = .ok b r) : ∃ a r',q = .ok a r'∧f a r' = .ok b r:=by
 cases q with
 | ok a r'=>exact ⟨a,r',rfl,h⟩
 | bad e p=>cases h
theorem RQ.bind {α β γ:Type} {w:World} {B bp bt z:Nat} {q:R α} {f : α→Ps β} {g : α→Ps γ} (h:RQ w B bp bt z (q.bind f)) (hg : ∀ a r,q = .ok a r→RQ w B bp bt z (f a r)→RQ w B bp bt z (g a r)):RQ w B bp bt z (q.bind g):=by
 cases q with
 | ok a r=>exact hg a r rfl h
 | bad e p=>exact h
theorem RQ.done {α β:Type} {w:World} {B bp bt z:Nat} {q:R α} {g : α→List Tok→β} (h:RQ w B bp bt z q):RQ w B bp bt z (q.bind fun a r=>.ok (g a r) r):=by
 cases q with
 | ok a r=>exact h
 | bad e p=>exact h
def RStmtOK (deep:Nat) (st:Nat→Ps S):Prop:=∀ (w:World) (B bp bt z:Nat) (ts:List Tok),RP w B bp bt z none ts →
 Calls Go.Proofs.Tryz.prog 97 #[ptr bp,num deep] w (RTold w B bp bt z (st z ts) (Go.Proofs.YtojkkgghndeimaaGreatDoor.SV w) (fun _ v=>StU v))
end Go.Mq.Ref
namespace Go.Proofs.YtojkkgghndeimaaGreatDoor
open Go Go.RowKit Go.Mq Go.Mq.Tree Go.Mq.Ref
set_option maxRecDepth 100000
set_option maxHeartbeats 8000000
theorem rstmt_step (deep d:Nat) (hdp : deep≤10) (hB:RBodyOK (deep + 1) d) (hR:RRestOK deep (d + 1)):RStmtOK deep (fun z=>stmt z (bodies z d).1 (bodies z (d + 1)).2):=by
 intro w B bp bt z ts h
 have HBO:Hid (∀ (w:World) (B bp bt z:Nat) (ts:List Tok),RP w B bp bt z none ts→Calls Tryz.prog 47 #[ptr bp,num ((deep:Int) + 1)] w (RTold w B bp bt z ((bodies z d).1 ts) (fun w' s v=>SlAt w' (New w w') s v) (fun _ v=>∃ a n c,v = .slice a n c))):=Lib.hid fun w B bp bt z ts hp=>by
  have:=hB w B bp bt z ts hp
  simpa using this
 have HRO:=Lib.hid hR
 have hB0:B≤w.heap.size:=h.laid.laid.le
 have hbp:=RQ.lt (r:=.ok () ts) h
 have hbt:=RQ.bt_lt (r:=.ok () ts) h
 have hwr:=wrap_next (deep:=deep) (by omega)
 obtain ⟨off,c,k,t,HH,⟨b0,b1,b2⟩,c0,c1,c2⟩:=h.cells
 obtain ⟨p,hp⟩ : ∃ p,p=hd z ts:=⟨_,rfl⟩
 rw [← hp] at c2
 obtain ⟨O,hO⟩ : ∃ O,O=stmt z (bodies z d).1 (bodies z (d + 1)).2 ts:=⟨_,rfl⟩
 have HPP:=Lib.hid hp; have HO:=Lib.hid hO
 have hw1 : (w.alloc (.cells (sCells 0) 138)).heap.size=w.heap.size + 1:=by simp
 have hb1:=Blk.new (w.alloc (.cells (sCells 0) 138)) (sCells p) 138
 rw [hw1] at hb1
 obtain ⟨w1,hw1'⟩ : ∃ x,x=(w.alloc (.cells (sCells 0) 138)).alloc (.cells (sCells p) 138):=⟨_,rfl⟩
 have H1:Hid (RMk 138 w w1 B bp bt z (.ok () ts:R Unit) (sCells 0) (sCells p) (fun _ _=>True)):=Lib.hid (by
  rw [hw1']
  exact ⟨framed_true,hB0,hbp,hbt,((Chg.refl _ _).alloc _).alloc _,RQ.same (r:=(.ok () ts:R Unit)) h (((Chg.refl [] w).alloc _).alloc _),hb1,(Blk.new w _ 138).kept ((Chg.refl [] _).alloc _) (by simp),by simp,trivial⟩)
 have HW:=Lib.hid hw1'
 show Calls _ _ _ _ (RTold w B bp bt z (stmt z (bodies z d).1 (bodies z (d + 1)).2 ts) _ _)
 rw [← hO]
 clear h hB hR hb1 hw1 hp hO hw1'
 go_enter Tryz.func97,Tryz.ntmps97
 go_wp2_with fail
 clear c0 c1 c2 b0 b1 b2
 change Calls _ _ _ ((w.alloc (.cells (sCells 0) 138)).alloc (.cells (sCells p) 138)) _
 rw [← HW.out]
 refine (rtake_q H1.out.rq [114,101,116,117,114,110]).mono ?_; rintro _ w2 ⟨rfl,hc,hq⟩
 cases hk : see [114,101,116,117,114,110] ts
 case' true=>
  have H2:=Lib.hid (H1.out.step hc (q':=(.ok () ts.tail:R Unit)) (RQ.taken hq hk))
  have HOO:=Lib.hid (show O=(ex0 z ts.tail).bind fun v r=>.ok (.ret p v .nil) r by rw [HO.out,stmt_ret hk,HPP.out])
  simp only [R.sees,hk]
  clear hc hq hk
  go_wp2_with fail
  refine (rvalue_q H2.out.rq).mono ?_; rintro _ w3 ⟨hc,_,rfl,⟨o,rfl⟩,hq,hv⟩
  have H3:=Lib.hid (H2.out.call hc (q':=ex0 z ts.tail) hq (framed_when (ex0 z ts.tail) (fun v=>framed_E v [.pointer o])) hv)
  obtain ⟨e0,_,_,_,e4,_,_⟩:=H3.out.blk.seven; obtain ⟨f0,_,_,_,f4,_,_⟩:=H3.out.blk.free7
  obtain ⟨wE,hwE⟩ : ∃ x,(w3.setCell ⟨w.heap.size + 1,0,none⟩ (num 4)).setCell ⟨w.heap.size + 1,4,none⟩ (.pointer o)=x:=⟨_,rfl⟩
  have H4:=Lib.hid ((H3.out.store 0 (num 4)).store 4 (.pointer o))
  simp only [List.setIfInBounds_toArray,Array.setIfInBounds] at H4
  rw [hwE] at H4
  have HE:=Lib.hid (show StEnd w wE B bp bt z p O from ⟨4,[],none,o,none,0,0,none,0,0,_,H4.out.as (by rw [HOO.out]; exact H4.out.rq.done),fun s r e=>by
   rw [HOO.out] at e
   obtain ⟨v,r',hv,e⟩:=bind_ok e
   cases e
   exact ⟨_,[],rfl,H4.out.q.2 v _ hv,rfl⟩⟩)
  clear hc hq hv
 case' false=>
  have H2:=Lib.hid (H1.out.step hc (q':=(.ok () ts:R Unit)) (by rw [R.skips_false (q:=(.ok () ts:R Unit)) hk] at hq; exact hq))
  have HK1:=Lib.hid hk
  simp only [R.sees,hk]
  clear hc hq hk
  go_wp2_with fail
  refine (rtake_q H2.out.rq [119,114,105,116,101]).mono ?_; rintro _ w2b ⟨rfl,hc,hq⟩
  cases hk : see [119,114,105,116,101] ts
  case' true=>
   have H2:=Lib.hid (H2.out.step hc (q':=(.ok () ts.tail:R Unit)) (RQ.taken hq hk))
   have HOO:=Lib.hid (show O=(ex0 z ts.tail).bind fun v r=>.ok (.wri p v .nil) r by rw [HO.out,stmt_wri hk,HPP.out])
   simp only [R.sees,hk]
   clear hc hq hk
   go_wp2_with fail
   refine (rvalue_q H2.out.rq).mono ?_; rintro _ w3 ⟨hc,_,rfl,⟨o,rfl⟩,hq,hv⟩
   have H3:=Lib.hid (H2.out.call hc (q':=ex0 z ts.tail) hq (framed_when (ex0 z ts.tail) (fun v=>framed_E v [.pointer o])) hv)
   obtain ⟨e0,_,_,_,e4,_,_⟩:=H3.out.blk.seven; obtain ⟨f0,_,_,_,f4,_,_⟩:=H3.out.blk.free7
   obtain ⟨wE,hwE⟩ : ∃ x,(w3.setCell ⟨w.heap.size + 1,0,none⟩ (num 5)).setCell ⟨w.heap.size + 1,4,none⟩ (.pointer o)=x:=⟨_,rfl⟩
   have H4:=Lib.hid ((H3.out.store 0 (num 5)).store 4 (.pointer o))
   simp only [List.setIfInBounds_toArray,Array.setIfInBounds] at H4
   rw [hwE] at H4
   have HE:=Lib.hid (show StEnd w wE B bp bt z p O from ⟨5,[],none,o,none,0,0,none,0,0,_,H4.out.as (by rw [HOO.out]; exact H4.out.rq.done),fun s r e=>by
    rw [HOO.out] at e
    obtain ⟨v,r',hv,e⟩:=bind_ok e
    cases e
    exact ⟨_,[],rfl,H4.out.q.2 v _ hv,rfl⟩⟩)
   clear hc hq hv
  case' false=>
   have H2:=Lib.hid (H2.out.step hc (q':=(.ok () ts:R Unit)) (by rw [R.skips_false (q:=(.ok () ts:R Unit)) hk] at hq; exact hq))
   have HK2:=Lib.hid hk
   simp only [R.sees,hk]
   clear hc hq hk
   go_wp2_with fail
   refine (rtake_q H2.out.rq [119,104,105,108,101]).mono ?_; rintro _ w2c ⟨rfl,hc,hq⟩
   cases hk : see [119,104,105,108,101] ts
   case' true=>
    have H2:=Lib.hid (H2.out.step hc (q':=(.ok () ts.tail:R Unit)) (RQ.taken hq hk))
    have HOO:=Lib.hid (show O=_ by rw [HO.out,stmt_whil hk,← HPP.out])
    simp only [R.sees,hk]
    clear hc hq hk
    go_wp2_with fail
    refine (rvalue_q H2.out.rq).mono ?_; rintro _ w3 ⟨hc,_,rfl,⟨o,rfl⟩,hq,hv⟩
    have H3:=Lib.hid (H2.out.call hc (q':=ex0 z ts.tail) hq (framed_when (ex0 z ts.tail) (fun v=>framed_E v [.pointer o])) hv)
    obtain ⟨e0,_,_,_,e4,_,_⟩:=H3.out.blk.seven; obtain ⟨f0,_,_,_,f4,_,_⟩:=H3.out.blk.free7
    obtain ⟨wE,hwE⟩ : ∃ x,(w3.setCell ⟨w.heap.size + 1,0,none⟩ (num 3)).setCell ⟨w.heap.size + 1,4,none⟩ (.pointer o)=x:=⟨_,rfl⟩
    have H4:=Lib.hid ((H3.out.store 0 (num 3)).store 4 (.pointer o))
    simp only [List.setIfInBounds_toArray,Array.setIfInBounds] at H4
    rw [hwE] at H4
    clear hc hq hv
    go_wp2_with fail
    clear hwE e0 e4 f0 f4
    refine (rmust_q H4.out.rq [100,111]).mono ?_; rintro _ w5 ⟨rfl,hc,hq⟩
    have H5:=Lib.hid (H4.out.step hc hq)
    clear hc hq
    go_wp2_with fail
    refine (rok_q H5.out.rq).mono ?_; rintro _ w6 ⟨rfl,hc⟩
    have H6:=Lib.hid (H5.out.step hc.weak (H5.out.rq.same hc))
    clear hc
    cases hx : (ex0 z ts.tail).bind fun _=>must z [100,111]
    case' ok u t2=>
     rw [hx] at H6
     simp only [R.isOk]
     have HX:=Lib.hid hx
     clear hx
     go_wp2_with fail
     refine (HBO.out _ _ _ _ _ _ H6.out.rq).mono ?_; rintro _ w7 ⟨hc,_,rfl,⟨a1,l1,c1,rfl⟩,hq,hv⟩
     have H7:=Lib.hid (H6.out.call hc hq (framed_when ((bodies z d).1 t2) (fun t=>framed_Sl t (.slice a1 l1 c1))) hv)
     obtain ⟨_,_,_,_,_,e5,_⟩:=H7.out.blk.seven; obtain ⟨_,_,_,_,_,f5,_⟩:=H7.out.blk.free7
     obtain ⟨w8,hw8⟩ : ∃ x,w7.setCell ⟨w.heap.size + 1,5,none⟩ (.slice a1 l1 c1)=x:=⟨_,rfl⟩
     have H8:=Lib.hid (H7.out.store 5 (.slice a1 l1 c1))
     simp only [List.setIfInBounds_toArray,Array.setIfInBounds] at H8
     rw [hw8] at H8
     clear hc hq hv
     go_wp2_with fail
     clear hw8 e5 f5
     refine (rmust_q H8.out.rq [101,110,100]).mono ?_; rintro _ wE ⟨rfl,hc,hq⟩
     have H9:=Lib.hid (H8.out.step hc hq)
     obtain ⟨v,r',hv,hm⟩:=bind_ok HX.out
     have hOO:O=((bodies z d).1 t2).bind fun t r3=>(must z [101,110,100] r3).bind fun _ r4=>.ok (.whil p v t .nil) r4:=by rw [HOO.out,hv]; show (must z [100,111] r').bind _=_; rw [hm]; rfl
     have HE:=Lib.hid (show StEnd w wE B bp bt z p O from ⟨3,[],none,o,a1,l1,c1,none,0,0,_,H9.out.as (by rw [hOO]; exact H9.out.rq.bind fun _ _ _ h=>h.done),fun s r e=>by
      rw [hOO] at e
      obtain ⟨t,r3,ht,e⟩:=bind_ok e
      obtain ⟨_,r4,_,e⟩:=bind_ok e
      cases e
      obtain ⟨_,_,cs1,e1,g1,g2,g3⟩:=H9.out.q.2 t _ ht
      cases e1
      exact ⟨_,_,_,cs1,[],rfl,H9.out.q.1.2 v _ hv,g1,g2,g3,rfl⟩⟩)
     clear hv hm hOO
     clear hc hq
    case' bad en q=>
     rw [hx] at H6
     simp only [R.isOk]
     have HX:=Lib.hid hx
     clear hx
     go_wp2_with fail
     refine (rmust_q H6.out.rq [101,110,100]).mono ?_; rintro _ wE ⟨rfl,hc,hq⟩
     have H9:=Lib.hid (H6.out.step hc hq)
     have hOO:O = .bad en q:=by
      have hx:=HX.out
      rw [HOO.out]
      cases hv : ex0 z ts.tail with
      | bad e' p'=>rw [hv] at hx; cases hx; rfl
      | ok v r=>rw [hv] at hx; show (must z [100,111] r).bind _=_; rw [show must z [100,111] r = .bad en q from hx]; rfl
     have HE:=Lib.hid (show StEnd w wE B bp bt z p O from ⟨3,[],none,o,none,0,0,none,0,0,_,H9.out.as (by rw [hOO]; exact H9.out.rq),fun s r e=>by rw [hOO] at e; cases e⟩)
     clear hOO
     clear hc hq
   case' false=>
    have H2:=Lib.hid (H2.out.step hc (q':=(.ok () ts:R Unit)) (by rw [R.skips_false (q:=(.ok () ts:R Unit)) hk] at hq; exact hq))
    have HK3:=Lib.hid hk
    simp only [R.sees,hk]
    clear hc hq hk
    go_wp2_with fail
    refine (rtake_q H2.out.rq [105,102]).mono ?_; rintro _ w2d ⟨rfl,hc,hq⟩
    cases hk : see [105,102] ts
    case' true=>
     have H2:=Lib.hid (H2.out.step hc (q':=(.ok () ts.tail:R Unit)) (RQ.taken hq hk))
     have HOO:=Lib.hid (show O=_ by rw [HO.out,stmt_if hk,← HPP.out])
     simp only [R.sees,hk]
     clear hc hq hk
     go_wp2_with fail
     refine (HRO.out p _ _ _ (w.heap.size + 1) _ _ _ H2.out.rq H2.out.blk (by omega) (by omega) (by omega)).mono ?_; rintro _ w3 ⟨rfl,hc,hq,o,a1,l1,c1,a2,l2,c2,hb,hv⟩
     have hfr:=framed_when ((bodies z (d + 1)).2 ts.tail) (fun x=>(framed_E x.1 [.pointer o]).and ((framed_Sl x.2.1 (.slice a1 l1 c1)).and (framed_Sl x.2.2 (.slice a2 l2 c2))))
     have H3:=Lib.hid ((H2.out.loop hc hq hb).add hfr (hfr.mono (fun x hx=>⟨Nat.le_trans H2.out.sz hx.1,hx.2⟩) hv))
     clear hc hq hb hv hfr
     go_wp2_with fail
     refine (rmust_q H3.out.rq [101,110,100]).mono ?_; rintro _ wE ⟨rfl,hc,hq⟩
     have H9:=Lib.hid (H3.out.step hc hq)
     have HE:=Lib.hid (show StEnd w wE B bp bt z p O from ⟨2,[],none,o,a1,l1,c1,a2,l2,c2,_,H9.out.as (by rw [HOO.out]; exact H9.out.rq.bind fun _ _ _ h=>h.done),fun s r e=>by
      rw [HOO.out] at e
      obtain ⟨x,r3,hx,e⟩:=bind_ok e
      obtain ⟨_,r4,_,e⟩:=bind_ok e
      cases e
      obtain ⟨g1,⟨_,_,cs1,e1,g2,g3,g4⟩,⟨_,_,cs2,e2,g5,g6,g7⟩⟩:=H9.out.q.2 x _ hx
      cases e1; cases e2
      exact ⟨_,_,_,cs1,_,_,cs2,[],rfl,g1,g2,g3,g4,g5,g6,g7,rfl⟩⟩)
     clear hc hq
    case' false=>
     have H2:=Lib.hid (H2.out.step hc (q':=(.ok () ts:R Unit)) (by rw [R.skips_false (q:=(.ok () ts:R Unit)) hk] at hq; exact hq))
     have HOO:=Lib.hid (show O=first z p ts by rw [HO.out,stmt_first HK1.out HK2.out HK3.out hk,HPP.out])
     simp only [R.sees,hk]
     clear hc hq hk
     have HNA:Hid (Calls Tryz.prog 141 #[ptr bp,num 0] w2d (RTold w2d B bp bt z (named z (expr z (one z 10) 5) ts) (EV w2d) (RefU w2d))):=Lib.hid (by
      have:=rnamed_any 0 10 rfl w2d B bp bt z ts H2.out.rq
      simpa using this)
     go_wp2_with fail
     refine HNA.out.mono ?_; rintro _ w3 ⟨hc,_,rfl,⟨k,p',m,n,i,a,l,c',rfl,hbx⟩,hq,hv⟩
     obtain ⟨xb,hxb⟩ : ∃ b,b=w2d.heap.size:=⟨_,rfl⟩
     rw [← hxb] at hbx hv ⊢
     have H3:=Lib.hid (H2.out.call hc hq (framed_when (named z (expr z (one z 10) 5) ts) (fun e=>framed_E e [ptr xb])) hv)
     have hxl : w.heap.size + 2≤xb:=by have:=H2.out.sz; omega
     have x0:=hbx.cell 0 _ rfl
     have HBX:=Lib.hid hbx; have HXB:=Lib.hid hxb
     clear hc hq hv hbx hxb
     cases hk6 : (k == (6:Int))
     case' true=>
      obtain ⟨e0,_,_,_,e4,_,_⟩:=H3.out.blk.seven; obtain ⟨f0,_,_,_,f4,_,_⟩:=H3.out.blk.free7
      obtain ⟨wE,hwE⟩ : ∃ x,(w3.setCell ⟨w.heap.size + 1,0,none⟩ (num 6)).setCell ⟨w.heap.size + 1,4,none⟩ (ptr xb)=x:=⟨_,rfl⟩
      have H4:=Lib.hid ((H3.out.store 0 (num 6)).store 4 (ptr xb))
      simp only [List.setIfInBounds_toArray,Array.setIfInBounds] at H4
      rw [hwE] at H4
      have hbE:Blk wE xb #[num k,num p',num 0,str m,str n,str [],.pointer i,nilp,.slice a l c'] 155:=hwE ▸ (HBX.out.other _ _ (by simp; omega)).other _ _ (by simp; omega)
      have hP : ∀ e r,named z (expr z (one z 10) 5) ts = .ok e r→O = .ok (.call p e .nil) r∧EAt wE (New2 w wE) e [ptr xb]:=fun e r hn=>by
       have he:=H4.out.q.2 e r hn
       rcases named_parts hn he hbE with ⟨_,p2,m2,n2,l2,rfl⟩ | ⟨hf,_⟩
       ·exact ⟨by rw [HOO.out,first_app hn],he⟩
       ·rw [hk6] at hf; cases hf
      have HE:=Lib.hid (show StEnd w wE B bp bt z p O from ⟨6,[],none,some ⟨xb,0,none⟩,none,0,0,none,0,0,_,H4.out.as (by
        have:=H4.out.rq
        cases hn : named z (expr z (one z 10) 5) ts with
        | bad e' q'=>rw [HOO.out,first_bad hn]; rw [hn] at this; exact this
        | ok e r=>rw [(hP e r hn).1]; rw [hn] at this; exact this),fun s r e=>by
       cases hn : named z (expr z (one z 10) 5) ts with
       | bad e' q'=>rw [HOO.out,first_bad hn] at e; cases e
       | ok e' r'=>obtain ⟨h1,h2⟩:=hP e' r' hn; rw [h1] at e; cases e; exact ⟨_,[],rfl,h2,rfl⟩⟩)
      clear hbE hP
     case' false=>
      go_wp2_with fail
      refine (rok_q H3.out.rq).mono ?_; rintro _ w4 ⟨rfl,hc⟩
      have H4:=Lib.hid (H3.out.step hc.weak (H3.out.rq.same hc))
      have HB4:=Lib.hid (HBX.out.kept hc (by simp))
      clear hc x0
      cases hn : named z (expr z (one z 10) 5) ts
      case' ok e r=>
       rw [hn] at H4
       simp only [R.isOk]
       have x3:=HB4.out.cell 3 _ rfl
       have HEP:Hid (∀ wE,EAt wE (New2 w wE) e [ptr xb]→Blk wE xb #[num k,num p',num 0,str m,str n,str [],.pointer i,nilp,.slice a l c'] 155 → ∃ i' q',OptAt wE (New2 w wE) i' (.pointer i)∧((∃ x,i'=some x∧e = .item q' m n x)∨(i'=none∧e = .var q' m n))):=Lib.hid fun wE he hb=>by
        rcases named_parts hn he hb with ⟨hf,_⟩ | ⟨_,h⟩
        ·rw [hk6] at hf; cases hf
        ·exact h
       have HNN:=Lib.hid hn
       cases hm : m.isEmpty
       case' false=>
        have HNE:=Lib.hid (show m≠[] by rintro rfl; cases hm)
        clear hn
        go_wp2_with fail
        refine (rfails_q (β:=E) H4.out.rq 3 (by decide)).mono ?_; rintro _ w5 ⟨rfl,hc,hq⟩
        obtain ⟨Q2,hQ2⟩ : ∃ Q:R E,Q = .bad 3 (hd z r):=⟨_,rfl⟩
        have H5:=Lib.hid (H4.out.step hc (q':=Q2) (by rw [hQ2]; exact hq))
        have HB5:=Lib.hid (HB4.out.kept hc (by simp; omega))
        have HZ:Hid (∀ wE,RQ wE B bp bt z ((Q2.bind fun _=>must z [58,61]).bind fun _=>ex0 z)→EAt wE (New2 w wE) e [ptr xb]→Blk wE xb #[num k,num p',num 0,str m,str n,str [],.pointer i,nilp,.slice a l c'] 155→RQ wE B bp bt z O ∧
          ∀ s r,O = .ok s r → ∃ v r2 i',((Q2.bind fun _=>must z [58,61]).bind fun _=>ex0 z) = .ok v r2∧OptAt wE (New2 w wE) i' (.pointer i)∧s = .set p n i' v .nil):=Lib.hid fun wE hq he hb=>by
         obtain ⟨i',q',_,hs⟩:=HEP.out wE he hb
         rw [HOO.out,first_set HNN.out hs,if_pos HNE.out]
         rw [hQ2] at hq
         exact ⟨hq,fun s r e=>by cases e⟩
        have HEE:=Lib.hid fun (wE:World) (h : ∀ e' r',R.ok e r = .ok e' r'→EAt wE (New2 w wE) e' [ptr xb])=>h e r rfl
        clear hc hq hQ2 x3
       case' true=>
        have HNE:=Lib.hid (show m=[] by cases m with | nil=>rfl | cons x y=>cases hm)
        clear hn
        obtain ⟨w5,rfl⟩ : ∃ x,x=w4:=⟨_,rfl⟩
        obtain ⟨Q2,hQ2⟩ : ∃ Q:R E,Q = .ok e r:=⟨_,rfl⟩
        have H5:=Lib.hid (H4.out.as (q':=Q2) (by rw [hQ2]; exact H4.out.rq))
        have HB5:=HB4
        have HZ:Hid (∀ wE,RQ wE B bp bt z ((Q2.bind fun _=>must z [58,61]).bind fun _=>ex0 z)→EAt wE (New2 w wE) e [ptr xb]→Blk wE xb #[num k,num p',num 0,str m,str n,str [],.pointer i,nilp,.slice a l c'] 155→RQ wE B bp bt z O ∧
          ∀ s r,O = .ok s r → ∃ v r2 i',((Q2.bind fun _=>must z [58,61]).bind fun _=>ex0 z) = .ok v r2∧OptAt wE (New2 w wE) i' (.pointer i)∧s = .set p n i' v .nil):=Lib.hid fun wE hq he hb=>by
         obtain ⟨i',q',ho,hs⟩:=HEP.out wE he hb
         rw [HOO.out,first_set HNN.out hs,if_neg (by simp [HNE.out])]
         rw [hQ2] at hq ⊢
         have hq:RQ wE B bp bt z ((must z [58,61] r).bind fun _=>ex0 z):=hq
         refine ⟨hq.bind fun _ _ _ h=>h.done,fun s r' e'=>?_⟩
         obtain ⟨u,r2,hu,e'⟩:=bind_ok e'
         obtain ⟨v,r3,hv,e'⟩:=bind_ok e'
         cases e'
         exact ⟨v,_,i',by show (must z [58,61] r).bind _=_; rw [hu]; exact hv,ho,rfl⟩
        have HEE:=Lib.hid fun (wE:World) (h : ∀ e' r',R.ok e r = .ok e' r'→EAt wE (New2 w wE) e' [ptr xb])=>h e r rfl
        clear hQ2
      case' bad en q=>
       rw [hn] at H4
       simp only [R.isOk]
       have HNN:=Lib.hid hn
       obtain ⟨w5,rfl⟩ : ∃ x,x=w4:=⟨_,rfl⟩
       obtain ⟨e,he⟩ : ∃ e:E,e = .nil:=⟨_,rfl⟩
       obtain ⟨Q2,hQ2⟩ : ∃ Q:R E,Q = .bad en q:=⟨_,rfl⟩
       have H5:=Lib.hid (H4.out.as (q':=Q2) (by rw [hQ2]; exact H4.out.rq))
       have HB5:=HB4
       have hOO:O = .bad en q:=by rw [HOO.out,first_bad hn]
       have HZ:Hid (∀ wE,RQ wE B bp bt z ((Q2.bind fun _=>must z [58,61]).bind fun _=>ex0 z)→True→Blk wE xb #[num k,num p',num 0,str m,str n,str [],.pointer i,nilp,.slice a l c'] 155→RQ wE B bp bt z O ∧
         ∀ s r,O = .ok s r → ∃ v r2 i',((Q2.bind fun _=>must z [58,61]).bind fun _=>ex0 z) = .ok v r2∧OptAt wE (New2 w wE) i' (.pointer i)∧s = .set p n i' v .nil):=Lib.hid fun wE hq _ hb=>by
        rw [hOO]
        rw [hQ2] at hq
        exact ⟨hq,fun s r e=>by cases e⟩
       have HEE:=Lib.hid fun (wE:World) (_ : ∀ e' r',R.bad en q = .ok e' r'→EAt wE (New2 w wE) e' [ptr xb])=>trivial
       clear hn he hQ2 hOO
      all_goals
       obtain ⟨wD,hwD⟩ : ∃ x,x=w5.drew:=⟨_,rfl⟩
       have H6:=Lib.hid (H5.out.step (w':=wD) (hwD ▸ (Chg.refl _ _).drew) (H5.out.rq.same (hwD ▸ (Chg.refl [] _).drew)))
       have hb6:Blk wD xb #[num k,num p',num 0,str m,str n,str [],.pointer i,nilp,.slice a l c'] 155:=hwD ▸ HB5.out.kept (Chg.refl [] _).drew (by simp)
       have x4:=hb6.cell 4 _ rfl; have x6:=hb6.cell 6 _ rfl
       obtain ⟨e0,_,e2,e3,_,_,_⟩:=H6.out.blk.seven; obtain ⟨f0,_,f2,f3,_,_,_⟩:=H6.out.blk.free7
       have Z1:=Lib.hid (Zone.of (X:=[w.heap.size + 1]) (w0:=wD) x4 (by simp; omega))
       obtain ⟨w7,hw7⟩ : ∃ x,((wD.setCell ⟨w.heap.size + 1,0,none⟩ (num 1)).setCell ⟨w.heap.size + 1,2,none⟩ (str n)).setCell ⟨w.heap.size + 1,3,none⟩ (.pointer i)=x:=⟨_,rfl⟩
       have H7:=Lib.hid (((H6.out.store 0 (num 1)).store 2 (str n)).store 3 (.pointer i))
       simp only [List.setIfInBounds_toArray,Array.setIfInBounds] at H7
       rw [hw7] at H7
       have HB7:Hid (Blk w7 xb #[num k,num p',num 0,str m,str n,str [],.pointer i,nilp,.slice a l c'] 155):=Lib.hid (hw7 ▸ ((hb6.other _ _ (by simp; omega)).other _ _ (by simp; omega)).other _ _ (by simp; omega))
       have hS3:Chg [w.heap.size + 1] wD w7:=hw7 ▸ ((Chg.set1 _ _ _ _).then (Chg.set1 _ _ _ _)).then (Chg.set1 _ _ _ _)
       clear hb6
       go_wp2_with fail
       refine wp_region_C [w.heap.size + 1] rfl (by kernel_rfl) ?_
       rw [← hwD]
       clear hwD
       have hS:Chg [w.heap.size + 1] wD wD:=Chg.refl _ _
       repeat ((with_reducible refine gX ?_); (first | refine wpX_nil ?_ | refine sK ?_ | refine sM fun _ _=>?_ | refine sL (hz:=by exact Z1.out) fun _ _=>?_ | refine sE fun _ _=>?_); go_wp2_with fail)
       refine And.intro (Chg.set1 _ _ _ _) ?_
       repeat ((with_reducible refine gX ?_); (first | refine wpX_nil ?_ | refine sK ?_ | refine sM fun _ _=>?_ | refine sL (hz:=by exact Z1.out) fun _ _=>?_ | refine sE fun _ _=>?_); go_wp2_with fail)
       refine And.intro ((Chg.set1 _ _ _ _).then (Chg.set1 _ _ _ _)) ?_
       repeat ((with_reducible refine gX ?_); (first | refine wpX_nil ?_ | refine sK ?_ | refine sM fun _ _=>?_ | refine sL (hz:=by exact Z1.out) fun _ _=>?_ | refine sE fun _ _=>?_); go_wp2_with fail)
       refine And.intro hS3 ?_
       repeat ((with_reducible refine gX ?_); (first | refine wpX_nil ?_ | refine sK ?_ | refine sM fun _ _=>?_ | refine sL (hz:=by exact Z1.out) fun _ _=>?_ | refine sE fun _ _=>?_); go_wp2_with fail)
       clear hw7 e0 e2 e3 f0 f2 f3 x4 x6 hS hS3
       refine (rmust_q H7.out.rq [58,61]).mono ?_; rintro _ w8 ⟨rfl,hc,hq⟩
       have H8:=Lib.hid (H7.out.step hc hq); have HB8:=Lib.hid (HB7.out.kept hc (by simp; omega))
       clear hc hq
       go_wp2_with fail
       refine (rvalue_q H8.out.rq).mono ?_; rintro _ w9 ⟨hc,_,rfl,⟨o,rfl⟩,hq,hv⟩
       have H9:=Lib.hid (H8.out.call hc hq (framed_when _ (fun v=>framed_E v [.pointer o])) hv)
       obtain ⟨_,_,_,_,e4,_,_⟩:=H9.out.blk.seven; obtain ⟨_,_,_,_,f4,_,_⟩:=H9.out.blk.free7
       obtain ⟨wE,hwE⟩ : ∃ x,w9.setCell ⟨w.heap.size + 1,4,none⟩ (.pointer o)=x:=⟨_,rfl⟩
       have H10:=Lib.hid (H9.out.store 4 (.pointer o))
       simp only [List.setIfInBounds_toArray,Array.setIfInBounds] at H10
       rw [hwE] at H10
       have hbE:Blk wE xb #[num k,num p',num 0,str m,str n,str [],.pointer i,nilp,.slice a l c'] 155:=hwE ▸ (HB8.out.kept hc (by simp; omega)).other _ _ (by simp; omega)
       have hz:=HZ.out wE H10.out.rq (HEE.out wE H10.out.q.1.2) hbE
       have HE:=Lib.hid (show StEnd w wE B bp bt z p O from ⟨1,n,i,o,none,0,0,none,0,0,_,H10.out.as hz.1,fun s r e=>by
        obtain ⟨v,r2,i',hv,ho,rfl⟩:=hz.2 s r e
        exact ⟨_,_,[],rfl,ho,H10.out.q.2 v r2 hv,rfl⟩⟩)
       clear hc hq hv hbE hz
 all_goals
  obtain ⟨k9,n9,i9,v9,a9,l9,m9,b9,j9,o9,Q,h9,hs9⟩:=HE.out
  have H9:=Lib.hid h9; have HS9:=Lib.hid hs9
  clear h9 hs9
  obtain ⟨d0,d1,d2,d3,d4,d5,d6⟩:=H9.out.blk.seven; obtain ⟨y0,y1,y2,y3,y4,y5,y6⟩:=H9.out.res.seven; obtain ⟨f0,f1,f2,f3,f4,f5,f6⟩:=H9.out.res.free7
  go_wp2_with fail
  obtain ⟨wF,hwF,hcF,hbF⟩:=set7 (num k9) (num p) (str n9) (.pointer i9) (.pointer v9) (.slice a9 l9 m9) (.slice b9 j9 o9) H9.out.res
  rw [hwF]
  clear hwF
  obtain ⟨g0,g1,g2,g3,g4,g5,g6⟩:=hbF.seven
  refine bodyPost_ret (v:=.agg #[num k9,num p,str n9,.pointer i9,.pointer v9,.slice a9 l9 m9,.slice b9 j9 o9]) (by simp [results,Tryz.results97,go_sem,g0,g1,g2,g3,g4,g5,g6]) rfl ?_
  have hkF : ∀ x∈[w.heap.size],¬ New2 w wE x:=fun x hx hn=>by simp at hx; have:=hn.1; omega
  exact ⟨H9.out.chg.trans hcF (fun x hx=>.inr (by simp at hx; omega)),_,rfl,⟨_,_,_,_,_,_,_,_,_,_,_,rfl⟩,H9.out.rq.kept hcF (fun x hx=>by simp at hx; omega),
   fun s r e=>⟨_,rfl,rfl,((HS9.out s r e).kept hcF hkF).mono (fun x hx=>⟨by have:=hx.1; omega,Nat.lt_of_lt_of_le hx.2 hcF.size⟩)⟩⟩
end Go.Proofs.YtojkkgghndeimaaGreatDoor
namespace Go.Mq.Ref
open Go Go.RowKit Go.Mq Go.Mq.Tree
def BodyLeft (w0 w:World) (B bp bt z:Nat) (st:Ps S) (o:R S) (l:Value) (n:Nat) (cs:List Value):Prop:=
 (∃ f acc ts,o=bodyL z st (f + 1) acc ts∧ts.length≤f∧acc.len=n∧n + ts.length≤600∧SAt w (Off w0 w l) acc cs∧RP w B bp bt z none ts) ∨ ∃ en q,o = .bad en q∧RQ w B bp bt z o
theorem bodyL_next {z f:Nat} {st:Ps S} {acc:S} {ts:List Tok} (h1 : see [101,110,100] ts=false) (h2 : see [101,108,115,101] ts=false) (h3 : see [101,108,115,105,102] ts=false) : bodyL z st (f + 1) acc ts=(st ts).bind fun s r=>(must z [59] r).bind fun _ r2=>bodyL z st f (acc.app s) r2:=by
 rw [bodyL,h1,h2,h3,if_neg (by simp)]
 cases st ts with
 | bad e p=>rfl
 | ok s r=>simp only [R.bind]; cases must z [59] r <;> rfl
theorem bodyL_done {z f:Nat} {st:Ps S} {acc:S} {ts:List Tok} (h : (see [101,110,100] ts || see [101,108,115,101] ts || see [101,108,115,105,102] ts)=true) : bodyL z st (f + 1) acc ts = .ok acc ts:=by
 rw [bodyL,if_pos h]
end Go.Mq.Ref
namespace Go.Proofs.YtojkkgghndeimaaGreatDoor
open Go Go.RowKit Go.Mq Go.Mq.Tree Go.Mq.Ref
set_option maxRecDepth 100000
set_option maxHeartbeats 4000000
theorem rbody_of (deep:Nat) (hdp : deep≤10) (st:Nat→Ps S) (hS:RStmtOK deep st) (hm : ∀ z,Mono (st z)) (hl : ∀ z ts s r,st z ts = .ok s r→s.len=1) (w:World) (B bp bt z:Nat) (ts:List Tok) (h:RP w B bp bt z none ts) :
  Calls Tryz.prog 47 #[ptr bp,num deep] w (RTold w B bp bt z (bodyL z (st z) (ts.length + 1) .nil ts) (fun w' s v=>SlAt w' (New w w') s v) (fun _ v=>∃ a n c,v = .slice a n c)):=by
 have HS:=Lib.hid hS
 have H:=Lib.hid h
 have hB:=h.laid.laid.le
 have hbp:=RQ.lt (r:=.ok () ts) h
 have hbt:=RQ.bt_lt (r:=.ok () ts) h
 have hfew:=h.few
 have HM:=Lib.hid (hm z)
 have HL:=Lib.hid (hl z)
 have hdec : decide ((10:Int) < (deep:Int))=false:=by simp; omega
 obtain ⟨O,hO⟩ : ∃ O,O=bodyL z (st z) (ts.length + 1) .nil ts:=⟨_,rfl⟩
 have HO:=Lib.hid hO
 rw [← hO]
 clear h hS hm hl hO
 go_enter Tryz.func47,Tryz.ntmps47
 go_wp2_with fail
 clear hdec
 go_loopw [5] (fun l wr=>∃ (n:Nat) (cs:List Value),wr.ownsRow 0 138 7 l n cs∧From w.heap.size l∧Chg [bp] w wr∧BodyLeft w wr B bp bt z (st z) O l n cs) (fun _ wr=>rcnt wr bp)
 case atStart=>exact ⟨0,[],World.ownsRow_nil _ _ _ _,From.nil _,Chg.refl _ _,.inl ⟨ts.length,.nil,ts,HO.out,Nat.le_refl _,rfl,by simpa using hfew,rfl,H.out⟩⟩
 case round=>
  obtain ⟨n,cs,ho,hF,hC,hbl⟩:=hrel
  obtain ⟨sa,sc,rfl⟩:=slice_of_owns ho
  have HOW:=Lib.hid ho; have HF:=Lib.hid hF; have HC:=Lib.hid hC
  clear ho hF hC
  rcases hbl with ⟨f,acc,ts',hr,hf,rfl,hlen,hes,hp⟩ | ⟨en,q,hr,hq⟩
  ·have HR:=Lib.hid hr; have HES:=Lib.hid hes; have HP:=Lib.hid hp
   have HOK:=Lib.hid (rok_q (q:=(.ok () ts':R Unit)) hp)
   clear hr hes hp
   go_wp2_with fail
   refine HOK.out.mono ?_; rintro _ w1 ⟨rfl,hc1⟩
   simp only [R.isOk]
   have HC1:=Lib.hid hc1
   clear hc1
   go_wp2_with fail
   refine (rsee_q (q:=(.ok () ts':R Unit)) (HP.out.same HC1.out) [101,110,100]).mono ?_; rintro _ w2 ⟨rfl,hc2⟩
   have HC2:=Lib.hid (HC1.out.then hc2)
   clear hc2
   cases ha : see [101,110,100] ts'
   case' true=>
    simp only [R.sees,ha]
    have HEN:=Lib.hid (show O = .ok acc ts' by rw [HR.out,bodyL_done (by rw [ha]; rfl)])
    obtain ⟨wE,rfl⟩ : ∃ x,x=w2:=⟨_,rfl⟩
    have HCE:=HC2
    clear ha
   case' false=>
    simp only [R.sees,ha]
    go_wp2_with fail
    refine (rsee_q (q:=(.ok () ts':R Unit)) (HP.out.same HC2.out) [101,108,115,101]).mono ?_; rintro _ w3 ⟨rfl,hc3⟩
    have HC3:=Lib.hid (HC2.out.then hc3)
    clear hc3
    cases hb : see [101,108,115,101] ts'
    case' true=>
     simp only [R.sees,hb]
     have HEN:=Lib.hid (show O = .ok acc ts' by rw [HR.out,bodyL_done (by rw [hb]; simp)])
     obtain ⟨wE,rfl⟩ : ∃ x,x=w3:=⟨_,rfl⟩
     have HCE:=HC3
     clear ha hb
    case' false=>
     simp only [R.sees,hb]
     go_wp2_with fail
     refine (rsee_q (q:=(.ok () ts':R Unit)) (HP.out.same HC3.out) [101,108,115,105,102]).mono ?_; rintro _ w4 ⟨rfl,hc4⟩
     have HC4:=Lib.hid (HC3.out.then hc4)
     clear hc4
     cases hd' : see [101,108,115,105,102] ts'
     case false=>
      simp only [R.sees,hd']
      have HN:=Lib.hid (show O=(st z ts').bind fun s r=>(must z [59] r).bind fun _ r2=>bodyL z (st z) f (acc.app s) r2 by rw [HR.out,bodyL_next ha hb hd'])
      have HX:=Lib.hid (HS.out w4 B bp bt z ts' (HP.out.same HC4.out))
      have HO4:=Lib.hid (owns_kept HOW.out HC4.out (by simp))
      clear ha hb hd'
      go_wp2_with fail
      refine HX.out.mono ?_; rintro _ w5 ⟨hc5,_,rfl,⟨k9,q9,n9,i9,v9,a9,l9,m9,b9,j9,o9,rfl⟩,hq5,hv5⟩
      have HC5:=Lib.hid hc5; have HQ5:=Lib.hid hq5
      have HV5:Hid (∀ s r,st z ts' = .ok s r→SAt w5 (New w4 w5) s [num k9,num q9,str n9,.pointer i9,.pointer v9,.slice a9 l9 m9,.slice b9 j9 o9]):=Lib.hid fun s r e=>by
       obtain ⟨cx,e1,_,e2⟩:=hv5 s r e
       have : cx=[num k9,num q9,str n9,.pointer i9,.pointer v9,.slice a9 l9 m9,.slice b9 j9 o9]:=by
        have:=(Value.agg.inj e1).symm
        simpa using congrArg Array.toList this
       rw [← this]; exact e2
      have ho5:=owns_kept HO4.out (hc5.alloc (.cells #[num k9,num q9,str n9,.pointer i9,.pointer v9,.slice a9 l9 m9,.slice b9 j9 o9] 138)) (fun g hg hm=>by have:=HF.out g hg; simp at hm; omega)
      have HO5:=Lib.hid ho5
      clear hc5 hq5 hv5 ho5
      go_wp2_with (at_builtin; go_must (refine wpL_append rfl _ _ 29 rfl 138 _ 7 96 infoStmt Tryz.underlying29 rfl (by decide) _ _ _ rfl HO5.out ⟨w5.heap.size,0,none⟩ 1 1 [num k9,num q9,str n9,.pointer i9,.pointer v9,.slice a9 l9 m9,.slice b9 j9 o9] rfl rfl (cells_new _ _ _) (by simp [Value.oneCell']) ?_ ?_ ?_))
      ·omega
      ·unfold maxLen; omega
      ·intro v' w' hown' hch' hmv'
       obtain ⟨va,vc,rfl⟩:=slice_of_owns hown'
       have HO':=Lib.hid hown'
       have hC4:Chg [bp] w w4:=HC.out.then HC4.out.weak
       obtain ⟨hq6,hc6,hf6⟩:=HQ5.out.grow hB hbp hbt hC4 HC5.out HF.out hch' hmv'
       have HV6:Hid (∀ s r,st z ts' = .ok s r→SAt w' (Off w w' (.slice va (acc.len + 1) vc)) (acc.app s) (cs ++ [num k9,num q9,str n9,.pointer i9,.pointer v9,.slice a9 l9 m9,.slice b9 j9 o9])):=Lib.hid fun s r e=>by
        have hes5:=(framed_S acc cs).call HES.out (HC4.out.weak.then HC5.out) hbp
        have hx5:=(framed_S s _).fresh (HV5.out s r e) (owns_lt HO4.out) hC4.size
        exact SAt.append ((framed_S s _).app hx5 hch' hmv') ((framed_S acc cs).app hes5 hch' hmv')
       have HC6:=Lib.hid hc6; have HF6:=Lib.hid hf6; have HMU:=Lib.hid (rmust_q hq6 [59])
       clear hown' hch' hmv' hC4 hq6 hc6 hf6
       go_wp2_with fail
       refine HMU.out.mono ?_; rintro _ w7 ⟨rfl,hc7,hq7⟩
       have HC7:=Lib.hid hc7; have HQ7:=Lib.hid hq7
       clear hc7 hq7
       go_wp2_with fail
       have ho7:=owns_kept HO'.out HC7.out (fun g hg hm=>by have:=HF6.out g hg; simp at hm; omega)
       refine ⟨⟨acc.len + 1,_,ho7,HF6.out,HC6.out.then HC7.out,?_⟩,?_⟩
       ·have hq7:=HQ7.out
        cases hx : st z ts' with
        | bad en q=>rw [hx] at hq7; exact .inr ⟨en,q,by rw [HN.out,hx]; rfl,by rw [HN.out,hx]; exact hq7⟩
        | ok s r=>
         rw [hx] at hq7
         have hq7:RQ w7 B bp bt z (must z [59] r):=hq7
         have hO:O=(must z [59] r).bind fun _ r2=>bodyL z (st z) f (acc.app s) r2:=by rw [HN.out,hx]; rfl
         cases hmu : must z [59] r with
         | bad en q=>rw [hmu] at hq7 hO; exact .inr ⟨en,q,hO,by rw [hO]; exact hq7⟩
         | ok u r2=>
          rw [hmu] at hq7 hO
          have h1:=HM.out _ _ _ hx; have h2:=must_len hmu; have h3:=HL.out _ _ _ hx
          obtain ⟨f',rfl⟩ : ∃ f',f=f' + 1:=⟨f - 1,by omega⟩
          exact .inl ⟨f',acc.app s,r2,hO,by omega,by rw [S.app_len,h3],by omega,(framed_S _ _).call (HV6.out s r hx) HC7.out hbp,hq7⟩
       ·rw [HP.out.cnt]
        have:=HQ7.out.cntLe (n:=ts'.length) fun a tx e=>by
         obtain ⟨s,r,hx,hmu⟩:=bind_ok e
         have h1:=HM.out _ _ _ hx; have h2:=must_len hmu; omega
        omega
     simp only [R.sees,hd']
     have HEN:=Lib.hid (show O = .ok acc ts' by rw [HR.out,bodyL_done (by rw [hd']; simp)])
     obtain ⟨wE,rfl⟩ : ∃ x,x=w4:=⟨_,rfl⟩
     have HCE:=HC4
     clear ha hb hd'
   all_goals
    go_wp2_with fail
    go_ret
    rw [HEN.out]
    refine ⟨HC.out.then HCE.out.weak,_,rfl,⟨_,_,_,rfl⟩,HP.out.same HCE.out,fun a r e=>?_⟩
    cases e
    have ho:=owns_kept HOW.out HCE.out (by simp)
    obtain ⟨a',c',e',hac,hrow⟩:=Row.of_owns ho (F:=New w wE) (new_owns ho HF.out)
    cases e'
    exact ⟨_,_,cs,rfl,hac,hrow,((framed_S acc cs).call HES.out HCE.out.weak hbp).mono fun x hx=>⟨hx.1,hx.2.1⟩⟩
  ·have HR:=Lib.hid hr; have HQ:=Lib.hid hq
   have HOK:=Lib.hid (rok_q hq)
   rw [hr] at HOK
   clear hr hq
   go_wp2_with fail
   refine HOK.out.mono ?_; rintro _ w1 ⟨rfl,hc1⟩
   simp only [R.isOk]
   have HC1:=Lib.hid hc1
   clear hc1
   go_wp2_with fail
   go_ret
   exact ⟨HC.out.then HC1.out.weak,_,rfl,⟨_,_,_,rfl⟩,HQ.out.same HC1.out,fun a r e=>by rw [HR.out] at e; cases e⟩
theorem rbody_deep (w:World) (B bp bt z:Nat) (ts:List Tok) (h:RP w B bp bt z none ts) :
  Calls Tryz.prog 47 #[ptr bp,.int .i64 (11:Nat)] w (RTold w B bp bt z (.bad 4 (hd z ts):R S) (fun w' s v=>SlAt w' (New w w') s v) (fun _ v=>∃ a n c,v = .slice a n c)):=by
 have HF:=Lib.hid (rfails_q (q:=(.ok () ts:R Unit)) (β:=S) h 4 (by decide))
 clear h
 go_enter Tryz.func47,Tryz.ntmps47
 go_wp2_with fail
 refine HF.out.mono ?_; rintro _ w1 ⟨rfl,hc1,hq1⟩
 have HC1:=Lib.hid hc1; have HQ1:=Lib.hid (show RQ w1 B bp bt z (.bad 4 (hd z ts):R S) from hq1)
 clear hc1 hq1
 go_wp2_with fail
 go_loopw [5] (fun l wr=>l=nils∧Chg [bp] w wr∧RQ wr B bp bt z (.bad 4 (hd z ts):R S)) (fun _ _=>0)
 case atStart=>exact ⟨rfl,HC1.out,HQ1.out⟩
 case round=>
  obtain ⟨rfl,hc,hq⟩:=hrel
  have HC:=Lib.hid hc; have HQ:=Lib.hid hq
  clear hc hq
  go_wp2_with fail
  refine (rok_q HQ.out).mono ?_; rintro _ w2 ⟨rfl,hc2⟩
  simp only [R.isOk]
  have HC2:=Lib.hid hc2
  clear hc2
  go_wp2_with fail
  go_ret
  exact ⟨HC.out.then HC2.out.weak,_,rfl,⟨_,_,_,rfl⟩,HQ.out.same HC2.out,fun _ _ e=>by cases e⟩
theorem rbodies_any : ∀ d deep,deep + d=11→RBodyOK deep d∧(0 < d→RRestOK deep d):=by
 intro d
 induction d with
 | zero=>
  intro deep h
  obtain rfl : deep=11:=by omega
  exact ⟨fun w B bp bt z ts hp=>rbody_deep w B bp bt z ts hp,fun h=>by omega⟩
 | succ d ih=>
  intro deep h
  have hB:=(ih (deep + 1) (by omega)).1
  have hR:RRestOK (deep + 1) d∨d=0:=by
   rcases Nat.eq_zero_or_pos d with h0 | h0
   ·exact .inr h0
   ·exact .inl ((ih (deep + 1) (by omega)).2 h0)
  have hRR:=rrest_step deep d (by omega) hB hR
  refine ⟨?_,fun _=>hRR⟩
  have hS:=rstmt_step deep d (by omega) hB hRR
  exact fun w B bp bt z ts hp=>rbody_of deep (by omega) _ hS (fun z=>stmt_mono (bodies_mono z d).1 (bodies_mono z (d + 1)).2) (fun z ts s r hx=>stmt_len hx) w B bp bt z ts hp
theorem rbody0_any (w:World) (B bp bt z:Nat) (ts:List Tok) (h:RP w B bp bt z none ts) :
  Calls Tryz.prog 47 #[ptr bp,num 0] w (RTold w B bp bt z (body0 z ts) (fun w' s v=>SlAt w' (New w w') s v) (fun _ v=>∃ a n c,v = .slice a n c)):=
 (rbodies_any 11 0 rfl).1 w B bp bt z ts h
end Go.Proofs.YtojkkgghndeimaaGreatDoor
namespace Go.Mq.Ref
open Go Go.RowKit Go.Mq Go.Mq.Tree
section
variable {α β γ:Type} {q:R α} {f : α→Ps β} {g : β→Ps γ}
theorem bind_bind : (q.bind f).bind g=q.bind fun a r=>(f a r).bind g:=by cases q <;> rfl
theorem bind_isOk (h : (q.bind f).isOk=true) : q.isOk=true:=by
 cases q with
 | ok a r=>rfl
 | bad e p=>cases h
theorem bind_val {l : α} (h : ∀ a r,q = .ok a r→a=l) : q.bind f=q.bind fun _=>f l:=by
 cases q with
 | ok a r=>have:=h a r rfl; subst this; rfl
 | bad e p=>rfl
theorem val_of (d : α) (q:R α) : ∃ l,∀ a r,q = .ok a r→a=l:=by
 cases q with
 | ok a r=>exact ⟨a,fun _ _ e=>by cases e; rfl⟩
 | bad e p=>exact ⟨d,fun _ _ e=>by cases e⟩
theorem skips_isOk {s:List UInt8} (h : (q.skips s).isOk=true) : q.isOk=true:=by
 cases q with
 | ok a r=>rfl
 | bad e p=>cases h
theorem isOk_ok (h : q.isOk=true) : ∃ a r,q = .ok a r:=by
 cases q with
 | ok a r=>exact ⟨a,r,rfl⟩
 | bad e p=>cases h
end
theorem proc_eq (z:Nat) (ts:List Tok) : proc z ts=(must z [112,114,111,99] ts).bind fun _ r=>(name z r).bind fun n r2=>(must z [40] (skip [42] r2)).bind fun _ r3=>(params z r3).bind fun ps r4=>(must z [59] r4).bind fun _ r5=>(locals z (10 - ps.length) r5).bind fun vs r6=>(block z [59] r6).bind fun b r7=>.ok ⟨n,hd z ts,see [42] r2,ps,vs,b⟩ r7:=by
 rw [proc]
 cases must z [112,114,111,99] ts with
 | bad e p=>rfl
 | ok _ r=>
  simp only [R.bind]
  cases name z r with
  | bad e p=>rfl
  | ok n r2=>
   simp only [R.bind]
   cases must z [40] (skip [42] r2) with
   | bad e p=>rfl
   | ok _ r3=>
    simp only [R.bind]
    cases params z r3 with
    | bad e p=>rfl
    | ok ps r4=>
     simp only [R.bind]
     cases must z [59] r4 with
     | bad e p=>rfl
     | ok _ r5=>
      simp only [R.bind]
      cases locals z (10 - ps.length) r5 with
      | bad e p=>rfl
      | ok vs r6=>
       simp only [R.bind]
       cases block z [59] r6 <;> rfl
theorem block_eq (z:Nat) (m:List UInt8) (ts:List Tok) : block z m ts=(must z [98,101,103,105,110] ts).bind fun _ r=>(body0 z r).bind fun b r2=>(must z [101,110,100] r2).bind fun _ r3=>(must z m r3).bind fun _ r4=>.ok b r4:=by
 rw [block]
 cases must z [98,101,103,105,110] ts with
 | bad e p=>rfl
 | ok _ r=>
  simp only [R.bind]
  cases body0 z r with
  | bad e p=>rfl
  | ok b r2=>
   simp only [R.bind]
   cases must z [101,110,100] r2 with
   | bad e p=>rfl
   | ok _ r3=>
    simp only [R.bind]
    cases must z m r3 <;> rfl
theorem params_eq (z:Nat) (ts:List Tok) : params z ts=if see [41] ts then .ok [] ts.tail else (names z 10 ts).bind fun l r=>(must z [41] r).bind fun _ r2=>.ok l r2:=by
 rw [params]; split
 ·rfl
 ·cases names z 10 ts with
  | bad e p=>rfl
  | ok l r=>simp only [R.bind]; cases must z [41] r <;> rfl
theorem locals_eq (z most:Nat) (ts:List Tok) : locals z most ts=if see [118,97,114] ts then ((names z most ts.tail).bind fun l r=>(must z [59] r).bind fun _ r2=>.ok l r2) else .ok [] ts:=by
 rw [locals]; split
 ·cases names z most ts.tail with
  | bad e p=>rfl
  | ok l r=>simp only [R.bind]; cases must z [59] r <;> rfl
 ·rfl
theorem imports_eq (z:Nat) (ts:List Tok) : imports z ts=if see [105,109,112,111,114,116] ts then ((names z 6 ts.tail).bind fun l r=>(must z [59] r).bind fun _ r2=>.ok l r2) else .ok [] ts:=by
 rw [imports]; split
 ·cases names z 6 ts.tail with
  | bad e p=>rfl
  | ok l r=>simp only [R.bind]; cases must z [59] r <;> rfl
 ·rfl
theorem glob_eq (z:Nat) (ts:List Tok) : glob z ts=(name z ts).bind fun n r=>(must z [58] (skip [42] r)).bind fun _ r2=>(kindOf z r2).bind fun k r3=>(must z [59] r3).bind fun _ r4=>.ok ⟨n,hd z ts,k,see [42] r⟩ r4:=by
 rw [glob]
 cases name z ts with
 | bad e p=>rfl
 | ok n r=>
  simp only [R.bind]
  cases must z [58] (skip [42] r) with
  | bad e p=>rfl
  | ok _ r2=>
   simp only [R.bind]
   cases kindOf z r2 with
   | bad e p=>rfl
   | ok k r3=>
    simp only [R.bind]
    cases must z [59] r3 <;> rfl
theorem module_eq (z:Nat) (ts:List Tok) : module_ z ts=(must z [109,111,100,117,108,101] ts).bind fun _ r=>(name z r).bind fun n r2=>(must z [59] r2).bind fun _ r3=>(imports z r3).bind fun is r4=>(varsL z 11 [] r4).bind fun vs r5=>(procsL z 11 [] r5).bind fun ps r6=>(block z [46] r6).bind fun b r7=>.ok ⟨n,is,vs,ps,b⟩ r7:=by
 rw [module_]
 cases must z [109,111,100,117,108,101] ts with
 | bad e p=>rfl
 | ok _ r=>
  simp only [R.bind]
  cases name z r with
  | bad e p=>rfl
  | ok n r2=>
   simp only [R.bind]
   cases must z [59] r2 with
   | bad e p=>rfl
   | ok _ r3=>
    simp only [R.bind]
    cases imports z r3 with
    | bad e p=>rfl
    | ok is r4=>
     simp only [R.bind]
     cases varsL z 11 [] r4 with
     | bad e p=>rfl
     | ok vs r5=>
      simp only [R.bind]
      cases procsL z 11 [] r5 with
      | bad e p=>rfl
      | ok ps r6=>
       simp only [R.bind]
       cases block z [46] r6 <;> rfl
theorem params_most {z:Nat} {ts r:List Tok} {l:List (List UInt8)} (h : params z ts = .ok l r) : l.length≤10:=by
 rw [params_eq] at h
 split at h
 ·cases h; simp
 ·cases hn : names z 10 ts with
  | bad e p=>rw [hn] at h; cases h
  | ok l' r1=>
   rw [hn] at h; simp only [R.bind] at h
   cases hm : must z [41] r1 with
   | bad e p=>rw [hm] at h; cases h
   | ok u r2=>rw [hm] at h; cases h; exact names_most hn
structure RMc {α:Type} (T:TypeId) (w wk:World) (B bp bt z:Nat) (q:R α) (zs cs:Array Value) (Q:World→(Nat→Prop)→Prop):Prop where
 fr:Framed Q
 hB:B≤w.heap.size
 hbp : bp < w.heap.size
 hbt : bt < w.heap.size
 chg:Chg [bp] w wk
 rq:RQ wk B bp bt z q
 blk:Blk wk (w.heap.size + 1) cs T
 res:Blk wk w.heap.size zs T
 sz : w.heap.size + 2≤wk.heap.size
 val : q.isOk=true→Q wk (New2 w wk)
section
variable {α β:Type} {T:TypeId} {w wk w':World} {B bp bt z:Nat} {q:R α} {q':R β} {zs cs cs':Array Value} {Q Q':World→(Nat→Prop)→Prop}
theorem RMc.step (h:RMc T w wk B bp bt z q zs cs Q) (hc:Chg [bp] wk w') (hq:RQ w' B bp bt z q') (hi : q'.isOk=true→q.isOk=true):RMc T w w' B bp bt z q' zs cs Q:=
 ⟨h.fr,h.hB,h.hbp,h.hbt,h.chg.then hc,hq,h.blk.kept hc (by have:=h.hbp; simp; omega),h.res.kept hc (by have:=h.hbp; simp; omega),Nat.le_trans h.sz hc.size,
  fun hk=>h.fr.mono (fun x hx=>⟨hx.1,Nat.lt_of_lt_of_le hx.2 hc.size⟩) (h.fr.kept hc (fun x hx hn=>by have:=h.hbp; simp at hx; have:=hn.1; omega) (h.val (hi hk)))⟩
theorem RMc.as (h:RMc T w wk B bp bt z q zs cs Q) (hq:RQ wk B bp bt z q') (hi : q'.isOk=true→q.isOk=true):RMc T w wk B bp bt z q' zs cs Q:=h.step (Chg.refl _ _) hq hi
theorem RMc.turn (h:RMc T w wk B bp bt z q zs cs Q) (hf:Framed Q') (hi : q.isOk=true→Q wk (New2 w wk)→Q' wk (New2 w wk)):RMc T w wk B bp bt z q zs cs Q':=
 ⟨hf,h.hB,h.hbp,h.hbt,h.chg,h.rq,h.blk,h.res,h.sz,fun hk=>hi hk (h.val hk)⟩
theorem RMc.add (h:RMc T w wk B bp bt z q zs cs Q) (hf:Framed Q') (hQ : q.isOk=true→Q' wk (New2 w wk)):RMc T w wk B bp bt z q zs cs (fun w F=>Q w F∧Q' w F):=
 ⟨h.fr.and hf,h.hB,h.hbp,h.hbt,h.chg,h.rq,h.blk,h.res,h.sz,fun hk=>⟨h.val hk,hQ hk⟩⟩
theorem RMc.call (h:RMc T w wk B bp bt z q zs cs Q) (hc:Chg [bp] wk w') (hq:RQ w' B bp bt z q') (hi : q'.isOk=true→q.isOk=true) (hf:Framed Q') (hQ : q'.isOk=true→Q' w' (New wk w')):RMc T w w' B bp bt z q' zs cs (fun w F=>Q w F∧Q' w F):=
 have k:=h.step hc hq hi
 ⟨h.fr.and hf,k.hB,k.hbp,k.hbt,k.chg,k.rq,k.blk,k.res,k.sz,fun hk=>⟨k.val hk,hf.mono (fun _ hx=>⟨Nat.le_trans h.sz hx.1,hx.2⟩) (hQ hk)⟩⟩
theorem RMc.store (h:RMc T w wk B bp bt z q zs cs Q) (i:Nat) (v:Value):RMc T w (wk.setCell ⟨w.heap.size + 1,i,none⟩ v) B bp bt z q zs (cs.setIfInBounds i v) Q:=by
 have h1:=h.hbp; have h2:=h.hbt; have h3:=h.hB
 have hc:Chg [w.heap.size + 1] wk (wk.setCell ⟨w.heap.size + 1,i,none⟩ v):=Chg.set1 _ _ _ _
 exact ⟨h.fr,h3,h1,h2,h.chg.trans hc (fun x hx=>.inr (by simp at hx; omega)),h.rq.kept hc (fun x hx=>by simp at hx; omega),h.blk.set i v,h.res.kept hc (by simp),Nat.le_trans h.sz hc.size,
  fun hk=>h.fr.mono (fun x hx=>⟨hx.1,Nat.lt_of_lt_of_le hx.2 hc.size⟩) (h.fr.kept hc (fun x hx hn=>by simp at hx; have:=hn.1; omega) (h.val hk))⟩
end
end Go.Mq.Ref
namespace Go.Mq.Ref
open Go Go.RowKit Go.Mq Go.Mq.Tree
def PrU (v:Value):Prop:=∃ (n:List UInt8) (p:Int) (b:Bool) (a1:Option Addr) (l1 c1:Nat) (a2:Option Addr) (l2 c2:Nat) (a3:Option Addr) (l3 c3:Nat),v = .agg #[str n,num p,.bool b,.slice a1 l1 c1,.slice a2 l2 c2,.slice a3 l3 c3]
theorem head_eq {β:Type} {q:R (List UInt8)} {n s:List UInt8} {b:Bool} {F:List UInt8→Bool→Ps β} (hn : ∀ a r,q = .ok a r→a=n) (hb : b=q.sees s) : (q.bind fun n' r2=>F n' (see s r2) (skip s r2))=(q.skips s).bind fun _=>F n b:=by
 cases q with
 | ok a r=>have:=hn a r rfl; subst this; subst hb; rfl
 | bad e p=>rfl
end Go.Mq.Ref
namespace Go.Proofs.YtojkkgghndeimaaGreatDoor
open Go Go.RowKit Go.Mq Go.Mq.Tree Go.Mq.Ref
set_option maxRecDepth 100000
set_option maxHeartbeats 16000000
theorem rproc_any {w:World} {B bp bt z:Nat} {ts:List Tok} (h:RP w B bp bt z none ts) (hpr : see [112,114,111,99] ts=true):Calls Tryz.prog 46 #[ptr bp] w (RTold w B bp bt z (proc z ts) (PV w) (fun _ v=>PrU v)):=by
 have hB0:B≤w.heap.size:=h.laid.laid.le
 have hbp:=RQ.lt (r:=.ok () ts) h
 have hbt:=RQ.bt_lt (r:=.ok () ts) h
 obtain ⟨off,c,k,t,HH,⟨b0,b1,b2⟩,c0,c1,c2⟩:=h.cells
 obtain ⟨p,hp⟩ : ∃ p,p=hd z ts:=⟨_,rfl⟩
 rw [← hp] at c2
 obtain ⟨O,hO⟩ : ∃ O,O=proc z ts:=⟨_,rfl⟩
 have HO1:=Lib.hid (show O=(name z ts.tail).bind fun n r2=>(must z [40] (skip [42] r2)).bind fun _ r3=>(params z r3).bind fun ps r4=>(must z [59] r4).bind fun _ r5=>(locals z (10 - ps.length) r5).bind fun vs r6=>(block z [59] r6).bind fun b r7=>.ok ⟨n,p,see [42] r2,ps,vs,b⟩ r7 by
  rw [hO,proc_eq,hp,must,if_pos hpr]; rfl)
 have hw1 : (w.alloc (.cells #[str [],num 0,.bool false,nils,nils,nils] 87)).heap.size=w.heap.size + 1:=by simp
 obtain ⟨w1,hw1'⟩ : ∃ x,x=(w.alloc (.cells #[str [],num 0,.bool false,nils,nils,nils] 87)).alloc (.cells #[str [],num p,.bool false,nils,nils,nils] 87):=⟨_,rfl⟩
 have hb1:=Blk.new (w.alloc (.cells #[str [],num 0,.bool false,nils,nils,nils] 87)) #[str [],num p,.bool false,nils,nils,nils] 87
 rw [hw1] at hb1
 have H1:Hid (RMc 87 w w1 B bp bt z (.ok () ts:R Unit) #[str [],num 0,.bool false,nils,nils,nils] #[str [],num p,.bool false,nils,nils,nils] (fun _ _=>True)):=Lib.hid (by
  rw [hw1']
  exact ⟨framed_true,hB0,hbp,hbt,((Chg.refl _ _).alloc _).alloc _,RQ.same (r:=(.ok () ts:R Unit)) h (((Chg.refl [] w).alloc _).alloc _),hb1,(Blk.new w _ 87).kept ((Chg.refl [] _).alloc _) (by simp),by simp,fun _=>trivial⟩)
 have HW:=Lib.hid hw1'; have HPR:=Lib.hid hpr
 rw [← hO]
 clear h hb1 hw1 hp hO hw1' hpr
 go_enter Tryz.func46,Tryz.ntmps46
 go_wp2_with fail
 clear c0 c1 c2 b0 b1 b2
 change Calls _ _ _ ((w.alloc (.cells #[str [],num 0,.bool false,nils,nils,nils] 87)).alloc (.cells #[str [],num p,.bool false,nils,nils,nils] 87)) _
 rw [← HW.out]
 refine (rmust_q H1.out.rq [112,114,111,99]).mono ?_; rintro _ w2 ⟨rfl,hc,hq⟩
 have H2:=Lib.hid (H1.out.step hc (q':=(.ok () ts.tail:R Unit)) (by simpa [R.bind,must,HPR.out,Go.Mq.Ref.RQ] using hq) (fun _=>rfl))
 clear hc hq
 go_wp2_with fail
 refine (rname_any H2.out.rq).mono ?_; rintro _ w3 ⟨hc,_,rfl,⟨n,rfl⟩,hq,hv⟩
 have HN:Hid (∀ a r,name z ts.tail = .ok a r→a=n):=Lib.hid fun a r e=>by have:=hv a r e; simpa [bs] using this.symm
 have H3:=Lib.hid (H2.out.step hc hq (fun _=>rfl))
 obtain ⟨e0,_,_,_,_,_⟩:=H3.out.blk.six; obtain ⟨f0,_,_,_,_,_⟩:=H3.out.blk.free6
 obtain ⟨w4,hw4⟩ : ∃ x,w3.setCell ⟨w.heap.size + 1,0,none⟩ (str n)=x:=⟨_,rfl⟩
 have H4:=Lib.hid (H3.out.store 0 (str n))
 simp only [List.setIfInBounds_toArray,Array.setIfInBounds] at H4
 rw [hw4] at H4
 clear hc hq hv
 go_wp2_with fail
 clear hw4 e0 f0
 refine (rtake_q H4.out.rq [42]).mono ?_; rintro _ w5 ⟨rfl,hc,hq⟩
 obtain ⟨b,hb⟩ : ∃ b,b=(name z ts.tail).sees [42]:=⟨_,rfl⟩
 rw [← hb]
 have H5:=Lib.hid (H4.out.step hc hq skips_isOk)
 have HO5:=Lib.hid (show O=((name z ts.tail).skips [42]).bind fun _ r2=>(must z [40] r2).bind fun _ r3=>(params z r3).bind fun ps r4=>(must z [59] r4).bind fun _ r5=>(locals z (10 - ps.length) r5).bind fun vs r6=>(block z [59] r6).bind fun b' r7=>.ok ⟨n,p,b,ps,vs,b'⟩ r7 by
  rw [HO1.out]
  exact head_eq (β:=Proc) (F:=fun n b r2=>(must z [40] r2).bind fun _ r3=>(params z r3).bind fun ps r4=>(must z [59] r4).bind fun _ r5=>(locals z (10 - ps.length) r5).bind fun vs r6=>(block z [59] r6).bind fun b' r7=>.ok ⟨n,p,b,ps,vs,b'⟩ r7) HN.out hb)
 obtain ⟨_,_,e2,_,_,_⟩:=H5.out.blk.six; obtain ⟨_,_,f2,_,_,_⟩:=H5.out.blk.free6
 obtain ⟨w6,hw6⟩ : ∃ x,w5.setCell ⟨w.heap.size + 1,2,none⟩ (.bool b)=x:=⟨_,rfl⟩
 have H6:=Lib.hid (H5.out.store 2 (.bool b))
 simp only [List.setIfInBounds_toArray,Array.setIfInBounds] at H6
 rw [hw6] at H6
 clear hc hq hb
 go_wp2_with fail
 clear hw6 e2 f2
 refine (rmust_q H6.out.rq [40]).mono ?_; rintro _ w7 ⟨rfl,hc,hq⟩
 obtain ⟨q7,hq7⟩ : ∃ q,q=(((name z ts.tail).skips [42]).bind fun _=>must z [40]):=⟨_,rfl⟩
 have H7:=Lib.hid (H6.out.step hc hq bind_isOk)
 rw [← hq7] at H7
 have HO7:=Lib.hid (show O=q7.bind fun _ r3=>(params z r3).bind fun ps r4=>(must z [59] r4).bind fun _ r5=>(locals z (10 - ps.length) r5).bind fun vs r6=>(block z [59] r6).bind fun b' r7=>.ok ⟨n,p,b,ps,vs,b'⟩ r7 by rw [HO5.out,hq7,bind_bind])
 clear hc hq hq7
 go_wp2_with fail
 refine (rok_q H7.out.rq).mono ?_; rintro _ w8 ⟨rfl,hc⟩
 have H8:=Lib.hid (H7.out.step hc.weak (H7.out.rq.same hc) id)
 obtain ⟨PQ,hPQ⟩ : ∃ Q,Q=q7.bind fun _=>params z:=⟨_,rfl⟩
 have HOA:=Lib.hid (show O=PQ.bind fun ps r4=>(must z [59] r4).bind fun _ r5=>(locals z (10 - ps.length) r5).bind fun vs r6=>(block z [59] r6).bind fun b' r7=>.ok ⟨n,p,b,ps,vs,b'⟩ r7 by rw [HO7.out,hPQ,bind_bind])
 have HPQ:=Lib.hid hPQ
 clear hc hPQ
 cases q7
 case' bad en q=>
  simp only [R.isOk]
  obtain ⟨wA,rfl⟩ : ∃ x,x=w8:=⟨_,rfl⟩
  obtain ⟨a1,ha1⟩ : ∃ x:Option Addr,x=none:=⟨_,rfl⟩
  obtain ⟨l1,hl1⟩ : ∃ x:Nat,x=0:=⟨_,rfl⟩
  obtain ⟨c1,hc1⟩ : ∃ x:Nat,x=0:=⟨_,rfl⟩
  have hbad:PQ = .bad en q:=HPQ.out
  have HA:=Lib.hid (show RMc 87 w wA B bp bt z PQ #[str [],num 0,.bool false,nils,nils,nils] #[str n,num p,.bool b,.slice a1 l1 c1,nils,nils] (fun w F=>∀ a r,PQ = .ok a r→NamesAt w F a (.slice a1 l1 c1)) by
   rw [ha1,hl1,hc1]
   exact (H8.out.as (q':=PQ) (by rw [hbad]; exact H8.out.rq) (fun h=>by rw [hbad] at h; cases h)).turn (framed_when PQ (fun l=>framed_Names l _)) (fun h=>by rw [hbad] at h; cases h))
  clear ha1 hl1 hc1 hbad
  go_wp2_with fail
 case' ok u t7=>
  simp only [R.isOk]
  go_wp2_with fail
  refine (rtake_q H8.out.rq [41]).mono ?_; rintro _ w9 ⟨rfl,hc,hq⟩
  cases hs : see [41] t7
  case' true=>
   simp only [R.sees,hs]
   obtain ⟨wA,rfl⟩ : ∃ x,x=w9:=⟨_,rfl⟩
   obtain ⟨a1,ha1⟩ : ∃ x:Option Addr,x=none:=⟨_,rfl⟩
   obtain ⟨l1,hl1⟩ : ∃ x:Nat,x=0:=⟨_,rfl⟩
   obtain ⟨c1,hc1⟩ : ∃ x:Nat,x=0:=⟨_,rfl⟩
   have hok:PQ = .ok [] t7.tail:=by rw [HPQ.out]; show params z t7=_; rw [params_eq,if_pos hs]
   have HA:=Lib.hid (show RMc 87 w wA B bp bt z PQ #[str [],num 0,.bool false,nils,nils,nils] #[str n,num p,.bool b,.slice a1 l1 c1,nils,nils] (fun w F=>∀ a r,PQ = .ok a r→NamesAt w F a (.slice a1 l1 c1)) by
    rw [ha1,hl1,hc1]
    exact (H8.out.step hc (q':=PQ) (by rw [hok]; exact RQ.taken hq hs) (fun _=>rfl)).turn (framed_when PQ (fun l=>framed_Names l _)) (fun _ _ a r e=>by rw [hok] at e; cases e; exact NamesAt.nil))
   clear ha1 hl1 hc1 hok hc hq hs
   go_wp2_with fail
  case' false=>
   simp only [R.sees,hs]
   rw [R.skips_false (q:=.ok u t7) hs] at hq
   have H9:=Lib.hid (H8.out.step hc hq id)
   have HPK:=Lib.hid (show PQ=(names z 10 t7).bind fun l r=>(must z [41] r).bind fun _ r2=>.ok l r2 by rw [HPQ.out]; show params z t7=_; rw [params_eq,if_neg (by simp [hs])])
   clear hc hq hs
   go_wp2_with fail
   refine (rnames_any 10 (by decide) H9.out.rq).mono ?_; rintro _ w10 ⟨hc,_,rfl,⟨a1,l1,c1,rfl⟩,hq,hv⟩
   have H10:=Lib.hid (H9.out.call hc hq (fun _=>rfl) (framed_when (names z 10 t7) (fun l=>framed_Names l (.slice a1 l1 c1))) (fun _=>hv))
   obtain ⟨_,_,_,e3,_,_⟩:=H10.out.blk.six; obtain ⟨_,_,_,f3,_,_⟩:=H10.out.blk.free6
   obtain ⟨w11,hw11⟩ : ∃ x,w10.setCell ⟨w.heap.size + 1,3,none⟩ (.slice a1 l1 c1)=x:=⟨_,rfl⟩
   have H11:=Lib.hid (H10.out.store 3 (.slice a1 l1 c1))
   simp only [List.setIfInBounds_toArray,Array.setIfInBounds] at H11
   rw [hw11] at H11
   clear hc hq hv
   go_wp2_with fail
   clear hw11 e3 f3
   refine (rmust_q H11.out.rq [41]).mono ?_; rintro _ wA ⟨rfl,hc,hq⟩
   have h12:=H11.out.step hc hq bind_isOk
   have hqA:RQ wA B bp bt z PQ:=by rw [HPK.out]; exact hq.bind fun _ _ _ h=>h.done
   have HA:=Lib.hid (show RMc 87 w wA B bp bt z PQ #[str [],num 0,.bool false,nils,nils,nils] #[str n,num p,.bool b,.slice a1 l1 c1,nils,nils] (fun w F=>∀ a r,PQ = .ok a r→NamesAt w F a (.slice a1 l1 c1)) from
    (H11.out.step hc hqA (fun h=>by rw [HPK.out] at h; exact bind_isOk h)).turn (framed_when PQ (fun l=>framed_Names l (.slice a1 l1 c1))) (fun _ _ a r e=>by
     rw [HPK.out] at e
     obtain ⟨l,r1,h1,e⟩:=bind_ok e
     obtain ⟨_,r2,h2,e⟩:=bind_ok e
     cases e
     exact (h12.val (by rw [h1]; show (must z [41] r1).isOk=true; rw [h2]; rfl)).2 _ _ h1))
   clear hc hq h12 hqA
   go_wp2_with fail
 all_goals
  obtain ⟨ps,hps⟩:=val_of [] PQ
  have HA1:=Lib.hid (HA.out.turn (framed_Names ps (.slice a1 l1 c1)) (fun hk hQ=>by obtain ⟨a,r,e⟩:=isOk_ok hk; have:=hQ a r e; rw [hps a r e] at this; exact this))
  have HOB:=Lib.hid (show O=PQ.bind fun _ r4=>(must z [59] r4).bind fun _ r5=>(locals z (10 - ps.length) r5).bind fun vs r6=>(block z [59] r6).bind fun b' r7=>.ok ⟨n,p,b,ps,vs,b'⟩ r7 by rw [HOA.out,bind_val hps])
  have HPS:=Lib.hid hps
  clear hps
  refine (rmust_q HA1.out.rq [59]).mono ?_; rintro _ wB ⟨rfl,hc,hq⟩
  obtain ⟨qB,hqB⟩ : ∃ q,q=PQ.bind fun _=>must z [59]:=⟨_,rfl⟩
  have HB:=Lib.hid (HA1.out.step hc (q':=qB) (by rw [hqB]; exact hq) (fun h=>by rw [hqB] at h; exact bind_isOk h))
  obtain ⟨LQ,hLQ⟩ : ∃ Q,Q=qB.bind fun _=>locals z (10 - ps.length):=⟨_,rfl⟩
  have HOC:=Lib.hid (show O=LQ.bind fun vs r6=>(block z [59] r6).bind fun b' r7=>.ok ⟨n,p,b,ps,vs,b'⟩ r7 by rw [HOB.out,hLQ,hqB,bind_bind,bind_bind])
  have HQB:=Lib.hid hqB; have HLQ:=Lib.hid hLQ
  clear hc hq hqB hLQ
  go_wp2_with fail
  refine (rtake_q HB.out.rq [118,97,114]).mono ?_; rintro _ wC ⟨rfl,hc,hq⟩
  cases hs : qB.sees [118,97,114]
  case' false=>
   rw [R.skips_false hs] at hq
   obtain ⟨wF,rfl⟩ : ∃ x,x=wC:=⟨_,rfl⟩
   obtain ⟨a2,ha2⟩ : ∃ x:Option Addr,x=none:=⟨_,rfl⟩
   obtain ⟨l2,hl2⟩ : ∃ x:Nat,x=0:=⟨_,rfl⟩
   obtain ⟨c2,hc2⟩ : ∃ x:Nat,x=0:=⟨_,rfl⟩
   have hL:LQ=qB.bind fun _ r=>.ok [] r:=by
    rw [HLQ.out]
    cases qB with
    | bad e q=>rfl
    | ok u t=>have hs : see [118,97,114] t=false:=hs; show locals z _ t=_; rw [locals_eq,hs,if_neg (by simp)]; rfl
   have HL:=Lib.hid (show RMc 87 w wF B bp bt z LQ #[str [],num 0,.bool false,nils,nils,nils] #[str n,num p,.bool b,.slice a1 l1 c1,.slice a2 l2 c2,nils] (fun w F=>NamesAt w F ps (.slice a1 l1 c1) ∧ ∀ a r,LQ = .ok a r→NamesAt w F a (.slice a2 l2 c2)) by
    rw [ha2,hl2,hc2]
    exact (HB.out.step hc (q':=LQ) (by rw [hL]; exact hq.done) (fun h=>by rw [hL] at h; exact bind_isOk h)).turn ((framed_Names ps _).and (framed_when LQ (fun l=>framed_Names l _))) (fun _ h=>⟨h,fun a r e=>by
     rw [hL] at e; obtain ⟨_,_,_,e⟩:=bind_ok e; cases e; exact NamesAt.nil⟩))
   clear ha2 hl2 hc2 hL hc hq hs
   go_wp2_with fail
  case' true=>
   obtain ⟨u2,t2,hqt,hst⟩:=R.sees_true hs
   rw [hqt] at hq
   have HC:=Lib.hid (HB.out.step hc (q':=(.ok () t2.tail:R Unit)) (hq.taken hst) (fun _=>by rw [hqt]; rfl))
   obtain ⟨a',c',e',_⟩:=HC.out.val rfl
   have hl1 : l1=ps.length:=by cases e'; rfl
   have hpl : ps.length≤10:=by
    have h1:=HQB.out; rw [hqt] at h1
    obtain ⟨l,r,h2,_⟩:=bind_ok h1.symm
    have h3:=HPQ.out; rw [h2] at h3
    rw [HPS.out l r h2] at h3
    first
     | (cases h3; done)
     | exact params_most h3.symm
     | (obtain ⟨_,_,_,h4⟩:=bind_ok h3.symm; exact params_most h4)
   have hsub:IntKind.i64.wrap (10 - (l1:Int))=((10 - ps.length:Nat):Int):=by rw [hl1]; exact sub_wrap hpl
   have HLK:=Lib.hid (show LQ=(names z (10 - ps.length) t2.tail).bind fun l r=>(must z [59] r).bind fun _ r2=>.ok l r2 by rw [HLQ.out,hqt]; show locals z _ t2=_; rw [locals_eq,if_pos hst])
   obtain ⟨_,_,_,e3,_,_⟩:=HC.out.blk.six
   clear hc hq hs hqt hst e' hl1
   go_wp2_with fail
   refine (rnames_any (10 - ps.length) (by omega) HC.out.rq).mono ?_; rintro _ wD ⟨hc,_,rfl,⟨a2,l2,c2,rfl⟩,hq,hv⟩
   have HD:=Lib.hid (HC.out.call hc hq (fun _=>rfl) (framed_when (names z (10 - ps.length) t2.tail) (fun l=>framed_Names l (.slice a2 l2 c2))) (fun _=>hv))
   obtain ⟨_,_,_,_,e4,_⟩:=HD.out.blk.six; obtain ⟨_,_,_,_,f4,_⟩:=HD.out.blk.free6
   obtain ⟨wE,hwE⟩ : ∃ x,wD.setCell ⟨w.heap.size + 1,4,none⟩ (.slice a2 l2 c2)=x:=⟨_,rfl⟩
   have HE:=Lib.hid (HD.out.store 4 (.slice a2 l2 c2))
   simp only [List.setIfInBounds_toArray,Array.setIfInBounds] at HE
   rw [hwE] at HE
   clear hc hq hv e3
   go_wp2_with fail
   clear hwE e4 f4
   refine (rmust_q HE.out.rq [59]).mono ?_; rintro _ wF ⟨rfl,hc,hq⟩
   have h12:=HE.out.step hc hq bind_isOk
   have hqF:RQ wF B bp bt z LQ:=by rw [HLK.out]; exact hq.bind fun _ _ _ h=>h.done
   have HL:=Lib.hid (show RMc 87 w wF B bp bt z LQ #[str [],num 0,.bool false,nils,nils,nils] #[str n,num p,.bool b,.slice a1 l1 c1,.slice a2 l2 c2,nils] (fun w F=>NamesAt w F ps (.slice a1 l1 c1) ∧ ∀ a r,LQ = .ok a r→NamesAt w F a (.slice a2 l2 c2)) from
    ((HE.out.step hc hqF (fun h=>by rw [HLK.out] at h; exact bind_isOk h)).turn (framed_Names ps (.slice a1 l1 c1)) (fun _ h=>h.1)).add (framed_when LQ (fun l=>framed_Names l (.slice a2 l2 c2))) (fun _ a r e=>by
     rw [HLK.out] at e
     obtain ⟨l,r1,h1,e⟩:=bind_ok e
     obtain ⟨_,r2,h2,e⟩:=bind_ok e
     cases e
     exact (h12.val (by rw [h1]; show (must z [59] r1).isOk=true; rw [h2]; rfl)).2 _ _ h1))
   clear hc hq h12 hqF hsub hpl
   go_wp2_with fail
  all_goals
   obtain ⟨vs,hvs⟩:=val_of [] LQ
   have HL1:=Lib.hid (HL.out.turn ((framed_Names ps _).and (framed_Names vs (.slice a2 l2 c2))) (fun hk hQ=>⟨hQ.1,by obtain ⟨a,r,e⟩:=isOk_ok hk; have:=hQ.2 a r e; rw [hvs a r e] at this; exact this⟩))
   have HOD:=Lib.hid (show O=LQ.bind fun _ r6=>(must z [98,101,103,105,110] r6).bind fun _ r=>(body0 z r).bind fun b' r2=>(must z [101,110,100] r2).bind fun _ r3=>(must z [59] r3).bind fun _ r4=>.ok ⟨n,p,b,ps,vs,b'⟩ r4 by rw [HOC.out,bind_val hvs]; simp only [block_eq,bind_bind]; rfl)
   clear hvs
   refine (rmust_q HL1.out.rq [98,101,103,105,110]).mono ?_; rintro _ wG ⟨rfl,hc,hq⟩
   obtain ⟨qG,hqG⟩ : ∃ q,q=LQ.bind fun _=>must z [98,101,103,105,110]:=⟨_,rfl⟩
   have HG:=Lib.hid (HL1.out.step hc (q':=qG) (by rw [hqG]; exact hq) (fun h=>by rw [hqG] at h; exact bind_isOk h))
   obtain ⟨BQ,hBQ⟩ : ∃ Q,Q=qG.bind fun _=>body0 z:=⟨_,rfl⟩
   have HOE:=Lib.hid (show O=BQ.bind fun b' r2=>(must z [101,110,100] r2).bind fun _ r3=>(must z [59] r3).bind fun _ r4=>.ok ⟨n,p,b,ps,vs,b'⟩ r4 by rw [HOD.out,hBQ,hqG,bind_bind,bind_bind])
   have HBQ:=Lib.hid hBQ
   clear hc hq hqG hBQ
   go_wp2_with fail
   refine (rok_q HG.out.rq).mono ?_; rintro _ wH ⟨rfl,hc⟩
   have HH1:=Lib.hid (HG.out.step hc.weak (HG.out.rq.same hc) id)
   clear hc
   cases qG
   case' bad en q=>
    simp only [R.isOk]
    obtain ⟨wJ,rfl⟩ : ∃ x,x=wH:=⟨_,rfl⟩
    obtain ⟨a3,ha3⟩ : ∃ x:Option Addr,x=none:=⟨_,rfl⟩
    obtain ⟨l3,hl3⟩ : ∃ x:Nat,x=0:=⟨_,rfl⟩
    obtain ⟨c3,hc3⟩ : ∃ x:Nat,x=0:=⟨_,rfl⟩
    have hbad:BQ = .bad en q:=HBQ.out
    have HJ:=Lib.hid (show RMc 87 w wJ B bp bt z BQ #[str [],num 0,.bool false,nils,nils,nils] #[str n,num p,.bool b,.slice a1 l1 c1,.slice a2 l2 c2,.slice a3 l3 c3] (fun w F=>(NamesAt w F ps (.slice a1 l1 c1)∧NamesAt w F vs (.slice a2 l2 c2)) ∧ ∀ a r,BQ = .ok a r→SlAt w F a (.slice a3 l3 c3)) by
     rw [ha3,hl3,hc3]
     exact (HH1.out.as (q':=BQ) (by rw [hbad]; exact HH1.out.rq) (fun h=>by rw [hbad] at h; cases h)).turn (((framed_Names ps _).and (framed_Names vs _)).and (framed_when BQ (fun t=>framed_Sl t _))) (fun h=>by rw [hbad] at h; cases h))
    clear ha3 hl3 hc3 hbad
    go_wp2_with fail
   case' ok u5 t5=>
    simp only [R.isOk]
    go_wp2_with fail
    refine (rbody0_any wH B bp bt z t5 HH1.out.rq).mono ?_; rintro _ wI ⟨hc,_,rfl,⟨a3,l3,c3,rfl⟩,hq,hv⟩
    have hB:BQ=body0 z t5:=HBQ.out
    have HI:=Lib.hid (HH1.out.call hc (q':=BQ) (by rw [hB]; exact hq) (fun _=>rfl) (framed_when BQ (fun t=>framed_Sl t (.slice a3 l3 c3))) (fun _=>by rw [hB]; exact hv))
    obtain ⟨_,_,_,_,_,e5⟩:=HI.out.blk.six; obtain ⟨_,_,_,_,_,f5⟩:=HI.out.blk.free6
    obtain ⟨wJ,hwJ⟩ : ∃ x,wI.setCell ⟨w.heap.size + 1,5,none⟩ (.slice a3 l3 c3)=x:=⟨_,rfl⟩
    have HJ:=Lib.hid (HI.out.store 5 (.slice a3 l3 c3))
    simp only [List.setIfInBounds_toArray,Array.setIfInBounds] at HJ
    rw [hwJ] at HJ
    clear hc hq hv hB
    go_wp2_with fail
    clear hwJ e5 f5
   all_goals
    obtain ⟨bd,hbd⟩:=val_of S.nil BQ
    have HJ1:=Lib.hid (HJ.out.turn (((framed_Names ps (.slice a1 l1 c1)).and (framed_Names vs (.slice a2 l2 c2))).and (framed_Sl bd (.slice a3 l3 c3))) (fun hk hQ=>⟨hQ.1,by obtain ⟨a,r,e⟩:=isOk_ok hk; have:=hQ.2 a r e; rw [hbd a r e] at this; exact this⟩))
    have HOF:=Lib.hid (show O=((BQ.bind fun _=>must z [101,110,100]).bind fun _=>must z [59]).bind fun _ r4=>.ok ⟨n,p,b,ps,vs,bd⟩ r4 by rw [HOE.out,bind_val hbd]; simp only [bind_bind])
    clear hbd
    refine (rmust_q HJ1.out.rq [101,110,100]).mono ?_; rintro _ wK ⟨rfl,hc,hq⟩
    have HK:=Lib.hid (HJ1.out.step hc hq bind_isOk)
    clear hc hq
    go_wp2_with fail
    refine (rmust_q HK.out.rq [59]).mono ?_; rintro _ wL ⟨rfl,hc,hq⟩
    have H9:=Lib.hid (HK.out.step hc hq bind_isOk)
    clear hc hq
    obtain ⟨d0,d1,d2,d3,d4,d5⟩:=H9.out.blk.six; obtain ⟨y0,y1,y2,y3,y4,y5⟩:=H9.out.res.six; obtain ⟨f0,f1,f2,f3,f4,f5⟩:=H9.out.res.free6
    go_wp2_with fail
    obtain ⟨wF',hwF,hcF,hbF⟩:=set6 (str n) (num p) (.bool b) (.slice a1 l1 c1) (.slice a2 l2 c2) (.slice a3 l3 c3) H9.out.res
    rw [hwF]
    clear hwF
    obtain ⟨g0,g1,g2,g3,g4,g5⟩:=hbF.six
    refine bodyPost_ret (v:=.agg #[str n,num p,.bool b,.slice a1 l1 c1,.slice a2 l2 c2,.slice a3 l3 c3]) (by simp [results,Tryz.results46,go_sem,g0,g1,g2,g3,g4,g5]) rfl ?_
    rw [HOF.out]
    have hkF : ∀ x∈[w.heap.size],¬ New2 w wL x:=fun x hx hn=>by simp at hx; have:=hn.1; omega
    refine ⟨H9.out.chg.trans hcF (fun x hx=>.inr (by simp at hx; omega)),_,rfl,⟨_,_,_,_,_,_,_,_,_,_,_,_,rfl⟩,(H9.out.rq.kept hcF (fun x hx=>by simp at hx; omega)).done,fun x r e=>?_⟩
    obtain ⟨_,_,hqk,e⟩:=bind_ok e
    cases e
    have hv:=H9.out.fr.mono (G:=New w wF') (fun x hx=>⟨by have:=hx.1; omega,Nat.lt_of_lt_of_le hx.2 hcF.size⟩) (H9.out.fr.kept hcF hkF (H9.out.val (by rw [hqk]; rfl)))
    exact ⟨_,rfl,_,_,_,rfl,hv.1.1,hv.1.2,hv.2⟩
end Go.Proofs.YtojkkgghndeimaaGreatDoor
