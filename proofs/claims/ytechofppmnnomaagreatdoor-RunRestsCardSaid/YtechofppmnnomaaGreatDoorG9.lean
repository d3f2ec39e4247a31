/- Some texts in one. -/
import Derived.Test.YtechofppmnnomaaGreatDoorG8
namespace Go.Mq.Tree
open Go Go.RowKit Go.Mq
theorem EndedS.relayN {α β:Type} {w w1 w2:World} {B bp bs' bx bt z en p:Nat} {V:World→α→Prop} {V':World→β→Prop} {e:Ending} (h:EndedS w1 B bp bx bt z (.bad en p:R α) V e w2) (hc:Chg [bp,bs'] w w1) (hx : w.heap.size≤bx):EndedS w B bp bs' bt z (.bad en p:R β) V' e w2:=by
 obtain⟨hc2,b,he,hb,hB⟩:=h;exact⟨hc.trans hc2 (fun x hm=>by simp at hm;rcases hm with rfl|rfl;exact .inl (by simp);exact .inr hx),b,he,Nat.le_trans hc.size hb,hB⟩
theorem bodies_rest (z d:Nat) (ts:List Tok) : (bodies z (d + 1)).2 ts=restL z (bodies z d).1 (bodies z d).2 ts:=rfl
end Go.Mq.Tree
namespace Go.Proofs.YtechofppmnnomaaGreatDoor
open Go Go.RowKit Go.Mq Go.Mq.Tree
set_option maxRecDepth 100000
set_option maxHeartbeats 8000000
def BodyOK (deep d:Nat):Prop:=∀ (w:World) (B bp bt z:Nat) (ts:List Tok),Par w B bp bt z ts→Calls Tryz.prog 76 #[ptr bp,.int .i64 deep] w (Ended w B bp bt z ((bodies z d).1 ts) (fun w' s v=>SlAt w' (New w w') s v))
def RestOK (deep d:Nat):Prop:=∀ (p:Nat) (w:World) (B bp bs' bt z:Nat) (ts:List Tok),Par w B bp bt z ts→Blk w bs' (sCells p) 168→B≤bs'→bs'≠bp→bs'≠bt →
  Calls Tryz.prog 135 #[ptr bp,ptr bs',.int .i64 deep] w (EndedS w B bp bs' bt z ((bodies z d).2 ts) (fun w' x=>SBlk w' (New w w') bs' (.ifs p x.1 x.2.1 x.2.2 .nil)))
theorem body_next {deep d:Nat} (h:BodyOK (deep + 1) d) : ∀ (w:World) (B bp bt z:Nat) (ts:List Tok),Par w B bp bt z ts→Calls Tryz.prog 76 #[ptr bp,.int .i64 ((deep:Int) + 1)] w (Ended w B bp bt z ((bodies z d).1 ts) (fun w' s v=>SlAt w' (New w w') s v)):=fun w B bp bt z ts hp=>by
 have:=h w B bp bt z ts hp
 simpa using this
theorem rest_next {deep d:Nat} (h:RestOK (deep + 1) d) : ∀ (p:Nat) (w:World) (B bp bs' bt z:Nat) (ts:List Tok),Par w B bp bt z ts→Blk w bs' (sCells p) 168→B≤bs'→bs'≠bp→bs'≠bt →
  Calls Tryz.prog 135 #[ptr bp,ptr bs',.int .i64 ((deep:Int) + 1)] w (EndedS w B bp bs' bt z ((bodies z d).2 ts) (fun w' x=>SBlk w' (New w w') bs' (.ifs p x.1 x.2.1 x.2.2 .nil))):=fun p w B bp bs' bt z ts hp h1 h2 h3 h4=>by
 have:=h p w B bp bs' bt z ts hp h1 h2 h3 h4
 simpa using this
theorem rest_step (deep d:Nat) (hdp : deep≤10) (hB:BodyOK (deep + 1) d) (hR:RestOK (deep + 1) d∨d=0):RestOK deep (d + 1):=by
 intro p w B bp bs' bt z ts h hbs hB' hne hnt;have HBO:=zh (body_next hB);have HRN:=zh hR;have hbp:=h.bp_lt;have hbt:=h.bt_lt;have hbl:=hbs.lt;have hB0:=h.laid.le;have HBS:=zh hbs;have HE:=zh (ex0_any w B bp bt z ts h);have hwr:=wrap_next (deep:=deep) (by omega);clear h hbs hB hR
 go_enter Tryz.func135,Tryz.ntmps135
 cases hx : ex0 z ts with
 | bad en q=>
  have HRR:=zh (show (bodies z (d + 1)).2 ts = .bad en q by rw [bodies_rest,restL];simp only [hx]);rw [hx] at HE;clear hx;go_wp2_with fail;refine HE.out.mono ?_;intro e w9 he;have HEE:=zh he;obtain⟨b9,rfl⟩:=he.thrown;clear he;go_wp2_with fail;refine⟨rfl,?_⟩;rw [HRR.out];exact HEE.out.relayS (Chg.refl _ _)
 | ok aK rK=>
  have HX1:=zh hx;rw [HX1.out] at HE;clear hx;obtain⟨v,rfl⟩ : ∃ v,v=aK:=⟨aK,rfl⟩
  obtain⟨r,rfl⟩ : ∃ r,r=rK:=⟨rK,rfl⟩
  go_wp2_with fail;refine HE.out.mono ?_;rintro e w1 ⟨hc1,v1,rfl,hv1,hp1⟩;obtain⟨b1,rfl⟩:=hv1.ptr;have hb1:=HBS.out.kept hc1 (by simpa using hne);have f0:=hb1.frozen 0;have f4:=hb1.frozen 4;have e0:=hb1.cell 0 _ rfl;have e4:=hb1.cell 4 _ rfl;have hb2:=(hb1.set 0 (.int .i64 2)).set 4 (ptr b1);have hc2:Chg [bs'] w1 ((w1.setCell ⟨bs',0,none⟩ (.int .i64 2)).setCell ⟨bs',4,none⟩ (ptr b1)):=(Chg.set1 _ _ _ _).then (Chg.set1 _ _ _ _)
  have HC1:=zh hc1;have HV2:=zh (show EAt ((w1.setCell ⟨bs',0,none⟩ (.int .i64 2)).setCell ⟨bs',4,none⟩ (ptr b1)) (New w _) v [ptr b1] from(hv1.kept hc2 (fun x hx hn=>by simp at hx;have:=hn.1;omega)).mono (fun x hx=>⟨hx.1,Nat.lt_of_lt_of_le hx.2 hc2.size⟩));have HP2:=zh (hp1.kept hc2 (fun x hx=>by simp at hx;omega) (by simpa using Ne.symm hne) (by simpa using Ne.symm hnt));have HB2:=zh (by simpa using hb2:Blk ((w1.setCell ⟨bs',0,none⟩ (.int .i64 2)).setCell ⟨bs',4,none⟩ (ptr b1)) bs' #[.int .i64 2,.int .i64 p,str [],nilp,ptr b1,nils,nils] 168);have HC2:=zh hc2;clear hc1 hv1 hp1 hb1 hb2 hc2;go_wp2_with fail
  generalize (w1.setCell ⟨bs',0,none⟩ (.int .i64 2)).setCell ⟨bs',4,none⟩ (ptr b1)=w2 at *
  have HMU:=zh (must_any [116,104,101,110] w2 B bp bt z r HP2.out);cases hx : must z [116,104,101,110] r with
  | bad en q=>
   have HRR:=zh (show (bodies z (d + 1)).2 ts = .bad en q by rw [bodies_rest,restL];simp only [HX1.out,hx]);rw [hx] at HMU;clear hx;go_wp2_with fail;refine HMU.out.mono ?_;intro e w9 he;have HEE:=zh he;obtain⟨b9,rfl⟩:=he.thrown;clear he;go_wp2_with fail;refine⟨rfl,?_⟩;rw [HRR.out];exact HEE.out.relayS ((s1 HC1.out).then (s2 HC2.out))
  | ok aK rK=>
   have HX2:=zh hx;rw [HX2.out] at HMU;clear hx;obtain⟨r2,rfl⟩ : ∃ r2,r2=rK:=⟨rK,rfl⟩
   go_wp2_with fail;refine HMU.out.mono ?_;rintro e w3 ⟨hc3,_,rfl,rfl,hp3⟩;have HC3:=zh hc3;have HBD:=zh (HBO.out w3 B bp bt z r2 hp3);clear hc3 hp3;cases hx : (bodies z d).1 r2 with
   | bad en q=>
    have HRR:=zh (show (bodies z (d + 1)).2 ts = .bad en q by rw [bodies_rest,restL];simp only [HX1.out,HX2.out,hx]);rw [hx] at HBD;clear hx;go_wp2_with fail;refine HBD.out.mono ?_;intro e w9 he;have HEE:=zh he;obtain⟨b9,rfl⟩:=he.thrown;clear he;go_wp2_with fail;refine⟨rfl,?_⟩;rw [HRR.out];exact HEE.out.relayS (((s1 HC1.out).then (s2 HC2.out)).then (s1 HC3.out))
   | ok aK rK=>
    have HX3:=zh hx;rw [HX3.out] at HBD;clear hx;obtain⟨t,rfl⟩ : ∃ t,t=aK:=⟨aK,rfl⟩
    obtain⟨r3,rfl⟩ : ∃ r3,r3=rK:=⟨rK,rfl⟩
    go_wp2_with fail;refine HBD.out.mono ?_;rintro e w4 ⟨hc4,v4,rfl,⟨a4,k4,cs4,rfl,hl4,hr4,hs4⟩,hp4⟩;have hb4:=(HB2.out.kept HC3.out (by simpa using hne)).kept hc4 (by simpa using hne);have f5:=hb4.frozen 5;have e5:=hb4.cell 5 _ rfl;have hb5:=hb4.set 5 (.slice a4 t.len k4);have hc5:Chg [bs'] w4 (w4.setCell ⟨bs',5,none⟩ (.slice a4 t.len k4)):=Chg.set1 _ _ _ _;have HL4:=zh hl4;have hwc4:Chg [bp,bs'] w w4:=((((s1 HC1.out).then (s2 HC2.out)).then (s1 HC3.out)).then (s1 hc4));have hv4:EAt w4 (New w w4) v [ptr b1]:=(HV2.out.grown hbp (HC3.out.then hc4));have hsz : w.heap.size≤w3.heap.size:=(((s1 HC1.out).then (s2 HC2.out)).then (s1 HC3.out)).size;have hn4 : ∀ x,New w3 w4 x→New w w4 x:=fun x hx=>⟨Nat.le_trans hsz hx.1,hx.2⟩
    have hk5 : ∀ x∈[bs'],¬ New w w4 x:=fun x hx hn=>by simp at hx;have:=hn.1;omega
    have hg5 : ∀ x,New w w4 x→New w (w4.setCell ⟨bs',5,none⟩ (.slice a4 t.len k4)) x:=fun x hx=>⟨hx.1,Nat.lt_of_lt_of_le hx.2 hc5.size⟩
    have HV5:=zh (show EAt (w4.setCell ⟨bs',5,none⟩ (.slice a4 t.len k4)) (New w _) v [ptr b1]∧Row (w4.setCell ⟨bs',5,none⟩ (.slice a4 t.len k4)) (New w _) a4 cs4∧SAt (w4.setCell ⟨bs',5,none⟩ (.slice a4 t.len k4)) (New w _) t cs4 from⟨(hv4.kept hc5 hk5).mono hg5,((hr4.mono hn4).kept hc5 hk5).mono hg5,((hs4.mono hn4).kept hc5 hk5).mono hg5⟩);have HP5:=zh (hp4.kept hc5 (fun x hx=>by simp at hx;omega) (by simpa using Ne.symm hne) (by simpa using Ne.symm hnt));have HB5:=zh (by simpa using hb5:Blk (w4.setCell ⟨bs',5,none⟩ (.slice a4 t.len k4)) bs' [.int .i64 2,.int .i64 p,str [],nilp,ptr b1,.slice a4 t.len k4,nils].toArray 168);have WC5:=zh (hwc4.then (s2 hc5));clear hc4 hl4 hr4 hs4 hp4 hb4 hb5 hc5 hwc4 hv4 hsz hn4 hk5 hg5;have HS5:=zh WC5.out.size;go_wp2_with fail
    generalize w4.setCell ⟨bs',5,none⟩ (.slice a4 t.len k4)=w5 at *
    have HSE:=zh (see_any [101,108,115,105,102] w5 B bp bt z r3 HP5.out);refine HSE.out.mono ?_;rintro _ w6 ⟨rfl,hw6⟩;have hw6':=hw6.symm;subst hw6';clear hw6;cases h4 : see [101,108,115,105,102] r3 with
    | true=>
     have HI4:=zh h4;clear h4;rcases HRN.out with hrn|rfl
     ·have HRN2:=zh (rest_next hrn)
      clear hrn;obtain⟨off,c,nn,c0,c2⟩:=par_at HP5.out;have hp6:=HP5.out.kept ((Chg.refl [] w5).alloc (.cells (sCells (hd z r3)) 168)) (by simp) (by simp) (by simp);have hb6:=Blk.new w5 (sCells (hd z r3)) 168;have hc6:Chg [bp] w5 (w5.alloc (.cells (sCells (hd z r3)) 168)):=(Chg.refl _ _).alloc _;have HB6:=zh hb6;have HC6:=zh hc6;have HMU2:=zh (must_any [101,108,115,105,102] _ B bp bt z r3 hp6);rw [must,HI4.out,if_pos rfl] at HMU2;have hbpl : bp < w5.heap.size:=Nat.lt_of_lt_of_le hbp HS5.out;have hbtl : bt < w5.heap.size:=Nat.lt_of_lt_of_le hbt HS5.out;have hbl5 : bs' < w5.heap.size:=Nat.lt_of_lt_of_le hbl HS5.out;have hS5:=HS5.out;clear hp6 hb6 hc6;go_wp2_with fail;refine HMU2.out.mono ?_;rintro e w7 ⟨hc7,_,rfl,rfl,hp7⟩;have HC67:=zh (HC6.out.then hc7);have hb7:=HB6.out.kept hc7 (by simp;omega);have HB7:=zh hb7;have HM:=zh (HRN2.out (hd z r3) w7 B bp w5.heap.size bt z r3.tail hp7 hb7 (by omega) (by omega) (by omega));clear hc7 hb7 hp7 c0 c2;cases hx : (bodies z d).2 r3.tail with
      | bad en q=>
       have HRR:=zh (show (bodies z (d + 1)).2 ts = .bad en q by rw [bodies_rest,restL];simp only [HX1.out,HX2.out,HX3.out];rw [if_pos HI4.out];simp only [hx]);rw [hx] at HM;clear hx;go_wp2_with fail;refine HM.out.mono ?_;intro e w9 he;have HEE:=zh he;obtain⟨b9,rfl⟩:=he.thrown;clear he;go_wp2_with fail;refine⟨rfl,?_⟩;rw [HRR.out];exact HEE.out.relayN (WC5.out.then (s1 HC67.out)) (by omega)
      | ok aK rK=>
       have HX7:=zh hx;rw [HX7.out] at HM;clear hx;have HRR:=zh (show (bodies z (d + 1)).2 ts = .ok (v,t,.ifs (hd z r3) aK.1 aK.2.1 aK.2.2 .nil) rK by rw [bodies_rest,restL];simp only [HX1.out,HX2.out,HX3.out];rw [if_pos HI4.out,HX7.out]);go_wp2_with fail;refine HM.out.mono ?_;rintro e w8 ⟨hc8,rfl,⟨cs8,hb8,hs8⟩,hp8⟩;have HSS:=zh hs8;obtain⟨u8,a8,k8,ts8,a9,k9,es8,cs9,rfl,_,_,_,_,_,_,_,hnil⟩:=hs8;obtain rfl : cs9=[]:=hnil;have d0:=hb8.cell 0 _ rfl;have d1:=hb8.cell 1 _ rfl;have d2:=hb8.cell 2 _ rfl;have d3:=hb8.cell 3 _ rfl;have d4:=hb8.cell 4 _ rfl;have d5:=hb8.cell 5 _ rfl;have d6:=hb8.cell 6 _ rfl;have HC8:=zh hc8;have HP8:=zh hp8;have hb8':=(HB5.out.kept HC67.out (by simpa using hne)).kept hc8 (by simp;omega);have f6:=hb8'.frozen 6;have e6:=hb8'.cell 6 _ rfl;have HB8:=zh hb8';have hlt8:=hb8'.lt;clear hc8 hp8 hb8 hb8';go_wp2_with fail;refine bodyPost_end (results_none rfl _ _ _) rfl ?_;rw [HRR.out];have hz8 : (w8.setCell ⟨bs',6,none⟩ (.slice (some ⟨w8.heap.size,0,none⟩) 1 1)).heap.size=w8.heap.size:=by simp [World.setCell]
       have hb9:=(HB8.out.set 6 (.slice (some ⟨w8.heap.size,0,none⟩) 1 1)).kept ((Chg.refl [] _).alloc (.cells #[.int .i64 2,.int .i64 (hd z r3),str [],nilp,u8,.slice a8 aK.2.1.len k8,.slice a9 aK.2.2.len k9] 168)) (by simp);have hbn:=Blk.new (w8.setCell ⟨bs',6,none⟩ (.slice (some ⟨w8.heap.size,0,none⟩) 1 1)) #[.int .i64 2,.int .i64 (hd z r3),str [],nilp,u8,.slice a8 aK.2.1.len k8,.slice a9 aK.2.2.len k9] 168;have hc9:Chg [bs'] w8 ((w8.setCell ⟨bs',6,none⟩ (.slice (some ⟨w8.heap.size,0,none⟩) 1 1)).alloc (.cells #[.int .i64 2,.int .i64 (hd z r3),str [],nilp,u8,.slice a8 aK.2.1.len k8,.slice a9 aK.2.2.len k9] 168)):=(Chg.set1 _ _ _ _).alloc _;rw [hz8] at hbn;clear f6 e6 d0 d1 d2 d3 d4 d5 d6
       generalize (w8.setCell ⟨bs',6,none⟩ (.slice (some ⟨w8.heap.size,0,none⟩) 1 1)).alloc (.cells #[.int .i64 2,.int .i64 (hd z r3),str [],nilp,u8,.slice a8 aK.2.1.len k8,.slice a9 aK.2.2.len k9] 168)=w9 at *
       have hk:Chg [bp,w5.heap.size] w5 w8:=(HC67.out.mono (fun x hx=>.inl (by simp at hx;simp [hx]))).then HC8.out
       have hcW:Chg [bp,bs'] w w9:=(WC5.out.trans hk (fun x hx=>by simp at hx;rcases hx with rfl|rfl;exact .inl (by simp);exact .inr HS5.out)).then (s2 hc9)
       have hbk : ∀ x∈[bp,w5.heap.size],¬ New w w5 x:=fun x hx hn=>by simp at hx;have:=hn.1;have:=hn.2;omega
       have hs59 : w5.heap.size≤w9.heap.size:=Nat.le_trans hk.size hc9.size;have hg5 : ∀ x,New w w5 x→New w w8 x:=fun x hx=>⟨hx.1,Nat.lt_of_lt_of_le hx.2 hk.size⟩
       have hk9 : ∀ x∈[bs'],¬ New w w8 x:=fun x hx hn=>by simp at hx;have:=hn.1;omega
       have hg9 : ∀ x,New w w8 x→New w w9 x:=fun x hx=>⟨hx.1,Nat.lt_of_lt_of_le hx.2 hc9.size⟩
       have hs7 : w.heap.size≤w7.heap.size:=Nat.le_trans HS5.out HC67.out.size;have hs8':SAt w8 (New w w8) _ _:=HSS.out.mono (fun x hx=>⟨Nat.le_trans hs7 hx.1,hx.2⟩);have hb9':Blk w9 bs' [.int .i64 2,.int .i64 p,str [],nilp,ptr b1,.slice a4 t.len k4,.slice (some ⟨w8.heap.size,0,none⟩) 1 1].toArray 168:=by simpa using hb9
       refine⟨hcW,rfl,⟨_,hb9',ptr b1,a4,k4,cs4,some ⟨w8.heap.size,0,none⟩,1,_,[],rfl,?_,HL4.out,?_,?_,Nat.le_refl _,?_,(hs8'.kept hc9 hk9).mono hg9,rfl⟩,HP8.out.kept hc9 (fun x hx=>by simp at hx;omega) (by simpa using Ne.symm hne) (by simpa using Ne.symm hnt)⟩
       ·exact(((HV5.out.1.kept hk hbk).mono hg5).kept hc9 hk9).mono hg9
       ·exact(((HV5.out.2.1.kept hk hbk).mono hg5).kept hc9 hk9).mono hg9
       ·exact(((HV5.out.2.2.kept hk hbk).mono hg5).kept hc9 hk9).mono hg9
       ·refine⟨fun _=>⟨w8.heap.size,0,rfl,fun i x hx=>?_⟩,fun _ q hq=>?_⟩
        ·rw [Nat.zero_add];exact hbn.cell i x (by simpa using hx)
        ·cases hq;exact⟨Nat.le_trans hs7 HC8.out.size,hbn.lt⟩
     ·have:=HX3.out
      cases this
    | false=>
     have HI4:=zh h4;clear h4;have HT5:=zh (take_any [101,108,115,101] w5 B bp bt z r3 HP5.out);cases h5 : see [101,108,115,101] r3 with
     | true=>
      have HI5:=zh h5;clear h5;go_wp2_with fail;refine HT5.out.mono ?_;rintro _ w6 ⟨rfl,hp6,hc6,_⟩;rw [HI5.out];rw [skip,HI5.out,if_pos rfl] at hp6;have HC6:=zh hc6;have HBD2:=zh (HBO.out w6 B bp bt z r3.tail hp6);clear hp6 hc6;cases hx : (bodies z d).1 r3.tail with
      | bad en q=>
       have HRR:=zh (show (bodies z (d + 1)).2 ts = .bad en q by rw [bodies_rest,restL];simp only [HX1.out,HX2.out,HX3.out];rw [if_neg (by rw [HI4.out];simp),if_pos HI5.out];simp only [hx]);rw [hx] at HBD2;clear hx;go_wp2_with fail;refine HBD2.out.mono ?_;intro e w9 he;have HEE:=zh he;obtain⟨b9,rfl⟩:=he.thrown;clear he;go_wp2_with fail;refine⟨rfl,?_⟩;rw [HRR.out];exact HEE.out.relayS (WC5.out.then (s1 HC6.out))
      | ok aK rK=>
       have HX6:=zh hx;rw [HX6.out] at HBD2;clear hx;have HRR:=zh (show (bodies z (d + 1)).2 ts = .ok (v,t,aK) rK by rw [bodies_rest,restL];simp only [HX1.out,HX2.out,HX3.out];rw [if_neg (by rw [HI4.out];simp),if_pos HI5.out,HX6.out]);go_wp2_with fail;refine HBD2.out.mono ?_;rintro e w7 ⟨hc7,v7,rfl,⟨a7,k7,cs7,rfl,hl7,hr7,hs7⟩,hp7⟩;have HC7:=zh hc7;have HP7:=zh hp7;have HV7:=zh (And.intro hl7 (And.intro hr7 hs7));have hb7:=HB5.out.kept (HC6.out.then hc7) (by simpa using hne);have f6:=hb7.frozen 6;have e6:=hb7.cell 6 _ rfl;have hb8:=hb7.set 6 (.slice a7 aK.len k7);have hc8:Chg [bs'] w7 (w7.setCell ⟨bs',6,none⟩ (.slice a7 aK.len k7)):=Chg.set1 _ _ _ _;have HB8:=zh hb8;have HC8:=zh hc8;clear hc7 hp7 hl7 hr7 hs7 hb7 hb8 hc8;go_wp2_with fail;refine bodyPost_end (results_none rfl _ _ _) rfl ?_;rw [HRR.out];have hk57:Chg [bp] w5 w7:=HC6.out.then HC7.out
       have hbn : ∀ x∈[bp],¬ New w w5 x:=fun x hx hn=>by simp at hx;have:=hn.1;omega
       have hgrow : ∀ x,New w w5 x→New w w7 x:=fun x hx=>⟨hx.1,Nat.lt_of_lt_of_le hx.2 hk57.size⟩
       have hsz6 : w.heap.size≤w6.heap.size:=Nat.le_trans HS5.out HC6.out.size;have hk8 : ∀ x∈[bs'],¬ New w w7 x:=fun x hx hn=>by simp at hx;have:=hn.1;omega
       have hg8 : ∀ x,New w w7 x→New w (w7.setCell ⟨bs',6,none⟩ (.slice a7 aK.len k7)) x:=fun x hx=>⟨hx.1,Nat.lt_of_lt_of_le hx.2 HC8.out.size⟩
       obtain⟨hl7,hr7,hs7⟩:=HV7.out;have hN7 : ∀ x,New w6 w7 x→New w w7 x:=fun x hx=>⟨Nat.le_trans hsz6 hx.1,hx.2⟩
       refine⟨(WC5.out.then (s1 hk57)).then (s2 HC8.out),rfl,⟨_,by simpa using HB8.out,ptr b1,a4,k4,cs4,a7,k7,cs7,[],rfl,?_,HL4.out,?_,?_,hl7,?_,?_,rfl⟩,HP7.out.kept HC8.out (fun x hx=>by simp at hx;omega) (by simpa using Ne.symm hne) (by simpa using Ne.symm hnt)⟩
       ·exact(((HV5.out.1.kept hk57 hbn).mono hgrow).kept HC8.out hk8).mono hg8
       ·exact(((HV5.out.2.1.kept hk57 hbn).mono hgrow).kept HC8.out hk8).mono hg8
       ·exact(((HV5.out.2.2.kept hk57 hbn).mono hgrow).kept HC8.out hk8).mono hg8
       ·exact((hr7.mono hN7).kept HC8.out hk8).mono hg8
       ·exact((hs7.mono hN7).kept HC8.out hk8).mono hg8
     | false=>
      have HI5:=zh h5;clear h5;have HRR:=zh (show (bodies z (d + 1)).2 ts = .ok (v,t,.nil) r3 by rw [bodies_rest,restL];simp only [HX1.out,HX2.out,HX3.out];rw [if_neg (by rw [HI4.out];simp),if_neg (by rw [HI5.out];simp)]);go_wp2_with fail;refine HT5.out.mono ?_;rintro _ w6 ⟨rfl,_,_,hw⟩;rw [HI5.out];have hw':=(hw HI5.out).symm;subst hw';clear hw;go_wp2_with fail;refine bodyPost_end (results_none rfl _ _ _) rfl ?_;rw [HRR.out];exact⟨WC5.out,rfl,⟨_,HB5.out,ptr b1,a4,k4,cs4,none,0,[],[],rfl,HV5.out.1,HL4.out,HV5.out.2.1,HV5.out.2.2,Nat.le_refl _,Row.nil _ _ _,rfl,rfl⟩,HP5.out⟩
end Go.Proofs.YtechofppmnnomaaGreatDoor
namespace Go.Mq.Tree
open Go Go.RowKit Go.Mq
abbrev New2 (w w':World):Nat→Prop:=fun b=>w.heap.size + 2≤b∧b < w'.heap.size
theorem EndedS.relayE {α β:Type} {w w1 w2:World} {B bp bx bt z en p:Nat} {V:World→α→Prop} {V':World→β→Value→Prop} {e:Ending} (h:EndedS w1 B bp bx bt z (.bad en p:R α) V e w2) (hc:Chg [bp] w w1) (hx : w.heap.size≤bx):Ended w B bp bt z (.bad en p:R β) V' e w2:=by
 obtain⟨hc2,b,he,hb,hB⟩:=h;exact⟨hc.trans hc2 (fun x hm=>by simp at hm;rcases hm with rfl|rfl;exact .inl (by simp);exact .inr hx),b,he,Nat.le_trans hc.size hb,hB⟩
theorem first_len {z p:Nat} {ts r:List Tok} {s:S} (h : first z p ts = .ok s r) : s.len=1:=by
 rw [first] at h
 repeat' (split at h)
 all_goals first|(cases h;rfl)|cases h|(rename_i h2;split at h2;all_goals first|cases h2|(cases h;rfl))
theorem S.len_nil {s:S} (h : s.len=0) : s = .nil:=by
 cases s <;> first|rfl|(simp [S.len] at h)
theorem OptAt.ptr {w:World} {F:Nat→Prop} {i:Option E} {u:Value} (h:OptAt w F i u) : ∃ b,u = .pointer b:=by
 cases i with
 | none=>exact⟨_,h⟩
 | some x=>obtain⟨b,rfl⟩:=EAt.ptr h;exact⟨_,rfl⟩
theorem SAt.shape {w:World} {F:Nat→Prop} {s:S} {cs:List Value} (h:SAt w F s cs) (hl : s.len=1) : ∃ (k p:Int) (n:List UInt8) (i v:Option Addr) (a1:Option Addr) (l1 c1:Nat) (a2:Option Addr) (l2 c2:Nat),
  cs=[.int .i64 k,.int .i64 p,str n,.pointer i,.pointer v,.slice a1 l1 c1,.slice a2 l2 c2]:=by
 cases s with
 | nil=>cases hl
 | set p n i v r=>
  obtain⟨ui,uv,cs',rfl,h2,h3,h4⟩:=h;obtain rfl:=S.len_nil (s:=r) (by simp [S.len] at hl;exact hl);obtain rfl : cs'=[]:=h4;obtain⟨b,rfl⟩:=h2.ptr;obtain⟨c,rfl⟩:=h3.ptr;exact⟨_,_,_,_,_,_,_,_,_,_,_,rfl⟩
 | ifs p v t e r=>
  obtain⟨uv,a1,c1,ts,a2,c2,es,cs',rfl,h2,h3,h4,h5,h6,h7,h8,h9⟩:=h;obtain rfl:=S.len_nil (s:=r) (by simp [S.len] at hl;exact hl);obtain rfl : cs'=[]:=h9;obtain⟨c,rfl⟩:=h2.ptr;exact⟨_,_,_,_,_,_,_,_,_,_,_,rfl⟩
 | whil p v t r=>
  obtain⟨uv,a1,c1,ts,cs',rfl,h2,h3,h4,h5,h6⟩:=h;obtain rfl:=S.len_nil (s:=r) (by simp [S.len] at hl;exact hl);obtain rfl : cs'=[]:=h6;obtain⟨c,rfl⟩:=h2.ptr;exact⟨_,_,_,_,_,_,_,_,_,_,_,rfl⟩
 | ret p v r=>
  obtain⟨uv,cs',rfl,h2,h3⟩:=h;obtain rfl:=S.len_nil (s:=r) (by simp [S.len] at hl;exact hl);obtain rfl : cs'=[]:=h3;obtain⟨c,rfl⟩:=h2.ptr;exact⟨_,_,_,_,_,_,_,_,_,_,_,rfl⟩
 | wri p v r=>
  obtain⟨uv,cs',rfl,h2,h3⟩:=h;obtain rfl:=S.len_nil (s:=r) (by simp [S.len] at hl;exact hl);obtain rfl : cs'=[]:=h3;obtain⟨c,rfl⟩:=h2.ptr;exact⟨_,_,_,_,_,_,_,_,_,_,_,rfl⟩
 | call p v r=>
  obtain⟨uv,cs',rfl,h2,h3⟩:=h;obtain rfl:=S.len_nil (s:=r) (by simp [S.len] at hl;exact hl);obtain rfl : cs'=[]:=h3;obtain⟨c,rfl⟩:=h2.ptr;exact⟨_,_,_,_,_,_,_,_,_,_,_,rfl⟩
end Go.Mq.Tree
namespace Go.Proofs.YtechofppmnnomaaGreatDoor
open Go Go.RowKit Go.Mq Go.Mq.Tree
set_option maxRecDepth 100000
set_option maxHeartbeats 16000000
abbrev SV (w:World):World→S→Value→Prop:=fun w' s v=>∃ cs,v = .agg cs.toArray∧cs.length=7∧SAt w' (New w w') s cs
def StmtOK (deep:Nat) (st:Nat→Ps S):Prop:=∀ (w:World) (B bp bt z:Nat) (ts:List Tok),Par w B bp bt z ts→Calls Tryz.prog 111 #[ptr bp,.int .i64 deep] w (Ended w B bp bt z (st z ts) (SV w))
theorem set7 {w:World} {b:Nat} (v0 v1 v2 v3 v4 v5 v6:Value) {u0 u1 u2 u3 u4 u5 u6:Value} {t:TypeId} (h:Blk w b #[u0,u1,u2,u3,u4,u5,u6] t) : ∃ wF,(((((((w.setCell ⟨b,0,none⟩ v0).setCell ⟨b,1,none⟩ v1).setCell ⟨b,2,none⟩ v2).setCell ⟨b,3,none⟩ v3).setCell ⟨b,4,none⟩ v4).setCell ⟨b,5,none⟩ v5).setCell ⟨b,6,none⟩ v6)=wF∧Chg [b] w wF∧Blk wF b #[v0,v1,v2,v3,v4,v5,v6] t:=
 ⟨_,rfl,((((((Chg.set1 _ _ _ _).then (Chg.set1 _ _ _ _)).then (Chg.set1 _ _ _ _)).then (Chg.set1 _ _ _ _)).then (Chg.set1 _ _ _ _)).then (Chg.set1 _ _ _ _)).then (Chg.set1 _ _ _ _),by
  have:=((((((h.set 0 v0).set 1 v1).set 2 v2).set 3 v3).set 4 v4).set 5 v5).set 6 v6
  simpa using this⟩
theorem stmt_step (deep d:Nat) (hdp : deep≤10) (hB:BodyOK (deep + 1) d) (hR:RestOK deep (d + 1)):StmtOK deep (fun z=>stmt z (bodies z d).1 (bodies z (d + 1)).2):=by
 intro w B bp bt z ts h;have HBO:=zh (body_next hB);have HRO:=zh hR;have hbp:=h.bp_lt;have hbt:=h.bt_lt;have hB0:=h.laid.le;have hwr:=wrap_next (deep:=deep) (by omega);obtain⟨off,c,nn,c0,c2⟩:=par_at h;have hw1 : (w.alloc (.cells (sCells 0) 168)).heap.size=w.heap.size + 1:=by simp
 have HC1:=zh (show Chg [bp] w ((w.alloc (.cells (sCells 0) 168)).alloc (.cells (sCells (hd z ts)) 168)) from((Chg.refl _ _).alloc _).alloc _);have HP1:=zh (h.kept (((Chg.refl [] w).alloc (.cells (sCells 0) 168)).alloc (.cells (sCells (hd z ts)) 168)) (by simp) (by simp) (by simp));have hB1:=Blk.new (w.alloc (.cells (sCells 0) 168)) (sCells (hd z ts)) 168;rw [hw1] at hB1;have HB1:=zh hB1;have HR1:=zh ((Blk.new w (sCells 0) 168).kept ((Chg.refl [] _).alloc (.cells (sCells (hd z ts)) 168)) (by simp));clear h hB hR hB1 hw1
 go_enter Tryz.func111,Tryz.ntmps111
 go_wp2_with fail;clear c0 c2;obtain⟨w1,hw1⟩ : ∃ w1,w1=(w.alloc (.cells (sCells 0) 168)).alloc (.cells (sCells (hd z ts)) 168):=⟨_,rfl⟩
 rw [← hw1] at HC1 HP1 HB1 HR1
 change Calls _ _ _ ((w.alloc (.cells (sCells 0) 168)).alloc (.cells (sCells (hd z ts)) 168)) _
 rw [← hw1];clear hw1;have HT:=zh (take_any [105,102] w1 B bp bt z ts HP1.out);cases hk : see [105,102] ts with
 | true=>
  have HI_if:=zh hk;clear hk;refine HT.out.mono ?_;rintro _ w2 ⟨rfl,hp2,hc2,_⟩;rw [HI_if.out];rw [skip,HI_if.out,if_pos rfl] at hp2;have HP2:=zh hp2;have HC2:=zh hc2;have HWC2:=zh (HC1.out.then hc2);have HB2:=zh (HB1.out.kept hc2 (by simp;omega));have HR2:=zh (HR1.out.kept hc2 (by simp;omega));have HS2:=zh (show w.heap.size + 2≤w2.heap.size by have:=hc2.size;have:=HB1.out.lt;omega);clear hp2 hc2;have HR:=zh (HRO.out (hd z ts) w2 B bp (w.heap.size + 1) bt z ts.tail HP2.out HB2.out (by omega) (by omega) (by omega));cases hx : (bodies z (d + 1)).2 ts.tail with
  | bad en q=>
   have HRR:=zh (show stmt z (bodies z d).1 (bodies z (d + 1)).2 ts = .bad en q by rw [stmt,if_pos HI_if.out];simp only [hx]);rw [hx] at HR;clear hx;go_wp2_with fail;refine HR.out.mono ?_;intro e w9 he;have HEE:=zh he;obtain⟨b9,rfl⟩:=he.thrown;clear he;go_wp2_with fail;refine⟨rfl,?_⟩;rw [HRR.out];exact HEE.out.relayE (HWC2.out) (by omega)
  | ok aK rK=>
   have HX:=zh hx;rw [hx] at HR;clear hx;obtain⟨x3,rfl⟩ : ∃ x3,x3=aK:=⟨aK,rfl⟩
   obtain⟨r3,rfl⟩ : ∃ r3,r3=rK:=⟨rK,rfl⟩
   go_wp2_with fail;refine HR.out.mono ?_;rintro e w3 ⟨hc3,rfl,⟨cs,hb3,hs3⟩,hp3⟩;have HB3:=zh hb3;have HS3:=zh hs3;have HWC3:=zh (show Chg [bp] w w3 from HWC2.out.trans hc3 (fun x hx=>by simp at hx;rcases hx with rfl|rfl;exact .inl (by simp);exact .inr (by omega)));have HR3:=zh (HR2.out.kept hc3 (by simp;omega));have HMU:=zh (must_any [101,110,100] w3 B bp bt z r3 hp3);clear hc3 hb3 hs3 hp3;cases hx : must z [101,110,100] r3 with
   | bad en q=>
    have HRR:=zh (show stmt z (bodies z d).1 (bodies z (d + 1)).2 ts = .bad en q by rw [stmt,if_pos HI_if.out];simp only [HX.out];simp only [hx]);rw [hx] at HMU;clear hx;go_wp2_with fail;refine HMU.out.mono ?_;intro e w9 he;have HEE:=zh he;obtain⟨b9,rfl⟩:=he.thrown;clear he;go_wp2_with fail;refine⟨rfl,?_⟩;rw [HRR.out];exact HEE.out.relay (HWC3.out)
   | ok aK rK=>
    have HRR:=zh (show stmt z (bodies z d).1 (bodies z (d + 1)).2 ts = .ok (.ifs (hd z ts) x3.1 x3.2.1 x3.2.2 .nil) rK by rw [stmt,if_pos HI_if.out];simp only [HX.out,hx]);rw [hx] at HMU;clear hx;go_wp2_with fail;refine HMU.out.mono ?_;rintro e wE ⟨hcE,_,rfl,rfl,hpE⟩;have HCE:=zh (HWC3.out.then hcE);have HPE:=zh hpE;have hbE:=HB3.out.kept hcE (by simp;omega);have hrE:=HR3.out.kept hcE (by simp;omega);have hsE:SAt wE (New2 w wE) (.ifs (hd z ts) x3.1 x3.2.1 x3.2.2 .nil) cs:=(((HS3.out.mono (G:=New2 w w3) (fun x hx=>⟨by have:=hx.1;have:=HS2.out;omega,hx.2⟩)).kept hcE (fun x hx hn=>by simp at hx;have:=hn.1;omega))).mono (fun x hx=>⟨hx.1,Nat.lt_of_lt_of_le hx.2 hcE.size⟩);have hlE:S.len (.ifs (hd z ts) x3.1 x3.2.1 x3.2.2 .nil)=1:=rfl;clear hcE hpE;have HBE:=zh hbE;have HSE:=zh hsE;have HRE:=zh hrE;obtain⟨k9,q9,n9,i9,v9,a9,l9,m9,b9,j9,o9,rfl⟩:=hsE.shape hlE;have d0:=HBE.out.cell 0 _ rfl;have d1:=HBE.out.cell 1 _ rfl;have d2:=HBE.out.cell 2 _ rfl;have d3:=HBE.out.cell 3 _ rfl;have d4:=HBE.out.cell 4 _ rfl;have d5:=HBE.out.cell 5 _ rfl;have d6:=HBE.out.cell 6 _ rfl;have e0:=HRE.out.cell 0 _ rfl;have e1:=HRE.out.cell 1 _ rfl;have e2:=HRE.out.cell 2 _ rfl;have e3:=HRE.out.cell 3 _ rfl;have e4:=HRE.out.cell 4 _ rfl;have e5:=HRE.out.cell 5 _ rfl;have e6:=HRE.out.cell 6 _ rfl;have f0:=HRE.out.frozen 0;have f1:=HRE.out.frozen 1;have f2:=HRE.out.frozen 2;have f3:=HRE.out.frozen 3;have f4:=HRE.out.frozen 4;have f5:=HRE.out.frozen 5;have f6:=HRE.out.frozen 6;clear hsE hbE hrE;go_wp2_with fail;obtain⟨wF,hwF,hcF,hbF⟩:=set7 (.int .i64 k9) (.int .i64 q9) (str n9) (.pointer i9) (.pointer v9) (.slice a9 l9 m9) (.slice b9 j9 o9) HRE.out;rw [hwF];clear hwF;have g0:=hbF.cell 0 (.int .i64 k9) rfl;have g1:=hbF.cell 1 (.int .i64 q9) rfl;have g2:=hbF.cell 2 (str n9) rfl;have g3:=hbF.cell 3 (.pointer i9) rfl;have g4:=hbF.cell 4 (.pointer v9) rfl;have g5:=hbF.cell 5 (.slice a9 l9 m9) rfl;have g6:=hbF.cell 6 (.slice b9 j9 o9) rfl;refine bodyPost_ret (v:=.agg #[(.int .i64 k9),(.int .i64 q9),(str n9),(.pointer i9),(.pointer v9),(.slice a9 l9 m9),(.slice b9 j9 o9)]) (by simp [results,Tryz.results111,go_sem,g0,g1,g2,g3,g4,g5,g6]) rfl ?_;rw [HRR.out];have hkF : ∀ x∈[w.heap.size],¬ New2 w wE x:=fun x hx hn=>by simp at hx;have:=hn.1;omega
    exact⟨HCE.out.trans hcF (fun x hx=>.inr (by simp at hx;omega)),_,rfl,⟨_,rfl,rfl,(HSE.out.kept hcF hkF).mono (fun x hx=>⟨by have:=hx.1;omega,Nat.lt_of_lt_of_le hx.2 hcF.size⟩)⟩,HPE.out.kept hcF (fun x hx=>by simp at hx;omega) (by simp;omega) (by simp;omega)⟩
 | false=>
  have HI_if:=zh hk;clear hk;refine HT.out.mono ?_;rintro _ w2 ⟨rfl,_,_,hw⟩;rw [HI_if.out];have hw':=(hw HI_if.out).symm;subst hw';clear hw;have HT:=zh (take_any [119,104,105,108,101] w1 B bp bt z ts HP1.out);cases hk : see [119,104,105,108,101] ts with
  | true=>
   have HI_while:=zh hk;clear hk;go_wp2_with fail;refine HT.out.mono ?_;rintro _ w2 ⟨rfl,hp2,hc2,_⟩;rw [HI_while.out];rw [skip,HI_while.out,if_pos rfl] at hp2;have HP2:=zh hp2;have HC2:=zh hc2;have HWC2:=zh (HC1.out.then hc2);have HB2:=zh (HB1.out.kept hc2 (by simp;omega));have HR2:=zh (HR1.out.kept hc2 (by simp;omega));have HS2:=zh (show w.heap.size + 2≤w2.heap.size by have:=hc2.size;have:=HB1.out.lt;omega);clear hp2 hc2;have HE:=zh (ex0_any w2 B bp bt z ts.tail HP2.out);cases hx : ex0 z ts.tail with
   | bad en q=>
    have HRR:=zh (show stmt z (bodies z d).1 (bodies z (d + 1)).2 ts = .bad en q by rw [stmt,if_neg (by rw [HI_if.out];simp),if_pos HI_while.out];simp only [hx]);rw [hx] at HE;clear hx;go_wp2_with fail;refine HE.out.mono ?_;intro e w9 he;have HEE:=zh he;obtain⟨b9,rfl⟩:=he.thrown;clear he;go_wp2_with fail;refine⟨rfl,?_⟩;rw [HRR.out];exact HEE.out.relay (HWC2.out)
   | ok aK rK=>
    have HX:=zh hx;rw [hx] at HE;clear hx;obtain⟨v,rfl⟩ : ∃ v,v=aK:=⟨aK,rfl⟩
    obtain⟨r3,rfl⟩ : ∃ r3,r3=rK:=⟨rK,rfl⟩
    go_wp2_with fail;refine HE.out.mono ?_;rintro e w3 ⟨hc3,v3,rfl,hv3,hp3⟩;obtain⟨b3,rfl⟩:=hv3.ptr;have hb3:=HB2.out.kept hc3 (by simp;omega);have f0:=hb3.frozen 0;have f4:=hb3.frozen 4;have e0:=hb3.cell 0 _ rfl;have e4:=hb3.cell 4 _ rfl;have hb4:=(hb3.set 0 (.int .i64 3)).set 4 (ptr b3);have hc4:Chg [w.heap.size + 1] w3 ((w3.setCell ⟨w.heap.size + 1,0,none⟩ (.int .i64 3)).setCell ⟨w.heap.size + 1,4,none⟩ (ptr b3)):=(Chg.set1 _ _ _ _).then (Chg.set1 _ _ _ _)
    have hr4:=(HR2.out.kept hc3 (by simp;omega)).kept hc4 (by simp);have HP4:=zh (hp3.kept hc4 (fun x hx=>by simp at hx;omega) (by simp;omega) (by simp;omega));have HWC4:=zh (show Chg [bp] w _ from(HWC2.out.then hc3).trans hc4 (fun x hx=>.inr (by simp at hx;omega)));have hv4:EAt ((w3.setCell ⟨w.heap.size + 1,0,none⟩ (.int .i64 3)).setCell ⟨w.heap.size + 1,4,none⟩ (ptr b3)) (New2 w _) v [ptr b3]:=((hv3.mono (G:=New2 w w3) (fun x hx=>⟨by have:=hx.1;have:=HS2.out;omega,hx.2⟩)).kept hc4 (fun x hx hn=>by simp at hx;have:=hn.1;omega)).mono (fun x hx=>⟨hx.1,Nat.lt_of_lt_of_le hx.2 hc4.size⟩);have HB4:=zh hb4;have HR4:=zh hr4;have HV4:=zh hv4;have HS4:=zh (show w.heap.size + 2≤((w3.setCell ⟨w.heap.size + 1,0,none⟩ (.int .i64 3)).setCell ⟨w.heap.size + 1,4,none⟩ (ptr b3)).heap.size from Nat.le_trans HS2.out (Nat.le_trans hc3.size hc4.size));clear hc3 hv3 hp3 hb3 hb4 hr4 hc4 hv4;go_wp2_with fail;clear f0 f4 e0 e4
    generalize (w3.setCell ⟨w.heap.size + 1,0,none⟩ (.int .i64 3)).setCell ⟨w.heap.size + 1,4,none⟩ (ptr b3)=w4 at *
    have HMU:=zh (must_any [100,111] w4 B bp bt z r3 HP4.out);cases hx : must z [100,111] r3 with
    | bad en q=>
     have HRR:=zh (show stmt z (bodies z d).1 (bodies z (d + 1)).2 ts = .bad en q by rw [stmt,if_neg (by rw [HI_if.out];simp),if_pos HI_while.out];simp only [HX.out];simp only [hx]);rw [hx] at HMU;clear hx;go_wp2_with fail;refine HMU.out.mono ?_;intro e w9 he;have HEE:=zh he;obtain⟨b9,rfl⟩:=he.thrown;clear he;go_wp2_with fail;refine⟨rfl,?_⟩;rw [HRR.out];exact HEE.out.relay (HWC4.out)
    | ok aK rK=>
     have HX5:=zh hx;rw [hx] at HMU;clear hx;obtain⟨r5,rfl⟩ : ∃ r5,r5=rK:=⟨rK,rfl⟩
     go_wp2_with fail;refine HMU.out.mono ?_;rintro e w5 ⟨hc5,_,rfl,rfl,hp5⟩;have HC5:=zh hc5;have HBD:=zh (HBO.out w5 B bp bt z r5 hp5);clear hc5 hp5;cases hx : (bodies z d).1 r5 with
     | bad en q=>
      have HRR:=zh (show stmt z (bodies z d).1 (bodies z (d + 1)).2 ts = .bad en q by rw [stmt,if_neg (by rw [HI_if.out];simp),if_pos HI_while.out];simp only [HX.out,HX5.out];simp only [hx]);rw [hx] at HBD;clear hx;go_wp2_with fail;refine HBD.out.mono ?_;intro e w9 he;have HEE:=zh he;obtain⟨b9,rfl⟩:=he.thrown;clear he;go_wp2_with fail;refine⟨rfl,?_⟩;rw [HRR.out];exact HEE.out.relay (HWC4.out.then HC5.out)
     | ok aK rK=>
      have HX6:=zh hx;rw [hx] at HBD;clear hx;obtain⟨t,rfl⟩ : ∃ t,t=aK:=⟨aK,rfl⟩
      obtain⟨r6,rfl⟩ : ∃ r6,r6=rK:=⟨rK,rfl⟩
      go_wp2_with fail;refine HBD.out.mono ?_;rintro e w6 ⟨hc6,v6,rfl,⟨a6,k6,cs6,rfl,hl6,hr6,hs6⟩,hp6⟩;have hb6:=(HB4.out.kept HC5.out (by simp;omega)).kept hc6 (by simp;omega);have f5:=hb6.frozen 5;have e5:=hb6.cell 5 _ rfl;have hb7:=hb6.set 5 (.slice a6 t.len k6);have hc7:Chg [w.heap.size + 1] w6 (w6.setCell ⟨w.heap.size + 1,5,none⟩ (.slice a6 t.len k6)):=Chg.set1 _ _ _ _;have hk46:Chg [bp] w4 w6:=HC5.out.then hc6
      have hr7:=(HR4.out.kept hk46 (by simp;omega)).kept hc7 (by simp);have HP7:=zh (hp6.kept hc7 (fun x hx=>by simp at hx;omega) (by simp;omega) (by simp;omega));have HWC7:=zh (show Chg [bp] w _ from(HWC4.out.then hk46).trans hc7 (fun x hx=>.inr (by simp at hx;omega)));have hv6:EAt w6 (New2 w w6) v [ptr b3]:=(HV4.out.kept hk46 (fun x hx hn=>by simp at hx;have:=hn.1;omega)).mono (fun x hx=>⟨hx.1,Nat.lt_of_lt_of_le hx.2 hk46.size⟩);have hn6 : ∀ x,New w5 w6 x→New2 w w6 x:=fun x hx=>⟨Nat.le_trans HS4.out (Nat.le_trans HC5.out.size hx.1),hx.2⟩
      have hk7 : ∀ x∈[w.heap.size + 1],¬ New2 w w6 x:=fun x hx hn=>by simp at hx;have:=hn.1;omega
      have hg7 : ∀ x,New2 w w6 x→New2 w (w6.setCell ⟨w.heap.size + 1,5,none⟩ (.slice a6 t.len k6)) x:=fun x hx=>⟨hx.1,Nat.lt_of_lt_of_le hx.2 hc7.size⟩
      have HV7:=zh (And.intro ((hv6.kept hc7 hk7).mono hg7) (And.intro (((hr6.mono hn6).kept hc7 hk7).mono hg7) (((hs6.mono hn6).kept hc7 hk7).mono hg7)));have HL6:=zh hl6;have HB7:=zh hb7;have HR7:=zh hr7;clear hc6 hl6 hr6 hs6 hp6 hb6 hb7 hc7 hk46 hr7 hv6 hn6 hk7 hg7;go_wp2_with fail;clear f5 e5
      generalize w6.setCell ⟨w.heap.size + 1,5,none⟩ (.slice a6 t.len k6)=w7 at *
      have HMU2:=zh (must_any [101,110,100] w7 B bp bt z r6 HP7.out);cases hx : must z [101,110,100] r6 with
      | bad en q=>
       have HRR:=zh (show stmt z (bodies z d).1 (bodies z (d + 1)).2 ts = .bad en q by rw [stmt,if_neg (by rw [HI_if.out];simp),if_pos HI_while.out];simp only [HX.out,HX5.out,HX6.out];simp only [hx]);rw [hx] at HMU2;clear hx;go_wp2_with fail;refine HMU2.out.mono ?_;intro e w9 he;have HEE:=zh he;obtain⟨b9,rfl⟩:=he.thrown;clear he;go_wp2_with fail;refine⟨rfl,?_⟩;rw [HRR.out];exact HEE.out.relay (HWC7.out)
      | ok aK rK=>
       have HRR:=zh (show stmt z (bodies z d).1 (bodies z (d + 1)).2 ts = .ok (.whil (hd z ts) v t .nil) rK by rw [stmt,if_neg (by rw [HI_if.out];simp),if_pos HI_while.out];simp only [HX.out,HX5.out,HX6.out,hx]);rw [hx] at HMU2;clear hx;go_wp2_with fail;refine HMU2.out.mono ?_;rintro e wE ⟨hcE,_,rfl,rfl,hpE⟩;have HCE:=zh (HWC7.out.then hcE);have HPE:=zh hpE;have hk : ∀ x∈[bp],¬ New2 w w7 x:=fun x hx hn=>by simp at hx;have:=hn.1;omega
       have hg : ∀ x,New2 w w7 x→New2 w wE x:=fun x hx=>⟨hx.1,Nat.lt_of_lt_of_le hx.2 hcE.size⟩
       obtain⟨cs,hcs⟩ : ∃ cs,cs=[.int .i64 3,.int .i64 (hd z ts),str [],nilp,ptr b3,.slice a6 t.len k6,nils]:=⟨_,rfl⟩
       have hbE:Blk wE (w.heap.size + 1) cs.toArray 168:=by rw [hcs];simpa using HB7.out.kept hcE (by simp;omega)
       have hrE:=HR7.out.kept hcE (by simp;omega);have hsE:SAt wE (New2 w wE) (.whil (hd z ts) v t .nil) cs:=⟨ptr b3,a6,k6,cs6,[],hcs,(HV7.out.1.kept hcE hk).mono hg,HL6.out,(HV7.out.2.1.kept hcE hk).mono hg,(HV7.out.2.2.kept hcE hk).mono hg,rfl⟩;have hlE:S.len (.whil (hd z ts) v t .nil)=1:=rfl;clear hcE hpE hcs hk hg;have HBE:=zh hbE;have HSE:=zh hsE;have HRE:=zh hrE;obtain⟨k9,q9,n9,i9,v9,a9,l9,m9,b9,j9,o9,rfl⟩:=hsE.shape hlE;have d0:=HBE.out.cell 0 _ rfl;have d1:=HBE.out.cell 1 _ rfl;have d2:=HBE.out.cell 2 _ rfl;have d3:=HBE.out.cell 3 _ rfl;have d4:=HBE.out.cell 4 _ rfl;have d5:=HBE.out.cell 5 _ rfl;have d6:=HBE.out.cell 6 _ rfl;have e0:=HRE.out.cell 0 _ rfl;have e1:=HRE.out.cell 1 _ rfl;have e2:=HRE.out.cell 2 _ rfl;have e3:=HRE.out.cell 3 _ rfl;have e4:=HRE.out.cell 4 _ rfl;have e5:=HRE.out.cell 5 _ rfl;have e6:=HRE.out.cell 6 _ rfl;have f0:=HRE.out.frozen 0;have f1:=HRE.out.frozen 1;have f2:=HRE.out.frozen 2;have f3:=HRE.out.frozen 3;have f4:=HRE.out.frozen 4;have f5:=HRE.out.frozen 5;have f6:=HRE.out.frozen 6;clear hsE hbE hrE;go_wp2_with fail;obtain⟨wF,hwF,hcF,hbF⟩:=set7 (.int .i64 k9) (.int .i64 q9) (str n9) (.pointer i9) (.pointer v9) (.slice a9 l9 m9) (.slice b9 j9 o9) HRE.out;rw [hwF];clear hwF;have g0:=hbF.cell 0 (.int .i64 k9) rfl;have g1:=hbF.cell 1 (.int .i64 q9) rfl;have g2:=hbF.cell 2 (str n9) rfl;have g3:=hbF.cell 3 (.pointer i9) rfl;have g4:=hbF.cell 4 (.pointer v9) rfl;have g5:=hbF.cell 5 (.slice a9 l9 m9) rfl;have g6:=hbF.cell 6 (.slice b9 j9 o9) rfl;refine bodyPost_ret (v:=.agg #[(.int .i64 k9),(.int .i64 q9),(str n9),(.pointer i9),(.pointer v9),(.slice a9 l9 m9),(.slice b9 j9 o9)]) (by simp [results,Tryz.results111,go_sem,g0,g1,g2,g3,g4,g5,g6]) rfl ?_;rw [HRR.out];have hkF : ∀ x∈[w.heap.size],¬ New2 w wE x:=fun x hx hn=>by simp at hx;have:=hn.1;omega
       exact⟨HCE.out.trans hcF (fun x hx=>.inr (by simp at hx;omega)),_,rfl,⟨_,rfl,rfl,(HSE.out.kept hcF hkF).mono (fun x hx=>⟨by have:=hx.1;omega,Nat.lt_of_lt_of_le hx.2 hcF.size⟩)⟩,HPE.out.kept hcF (fun x hx=>by simp at hx;omega) (by simp;omega) (by simp;omega)⟩
  | false=>
   have HI_while:=zh hk;clear hk;go_wp2_with fail;refine HT.out.mono ?_;rintro _ w2 ⟨rfl,_,_,hw⟩;rw [HI_while.out];have hw':=(hw HI_while.out).symm;subst hw';clear hw;have HT:=zh (take_any [114,101,116,117,114,110] w1 B bp bt z ts HP1.out);cases hk : see [114,101,116,117,114,110] ts with
   | true=>
    have HI_return:=zh hk;clear hk;go_wp2_with fail;refine HT.out.mono ?_;rintro _ w2 ⟨rfl,hp2,hc2,_⟩;rw [HI_return.out];rw [skip,HI_return.out,if_pos rfl] at hp2;have HP2:=zh hp2;have HC2:=zh hc2;have HWC2:=zh (HC1.out.then hc2);have HB2:=zh (HB1.out.kept hc2 (by simp;omega));have HR2:=zh (HR1.out.kept hc2 (by simp;omega));have HS2:=zh (show w.heap.size + 2≤w2.heap.size by have:=hc2.size;have:=HB1.out.lt;omega);clear hp2 hc2;have HE:=zh (ex0_any w2 B bp bt z ts.tail HP2.out);cases hx : ex0 z ts.tail with
    | bad en q=>
     have HRR:=zh (show stmt z (bodies z d).1 (bodies z (d + 1)).2 ts = .bad en q by rw [stmt,if_neg (by rw [HI_if.out];simp),if_neg (by rw [HI_while.out];simp),if_pos HI_return.out];simp only [hx]);rw [hx] at HE;clear hx;go_wp2_with fail;refine HE.out.mono ?_;intro e w9 he;have HEE:=zh he;obtain⟨b9,rfl⟩:=he.thrown;clear he;go_wp2_with fail;refine⟨rfl,?_⟩;rw [HRR.out];exact HEE.out.relay (HWC2.out)
    | ok aK rK=>
     have HRR:=zh (show stmt z (bodies z d).1 (bodies z (d + 1)).2 ts = .ok (.ret (hd z ts) aK .nil) rK by rw [stmt,if_neg (by rw [HI_if.out];simp),if_neg (by rw [HI_while.out];simp),if_pos HI_return.out];simp only [hx]);rw [hx] at HE;clear hx;go_wp2_with fail;refine HE.out.mono ?_;rintro e w3 ⟨hc3,v3,rfl,hv3,hp3⟩;obtain⟨b3,rfl⟩:=hv3.ptr;have HC3:=zh hc3;have hb3:=HB2.out.kept hc3 (by simp;omega);have f0:=hb3.frozen 0;have f4:=hb3.frozen 4;have e0:=hb3.cell 0 _ rfl;have e4:=hb3.cell 4 _ rfl;have d1:=hb3.cell 1 _ rfl;have d2:=hb3.cell 2 _ rfl;have d3:=hb3.cell 3 _ rfl;have d5:=hb3.cell 5 _ rfl;have d6:=hb3.cell 6 _ rfl;have hr3:=HR2.out.kept hc3 (by simp;omega);have r0:=hr3.cell 0 _ rfl;have r1:=hr3.cell 1 _ rfl;have r2:=hr3.cell 2 _ rfl;have r3:=hr3.cell 3 _ rfl;have r4:=hr3.cell 4 _ rfl;have r5:=hr3.cell 5 _ rfl;have r6:=hr3.cell 6 _ rfl;have q0:=hr3.frozen 0;have q1:=hr3.frozen 1;have q2:=hr3.frozen 2;have q3:=hr3.frozen 3;have q4:=hr3.frozen 4;have q5:=hr3.frozen 5;have q6:=hr3.frozen 6;have hb4:=(hb3.set 0 (.int .i64 4)).set 4 (ptr b3);have hc4:Chg [w.heap.size + 1] w3 ((w3.setCell ⟨w.heap.size + 1,0,none⟩ (.int .i64 4)).setCell ⟨w.heap.size + 1,4,none⟩ (ptr b3)):=(Chg.set1 _ _ _ _).then (Chg.set1 _ _ _ _)
     have hr4:=(HR2.out.kept hc3 (by simp;omega)).kept hc4 (by simp);have HPE:=zh (hp3.kept hc4 (fun x hx=>by simp at hx;omega) (by simp;omega) (by simp;omega));have HCE:=zh (show Chg [bp] w _ from(HWC2.out.then hc3).trans hc4 (fun x hx=>.inr (by simp at hx;omega)));have hv4:EAt ((w3.setCell ⟨w.heap.size + 1,0,none⟩ (.int .i64 4)).setCell ⟨w.heap.size + 1,4,none⟩ (ptr b3)) (New2 w _) aK [ptr b3]:=((hv3.mono (G:=New2 w w3) (fun x hx=>⟨by have:=hx.1;have:=HS2.out;omega,hx.2⟩)).kept hc4 (fun x hx hn=>by simp at hx;have:=hn.1;omega)).mono (fun x hx=>⟨hx.1,Nat.lt_of_lt_of_le hx.2 hc4.size⟩);have HB4:=zh hb4;have HR4:=zh hr4;have HV4:=zh hv4;clear hc3 hv3 hp3 hb3 hb4 hr4 hc4 hv4 hr3;go_wp2_with fail;clear f0 f4 e0 e4 d1 d2 d3 d5 d6 r0 r1 r2 r3 r4 r5 r6 q0 q1 q2 q3 q4 q5 q6
     generalize (w3.setCell ⟨w.heap.size + 1,0,none⟩ (.int .i64 4)).setCell ⟨w.heap.size + 1,4,none⟩ (ptr b3)=wE at *
     have HRE:=HR4;have HSE:=zh (show SAt wE (New2 w wE) (.ret (hd z ts) aK .nil) [.int .i64 4,.int .i64 (hd z ts),str [],nilp,ptr b3,nils,nils] from⟨_,[],rfl,HV4.out,rfl⟩);obtain⟨wF,hwF,hcF,hbF⟩:=set7 (.int .i64 4) (.int .i64 (hd z ts)) (str []) (nilp) (ptr b3) (nils) (nils) HRE.out;rw [hwF];clear hwF;have g0:=hbF.cell 0 (.int .i64 4) rfl;have g1:=hbF.cell 1 (.int .i64 (hd z ts)) rfl;have g2:=hbF.cell 2 (str []) rfl;have g3:=hbF.cell 3 (nilp) rfl;have g4:=hbF.cell 4 (ptr b3) rfl;have g5:=hbF.cell 5 (nils) rfl;have g6:=hbF.cell 6 (nils) rfl;refine bodyPost_ret (v:=.agg #[(.int .i64 4),(.int .i64 (hd z ts)),(str []),(nilp),(ptr b3),(nils),(nils)]) (by simp [results,Tryz.results111,go_sem,g0,g1,g2,g3,g4,g5,g6]) rfl ?_;rw [HRR.out];have hkF : ∀ x∈[w.heap.size],¬ New2 w wE x:=fun x hx hn=>by simp at hx;have:=hn.1;omega
     exact⟨HCE.out.trans hcF (fun x hx=>.inr (by simp at hx;omega)),_,rfl,⟨_,rfl,rfl,(HSE.out.kept hcF hkF).mono (fun x hx=>⟨by have:=hx.1;omega,Nat.lt_of_lt_of_le hx.2 hcF.size⟩)⟩,HPE.out.kept hcF (fun x hx=>by simp at hx;omega) (by simp;omega) (by simp;omega)⟩
   | false=>
    have HI_return:=zh hk;clear hk;go_wp2_with fail;refine HT.out.mono ?_;rintro _ w2 ⟨rfl,_,_,hw⟩;rw [HI_return.out];have hw':=(hw HI_return.out).symm;subst hw';clear hw;have HT:=zh (take_any [119,114,105,116,101] w1 B bp bt z ts HP1.out);cases hk : see [119,114,105,116,101] ts with
    | true=>
     have HI_write:=zh hk;clear hk;go_wp2_with fail;refine HT.out.mono ?_;rintro _ w2 ⟨rfl,hp2,hc2,_⟩;rw [HI_write.out];rw [skip,HI_write.out,if_pos rfl] at hp2;have HP2:=zh hp2;have HC2:=zh hc2;have HWC2:=zh (HC1.out.then hc2);have HB2:=zh (HB1.out.kept hc2 (by simp;omega));have HR2:=zh (HR1.out.kept hc2 (by simp;omega));have HS2:=zh (show w.heap.size + 2≤w2.heap.size by have:=hc2.size;have:=HB1.out.lt;omega);clear hp2 hc2;have HE:=zh (ex0_any w2 B bp bt z ts.tail HP2.out);cases hx : ex0 z ts.tail with
     | bad en q=>
      have HRR:=zh (show stmt z (bodies z d).1 (bodies z (d + 1)).2 ts = .bad en q by rw [stmt,if_neg (by rw [HI_if.out];simp),if_neg (by rw [HI_while.out];simp),if_neg (by rw [HI_return.out];simp),if_pos HI_write.out];simp only [hx]);rw [hx] at HE;clear hx;go_wp2_with fail;refine HE.out.mono ?_;intro e w9 he;have HEE:=zh he;obtain⟨b9,rfl⟩:=he.thrown;clear he;go_wp2_with fail;refine⟨rfl,?_⟩;rw [HRR.out];exact HEE.out.relay (HWC2.out)
     | ok aK rK=>
      have HRR:=zh (show stmt z (bodies z d).1 (bodies z (d + 1)).2 ts = .ok (.wri (hd z ts) aK .nil) rK by rw [stmt,if_neg (by rw [HI_if.out];simp),if_neg (by rw [HI_while.out];simp),if_neg (by rw [HI_return.out];simp),if_pos HI_write.out];simp only [hx]);rw [hx] at HE;clear hx;go_wp2_with fail;refine HE.out.mono ?_;rintro e w3 ⟨hc3,v3,rfl,hv3,hp3⟩;obtain⟨b3,rfl⟩:=hv3.ptr;have HC3:=zh hc3;have hb3:=HB2.out.kept hc3 (by simp;omega);have f0:=hb3.frozen 0;have f4:=hb3.frozen 4;have e0:=hb3.cell 0 _ rfl;have e4:=hb3.cell 4 _ rfl;have d1:=hb3.cell 1 _ rfl;have d2:=hb3.cell 2 _ rfl;have d3:=hb3.cell 3 _ rfl;have d5:=hb3.cell 5 _ rfl;have d6:=hb3.cell 6 _ rfl;have hr3:=HR2.out.kept hc3 (by simp;omega);have r0:=hr3.cell 0 _ rfl;have r1:=hr3.cell 1 _ rfl;have r2:=hr3.cell 2 _ rfl;have r3:=hr3.cell 3 _ rfl;have r4:=hr3.cell 4 _ rfl;have r5:=hr3.cell 5 _ rfl;have r6:=hr3.cell 6 _ rfl;have q0:=hr3.frozen 0;have q1:=hr3.frozen 1;have q2:=hr3.frozen 2;have q3:=hr3.frozen 3;have q4:=hr3.frozen 4;have q5:=hr3.frozen 5;have q6:=hr3.frozen 6;have hb4:=(hb3.set 0 (.int .i64 5)).set 4 (ptr b3);have hc4:Chg [w.heap.size + 1] w3 ((w3.setCell ⟨w.heap.size + 1,0,none⟩ (.int .i64 5)).setCell ⟨w.heap.size + 1,4,none⟩ (ptr b3)):=(Chg.set1 _ _ _ _).then (Chg.set1 _ _ _ _)
      have hr4:=(HR2.out.kept hc3 (by simp;omega)).kept hc4 (by simp);have HPE:=zh (hp3.kept hc4 (fun x hx=>by simp at hx;omega) (by simp;omega) (by simp;omega));have HCE:=zh (show Chg [bp] w _ from(HWC2.out.then hc3).trans hc4 (fun x hx=>.inr (by simp at hx;omega)));have hv4:EAt ((w3.setCell ⟨w.heap.size + 1,0,none⟩ (.int .i64 5)).setCell ⟨w.heap.size + 1,4,none⟩ (ptr b3)) (New2 w _) aK [ptr b3]:=((hv3.mono (G:=New2 w w3) (fun x hx=>⟨by have:=hx.1;have:=HS2.out;omega,hx.2⟩)).kept hc4 (fun x hx hn=>by simp at hx;have:=hn.1;omega)).mono (fun x hx=>⟨hx.1,Nat.lt_of_lt_of_le hx.2 hc4.size⟩);have HB4:=zh hb4;have HR4:=zh hr4;have HV4:=zh hv4;clear hc3 hv3 hp3 hb3 hb4 hr4 hc4 hv4 hr3;go_wp2_with fail;clear f0 f4 e0 e4 d1 d2 d3 d5 d6 r0 r1 r2 r3 r4 r5 r6 q0 q1 q2 q3 q4 q5 q6
      generalize (w3.setCell ⟨w.heap.size + 1,0,none⟩ (.int .i64 5)).setCell ⟨w.heap.size + 1,4,none⟩ (ptr b3)=wE at *
      have HRE:=HR4;have HSE:=zh (show SAt wE (New2 w wE) (.wri (hd z ts) aK .nil) [.int .i64 5,.int .i64 (hd z ts),str [],nilp,ptr b3,nils,nils] from⟨_,[],rfl,HV4.out,rfl⟩);obtain⟨wF,hwF,hcF,hbF⟩:=set7 (.int .i64 5) (.int .i64 (hd z ts)) (str []) (nilp) (ptr b3) (nils) (nils) HRE.out;rw [hwF];clear hwF;have g0:=hbF.cell 0 (.int .i64 5) rfl;have g1:=hbF.cell 1 (.int .i64 (hd z ts)) rfl;have g2:=hbF.cell 2 (str []) rfl;have g3:=hbF.cell 3 (nilp) rfl;have g4:=hbF.cell 4 (ptr b3) rfl;have g5:=hbF.cell 5 (nils) rfl;have g6:=hbF.cell 6 (nils) rfl;refine bodyPost_ret (v:=.agg #[(.int .i64 5),(.int .i64 (hd z ts)),(str []),(nilp),(ptr b3),(nils),(nils)]) (by simp [results,Tryz.results111,go_sem,g0,g1,g2,g3,g4,g5,g6]) rfl ?_;rw [HRR.out];have hkF : ∀ x∈[w.heap.size],¬ New2 w wE x:=fun x hx hn=>by simp at hx;have:=hn.1;omega
      exact⟨HCE.out.trans hcF (fun x hx=>.inr (by simp at hx;omega)),_,rfl,⟨_,rfl,rfl,(HSE.out.kept hcF hkF).mono (fun x hx=>⟨by have:=hx.1;omega,Nat.lt_of_lt_of_le hx.2 hcF.size⟩)⟩,HPE.out.kept hcF (fun x hx=>by simp at hx;omega) (by simp;omega) (by simp;omega)⟩
    | false=>
     have HI_write:=zh hk;clear hk;go_wp2_with fail;refine HT.out.mono ?_;rintro _ w2 ⟨rfl,_,_,hw⟩;rw [HI_write.out];have hw':=(hw HI_write.out).symm;subst hw';clear hw;have HF:=zh (first_any (hd z ts) w1 B bp (w.heap.size + 1) bt z ts HP1.out HB1.out (by omega) (by omega) (by omega));cases hx : first z (hd z ts) ts with
     | bad en q=>
      have HRR:=zh (show stmt z (bodies z d).1 (bodies z (d + 1)).2 ts = .bad en q by rw [stmt,if_neg (by rw [HI_if.out];simp),if_neg (by rw [HI_while.out];simp),if_neg (by rw [HI_return.out];simp),if_neg (by rw [HI_write.out];simp)];simp only [hx]);rw [hx] at HF;clear hx;go_wp2_with fail;refine HF.out.mono ?_;intro e w9 he;have HEE:=zh he;obtain⟨b9,rfl⟩:=he.thrown;clear he;go_wp2_with fail;refine⟨rfl,?_⟩;rw [HRR.out];exact HEE.out.relayE (HC1.out) (by omega)
     | ok aK rK=>
      have hlE:=first_len hx;have HRR:=zh (show stmt z (bodies z d).1 (bodies z (d + 1)).2 ts = .ok aK rK by rw [stmt,if_neg (by rw [HI_if.out];simp),if_neg (by rw [HI_while.out];simp),if_neg (by rw [HI_return.out];simp),if_neg (by rw [HI_write.out];simp)];simp only [hx]);rw [hx] at HF;clear hx;go_wp2_with fail;refine HF.out.mono ?_;rintro e wE ⟨hcE,rfl,⟨cs,hbE,hsE0⟩,hpE⟩;have hsE:SAt wE (New2 w wE) aK cs:=hsE0.mono (fun x hx=>⟨by have:=hx.1;have:=HB1.out.lt;omega,hx.2⟩);have hrE:=HR1.out.kept hcE (by simp;omega);have HCE:=zh (show Chg [bp] w wE from HC1.out.trans hcE (fun x hx=>by simp at hx;rcases hx with rfl|rfl;exact .inl (by simp);exact .inr (by omega)));have HPE:=zh hpE;clear hcE hpE hsE0;have HBE:=zh hbE;have HSE:=zh hsE;have HRE:=zh hrE;obtain⟨k9,q9,n9,i9,v9,a9,l9,m9,b9,j9,o9,rfl⟩:=hsE.shape hlE;have d0:=HBE.out.cell 0 _ rfl;have d1:=HBE.out.cell 1 _ rfl;have d2:=HBE.out.cell 2 _ rfl;have d3:=HBE.out.cell 3 _ rfl;have d4:=HBE.out.cell 4 _ rfl;have d5:=HBE.out.cell 5 _ rfl;have d6:=HBE.out.cell 6 _ rfl;have e0:=HRE.out.cell 0 _ rfl;have e1:=HRE.out.cell 1 _ rfl;have e2:=HRE.out.cell 2 _ rfl;have e3:=HRE.out.cell 3 _ rfl;have e4:=HRE.out.cell 4 _ rfl;have e5:=HRE.out.cell 5 _ rfl;have e6:=HRE.out.cell 6 _ rfl;have f0:=HRE.out.frozen 0;have f1:=HRE.out.frozen 1;have f2:=HRE.out.frozen 2;have f3:=HRE.out.frozen 3;have f4:=HRE.out.frozen 4;have f5:=HRE.out.frozen 5;have f6:=HRE.out.frozen 6;clear hsE hbE hrE;go_wp2_with fail;obtain⟨wF,hwF,hcF,hbF⟩:=set7 (.int .i64 k9) (.int .i64 q9) (str n9) (.pointer i9) (.pointer v9) (.slice a9 l9 m9) (.slice b9 j9 o9) HRE.out;rw [hwF];clear hwF;have g0:=hbF.cell 0 (.int .i64 k9) rfl;have g1:=hbF.cell 1 (.int .i64 q9) rfl;have g2:=hbF.cell 2 (str n9) rfl;have g3:=hbF.cell 3 (.pointer i9) rfl;have g4:=hbF.cell 4 (.pointer v9) rfl;have g5:=hbF.cell 5 (.slice a9 l9 m9) rfl;have g6:=hbF.cell 6 (.slice b9 j9 o9) rfl;refine bodyPost_ret (v:=.agg #[(.int .i64 k9),(.int .i64 q9),(str n9),(.pointer i9),(.pointer v9),(.slice a9 l9 m9),(.slice b9 j9 o9)]) (by simp [results,Tryz.results111,go_sem,g0,g1,g2,g3,g4,g5,g6]) rfl ?_;rw [HRR.out];have hkF : ∀ x∈[w.heap.size],¬ New2 w wE x:=fun x hx hn=>by simp at hx;have:=hn.1;omega
      exact⟨HCE.out.trans hcF (fun x hx=>.inr (by simp at hx;omega)),_,rfl,⟨_,rfl,rfl,(HSE.out.kept hcF hkF).mono (fun x hx=>⟨by have:=hx.1;omega,Nat.lt_of_lt_of_le hx.2 hcF.size⟩)⟩,HPE.out.kept hcF (fun x hx=>by simp at hx;omega) (by simp;omega) (by simp;omega)⟩
end Go.Proofs.YtechofppmnnomaaGreatDoor
namespace Go.Mq.Tree
open Go Go.RowKit Go.Mq
theorem ex0_eats (z:Nat):Eats (ex0 z):=expr_eats (one_eats z 11) 5
theorem first_mono (z p:Nat):Mono (first z p):=by
 intro ts a r h;rw [first] at h;cases hn : named z (expr z (one z 10) 5) ts with
 | bad e q=>rw [hn] at h;cases h
 | ok e r1=>
  have g1:=named_eats (expr_eats (one_eats z 10) 5) _ _ _ hn;rcases named_shape hn with⟨q,m,n,rfl⟩|⟨q,m,n,i,rfl⟩|⟨q,m,n,l,rfl⟩
  ·simp only [hn] at h
   split at h
   ·cases h
   ·cases hm : must z [58,61] r1 with
    | bad e q=>simp only [hm] at h;cases h
    | ok u r2=>
     have g2:=must_len hm;simp only [hm] at h;cases hx : ex0 z r2 with
     | bad e q=>simp only [hx] at h;cases h
     | ok v r3=>
      have g3:=ex0_eats z _ _ _ hx;simp only [hx] at h;cases h
      omega
  ·simp only [hn] at h
   split at h
   ·cases h
   ·cases hm : must z [58,61] r1 with
    | bad e q=>simp only [hm] at h;cases h
    | ok u r2=>
     have g2:=must_len hm;simp only [hm] at h;cases hx : ex0 z r2 with
     | bad e q=>simp only [hx] at h;cases h
     | ok v r3=>
      have g3:=ex0_eats z _ _ _ hx;simp only [hx] at h;cases h
      omega
  ·simp only [hn] at h
   cases h
   omega
theorem restL_mono {z:Nat} {bd:Ps S} {more:Ps (E × S × S)} (hb:Mono bd) (hm:Mono more):Mono (restL z bd more):=by
 intro ts a r h;rw [restL] at h;cases h1 : ex0 z ts with
 | bad e q=>rw [h1] at h;cases h
 | ok v r1=>
  have g1:=ex0_eats z _ _ _ h1;simp only [h1] at h;cases h2 : must z [116,104,101,110] r1 with
  | bad e q=>simp only [h2] at h;cases h
  | ok u r2=>
   have g2:=must_len h2;simp only [h2] at h;cases h3 : bd r2 with
   | bad e q=>simp only [h3] at h;cases h
   | ok t r3=>
    have g3:=hb _ _ _ h3;simp only [h3] at h;split at h
    ·cases h4 : more r3.tail with
     | bad e q=>simp only [h4] at h;cases h
     | ok x r4=>
      have g4:=hm _ _ _ h4;simp only [h4] at h;cases h
      simp at g4;omega
    ·split at h
     ·cases h4 : bd r3.tail with
      | bad e q=>simp only [h4] at h;cases h
      | ok x r4=>
       have g4:=hb _ _ _ h4;simp only [h4] at h;cases h
       simp at g4;omega
     ·cases h;omega
theorem stmt_mono {z:Nat} {bd:Ps S} {rest:Ps (E × S × S)} (hb:Mono bd) (hr:Mono rest):Mono (stmt z bd rest):=by
 intro ts a r h;have ht : ts.tail.length≤ts.length:=by simp
 rw [stmt] at h;split at h
 ·cases h1 : rest ts.tail with
  | bad e q=>simp only [h1] at h;cases h
  | ok x r1=>
   have g1:=hr _ _ _ h1;simp only [h1] at h;cases h2 : must z [101,110,100] r1 with
   | bad e q=>simp only [h2] at h;cases h
   | ok u r2=>
    have g2:=must_len h2;simp only [h2] at h;cases h;omega
 ·split at h
  ·cases h1 : ex0 z ts.tail with
   | bad e q=>simp only [h1] at h;cases h
   | ok v r1=>
    have g1:=ex0_eats z _ _ _ h1;simp only [h1] at h;cases h2 : must z [100,111] r1 with
    | bad e q=>simp only [h2] at h;cases h
    | ok u r2=>
     have g2:=must_len h2;simp only [h2] at h;cases h3 : bd r2 with
     | bad e q=>simp only [h3] at h;cases h
     | ok t r3=>
      have g3:=hb _ _ _ h3;simp only [h3] at h;cases h4 : must z [101,110,100] r3 with
      | bad e q=>simp only [h4] at h;cases h
      | ok u r4=>
       have g4:=must_len h4;simp only [h4] at h;cases h;omega
  ·split at h
   ·cases h1 : ex0 z ts.tail with
    | bad e q=>simp only [h1] at h;cases h
    | ok v r1=>
     have g1:=ex0_eats z _ _ _ h1;simp only [h1] at h;cases h;omega
   ·split at h
    ·cases h1 : ex0 z ts.tail with
     | bad e q=>simp only [h1] at h;cases h
     | ok v r1=>
      have g1:=ex0_eats z _ _ _ h1;simp only [h1] at h;cases h;omega
    ·exact first_mono z _ _ _ _ h
theorem bodyL_mono {z:Nat} {st:Ps S} (hs:Mono st) : ∀ f l,Mono (bodyL z st f l):=by
 intro f
 induction f with
 | zero=>intro l ts a r h;cases h
 | succ f ih=>
  intro l ts a r h;rw [bodyL] at h;split at h
  ·cases h;exact Nat.le_refl _
  ·cases h1 : st ts with
   | bad e q=>rw [h1] at h;cases h
   | ok s r1=>
    have g1:=hs _ _ _ h1;simp only [h1] at h;cases h2 : must z [59] r1 with
    | bad e q=>simp only [h2] at h;cases h
    | ok u r2=>
     have g2:=must_len h2;simp only [h2] at h;have g3:=ih _ _ _ _ h;omega
theorem bodies_mono (z:Nat) : ∀ d,Mono (bodies z d).1∧Mono (bodies z d).2:=by
 intro d
 induction d with
 | zero=>exact⟨fun ts a r h=>(by cases h),fun ts a r h=>(by cases h)⟩
 | succ d ih=>exact⟨fun ts a r h=>bodyL_mono (stmt_mono ih.1 (restL_mono ih.1 ih.2)) _ _ _ _ _ h,restL_mono ih.1 ih.2⟩
theorem stmt_len {z:Nat} {bd:Ps S} {rest:Ps (E × S × S)} {ts r:List Tok} {s:S} (h : stmt z bd rest ts = .ok s r) : s.len=1:=by
 rw [stmt] at h
 repeat' (split at h)
 all_goals first|(cases h;rfl)|cases h|exact first_len h|(rename_i h2;split at h2;all_goals first|cases h2|(cases h;rfl))
end Go.Mq.Tree
namespace Go.Proofs.YtechofppmnnomaaGreatDoor
open Go Go.RowKit Go.Mq Go.Mq.Tree
set_option maxRecDepth 100000
set_option maxHeartbeats 8000000
theorem infoStmt : (Tryz.prog.info? 168).map (fun i=>(i.zero,i.size,i.bytes))=some (some (.agg #[.int .i64 0,.int .i64 0,.string ⟨#[]⟩,.pointer none,.pointer none,.slice none 0 0,.slice none 0 0]),7,96):=by kernel_rfl
theorem body_of (deep:Nat) (hdp : deep≤10) (st:Nat→Ps S) (hS:StmtOK deep st) (hm : ∀ z,Mono (st z)) (hl : ∀ z ts s r,st z ts = .ok s r→s.len=1) (w:World) (B bp bt z:Nat) (ts:List Tok) (h:Par w B bp bt z ts) :
  Calls Tryz.prog 76 #[ptr bp,.int .i64 deep] w (Ended w B bp bt z (bodyL z (st z) (ts.length + 1) .nil ts) (fun w' s v=>SlAt w' (New w w') s v)):=by
 have HS:=zh hS;have H:=zh h;have hB:=h.laid.le;have hbp:=h.bp_lt;have hbt:=h.bt_lt;have hfew:=h.few;have HM:=zh (hm z);have HL:=zh (hl z);have hdec : decide ((10:Int) < (deep:Int))=false:=by simp;omega
 clear h hS hm hl
 go_enter Tryz.func76,Tryz.ntmps76
 go_wp2_with fail;clear hdec
 go_loopw [5] (fun l wr=>∃ (f:Nat) (acc:S) (cs:List Value) (ts':List Tok),bodyL z (st z) (ts.length + 1) .nil ts=bodyL z (st z) f acc ts'∧ts'.length < f∧acc.len + ts'.length≤600 ∧
   Par wr B bp bt z ts'∧wr.ownsRow 0 168 7 l acc.len cs∧SAt wr (Off w wr l) acc cs∧From w.heap.size l∧Chg [bp] w wr) (fun _ wr=>cntOf wr bp)
 case atStart=>exact⟨ts.length + 1,.nil,[],ts,rfl,by omega,by simpa [S.len] using hfew,H.out,World.ownsRow_nil _ _ _ _,rfl,From.nil _,Chg.refl _ _⟩
 case round=>
  obtain⟨f,acc,cs,ts',hr,hf,hlen,hp,ho,hes,hF,hC⟩:=hrel;have HR:=zh hr;have HP:=zh hp;have HO:=zh ho;have HES:=zh hes;have HF:=zh hF;have HC:=zh hC;obtain⟨sa,sc,hs⟩:=slice_of_owns ho;clear hr hp ho hes hF hC;subst hs;obtain⟨f,rfl⟩ : ∃ f',f=f' + 1:=⟨f - 1,by omega⟩
  have HA:=zh (see_any [101,110,100] wr B bp bt z ts' HP.out);have HB:=zh (see_any [101,108,115,101] wr B bp bt z ts' HP.out);have HD:=zh (see_any [101,108,115,105,102] wr B bp bt z ts' HP.out);have HEND:Hid ((see [101,110,100] ts' || see [101,108,115,101] ts' || see [101,108,115,105,102] ts')=true→Ended w B bp bt z (bodyL z (st z) (ts.length + 1) .nil ts) (fun w' s v=>SlAt w' (New w w') s v) (.returned (.slice sa acc.len sc)) wr):=zh (fun hsee=>by
   rw [HR.out,bodyL,if_pos hsee];refine⟨HC.out,_,rfl,?_,HP.out⟩;obtain⟨a,c,he,hac,hrow⟩:=Row.of_owns HO.out (new_owns HO.out HF.out);cases he
   exact⟨_,_,_,rfl,hac,hrow,(framed_S acc cs).done HES.out⟩)
  cases ha : see [101,110,100] ts' with
  | true=>
   rw [ha] at HA HEND;clear ha;go_wp2_with fail;refine HA.out.mono ?_;rintro _ _ ⟨rfl,hw⟩;have hw:=hw.symm;subst hw;go_wp2_with fail;go_ret
   exact HEND.out (by simp)
  | false=>
   rw [ha] at HA HEND;cases hb : see [101,108,115,101] ts' with
   | true=>
    rw [hb] at HB HEND;clear ha hb;go_wp2_with fail;refine HA.out.mono ?_;rintro _ _ ⟨rfl,hw⟩;have hw:=hw.symm;subst hw;go_wp2_with fail;refine HB.out.mono ?_;rintro _ _ ⟨rfl,hw⟩;have hw:=hw.symm;subst hw;go_wp2_with fail;go_ret
    exact HEND.out (by simp)
   | false=>
    rw [hb] at HB HEND;cases hd' : see [101,108,115,105,102] ts' with
    | true=>
     rw [hd'] at HD HEND;clear ha hb hd';go_wp2_with fail;refine HA.out.mono ?_;rintro _ _ ⟨rfl,hw⟩;have hw:=hw.symm;subst hw;go_wp2_with fail;refine HB.out.mono ?_;rintro _ _ ⟨rfl,hw⟩;have hw:=hw.symm;subst hw;go_wp2_with fail;refine HD.out.mono ?_;rintro _ _ ⟨rfl,hw⟩;have hw:=hw.symm;subst hw;go_wp2_with fail;go_ret
     exact HEND.out (by simp)
    | false=>
     rw [hd'] at HD;have HRR:Hid (∀ q,st z ts'=q→bodyL z (st z) (ts.length + 1) .nil ts=match q with | .bad e p=>.bad e p | .ok s r=>(match must z [59] r with | .bad e p=>.bad e p | .ok _ r2=>bodyL z (st z) f (acc.app s) r2)):=zh (fun q hq=>by rw [HR.out,bodyL,ha,hb,hd',if_neg (by simp),hq];cases q <;> rfl);clear ha hb hd' HEND;have HX:=zh (HS.out wr B bp bt z ts' HP.out);cases hx : st z ts' with
     | bad en p=>
      have HE:=zh (HRR.out _ hx);rw [hx] at HX;clear hx;go_wp2_with fail;refine HA.out.mono ?_;rintro _ _ ⟨rfl,hw⟩;have hw:=hw.symm;subst hw;go_wp2_with fail;refine HB.out.mono ?_;rintro _ _ ⟨rfl,hw⟩;have hw:=hw.symm;subst hw;go_wp2_with fail;refine HD.out.mono ?_;rintro _ _ ⟨rfl,hw⟩;have hw:=hw.symm;subst hw;go_wp2_with fail;refine HX.out.mono ?_;intro e w2 he;have HEE:=zh he;obtain⟨b,rfl⟩:=he.thrown;clear he;go_wp2_with fail;refine⟨rfl,?_⟩;rw [HE.out];exact HEE.out.relay HC.out
     | ok s r=>
      have hxl:=HM.out _ _ _ hx;have hs1:=HL.out _ _ _ hx;have HE:=zh (HRR.out _ hx);rw [hx] at HX;clear hx;go_wp2_with fail;refine HA.out.mono ?_;rintro _ _ ⟨rfl,hw⟩;have hw:=hw.symm;subst hw;go_wp2_with fail;refine HB.out.mono ?_;rintro _ _ ⟨rfl,hw⟩;have hw:=hw.symm;subst hw;go_wp2_with fail;refine HD.out.mono ?_;rintro _ _ ⟨rfl,hw⟩;have hw:=hw.symm;subst hw;go_wp2_with fail;refine HX.out.mono ?_;rintro _ w4 ⟨hc4,_,rfl,⟨cx,rfl,hcl,hsx⟩,hp4⟩;have HSX:=zh hsx;obtain⟨k9,q9,n9,i9,v9,a9,l9,m9,b9,j9,o9,rfl⟩:=hsx.shape hs1;have HC4:=zh hc4;have HP4:=zh hp4;have ho4:=owns_kept HO.out hc4 (fun g hg hm=>by have:=HF.out g hg;simp at hm;omega);have ho5:=owns_kept ho4 ((Chg.refl [] w4).alloc (.cells #[.int .i64 k9,.int .i64 q9,str n9,.pointer i9,.pointer v9,.slice a9 l9 m9,.slice b9 j9 o9] 168)) (by simp);have HO4:=zh ho5;have hal : acc.len≤600:=by omega
      clear hc4 hp4 ho4 ho5 hcl hsx;go_wp2_with (at_builtin;go_must (refine wpL_append rfl _ _ 30 rfl 168 _ 7 96 infoStmt Tryz.underlying30 rfl (by decide) _ _ _ rfl HO4.out ⟨w4.heap.size,0,none⟩ 1 1 [.int .i64 k9,.int .i64 q9,str n9,.pointer i9,.pointer v9,.slice a9 l9 m9,.slice b9 j9 o9] rfl rfl (cells_new _ _ _) (by simp [Value.oneCell']) ?_ ?_ ?_))
      ·omega
      ·unfold maxLen;omega
      ·intro v' w' hown' hch' hmv'
       have HO':=zh hown';clear hown';obtain⟨hp5,hc5,hf5⟩:=grow_step hB hbp hbt HC.out HC4.out HP4.out HF.out hch' hmv';have hlw : ∀ g∈blk _,g < wr.heap.size:=fun g hg=>owns_lt HO.out g hg
       have hes4:=(framed_S acc cs).call HES.out HC4.out hbp;have hx4:=(framed_S s _).fresh HSX.out hlw HC.out.size;have hes5:=(framed_S acc cs).app hes4 hch' hmv';have hx5:=(framed_S s _).app hx4 hch' hmv';have HES5:=zh (SAt.append hx5 hes5);have HP5:=zh hp5;have HC5:=zh hc5;have HF5:=zh hf5;have hal5 : (acc.app s).len=acc.len + 1:=by rw [S.app_len,hs1]
       have HMU:=zh (must_any [59] w' B bp bt z r hp5);clear hch' hmv' hp5 hc5 hf5 hes4 hx4 hes5 hx5 hlw;cases hmu : must z [59] r with
       | bad en p=>
        have HEB:=zh (show bodyL z (st z) (ts.length + 1) .nil ts = .bad en p by rw [HE.out];simp only [hmu]);rw [hmu] at HMU;clear hmu;go_wp2_with fail;refine HMU.out.mono ?_;intro e w6 he;have HEE:=zh he;obtain⟨b,rfl⟩:=he.thrown;clear he;go_wp2_with fail;refine⟨rfl,?_⟩;rw [HEB.out];exact HEE.out.relay HC5.out
       | ok u r2=>
        have hml:=must_len hmu;have HEO:=zh (show bodyL z (st z) (ts.length + 1) .nil ts=bodyL z (st z) f (acc.app s) r2 by rw [HE.out];simp only [hmu]);rw [hmu] at HMU;clear hmu;go_wp2_with fail;refine HMU.out.mono ?_;rintro _ w6 ⟨hc6,_,rfl,rfl,hp6⟩;have HC6:=zh hc6;have HP6:=zh hp6;clear hc6 hp6;go_wp2_with fail;have ho6:=owns_kept HO'.out HC6.out (fun g hg hm=>by have:=HF5.out g hg;simp at hm;omega);refine⟨⟨f,acc.app s,_,r2,HEO.out,by omega,by rw [hal5];omega,HP6.out,by rw [hal5];exact ho6,(framed_S _ _).call HES5.out HC6.out hbp,HF5.out,HC5.out.then HC6.out⟩,?_⟩;rw [HP6.out.cnt,HP.out.cnt];omega
theorem body_deep (w:World) (B bp bt z:Nat) (ts:List Tok) (h:Par w B bp bt z ts) :
  Calls Tryz.prog 76 #[ptr bp,.int .i64 (11:Nat)] w (Ended w B bp bt z (.bad 4 (hd z ts):R S) (fun w' s v=>SlAt w' (New w w') s v)):=by
 have HF:=zh (fail_any 4 w B bp bt z ts h);clear h
 go_enter Tryz.func76,Tryz.ntmps76
 go_wp2_with fail;refine HF.out.mono ?_;intro e w6 he;have HEE:=zh he;obtain⟨b,rfl⟩:=he.thrown;clear he;go_wp2_with fail;refine⟨rfl,?_⟩;exact HEE.out.relay (Chg.refl _ _)
theorem bodies_any : ∀ d deep,deep + d=11→BodyOK deep d∧(0 < d→RestOK deep d):=by
 intro d
 induction d with
 | zero=>
  intro deep h;obtain rfl : deep=11:=by omega
  exact⟨fun w B bp bt z ts hp=>body_deep w B bp bt z ts hp,fun h=>by omega⟩
 | succ d ih=>
  intro deep h;have hB:=(ih (deep + 1) (by omega)).1;have hR:RestOK (deep + 1) d∨d=0:=by
   rcases Nat.eq_zero_or_pos d with h0|h0
   ·exact .inr h0
   ·exact .inl ((ih (deep + 1) (by omega)).2 h0)
  have hRR:=rest_step deep d (by omega) hB hR;refine⟨?_,fun _=>hRR⟩;have hS:=stmt_step deep d (by omega) hB hRR;exact fun w B bp bt z ts hp=>body_of deep (by omega) _ hS (fun z=>stmt_mono (bodies_mono z d).1 (bodies_mono z (d + 1)).2) (fun z ts s r hx=>stmt_len hx) w B bp bt z ts hp
theorem body0_any (w:World) (B bp bt z:Nat) (ts:List Tok) (h:Par w B bp bt z ts) :
  Calls Tryz.prog 76 #[ptr bp,.int .i64 0] w (Ended w B bp bt z (body0 z ts) (fun w' s v=>SlAt w' (New w w') s v)):=
 (bodies_any 11 0 rfl).1 w B bp bt z ts h
end Go.Proofs.YtechofppmnnomaaGreatDoor
namespace Go.Proofs.YtechofppmnnomaaGreatDoor
open Go Go.RowKit Go.Mq Go.Mq.Tree
set_option maxRecDepth 100000
set_option maxHeartbeats 8000000
theorem infoGlob : (Tryz.prog.info? 68).map (fun i=>(i.zero,i.size,i.bytes))=some (some (.agg #[.string ⟨#[]⟩,.int .i64 0,.int .i64 0,.bool false]),4,40):=by kernel_rfl
theorem vars_any (w:World) (B bp bt z:Nat) (ts:List Tok) (h:Par w B bp bt z ts) :
  Calls Tryz.prog 73 #[ptr bp] w (Ended w B bp bt z (varsL z 11 [] ts) (fun w' l v=>GlobsAt w' (New w w') l v)):=by
 have H:=zh h;have hB:=h.laid.le;have hbp:=h.bp_lt;have hbt:=h.bt_lt;clear h
 go_enter Tryz.func73,Tryz.ntmps73
 go_wp2_with fail
 go_loopw [3] (fun l wr=>∃ (f:Nat) (acc:List Glob) (ts':List Tok),varsL z 11 [] ts=varsL z f acc ts'∧f + acc.length=11∧acc.length≤10 ∧
   Par wr B bp bt z ts'∧wr.ownsRow 0 68 4 l acc.length (acc.flatMap Glob.cells)∧From w.heap.size l∧Chg [bp] w wr) (fun l _=>11 - lenOf l)
 case atStart=>exact⟨11,[],ts,rfl,rfl,Nat.zero_le _,H.out,World.ownsRow_nil _ _ _ _,From.nil _,Chg.refl _ _⟩
 case round=>
  obtain⟨f,acc,ts',hr,hf,ha,hp,ho,hF,hC⟩:=hrel;have HR:=zh hr;have HP:=zh hp;have HO:=zh ho;have HF:=zh hF;have HC:=zh hC;obtain⟨sa,sc,hs⟩:=slice_of_owns ho;have hsz:=hC.size;clear hr hp ho hF hC;subst hs;obtain⟨f,rfl⟩ : ∃ f',f=f' + 1:=⟨f - 1,by omega⟩
  have HT:=zh (take_any [118,97,114] wr B bp bt z ts' HP.out);cases hk : see [118,97,114] ts' with
  | false=>
   have HRR:=zh (show varsL z 11 [] ts = .ok acc ts' by rw [HR.out,varsL,if_neg (by rw [hk];simp)]);have HI:=zh hk;clear hk;go_wp2_with fail;refine HT.out.mono ?_;rintro _ w1 ⟨rfl,_,_,hw⟩;rw [HI.out];have hw':=(hw HI.out).symm;subst hw';clear hw;go_wp2_with fail;go_ret
   rw [HRR.out];obtain⟨a,c,he,hac,hrow⟩:=Row.of_owns HO.out (new_owns HO.out HF.out);cases he
   exact⟨HC.out,_,rfl,⟨_,_,rfl,hac,hrow⟩,HP.out⟩
  | true=>
   obtain⟨t1,ht1⟩ : ∃ t1,t1=ts'.tail:=⟨_,rfl⟩
   have HI:=zh hk;cases he : decide (acc.length=10) with
   | true=>
    have he1 : ((acc.length:Int) == 10)=true:=by have:=of_decide_eq_true he;simp [this]
    have HRR:=zh (show varsL z 11 [] ts = .bad 4 (hd z t1) by rw [HR.out,varsL,if_pos hk,if_pos (of_decide_eq_true he),ht1]);clear he hk;go_wp2_with fail;refine HT.out.mono ?_;rintro _ w1 ⟨rfl,hp1,hc1,_⟩;rw [HI.out];rw [skip,HI.out,if_pos rfl,← ht1] at hp1;have HC1:=zh hc1;have HP1:=zh hp1;clear hp1 hc1;go_wp2_with fail;refine(fail_any 4 _ B bp bt z t1 HP1.out).mono ?_;intro e w2 he;have HE:=zh he;obtain⟨b,rfl⟩:=he.thrown;clear he;go_wp2_with fail;refine⟨rfl,?_⟩;rw [HRR.out];exact HE.out.relay (HC.out.then HC1.out)
   | false=>
    have he1 : ((acc.length:Int) == 10)=false:=by have:=of_decide_eq_false he;simp;omega
    have hne:=of_decide_eq_false he;have HG:Hid (∀ q,glob z t1=q→varsL z 11 [] ts=match q with | .bad e p=>.bad e p | .ok g r=>varsL z f (acc ++ [g]) r):=zh (fun q hq=>by rw [HR.out,varsL,if_pos hk,if_neg hne,← ht1,hq];cases q <;> rfl);clear he hk;go_wp2_with fail;refine HT.out.mono ?_;rintro _ w1 ⟨rfl,hp1,hc1,_⟩;rw [HI.out];rw [skip,HI.out,if_pos rfl,← ht1] at hp1;obtain⟨off,c,nn,c0,c2⟩:=par_at hp1;have hG : wr.heap.size≤w1.heap.size:=hc1.size;have hgp : w1.heap.size≠bp:=by omega
    have hgt : w1.heap.size≠bt:=by omega
    obtain⟨w2,hw2⟩ : ∃ w2,w2=w1.alloc (.cells #[str [],.int .i64 (hd z t1),.int .i64 0,.bool false] 68):=⟨_,rfl⟩
    have HC2:Hid (Chg [bp] wr w2):=zh (by rw [hw2];exact hc1.alloc _);have HP2:Hid (Par w2 B bp bt z t1):=zh (by rw [hw2];exact hp1.kept ((Chg.refl [] w1).alloc _) (by simp) (by simp) (by simp));have HB2:Hid (Blk w2 w1.heap.size #[str [],.int .i64 (hd z t1),.int .i64 0,.bool false] 68):=zh (by rw [hw2];exact Blk.new _ _ _);have HN:=zh (name_any w2 B bp bt z t1 HP2.out);clear hp1 hc1 ht1;cases hx : name z t1 with
    | bad en q=>
     have HRR:=zh (show varsL z 11 [] ts = .bad en q by rw [HG.out _ (show glob z t1 = .bad en q by rw [glob];simp only [hx])]);rw [hx] at HN;clear hx;go_wp2_with fail
     try rw [← hw2]
     refine HN.out.mono ?_;intro e w9 he;have HEE:=zh he;obtain⟨b9,rfl⟩:=he.thrown;clear he;go_wp2_with fail;refine⟨rfl,?_⟩;rw [HRR.out];exact HEE.out.relay (HC.out.then HC2.out)
    | ok aK rK=>
     obtain⟨n,rfl⟩ : ∃ n,n=aK:=⟨aK,rfl⟩
     obtain⟨r1,rfl⟩ : ∃ r1,r1=rK:=⟨rK,rfl⟩
     have HX1:=zh hx;rw [hx] at HN;clear hx;go_wp2_with fail
     try rw [← hw2]
     refine HN.out.mono ?_;rintro _ w3 ⟨hc3,_,rfl,rfl,hp3⟩;have hb3:=HB2.out.kept hc3 (by simp;omega);have f0:=hb3.frozen 0;have e0:=hb3.cell 0 _ rfl;obtain⟨w3b,hw3⟩ : ∃ w3b,w3b=w3.setCell ⟨w1.heap.size,0,none⟩ (str n):=⟨_,rfl⟩
     have HB3:Hid (Blk w3b w1.heap.size #[str n,.int .i64 (hd z t1),.int .i64 0,.bool false] 68):=zh (by rw [hw3];simpa using hb3.set 0 (str n));have HP3:Hid (Par w3b B bp bt z r1):=zh (by rw [hw3];exact hp3.kept (Chg.set1 w3 w1.heap.size 0 (str n)) (fun x hx=>by simp at hx;omega) (by simp;omega) (by simp;omega));have HC3:Hid (Chg [bp] wr w3b):=zh (by rw [hw3];exact(HC2.out.then hc3).trans (Chg.set1 w3 w1.heap.size 0 (str n)) (fun x hx=>.inr (by simp at hx;omega)));have HTS:=zh (take_any [42] w3b B bp bt z r1 HP3.out);clear hb3 hc3 hp3;go_wp2_with fail;rw [← hw3];clear f0 e0 hw3;refine HTS.out.mono ?_;rintro _ w4 ⟨rfl,hp4,hc4,_⟩;have hb4:=HB3.out.kept hc4 (by simp;omega);have f3:=hb4.frozen 3;have e3:=hb4.cell 3 _ rfl;obtain⟨w4b,hw4⟩ : ∃ w4b,w4b=w4.setCell ⟨w1.heap.size,3,none⟩ (.bool (see [42] r1)):=⟨_,rfl⟩
     have HB4a:Hid (Blk w4b w1.heap.size #[str n,.int .i64 (hd z t1),.int .i64 0,.bool (see [42] r1)] 68):=zh (by rw [hw4];simpa using hb4.set 3 (.bool (see [42] r1)));have HP4a:Hid (Par w4b B bp bt z (skip [42] r1)):=zh (by rw [hw4];exact hp4.kept (Chg.set1 w4 w1.heap.size 3 (.bool (see [42] r1))) (fun x hx=>by simp at hx;omega) (by simp;omega) (by simp;omega));have HC4a:Hid (Chg [bp] wr w4b):=zh (by rw [hw4];exact(HC3.out.then hc4).trans (Chg.set1 w4 w1.heap.size 3 (.bool (see [42] r1))) (fun x hx=>.inr (by simp at hx;omega)));have HMC:=zh (must_any [58] w4b B bp bt z (skip [42] r1) HP4a.out);clear hb4 hc4 hp4;cases hx : must z [58] (skip [42] r1) with
     | bad en q=>
      have HRR:=zh (show varsL z 11 [] ts = .bad en q by rw [HG.out _ (show glob z t1 = .bad en q by rw [glob];simp only [HX1.out,hx])]);rw [hx] at HMC;clear hx;go_wp2_with fail;rw [← hw4];refine HMC.out.mono ?_;intro e w9 he;have HEE:=zh he;obtain⟨b9,rfl⟩:=he.thrown;clear he;go_wp2_with fail;refine⟨rfl,?_⟩;rw [HRR.out];exact HEE.out.relay (HC.out.then HC4a.out)
     | ok aK rK=>
      obtain⟨r2,rfl⟩ : ∃ r2,r2=rK:=⟨rK,rfl⟩
      have HX2:=zh hx;rw [hx] at HMC;clear hx;go_wp2_with fail;rw [← hw4];clear f3 e3 hw4;refine HMC.out.mono ?_;rintro _ w5 ⟨hc5,_,rfl,rfl,hp5⟩;have HB4:=zh (HB4a.out.kept hc5 (by simp;omega));have HC4:=zh (HC4a.out.then hc5);have HP4:=zh hp5;clear hc5 hp5;have HT5:=zh (take_any [97,114,114,97,121] w5 B bp bt z r2 HP4.out);cases hk : see [97,114,114,97,121] r2 with
      | true=>
       have HI5:=zh hk;clear hk;go_wp2_with fail;refine HT5.out.mono ?_;rintro _ w5 ⟨rfl,hp5,hc5,_⟩;rw [HI5.out];rw [skip,HI5.out,if_pos rfl] at hp5;have HC5:=zh (HC4.out.then hc5);have HP5:=zh hp5;have HB5:=zh (HB4.out.kept hc5 (by simp;omega));clear hp5 hc5;have HN:=zh (number_any 30 w5 B bp bt z r2.tail HP5.out);cases hx : number z 30 r2.tail with
       | bad en q=>
        have HRR:=zh (show varsL z 11 [] ts = .bad en q by rw [HG.out _ (show glob z t1 = .bad en q by rw [glob];simp only [HX1.out,HX2.out,kindOf,HI5.out,if_true,hx])]);rw [hx] at HN;clear hx;go_wp2_with fail;refine HN.out.mono ?_;intro e w9 he;have HEE:=zh he;obtain⟨b9,rfl⟩:=he.thrown;clear he;go_wp2_with fail;refine⟨rfl,?_⟩;rw [HRR.out];exact HEE.out.relay (HC.out.then HC5.out)
       | ok aK rK=>
        obtain⟨m,rfl⟩ : ∃ m,m=aK:=⟨aK,rfl⟩
        obtain⟨r3,rfl⟩ : ∃ r3,r3=rK:=⟨rK,rfl⟩
        have HXN:=zh hx;rw [hx] at HN;clear hx;have hb5:=HB5.out;cases hz : decide (m=0) with
        | true=>
         have hz1 : (m == 0)=true:=by have:=of_decide_eq_true hz;simp [this]
         have HRR:=zh (HG.out _ (show glob z t1 = .bad 2 (hd z r3) by rw [glob];simp only [HX1.out,HX2.out,kindOf,HI5.out,if_true,HXN.out,of_decide_eq_true hz]));clear hz;go_wp2_with fail;refine HN.out.mono ?_;rintro _ w6 ⟨hc6,_,rfl,rfl,hp6⟩;have hb6:=hb5.kept hc6 (by simp;omega);have f2:=hb6.frozen 2;have e2:=hb6.cell 2 _ rfl;have HP6:=zh (hp6.kept (Chg.set1 w6 w1.heap.size 2 (.int .i64 m)) (fun x hx=>by simp at hx;omega) (by simp;omega) (by simp;omega));have HC6:=zh ((HC5.out.then hc6).trans (Chg.set1 w6 w1.heap.size 2 (.int .i64 m)) (fun x hx=>.inr (by simp at hx;omega)));clear hb5 hb6 hc6 hp6;go_wp2_with fail;refine(fail_any 2 _ B bp bt z r3 HP6.out).mono ?_;intro e w9 he;have HEE:=zh he;obtain⟨b9,rfl⟩:=he.thrown;clear he;go_wp2_with fail;refine⟨rfl,?_⟩;rw [HRR.out];exact HEE.out.relay (HC.out.then HC6.out)
        | false=>
         have hz1 : (m == 0)=false:=by have:=of_decide_eq_false hz;simp [this]
         have HK3:=zh (show kindOf z r2 = .ok m r3 by simp only [kindOf,HI5.out,if_true,HXN.out,if_neg (of_decide_eq_false hz)]);clear hz;go_wp2_with fail;refine HN.out.mono ?_;rintro _ w6 ⟨hc6,_,rfl,rfl,hp6⟩;have hb6:=hb5.kept hc6 (by simp;omega);have f2:=hb6.frozen 2;have e2:=hb6.cell 2 _ rfl;have HB6:Hid (Blk (w6.setCell ⟨w1.heap.size,2,none⟩ (.int .i64 m)) w1.heap.size #[str n,.int .i64 (hd z t1),.int .i64 m,.bool (see [42] r1)] 68):=zh (by simpa using hb6.set 2 (.int .i64 m));have HP6:=zh (hp6.kept (Chg.set1 w6 w1.heap.size 2 (.int .i64 m)) (fun x hx=>by simp at hx;omega) (by simp;omega) (by simp;omega));have HC6:=zh ((HC5.out.then hc6).trans (Chg.set1 w6 w1.heap.size 2 (.int .i64 m)) (fun x hx=>.inr (by simp at hx;omega)));clear hb5 hb6 hc6 hp6;go_wp2_with fail;have HMU4:=zh (must_any [59] _ B bp bt z r3 HP6.out);cases hx : must z [59] r3 with
         | bad en q=>
          have HRR:=zh (show varsL z 11 [] ts = .bad en q by rw [HG.out _ (show glob z t1 = .bad en q by rw [glob];simp only [HX1.out,HX2.out,HK3.out,hx])]);rw [hx] at HMU4;clear hx;go_wp2_with fail;refine HMU4.out.mono ?_;intro e w9 he;have HEE:=zh he;obtain⟨b9,rfl⟩:=he.thrown;clear he;go_wp2_with fail;refine⟨rfl,?_⟩;rw [HRR.out];exact HEE.out.relay (HC.out.then HC6.out)
         | ok aK rK=>
          have HRR:=zh (HG.out _ (show glob z t1 = .ok ⟨n,hd z t1,m,see [42] r1⟩ rK by rw [glob];simp only [HX1.out,HX2.out,HK3.out,hx]));rw [hx] at HMU4;clear hx;go_wp2_with fail;refine HMU4.out.mono ?_;rintro _ w7 ⟨hc7,_,rfl,rfl,hp7⟩;have hb7:=HB6.out.kept hc7 (by simp;omega);have d0:=hb7.cell 0 _ rfl;have d1:=hb7.cell 1 _ rfl;have d2:=hb7.cell 2 _ rfl;have d3:=hb7.cell 3 _ rfl;have HC7:=zh (HC6.out.then hc7);have HP7:=zh hp7;have ho7:=owns_kept HO.out HC7.out (fun g hg hm=>by have:=HF.out g hg;simp at hm;omega);have HO7:=zh (owns_kept ho7 ((Chg.refl [] w7).alloc (.cells #[str n,.int .i64 (hd z t1),.int .i64 m,.bool (see [42] r1)] 68)) (by simp));clear hc7 hp7 ho7 hb7;go_wp2_with (at_builtin;go_must (refine wpL_append rfl _ _ 28 rfl 68 _ 4 40 infoGlob Tryz.underlying28 rfl (by decide) _ _ _ rfl HO7.out ⟨w7.heap.size,0,none⟩ 1 1 [str n,.int .i64 (hd z t1),.int .i64 m,.bool (see [42] r1)] rfl rfl (cells_new _ _ _) (by simp [Value.oneCell']) ?_ ?_ ?_))
          ·omega
          ·unfold maxLen;omega
          ·intro v' w' hown' hch' hmv'
           have HO':=zh hown';clear hown';obtain⟨hp8,hc8,hf8⟩:=grow_step hB hbp hbt HC.out HC7.out HP7.out HF.out hch' hmv';have HP8:=zh hp8;have HC8:=zh hc8;have HF8:=zh hf8;clear hch' hmv' hp8 hc8 hf8;go_wp2_with fail;have hl8 : lenOf v'=acc.length + 1:=lenOf_owns HO'.out;refine⟨⟨f,acc ++ [⟨n,hd z t1,m,see [42] r1⟩],rK,HRR.out,by simp;omega,by simp;omega,HP8.out,by simpa [Glob.cells] using HO'.out,HF8.out,HC8.out⟩,?_⟩;rw [hl8];simp only [lenOf];omega
      | false=>
       have HI5:=zh hk;clear hk;go_wp2_with fail;refine HT5.out.mono ?_;rintro _ w5 ⟨rfl,_,_,hw⟩;rw [HI5.out];have hw':=(hw HI5.out).symm;subst hw';clear hw;have HMI:=zh (must_any [105,110,116] _ B bp bt z r2 HP4.out);cases hx : must z [105,110,116] r2 with
       | bad en q=>
        have HRR:=zh (show varsL z 11 [] ts = .bad en q by rw [HG.out _ (show glob z t1 = .bad en q by rw [glob];simp only [HX1.out,HX2.out,kindOf,HI5.out,Bool.false_eq_true,if_false,hx])]);rw [hx] at HMI;clear hx;go_wp2_with fail;refine HMI.out.mono ?_;intro e w9 he;have HEE:=zh he;obtain⟨b9,rfl⟩:=he.thrown;clear he;go_wp2_with fail;refine⟨rfl,?_⟩;rw [HRR.out];exact HEE.out.relay (HC.out.then HC4.out)
       | ok aK rK=>
        obtain⟨r3,rfl⟩ : ∃ r3,r3=rK:=⟨rK,rfl⟩
        have HK3:=zh (show kindOf z r2 = .ok 0 r3 by simp only [kindOf,HI5.out,Bool.false_eq_true,if_false,hx]);rw [hx] at HMI;clear hx;go_wp2_with fail;refine HMI.out.mono ?_;rintro _ w6 ⟨hc6,_,rfl,rfl,hp6⟩;have HB6:=zh (HB4.out.kept hc6 (by simp;omega));have HC6:=zh (HC4.out.then hc6);have HP6:=zh hp6;clear hc6 hp6;have HMU4:=zh (must_any [59] w6 B bp bt z r3 HP6.out);cases hx : must z [59] r3 with
        | bad en q=>
         have HRR:=zh (show varsL z 11 [] ts = .bad en q by rw [HG.out _ (show glob z t1 = .bad en q by rw [glob];simp only [HX1.out,HX2.out,HK3.out,hx])]);rw [hx] at HMU4;clear hx;go_wp2_with fail;refine HMU4.out.mono ?_;intro e w9 he;have HEE:=zh he;obtain⟨b9,rfl⟩:=he.thrown;clear he;go_wp2_with fail;refine⟨rfl,?_⟩;rw [HRR.out];exact HEE.out.relay (HC.out.then HC6.out)
        | ok aK rK=>
         have HRR:=zh (HG.out _ (show glob z t1 = .ok ⟨n,hd z t1,0,see [42] r1⟩ rK by rw [glob];simp only [HX1.out,HX2.out,HK3.out,hx]));rw [hx] at HMU4;clear hx;go_wp2_with fail;refine HMU4.out.mono ?_;rintro _ w7 ⟨hc7,_,rfl,rfl,hp7⟩;have hb7:=HB6.out.kept hc7 (by simp;omega);have d0:=hb7.cell 0 _ rfl;have d1:=hb7.cell 1 _ rfl;have d2:=hb7.cell 2 _ rfl;have d3:=hb7.cell 3 _ rfl;have HC7:=zh (HC6.out.then hc7);have HP7:=zh hp7;have ho7:=owns_kept HO.out HC7.out (fun g hg hm=>by have:=HF.out g hg;simp at hm;omega);have HO7:=zh (owns_kept ho7 ((Chg.refl [] w7).alloc (.cells #[str n,.int .i64 (hd z t1),.int .i64 0,.bool (see [42] r1)] 68)) (by simp));clear hc7 hp7 ho7 hb7;go_wp2_with (at_builtin;go_must (refine wpL_append rfl _ _ 28 rfl 68 _ 4 40 infoGlob Tryz.underlying28 rfl (by decide) _ _ _ rfl HO7.out ⟨w7.heap.size,0,none⟩ 1 1 [str n,.int .i64 (hd z t1),.int .i64 0,.bool (see [42] r1)] rfl rfl (cells_new _ _ _) (by simp [Value.oneCell']) ?_ ?_ ?_))
         ·omega
         ·unfold maxLen;omega
         ·intro v' w' hown' hch' hmv'
          have HO':=zh hown';clear hown';obtain⟨hp8,hc8,hf8⟩:=grow_step hB hbp hbt HC.out HC7.out HP7.out HF.out hch' hmv';have HP8:=zh hp8;have HC8:=zh hc8;have HF8:=zh hf8;clear hch' hmv' hp8 hc8 hf8;go_wp2_with fail;have hl8 : lenOf v'=acc.length + 1:=lenOf_owns HO'.out;refine⟨⟨f,acc ++ [⟨n,hd z t1,0,see [42] r1⟩],rK,HRR.out,by simp;omega,by simp;omega,HP8.out,by simpa [Glob.cells] using HO'.out,HF8.out,HC8.out⟩,?_⟩;rw [hl8];simp only [lenOf];omega
end Go.Proofs.YtechofppmnnomaaGreatDoor
