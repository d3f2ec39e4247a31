/- Some texts in one. -/
import Derived.Shelf.Strings.Prefix
import Derived.Test.YtojkkgghndeimaaGreatDoorF1
import Derived.Test.YtojkkgghndeimaaGreatDoorF7
import Derived.Test.YtojkkgghndeimaaGreatDoorF8
namespace Go.Mq.Tree
open Go Go.RowKit Go.Mq
theorem EndedS.relayN {α β:Type} {w w1 w2:World} {B bp bs' bx bt z en p:Nat} {V:World→α→Prop} {V':World→β→Prop} {e:Ending} (h:EndedS w1 B bp bx bt z (.bad en p:R α) V e w2) (hc:Chg [bp,bs'] w w1) (hx : w.heap.size≤bx):EndedS w B bp bs' bt z (.bad en p:R β) V' e w2:=by
 obtain ⟨hc2,b,he,hb,hB⟩:=h
 exact ⟨hc.trans hc2 (fun x hm=>by simp at hm; rcases hm with rfl | rfl; exact .inl (by simp); exact .inr hx),b,he,Nat.le_trans hc.size hb,hB⟩
theorem bodies_rest (z d:Nat) (ts:List Tok) : (bodies z (d + 1)).2 ts=restL z (bodies z d).1 (bodies z d).2 ts:=rfl
end Go.Mq.Tree
namespace Go.Proofs.YtojkkgghndeimaaGreatDoor
open Go Go.RowKit Go.Mq Go.Mq.Tree
set_option maxRecDepth 100000
set_option maxHeartbeats 8000000
def BodyOK (deep d:Nat):Prop:=∀ (w:World) (B bp bt z:Nat) (ts:List Tok),Par w B bp bt z ts→Calls Tryz.prog 106 #[ptr bp,.int .i64 deep] w (Ended w B bp bt z ((bodies z d).1 ts) (fun w' s v=>SlAt w' (New w w') s v))
def RestOK (deep d:Nat):Prop:=∀ (p:Nat) (w:World) (B bp bs' bt z:Nat) (ts:List Tok),Par w B bp bt z ts→Blk w bs' (sCells p) 138→B≤bs'→bs'≠bp→bs'≠bt →
  Calls Tryz.prog 196 #[ptr bp,ptr bs',.int .i64 deep] w (EndedS w B bp bs' bt z ((bodies z d).2 ts) (fun w' x=>SBlk w' (New w w') bs' (.ifs p x.1 x.2.1 x.2.2 .nil)))
theorem body_next {deep d:Nat} (h:BodyOK (deep + 1) d) : ∀ (w:World) (B bp bt z:Nat) (ts:List Tok),Par w B bp bt z ts→Calls Tryz.prog 106 #[ptr bp,.int .i64 ((deep:Int) + 1)] w (Ended w B bp bt z ((bodies z d).1 ts) (fun w' s v=>SlAt w' (New w w') s v)):=fun w B bp bt z ts hp=>by
 have:=h w B bp bt z ts hp
 simpa using this
theorem rest_next {deep d:Nat} (h:RestOK (deep + 1) d) : ∀ (p:Nat) (w:World) (B bp bs' bt z:Nat) (ts:List Tok),Par w B bp bt z ts→Blk w bs' (sCells p) 138→B≤bs'→bs'≠bp→bs'≠bt →
  Calls Tryz.prog 196 #[ptr bp,ptr bs',.int .i64 ((deep:Int) + 1)] w (EndedS w B bp bs' bt z ((bodies z d).2 ts) (fun w' x=>SBlk w' (New w w') bs' (.ifs p x.1 x.2.1 x.2.2 .nil))):=fun p w B bp bs' bt z ts hp h1 h2 h3 h4=>by
 have:=h p w B bp bs' bt z ts hp h1 h2 h3 h4
 simpa using this
theorem rest_step (deep d:Nat) (hdp : deep≤10) (hB:BodyOK (deep + 1) d) (hR:RestOK (deep + 1) d∨d=0):RestOK deep (d + 1):=by
 intro p w B bp bs' bt z ts h hbs hB' hne hnt
 have HBO:=Lib.hid (body_next hB)
 have HRN:=Lib.hid hR
 have hbp:=h.bp_lt
 have hbt:=h.bt_lt
 have hbl:=hbs.lt
 have hB0:=h.laid.le
 have HBS:=Lib.hid hbs
 have HE:=Lib.hid (ex0_any w B bp bt z ts h)
 have hwr:=wrap_next (deep:=deep) (by omega)
 clear h hbs hB hR
 go_enter Tryz.func196,Tryz.ntmps196
 go_wp2_with fail
 refine HE.out.mono ?_; intro e w1 he
 rcases he.part with ⟨en,q,b9,rfl,hx,HEE⟩ | ⟨aK,rK,hx,he⟩
 ·go_wp2_with fail; exact ⟨rfl,by rw [show (bodies z (d + 1)).2 ts = .bad en q by rw [bodies_rest,restL]; simp only [hx.out]]; exact HEE.out.relayS (Chg.refl _ _)⟩
 have HX1:=hx
 obtain ⟨v,rfl⟩ : ∃ v,v=aK:=⟨aK,rfl⟩
 obtain ⟨r,rfl⟩ : ∃ r,r=rK:=⟨rK,rfl⟩
 obtain ⟨hc1,v1,rfl,hv1,hp1⟩:=he
 clear hx
 obtain ⟨b1,rfl⟩:=hv1.ptr
 have hb1:=HBS.out.kept hc1 (by simpa using hne)
 have f0:=hb1.frozen 0; have f4:=hb1.frozen 4; have e0:=hb1.cell 0 _ rfl; have e4:=hb1.cell 4 _ rfl
 have hb2:=(hb1.set 0 (.int .i64 2)).set 4 (ptr b1)
 have hc2:Chg [bs'] w1 ((w1.setCell ⟨bs',0,none⟩ (.int .i64 2)).setCell ⟨bs',4,none⟩ (ptr b1)):=(Chg.set1 _ _ _ _).then (Chg.set1 _ _ _ _)
 have HC1:=Lib.hid hc1
 have HV2:=Lib.hid (show EAt ((w1.setCell ⟨bs',0,none⟩ (.int .i64 2)).setCell ⟨bs',4,none⟩ (ptr b1)) (New w _) v [ptr b1] from (hv1.kept hc2 (fun x hx hn=>by simp at hx; have:=hn.1; omega)).mono (fun x hx=>⟨hx.1,Nat.lt_of_lt_of_le hx.2 hc2.size⟩))
 have HP2:=Lib.hid (hp1.kept hc2 (fun x hx=>by simp at hx; omega) (by simpa using Ne.symm hne) (by simpa using Ne.symm hnt))
 have HB2:=Lib.hid (by simpa using hb2:Blk ((w1.setCell ⟨bs',0,none⟩ (.int .i64 2)).setCell ⟨bs',4,none⟩ (ptr b1)) bs' #[.int .i64 2,.int .i64 p,str [],nilp,ptr b1,nils,nils] 138)
 have HC2:=Lib.hid hc2
 clear hc1 hv1 hp1 hb1 hb2 hc2
 go_wp2_with fail
 generalize (w1.setCell ⟨bs',0,none⟩ (.int .i64 2)).setCell ⟨bs',4,none⟩ (ptr b1)=w2 at *
 have HMU:=Lib.hid (must_any [116,104,101,110] w2 B bp bt z r HP2.out)
 go_wp2_with fail
 refine HMU.out.mono ?_; intro e w3 he
 rcases he.part with ⟨en,q,b9,rfl,hx,HEE⟩ | ⟨aK,rK,hx,he⟩
 ·go_wp2_with fail; exact ⟨rfl,by rw [show (bodies z (d + 1)).2 ts = .bad en q by rw [bodies_rest,restL]; simp only [HX1.out,hx.out]]; exact HEE.out.relayS ((s1 HC1.out).then (s2 HC2.out))⟩
 have HX2:=hx
 obtain ⟨r2,rfl⟩ : ∃ r2,r2=rK:=⟨rK,rfl⟩
 obtain ⟨hc3,_,rfl,rfl,hp3⟩:=he
 clear hx
 have HC3:=Lib.hid hc3
 have HBD:=Lib.hid (HBO.out w3 B bp bt z r2 hp3)
 clear hc3 hp3
 go_wp2_with fail
 refine HBD.out.mono ?_; intro e w4 he
 rcases he.part with ⟨en,q,b9,rfl,hx,HEE⟩ | ⟨aK,rK,hx,he⟩
 ·go_wp2_with fail; exact ⟨rfl,by rw [show (bodies z (d + 1)).2 ts = .bad en q by rw [bodies_rest,restL]; simp only [HX1.out,HX2.out,hx.out]]; exact HEE.out.relayS (((s1 HC1.out).then (s2 HC2.out)).then (s1 HC3.out))⟩
 have HX3:=hx
 obtain ⟨t,rfl⟩ : ∃ t,t=aK:=⟨aK,rfl⟩
 obtain ⟨r3,rfl⟩ : ∃ r3,r3=rK:=⟨rK,rfl⟩
 obtain ⟨hc4,v4,rfl,⟨a4,k4,cs4,rfl,hl4,hr4,hs4⟩,hp4⟩:=he
 clear hx
 have hb4:=(HB2.out.kept HC3.out (by simpa using hne)).kept hc4 (by simpa using hne)
 have f5:=hb4.frozen 5; have e5:=hb4.cell 5 _ rfl
 have hb5:=hb4.set 5 (.slice a4 t.len k4)
 have hc5:Chg [bs'] w4 (w4.setCell ⟨bs',5,none⟩ (.slice a4 t.len k4)):=Chg.set1 _ _ _ _
 have HL4:=Lib.hid hl4
 have hwc4:Chg [bp,bs'] w w4:=((((s1 HC1.out).then (s2 HC2.out)).then (s1 HC3.out)).then (s1 hc4))
 have hv4:EAt w4 (New w w4) v [ptr b1]:=(HV2.out.grown hbp (HC3.out.then hc4))
 have hsz : w.heap.size≤w3.heap.size:=(((s1 HC1.out).then (s2 HC2.out)).then (s1 HC3.out)).size
 have hn4 : ∀ x,New w3 w4 x→New w w4 x:=fun x hx=>⟨Nat.le_trans hsz hx.1,hx.2⟩
 have hk5 : ∀ x∈[bs'],¬ New w w4 x:=fun x hx hn=>by simp at hx; have:=hn.1; omega
 have hg5 : ∀ x,New w w4 x→New w (w4.setCell ⟨bs',5,none⟩ (.slice a4 t.len k4)) x:=fun x hx=>⟨hx.1,Nat.lt_of_lt_of_le hx.2 hc5.size⟩
 have HV5:=Lib.hid (show EAt (w4.setCell ⟨bs',5,none⟩ (.slice a4 t.len k4)) (New w _) v [ptr b1]∧Row (w4.setCell ⟨bs',5,none⟩ (.slice a4 t.len k4)) (New w _) a4 cs4∧SAt (w4.setCell ⟨bs',5,none⟩ (.slice a4 t.len k4)) (New w _) t cs4 from ⟨(hv4.kept hc5 hk5).mono hg5,((hr4.mono hn4).kept hc5 hk5).mono hg5,((hs4.mono hn4).kept hc5 hk5).mono hg5⟩)
 have HP5:=Lib.hid (hp4.kept hc5 (fun x hx=>by simp at hx; omega) (by simpa using Ne.symm hne) (by simpa using Ne.symm hnt))
 have HB5:=Lib.hid (by simpa using hb5:Blk (w4.setCell ⟨bs',5,none⟩ (.slice a4 t.len k4)) bs' [.int .i64 2,.int .i64 p,str [],nilp,ptr b1,.slice a4 t.len k4,nils].toArray 138)
 have WC5:=Lib.hid (hwc4.then (s2 hc5))
 clear hc4 hl4 hr4 hs4 hp4 hb4 hb5 hc5 hwc4 hv4 hsz hn4 hk5 hg5
 have HS5:=Lib.hid WC5.out.size
 go_wp2_with fail
 generalize w4.setCell ⟨bs',5,none⟩ (.slice a4 t.len k4)=w5 at *
 have HSE:=Lib.hid (see_any [101,108,115,105,102] w5 B bp bt z r3 HP5.out)
 refine HSE.out.mono ?_; rintro _ w6 ⟨rfl,hw6⟩
 have hw6':=hw6.symm; subst hw6'; clear hw6
 cases h4 : see [101,108,115,105,102] r3 with
 | true=>
  have HI4:=Lib.hid h4
  clear h4
  rcases HRN.out with hrn | rfl
  ·have HRN2:=Lib.hid (rest_next hrn)
   clear hrn
   obtain ⟨off,c,nn,c0,c2⟩:=par_at HP5.out
   have hp6:=HP5.out.kept ((Chg.refl [] w5).alloc (.cells (sCells (hd z r3)) 138)) (by simp) (by simp) (by simp)
   have hb6:=Blk.new w5 (sCells (hd z r3)) 138
   have hc6:Chg [bp] w5 (w5.alloc (.cells (sCells (hd z r3)) 138)):=(Chg.refl _ _).alloc _
   have HB6:=Lib.hid hb6; have HC6:=Lib.hid hc6
   have HMU2:=Lib.hid (must_any [101,108,115,105,102] _ B bp bt z r3 hp6)
   rw [must,HI4.out,if_pos rfl] at HMU2
   have hbpl : bp < w5.heap.size:=Nat.lt_of_lt_of_le hbp HS5.out
   have hbtl : bt < w5.heap.size:=Nat.lt_of_lt_of_le hbt HS5.out
   have hbl5 : bs' < w5.heap.size:=Nat.lt_of_lt_of_le hbl HS5.out
   have hS5:=HS5.out
   clear hp6 hb6 hc6
   go_wp2_with fail
   refine HMU2.out.mono ?_; rintro e w7 ⟨hc7,_,rfl,rfl,hp7⟩
   have HC67:=Lib.hid (HC6.out.then hc7)
   have hb7:=HB6.out.kept hc7 (by simp; omega)
   have HB7:=Lib.hid hb7
   have HM:=Lib.hid (HRN2.out (hd z r3) w7 B bp w5.heap.size bt z r3.tail hp7 hb7 (by omega) (by omega) (by omega))
   clear hc7 hb7 hp7 c0 c2
   go_wp2_with fail
   refine HM.out.mono ?_; intro e w8 he
   rcases he.part with ⟨en,q,b9,rfl,hx,HEE⟩ | ⟨aK,rK,hx,he⟩
   ·go_wp2_with fail; exact ⟨rfl,by rw [show (bodies z (d + 1)).2 ts = .bad en q by rw [bodies_rest,restL]; simp only [HX1.out,HX2.out,HX3.out]; rw [if_pos HI4.out]; simp only [hx.out]]; exact HEE.out.relayN (WC5.out.then (s1 HC67.out)) (by omega)⟩
   have HX7:=hx
   have HRR:=Lib.hid (show (bodies z (d + 1)).2 ts = .ok (v,t,.ifs (hd z r3) aK.1 aK.2.1 aK.2.2 .nil) rK by rw [bodies_rest,restL]; simp only [HX1.out,HX2.out,HX3.out]; rw [if_pos HI4.out,HX7.out])
   obtain ⟨hc8,rfl,⟨cs8,hb8,hs8⟩,hp8⟩:=he
   clear hx
   have HSS:=Lib.hid hs8
   obtain ⟨u8,a8,k8,ts8,a9,k9,es8,cs9,rfl,_,_,_,_,_,_,_,hnil⟩:=hs8
   obtain rfl : cs9=[]:=hnil
   have d0:=hb8.cell 0 _ rfl; have d1:=hb8.cell 1 _ rfl; have d2:=hb8.cell 2 _ rfl; have d3:=hb8.cell 3 _ rfl; have d4:=hb8.cell 4 _ rfl; have d5:=hb8.cell 5 _ rfl; have d6:=hb8.cell 6 _ rfl
   have HC8:=Lib.hid hc8; have HP8:=Lib.hid hp8
   have hb8':=(HB5.out.kept HC67.out (by simpa using hne)).kept hc8 (by simp; omega)
   have f6:=hb8'.frozen 6; have e6:=hb8'.cell 6 _ rfl
   have HB8:=Lib.hid hb8'
   have hlt8:=hb8'.lt
   clear hc8 hp8 hb8 hb8'
   go_wp2_with fail
   refine bodyPost_end (results_none rfl _ _ _) rfl ?_
   rw [HRR.out]
   have hz8 : (w8.setCell ⟨bs',6,none⟩ (.slice (some ⟨w8.heap.size,0,none⟩) 1 1)).heap.size=w8.heap.size:=by simp [World.setCell]
   have hb9:=(HB8.out.set 6 (.slice (some ⟨w8.heap.size,0,none⟩) 1 1)).kept ((Chg.refl [] _).alloc (.cells #[.int .i64 2,.int .i64 (hd z r3),str [],nilp,u8,.slice a8 aK.2.1.len k8,.slice a9 aK.2.2.len k9] 138)) (by simp)
   have hbn:=Blk.new (w8.setCell ⟨bs',6,none⟩ (.slice (some ⟨w8.heap.size,0,none⟩) 1 1)) #[.int .i64 2,.int .i64 (hd z r3),str [],nilp,u8,.slice a8 aK.2.1.len k8,.slice a9 aK.2.2.len k9] 138
   have hc9:Chg [bs'] w8 ((w8.setCell ⟨bs',6,none⟩ (.slice (some ⟨w8.heap.size,0,none⟩) 1 1)).alloc (.cells #[.int .i64 2,.int .i64 (hd z r3),str [],nilp,u8,.slice a8 aK.2.1.len k8,.slice a9 aK.2.2.len k9] 138)):=(Chg.set1 _ _ _ _).alloc _
   rw [hz8] at hbn
   clear f6 e6 d0 d1 d2 d3 d4 d5 d6
   generalize (w8.setCell ⟨bs',6,none⟩ (.slice (some ⟨w8.heap.size,0,none⟩) 1 1)).alloc (.cells #[.int .i64 2,.int .i64 (hd z r3),str [],nilp,u8,.slice a8 aK.2.1.len k8,.slice a9 aK.2.2.len k9] 138)=w9 at *
   have hk:Chg [bp,w5.heap.size] w5 w8:=(HC67.out.mono (fun x hx=>.inl (by simp at hx; simp [hx]))).then HC8.out
   have hcW:Chg [bp,bs'] w w9:=(WC5.out.trans hk (fun x hx=>by simp at hx; rcases hx with rfl | rfl; exact .inl (by simp); exact .inr HS5.out)).then (s2 hc9)
   have hbk : ∀ x∈[bp,w5.heap.size],¬ New w w5 x:=fun x hx hn=>by simp at hx; have:=hn.1; have:=hn.2; omega
   have hs59 : w5.heap.size≤w9.heap.size:=Nat.le_trans hk.size hc9.size
   have hg5 : ∀ x,New w w5 x→New w w8 x:=fun x hx=>⟨hx.1,Nat.lt_of_lt_of_le hx.2 hk.size⟩
   have hk9 : ∀ x∈[bs'],¬ New w w8 x:=fun x hx hn=>by simp at hx; have:=hn.1; omega
   have hg9 : ∀ x,New w w8 x→New w w9 x:=fun x hx=>⟨hx.1,Nat.lt_of_lt_of_le hx.2 hc9.size⟩
   have hs7 : w.heap.size≤w7.heap.size:=Nat.le_trans HS5.out HC67.out.size
   have hs8':SAt w8 (New w w8) _ _:=HSS.out.mono (fun x hx=>⟨Nat.le_trans hs7 hx.1,hx.2⟩)
   have hb9':Blk w9 bs' [.int .i64 2,.int .i64 p,str [],nilp,ptr b1,.slice a4 t.len k4,.slice (some ⟨w8.heap.size,0,none⟩) 1 1].toArray 138:=by simpa using hb9
   refine ⟨hcW,rfl,⟨_,hb9',ptr b1,a4,k4,cs4,some ⟨w8.heap.size,0,none⟩,1,_,[],rfl,?_,HL4.out,?_,?_,Nat.le_refl _,?_,(hs8'.kept hc9 hk9).mono hg9,rfl⟩,HP8.out.kept hc9 (fun x hx=>by simp at hx; omega) (by simpa using Ne.symm hne) (by simpa using Ne.symm hnt)⟩
   ·exact (((HV5.out.1.kept hk hbk).mono hg5).kept hc9 hk9).mono hg9
   ·exact (((HV5.out.2.1.kept hk hbk).mono hg5).kept hc9 hk9).mono hg9
   ·exact (((HV5.out.2.2.kept hk hbk).mono hg5).kept hc9 hk9).mono hg9
   ·refine ⟨fun _=>⟨w8.heap.size,0,rfl,fun i x hx=>?_⟩,fun _ q hq=>?_⟩
    ·rw [Nat.zero_add]; exact hbn.cell i x (by simpa using hx)
    ·cases hq; exact ⟨Nat.le_trans hs7 HC8.out.size,hbn.lt⟩
  ·have:=HX3.out
   cases this
 | false=>
  have HI4:=Lib.hid h4
  clear h4
  have HT5:=Lib.hid (take_any [101,108,115,101] w5 B bp bt z r3 HP5.out)
  cases h5 : see [101,108,115,101] r3 with
  | true=>
   have HI5:=Lib.hid h5
   clear h5
   go_wp2_with fail
   refine HT5.out.mono ?_; rintro _ w6 ⟨rfl,hp6,hc6,_⟩
   rw [HI5.out]
   rw [skip,HI5.out,if_pos rfl] at hp6
   have HC6:=Lib.hid hc6
   have HBD2:=Lib.hid (HBO.out w6 B bp bt z r3.tail hp6)
   clear hp6 hc6
   go_wp2_with fail
   refine HBD2.out.mono ?_; intro e w7 he
   rcases he.part with ⟨en,q,b9,rfl,hx,HEE⟩ | ⟨aK,rK,hx,he⟩
   ·go_wp2_with fail; exact ⟨rfl,by rw [show (bodies z (d + 1)).2 ts = .bad en q by rw [bodies_rest,restL]; simp only [HX1.out,HX2.out,HX3.out]; rw [if_neg (by rw [HI4.out]; simp),if_pos HI5.out]; simp only [hx.out]]; exact HEE.out.relayS (WC5.out.then (s1 HC6.out))⟩
   have HX6:=hx
   have HRR:=Lib.hid (show (bodies z (d + 1)).2 ts = .ok (v,t,aK) rK by rw [bodies_rest,restL]; simp only [HX1.out,HX2.out,HX3.out]; rw [if_neg (by rw [HI4.out]; simp),if_pos HI5.out,HX6.out])
   obtain ⟨hc7,v7,rfl,⟨a7,k7,cs7,rfl,hl7,hr7,hs7⟩,hp7⟩:=he
   clear hx
   have HC7:=Lib.hid hc7; have HP7:=Lib.hid hp7; have HV7:=Lib.hid (And.intro hl7 (And.intro hr7 hs7))
   have hb7:=HB5.out.kept (HC6.out.then hc7) (by simpa using hne)
   have f6:=hb7.frozen 6; have e6:=hb7.cell 6 _ rfl
   have hb8:=hb7.set 6 (.slice a7 aK.len k7)
   have hc8:Chg [bs'] w7 (w7.setCell ⟨bs',6,none⟩ (.slice a7 aK.len k7)):=Chg.set1 _ _ _ _
   have HB8:=Lib.hid hb8; have HC8:=Lib.hid hc8
   clear hc7 hp7 hl7 hr7 hs7 hb7 hb8 hc8
   go_wp2_with fail
   refine bodyPost_end (results_none rfl _ _ _) rfl ?_
   rw [HRR.out]
   have hk57:Chg [bp] w5 w7:=HC6.out.then HC7.out
   have hbn : ∀ x∈[bp],¬ New w w5 x:=fun x hx hn=>by simp at hx; have:=hn.1; omega
   have hgrow : ∀ x,New w w5 x→New w w7 x:=fun x hx=>⟨hx.1,Nat.lt_of_lt_of_le hx.2 hk57.size⟩
   have hsz6 : w.heap.size≤w6.heap.size:=Nat.le_trans HS5.out HC6.out.size
   have hk8 : ∀ x∈[bs'],¬ New w w7 x:=fun x hx hn=>by simp at hx; have:=hn.1; omega
   have hg8 : ∀ x,New w w7 x→New w (w7.setCell ⟨bs',6,none⟩ (.slice a7 aK.len k7)) x:=fun x hx=>⟨hx.1,Nat.lt_of_lt_of_le hx.2 HC8.out.size⟩
   obtain ⟨hl7,hr7,hs7⟩:=HV7.out
   have hN7 : ∀ x,New w6 w7 x→New w w7 x:=fun x hx=>⟨Nat.le_trans hsz6 hx.1,hx.2⟩
   refine ⟨(WC5.out.then (s1 hk57)).then (s2 HC8.out),rfl,⟨_,by simpa using HB8.out,ptr b1,a4,k4,cs4,a7,k7,cs7,[],rfl,?_,HL4.out,?_,?_,hl7,?_,?_,rfl⟩,HP7.out.kept HC8.out (fun x hx=>by simp at hx; omega) (by simpa using Ne.symm hne) (by simpa using Ne.symm hnt)⟩
   ·exact (((HV5.out.1.kept hk57 hbn).mono hgrow).kept HC8.out hk8).mono hg8
   ·exact (((HV5.out.2.1.kept hk57 hbn).mono hgrow).kept HC8.out hk8).mono hg8
   ·exact (((HV5.out.2.2.kept hk57 hbn).mono hgrow).kept HC8.out hk8).mono hg8
   ·exact ((hr7.mono hN7).kept HC8.out hk8).mono hg8
   ·exact ((hs7.mono hN7).kept HC8.out hk8).mono hg8
  | false=>
   have HI5:=Lib.hid h5
   clear h5
   have HRR:=Lib.hid (show (bodies z (d + 1)).2 ts = .ok (v,t,.nil) r3 by rw [bodies_rest,restL]; simp only [HX1.out,HX2.out,HX3.out]; rw [if_neg (by rw [HI4.out]; simp),if_neg (by rw [HI5.out]; simp)])
   go_wp2_with fail
   refine HT5.out.mono ?_; rintro _ w6 ⟨rfl,_,_,hw⟩
   rw [HI5.out]
   have hw':=(hw HI5.out).symm; subst hw'; clear hw
   go_wp2_with fail
   refine bodyPost_end (results_none rfl _ _ _) rfl ?_
   rw [HRR.out]
   exact ⟨WC5.out,rfl,⟨_,HB5.out,ptr b1,a4,k4,cs4,none,0,[],[],rfl,HV5.out.1,HL4.out,HV5.out.2.1,HV5.out.2.2,Nat.le_refl _,Row.nil _ _ _,rfl,rfl⟩,HP5.out⟩
end Go.Proofs.YtojkkgghndeimaaGreatDoor
namespace Go.Mq.Tree
open Go Go.RowKit Go.Mq
theorem first_len {z p:Nat} {ts r:List Tok} {s:S} (h : first z p ts = .ok s r) : s.len=1:=by
 rw [first] at h
 repeat' (split at h)
 all_goals first | (cases h; rfl) | cases h | (rename_i h2; split at h2; all_goals first | cases h2 | (cases h; rfl))
theorem S.len_nil {s:S} (h : s.len=0) : s = .nil:=by
 cases s <;> first | rfl | (simp [S.len] at h)
theorem OptAt.ptr {w:World} {F:Nat→Prop} {i:Option E} {u:Value} (h:OptAt w F i u) : ∃ b,u = .pointer b:=by
 cases i with
 | none=>exact ⟨_,h⟩
 | some x=>obtain ⟨b,rfl⟩:=EAt.ptr h; exact ⟨_,rfl⟩
theorem SAt.shape {w:World} {F:Nat→Prop} {s:S} {cs:List Value} (h:SAt w F s cs) (hl : s.len=1) : ∃ (k p:Int) (n:List UInt8) (i v:Option Addr) (a1:Option Addr) (l1 c1:Nat) (a2:Option Addr) (l2 c2:Nat),
  cs=[.int .i64 k,.int .i64 p,str n,.pointer i,.pointer v,.slice a1 l1 c1,.slice a2 l2 c2]:=by
 cases s with
 | nil=>cases hl
 | set p n i v r=>
  obtain ⟨ui,uv,cs',rfl,h2,h3,h4⟩:=h
  obtain rfl:=S.len_nil (s:=r) (by simp [S.len] at hl; exact hl)
  obtain rfl : cs'=[]:=h4
  obtain ⟨b,rfl⟩:=h2.ptr; obtain ⟨c,rfl⟩:=h3.ptr
  exact ⟨_,_,_,_,_,_,_,_,_,_,_,rfl⟩
 | ifs p v t e r=>
  obtain ⟨uv,a1,c1,ts,a2,c2,es,cs',rfl,h2,h3,h4,h5,h6,h7,h8,h9⟩:=h
  obtain rfl:=S.len_nil (s:=r) (by simp [S.len] at hl; exact hl)
  obtain rfl : cs'=[]:=h9
  obtain ⟨c,rfl⟩:=h2.ptr
  exact ⟨_,_,_,_,_,_,_,_,_,_,_,rfl⟩
 | whil p v t r=>
  obtain ⟨uv,a1,c1,ts,cs',rfl,h2,h3,h4,h5,h6⟩:=h
  obtain rfl:=S.len_nil (s:=r) (by simp [S.len] at hl; exact hl)
  obtain rfl : cs'=[]:=h6
  obtain ⟨c,rfl⟩:=h2.ptr
  exact ⟨_,_,_,_,_,_,_,_,_,_,_,rfl⟩
 | ret p v r=>
  obtain ⟨uv,cs',rfl,h2,h3⟩:=h
  obtain rfl:=S.len_nil (s:=r) (by simp [S.len] at hl; exact hl)
  obtain rfl : cs'=[]:=h3
  obtain ⟨c,rfl⟩:=h2.ptr
  exact ⟨_,_,_,_,_,_,_,_,_,_,_,rfl⟩
 | wri p v r=>
  obtain ⟨uv,cs',rfl,h2,h3⟩:=h
  obtain rfl:=S.len_nil (s:=r) (by simp [S.len] at hl; exact hl)
  obtain rfl : cs'=[]:=h3
  obtain ⟨c,rfl⟩:=h2.ptr
  exact ⟨_,_,_,_,_,_,_,_,_,_,_,rfl⟩
 | call p v r=>
  obtain ⟨uv,cs',rfl,h2,h3⟩:=h
  obtain rfl:=S.len_nil (s:=r) (by simp [S.len] at hl; exact hl)
  obtain rfl : cs'=[]:=h3
  obtain ⟨c,rfl⟩:=h2.ptr
  exact ⟨_,_,_,_,_,_,_,_,_,_,_,rfl⟩
end Go.Mq.Tree
namespace Go.Proofs.YtojkkgghndeimaaGreatDoor
open Go Go.RowKit Go.Mq Go.Mq.Tree
set_option maxRecDepth 100000
set_option maxHeartbeats 16000000
abbrev SV (w:World):World→S→Value→Prop:=fun w' s v=>∃ cs,v = .agg cs.toArray∧cs.length=7∧SAt w' (New w w') s cs
def StmtOK (deep:Nat) (st:Nat→Ps S):Prop:=∀ (w:World) (B bp bt z:Nat) (ts:List Tok),Par w B bp bt z ts→Calls Tryz.prog 149 #[ptr bp,.int .i64 deep] w (Ended w B bp bt z (st z ts) (SV w))
theorem set7 {w:World} {b:Nat} (v0 v1 v2 v3 v4 v5 v6:Value) {u0 u1 u2 u3 u4 u5 u6:Value} {t:TypeId} (h:Blk w b #[u0,u1,u2,u3,u4,u5,u6] t) : ∃ wF,(((((((w.setCell ⟨b,0,none⟩ v0).setCell ⟨b,1,none⟩ v1).setCell ⟨b,2,none⟩ v2).setCell ⟨b,3,none⟩ v3).setCell ⟨b,4,none⟩ v4).setCell ⟨b,5,none⟩ v5).setCell ⟨b,6,none⟩ v6)=wF∧Chg [b] w wF∧Blk wF b #[v0,v1,v2,v3,v4,v5,v6] t:=
 ⟨_,rfl,((((((Chg.set1 _ _ _ _).then (Chg.set1 _ _ _ _)).then (Chg.set1 _ _ _ _)).then (Chg.set1 _ _ _ _)).then (Chg.set1 _ _ _ _)).then (Chg.set1 _ _ _ _)).then (Chg.set1 _ _ _ _),by
  have:=((((((h.set 0 v0).set 1 v1).set 2 v2).set 3 v3).set 4 v4).set 5 v5).set 6 v6
  simpa using this⟩
theorem stmt_step (deep d:Nat) (hdp : deep≤10) (hB:BodyOK (deep + 1) d) (hR:RestOK deep (d + 1)):StmtOK deep (fun z=>stmt z (bodies z d).1 (bodies z (d + 1)).2):=by
 intro w B bp bt z ts h
 have HBO:=Lib.hid (body_next hB)
 have HRO:=Lib.hid hR
 have hbp:=h.bp_lt
 have hbt:=h.bt_lt
 have hB0:=h.laid.le
 have hwr:=wrap_next (deep:=deep) (by omega)
 obtain ⟨off,c,nn,c0,c2⟩:=par_at h
 have hw1 : (w.alloc (.cells (sCells 0) 138)).heap.size=w.heap.size + 1:=by simp
 have hb1:=Blk.new (w.alloc (.cells (sCells 0) 138)) (sCells (hd z ts)) 138
 rw [hw1] at hb1
 obtain ⟨w1,hw1'⟩ : ∃ x,x=(w.alloc (.cells (sCells 0) 138)).alloc (.cells (sCells (hd z ts)) 138):=⟨_,rfl⟩
 have H1:Hid (Mk 138 w w1 B bp bt z ts (sCells 0) (sCells (hd z ts)) (fun _ _=>True)):=Lib.hid (by
  rw [hw1']
  exact ⟨framed_true,hbp,hbt,((Chg.refl _ _).alloc _).alloc _,h.kept (((Chg.refl [] w).alloc _).alloc _) (by simp) (by simp) (by simp),hb1,(Blk.new w _ 138).kept ((Chg.refl [] _).alloc _) (by simp),by simp,trivial⟩)
 clear h hB hR hb1 hw1
 go_enter Tryz.func149,Tryz.ntmps149
 go_wp2_with fail
 clear c0 c2
 change Calls _ _ _ ((w.alloc (.cells (sCells 0) 138)).alloc (.cells (sCells (hd z ts)) 138)) _
 rw [← hw1']
 clear hw1'
 have K:=Lib.hid (take_any [105,102] _ _ _ _ _ _ H1.out.par)
 cases hk : see [105,102] ts
 case' true=>
  have HI_if:=Lib.hid hk
  clear hk
  refine K.out.mono ?_; rintro _ w2 ⟨rfl,hp,hc,_⟩
  rw [HI_if.out]
  rw [skip,HI_if.out,if_pos rfl] at hp
  have H2:=Lib.hid (H1.out.step hc hp); clear hc hp K
  have K:=Lib.hid (HRO.out (hd z ts) _ _ _ _ _ _ _ H2.out.par H2.out.blk (by omega) (by omega) (by omega))
  go_wp2_with fail
  refine K.out.mono ?_; intro e w3 he
  rcases he.cut with ⟨en,q,b9,rfl,hx,HE⟩ | ⟨x3,r3,rfl,X3,⟨cs,hb,hs⟩,hc,hp⟩
  ·go_wp2_with fail; exact ⟨rfl,H2.out.bad HE.out (by rw [stmt,if_pos HI_if.out]; simp only [hx.out])⟩
  have H3:=Lib.hid ((H2.out.loop hc hp hb).add (framed_S (.ifs (hd z ts) x3.1 x3.2.1 x3.2.2 .nil) cs) (hs.mono (fun x hx=>⟨Nat.le_trans H2.out.sz hx.1,hx.2⟩))); clear hc hp hb hs K he
  have K:=Lib.hid (must_any [101,110,100] _ _ _ _ _ _ H3.out.par)
  go_wp2_with fail
  refine K.out.mono ?_; intro e w4 he
  rcases he.cut with ⟨en,q,b9,rfl,hx,HE⟩ | ⟨_,r4,_,rfl,X4,rfl,hc,hp⟩
  ·go_wp2_with fail; exact ⟨rfl,HE.out _ _ _ H3.out.chg (by rw [stmt,if_pos HI_if.out]; simp only [X3.out,hx.out])⟩
  have H4:=Lib.hid (H3.out.step hc hp); clear hc hp K he
  obtain ⟨wE,rfl⟩ : ∃ x,x=w4:=⟨_,rfl⟩
  obtain ⟨sx,rE,cs,Q,H9,HSE,hlE,HRR⟩ : ∃ (sx:S) (rE:List Tok) (cs:List Value) (Q:World→(Nat→Prop)→Prop),Hid (Mk 138 w wE B bp bt z rE (sCells 0) cs.toArray Q)∧Hid (SAt wE (New2 w wE) sx cs)∧S.len sx=1∧Hid (stmt z (bodies z d).1 (bodies z (d + 1)).2 ts = .ok sx rE):=
   ⟨(.ifs (hd z ts) x3.1 x3.2.1 x3.2.2 .nil),_,_,_,H4,Lib.hid (H4.out.q.2),rfl,Lib.hid (by rw [stmt,if_pos HI_if.out]; simp only [X3.out,X4.out])⟩
 case' false=>
  have HI_if:=Lib.hid hk
  clear hk
  refine K.out.mono ?_; rintro _ w2 ⟨rfl,_,_,hw⟩
  rw [HI_if.out]
  have hw':=(hw HI_if.out).symm; subst hw'; clear hw K
  have K:=Lib.hid (take_any [119,104,105,108,101] _ _ _ _ _ _ H1.out.par)
  cases hk : see [119,104,105,108,101] ts
  case' true=>
   have HI_while:=Lib.hid hk
   clear hk
   go_wp2_with fail
   refine K.out.mono ?_; rintro _ w2 ⟨rfl,hp,hc,_⟩
   rw [HI_while.out]
   rw [skip,HI_while.out,if_pos rfl] at hp
   have H2:=Lib.hid (H1.out.step hc hp); clear hc hp K
   have K:=Lib.hid (ex0_any _ _ _ _ _ _ H2.out.par)
   go_wp2_with fail
   refine K.out.mono ?_; intro e w3 he
   rcases he.cut with ⟨en,q,b9,rfl,hx,HE⟩ | ⟨v,r3,u,rfl,X3,hv,hc,hp⟩
   ·go_wp2_with fail; exact ⟨rfl,HE.out _ _ _ H2.out.chg (by rw [stmt,if_neg (by rw [HI_if.out]; simp),if_pos HI_while.out]; simp only [hx.out])⟩
   obtain ⟨b3,rfl⟩:=hv.ptr
   have H3:=Lib.hid (H2.out.call hc hp (framed_E v [ptr b3]) hv); clear hc hp hv K he
   obtain ⟨e0,_,_,_,e4,_,_⟩:=H3.out.blk.seven; obtain ⟨f0,_,_,_,f4,_,_⟩:=H3.out.blk.free7
   obtain ⟨w3b,hw⟩ : ∃ x,x=(w3.setCell ⟨w.heap.size + 1,0,none⟩ (.int .i64 3)).setCell ⟨w.heap.size + 1,4,none⟩ (ptr b3):=⟨_,rfl⟩
   have H3b:=Lib.hid ((H3.out.store 0 (.int .i64 3)).store 4 (ptr b3))
   simp only [Array.setIfInBounds] at H3b
   rw [← hw] at H3b
   have K:=Lib.hid (must_any [100,111] _ _ _ _ _ _ H3b.out.par)
   go_wp2_with fail
   rw [← hw]
   refine K.out.mono ?_; intro e w5 he
   rcases he.cut with ⟨en,q,b9,rfl,hx,HE⟩ | ⟨_,r5,_,rfl,X5,rfl,hc,hp⟩
   ·go_wp2_with fail; exact ⟨rfl,HE.out _ _ _ H3b.out.chg (by rw [stmt,if_neg (by rw [HI_if.out]; simp),if_pos HI_while.out]; simp only [X3.out,hx.out])⟩
   have H5:=Lib.hid (H3b.out.step hc hp); clear hc hp K he
   clear e0 f0 e4 f4 hw
   have K:=Lib.hid (HBO.out _ _ _ _ _ _ H5.out.par)
   go_wp2_with fail
   refine K.out.mono ?_; intro e w6 he
   rcases he.cut with ⟨en,q,b9,rfl,hx,HE⟩ | ⟨t,r6,_,rfl,X6,⟨a6,k6,cs6,rfl,hl,hr,hs⟩,hc,hp⟩
   ·go_wp2_with fail; exact ⟨rfl,HE.out _ _ _ H5.out.chg (by rw [stmt,if_neg (by rw [HI_if.out]; simp),if_pos HI_while.out]; simp only [X3.out,X5.out,hx.out])⟩
   have H6:=Lib.hid (H5.out.call hc hp (framed_Sl t (.slice a6 t.len k6)) ⟨_,_,_,rfl,hl,hr,hs⟩); clear hc hp K he
   clear hl hr hs
   obtain ⟨_,_,_,_,_,e5,_⟩:=H6.out.blk.seven; obtain ⟨_,_,_,_,_,f5,_⟩:=H6.out.blk.free7
   obtain ⟨w6b,hw⟩ : ∃ x,x=w6.setCell ⟨w.heap.size + 1,5,none⟩ (.slice a6 t.len k6):=⟨_,rfl⟩
   have H6b:=Lib.hid (H6.out.store 5 (.slice a6 t.len k6))
   simp only [Array.setIfInBounds] at H6b
   rw [← hw] at H6b
   have K:=Lib.hid (must_any [101,110,100] _ _ _ _ _ _ H6b.out.par)
   go_wp2_with fail
   rw [← hw]
   refine K.out.mono ?_; intro e w7 he
   rcases he.cut with ⟨en,q,b9,rfl,hx,HE⟩ | ⟨_,r7,_,rfl,X7,rfl,hc,hp⟩
   ·go_wp2_with fail; exact ⟨rfl,HE.out _ _ _ H6b.out.chg (by rw [stmt,if_neg (by rw [HI_if.out]; simp),if_pos HI_while.out]; simp only [X3.out,X5.out,X6.out,hx.out])⟩
   have H7:=Lib.hid (H6b.out.step hc hp); clear hc hp K he
   clear e5 f5 hw
   obtain ⟨wE,rfl⟩ : ∃ x,x=w7:=⟨_,rfl⟩
   obtain ⟨sx,rE,cs,Q,H9,HSE,hlE,HRR⟩ : ∃ (sx:S) (rE:List Tok) (cs:List Value) (Q:World→(Nat→Prop)→Prop),Hid (Mk 138 w wE B bp bt z rE (sCells 0) cs.toArray Q)∧Hid (SAt wE (New2 w wE) sx cs)∧S.len sx=1∧Hid (stmt z (bodies z d).1 (bodies z (d + 1)).2 ts = .ok sx rE):=
    ⟨(.whil (hd z ts) v t .nil),_,_,_,H7,Lib.hid (by obtain ⟨a,c,cs7,he,h1,h2,h3⟩:=H7.out.q.2; cases he; exact ⟨_,_,_,_,[],rfl,H7.out.q.1.2,h1,h2,h3,rfl⟩),rfl,Lib.hid (by rw [stmt,if_neg (by rw [HI_if.out]; simp),if_pos HI_while.out]; simp only [X3.out,X5.out,X6.out,X7.out])⟩
  case' false=>
   have HI_while:=Lib.hid hk
   clear hk
   go_wp2_with fail
   refine K.out.mono ?_; rintro _ w2 ⟨rfl,_,_,hw⟩
   rw [HI_while.out]
   have hw':=(hw HI_while.out).symm; subst hw'; clear hw K
   have K:=Lib.hid (take_any [114,101,116,117,114,110] _ _ _ _ _ _ H1.out.par)
   cases hk : see [114,101,116,117,114,110] ts
   case' true=>
    have HI_return:=Lib.hid hk
    clear hk
    go_wp2_with fail
    refine K.out.mono ?_; rintro _ w2 ⟨rfl,hp,hc,_⟩
    rw [HI_return.out]
    rw [skip,HI_return.out,if_pos rfl] at hp
    have H2:=Lib.hid (H1.out.step hc hp); clear hc hp K
    have K:=Lib.hid (ex0_any _ _ _ _ _ _ H2.out.par)
    go_wp2_with fail
    refine K.out.mono ?_; intro e w3 he
    rcases he.cut with ⟨en,q,b9,rfl,hx,HE⟩ | ⟨v,r3,u,rfl,X3,hv,hc,hp⟩
    ·go_wp2_with fail; exact ⟨rfl,HE.out _ _ _ H2.out.chg (by rw [stmt,if_neg (by rw [HI_if.out]; simp),if_neg (by rw [HI_while.out]; simp),if_pos HI_return.out]; simp only [hx.out])⟩
    obtain ⟨b3,rfl⟩:=hv.ptr
    have H3:=Lib.hid (H2.out.call hc hp (framed_E v [ptr b3]) hv); clear hc hp hv K he
    obtain ⟨e0,_,_,_,e4,_,_⟩:=H3.out.blk.seven; obtain ⟨f0,_,_,_,f4,_,_⟩:=H3.out.blk.free7
    obtain ⟨w3b,hw⟩ : ∃ x,(w3.setCell ⟨w.heap.size + 1,0,none⟩ (.int .i64 4)).setCell ⟨w.heap.size + 1,4,none⟩ (ptr b3)=x:=⟨_,rfl⟩
    have H3b:=Lib.hid ((H3.out.store 0 (.int .i64 4)).store 4 (ptr b3))
    simp only [Array.setIfInBounds] at H3b
    rw [hw] at H3b
    obtain ⟨wE,rfl⟩ : ∃ x,x=w3b:=⟨_,rfl⟩
    obtain ⟨sx,rE,cs,Q,H9,HSE,hlE,HRR⟩ : ∃ (sx:S) (rE:List Tok) (cs:List Value) (Q:World→(Nat→Prop)→Prop),Hid (Mk 138 w wE B bp bt z rE (sCells 0) cs.toArray Q)∧Hid (SAt wE (New2 w wE) sx cs)∧S.len sx=1∧Hid (stmt z (bodies z d).1 (bodies z (d + 1)).2 ts = .ok sx rE):=
     ⟨(.ret (hd z ts) v .nil),_,_,_,H3b,Lib.hid (⟨_,[],rfl,H3b.out.q.2,rfl⟩),rfl,Lib.hid (by rw [stmt,if_neg (by rw [HI_if.out]; simp),if_neg (by rw [HI_while.out]; simp),if_pos HI_return.out]; simp only [X3.out])⟩
   case' false=>
    have HI_return:=Lib.hid hk
    clear hk
    go_wp2_with fail
    refine K.out.mono ?_; rintro _ w2 ⟨rfl,_,_,hw⟩
    rw [HI_return.out]
    have hw':=(hw HI_return.out).symm; subst hw'; clear hw K
    have K:=Lib.hid (take_any [119,114,105,116,101] _ _ _ _ _ _ H1.out.par)
    cases hk : see [119,114,105,116,101] ts
    case' true=>
     have HI_write:=Lib.hid hk
     clear hk
     go_wp2_with fail
     refine K.out.mono ?_; rintro _ w2 ⟨rfl,hp,hc,_⟩
     rw [HI_write.out]
     rw [skip,HI_write.out,if_pos rfl] at hp
     have H2:=Lib.hid (H1.out.step hc hp); clear hc hp K
     have K:=Lib.hid (ex0_any _ _ _ _ _ _ H2.out.par)
     go_wp2_with fail
     refine K.out.mono ?_; intro e w3 he
     rcases he.cut with ⟨en,q,b9,rfl,hx,HE⟩ | ⟨v,r3,u,rfl,X3,hv,hc,hp⟩
     ·go_wp2_with fail; exact ⟨rfl,HE.out _ _ _ H2.out.chg (by rw [stmt,if_neg (by rw [HI_if.out]; simp),if_neg (by rw [HI_while.out]; simp),if_neg (by rw [HI_return.out]; simp),if_pos HI_write.out]; simp only [hx.out])⟩
     obtain ⟨b3,rfl⟩:=hv.ptr
     have H3:=Lib.hid (H2.out.call hc hp (framed_E v [ptr b3]) hv); clear hc hp hv K he
     obtain ⟨e0,_,_,_,e4,_,_⟩:=H3.out.blk.seven; obtain ⟨f0,_,_,_,f4,_,_⟩:=H3.out.blk.free7
     obtain ⟨w3b,hw⟩ : ∃ x,(w3.setCell ⟨w.heap.size + 1,0,none⟩ (.int .i64 5)).setCell ⟨w.heap.size + 1,4,none⟩ (ptr b3)=x:=⟨_,rfl⟩
     have H3b:=Lib.hid ((H3.out.store 0 (.int .i64 5)).store 4 (ptr b3))
     simp only [Array.setIfInBounds] at H3b
     rw [hw] at H3b
     obtain ⟨wE,rfl⟩ : ∃ x,x=w3b:=⟨_,rfl⟩
     obtain ⟨sx,rE,cs,Q,H9,HSE,hlE,HRR⟩ : ∃ (sx:S) (rE:List Tok) (cs:List Value) (Q:World→(Nat→Prop)→Prop),Hid (Mk 138 w wE B bp bt z rE (sCells 0) cs.toArray Q)∧Hid (SAt wE (New2 w wE) sx cs)∧S.len sx=1∧Hid (stmt z (bodies z d).1 (bodies z (d + 1)).2 ts = .ok sx rE):=
      ⟨(.wri (hd z ts) v .nil),_,_,_,H3b,Lib.hid (⟨_,[],rfl,H3b.out.q.2,rfl⟩),rfl,Lib.hid (by rw [stmt,if_neg (by rw [HI_if.out]; simp),if_neg (by rw [HI_while.out]; simp),if_neg (by rw [HI_return.out]; simp),if_pos HI_write.out]; simp only [X3.out])⟩
    case' false=>
     have HI_write:=Lib.hid hk
     clear hk
     go_wp2_with fail
     refine K.out.mono ?_; rintro _ w2 ⟨rfl,_,_,hw⟩
     rw [HI_write.out]
     have hw':=(hw HI_write.out).symm; subst hw'; clear hw K
     have K:=Lib.hid (first_any (hd z ts) _ _ _ _ _ _ _ H1.out.par H1.out.blk (by omega) (by omega) (by omega))
     go_wp2_with fail
     refine K.out.mono ?_; intro e w2 he
     rcases he.cut with ⟨en,q,b9,rfl,hx,HE⟩ | ⟨x2,r2,rfl,X2,⟨cs,hb,hs⟩,hc,hp⟩
     ·go_wp2_with fail; exact ⟨rfl,H1.out.bad HE.out (by rw [stmt,if_neg (by rw [HI_if.out]; simp),if_neg (by rw [HI_while.out]; simp),if_neg (by rw [HI_return.out]; simp),if_neg (by rw [HI_write.out]; simp)]; simp only [hx.out])⟩
     have H2:=Lib.hid ((H1.out.loop hc hp hb).add (framed_S x2 cs) (hs.mono (fun x hx=>⟨Nat.le_trans H1.out.sz hx.1,hx.2⟩))); clear hc hp hb hs K he
     obtain ⟨wE,rfl⟩ : ∃ x,x=w2:=⟨_,rfl⟩
     obtain ⟨sx,rE,cs,Q,H9,HSE,hlE,HRR⟩ : ∃ (sx:S) (rE:List Tok) (cs:List Value) (Q:World→(Nat→Prop)→Prop),Hid (Mk 138 w wE B bp bt z rE (sCells 0) cs.toArray Q)∧Hid (SAt wE (New2 w wE) sx cs)∧S.len sx=1∧Hid (stmt z (bodies z d).1 (bodies z (d + 1)).2 ts = .ok sx rE):=
      ⟨x2,_,_,_,H2,Lib.hid (H2.out.q.2),first_len X2.out,Lib.hid (by rw [stmt,if_neg (by rw [HI_if.out]; simp),if_neg (by rw [HI_while.out]; simp),if_neg (by rw [HI_return.out]; simp),if_neg (by rw [HI_write.out]; simp)]; simp only [X2.out])⟩
 all_goals
  obtain ⟨k9,q9,n9,i9,v9,a9,l9,m9,b9,j9,o9,rfl⟩:=HSE.out.shape hlE
  obtain ⟨d0,d1,d2,d3,d4,d5,d6⟩:=H9.out.blk.seven; obtain ⟨e0,e1,e2,e3,e4,e5,e6⟩:=H9.out.res.seven; obtain ⟨f0,f1,f2,f3,f4,f5,f6⟩:=H9.out.res.free7
  go_wp2_with fail
  obtain ⟨wF,hwF,hcF,hbF⟩:=set7 (.int .i64 k9) (.int .i64 q9) (str n9) (.pointer i9) (.pointer v9) (.slice a9 l9 m9) (.slice b9 j9 o9) H9.out.res
  rw [hwF]
  clear hwF
  obtain ⟨g0,g1,g2,g3,g4,g5,g6⟩:=hbF.seven
  refine bodyPost_ret (v:=.agg #[.int .i64 k9,.int .i64 q9,str n9,.pointer i9,.pointer v9,.slice a9 l9 m9,.slice b9 j9 o9]) (by simp [results,Tryz.results149,go_sem,g0,g1,g2,g3,g4,g5,g6]) rfl ?_
  rw [HRR.out]
  have hkF : ∀ x∈[w.heap.size],¬ New2 w wE x:=fun x hx hn=>by simp at hx; have:=hn.1; omega
  exact ⟨H9.out.chg.trans hcF (fun x hx=>.inr (by simp at hx; omega)),_,rfl,⟨_,rfl,rfl,(HSE.out.kept hcF hkF).mono (fun x hx=>⟨by have:=hx.1; omega,Nat.lt_of_lt_of_le hx.2 hcF.size⟩)⟩,H9.out.par.kept hcF (fun x hx=>by simp at hx; omega) (by simp; omega) (by simp; omega)⟩
end Go.Proofs.YtojkkgghndeimaaGreatDoor
namespace Go.Mq.Tree
open Go Go.RowKit Go.Mq
theorem ex0_eats (z:Nat):Eats (ex0 z):=expr_eats (one_eats z 11) 5
theorem first_mono (z p:Nat):Mono (first z p):=by
 intro ts a r h
 rw [first] at h
 cases hn : named z (expr z (one z 10) 5) ts with
 | bad e q=>rw [hn] at h; cases h
 | ok e r1=>
  have g1:=named_eats (expr_eats (one_eats z 10) 5) _ _ _ hn
  rcases named_shape hn with ⟨q,m,n,rfl⟩ | ⟨q,m,n,i,rfl⟩ | ⟨q,m,n,l,rfl⟩
  ·simp only [hn] at h
   split at h
   ·cases h
   ·cases hm : must z [58,61] r1 with
    | bad e q=>simp only [hm] at h; cases h
    | ok u r2=>
     have g2:=must_len hm
     simp only [hm] at h
     cases hx : ex0 z r2 with
     | bad e q=>simp only [hx] at h; cases h
     | ok v r3=>
      have g3:=ex0_eats z _ _ _ hx
      simp only [hx] at h
      cases h
      omega
  ·simp only [hn] at h
   split at h
   ·cases h
   ·cases hm : must z [58,61] r1 with
    | bad e q=>simp only [hm] at h; cases h
    | ok u r2=>
     have g2:=must_len hm
     simp only [hm] at h
     cases hx : ex0 z r2 with
     | bad e q=>simp only [hx] at h; cases h
     | ok v r3=>
      have g3:=ex0_eats z _ _ _ hx
      simp only [hx] at h
      cases h
      omega
  ·simp only [hn] at h
   cases h
   omega
theorem restL_mono {z:Nat} {bd:Ps S} {more:Ps (E × S × S)} (hb:Mono bd) (hm:Mono more):Mono (restL z bd more):=by
 intro ts a r h
 rw [restL] at h
 cases h1 : ex0 z ts with
 | bad e q=>rw [h1] at h; cases h
 | ok v r1=>
  have g1:=ex0_eats z _ _ _ h1
  simp only [h1] at h
  cases h2 : must z [116,104,101,110] r1 with
  | bad e q=>simp only [h2] at h; cases h
  | ok u r2=>
   have g2:=must_len h2
   simp only [h2] at h
   cases h3 : bd r2 with
   | bad e q=>simp only [h3] at h; cases h
   | ok t r3=>
    have g3:=hb _ _ _ h3
    simp only [h3] at h
    split at h
    ·cases h4 : more r3.tail with
     | bad e q=>simp only [h4] at h; cases h
     | ok x r4=>
      have g4:=hm _ _ _ h4
      simp only [h4] at h
      cases h
      simp at g4; omega
    ·split at h
     ·cases h4 : bd r3.tail with
      | bad e q=>simp only [h4] at h; cases h
      | ok x r4=>
       have g4:=hb _ _ _ h4
       simp only [h4] at h
       cases h
       simp at g4; omega
     ·cases h; omega
theorem stmt_mono {z:Nat} {bd:Ps S} {rest:Ps (E × S × S)} (hb:Mono bd) (hr:Mono rest):Mono (stmt z bd rest):=by
 intro ts a r h
 have ht : ts.tail.length≤ts.length:=by simp
 rw [stmt] at h
 split at h
 ·cases h1 : rest ts.tail with
  | bad e q=>simp only [h1] at h; cases h
  | ok x r1=>
   have g1:=hr _ _ _ h1
   simp only [h1] at h
   cases h2 : must z [101,110,100] r1 with
   | bad e q=>simp only [h2] at h; cases h
   | ok u r2=>
    have g2:=must_len h2
    simp only [h2] at h
    cases h; omega
 ·split at h
  ·cases h1 : ex0 z ts.tail with
   | bad e q=>simp only [h1] at h; cases h
   | ok v r1=>
    have g1:=ex0_eats z _ _ _ h1
    simp only [h1] at h
    cases h2 : must z [100,111] r1 with
    | bad e q=>simp only [h2] at h; cases h
    | ok u r2=>
     have g2:=must_len h2
     simp only [h2] at h
     cases h3 : bd r2 with
     | bad e q=>simp only [h3] at h; cases h
     | ok t r3=>
      have g3:=hb _ _ _ h3
      simp only [h3] at h
      cases h4 : must z [101,110,100] r3 with
      | bad e q=>simp only [h4] at h; cases h
      | ok u r4=>
       have g4:=must_len h4
       simp only [h4] at h
       cases h; omega
  ·split at h
   ·cases h1 : ex0 z ts.tail with
    | bad e q=>simp only [h1] at h; cases h
    | ok v r1=>
     have g1:=ex0_eats z _ _ _ h1
     simp only [h1] at h
     cases h; omega
   ·split at h
    ·cases h1 : ex0 z ts.tail with
     | bad e q=>simp only [h1] at h; cases h
     | ok v r1=>
      have g1:=ex0_eats z _ _ _ h1
      simp only [h1] at h
      cases h; omega
    ·exact first_mono z _ _ _ _ h
theorem bodyL_mono {z:Nat} {st:Ps S} (hs:Mono st) : ∀ f l,Mono (bodyL z st f l):=by
 intro f
 induction f with
 | zero=>intro l ts a r h; cases h
 | succ f ih=>
  intro l ts a r h
  rw [bodyL] at h
  split at h
  ·cases h; exact Nat.le_refl _
  ·cases h1 : st ts with
   | bad e q=>rw [h1] at h; cases h
   | ok s r1=>
    have g1:=hs _ _ _ h1
    simp only [h1] at h
    cases h2 : must z [59] r1 with
    | bad e q=>simp only [h2] at h; cases h
    | ok u r2=>
     have g2:=must_len h2
     simp only [h2] at h
     have g3:=ih _ _ _ _ h
     omega
theorem bodies_mono (z:Nat) : ∀ d,Mono (bodies z d).1∧Mono (bodies z d).2:=by
 intro d
 induction d with
 | zero=>exact ⟨fun ts a r h=>(by cases h),fun ts a r h=>(by cases h)⟩
 | succ d ih=>exact ⟨fun ts a r h=>bodyL_mono (stmt_mono ih.1 (restL_mono ih.1 ih.2)) _ _ _ _ _ h,restL_mono ih.1 ih.2⟩
theorem stmt_len {z:Nat} {bd:Ps S} {rest:Ps (E × S × S)} {ts r:List Tok} {s:S} (h : stmt z bd rest ts = .ok s r) : s.len=1:=by
 rw [stmt] at h
 repeat' (split at h)
 all_goals first | (cases h; rfl) | cases h | exact first_len h | (rename_i h2; split at h2; all_goals first | cases h2 | (cases h; rfl))
end Go.Mq.Tree
namespace Go.Proofs.YtojkkgghndeimaaGreatDoor
open Go Go.RowKit Go.Mq Go.Mq.Tree
set_option maxRecDepth 100000
set_option maxHeartbeats 8000000
theorem infoStmt : (Tryz.prog.info? 138).map (fun i=>(i.zero,i.size,i.bytes))=some (some (.agg #[.int .i64 0,.int .i64 0,.string ⟨#[]⟩,.pointer none,.pointer none,.slice none 0 0,.slice none 0 0]),7,96):=by kernel_rfl
theorem body_of (deep:Nat) (hdp : deep≤10) (st:Nat→Ps S) (hS:StmtOK deep st) (hm : ∀ z,Mono (st z)) (hl : ∀ z ts s r,st z ts = .ok s r→s.len=1) (w:World) (B bp bt z:Nat) (ts:List Tok) (h:Par w B bp bt z ts) :
  Calls Tryz.prog 106 #[ptr bp,.int .i64 deep] w (Ended w B bp bt z (bodyL z (st z) (ts.length + 1) .nil ts) (fun w' s v=>SlAt w' (New w w') s v)):=by
 have HS:=Lib.hid hS
 have H:=Lib.hid h
 have hB:=h.laid.le
 have hbp:=h.bp_lt
 have hbt:=h.bt_lt
 have hfew:=h.few
 have HM:=Lib.hid (hm z)
 have HL:=Lib.hid (hl z)
 have hdec : decide ((10:Int) < (deep:Int))=false:=by simp; omega
 clear h hS hm hl
 go_enter Tryz.func106,Tryz.ntmps106
 go_wp2_with fail
 clear hdec
 go_loopw [5] (fun l wr=>∃ (f:Nat) (acc:S) (cs:List Value) (ts':List Tok),bodyL z (st z) (ts.length + 1) .nil ts=bodyL z (st z) f acc ts'∧ts'.length < f∧acc.len + ts'.length≤600 ∧
   Par wr B bp bt z ts'∧wr.ownsRow 0 138 7 l acc.len cs∧SAt wr (Off w wr l) acc cs∧From w.heap.size l∧Chg [bp] w wr) (fun _ wr=>cntOf wr bp)
 case atStart=>exact ⟨ts.length + 1,.nil,[],ts,rfl,by omega,by simpa [S.len] using hfew,H.out,World.ownsRow_nil _ _ _ _,rfl,From.nil _,Chg.refl _ _⟩
 case round=>
  obtain ⟨f,acc,cs,ts',hr,hf,hlen,hp,ho,hes,hF,hC⟩:=hrel
  have HR:=Lib.hid hr; have HP:=Lib.hid hp; have HO:=Lib.hid ho; have HES:=Lib.hid hes; have HF:=Lib.hid hF; have HC:=Lib.hid hC
  obtain ⟨sa,sc,hs⟩:=slice_of_owns ho
  clear hr hp ho hes hF hC
  subst hs
  obtain ⟨f,rfl⟩ : ∃ f',f=f' + 1:=⟨f - 1,by omega⟩
  have HA:=Lib.hid (see_any [101,110,100] wr B bp bt z ts' HP.out)
  have HB:=Lib.hid (see_any [101,108,115,101] wr B bp bt z ts' HP.out)
  have HD:=Lib.hid (see_any [101,108,115,105,102] wr B bp bt z ts' HP.out)
  have HEND:Hid ((see [101,110,100] ts' || see [101,108,115,101] ts' || see [101,108,115,105,102] ts')=true→Ended w B bp bt z (bodyL z (st z) (ts.length + 1) .nil ts) (fun w' s v=>SlAt w' (New w w') s v) (.returned (.slice sa acc.len sc)) wr):=Lib.hid (fun hsee=>by
   rw [HR.out,bodyL,if_pos hsee]
   refine ⟨HC.out,_,rfl,?_,HP.out⟩
   obtain ⟨a,c,he,hac,hrow⟩:=Row.of_owns HO.out (new_owns HO.out HF.out)
   cases he
   exact ⟨_,_,_,rfl,hac,hrow,(framed_S acc cs).done HES.out⟩)
  cases ha : see [101,110,100] ts' with
  | true=>
   rw [ha] at HA HEND
   clear ha
   go_wp2_with fail
   refine HA.out.mono ?_; rintro _ _ ⟨rfl,hw⟩; have hw:=hw.symm; subst hw
   go_wp2_with fail
   go_ret
   exact HEND.out (by simp)
  | false=>
   rw [ha] at HA HEND
   cases hb : see [101,108,115,101] ts' with
   | true=>
    rw [hb] at HB HEND
    clear ha hb
    go_wp2_with fail
    refine HA.out.mono ?_; rintro _ _ ⟨rfl,hw⟩; have hw:=hw.symm; subst hw
    go_wp2_with fail
    refine HB.out.mono ?_; rintro _ _ ⟨rfl,hw⟩; have hw:=hw.symm; subst hw
    go_wp2_with fail
    go_ret
    exact HEND.out (by simp)
   | false=>
    rw [hb] at HB HEND
    cases hd' : see [101,108,115,105,102] ts' with
    | true=>
     rw [hd'] at HD HEND
     clear ha hb hd'
     go_wp2_with fail
     refine HA.out.mono ?_; rintro _ _ ⟨rfl,hw⟩; have hw:=hw.symm; subst hw
     go_wp2_with fail
     refine HB.out.mono ?_; rintro _ _ ⟨rfl,hw⟩; have hw:=hw.symm; subst hw
     go_wp2_with fail
     refine HD.out.mono ?_; rintro _ _ ⟨rfl,hw⟩; have hw:=hw.symm; subst hw
     go_wp2_with fail
     go_ret
     exact HEND.out (by simp)
    | false=>
     rw [hd'] at HD
     have HRR:Hid (∀ q,st z ts'=q→bodyL z (st z) (ts.length + 1) .nil ts=match q with | .bad e p=>.bad e p | .ok s r=>(match must z [59] r with | .bad e p=>.bad e p | .ok _ r2=>bodyL z (st z) f (acc.app s) r2)):=Lib.hid (fun q hq=>by rw [HR.out,bodyL,ha,hb,hd',if_neg (by simp),hq]; cases q <;> rfl)
     clear ha hb hd' HEND
     have HX:=Lib.hid (HS.out wr B bp bt z ts' HP.out)
     cases hx : st z ts' with
     | bad en p=>
      have HE:=Lib.hid (HRR.out _ hx)
      rw [hx] at HX
      clear hx
      go_wp2_with fail
      refine HA.out.mono ?_; rintro _ _ ⟨rfl,hw⟩; have hw:=hw.symm; subst hw
      go_wp2_with fail
      refine HB.out.mono ?_; rintro _ _ ⟨rfl,hw⟩; have hw:=hw.symm; subst hw
      go_wp2_with fail
      refine HD.out.mono ?_; rintro _ _ ⟨rfl,hw⟩; have hw:=hw.symm; subst hw
      go_wp2_with fail
      refine HX.out.mono ?_; intro e w2 he
      have HEE:=Lib.hid he
      obtain ⟨b,rfl⟩:=he.thrown
      clear he
      go_wp2_with fail
      refine ⟨rfl,?_⟩
      rw [HE.out]
      exact HEE.out.relay HC.out
     | ok s r=>
      have hxl:=HM.out _ _ _ hx
      have hs1:=HL.out _ _ _ hx
      have HE:=Lib.hid (HRR.out _ hx)
      rw [hx] at HX
      clear hx
      go_wp2_with fail
      refine HA.out.mono ?_; rintro _ _ ⟨rfl,hw⟩; have hw:=hw.symm; subst hw
      go_wp2_with fail
      refine HB.out.mono ?_; rintro _ _ ⟨rfl,hw⟩; have hw:=hw.symm; subst hw
      go_wp2_with fail
      refine HD.out.mono ?_; rintro _ _ ⟨rfl,hw⟩; have hw:=hw.symm; subst hw
      go_wp2_with fail
      refine HX.out.mono ?_; rintro _ w4 ⟨hc4,_,rfl,⟨cx,rfl,hcl,hsx⟩,hp4⟩
      have HSX:=Lib.hid hsx
      obtain ⟨k9,q9,n9,i9,v9,a9,l9,m9,b9,j9,o9,rfl⟩:=hsx.shape hs1
      have HC4:=Lib.hid hc4; have HP4:=Lib.hid hp4
      have ho4:=owns_kept HO.out hc4 (fun g hg hm=>by have:=HF.out g hg; simp at hm; omega)
      have ho5:=owns_kept ho4 ((Chg.refl [] w4).alloc (.cells #[.int .i64 k9,.int .i64 q9,str n9,.pointer i9,.pointer v9,.slice a9 l9 m9,.slice b9 j9 o9] 138)) (by simp)
      have HO4:=Lib.hid ho5
      have hal : acc.len≤600:=by omega
      clear hc4 hp4 ho4 ho5 hcl hsx
      go_wp2_with (at_builtin; go_must (refine wpL_append rfl _ _ 29 rfl 138 _ 7 96 infoStmt Tryz.underlying29 rfl (by decide) _ _ _ rfl HO4.out ⟨w4.heap.size,0,none⟩ 1 1 [.int .i64 k9,.int .i64 q9,str n9,.pointer i9,.pointer v9,.slice a9 l9 m9,.slice b9 j9 o9] rfl rfl (cells_new _ _ _) (by simp [Value.oneCell']) ?_ ?_ ?_))
      ·omega
      ·unfold maxLen; omega
      ·intro v' w' hown' hch' hmv'
       have HO':=Lib.hid hown'; clear hown'
       obtain ⟨hp5,hc5,hf5⟩:=grow_step hB hbp hbt HC.out HC4.out HP4.out HF.out hch' hmv'
       have hlw : ∀ g∈blk _,g < wr.heap.size:=fun g hg=>owns_lt HO.out g hg
       have hes4:=(framed_S acc cs).call HES.out HC4.out hbp
       have hx4:=(framed_S s _).fresh HSX.out hlw HC.out.size
       have hes5:=(framed_S acc cs).app hes4 hch' hmv'
       have hx5:=(framed_S s _).app hx4 hch' hmv'
       have HES5:=Lib.hid (SAt.append hx5 hes5)
       have HP5:=Lib.hid hp5; have HC5:=Lib.hid hc5; have HF5:=Lib.hid hf5
       have hal5 : (acc.app s).len=acc.len + 1:=by rw [S.app_len,hs1]
       have HMU:=Lib.hid (must_any [59] w' B bp bt z r hp5)
       clear hch' hmv' hp5 hc5 hf5 hes4 hx4 hes5 hx5 hlw
       cases hmu : must z [59] r with
       | bad en p=>
        have HEB:=Lib.hid (show bodyL z (st z) (ts.length + 1) .nil ts = .bad en p by rw [HE.out]; simp only [hmu])
        rw [hmu] at HMU
        clear hmu
        go_wp2_with fail
        refine HMU.out.mono ?_; intro e w6 he
        have HEE:=Lib.hid he
        obtain ⟨b,rfl⟩:=he.thrown
        clear he
        go_wp2_with fail
        refine ⟨rfl,?_⟩
        rw [HEB.out]
        exact HEE.out.relay HC5.out
       | ok u r2=>
        have hml:=must_len hmu
        have HEO:=Lib.hid (show bodyL z (st z) (ts.length + 1) .nil ts=bodyL z (st z) f (acc.app s) r2 by rw [HE.out]; simp only [hmu])
        rw [hmu] at HMU
        clear hmu
        go_wp2_with fail
        refine HMU.out.mono ?_; rintro _ w6 ⟨hc6,_,rfl,rfl,hp6⟩
        have HC6:=Lib.hid hc6; have HP6:=Lib.hid hp6
        clear hc6 hp6
        go_wp2_with fail
        have ho6:=owns_kept HO'.out HC6.out (fun g hg hm=>by have:=HF5.out g hg; simp at hm; omega)
        refine ⟨⟨f,acc.app s,_,r2,HEO.out,by omega,by rw [hal5]; omega,HP6.out,by rw [hal5]; exact ho6,(framed_S _ _).call HES5.out HC6.out hbp,HF5.out,HC5.out.then HC6.out⟩,?_⟩
        rw [HP6.out.cnt,HP.out.cnt]
        omega
theorem body_deep (w:World) (B bp bt z:Nat) (ts:List Tok) (h:Par w B bp bt z ts) :
  Calls Tryz.prog 106 #[ptr bp,.int .i64 (11:Nat)] w (Ended w B bp bt z (.bad 4 (hd z ts):R S) (fun w' s v=>SlAt w' (New w w') s v)):=by
 have HF:=Lib.hid (fail_any 4 w B bp bt z ts h)
 clear h
 go_enter Tryz.func106,Tryz.ntmps106
 go_wp2_with fail
 refine HF.out.mono ?_; intro e w6 he
 have HEE:=Lib.hid he
 obtain ⟨b,rfl⟩:=he.thrown
 clear he
 go_wp2_with fail
 refine ⟨rfl,?_⟩
 exact HEE.out.relay (Chg.refl _ _)
theorem bodies_any : ∀ d deep,deep + d=11→BodyOK deep d∧(0 < d→RestOK deep d):=by
 intro d
 induction d with
 | zero=>
  intro deep h
  obtain rfl : deep=11:=by omega
  exact ⟨fun w B bp bt z ts hp=>body_deep w B bp bt z ts hp,fun h=>by omega⟩
 | succ d ih=>
  intro deep h
  have hB:=(ih (deep + 1) (by omega)).1
  have hR:RestOK (deep + 1) d∨d=0:=by
   rcases Nat.eq_zero_or_pos d with h0 | h0
   ·exact .inr h0
   ·exact .inl ((ih (deep + 1) (by omega)).2 h0)
  have hRR:=rest_step deep d (by omega) hB hR
  refine ⟨?_,fun _=>hRR⟩
  have hS:=stmt_step deep d (by omega) hB hRR
  exact fun w B bp bt z ts hp=>body_of deep (by omega) _ hS (fun z=>stmt_mono (bodies_mono z d).1 (bodies_mono z (d + 1)).2) (fun z ts s r hx=>stmt_len hx) w B bp bt z ts hp
theorem body0_any (w:World) (B bp bt z:Nat) (ts:List Tok) (h:Par w B bp bt z ts) :
  Calls Tryz.prog 106 #[ptr bp,.int .i64 0] w (Ended w B bp bt z (body0 z ts) (fun w' s v=>SlAt w' (New w w') s v)):=
 (bodies_any 11 0 rfl).1 w B bp bt z ts h
end Go.Proofs.YtojkkgghndeimaaGreatDoor
namespace Go.Proofs.YtojkkgghndeimaaGreatDoor
open Go Go.RowKit Go.Mq Go.Mq.Tree
set_option maxRecDepth 100000
set_option maxHeartbeats 8000000
theorem infoGlob : (Tryz.prog.info? 84).map (fun i=>(i.zero,i.size,i.bytes))=some (some (.agg #[.string ⟨#[]⟩,.int .i64 0,.int .i64 0,.bool false]),4,40):=by kernel_rfl
theorem vars_any (w:World) (B bp bt z:Nat) (ts:List Tok) (h:Par w B bp bt z ts) :
  Calls Tryz.prog 103 #[ptr bp] w (Ended w B bp bt z (varsL z 11 [] ts) (fun w' l v=>GlobsAt w' (New w w') l v)):=by
 have H:=Lib.hid h
 have hB:=h.laid.le
 have hbp:=h.bp_lt
 have hbt:=h.bt_lt
 clear h
 go_enter Tryz.func103,Tryz.ntmps103
 go_wp2_with fail
 go_loopw [3] (fun l wr=>∃ (f:Nat) (acc:List Glob) (ts':List Tok),varsL z 11 [] ts=varsL z f acc ts'∧f + acc.length=11∧acc.length≤10 ∧
   Par wr B bp bt z ts'∧wr.ownsRow 0 84 4 l acc.length (acc.flatMap Glob.cells)∧From w.heap.size l∧Chg [bp] w wr) (fun l _=>11 - lenOf l)
 case atStart=>exact ⟨11,[],ts,rfl,rfl,Nat.zero_le _,H.out,World.ownsRow_nil _ _ _ _,From.nil _,Chg.refl _ _⟩
 case round=>
  obtain ⟨f,acc,ts',hr,hf,ha,hp,ho,hF,hC⟩:=hrel
  have HR:=Lib.hid hr; have HP:=Lib.hid hp; have HO:=Lib.hid ho; have HF:=Lib.hid hF; have HC:=Lib.hid hC
  obtain ⟨sa,sc,hs⟩:=slice_of_owns ho
  have hsz:=hC.size
  clear hr hp ho hF hC
  subst hs
  obtain ⟨f,rfl⟩ : ∃ f',f=f' + 1:=⟨f - 1,by omega⟩
  have HT:=Lib.hid (take_any [118,97,114] wr B bp bt z ts' HP.out)
  cases hk : see [118,97,114] ts' with
  | false=>
   have HRR:=Lib.hid (show varsL z 11 [] ts = .ok acc ts' by rw [HR.out,varsL,if_neg (by rw [hk]; simp)])
   have HI:=Lib.hid hk
   clear hk
   go_wp2_with fail
   refine HT.out.mono ?_; rintro _ w1 ⟨rfl,_,_,hw⟩
   rw [HI.out]
   have hw':=(hw HI.out).symm; subst hw'; clear hw
   go_wp2_with fail
   go_ret
   rw [HRR.out]
   obtain ⟨a,c,he,hac,hrow⟩:=Row.of_owns HO.out (new_owns HO.out HF.out)
   cases he
   exact ⟨HC.out,_,rfl,⟨_,_,rfl,hac,hrow⟩,HP.out⟩
  | true=>
   obtain ⟨t1,ht1⟩ : ∃ t1,t1=ts'.tail:=⟨_,rfl⟩
   have HI:=Lib.hid hk
   cases he : decide (acc.length=10) with
   | true=>
    have he1 : ((acc.length:Int) == 10)=true:=by have:=of_decide_eq_true he; simp [this]
    have HRR:=Lib.hid (show varsL z 11 [] ts = .bad 4 (hd z t1) by rw [HR.out,varsL,if_pos hk,if_pos (of_decide_eq_true he),ht1])
    clear he hk
    go_wp2_with fail
    refine HT.out.mono ?_; rintro _ w1 ⟨rfl,hp1,hc1,_⟩
    rw [HI.out]
    rw [skip,HI.out,if_pos rfl,← ht1] at hp1
    have HC1:=Lib.hid hc1; have HP1:=Lib.hid hp1
    clear hp1 hc1
    go_wp2_with fail
    refine (fail_any 4 _ B bp bt z t1 HP1.out).mono ?_; intro e w2 he
    have HE:=Lib.hid he
    obtain ⟨b,rfl⟩:=he.thrown
    clear he
    go_wp2_with fail
    refine ⟨rfl,?_⟩
    rw [HRR.out]
    exact HE.out.relay (HC.out.then HC1.out)
   | false=>
    have he1 : ((acc.length:Int) == 10)=false:=by have:=of_decide_eq_false he; simp; omega
    have hne:=of_decide_eq_false he
    have HG:Hid (∀ q,glob z t1=q→varsL z 11 [] ts=match q with | .bad e p=>.bad e p | .ok g r=>varsL z f (acc ++ [g]) r):=Lib.hid (fun q hq=>by rw [HR.out,varsL,if_pos hk,if_neg hne,← ht1,hq]; cases q <;> rfl)
    clear he hk
    go_wp2_with fail
    refine HT.out.mono ?_; rintro _ w1 ⟨rfl,hp1,hc1,_⟩
    rw [HI.out]
    rw [skip,HI.out,if_pos rfl,← ht1] at hp1
    obtain ⟨off,c,nn,c0,c2⟩:=par_at hp1
    have hG : wr.heap.size≤w1.heap.size:=hc1.size
    have hgp : w1.heap.size≠bp:=by omega
    have hgt : w1.heap.size≠bt:=by omega
    obtain ⟨w2,hw2⟩ : ∃ w2,w2=w1.alloc (.cells #[str [],.int .i64 (hd z t1),.int .i64 0,.bool false] 84):=⟨_,rfl⟩
    have HC2:Hid (Chg [bp] wr w2):=Lib.hid (by rw [hw2]; exact hc1.alloc _)
    have HP2:Hid (Par w2 B bp bt z t1):=Lib.hid (by rw [hw2]; exact hp1.kept ((Chg.refl [] w1).alloc _) (by simp) (by simp) (by simp))
    have HB2:Hid (Blk w2 w1.heap.size #[str [],.int .i64 (hd z t1),.int .i64 0,.bool false] 84):=Lib.hid (by rw [hw2]; exact Blk.new _ _ _)
    have HN:=Lib.hid (name_any w2 B bp bt z t1 HP2.out)
    clear hp1 hc1 ht1
    go_wp2_with fail
    try rw [← hw2]
    refine HN.out.mono ?_; intro e w3 he
    rcases he.part with ⟨en,q,b9,rfl,hx,HEE⟩ | ⟨aK,rK,hx,he⟩
    ·go_wp2_with fail; exact ⟨rfl,by rw [show varsL z 11 [] ts = .bad en q by rw [HG.out _ (show glob z t1 = .bad en q by rw [glob]; simp only [hx.out])]]; exact HEE.out.relay (HC.out.then HC2.out)⟩
    obtain ⟨n,rfl⟩ : ∃ n,n=aK:=⟨aK,rfl⟩
    obtain ⟨r1,rfl⟩ : ∃ r1,r1=rK:=⟨rK,rfl⟩
    have HX1:=hx
    obtain ⟨hc3,_,rfl,rfl,hp3⟩:=he
    clear hx
    have hb3:=HB2.out.kept hc3 (by simp; omega)
    have f0:=hb3.frozen 0; have e0:=hb3.cell 0 _ rfl
    obtain ⟨w3b,hw3⟩ : ∃ w3b,w3b=w3.setCell ⟨w1.heap.size,0,none⟩ (str n):=⟨_,rfl⟩
    have HB3:Hid (Blk w3b w1.heap.size #[str n,.int .i64 (hd z t1),.int .i64 0,.bool false] 84):=Lib.hid (by rw [hw3]; simpa using hb3.set 0 (str n))
    have HP3:Hid (Par w3b B bp bt z r1):=Lib.hid (by rw [hw3]; exact hp3.kept (Chg.set1 w3 w1.heap.size 0 (str n)) (fun x hx=>by simp at hx; omega) (by simp; omega) (by simp; omega))
    have HC3:Hid (Chg [bp] wr w3b):=Lib.hid (by rw [hw3]; exact (HC2.out.then hc3).trans (Chg.set1 w3 w1.heap.size 0 (str n)) (fun x hx=>.inr (by simp at hx; omega)))
    have HTS:=Lib.hid (take_any [42] w3b B bp bt z r1 HP3.out)
    clear hb3 hc3 hp3
    go_wp2_with fail
    rw [← hw3]
    clear f0 e0 hw3
    refine HTS.out.mono ?_; rintro _ w4 ⟨rfl,hp4,hc4,_⟩
    have hb4:=HB3.out.kept hc4 (by simp; omega)
    have f3:=hb4.frozen 3; have e3:=hb4.cell 3 _ rfl
    obtain ⟨w4b,hw4⟩ : ∃ w4b,w4b=w4.setCell ⟨w1.heap.size,3,none⟩ (.bool (see [42] r1)):=⟨_,rfl⟩
    have HB4a:Hid (Blk w4b w1.heap.size #[str n,.int .i64 (hd z t1),.int .i64 0,.bool (see [42] r1)] 84):=Lib.hid (by rw [hw4]; simpa using hb4.set 3 (.bool (see [42] r1)))
    have HP4a:Hid (Par w4b B bp bt z (skip [42] r1)):=Lib.hid (by rw [hw4]; exact hp4.kept (Chg.set1 w4 w1.heap.size 3 (.bool (see [42] r1))) (fun x hx=>by simp at hx; omega) (by simp; omega) (by simp; omega))
    have HC4a:Hid (Chg [bp] wr w4b):=Lib.hid (by rw [hw4]; exact (HC3.out.then hc4).trans (Chg.set1 w4 w1.heap.size 3 (.bool (see [42] r1))) (fun x hx=>.inr (by simp at hx; omega)))
    have HMC:=Lib.hid (must_any [58] w4b B bp bt z (skip [42] r1) HP4a.out)
    clear hb4 hc4 hp4
    go_wp2_with fail
    rw [← hw4]
    refine HMC.out.mono ?_; intro e w5 he
    rcases he.part with ⟨en,q,b9,rfl,hx,HEE⟩ | ⟨aK,rK,hx,he⟩
    ·go_wp2_with fail; exact ⟨rfl,by rw [show varsL z 11 [] ts = .bad en q by rw [HG.out _ (show glob z t1 = .bad en q by rw [glob]; simp only [HX1.out,hx.out])]]; exact HEE.out.relay (HC.out.then HC4a.out)⟩
    obtain ⟨r2,rfl⟩ : ∃ r2,r2=rK:=⟨rK,rfl⟩
    have HX2:=hx
    clear f3 e3 hw4
    obtain ⟨hc5,_,rfl,rfl,hp5⟩:=he
    clear hx
    have HB4:=Lib.hid (HB4a.out.kept hc5 (by simp; omega)); have HC4:=Lib.hid (HC4a.out.then hc5); have HP4:=Lib.hid hp5
    clear hc5 hp5
    have HT5:=Lib.hid (take_any [97,114,114,97,121] w5 B bp bt z r2 HP4.out)
    cases hk : see [97,114,114,97,121] r2 with
    | true=>
     have HI5:=Lib.hid hk
     clear hk
     go_wp2_with fail
     refine HT5.out.mono ?_; rintro _ w5 ⟨rfl,hp5,hc5,_⟩
     rw [HI5.out]
     rw [skip,HI5.out,if_pos rfl] at hp5
     have HC5:=Lib.hid (HC4.out.then hc5); have HP5:=Lib.hid hp5; have HB5:=Lib.hid (HB4.out.kept hc5 (by simp; omega))
     clear hp5 hc5
     have HN:=Lib.hid (number_any 30 w5 B bp bt z r2.tail HP5.out)
     cases hx : number z 30 r2.tail with
     | bad en q=>
      have HRR:=Lib.hid (show varsL z 11 [] ts = .bad en q by rw [HG.out _ (show glob z t1 = .bad en q by rw [glob]; simp only [HX1.out,HX2.out,kindOf,HI5.out,if_true,hx])])
      rw [hx] at HN
      clear hx
      go_wp2_with fail
      refine HN.out.mono ?_; intro e w9 he
      have HEE:=Lib.hid he
      obtain ⟨b9,rfl⟩:=he.thrown
      clear he
      go_wp2_with fail
      refine ⟨rfl,?_⟩
      rw [HRR.out]
      exact HEE.out.relay (HC.out.then HC5.out)
     | ok aK rK=>
      obtain ⟨m,rfl⟩ : ∃ m,m=aK:=⟨aK,rfl⟩
      obtain ⟨r3,rfl⟩ : ∃ r3,r3=rK:=⟨rK,rfl⟩
      have HXN:=Lib.hid hx
      rw [hx] at HN
      clear hx
      have hb5:=HB5.out
      cases hz : decide (m=0) with
      | true=>
       have hz1 : (m == 0)=true:=by have:=of_decide_eq_true hz; simp [this]
       have HRR:=Lib.hid (HG.out _ (show glob z t1 = .bad 2 (hd z r3) by rw [glob]; simp only [HX1.out,HX2.out,kindOf,HI5.out,if_true,HXN.out,of_decide_eq_true hz]))
       clear hz
       go_wp2_with fail
       refine HN.out.mono ?_; rintro _ w6 ⟨hc6,_,rfl,rfl,hp6⟩
       have hb6:=hb5.kept hc6 (by simp; omega)
       have f2:=hb6.frozen 2; have e2:=hb6.cell 2 _ rfl
       have HP6:=Lib.hid (hp6.kept (Chg.set1 w6 w1.heap.size 2 (.int .i64 m)) (fun x hx=>by simp at hx; omega) (by simp; omega) (by simp; omega))
       have HC6:=Lib.hid ((HC5.out.then hc6).trans (Chg.set1 w6 w1.heap.size 2 (.int .i64 m)) (fun x hx=>.inr (by simp at hx; omega)))
       clear hb5 hb6 hc6 hp6
       go_wp2_with fail
       refine (fail_any 2 _ B bp bt z r3 HP6.out).mono ?_; intro e w9 he
       have HEE:=Lib.hid he
       obtain ⟨b9,rfl⟩:=he.thrown
       clear he
       go_wp2_with fail
       refine ⟨rfl,?_⟩
       rw [HRR.out]
       exact HEE.out.relay (HC.out.then HC6.out)
      | false=>
       have hz1 : (m == 0)=false:=by have:=of_decide_eq_false hz; simp [this]
       have HK3:=Lib.hid (show kindOf z r2 = .ok m r3 by simp only [kindOf,HI5.out,if_true,HXN.out,if_neg (of_decide_eq_false hz)])
       clear hz
       go_wp2_with fail
       refine HN.out.mono ?_; rintro _ w6 ⟨hc6,_,rfl,rfl,hp6⟩
       have hb6:=hb5.kept hc6 (by simp; omega)
       have f2:=hb6.frozen 2; have e2:=hb6.cell 2 _ rfl
       have HB6:Hid (Blk (w6.setCell ⟨w1.heap.size,2,none⟩ (.int .i64 m)) w1.heap.size #[str n,.int .i64 (hd z t1),.int .i64 m,.bool (see [42] r1)] 84):=Lib.hid (by simpa using hb6.set 2 (.int .i64 m))
       have HP6:=Lib.hid (hp6.kept (Chg.set1 w6 w1.heap.size 2 (.int .i64 m)) (fun x hx=>by simp at hx; omega) (by simp; omega) (by simp; omega))
       have HC6:=Lib.hid ((HC5.out.then hc6).trans (Chg.set1 w6 w1.heap.size 2 (.int .i64 m)) (fun x hx=>.inr (by simp at hx; omega)))
       clear hb5 hb6 hc6 hp6
       go_wp2_with fail
       have HMU4:=Lib.hid (must_any [59] _ B bp bt z r3 HP6.out)
       go_wp2_with fail
       refine HMU4.out.mono ?_; intro e w7 he
       rcases he.part with ⟨en,q,b9,rfl,hx,HEE⟩ | ⟨aK,rK,hx,he⟩
       ·go_wp2_with fail; exact ⟨rfl,by rw [show varsL z 11 [] ts = .bad en q by rw [HG.out _ (show glob z t1 = .bad en q by rw [glob]; simp only [HX1.out,HX2.out,HK3.out,hx.out])]]; exact HEE.out.relay (HC.out.then HC6.out)⟩
       have HRR:=Lib.hid (HG.out _ (show glob z t1 = .ok ⟨n,hd z t1,m,see [42] r1⟩ rK by rw [glob]; simp only [HX1.out,HX2.out,HK3.out,hx.out]))
       obtain ⟨hc7,_,rfl,rfl,hp7⟩:=he
       clear hx
       have hb7:=HB6.out.kept hc7 (by simp; omega)
       have d0:=hb7.cell 0 _ rfl; have d1:=hb7.cell 1 _ rfl; have d2:=hb7.cell 2 _ rfl; have d3:=hb7.cell 3 _ rfl
       have HC7:=Lib.hid (HC6.out.then hc7); have HP7:=Lib.hid hp7
       have ho7:=owns_kept HO.out HC7.out (fun g hg hm=>by have:=HF.out g hg; simp at hm; omega)
       have HO7:=Lib.hid (owns_kept ho7 ((Chg.refl [] w7).alloc (.cells #[str n,.int .i64 (hd z t1),.int .i64 m,.bool (see [42] r1)] 84)) (by simp))
       clear hc7 hp7 ho7 hb7
       go_wp2_with (at_builtin; go_must (refine wpL_append rfl _ _ 27 rfl 84 _ 4 40 infoGlob Tryz.underlying27 rfl (by decide) _ _ _ rfl HO7.out ⟨w7.heap.size,0,none⟩ 1 1 [str n,.int .i64 (hd z t1),.int .i64 m,.bool (see [42] r1)] rfl rfl (cells_new _ _ _) (by simp [Value.oneCell']) ?_ ?_ ?_))
       ·omega
       ·unfold maxLen; omega
       ·intro v' w' hown' hch' hmv'
        have HO':=Lib.hid hown'; clear hown'
        obtain ⟨hp8,hc8,hf8⟩:=grow_step hB hbp hbt HC.out HC7.out HP7.out HF.out hch' hmv'
        have HP8:=Lib.hid hp8; have HC8:=Lib.hid hc8; have HF8:=Lib.hid hf8
        clear hch' hmv' hp8 hc8 hf8
        go_wp2_with fail
        have hl8 : lenOf v'=acc.length + 1:=lenOf_owns HO'.out
        refine ⟨⟨f,acc ++ [⟨n,hd z t1,m,see [42] r1⟩],rK,HRR.out,by simp; omega,by simp; omega,HP8.out,by simpa [Glob.cells] using HO'.out,HF8.out,HC8.out⟩,?_⟩
        rw [hl8]; simp only [lenOf]; omega
    | false=>
     have HI5:=Lib.hid hk
     clear hk
     go_wp2_with fail
     refine HT5.out.mono ?_; rintro _ w5 ⟨rfl,_,_,hw⟩
     rw [HI5.out]
     have hw':=(hw HI5.out).symm; subst hw'; clear hw
     have HMI:=Lib.hid (must_any [105,110,116] _ B bp bt z r2 HP4.out)
     go_wp2_with fail
     refine HMI.out.mono ?_; intro e w6 he
     rcases he.part with ⟨en,q,b9,rfl,hx,HEE⟩ | ⟨aK,rK,hx,he⟩
     ·go_wp2_with fail; exact ⟨rfl,by rw [show varsL z 11 [] ts = .bad en q by rw [HG.out _ (show glob z t1 = .bad en q by rw [glob]; simp only [HX1.out,HX2.out,kindOf,HI5.out,Bool.false_eq_true,if_false,hx.out])]]; exact HEE.out.relay (HC.out.then HC4.out)⟩
     obtain ⟨r3,rfl⟩ : ∃ r3,r3=rK:=⟨rK,rfl⟩
     have HK3:=Lib.hid (show kindOf z r2 = .ok 0 r3 by simp only [kindOf,HI5.out,Bool.false_eq_true,if_false,hx.out])
     obtain ⟨hc6,_,rfl,rfl,hp6⟩:=he
     clear hx
     have HB6:=Lib.hid (HB4.out.kept hc6 (by simp; omega)); have HC6:=Lib.hid (HC4.out.then hc6); have HP6:=Lib.hid hp6
     clear hc6 hp6
     have HMU4:=Lib.hid (must_any [59] w6 B bp bt z r3 HP6.out)
     go_wp2_with fail
     refine HMU4.out.mono ?_; intro e w7 he
     rcases he.part with ⟨en,q,b9,rfl,hx,HEE⟩ | ⟨aK,rK,hx,he⟩
     ·go_wp2_with fail; exact ⟨rfl,by rw [show varsL z 11 [] ts = .bad en q by rw [HG.out _ (show glob z t1 = .bad en q by rw [glob]; simp only [HX1.out,HX2.out,HK3.out,hx.out])]]; exact HEE.out.relay (HC.out.then HC6.out)⟩
     have HRR:=Lib.hid (HG.out _ (show glob z t1 = .ok ⟨n,hd z t1,0,see [42] r1⟩ rK by rw [glob]; simp only [HX1.out,HX2.out,HK3.out,hx.out]))
     obtain ⟨hc7,_,rfl,rfl,hp7⟩:=he
     clear hx
     have hb7:=HB6.out.kept hc7 (by simp; omega)
     have d0:=hb7.cell 0 _ rfl; have d1:=hb7.cell 1 _ rfl; have d2:=hb7.cell 2 _ rfl; have d3:=hb7.cell 3 _ rfl
     have HC7:=Lib.hid (HC6.out.then hc7); have HP7:=Lib.hid hp7
     have ho7:=owns_kept HO.out HC7.out (fun g hg hm=>by have:=HF.out g hg; simp at hm; omega)
     have HO7:=Lib.hid (owns_kept ho7 ((Chg.refl [] w7).alloc (.cells #[str n,.int .i64 (hd z t1),.int .i64 0,.bool (see [42] r1)] 84)) (by simp))
     clear hc7 hp7 ho7 hb7
     go_wp2_with (at_builtin; go_must (refine wpL_append rfl _ _ 27 rfl 84 _ 4 40 infoGlob Tryz.underlying27 rfl (by decide) _ _ _ rfl HO7.out ⟨w7.heap.size,0,none⟩ 1 1 [str n,.int .i64 (hd z t1),.int .i64 0,.bool (see [42] r1)] rfl rfl (cells_new _ _ _) (by simp [Value.oneCell']) ?_ ?_ ?_))
     ·omega
     ·unfold maxLen; omega
     ·intro v' w' hown' hch' hmv'
      have HO':=Lib.hid hown'; clear hown'
      obtain ⟨hp8,hc8,hf8⟩:=grow_step hB hbp hbt HC.out HC7.out HP7.out HF.out hch' hmv'
      have HP8:=Lib.hid hp8; have HC8:=Lib.hid hc8; have HF8:=Lib.hid hf8
      clear hch' hmv' hp8 hc8 hf8
      go_wp2_with fail
      have hl8 : lenOf v'=acc.length + 1:=lenOf_owns HO'.out
      refine ⟨⟨f,acc ++ [⟨n,hd z t1,0,see [42] r1⟩],rK,HRR.out,by simp; omega,by simp; omega,HP8.out,by simpa [Glob.cells] using HO'.out,HF8.out,HC8.out⟩,?_⟩
      rw [hl8]; simp only [lenOf]; omega
end Go.Proofs.YtojkkgghndeimaaGreatDoor
namespace Go.Mq.Tree
open Go Go.RowKit Go.Mq
theorem namesL_most {z most:Nat} : ∀ f l (ts:List Tok) a r,l.length≤most→namesL z most f l ts = .ok a r→a.length≤most:=by
 intro f
 induction f with
 | zero=>intro l ts a r _ h; cases h
 | succ f ih=>
  intro l ts a r hl h
  rw [namesL] at h
  split at h
  ·cases h
  ·rename_i hne
   cases hn : name z ts with
   | bad e q=>simp only [hn] at h; cases h
   | ok n r1=>
    simp only [hn] at h
    split at h
    ·exact ih _ _ _ _ (by simp; omega) h
    ·cases h; simp; omega
theorem names_most {z most:Nat} {ts r:List Tok} {l:List (List UInt8)} (h : names z most ts = .ok l r) : l.length≤most:=namesL_most _ _ _ _ _ (Nat.zero_le _) h
theorem sub_wrap {k:Nat} (h : k≤10):IntKind.i64.wrap (10 - (k:Int))=((10 - k:Nat):Int):=by
 simp only [IntKind.wrap,IntKind.bits,IntKind.signed]; simp; omega
theorem set6 {w:World} {b:Nat} (v0 v1 v2 v3 v4 v5:Value) {u0 u1 u2 u3 u4 u5:Value} {t:TypeId} (h:Blk w b #[u0,u1,u2,u3,u4,u5] t) : ∃ wF,((((((w.setCell ⟨b,0,none⟩ v0).setCell ⟨b,1,none⟩ v1).setCell ⟨b,2,none⟩ v2).setCell ⟨b,3,none⟩ v3).setCell ⟨b,4,none⟩ v4).setCell ⟨b,5,none⟩ v5)=wF∧Chg [b] w wF∧Blk wF b #[v0,v1,v2,v3,v4,v5] t:=
 ⟨_,rfl,(((((Chg.set1 _ _ _ _).then (Chg.set1 _ _ _ _)).then (Chg.set1 _ _ _ _)).then (Chg.set1 _ _ _ _)).then (Chg.set1 _ _ _ _)).then (Chg.set1 _ _ _ _),by
  have:=(((((h.set 0 v0).set 1 v1).set 2 v2).set 3 v3).set 4 v4).set 5 v5
  simpa using this⟩
end Go.Mq.Tree
namespace Go.Proofs.YtojkkgghndeimaaGreatDoor
open Go Go.RowKit Go.Mq Go.Mq.Tree
set_option maxRecDepth 100000
set_option maxHeartbeats 16000000
abbrev PV (w:World):World→Proc→Value→Prop:=fun w' x v=>∃ cs,v = .agg cs.toArray∧PrAt w' (New w w') x cs
theorem proc_any (w:World) (B bp bt z:Nat) (ts:List Tok) (h:Par w B bp bt z ts):Calls Tryz.prog 105 #[ptr bp] w (Ended w B bp bt z (proc z ts) (PV w)):=by
 have hbp:=h.bp_lt
 have hbt:=h.bt_lt
 have hB0:=h.laid.le
 have hBp:=h.bpB
 obtain ⟨off,c,nn,c0,c2⟩:=par_at h
 have hw1 : (w.alloc (.cells #[str [],.int .i64 0,.bool false,nils,nils,nils] 87)).heap.size=w.heap.size + 1:=by simp
 obtain ⟨w0,hw0⟩ : ∃ w0,w0=(w.alloc (.cells #[str [],.int .i64 0,.bool false,nils,nils,nils] 87)).alloc (.cells #[str [],.int .i64 (hd z ts),.bool false,nils,nils,nils] 87):=⟨_,rfl⟩
 have hb0:=Blk.new (w.alloc (.cells #[str [],.int .i64 0,.bool false,nils,nils,nils] 87)) #[str [],.int .i64 (hd z ts),.bool false,nils,nils,nils] 87
 rw [hw1,← hw0] at hb0
 have H0:Hid (Mk 87 w w0 B bp bt z ts #[str [],.int .i64 0,.bool false,nils,nils,nils] #[str [],.int .i64 (hd z ts),.bool false,nils,nils,nils] (fun _ _=>True)):=Lib.hid (by
  refine ⟨framed_true,hbp,hbt,?_,?_,hb0,?_,?_,trivial⟩
  ·rw [hw0]; exact ((Chg.refl _ _).alloc _).alloc _
  ·rw [hw0]; exact h.kept (((Chg.refl [] w).alloc _).alloc _) (by simp) (by simp) (by simp)
  ·rw [hw0]; exact (Blk.new w _ 87).kept ((Chg.refl [] _).alloc _) (by simp)
  ·rw [hw0]; simp)
 clear h hb0 hw1
 go_enter Tryz.func105,Tryz.ntmps105
 go_wp2_with fail
 clear c0 c2
 change Calls _ _ _ ((w.alloc (.cells #[str [],.int .i64 0,.bool false,nils,nils,nils] 87)).alloc (.cells #[str [],.int .i64 (hd z ts),.bool false,nils,nils,nils] 87)) _
 rw [← hw0]
 clear hw0
 have K:=Lib.hid (must_any [112,114,111,99] _ _ _ _ _ ts H0.out.par)
 go_wp2_with fail
 refine K.out.mono ?_; intro e w1 he
 rcases he.cut with ⟨en,q,b9,rfl,hx,HE⟩ | ⟨_,r1,_,rfl,X1,rfl,hc,hp⟩
 ·go_wp2_with fail; exact ⟨rfl,HE.out _ _ _ H0.out.chg (by simp only [proc,hx.out])⟩
 have H1:=Lib.hid (H0.out.step hc hp); clear hc hp K he
 have K:=Lib.hid (name_any _ _ _ _ _ _ H1.out.par)
 go_wp2_with fail
 refine K.out.mono ?_; intro e w2 he
 rcases he.cut with ⟨en,q,b9,rfl,hx,HE⟩ | ⟨n,r2,_,rfl,X2,rfl,hc,hp⟩
 ·go_wp2_with fail; exact ⟨rfl,HE.out _ _ _ H1.out.chg (by simp only [proc,X1.out,hx.out])⟩
 have H2:=Lib.hid (H1.out.step hc hp); clear hc hp K he
 have K:=Lib.hid (take_any [42] _ _ _ _ _ _ H2.out.par)
 go_wp2_with fail
 refine K.out.mono ?_; rintro _ w3 ⟨rfl,hp,hc,_⟩
 have H3a:=Lib.hid (H2.out.step hc hp); clear hc hp K
 obtain ⟨e0,_,e2,_⟩:=H3a.out.blk.six; obtain ⟨f0,_,f2,_⟩:=H3a.out.blk.free6
 obtain ⟨w3b,hw⟩ : ∃ w3b,w3b=(w3.setCell ⟨w.heap.size + 1,0,none⟩ (str n)).setCell ⟨w.heap.size + 1,2,none⟩ (.bool (see [42] r2)):=⟨_,rfl⟩
 have H3:=Lib.hid ((H3a.out.store 0 (str n)).store 2 (.bool (see [42] r2)))
 simp only [Array.setIfInBounds] at H3
 rw [← hw] at H3
 have K:=Lib.hid (must_any [40] _ _ _ _ _ _ H3.out.par)
 go_wp2_with fail
 rw [← hw]
 refine K.out.mono ?_; intro e w4 he
 rcases he.cut with ⟨en,q,b9,rfl,hx,HE⟩ | ⟨_,r4,_,rfl,X4,rfl,hc,hp⟩
 ·go_wp2_with fail; exact ⟨rfl,HE.out _ _ _ H3.out.chg (by simp only [proc,X1.out,X2.out,hx.out])⟩
 have H4:=Lib.hid (H3.out.step hc hp); clear hc hp K he
 clear e0 e2 f0 f2 hw
 have KT:=Lib.hid (take_any [41] _ _ _ _ _ _ H4.out.par)
 cases hk : see [41] r4
 case' true=>
  have HI:=Lib.hid hk
  clear hk
  go_wp2_with fail
  refine KT.out.mono ?_; rintro _ wP ⟨rfl,hp,hc,_⟩
  rw [HI.out]
  rw [skip,HI.out,if_pos rfl] at hp
  obtain ⟨rP,ps,a3,c3,hps,HP,HS⟩ : ∃ rP ps a3 c3,ps.length≤10∧Hid (params z r4 = .ok ps rP)∧Hid (Mk 87 w wP B bp bt z rP #[str [],.int .i64 0,.bool false,nils,nils,nils] #[str n,.int .i64 (hd z ts),.bool (see [42] r2),.slice a3 ps.length c3,nils,nils] (fun w F=>True∧NamesAt w F ps (.slice a3 ps.length c3))):=
   ⟨_,[],none,0,by simp,Lib.hid (by rw [params,if_pos HI.out]),Lib.hid ((H4.out.step hc hp).add (framed_Names [] nils) NamesAt.nil)⟩
  clear hc hp HI
 case' false=>
  have HI:=Lib.hid hk
  clear hk
  go_wp2_with fail
  refine KT.out.mono ?_; rintro _ w5 ⟨rfl,_,_,hw⟩
  rw [HI.out]
  have hw':=(hw HI.out).symm; subst hw'; clear hw
  have K:=Lib.hid (names_any 10 (by omega) _ _ _ _ _ _ H4.out.par)
  go_wp2_with fail
  refine K.out.mono ?_; intro e w5 he
  rcases he.cut with ⟨en,q,b9,rfl,hx,HE⟩ | ⟨ps,r5,_,rfl,X5,⟨a3,c3,rfl,hac,hv⟩,hc,hp⟩
  ·go_wp2_with fail; exact ⟨rfl,HE.out _ _ _ H4.out.chg (by simp only [proc,X1.out,X2.out,X4.out,params,HI.out,Bool.false_eq_true,if_false,hx.out])⟩
  have H5:=Lib.hid (H4.out.call hc hp (framed_Names ps (.slice a3 ps.length c3)) ⟨_,_,rfl,hac,hv⟩); clear hc hp K he
  have hps : ps.length≤10:=names_most X5.out
  clear hac hv
  obtain ⟨_,_,_,e3,_⟩:=H5.out.blk.six; obtain ⟨_,_,_,f3,_⟩:=H5.out.blk.free6
  obtain ⟨w6,hw⟩ : ∃ x,x=w5.setCell ⟨w.heap.size + 1,3,none⟩ (.slice a3 ps.length c3):=⟨_,rfl⟩
  have H6:=Lib.hid (H5.out.store 3 (.slice a3 ps.length c3))
  simp only [Array.setIfInBounds] at H6
  rw [← hw] at H6
  have K:=Lib.hid (must_any [41] _ _ _ _ _ _ H6.out.par)
  go_wp2_with fail
  rw [← hw]
  refine K.out.mono ?_; intro e w7 he
  rcases he.cut with ⟨en,q,b9,rfl,hx,HE⟩ | ⟨_,r7,_,rfl,X7,rfl,hc,hp⟩
  ·go_wp2_with fail; exact ⟨rfl,HE.out _ _ _ H6.out.chg (by simp only [proc,X1.out,X2.out,X4.out,params,HI.out,Bool.false_eq_true,if_false,X5.out,hx.out])⟩
  have HS:=Lib.hid (H6.out.step hc hp); clear hc hp K he
  have HP:=Lib.hid (show params z r4 = .ok ps r7 by simp only [params,HI.out,Bool.false_eq_true,if_false,X5.out,X7.out])
  obtain ⟨rP,rfl⟩ : ∃ x,x=r7:=⟨_,rfl⟩
  obtain ⟨wP,rfl⟩ : ∃ x,x=w7:=⟨_,rfl⟩
  clear e3 f3 hw HI
 all_goals
  clear KT
  have K:=Lib.hid (must_any [59] _ _ _ _ _ _ HS.out.par)
  go_wp2_with fail
  refine K.out.mono ?_; intro e w8 he
  rcases he.cut with ⟨en,q,b9,rfl,hx,HE⟩ | ⟨_,r8,_,rfl,X8,rfl,hc,hp⟩
  ·go_wp2_with fail; exact ⟨rfl,HE.out _ _ _ HS.out.chg (by simp only [proc,X1.out,X2.out,X4.out,HP.out,hx.out])⟩
  have H8:=Lib.hid (HS.out.step hc hp); clear hc hp K he
  have KT:=Lib.hid (take_any [118,97,114] _ _ _ _ _ _ H8.out.par)
  obtain ⟨_,_,_,e3,_⟩:=H8.out.blk.six
  cases hk : see [118,97,114] r8
  case' true=>
   have HI:=Lib.hid hk
   clear hk
   go_wp2_with fail
   refine KT.out.mono ?_; rintro _ w9 ⟨rfl,hp,hc,_⟩
   rw [HI.out]
   rw [skip,HI.out,if_pos rfl] at hp
   have H9:=Lib.hid (H8.out.step hc hp)
   clear hc hp e3
   obtain ⟨_,_,_,e3,_⟩:=H9.out.blk.six
   have hsub:=sub_wrap hps
   have K:=Lib.hid (names_any (10 - ps.length) (by omega) _ _ _ _ _ _ H9.out.par)
   go_wp2_with fail
   refine K.out.mono ?_; intro e w10 he
   rcases he.cut with ⟨en,q,b9,rfl,hx,HE⟩ | ⟨vs,r10,_,rfl,X10,⟨a4,c4,rfl,hac,hv⟩,hc,hp⟩
   ·go_wp2_with fail; exact ⟨rfl,HE.out _ _ _ H9.out.chg (by simp only [proc,X1.out,X2.out,X4.out,HP.out,X8.out,locals,HI.out,if_true,hx.out])⟩
   have H10:=Lib.hid (H9.out.call hc hp (framed_Names vs (.slice a4 vs.length c4)) ⟨_,_,rfl,hac,hv⟩); clear hc hp K he
   clear hac hv e3 hsub
   obtain ⟨_,_,_,_,e4,_⟩:=H10.out.blk.six; obtain ⟨_,_,_,_,f4,_⟩:=H10.out.blk.free6
   obtain ⟨w11,hw⟩ : ∃ x,x=w10.setCell ⟨w.heap.size + 1,4,none⟩ (.slice a4 vs.length c4):=⟨_,rfl⟩
   have H11:=Lib.hid (H10.out.store 4 (.slice a4 vs.length c4))
   simp only [Array.setIfInBounds] at H11
   rw [← hw] at H11
   have K:=Lib.hid (must_any [59] _ _ _ _ _ _ H11.out.par)
   go_wp2_with fail
   rw [← hw]
   refine K.out.mono ?_; intro e w12 he
   rcases he.cut with ⟨en,q,b9,rfl,hx,HE⟩ | ⟨_,r12,_,rfl,X12,rfl,hc,hp⟩
   ·go_wp2_with fail; exact ⟨rfl,HE.out _ _ _ H11.out.chg (by simp only [proc,X1.out,X2.out,X4.out,HP.out,X8.out,locals,HI.out,if_true,X10.out,hx.out])⟩
   have HT:=Lib.hid (H11.out.step hc hp); clear hc hp K he
   have HL:=Lib.hid (show locals z (10 - ps.length) r8 = .ok vs r12 by simp only [locals,HI.out,if_true,X10.out,X12.out])
   obtain ⟨rL,rfl⟩ : ∃ x,x=r12:=⟨_,rfl⟩
   obtain ⟨wL,rfl⟩ : ∃ x,x=w12:=⟨_,rfl⟩
   clear e4 f4 hw HI
  case' false=>
   have HI:=Lib.hid hk
   clear hk
   go_wp2_with fail
   refine KT.out.mono ?_; rintro _ w9 ⟨rfl,_,_,hw⟩
   rw [HI.out]
   have hw':=(hw HI.out).symm; subst hw'; clear hw e3
   obtain ⟨rL,vs,a4,c4,HL,HT⟩ : ∃ rL vs a4 c4,Hid (locals z (10 - ps.length) r8 = .ok vs rL)∧Hid (Mk 87 w w8 B bp bt z rL #[str [],.int .i64 0,.bool false,nils,nils,nils] #[str n,.int .i64 (hd z ts),.bool (see [42] r2),.slice a3 ps.length c3,.slice a4 vs.length c4,nils] (fun w F=>(True∧NamesAt w F ps (.slice a3 ps.length c3))∧NamesAt w F vs (.slice a4 vs.length c4))):=
    ⟨_,[],none,0,Lib.hid (by simp only [locals,HI.out,Bool.false_eq_true,if_false]),Lib.hid (H8.out.add (framed_Names [] nils) NamesAt.nil)⟩
   obtain ⟨wL,rfl⟩ : ∃ x,x=w8:=⟨_,rfl⟩
   clear HI
  all_goals
   clear KT
   have K:=Lib.hid (must_any [98,101,103,105,110] _ _ _ _ _ _ HT.out.par)
   go_wp2_with fail
   refine K.out.mono ?_; intro e w13 he
   rcases he.cut with ⟨en,q,b9,rfl,hx,HE⟩ | ⟨_,r13,_,rfl,X13,rfl,hc,hp⟩
   ·go_wp2_with fail; exact ⟨rfl,HE.out _ _ _ HT.out.chg (by simp only [proc,X1.out,X2.out,X4.out,HP.out,X8.out,HL.out,block,hx.out])⟩
   have H13:=Lib.hid (HT.out.step hc hp); clear hc hp K he
   have K:=Lib.hid (body0_any _ _ _ _ _ _ H13.out.par)
   go_wp2_with fail
   refine K.out.mono ?_; intro e w14 he
   rcases he.cut with ⟨en,q,b9,rfl,hx,HE⟩ | ⟨b,r14,_,rfl,X14,⟨a5,c5,cs5,rfl,hv⟩,hc,hp⟩
   ·go_wp2_with fail; exact ⟨rfl,HE.out _ _ _ H13.out.chg (by simp only [proc,X1.out,X2.out,X4.out,HP.out,X8.out,HL.out,block,X13.out,hx.out])⟩
   have H14:=Lib.hid (H13.out.call hc hp (framed_Sl b (.slice a5 b.len c5)) ⟨_,_,_,rfl,hv⟩); clear hc hp K he
   clear hv
   obtain ⟨_,_,_,_,_,e5⟩:=H14.out.blk.six; obtain ⟨_,_,_,_,_,f5⟩:=H14.out.blk.free6
   obtain ⟨w15,hw⟩ : ∃ x,x=w14.setCell ⟨w.heap.size + 1,5,none⟩ (.slice a5 b.len c5):=⟨_,rfl⟩
   have H15:=Lib.hid (H14.out.store 5 (.slice a5 b.len c5))
   simp only [Array.setIfInBounds] at H15
   rw [← hw] at H15
   have K:=Lib.hid (must_any [101,110,100] _ _ _ _ _ _ H15.out.par)
   go_wp2_with fail
   rw [← hw]
   refine K.out.mono ?_; intro e w16 he
   rcases he.cut with ⟨en,q,b9,rfl,hx,HE⟩ | ⟨_,r16,_,rfl,X16,rfl,hc,hp⟩
   ·go_wp2_with fail; exact ⟨rfl,HE.out _ _ _ H15.out.chg (by simp only [proc,X1.out,X2.out,X4.out,HP.out,X8.out,HL.out,block,X13.out,X14.out,hx.out])⟩
   have H16:=Lib.hid (H15.out.step hc hp); clear hc hp K he
   clear e5 f5 hw
   have K:=Lib.hid (must_any [59] _ _ _ _ _ _ H16.out.par)
   go_wp2_with fail
   refine K.out.mono ?_; intro e w17 he
   rcases he.cut with ⟨en,q,b9,rfl,hx,HE⟩ | ⟨_,r17,_,rfl,X17,rfl,hc,hp⟩
   ·go_wp2_with fail; exact ⟨rfl,HE.out _ _ _ H16.out.chg (by simp only [proc,X1.out,X2.out,X4.out,HP.out,X8.out,HL.out,block,X13.out,X14.out,X16.out,hx.out])⟩
   have H17:=Lib.hid (H16.out.step hc hp); clear hc hp K he
   have HRR:=Lib.hid (show proc z ts = .ok ⟨n,hd z ts,see [42] r2,ps,vs,b⟩ r17 by simp only [proc,X1.out,X2.out,X4.out,HP.out,X8.out,HL.out,block,X13.out,X14.out,X16.out,X17.out])
   obtain ⟨d0,d1,d2,d3,d4,d5⟩:=H17.out.blk.six; obtain ⟨e0,e1,e2,e3,e4,e5⟩:=H17.out.res.six; obtain ⟨f0,f1,f2,f3,f4,f5⟩:=H17.out.res.free6
   go_wp2_with fail
   obtain ⟨wF,hwF,hcF,hbF⟩:=set6 (str n) (.int .i64 (hd z ts)) (.bool (see [42] r2)) (.slice a3 ps.length c3) (.slice a4 vs.length c4) (.slice a5 b.len c5) H17.out.res
   rw [hwF]
   clear hwF
   obtain ⟨g0,g1,g2,g3,g4,g5⟩:=hbF.six
   refine bodyPost_ret (v:=.agg #[str n,.int .i64 (hd z ts),.bool (see [42] r2),.slice a3 ps.length c3,.slice a4 vs.length c4,.slice a5 b.len c5]) (by simp [results,Tryz.results105,go_sem,g0,g1,g2,g3,g4,g5]) rfl ?_
   rw [HRR.out]
   have hq:=H17.out.fin hcF
   exact ⟨H17.out.chg.trans hcF (fun x hx=>.inr (by simp at hx; omega)),_,rfl,⟨_,rfl,_,_,_,rfl,hq.1.1.2,hq.1.2,hq.2⟩,H17.out.par.kept hcF (fun x hx=>by simp at hx; omega) (by simp; omega) (by simp; omega)⟩
end Go.Proofs.YtojkkgghndeimaaGreatDoor
namespace Go.Proofs.YtojkkgghndeimaaGreatDoor
open Go Go.RowKit Go.Mq Go.Mq.Tree
set_option maxRecDepth 100000
set_option maxHeartbeats 4000000
theorem letter_any (c:UInt8) (w:World):Calls Tryz.prog 142 #[.int .u8 c.toNat] w (fun e w'=>e = .returned (.bool (letter c))∧w'=w):=by
 obtain ⟨n,hn⟩ : ∃ n:Nat,n=c.toNat:=⟨_,rfl⟩
 have HL:=Lib.hid (show letter c=(decide (97≤n) && decide (n≤122)) by rw [letter,hn])
 rw [← hn]
 clear hn
 cases h1 : decide (97≤n) with
 | false=>
  have h1' : decide ((97:Int)≤(n:Int))=false:=by have:=of_decide_eq_false h1; simp; omega
  rw [h1] at HL
  clear h1
  go_enter Tryz.func142,Tryz.ntmps142
  go_wp2_with fail
  go_ret
  rw [HL.out]
  exact ⟨rfl,rfl⟩
 | true=>
  have h1' : decide ((97:Int)≤(n:Int))=true:=by have:=of_decide_eq_true h1; simp; omega
  have h2' : decide ((n:Int)≤122)=decide (n≤122):=by by_cases h : n≤122 <;> simp [h] <;> omega
  rw [h1] at HL
  clear h1
  go_enter Tryz.func142,Tryz.ntmps142
  go_wp2_with fail
  go_ret
  rw [HL.out,← h2']
  exact ⟨rfl,rfl⟩
theorem digit_any (c:UInt8) (w:World):Calls Tryz.prog 145 #[.int .u8 c.toNat] w (fun e w'=>e = .returned (.bool (digit c))∧w'=w):=by
 obtain ⟨n,hn⟩ : ∃ n:Nat,n=c.toNat:=⟨_,rfl⟩
 have HL:=Lib.hid (show digit c=(decide (48≤n) && decide (n≤57)) by rw [digit,hn])
 rw [← hn]
 clear hn
 cases h1 : decide (48≤n) with
 | false=>
  have h1' : decide ((48:Int)≤(n:Int))=false:=by have:=of_decide_eq_false h1; simp; omega
  rw [h1] at HL
  clear h1
  go_enter Tryz.func145,Tryz.ntmps145
  go_wp2_with fail
  go_ret
  rw [HL.out]
  exact ⟨rfl,rfl⟩
 | true=>
  have h1' : decide ((48:Int)≤(n:Int))=true:=by have:=of_decide_eq_true h1; simp; omega
  have h2' : decide ((n:Int)≤57)=decide (n≤57):=by by_cases h : n≤57 <;> simp [h] <;> omega
  rw [h1] at HL
  clear h1
  go_enter Tryz.func145,Tryz.ntmps145
  go_wp2_with fail
  go_ret
  rw [HL.out,← h2']
  exact ⟨rfl,rfl⟩
theorem alnum_any (c:UInt8) (w:World):Calls Tryz.prog 144 #[.int .u8 c.toNat] w (fun e w'=>e = .returned (.bool (letter c || digit c))∧w'=w):=by
 have HL:=Lib.hid (letter_any c w)
 have HD:=Lib.hid (digit_any c w)
 obtain ⟨n,hn⟩ : ∃ n:Nat,n=c.toNat:=⟨_,rfl⟩
 rw [← hn] at HL HD
 rw [← hn]
 clear hn
 cases h1 : letter c with
 | true=>
  rw [h1] at HL
  clear h1
  go_enter Tryz.func144,Tryz.ntmps144
  go_wp2_with fail
  refine HL.out.mono ?_; rintro _ w2 ⟨rfl,hw⟩
  have hw:=hw.symm; subst hw
  go_wp2_with fail
  go_ret
  exact ⟨rfl,rfl⟩
 | false=>
  rw [h1] at HL
  clear h1
  go_enter Tryz.func144,Tryz.ntmps144
  go_wp2_with fail
  refine HL.out.mono ?_; rintro _ w2 ⟨rfl,hw⟩
  have hw:=hw.symm; subst hw
  go_wp2_with fail
  refine HD.out.mono ?_; rintro _ w2 ⟨rfl,hw⟩
  have hw:=hw.symm; subst hw
  go_wp2_with fail
  go_ret
  exact ⟨rfl,rfl⟩
theorem run_any (f:UInt8→Bool) (F:FuncId) (hF : ∀ (cs:Array Value) (w:World),(callFunc F cs).run Tryz.prog w = .ok (.enter F cs) w) (w:World) (hc : ∀ c:UInt8,Calls Tryz.prog F #[.int .u8 c.toNat] w (fun e w'=>e = .returned (.bool (f c))∧w'=w))
  (l:List UInt8) (hl : l.length≤1099511627776):Calls Tryz.prog 143 #[str l,.func (.func F) #[] #[]] w (fun e w'=>e = .returned (.int .i64 (howN f l))∧w'=w):=by
 have HC:=Lib.hid hc
 obtain ⟨s,hs⟩ : ∃ s,s=bs l:=⟨_,rfl⟩
 have hsz : s.size=l.length:=by rw [hs]; rfl
 have HS:=Lib.hid hs
 show Calls Tryz.prog 143 #[.string (bs l),.func (.func F) #[] #[]] w _
 rw [← hs]
 clear hc hs
 go_enter Tryz.func143,Tryz.ntmps143
 go_wp2_with fail
 go_loopw [5] (fun v wr=>∃ k:Nat,v = .int .i64 k∧k≤l.length∧wr=w∧howN f l=k + howN f (l.drop k)) (fun v _=>l.length - (intOf v).toNat)
 case atStart=>exact ⟨0,rfl,Nat.zero_le _,rfl,by simp⟩
 case round=>
  obtain ⟨k,rfl,hk,rfl,hr⟩:=hrel
  have HR:=Lib.hid hr; clear hr
  by_cases hlt : k < l.length
  ·have hdec : decide ((k:Int) < (s.size:Int))=true:=by simp; omega
   obtain ⟨c,hcc⟩ : ∃ c,l[k]?=some c:=⟨l[k],List.getElem?_eq_getElem hlt⟩
   have hdrop : l.drop k=c :: l.drop (k + 1):=by
    rw [List.drop_eq_getElem_cons hlt]
    congr 1
    rw [List.getElem?_eq_getElem hlt] at hcc
    exact Option.some.inj hcc
   have hidx:=run_index_str (P:=Tryz.prog) Tryz.underlying9 (show s[k]?=some c by rw [HS.out,bs_get]; exact hcc)
   have HCL:=Lib.hid (HC.out c)
   obtain ⟨n,hn⟩ : ∃ n:Nat,n=c.toNat:=⟨_,rfl⟩
   rw [← hn] at hidx HCL
   clear hn hcc
   cases hf : f c with
   | true=>
    have HRR:=Lib.hid (show howN f l=(k + 1) + howN f (l.drop (k + 1)) by rw [HR.out,hdrop,howN,if_pos hf]; omega)
    rw [hf] at HCL
    clear hf hdrop
    go_wp2_with fail
    refine HCL.out.mono ?_; rintro _ w2 ⟨rfl,hw⟩
    have hw:=hw.symm; subst hw
    go_wp2_with fail
    exact ⟨⟨k + 1,by go_num,by omega,by first | rfl | trivial,HRR.out⟩,by simp [intOf]; omega⟩
   | false=>
    have HRR:=Lib.hid (show howN f l=k by rw [HR.out,hdrop,howN,if_neg (by rw [hf]; simp)]; rfl)
    rw [hf] at HCL
    clear hf hdrop
    go_wp2_with fail
    refine HCL.out.mono ?_; rintro _ w2 ⟨rfl,hw⟩
    have hw:=hw.symm; subst hw
    go_wp2_with fail
    go_ret
    rw [HRR.out]
    exact ⟨rfl,rfl⟩
  ·have hdec : decide ((k:Int) < (s.size:Int))=false:=by simp; omega
   have HRR:=Lib.hid (show howN f l=k by rw [HR.out,List.drop_eq_nil_of_le (by omega)]; rfl)
   go_wp2_with fail
   go_ret
   rw [HRR.out]
   exact ⟨rfl,rfl⟩
theorem marks_index (k:Nat) (hk : k < 18) (w:World) : (Instr.index 209 (.agg #[str [58,61],str [60,61],str [62,61],str [35],str [61],str [60],str [62],str [43],str [45],str [42],str [40],str [41],str [91],str [93],str [44],str [59],str [58],str [46]]) (.int .i64 k)).run Tryz.prog w = .ok (str (marks.getD k [])) w:=by
 match k,hk with
 | 0,_=>rfl
 | 1,_=>rfl
 | 2,_=>rfl
 | 3,_=>rfl
 | 4,_=>rfl
 | 5,_=>rfl
 | 6,_=>rfl
 | 7,_=>rfl
 | 8,_=>rfl
 | 9,_=>rfl
 | 10,_=>rfl
 | 11,_=>rfl
 | 12,_=>rfl
 | 13,_=>rfl
 | 14,_=>rfl
 | 15,_=>rfl
 | 16,_=>rfl
 | 17,_=>rfl
 | n + 18,h=>omega
end Go.Proofs.YtojkkgghndeimaaGreatDoor
namespace Go.Mq.Tree
open Go Go.RowKit Go.Mq
theorem prefix_eq (m l:List UInt8):Lib.hasPrefix l m=m.isPrefixOf l:=rfl
theorem nextK_letter {c:UInt8} {t:List UInt8} (h : letter c=true) : nextK (c :: t)=(.word,howN (fun c=>letter c || digit c) (c :: t)):=by rw [nextK,if_pos h]
theorem nextK_digit {c:UInt8} {t:List UInt8} (h : letter c=false) (h2 : digit c=true) : nextK (c :: t)=(.number,howN digit (c :: t)):=by rw [nextK,if_neg (by simp [h]),if_pos h2]
theorem nextK_mark {c:UInt8} {t:List UInt8} (h : letter c=false) (h2 : digit c=false) {m:List UInt8} (hm : marks.find? (fun m=>m.isPrefixOf (c :: t))=some m) : nextK (c :: t)=(.mark,m.length):=by
 rw [nextK,if_neg (by simp [h]),if_neg (by simp [h2]),hm]; rfl
theorem nextK_none {c:UInt8} {t:List UInt8} (h : letter c=false) (h2 : digit c=false) (hm : marks.find? (fun m=>m.isPrefixOf (c :: t))=none) : nextK (c :: t)=(.mark,0):=by
 rw [nextK,if_neg (by simp [h]),if_neg (by simp [h2]),hm]; rfl
end Go.Mq.Tree
namespace Go.Proofs.YtojkkgghndeimaaGreatDoor
open Go Go.RowKit Go.Mq Go.Mq.Tree
set_option maxRecDepth 100000
set_option maxHeartbeats 4000000
theorem enters35 : ∀ (cs:Array Value) (w:World),(callFunc 144 cs).run Tryz.prog w = .ok (.enter 144 cs) w:=fun cs w=>by kernel_rfl
theorem enters36 : ∀ (cs:Array Value) (w:World),(callFunc 145 cs).run Tryz.prog w = .ok (.enter 145 cs) w:=fun cs w=>by kernel_rfl
theorem next_any (c:UInt8) (t:List UInt8) (hl : (c :: t).length≤1099511627776) (w:World) (B:Nat) (hL:Laid w B) :
  Calls Tryz.prog 98 #[str (c :: t)] w (fun e w'=>e = .returned (.tuple #[.int .i64 (nextK (c :: t)).1.num,.int .i64 (nextK (c :: t)).2])∧w'=w):=by
 have HLE:=Lib.hid (letter_any c w)
 have HDI:=Lib.hid (digit_any c w)
 have HRW:=Lib.hid (run_any (fun c=>letter c || digit c) 144 enters35 w (fun c=>alnum_any c w) (c :: t) hl)
 have HRD:=Lib.hid (run_any digit 145 enters36 w (fun c=>digit_any c w) (c :: t) hl)
 obtain ⟨s,hs⟩ : ∃ s,s=bs (c :: t):=⟨_,rfl⟩
 have hidx:=run_index_str (P:=Tryz.prog) Tryz.underlying9 (k:=0) (c:=c) (show s[0]?=some c by rw [hs,bs_get]; rfl)
 have hidx : ∀ w,(Instr.index 9 (.string s) (.int .i64 0)).run Tryz.prog w = .ok (.int .u8 c.toNat) w:=hidx
 have hsz : s.size=t.length + 1:=by rw [hs]; rfl
 have HS:=Lib.hid hs
 show Calls Tryz.prog 98 #[.string (bs (c :: t))] w _
 have HRW:Hid (Calls Tryz.prog 143 #[.string s,.func (.func 144) #[] #[]] w (fun e w'=>e = .returned (.int .i64 (howN (fun c=>letter c || digit c) (c :: t)))∧w'=w)):=by rw [hs]; exact HRW
 have HRD:Hid (Calls Tryz.prog 143 #[.string s,.func (.func 145) #[] #[]] w (fun e w'=>e = .returned (.int .i64 (howN digit (c :: t)))∧w'=w)):=by rw [hs]; exact HRD
 rw [← hs]
 clear hs
 obtain ⟨n,hn⟩ : ∃ n:Nat,n=c.toNat:=⟨_,rfl⟩
 rw [← hn] at hidx HLE HDI
 clear hn
 cases h1 : letter c with
 | true=>
  have HRR:=Lib.hid (nextK_letter (t:=t) h1)
  rw [h1] at HLE
  clear h1
  go_enter Tryz.func98,Tryz.ntmps98
  go_wp2_with fail
  refine HLE.out.mono ?_; rintro _ w2 ⟨rfl,hw⟩
  have hw:=hw.symm; subst hw
  go_wp2_with fail
  refine HRW.out.mono ?_; rintro _ w2 ⟨rfl,hw⟩
  have hw:=hw.symm; subst hw
  go_wp2_with fail
  go_ret2
  rw [HRR.out]
  exact ⟨rfl,rfl⟩
 | false=>
  rw [h1] at HLE
  cases h2 : digit c with
  | true=>
   have HRR:=Lib.hid (nextK_digit (t:=t) h1 h2)
   rw [h2] at HDI
   clear h1 h2
   go_enter Tryz.func98,Tryz.ntmps98
   go_wp2_with fail
   refine HLE.out.mono ?_; rintro _ w2 ⟨rfl,hw⟩
   have hw:=hw.symm; subst hw
   go_wp2_with fail
   refine HDI.out.mono ?_; rintro _ w2 ⟨rfl,hw⟩
   have hw:=hw.symm; subst hw
   go_wp2_with fail
   refine HRD.out.mono ?_; rintro _ w2 ⟨rfl,hw⟩
   have hw:=hw.symm; subst hw
   go_wp2_with fail
   go_ret2
   rw [HRR.out]
   exact ⟨rfl,rfl⟩
  | false=>
   have HM:Hid (∀ m,marks.find? (fun m=>m.isPrefixOf (c :: t))=some m→nextK (c :: t)=(.mark,m.length)):=Lib.hid (fun m hm=>nextK_mark h1 h2 hm)
   have HN:Hid (marks.find? (fun m=>m.isPrefixOf (c :: t))=none→nextK (c :: t)=(.mark,0)):=Lib.hid (fun hm=>nextK_none h1 h2 hm)
   rw [h2] at HDI
   clear h1 h2
   have d0:=hL.marks 0 _ rfl
   have d1:=hL.marks 1 _ rfl
   have d2:=hL.marks 2 _ rfl
   have d3:=hL.marks 3 _ rfl
   have d4:=hL.marks 4 _ rfl
   have d5:=hL.marks 5 _ rfl
   have d6:=hL.marks 6 _ rfl
   have d7:=hL.marks 7 _ rfl
   have d8:=hL.marks 8 _ rfl
   have d9:=hL.marks 9 _ rfl
   have d10:=hL.marks 10 _ rfl
   have d11:=hL.marks 11 _ rfl
   have d12:=hL.marks 12 _ rfl
   have d13:=hL.marks 13 _ rfl
   have d14:=hL.marks 14 _ rfl
   have d15:=hL.marks 15 _ rfl
   have d16:=hL.marks 16 _ rfl
   have d17:=hL.marks 17 _ rfl
   have hml : marks.length=18:=rfl
   go_enter Tryz.func98,Tryz.ntmps98
   go_wp2_with fail
   refine HLE.out.mono ?_; rintro _ w2 ⟨rfl,hw⟩
   have hw:=hw.symm; subst hw
   go_wp2_with fail
   refine HDI.out.mono ?_; rintro _ w2 ⟨rfl,hw⟩
   have hw:=hw.symm; subst hw
   go_wp2_with fail
   clear d0 d1 d2 d3 d4 d5 d6 d7 d8 d9 d10 d11 d12 d13 d14 d15 d16 d17
   go_loopw [5,19] (fun _ i wr=>∃ k:Nat,k≤18∧i = .int .i64 k∧wr=w∧marks.find? (fun m=>m.isPrefixOf (c :: t))=(marks.drop k).find? (fun m=>m.isPrefixOf (c :: t))) (fun _ i _=>20 - (intOf i).toNat)
   case atStart=>exact ⟨0,Nat.zero_le _,rfl,rfl,rfl⟩
   case round=>
    obtain ⟨k,hk,rfl,rfl,hr⟩:=hrel
    have HR:=Lib.hid hr; clear hr
    by_cases hlt : k < 18
    ·have hmi:=marks_index k hlt
     have HX:=Lib.hid (Any.strings_HasPrefix Tryz.lays99 s (bs (marks.getD k [])) wr)
     have hm : marks[k]?=some (marks.getD k []):=by rw [List.getD_eq_getElem?_getD,List.getElem?_eq_getElem (by omega)]; rfl
     have hdr : marks.drop k=marks.getD k [] :: marks.drop (k + 1):=by
      rw [List.drop_eq_getElem_cons (by omega)]
      congr 1
      rw [List.getElem?_eq_getElem (by omega)] at hm
      exact Option.some.inj hm
     have HDR:=Lib.hid hdr
     have hml9 : (marks.getD k []).length≤2:=by
      have : ∀ m∈marks,m.length≤2:=by decide
      exact this _ (List.mem_of_getElem? hm)
     obtain ⟨m,hmm⟩ : ∃ m,m=marks.getD k []:=⟨_,rfl⟩
     rw [← hmm] at hmi HX HDR hml9
     have HX:Hid (Calls Tryz.prog 146 #[.string s,str m] wr (fun e w'=>e = .returned (.bool (m.isPrefixOf (c :: t)))∧w'=wr)):=Lib.hid (by
      have:=HX.out
      rw [HS.out,prefix_eq] at this
      rw [HS.out]
      exact this)
     clear hm hdr hmm
     cases hp : m.isPrefixOf (c :: t) with
     | true=>
      have HRR:=Lib.hid (HM.out m (by rw [HR.out,HDR.out,List.find?_cons,hp]))
      rw [hp] at HX
      clear hp
      go_wp2_with fail
      refine HX.out.mono ?_; rintro _ w2 ⟨rfl,hw⟩
      have hw:=hw.symm; subst hw
      go_wp2_with fail
      go_ret2
      rw [HRR.out]
      exact ⟨rfl,rfl⟩
     | false=>
      have HRR:=Lib.hid (show marks.find? (fun m=>m.isPrefixOf (c :: t))=(marks.drop (k + 1)).find? (fun m=>m.isPrefixOf (c :: t)) by rw [HR.out,HDR.out,List.find?_cons,hp])
      rw [hp] at HX
      clear hp
      go_wp2_with fail
      refine HX.out.mono ?_; rintro _ w2 ⟨rfl,hw⟩
      have hw:=hw.symm; subst hw
      go_wp2_with fail
      exact ⟨⟨k + 1,by omega,by go_num,by first | rfl | trivial,HRR.out⟩,by simp [intOf]; omega⟩
    ·have hge : k=18:=by omega
     have HRR:=Lib.hid (HN.out (by rw [HR.out,hge]; rfl))
     go_wp2_with fail
     go_ret2
     rw [HRR.out]
     exact ⟨rfl,rfl⟩
end Go.Proofs.YtojkkgghndeimaaGreatDoor
namespace Go.Mq.Tree
open Go Go.RowKit Go.Mq
theorem howN_le (f:UInt8→Bool) : ∀ l:List UInt8,howN f l≤l.length:=by
 intro l
 induction l with
 | nil=>exact Nat.le_refl _
 | cons c t ih=>rw [howN]; split <;> simp <;> omega
theorem nextK_le (l:List UInt8) : (nextK l).2≤l.length:=by
 cases l with
 | nil=>exact Nat.le_refl _
 | cons c t=>
  rw [nextK]
  split
  ·exact howN_le _ _
  ·split
   ·exact howN_le _ _
   ·cases h : marks.find? (fun m=>m.isPrefixOf (c :: t)) with
    | none=>simp
    | some m=>
     have:=List.find?_some h
     have:=(List.isPrefixOf_iff_prefix.1 this).length_le
     simpa using this
theorem gap_eq (c:UInt8) : gap c=(((c.toNat:Int) == 32) || ((c.toNat:Int) == 10)):=by
 have h1 : (c == 32)=((c.toNat:Int) == 32):=by
  by_cases h : c=32
  ·subst h; rfl
  ·have : c.toNat≠32:=fun h2=>h (UInt8.toNat_inj.1 (by rw [h2]; rfl))
   rw [beq_eq_false_iff_ne.2 h]
   symm
   simp; omega
 have h2 : (c == 10)=((c.toNat:Int) == 10):=by
  by_cases h : c=10
  ·subst h; rfl
  ·have : c.toNat≠10:=fun h2=>h (UInt8.toNat_inj.1 (by rw [h2]; rfl))
   rw [beq_eq_false_iff_ne.2 h]
   symm
   simp; omega
 rw [gap,h1,h2]
def LexR.ahead (acc:List Tok):LexR→LexR
 | .ok ts=>.ok (acc ++ ts)
 | .bad e p=>.bad e p
theorem lexL_nil (f i k:Nat) : lexL f i k [] = .ok []:=by cases f <;> rfl
theorem lexL_gap {f i k:Nat} {c:UInt8} {t:List UInt8} (h : gap c=true) : lexL (f + 1) i k (c :: t)=lexL f (i + 1) k t:=by simp only [lexL,h,if_true]
theorem lexL_none {f i k:Nat} {c:UInt8} {t:List UInt8} (h : gap c=false) (h2 : (nextK (c :: t)).2=0) : lexL (f + 1) i k (c :: t) = .bad 3 i:=by simp [lexL,h,h2]
theorem lexL_many {f i:Nat} {c:UInt8} {t:List UInt8} (h : gap c=false) (h2 : (nextK (c :: t)).2≠0) : lexL (f + 1) i 600 (c :: t) = .bad 4 i:=by simp [lexL,h,h2]
theorem lexL_tok {f i k:Nat} {c:UInt8} {t:List UInt8} (h : gap c=false) (h2 : (nextK (c :: t)).2≠0) (h3 : k≠600) (acc:List Tok) :
  (lexL (f + 1) i k (c :: t)).ahead acc=(lexL f (i + (nextK (c :: t)).2) (k + 1) ((c :: t).drop (nextK (c :: t)).2)).ahead (acc ++ [⟨(nextK (c :: t)).1,(c :: t).take (nextK (c :: t)).2,i⟩]):=by
 simp only [lexL,h,h2,h3,if_false,Bool.false_eq_true]
 cases lexL f (i + (nextK (c :: t)).2) (k + 1) ((c :: t).drop (nextK (c :: t)).2) with
 | ok ts=>simp [LexR.ahead]
 | bad e p=>rfl
def LexOut (w:World) (z:Nat) (r:LexR) (e:Ending) (w':World):Prop:=Chg [] w w'∧match r with
 | .ok ts=>∃ a c,e = .returned (.tuple #[.slice a (ts.length + 1) c,.nilIface])∧ts.length + 1≤c∧Row w' (New w w') a (toksCells z ts)∧ts.length≤600 ∧ ∀ t∈ts,t.text.length≤1099511627776
 | .bad en p=>∃ b,e = .returned (.tuple #[nils,.iface 167 (ptr b)])∧w.heap.size≤b∧Blk w' b #[.int .i64 en,.int .i64 p] 168
theorem toksCells_eq (z:Nat) : ∀ ts:List Tok,toksCells z ts=ts.flatMap Tok.cells ++ [.int .i64 4,str [],.int .i64 z]:=by
 intro ts
 induction ts with
 | nil=>rfl
 | cons t r ih=>rw [toksCells,ih,List.flatMap_cons,List.append_assoc]
end Go.Mq.Tree
namespace Go.Proofs.YtojkkgghndeimaaGreatDoor
open Go Go.RowKit Go.Mq Go.Mq.Tree
set_option maxRecDepth 100000
set_option maxHeartbeats 8000000
theorem infoTok : (Tryz.prog.info? 101).map (fun i=>(i.zero,i.size,i.bytes))=some (some (.agg #[.int .i64 0,.string ⟨#[]⟩,.int .i64 0]),3,32):=by kernel_rfl
theorem tokens_any (l:List UInt8) (hl : l.length≤1099511627776) (w:World) (B:Nat) (hL:Laid w B):Calls Tryz.prog 49 #[str l] w (LexOut w l.length (lex l)):=by
 obtain ⟨s,hs⟩ : ∃ s,s=bs l:=⟨_,rfl⟩
 have hsz : s.size=l.length:=by rw [hs]; rfl
 have HS:=Lib.hid hs
 have HL:=Lib.hid hL
 show Calls Tryz.prog 49 #[.string (bs l)] w _
 rw [← hs]
 clear hs hL
 go_enter Tryz.func49,Tryz.ntmps49
 go_wp2_with fail
 go_loopw [4,5,6,7] (fun lv iv _ _ wr=>∃ (f i:Nat) (acc:List Tok),iv = .int .i64 i∧i≤l.length∧lex l=(lexL f i acc.length (l.drop i)).ahead acc∧l.length - i≤f∧acc.length≤600∧(∀ t∈acc,t.text.length≤1099511627776) ∧
   wr.ownsRow 0 101 3 lv acc.length (acc.flatMap Tok.cells)∧From w.heap.size lv∧Chg [] w wr) (fun _ iv _ _ _=>l.length - (intOf iv).toNat)
 case atStart=>exact ⟨l.length,0,[],rfl,Nat.zero_le _,by rw [List.drop_zero,lex]; cases lexL l.length 0 0 l <;> rfl,Nat.sub_le _ _,Nat.zero_le _,fun _ h=>(by cases h),World.ownsRow_nil _ _ _ _,From.nil _,Chg.refl _ _⟩
 case round=>
  obtain ⟨f,i,acc,rfl,hi,hr,hf,ha,hsh,ho,hF,hC⟩:=hrel
  have HR:=Lib.hid hr; have HSH:=Lib.hid hsh; have HO:=Lib.hid ho; have HF:=Lib.hid hF; have HC:=Lib.hid hC
  obtain ⟨sa,sc,hsl⟩:=slice_of_owns ho
  have hsw:=hC.size
  clear hr hsh ho hF hC
  subst hsl
  by_cases hlt : i < l.length
  ·have hdec : decide ((i:Int) < (s.size:Int))=true:=by simp; omega
   obtain ⟨c,hcc⟩ : ∃ c,l[i]?=some c:=⟨l[i],List.getElem?_eq_getElem hlt⟩
   have hdrop : l.drop i=c :: l.drop (i + 1):=by
    rw [List.drop_eq_getElem_cons hlt]
    congr 1
    rw [List.getElem?_eq_getElem hlt] at hcc
    exact Option.some.inj hcc
   obtain ⟨f,rfl⟩ : ∃ f',f=f' + 1:=⟨f - 1,by omega⟩
   have hidx:=run_index_str (P:=Tryz.prog) Tryz.underlying9 (show s[i]?=some c by rw [HS.out,bs_get]; exact hcc)
   have HD:=Lib.hid hdrop
   have HBE:=Lib.hid (gap_eq c)
   obtain ⟨n0,hn0⟩ : ∃ n:Nat,n=c.toNat:=⟨_,rfl⟩
   rw [← hn0] at hidx HBE
   clear hn0 hcc hdrop
   cases hb : gap c with
   | true=>
    have HRR:=Lib.hid (show lex l=(lexL f (i + 1) acc.length (l.drop (i + 1))).ahead acc by rw [HR.out,HD.out,lexL_gap hb])
    rw [hb] at HBE
    clear hb
    cases h1 : ((n0:Int) == 32) with
    | true=>
     clear HBE
     go_wp2_with fail
     exact ⟨⟨f,i + 1,acc,by go_num,by omega,HRR.out,by omega,ha,HSH.out,HO.out,HF.out,HC.out⟩,by simp [intOf]; omega⟩
    | false=>
     have h2 : ((n0:Int) == 10)=true:=by have:=HBE.out; rw [h1] at this; simpa using this.symm
     clear HBE
     go_wp2_with fail
     exact ⟨⟨f,i + 1,acc,by go_num,by omega,HRR.out,by omega,ha,HSH.out,HO.out,HF.out,HC.out⟩,by simp [intOf]; omega⟩
   | false=>
    have hbe:=HBE.out
    rw [hb] at hbe
    obtain ⟨h1,h2⟩:=Bool.or_eq_false_iff.1 hbe.symm
    clear hbe
    clear HBE
    have hE1 : s.extract i l.length=bs (c :: l.drop (i + 1)):=by rw [HS.out,bs_extract,← HD.out]; congr 2; exact List.take_of_length_le (by simp)
    have hlen : (c :: l.drop (i + 1)).length=l.length - i:=by rw [← HD.out]; simp
    have HNX:=Lib.hid (next_any c (l.drop (i + 1)) (by rw [hlen]; omega) wr B (HL.out.kept HC.out (by simp)))
    have HLT:Hid (nextK (c :: l.drop (i + 1))=nextK (c :: l.drop (i + 1))):=Lib.hid rfl
    have hnl:=nextK_le (c :: l.drop (i + 1))
    rw [hlen] at hnl
    obtain ⟨kd,hkd⟩ : ∃ kd:Nat,kd=(nextK (c :: l.drop (i + 1))).1.num:=⟨_,rfl⟩
    obtain ⟨n,hn⟩ : ∃ n,n=(nextK (c :: l.drop (i + 1))).2:=⟨_,rfl⟩
    have HKD:=Lib.hid hkd; have HN:=Lib.hid hn
    rw [← hkd,← hn] at HNX
    rw [← hn] at hnl
    have HNX:Hid (Calls Tryz.prog 98 #[.string (s.extract i l.length)] wr (fun e w'=>e = .returned (.tuple #[.int .i64 kd,.int .i64 n])∧w'=wr)):=Lib.hid (by rw [hE1]; exact HNX.out)
    have HB:=Lib.hid hb
    have HNZ:Hid (n=0→lex l = .bad 3 i):=Lib.hid (fun h0=>by rw [HR.out,HD.out,lexL_none hb (by rw [← hn,h0])]; rfl)
    have HNM:Hid (n≠0→acc.length=600→lex l = .bad 4 i):=Lib.hid (fun h0 h6=>by rw [HR.out,HD.out,h6,lexL_many hb (by rw [← hn]; exact h0)]; rfl)
    have HNT:Hid (∀ tx,s.extract i (i + n)=bs tx→n≠0→acc.length≠600→lex l=(lexL f (i + n) (acc.length + 1) (l.drop (i + n))).ahead (acc ++ [⟨(nextK (c :: l.drop (i + 1))).1,tx,i⟩])):=Lib.hid (fun tx htx h0 h6=>by
     rw [HR.out,HD.out,lexL_tok hb (by rw [← hn]; exact h0) h6,← hn,← HD.out,List.drop_drop]
     have htx' : tx=(l.drop i).take n:=by
      rw [HS.out,bs_extract,Nat.add_sub_cancel_left] at htx
      have h9:=ByteArray.mk.inj htx
      exact (by simpa using congrArg Array.toList h9.symm)
     rw [htx'])
    clear hkd hn hb hE1 HLT
    by_cases h0 : n=0
    ·have hz : ((n:Int) == 0)=true:=by simp [h0]
     have HRR:=Lib.hid (HNZ.out h0)
     clear h0
     go_wp2_with fail
     refine HNX.out.mono ?_; rintro _ w2 ⟨rfl,hw⟩
     have hw:=hw.symm; subst hw
     go_wp2_with fail
     go_ret2
     rw [HRR.out]
     exact ⟨HC.out.alloc _,_,rfl,hsw,Blk.new _ _ _⟩
    ·have hz : ((n:Int) == 0)=false:=by simp [h0]
     by_cases h6 : acc.length=600
     ·have h6' : ((acc.length:Int) == 600)=true:=by simp [h6]
      have HRR:=Lib.hid (HNM.out h0 h6)
      clear h0 h6
      go_wp2_with fail
      refine HNX.out.mono ?_; rintro _ w2 ⟨rfl,hw⟩
      have hw:=hw.symm; subst hw
      go_wp2_with fail
      go_ret2
      rw [HRR.out]
      exact ⟨HC.out.alloc _,_,rfl,hsw,Blk.new _ _ _⟩
     ·have h6' : ((acc.length:Int) == 600)=false:=by simp; omega
      have HTX:=Lib.hid (HNT.out ((l.drop i).take n) (by rw [HS.out,bs_extract,Nat.add_sub_cancel_left]) h0 h6)
      have HEX:=Lib.hid (show s.extract i (i + n)=bs ((l.drop i).take n) by rw [HS.out,bs_extract,Nat.add_sub_cancel_left])
      have htl : ((l.drop i).take n).length≤1099511627776:=by simp; omega
      have HO2:=Lib.hid (owns_kept HO.out ((Chg.refl [] wr).alloc (.cells #[.int .i64 kd,.string (s.extract i (i + n)),.int .i64 i] 101)) (by simp))
      go_wp2_with fail
      refine HNX.out.mono ?_; rintro _ w2 ⟨rfl,hw⟩
      have hw:=hw.symm; subst hw
      go_wp2_with (at_builtin; go_must (refine wpL_append rfl _ _ 93 rfl 101 _ 3 32 infoTok Tryz.underlying93 rfl (by decide) _ _ _ rfl HO2.out ⟨wr.heap.size,0,none⟩ 1 1 [.int .i64 kd,.string (s.extract i (i + n)),.int .i64 i] rfl rfl (cells_new _ _ _) (by simp [Value.oneCell']) ?_ ?_ ?_))
      ·omega
      ·unfold maxLen; omega
      ·intro v' w' hown' hch' hmv'
       have HO':=Lib.hid hown'
       have HF':=Lib.hid (HF.out.moved hmv' (by simp; omega))
       have HC':=Lib.hid ((HC.out.alloc (.cells #[.int .i64 kd,.string (s.extract i (i + n)),.int .i64 i] 101)).trans hch' (fun x hx=>.inr (HF.out x hx)))
       clear hown' hch' hmv'
       go_wp2_with fail
       refine ⟨⟨f,i + n,acc ++ [⟨(nextK (c :: l.drop (i + 1))).1,(l.drop i).take n,i⟩],by go_num,by omega,by simpa using HTX.out,by omega,by simp; omega,?_,?_,HF'.out,HC'.out⟩,by simp [intOf]; omega⟩
       ·intro t ht
        rcases List.mem_append.1 ht with h | h
        ·exact HSH.out t h
        ·simp at h; rw [h]; exact htl
       ·have:=HO'.out
        rw [HEX.out,HKD.out] at this
        simpa [Tok.cells] using this
  ·have hdec : decide ((i:Int) < (s.size:Int))=false:=by simp; omega
   have HRR:=Lib.hid (show lex l = .ok acc by rw [HR.out,List.drop_eq_nil_of_le (by omega),lexL_nil]; simp [LexR.ahead])
   have HO2:=Lib.hid (owns_kept HO.out ((Chg.refl [] wr).alloc (.cells #[.int .i64 4,str [],.int .i64 l.length] 101)) (by simp))
   go_wp2_with (at_builtin; go_must (refine wpL_append rfl _ _ 93 rfl 101 _ 3 32 infoTok Tryz.underlying93 rfl (by decide) _ _ _ rfl HO2.out ⟨wr.heap.size,0,none⟩ 1 1 [.int .i64 4,str [],.int .i64 l.length] rfl rfl (cells_new _ _ _) (by simp [Value.oneCell']) ?_ ?_ ?_))
   ·omega
   ·unfold maxLen; omega
   ·intro v' w' hown' hch' hmv'
    have HO':=Lib.hid hown'
    have hF':=HF.out.moved hmv' (by simp; omega)
    have HF':=Lib.hid hF'
    have HC':=Lib.hid ((HC.out.alloc (.cells #[.int .i64 4,str [],.int .i64 l.length] 101)).trans hch' (fun x hx=>.inr (HF.out x hx)))
    clear hown' hch' hmv' hF'
    go_wp2_with fail
    go_ret2
    rw [HRR.out]
    obtain ⟨a,k,rfl,hk,hrow⟩:=Row.of_owns HO'.out (new_owns HO'.out HF'.out)
    refine ⟨HC'.out,a,k,rfl,hk,?_,ha,HSH.out⟩
    rw [toksCells_eq]
    exact hrow
end Go.Proofs.YtojkkgghndeimaaGreatDoor
