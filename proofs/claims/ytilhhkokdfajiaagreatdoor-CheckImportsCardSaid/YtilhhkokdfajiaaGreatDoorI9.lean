/- Some texts in one. -/
import Derived.Test.YtilhhkokdfajiaaGreatDoorI8
namespace Go.Mq.Tree
open Go Go.RowKit Go.Mq
theorem s1 {a b:World} {bp bs':Nat} (h:Chg [bp] a b):Chg [bp,bs'] a b:=h.mono fun x hx=>.inl (by simp at hx; simp [hx])
theorem s2 {a b:World} {bp bs':Nat} (h:Chg [bs'] a b):Chg [bp,bs'] a b:=h.mono fun x hx=>.inl (by simp at hx; simp [hx])
theorem Ended.relayS {α β:Type} {w w1 w2:World} {B bp bs' bt z en p:Nat} {V:World→α→Value→Prop} {V':World→β→Prop} {e:Ending} (h:Ended w1 B bp bt z (.bad en p:R α) V e w2) (hc:Chg [bp,bs'] w w1):EndedS w B bp bs' bt z (.bad en p:R β) V' e w2:=by
 obtain ⟨hc2,b,he,hb,hB⟩:=h
 exact ⟨hc.then (s1 hc2),b,he,Nat.le_trans hc.size hb,hB⟩
theorem EndedS.relayS {α β:Type} {w w1 w2:World} {B bp bs' bt z en p:Nat} {V:World→α→Prop} {V':World→β→Prop} {e:Ending} (h:EndedS w1 B bp bs' bt z (.bad en p:R α) V e w2) (hc:Chg [bp,bs'] w w1):EndedS w B bp bs' bt z (.bad en p:R β) V' e w2:=by
 obtain ⟨hc2,b,he,hb,hB⟩:=h
 exact ⟨hc.then hc2,b,he,Nat.le_trans hc.size hb,hB⟩
theorem EndedS.thrown {α:Type} {w w2:World} {B bp bs' bt z en p:Nat} {V:World→α→Prop} {e:Ending} (h:EndedS w B bp bs' bt z (.bad en p:R α) V e w2) : ∃ b,e = .panicked [{ v:=.iface 51 (.agg #[.iface 94 (ptr b)]),recovered:=false }]:=by
 obtain ⟨_,b,he,_⟩:=h
 exact ⟨b,he⟩
theorem named_shape {z:Nat} {ex:Ps E} {ts r:List Tok} {e:E} (h : named z ex ts = .ok e r) : (∃ p m n,e = .var p m n)∨(∃ p m n i,e = .item p m n i)∨(∃ p m n l,e = .app p m n l):=by
 rw [named_eq] at h
 cases h1 : qual z ts with
 | bad en q=>rw [h1] at h; cases h
 | ok q r1=>
  rw [h1] at h
  simp only [namedR] at h
  split at h
  ·cases h2 : ex r1.tail with
   | bad en q=>rw [h2] at h; cases h
   | ok i r2=>
    simp only [h2] at h
    cases h3 : must z [93] r2 with
    | bad en q=>simp only [h3] at h; cases h
    | ok u r3=>simp only [h3] at h; cases h; exact .inr (.inl ⟨_,_,_,_,rfl⟩)
  ·split at h
   ·cases h2 : argsL z ex (r1.length + 1) true [] r1.tail with
    | bad en q=>simp only [h2] at h; cases h
    | ok l r2=>simp only [h2] at h; cases h; exact .inr (.inr ⟨_,_,_,_,rfl⟩)
   ·cases h; exact .inl ⟨_,_,_,rfl⟩
abbrev sCells (p:Nat):Array Value:=#[.int .i64 0,.int .i64 p,str [],nilp,nilp,nils,nils]
def SBlk (w:World) (F:Nat→Prop) (bs':Nat) (s:S):Prop:=∃ cs,Blk w bs' cs.toArray 85∧SAt w F s cs
end Go.Mq.Tree
namespace Go.Proofs.YtilhhkokdfajiaaGreatDoor
open Go Go.RowKit Go.Mq Go.Mq.Tree
set_option maxRecDepth 100000
set_option maxHeartbeats 8000000
theorem ex0_any : ∀ (w:World) (B bp bt z:Nat) (ts:List Tok),Par w B bp bt z ts→Calls Tryz.prog 83 #[ptr bp,.int .i64 0,.int .i64 0] w (Ended w B bp bt z (ex0 z ts) (EV w)):=fun w B bp bt z ts hp=>by
 have:=ex_any 0 11 rfl w B bp bt z ts hp
 simpa [ex0] using this
theorem named0_any : ∀ (w:World) (B bp bt z:Nat) (ts:List Tok),Par w B bp bt z ts→Calls Tryz.prog 99 #[ptr bp,.int .i64 0] w (Ended w B bp bt z (named z (expr z (one z 10) 5) ts) (EV w)):=fun w B bp bt z ts hp=>by
 have:=named_any 0 (by omega) (fun z=>expr z (one z 10) 5) (ex_any 1 10 rfl) (fun z=>expr_eats (one_eats z 10) 5) w B bp bt z ts hp
 simpa using this
theorem first_any (p:Nat) (w:World) (B bp bs' bt z:Nat) (ts:List Tok) (h:Par w B bp bt z ts) (hbs:Blk w bs' (sCells p) 85) (hB':B≤bs') (hne : bs'≠bp) (hnt : bs'≠bt) :
  Calls Tryz.prog 84 #[ptr bp,ptr bs'] w (EndedS w B bp bs' bt z (first z p ts) (fun w' s=>SBlk w' (New w w') bs' s)):=by
 have HN:=Lib.hid (named0_any w B bp bt z ts h)
 have H:=Lib.hid h
 have hbp:=h.bp_lt
 have hbl:=hbs.lt
 have HBS:=Lib.hid (And.intro hbs (And.intro hB' (And.intro hne hnt)))
 clear h hbs
 cases hx : named z (expr z (one z 10) 5) ts with
 | bad en q=>
  have HRR:=Lib.hid (show first z p ts = .bad en q by rw [first,hx])
  rw [hx] at HN
  clear hx
  go_enter Tryz.func84,Tryz.ntmps84
  go_wp2_with fail
  refine HN.out.mono ?_; intro e w1 he
  have HEE:=Lib.hid he
  obtain ⟨b,rfl⟩:=he.thrown
  clear he
  go_wp2_with fail
  refine ⟨rfl,?_⟩
  rw [HRR.out]
  exact HEE.out.relayS (Chg.refl _ _)
 | ok e r=>
  have HX:=Lib.hid hx
  rw [hx] at HN
  clear hx
  go_enter Tryz.func84,Tryz.ntmps84
  go_wp2_with fail
  refine HN.out.mono ?_; rintro e w1 ⟨hc1,v1,rfl,hv1,hp1⟩
  have HC1:=Lib.hid hc1; have HP1:=Lib.hid hp1
  have hb1:=HBS.out.1.kept hc1 (by simpa using hne)
  rcases named_shape HX.out with ⟨q,m,n,rfl⟩ | ⟨q,m,n,i,rfl⟩ | ⟨q,m,n,l,rfl⟩
  focus
   obtain ⟨b,he,hF,hb⟩:=hv1
   obtain ⟨o,u,HSH,HV1,d6⟩ : ∃ (o:Option E) (u:Option Addr),Hid (first z p ts=(if m≠[] then .bad 3 (hd z r) else match must z [58,61] r with | .bad e q=>.bad e q | .ok _ r2=>match ex0 z r2 with | .bad e q=>.bad e q | .ok v r3=>.ok (.set p n o v .nil) r3))∧Hid (OptAt w1 (New w w1) o (.pointer u))∧w1.cell? ⟨b,6,none⟩=some (.pointer u):=⟨none,none,Lib.hid (by rw [first,HX.out]; rfl),Lib.hid rfl,hb.cell 6 _ rfl⟩
   cases he
   have d0:=hb.cell 0 _ rfl; have d3:=hb.cell 3 _ rfl; have d4:=hb.cell 4 _ rfl
   clear hb
  rotate_left
  focus
   obtain ⟨b,ui,he,hF,hb,hi⟩:=hv1
   obtain ⟨bu,rfl⟩:=hi.ptr
   obtain ⟨o,u,HSH,HV1,d6⟩ : ∃ (o:Option E) (u:Option Addr),Hid (first z p ts=(if m≠[] then .bad 3 (hd z r) else match must z [58,61] r with | .bad e q=>.bad e q | .ok _ r2=>match ex0 z r2 with | .bad e q=>.bad e q | .ok v r3=>.ok (.set p n o v .nil) r3))∧Hid (OptAt w1 (New w w1) o (.pointer u))∧w1.cell? ⟨b,6,none⟩=some (.pointer u):=⟨some i,some ⟨bu,0,none⟩,Lib.hid (by rw [first,HX.out]; rfl),Lib.hid hi,hb.cell 6 _ rfl⟩
   cases he
   have d0:=hb.cell 0 _ rfl; have d3:=hb.cell 3 _ rfl; have d4:=hb.cell 4 _ rfl
   clear hb hi
  rotate_left
  ·
   have HRR:=Lib.hid (show first z p ts = .ok (.call p (.app q m n l) .nil) r by rw [first,HX.out])
   have HV1:=Lib.hid hv1
   obtain ⟨b,a,c,vs,he,hF,hb,_⟩:=hv1
   cases he
   have d0:=hb.cell 0 _ rfl
   have f0:=hb1.frozen 0; have f4:=hb1.frozen 4; have e0:=hb1.cell 0 _ rfl; have e4:=hb1.cell 4 _ rfl
   have hb2:=(hb1.set 0 (.int .i64 6)).set 4 (ptr b)
   have hc2:Chg [bs'] w1 ((w1.setCell ⟨bs',0,none⟩ (.int .i64 6)).setCell ⟨bs',4,none⟩ (ptr b)):=(Chg.set1 _ _ _ _).then (Chg.set1 _ _ _ _)
   have HB2:=Lib.hid hb2; have HC2:=Lib.hid hc2
   clear hc1 hp1 hb1 hb hb2 hc2
   go_wp2_with fail
   refine bodyPost_ret (results_none rfl _ _ _) rfl ?_
   rw [HRR.out]
   refine ⟨(s1 HC1.out).then (s2 HC2.out),rfl,⟨_,by simpa using HB2.out,ptr b,[],rfl,?_,rfl⟩,HP1.out.kept HC2.out (fun x hx=>by simp at hx; omega) (by simpa using Ne.symm hne) (by simpa using Ne.symm hnt)⟩
   exact (HV1.out.kept HC2.out (fun x hx hn=>by simp at hx; have:=hn.1; omega)).mono (fun x hx=>⟨hx.1,Nat.lt_of_lt_of_le hx.2 HC2.out.size⟩)
  all_goals
   have hb1x:Blk w1 bs' (sCells p) 85:=hb1
   have hbne : b≠bs':=by have:=hF.1; omega
   cases hme : m.isEmpty with
   | false=>
    have HRR:=Lib.hid (show first z p ts = .bad 3 (hd z r) by rw [HSH.out,if_pos (by intro h; rw [h] at hme; cases hme)])
    have HF3:=Lib.hid (fail_any 3 w1 B bp bt z r HP1.out)
    clear hp1 hc1 hb1 hb1x
    go_wp2_with fail
    refine HF3.out.mono ?_; intro e w6 he
    have HEE:=Lib.hid he
    obtain ⟨b9,rfl⟩:=he.thrown
    clear he
    go_wp2_with fail
    refine ⟨rfl,?_⟩
    rw [HRR.out]
    exact HEE.out.relayS (s1 HC1.out)
   | true=>
    have HM0:Hid (m=[]):=Lib.hid (List.isEmpty_iff.1 hme)
    have HB1:=Lib.hid hb1x
    clear hp1 hc1 hb1 hb1x
    go_wp2_with fail
    refine wp_region_C [bs'] rfl (by kernel_rfl) ?_
    have hS:Chg [bs'] w1.drew w1.drew:=Chg.refl _ _
    have d4' : w1.drew.cell? ⟨b,4,none⟩=some (str n):=d4
    have d6' : w1.drew.cell? ⟨b,6,none⟩=some (.pointer u):=d6
    have hz:Zone [bs'] w1.drew b:=Zone.of d4' (by simpa using hbne)
    have f0 : w1.drew.frozen? ⟨bs',0,none⟩=false:=HB1.out.frozen 0
    have f2 : w1.drew.frozen? ⟨bs',2,none⟩=false:=HB1.out.frozen 2
    have f3 : w1.drew.frozen? ⟨bs',3,none⟩=false:=HB1.out.frozen 3
    have e0 : w1.drew.cell? ⟨bs',0,none⟩=some (.int .i64 0):=HB1.out.cell 0 _ rfl
    have e2 : w1.drew.cell? ⟨bs',2,none⟩=some (str []):=HB1.out.cell 2 _ rfl
    have e3 : w1.drew.cell? ⟨bs',3,none⟩=some nilp:=HB1.out.cell 3 _ rfl
    have g2 : w1.frozen? ⟨bs',2,none⟩=false:=f2
    have g3 : w1.frozen? ⟨bs',3,none⟩=false:=f3
    have g0 : w1.frozen? ⟨bs',0,none⟩=false:=f0
    have h2 : w1.cell? ⟨bs',2,none⟩=some (str []):=e2
    have h3 : w1.cell? ⟨bs',3,none⟩=some nilp:=e3
    repeat ((with_reducible refine gX ?_); (first | refine wpX_nil ?_ | refine sK ?_ | refine sM fun _ _=>?_ | refine sL (hz:=by exact hz) fun _ _=>?_ | refine sE fun _ _=>?_); go_wp2_with fail)
    refine ⟨hS.setCell ⟨bs',0,none⟩ (.inl (by simp)) (.int .i64 1),?_⟩
    repeat ((with_reducible refine gX ?_); (first | refine wpX_nil ?_ | refine sK ?_ | refine sM fun _ _=>?_ | refine sL (hz:=by exact hz) fun _ _=>?_ | refine sE fun _ _=>?_); go_wp2_with fail)
    refine ⟨(hS.setCell ⟨bs',0,none⟩ (.inl (by simp)) (.int .i64 1)).setCell ⟨bs',2,none⟩ (.inl (by simp)) (str n),?_⟩
    repeat ((with_reducible refine gX ?_); (first | refine wpX_nil ?_ | refine sK ?_ | refine sM fun _ _=>?_ | refine sL (hz:=by exact hz) fun _ _=>?_ | refine sE fun _ _=>?_); go_wp2_with fail)
    refine ⟨((hS.setCell ⟨bs',0,none⟩ (.inl (by simp)) (.int .i64 1)).setCell ⟨bs',2,none⟩ (.inl (by simp)) (str n)).setCell ⟨bs',3,none⟩ (.inl (by simp)) (.pointer u),?_⟩
    repeat ((with_reducible refine gX ?_); (first | refine wpX_nil ?_ | refine sK ?_ | refine sM fun _ _=>?_ | refine sL (hz:=by exact hz) fun _ _=>?_ | refine sE fun _ _=>?_); go_wp2_with fail)
    have hw3:Chg [bs'] w1 (((w1.setCell ⟨bs',0,none⟩ (.int .i64 1)).setCell ⟨bs',2,none⟩ (str n)).setCell ⟨bs',3,none⟩ (.pointer u)).drew:=(((Chg.set1 w1 bs' 0 (.int .i64 1)).setCell ⟨bs',2,none⟩ (.inl (by simp)) (str n)).setCell ⟨bs',3,none⟩ (.inl (by simp)) (.pointer u)).drew
    have hb3:=(((HB1.out.set 0 (.int .i64 1)).set 2 (str n)).set 3 (.pointer u)).kept ((Chg.refl [] _).drew) (by simp)
    simp only [Array.setIfInBounds,List.size_toArray,List.length_cons,List.length_nil] at hb3
    clear hS d4' d6' hz f0 f2 f3 e0 e2 e3 g0 g2 g3 h2 h3
    generalize (((w1.setCell ⟨bs',0,none⟩ (.int .i64 1)).setCell ⟨bs',2,none⟩ (str n)).setCell ⟨bs',3,none⟩ (.pointer u)).drew=w3 at *
    have HW3:=Lib.hid hw3; have HB3:=Lib.hid hb3
    have hp3:=HP1.out.kept hw3 (fun x hx=>by simp at hx; omega) (by simpa using Ne.symm hne) (by simpa using Ne.symm hnt)
    have HMU:=Lib.hid (must_any [58,61] w3 B bp bt z r hp3)
    clear hw3 hb3 hp3
    go_wp2_with fail
    cases h8 : see [58,61] r with
    | false=>
     have HRR:=Lib.hid (show first z p ts = .bad 3 (hd z r) by rw [HSH.out,if_neg (by simp [HM0.out])]; simp [must,h8])
     rw [must,h8,if_neg (by simp)] at HMU
     clear h8
     refine HMU.out.mono ?_; intro e w8 he
     have HEE:=Lib.hid he
     obtain ⟨b9,rfl⟩:=he.thrown
     clear he
     go_wp2_with fail
     refine ⟨rfl,?_⟩
     rw [HRR.out]
     exact HEE.out.relayS ((s1 HC1.out).then (s2 HW3.out))
    | true=>
     rw [must,h8,if_pos rfl] at HMU
     refine HMU.out.mono ?_; rintro e w4 ⟨hc4,_,rfl,rfl,hp4⟩
     have HC4:=Lib.hid hc4; have HP4:=Lib.hid hp4
     have HE4:=Lib.hid (ex0_any w4 B bp bt z r.tail hp4)
     clear hc4 hp4
     cases hx : ex0 z r.tail with
     | bad en q=>
      have HRR:=Lib.hid (show first z p ts = .bad en q by rw [HSH.out,if_neg (by simp [HM0.out])]; simp [must,h8,hx])
      rw [hx] at HE4
      clear h8 hx
      go_wp2_with fail
      refine HE4.out.mono ?_; intro e w6 he
      have HEE:=Lib.hid he
      obtain ⟨b9,rfl⟩:=he.thrown
      clear he
      go_wp2_with fail
      refine ⟨rfl,?_⟩
      rw [HRR.out]
      exact HEE.out.relayS (((s1 HC1.out).then (s2 HW3.out)).then (s1 HC4.out))
     | ok v r6=>
      have HRR:=Lib.hid (show first z p ts = .ok (.set p n o v .nil) r6 by rw [HSH.out,if_neg (by simp [HM0.out])]; simp [must,h8,hx])
      rw [hx] at HE4
      clear h8 hx
      go_wp2_with fail
      refine HE4.out.mono ?_; rintro e w6 ⟨hc6,v6,rfl,hv6,hp6⟩
      obtain ⟨b6,rfl⟩:=hv6.ptr
      have HC6:=Lib.hid hc6; have HV6:=Lib.hid hv6; have HP6:=Lib.hid hp6
      have hb6:=(HB3.out.kept HC4.out (by simpa using hne)).kept hc6 (by simpa using hne)
      have f4:=hb6.frozen 4; have e4:=hb6.cell 4 _ rfl
      have hb7:=hb6.set 4 (ptr b6)
      have hc7:Chg [bs'] w6 (w6.setCell ⟨bs',4,none⟩ (ptr b6)):=Chg.set1 _ _ _ _
      have HB7:=Lib.hid hb7; have HC7:=Lib.hid hc7
      clear hc6 hv6 hp6 hb6 hb7 hc7
      go_wp2_with fail
      refine bodyPost_end (results_none rfl _ _ _) rfl ?_
      rw [HRR.out]
      have hsz : w.heap.size≤w4.heap.size:=Nat.le_trans HC1.out.size (Nat.le_trans HW3.out.size HC4.out.size)
      refine ⟨((((s1 HC1.out).then (s2 HW3.out)).then (s1 HC4.out)).then (s1 HC6.out)).then (s2 HC7.out),rfl,⟨_,by simpa using HB7.out,(.pointer u),ptr b6,[],rfl,?_,?_,rfl⟩,HP6.out.kept HC7.out (fun x hx=>by simp at hx; omega) (by simpa using Ne.symm hne) (by simpa using Ne.symm hnt)⟩
      ·exact ((((HV1.out.kept HW3.out (fun x hx hn=>by simp at hx; have:=hn.1; omega)).kept HC4.out (fun x hx hn=>by simp at hx; have:=hn.1; omega)).kept HC6.out (fun x hx hn=>by simp at hx; have:=hn.1; omega)).kept HC7.out (fun x hx hn=>by simp at hx; have:=hn.1; omega)).mono (fun x hx=>⟨hx.1,Nat.lt_of_lt_of_le hx.2 (Nat.le_trans HW3.out.size (Nat.le_trans HC4.out.size (Nat.le_trans HC6.out.size HC7.out.size)))⟩)
      ·exact ((EAt.later HV6.out hsz).kept HC7.out (fun x hx hn=>by simp at hx; have:=hn.1; omega)).mono (fun x hx=>⟨hx.1,Nat.lt_of_lt_of_le hx.2 HC7.out.size⟩)
end Go.Proofs.YtilhhkokdfajiaaGreatDoor
namespace Go.Mq.Tree
open Go Go.RowKit Go.Mq
theorem EndedS.relayN {α β:Type} {w w1 w2:World} {B bp bs' bx bt z en p:Nat} {V:World→α→Prop} {V':World→β→Prop} {e:Ending} (h:EndedS w1 B bp bx bt z (.bad en p:R α) V e w2) (hc:Chg [bp,bs'] w w1) (hx : w.heap.size≤bx):EndedS w B bp bs' bt z (.bad en p:R β) V' e w2:=by
 obtain ⟨hc2,b,he,hb,hB⟩:=h
 exact ⟨hc.trans hc2 (fun x hm=>by simp at hm; rcases hm with rfl | rfl; exact .inl (by simp); exact .inr hx),b,he,Nat.le_trans hc.size hb,hB⟩
theorem bodies_rest (z d:Nat) (ts:List Tok) : (bodies z (d + 1)).2 ts=restL z (bodies z d).1 (bodies z d).2 ts:=rfl
end Go.Mq.Tree
namespace Go.Proofs.YtilhhkokdfajiaaGreatDoor
open Go Go.RowKit Go.Mq Go.Mq.Tree
set_option maxRecDepth 100000
set_option maxHeartbeats 8000000
def BodyOK (deep d:Nat):Prop:=∀ (w:World) (B bp bt z:Nat) (ts:List Tok),Par w B bp bt z ts→Calls Tryz.prog 42 #[ptr bp,.int .i64 deep] w (Ended w B bp bt z ((bodies z d).1 ts) (fun w' s v=>SlAt w' (New w w') s v))
def RestOK (deep d:Nat):Prop:=∀ (p:Nat) (w:World) (B bp bs' bt z:Nat) (ts:List Tok),Par w B bp bt z ts→Blk w bs' (sCells p) 85→B≤bs'→bs'≠bp→bs'≠bt →
  Calls Tryz.prog 82 #[ptr bp,ptr bs',.int .i64 deep] w (EndedS w B bp bs' bt z ((bodies z d).2 ts) (fun w' x=>SBlk w' (New w w') bs' (.ifs p x.1 x.2.1 x.2.2 .nil)))
theorem body_next {deep d:Nat} (h:BodyOK (deep + 1) d) : ∀ (w:World) (B bp bt z:Nat) (ts:List Tok),Par w B bp bt z ts→Calls Tryz.prog 42 #[ptr bp,.int .i64 ((deep:Int) + 1)] w (Ended w B bp bt z ((bodies z d).1 ts) (fun w' s v=>SlAt w' (New w w') s v)):=fun w B bp bt z ts hp=>by
 have:=h w B bp bt z ts hp
 simpa using this
theorem rest_next {deep d:Nat} (h:RestOK (deep + 1) d) : ∀ (p:Nat) (w:World) (B bp bs' bt z:Nat) (ts:List Tok),Par w B bp bt z ts→Blk w bs' (sCells p) 85→B≤bs'→bs'≠bp→bs'≠bt →
  Calls Tryz.prog 82 #[ptr bp,ptr bs',.int .i64 ((deep:Int) + 1)] w (EndedS w B bp bs' bt z ((bodies z d).2 ts) (fun w' x=>SBlk w' (New w w') bs' (.ifs p x.1 x.2.1 x.2.2 .nil))):=fun p w B bp bs' bt z ts hp h1 h2 h3 h4=>by
 have:=h p w B bp bs' bt z ts hp h1 h2 h3 h4
 simpa using this
theorem rest_step (deep d:Nat) (hdp : deep≤10) (hB:BodyOK (deep + 1) d) (hR:RestOK (deep + 1) d∨d=0):RestOK deep (d + 1):=by
 intro p w B bp bs' bt z ts h hbs hB' hne hnt
 have HBO:=Lib.hid (body_next hB)
 have HRN:=Lib.hid hR
 have hbp:=h.bp_lt
 have hbt:=h.bt_lt
 have hbl:=hbs.lt
 have hB0:=h.laid.le
 have HBS:=Lib.hid hbs
 have HE:=Lib.hid (ex0_any w B bp bt z ts h)
 have hwr:=wrap_next (deep:=deep) (by omega)
 clear h hbs hB hR
 go_enter Tryz.func82,Tryz.ntmps82
 go_wp2_with fail
 refine HE.out.mono ?_; intro e w1 he
 rcases he.part with ⟨en,q,b9,rfl,hx,HEE⟩ | ⟨aK,rK,hx,he⟩
 ·go_wp2_with fail; exact ⟨rfl,by rw [show (bodies z (d + 1)).2 ts = .bad en q by rw [bodies_rest,restL]; simp only [hx.out]]; exact HEE.out.relayS (Chg.refl _ _)⟩
 have HX1:=hx
 obtain ⟨v,rfl⟩ : ∃ v,v=aK:=⟨aK,rfl⟩
 obtain ⟨r,rfl⟩ : ∃ r,r=rK:=⟨rK,rfl⟩
 obtain ⟨hc1,v1,rfl,hv1,hp1⟩:=he
 clear hx
 obtain ⟨b1,rfl⟩:=hv1.ptr
 have hb1:=HBS.out.kept hc1 (by simpa using hne)
 have f0:=hb1.frozen 0; have f4:=hb1.frozen 4; have e0:=hb1.cell 0 _ rfl; have e4:=hb1.cell 4 _ rfl
 have hb2:=(hb1.set 0 (.int .i64 2)).set 4 (ptr b1)
 have hc2:Chg [bs'] w1 ((w1.setCell ⟨bs',0,none⟩ (.int .i64 2)).setCell ⟨bs',4,none⟩ (ptr b1)):=(Chg.set1 _ _ _ _).then (Chg.set1 _ _ _ _)
 have HC1:=Lib.hid hc1
 have HV2:=Lib.hid (show EAt ((w1.setCell ⟨bs',0,none⟩ (.int .i64 2)).setCell ⟨bs',4,none⟩ (ptr b1)) (New w _) v [ptr b1] from (hv1.kept hc2 (fun x hx hn=>by simp at hx; have:=hn.1; omega)).mono (fun x hx=>⟨hx.1,Nat.lt_of_lt_of_le hx.2 hc2.size⟩))
 have HP2:=Lib.hid (hp1.kept hc2 (fun x hx=>by simp at hx; omega) (by simpa using Ne.symm hne) (by simpa using Ne.symm hnt))
 have HB2:=Lib.hid (by simpa using hb2:Blk ((w1.setCell ⟨bs',0,none⟩ (.int .i64 2)).setCell ⟨bs',4,none⟩ (ptr b1)) bs' #[.int .i64 2,.int .i64 p,str [],nilp,ptr b1,nils,nils] 85)
 have HC2:=Lib.hid hc2
 clear hc1 hv1 hp1 hb1 hb2 hc2
 go_wp2_with fail
 generalize (w1.setCell ⟨bs',0,none⟩ (.int .i64 2)).setCell ⟨bs',4,none⟩ (ptr b1)=w2 at *
 have HMU:=Lib.hid (must_any [116,104,101,110] w2 B bp bt z r HP2.out)
 go_wp2_with fail
 refine HMU.out.mono ?_; intro e w3 he
 rcases he.part with ⟨en,q,b9,rfl,hx,HEE⟩ | ⟨aK,rK,hx,he⟩
 ·go_wp2_with fail; exact ⟨rfl,by rw [show (bodies z (d + 1)).2 ts = .bad en q by rw [bodies_rest,restL]; simp only [HX1.out,hx.out]]; exact HEE.out.relayS ((s1 HC1.out).then (s2 HC2.out))⟩
 have HX2:=hx
 obtain ⟨r2,rfl⟩ : ∃ r2,r2=rK:=⟨rK,rfl⟩
 obtain ⟨hc3,_,rfl,rfl,hp3⟩:=he
 clear hx
 have HC3:=Lib.hid hc3
 have HBD:=Lib.hid (HBO.out w3 B bp bt z r2 hp3)
 clear hc3 hp3
 go_wp2_with fail
 refine HBD.out.mono ?_; intro e w4 he
 rcases he.part with ⟨en,q,b9,rfl,hx,HEE⟩ | ⟨aK,rK,hx,he⟩
 ·go_wp2_with fail; exact ⟨rfl,by rw [show (bodies z (d + 1)).2 ts = .bad en q by rw [bodies_rest,restL]; simp only [HX1.out,HX2.out,hx.out]]; exact HEE.out.relayS (((s1 HC1.out).then (s2 HC2.out)).then (s1 HC3.out))⟩
 have HX3:=hx
 obtain ⟨t,rfl⟩ : ∃ t,t=aK:=⟨aK,rfl⟩
 obtain ⟨r3,rfl⟩ : ∃ r3,r3=rK:=⟨rK,rfl⟩
 obtain ⟨hc4,v4,rfl,⟨a4,k4,cs4,rfl,hl4,hr4,hs4⟩,hp4⟩:=he
 clear hx
 have hb4:=(HB2.out.kept HC3.out (by simpa using hne)).kept hc4 (by simpa using hne)
 have f5:=hb4.frozen 5; have e5:=hb4.cell 5 _ rfl
 have hb5:=hb4.set 5 (.slice a4 t.len k4)
 have hc5:Chg [bs'] w4 (w4.setCell ⟨bs',5,none⟩ (.slice a4 t.len k4)):=Chg.set1 _ _ _ _
 have HL4:=Lib.hid hl4
 have hwc4:Chg [bp,bs'] w w4:=((((s1 HC1.out).then (s2 HC2.out)).then (s1 HC3.out)).then (s1 hc4))
 have hv4:EAt w4 (New w w4) v [ptr b1]:=(HV2.out.grown hbp (HC3.out.then hc4))
 have hsz : w.heap.size≤w3.heap.size:=(((s1 HC1.out).then (s2 HC2.out)).then (s1 HC3.out)).size
 have hn4 : ∀ x,New w3 w4 x→New w w4 x:=fun x hx=>⟨Nat.le_trans hsz hx.1,hx.2⟩
 have hk5 : ∀ x∈[bs'],¬ New w w4 x:=fun x hx hn=>by simp at hx; have:=hn.1; omega
 have hg5 : ∀ x,New w w4 x→New w (w4.setCell ⟨bs',5,none⟩ (.slice a4 t.len k4)) x:=fun x hx=>⟨hx.1,Nat.lt_of_lt_of_le hx.2 hc5.size⟩
 have HV5:=Lib.hid (show EAt (w4.setCell ⟨bs',5,none⟩ (.slice a4 t.len k4)) (New w _) v [ptr b1]∧Row (w4.setCell ⟨bs',5,none⟩ (.slice a4 t.len k4)) (New w _) a4 cs4∧SAt (w4.setCell ⟨bs',5,none⟩ (.slice a4 t.len k4)) (New w _) t cs4 from ⟨(hv4.kept hc5 hk5).mono hg5,((hr4.mono hn4).kept hc5 hk5).mono hg5,((hs4.mono hn4).kept hc5 hk5).mono hg5⟩)
 have HP5:=Lib.hid (hp4.kept hc5 (fun x hx=>by simp at hx; omega) (by simpa using Ne.symm hne) (by simpa using Ne.symm hnt))
 have HB5:=Lib.hid (by simpa using hb5:Blk (w4.setCell ⟨bs',5,none⟩ (.slice a4 t.len k4)) bs' [.int .i64 2,.int .i64 p,str [],nilp,ptr b1,.slice a4 t.len k4,nils].toArray 85)
 have WC5:=Lib.hid (hwc4.then (s2 hc5))
 clear hc4 hl4 hr4 hs4 hp4 hb4 hb5 hc5 hwc4 hv4 hsz hn4 hk5 hg5
 have HS5:=Lib.hid WC5.out.size
 go_wp2_with fail
 generalize w4.setCell ⟨bs',5,none⟩ (.slice a4 t.len k4)=w5 at *
 have HSE:=Lib.hid (see_any [101,108,115,105,102] w5 B bp bt z r3 HP5.out)
 refine HSE.out.mono ?_; rintro _ w6 ⟨rfl,hw6⟩
 have hw6':=hw6.symm; subst hw6'; clear hw6
 cases h4 : see [101,108,115,105,102] r3 with
 | true=>
  have HI4:=Lib.hid h4
  clear h4
  rcases HRN.out with hrn | rfl
  ·have HRN2:=Lib.hid (rest_next hrn)
   clear hrn
   obtain ⟨off,c,nn,c0,c2⟩:=par_at HP5.out
   have hp6:=HP5.out.kept ((Chg.refl [] w5).alloc (.cells (sCells (hd z r3)) 85)) (by simp) (by simp) (by simp)
   have hb6:=Blk.new w5 (sCells (hd z r3)) 85
   have hc6:Chg [bp] w5 (w5.alloc (.cells (sCells (hd z r3)) 85)):=(Chg.refl _ _).alloc _
   have HB6:=Lib.hid hb6; have HC6:=Lib.hid hc6
   have HMU2:=Lib.hid (must_any [101,108,115,105,102] _ B bp bt z r3 hp6)
   rw [must,HI4.out,if_pos rfl] at HMU2
   have hbpl : bp < w5.heap.size:=Nat.lt_of_lt_of_le hbp HS5.out
   have hbtl : bt < w5.heap.size:=Nat.lt_of_lt_of_le hbt HS5.out
   have hbl5 : bs' < w5.heap.size:=Nat.lt_of_lt_of_le hbl HS5.out
   have hS5:=HS5.out
   clear hp6 hb6 hc6
   go_wp2_with fail
   refine HMU2.out.mono ?_; rintro e w7 ⟨hc7,_,rfl,rfl,hp7⟩
   have HC67:=Lib.hid (HC6.out.then hc7)
   have hb7:=HB6.out.kept hc7 (by simp; omega)
   have HB7:=Lib.hid hb7
   have HM:=Lib.hid (HRN2.out (hd z r3) w7 B bp w5.heap.size bt z r3.tail hp7 hb7 (by omega) (by omega) (by omega))
   clear hc7 hb7 hp7 c0 c2
   go_wp2_with fail
   refine HM.out.mono ?_; intro e w8 he
   rcases he.part with ⟨en,q,b9,rfl,hx,HEE⟩ | ⟨aK,rK,hx,he⟩
   ·go_wp2_with fail; exact ⟨rfl,by rw [show (bodies z (d + 1)).2 ts = .bad en q by rw [bodies_rest,restL]; simp only [HX1.out,HX2.out,HX3.out]; rw [if_pos HI4.out]; simp only [hx.out]]; exact HEE.out.relayN (WC5.out.then (s1 HC67.out)) (by omega)⟩
   have HX7:=hx
   have HRR:=Lib.hid (show (bodies z (d + 1)).2 ts = .ok (v,t,.ifs (hd z r3) aK.1 aK.2.1 aK.2.2 .nil) rK by rw [bodies_rest,restL]; simp only [HX1.out,HX2.out,HX3.out]; rw [if_pos HI4.out,HX7.out])
   obtain ⟨hc8,rfl,⟨cs8,hb8,hs8⟩,hp8⟩:=he
   clear hx
   have HSS:=Lib.hid hs8
   obtain ⟨u8,a8,k8,ts8,a9,k9,es8,cs9,rfl,_,_,_,_,_,_,_,hnil⟩:=hs8
   obtain rfl : cs9=[]:=hnil
   have d0:=hb8.cell 0 _ rfl; have d1:=hb8.cell 1 _ rfl; have d2:=hb8.cell 2 _ rfl; have d3:=hb8.cell 3 _ rfl; have d4:=hb8.cell 4 _ rfl; have d5:=hb8.cell 5 _ rfl; have d6:=hb8.cell 6 _ rfl
   have HC8:=Lib.hid hc8; have HP8:=Lib.hid hp8
   have hb8':=(HB5.out.kept HC67.out (by simpa using hne)).kept hc8 (by simp; omega)
   have f6:=hb8'.frozen 6; have e6:=hb8'.cell 6 _ rfl
   have HB8:=Lib.hid hb8'
   have hlt8:=hb8'.lt
   clear hc8 hp8 hb8 hb8'
   go_wp2_with fail
   refine bodyPost_end (results_none rfl _ _ _) rfl ?_
   rw [HRR.out]
   have hz8 : (w8.setCell ⟨bs',6,none⟩ (.slice (some ⟨w8.heap.size,0,none⟩) 1 1)).heap.size=w8.heap.size:=by simp [World.setCell]
   have hb9:=(HB8.out.set 6 (.slice (some ⟨w8.heap.size,0,none⟩) 1 1)).kept ((Chg.refl [] _).alloc (.cells #[.int .i64 2,.int .i64 (hd z r3),str [],nilp,u8,.slice a8 aK.2.1.len k8,.slice a9 aK.2.2.len k9] 85)) (by simp)
   have hbn:=Blk.new (w8.setCell ⟨bs',6,none⟩ (.slice (some ⟨w8.heap.size,0,none⟩) 1 1)) #[.int .i64 2,.int .i64 (hd z r3),str [],nilp,u8,.slice a8 aK.2.1.len k8,.slice a9 aK.2.2.len k9] 85
   have hc9:Chg [bs'] w8 ((w8.setCell ⟨bs',6,none⟩ (.slice (some ⟨w8.heap.size,0,none⟩) 1 1)).alloc (.cells #[.int .i64 2,.int .i64 (hd z r3),str [],nilp,u8,.slice a8 aK.2.1.len k8,.slice a9 aK.2.2.len k9] 85)):=(Chg.set1 _ _ _ _).alloc _
   rw [hz8] at hbn
   clear f6 e6 d0 d1 d2 d3 d4 d5 d6
   generalize (w8.setCell ⟨bs',6,none⟩ (.slice (some ⟨w8.heap.size,0,none⟩) 1 1)).alloc (.cells #[.int .i64 2,.int .i64 (hd z r3),str [],nilp,u8,.slice a8 aK.2.1.len k8,.slice a9 aK.2.2.len k9] 85)=w9 at *
   have hk:Chg [bp,w5.heap.size] w5 w8:=(HC67.out.mono (fun x hx=>.inl (by simp at hx; simp [hx]))).then HC8.out
   have hcW:Chg [bp,bs'] w w9:=(WC5.out.trans hk (fun x hx=>by simp at hx; rcases hx with rfl | rfl; exact .inl (by simp); exact .inr HS5.out)).then (s2 hc9)
   have hbk : ∀ x∈[bp,w5.heap.size],¬ New w w5 x:=fun x hx hn=>by simp at hx; have:=hn.1; have:=hn.2; omega
   have hs59 : w5.heap.size≤w9.heap.size:=Nat.le_trans hk.size hc9.size
   have hg5 : ∀ x,New w w5 x→New w w8 x:=fun x hx=>⟨hx.1,Nat.lt_of_lt_of_le hx.2 hk.size⟩
   have hk9 : ∀ x∈[bs'],¬ New w w8 x:=fun x hx hn=>by simp at hx; have:=hn.1; omega
   have hg9 : ∀ x,New w w8 x→New w w9 x:=fun x hx=>⟨hx.1,Nat.lt_of_lt_of_le hx.2 hc9.size⟩
   have hs7 : w.heap.size≤w7.heap.size:=Nat.le_trans HS5.out HC67.out.size
   have hs8':SAt w8 (New w w8) _ _:=HSS.out.mono (fun x hx=>⟨Nat.le_trans hs7 hx.1,hx.2⟩)
   have hb9':Blk w9 bs' [.int .i64 2,.int .i64 p,str [],nilp,ptr b1,.slice a4 t.len k4,.slice (some ⟨w8.heap.size,0,none⟩) 1 1].toArray 85:=by simpa using hb9
   refine ⟨hcW,rfl,⟨_,hb9',ptr b1,a4,k4,cs4,some ⟨w8.heap.size,0,none⟩,1,_,[],rfl,?_,HL4.out,?_,?_,Nat.le_refl _,?_,(hs8'.kept hc9 hk9).mono hg9,rfl⟩,HP8.out.kept hc9 (fun x hx=>by simp at hx; omega) (by simpa using Ne.symm hne) (by simpa using Ne.symm hnt)⟩
   ·exact (((HV5.out.1.kept hk hbk).mono hg5).kept hc9 hk9).mono hg9
   ·exact (((HV5.out.2.1.kept hk hbk).mono hg5).kept hc9 hk9).mono hg9
   ·exact (((HV5.out.2.2.kept hk hbk).mono hg5).kept hc9 hk9).mono hg9
   ·refine ⟨fun _=>⟨w8.heap.size,0,rfl,fun i x hx=>?_⟩,fun _ q hq=>?_⟩
    ·rw [Nat.zero_add]; exact hbn.cell i x (by simpa using hx)
    ·cases hq; exact ⟨Nat.le_trans hs7 HC8.out.size,hbn.lt⟩
  ·have:=HX3.out
   cases this
 | false=>
  have HI4:=Lib.hid h4
  clear h4
  have HT5:=Lib.hid (take_any [101,108,115,101] w5 B bp bt z r3 HP5.out)
  cases h5 : see [101,108,115,101] r3 with
  | true=>
   have HI5:=Lib.hid h5
   clear h5
   go_wp2_with fail
   refine HT5.out.mono ?_; rintro _ w6 ⟨rfl,hp6,hc6,_⟩
   rw [HI5.out]
   rw [skip,HI5.out,if_pos rfl] at hp6
   have HC6:=Lib.hid hc6
   have HBD2:=Lib.hid (HBO.out w6 B bp bt z r3.tail hp6)
   clear hp6 hc6
   go_wp2_with fail
   refine HBD2.out.mono ?_; intro e w7 he
   rcases he.part with ⟨en,q,b9,rfl,hx,HEE⟩ | ⟨aK,rK,hx,he⟩
   ·go_wp2_with fail; exact ⟨rfl,by rw [show (bodies z (d + 1)).2 ts = .bad en q by rw [bodies_rest,restL]; simp only [HX1.out,HX2.out,HX3.out]; rw [if_neg (by rw [HI4.out]; simp),if_pos HI5.out]; simp only [hx.out]]; exact HEE.out.relayS (WC5.out.then (s1 HC6.out))⟩
   have HX6:=hx
   have HRR:=Lib.hid (show (bodies z (d + 1)).2 ts = .ok (v,t,aK) rK by rw [bodies_rest,restL]; simp only [HX1.out,HX2.out,HX3.out]; rw [if_neg (by rw [HI4.out]; simp),if_pos HI5.out,HX6.out])
   obtain ⟨hc7,v7,rfl,⟨a7,k7,cs7,rfl,hl7,hr7,hs7⟩,hp7⟩:=he
   clear hx
   have HC7:=Lib.hid hc7; have HP7:=Lib.hid hp7; have HV7:=Lib.hid (And.intro hl7 (And.intro hr7 hs7))
   have hb7:=HB5.out.kept (HC6.out.then hc7) (by simpa using hne)
   have f6:=hb7.frozen 6; have e6:=hb7.cell 6 _ rfl
   have hb8:=hb7.set 6 (.slice a7 aK.len k7)
   have hc8:Chg [bs'] w7 (w7.setCell ⟨bs',6,none⟩ (.slice a7 aK.len k7)):=Chg.set1 _ _ _ _
   have HB8:=Lib.hid hb8; have HC8:=Lib.hid hc8
   clear hc7 hp7 hl7 hr7 hs7 hb7 hb8 hc8
   go_wp2_with fail
   refine bodyPost_end (results_none rfl _ _ _) rfl ?_
   rw [HRR.out]
   have hk57:Chg [bp] w5 w7:=HC6.out.then HC7.out
   have hbn : ∀ x∈[bp],¬ New w w5 x:=fun x hx hn=>by simp at hx; have:=hn.1; omega
   have hgrow : ∀ x,New w w5 x→New w w7 x:=fun x hx=>⟨hx.1,Nat.lt_of_lt_of_le hx.2 hk57.size⟩
   have hsz6 : w.heap.size≤w6.heap.size:=Nat.le_trans HS5.out HC6.out.size
   have hk8 : ∀ x∈[bs'],¬ New w w7 x:=fun x hx hn=>by simp at hx; have:=hn.1; omega
   have hg8 : ∀ x,New w w7 x→New w (w7.setCell ⟨bs',6,none⟩ (.slice a7 aK.len k7)) x:=fun x hx=>⟨hx.1,Nat.lt_of_lt_of_le hx.2 HC8.out.size⟩
   obtain ⟨hl7,hr7,hs7⟩:=HV7.out
   have hN7 : ∀ x,New w6 w7 x→New w w7 x:=fun x hx=>⟨Nat.le_trans hsz6 hx.1,hx.2⟩
   refine ⟨(WC5.out.then (s1 hk57)).then (s2 HC8.out),rfl,⟨_,by simpa using HB8.out,ptr b1,a4,k4,cs4,a7,k7,cs7,[],rfl,?_,HL4.out,?_,?_,hl7,?_,?_,rfl⟩,HP7.out.kept HC8.out (fun x hx=>by simp at hx; omega) (by simpa using Ne.symm hne) (by simpa using Ne.symm hnt)⟩
   ·exact (((HV5.out.1.kept hk57 hbn).mono hgrow).kept HC8.out hk8).mono hg8
   ·exact (((HV5.out.2.1.kept hk57 hbn).mono hgrow).kept HC8.out hk8).mono hg8
   ·exact (((HV5.out.2.2.kept hk57 hbn).mono hgrow).kept HC8.out hk8).mono hg8
   ·exact ((hr7.mono hN7).kept HC8.out hk8).mono hg8
   ·exact ((hs7.mono hN7).kept HC8.out hk8).mono hg8
  | false=>
   have HI5:=Lib.hid h5
   clear h5
   have HRR:=Lib.hid (show (bodies z (d + 1)).2 ts = .ok (v,t,.nil) r3 by rw [bodies_rest,restL]; simp only [HX1.out,HX2.out,HX3.out]; rw [if_neg (by rw [HI4.out]; simp),if_neg (by rw [HI5.out]; simp)])
   go_wp2_with fail
   refine HT5.out.mono ?_; rintro _ w6 ⟨rfl,_,_,hw⟩
   rw [HI5.out]
   have hw':=(hw HI5.out).symm; subst hw'; clear hw
   go_wp2_with fail
   refine bodyPost_end (results_none rfl _ _ _) rfl ?_
   rw [HRR.out]
   exact ⟨WC5.out,rfl,⟨_,HB5.out,ptr b1,a4,k4,cs4,none,0,[],[],rfl,HV5.out.1,HL4.out,HV5.out.2.1,HV5.out.2.2,Nat.le_refl _,Row.nil _ _ _,rfl,rfl⟩,HP5.out⟩
end Go.Proofs.YtilhhkokdfajiaaGreatDoor
namespace Go.Mq.Tree
open Go Go.RowKit Go.Mq
theorem first_len {z p:Nat} {ts r:List Tok} {s:S} (h : first z p ts = .ok s r) : s.len=1:=by
 rw [first] at h
 repeat' (split at h)
 all_goals first | (cases h; rfl) | cases h | (rename_i h2; split at h2; all_goals first | cases h2 | (cases h; rfl))
theorem S.len_nil {s:S} (h : s.len=0) : s = .nil:=by
 cases s <;> first | rfl | (simp [S.len] at h)
theorem OptAt.ptr {w:World} {F:Nat→Prop} {i:Option E} {u:Value} (h:OptAt w F i u) : ∃ b,u = .pointer b:=by
 cases i with
 | none=>exact ⟨_,h⟩
 | some x=>obtain ⟨b,rfl⟩:=EAt.ptr h; exact ⟨_,rfl⟩
theorem SAt.shape {w:World} {F:Nat→Prop} {s:S} {cs:List Value} (h:SAt w F s cs) (hl : s.len=1) : ∃ (k p:Int) (n:List UInt8) (i v:Option Addr) (a1:Option Addr) (l1 c1:Nat) (a2:Option Addr) (l2 c2:Nat),
  cs=[.int .i64 k,.int .i64 p,str n,.pointer i,.pointer v,.slice a1 l1 c1,.slice a2 l2 c2]:=by
 cases s with
 | nil=>cases hl
 | set p n i v r=>
  obtain ⟨ui,uv,cs',rfl,h2,h3,h4⟩:=h
  obtain rfl:=S.len_nil (s:=r) (by simp [S.len] at hl; exact hl)
  obtain rfl : cs'=[]:=h4
  obtain ⟨b,rfl⟩:=h2.ptr; obtain ⟨c,rfl⟩:=h3.ptr
  exact ⟨_,_,_,_,_,_,_,_,_,_,_,rfl⟩
 | ifs p v t e r=>
  obtain ⟨uv,a1,c1,ts,a2,c2,es,cs',rfl,h2,h3,h4,h5,h6,h7,h8,h9⟩:=h
  obtain rfl:=S.len_nil (s:=r) (by simp [S.len] at hl; exact hl)
  obtain rfl : cs'=[]:=h9
  obtain ⟨c,rfl⟩:=h2.ptr
  exact ⟨_,_,_,_,_,_,_,_,_,_,_,rfl⟩
 | whil p v t r=>
  obtain ⟨uv,a1,c1,ts,cs',rfl,h2,h3,h4,h5,h6⟩:=h
  obtain rfl:=S.len_nil (s:=r) (by simp [S.len] at hl; exact hl)
  obtain rfl : cs'=[]:=h6
  obtain ⟨c,rfl⟩:=h2.ptr
  exact ⟨_,_,_,_,_,_,_,_,_,_,_,rfl⟩
 | ret p v r=>
  obtain ⟨uv,cs',rfl,h2,h3⟩:=h
  obtain rfl:=S.len_nil (s:=r) (by simp [S.len] at hl; exact hl)
  obtain rfl : cs'=[]:=h3
  obtain ⟨c,rfl⟩:=h2.ptr
  exact ⟨_,_,_,_,_,_,_,_,_,_,_,rfl⟩
 | wri p v r=>
  obtain ⟨uv,cs',rfl,h2,h3⟩:=h
  obtain rfl:=S.len_nil (s:=r) (by simp [S.len] at hl; exact hl)
  obtain rfl : cs'=[]:=h3
  obtain ⟨c,rfl⟩:=h2.ptr
  exact ⟨_,_,_,_,_,_,_,_,_,_,_,rfl⟩
 | call p v r=>
  obtain ⟨uv,cs',rfl,h2,h3⟩:=h
  obtain rfl:=S.len_nil (s:=r) (by simp [S.len] at hl; exact hl)
  obtain rfl : cs'=[]:=h3
  obtain ⟨c,rfl⟩:=h2.ptr
  exact ⟨_,_,_,_,_,_,_,_,_,_,_,rfl⟩
end Go.Mq.Tree
namespace Go.Proofs.YtilhhkokdfajiaaGreatDoor
open Go Go.RowKit Go.Mq Go.Mq.Tree
set_option maxRecDepth 100000
set_option maxHeartbeats 16000000
abbrev SV (w:World):World→S→Value→Prop:=fun w' s v=>∃ cs,v = .agg cs.toArray∧cs.length=7∧SAt w' (New w w') s cs
def StmtOK (deep:Nat) (st:Nat→Ps S):Prop:=∀ (w:World) (B bp bt z:Nat) (ts:List Tok),Par w B bp bt z ts→Calls Tryz.prog 62 #[ptr bp,.int .i64 deep] w (Ended w B bp bt z (st z ts) (SV w))
theorem set7 {w:World} {b:Nat} (v0 v1 v2 v3 v4 v5 v6:Value) {u0 u1 u2 u3 u4 u5 u6:Value} {t:TypeId} (h:Blk w b #[u0,u1,u2,u3,u4,u5,u6] t) : ∃ wF,(((((((w.setCell ⟨b,0,none⟩ v0).setCell ⟨b,1,none⟩ v1).setCell ⟨b,2,none⟩ v2).setCell ⟨b,3,none⟩ v3).setCell ⟨b,4,none⟩ v4).setCell ⟨b,5,none⟩ v5).setCell ⟨b,6,none⟩ v6)=wF∧Chg [b] w wF∧Blk wF b #[v0,v1,v2,v3,v4,v5,v6] t:=
 ⟨_,rfl,((((((Chg.set1 _ _ _ _).then (Chg.set1 _ _ _ _)).then (Chg.set1 _ _ _ _)).then (Chg.set1 _ _ _ _)).then (Chg.set1 _ _ _ _)).then (Chg.set1 _ _ _ _)).then (Chg.set1 _ _ _ _),by
  have:=((((((h.set 0 v0).set 1 v1).set 2 v2).set 3 v3).set 4 v4).set 5 v5).set 6 v6
  simpa using this⟩
theorem stmt_step (deep d:Nat) (hdp : deep≤10) (hB:BodyOK (deep + 1) d) (hR:RestOK deep (d + 1)):StmtOK deep (fun z=>stmt z (bodies z d).1 (bodies z (d + 1)).2):=by
 intro w B bp bt z ts h
 have HBO:=Lib.hid (body_next hB)
 have HRO:=Lib.hid hR
 have hbp:=h.bp_lt
 have hbt:=h.bt_lt
 have hB0:=h.laid.le
 have hwr:=wrap_next (deep:=deep) (by omega)
 obtain ⟨off,c,nn,c0,c2⟩:=par_at h
 have hw1 : (w.alloc (.cells (sCells 0) 85)).heap.size=w.heap.size + 1:=by simp
 have hb1:=Blk.new (w.alloc (.cells (sCells 0) 85)) (sCells (hd z ts)) 85
 rw [hw1] at hb1
 obtain ⟨w1,hw1'⟩ : ∃ x,x=(w.alloc (.cells (sCells 0) 85)).alloc (.cells (sCells (hd z ts)) 85):=⟨_,rfl⟩
 have H1:Hid (Mk 85 w w1 B bp bt z ts (sCells 0) (sCells (hd z ts)) (fun _ _=>True)):=Lib.hid (by
  rw [hw1']
  exact ⟨framed_true,hbp,hbt,((Chg.refl _ _).alloc _).alloc _,h.kept (((Chg.refl [] w).alloc _).alloc _) (by simp) (by simp) (by simp),hb1,(Blk.new w _ 85).kept ((Chg.refl [] _).alloc _) (by simp),by simp,trivial⟩)
 clear h hB hR hb1 hw1
 go_enter Tryz.func62,Tryz.ntmps62
 go_wp2_with fail
 clear c0 c2
 change Calls _ _ _ ((w.alloc (.cells (sCells 0) 85)).alloc (.cells (sCells (hd z ts)) 85)) _
 rw [← hw1']
 clear hw1'
 have K:=Lib.hid (take_any [105,102] _ _ _ _ _ _ H1.out.par)
 cases hk : see [105,102] ts
 case' true=>
  have HI_if:=Lib.hid hk
  clear hk
  refine K.out.mono ?_; rintro _ w2 ⟨rfl,hp,hc,_⟩
  rw [HI_if.out]
  rw [skip,HI_if.out,if_pos rfl] at hp
  have H2:=Lib.hid (H1.out.step hc hp); clear hc hp K
  have K:=Lib.hid (HRO.out (hd z ts) _ _ _ _ _ _ _ H2.out.par H2.out.blk (by omega) (by omega) (by omega))
  go_wp2_with fail
  refine K.out.mono ?_; intro e w3 he
  rcases he.cut with ⟨en,q,b9,rfl,hx,HE⟩ | ⟨x3,r3,rfl,X3,⟨cs,hb,hs⟩,hc,hp⟩
  ·go_wp2_with fail; exact ⟨rfl,H2.out.bad HE.out (by rw [stmt,if_pos HI_if.out]; simp only [hx.out])⟩
  have H3:=Lib.hid ((H2.out.loop hc hp hb).add (framed_S (.ifs (hd z ts) x3.1 x3.2.1 x3.2.2 .nil) cs) (hs.mono (fun x hx=>⟨Nat.le_trans H2.out.sz hx.1,hx.2⟩))); clear hc hp hb hs K he
  have K:=Lib.hid (must_any [101,110,100] _ _ _ _ _ _ H3.out.par)
  go_wp2_with fail
  refine K.out.mono ?_; intro e w4 he
  rcases he.cut with ⟨en,q,b9,rfl,hx,HE⟩ | ⟨_,r4,_,rfl,X4,rfl,hc,hp⟩
  ·go_wp2_with fail; exact ⟨rfl,HE.out _ _ _ H3.out.chg (by rw [stmt,if_pos HI_if.out]; simp only [X3.out,hx.out])⟩
  have H4:=Lib.hid (H3.out.step hc hp); clear hc hp K he
  obtain ⟨wE,rfl⟩ : ∃ x,x=w4:=⟨_,rfl⟩
  obtain ⟨sx,rE,cs,Q,H9,HSE,hlE,HRR⟩ : ∃ (sx:S) (rE:List Tok) (cs:List Value) (Q:World→(Nat→Prop)→Prop),Hid (Mk 85 w wE B bp bt z rE (sCells 0) cs.toArray Q)∧Hid (SAt wE (New2 w wE) sx cs)∧S.len sx=1∧Hid (stmt z (bodies z d).1 (bodies z (d + 1)).2 ts = .ok sx rE):=
   ⟨(.ifs (hd z ts) x3.1 x3.2.1 x3.2.2 .nil),_,_,_,H4,Lib.hid (H4.out.q.2),rfl,Lib.hid (by rw [stmt,if_pos HI_if.out]; simp only [X3.out,X4.out])⟩
 case' false=>
  have HI_if:=Lib.hid hk
  clear hk
  refine K.out.mono ?_; rintro _ w2 ⟨rfl,_,_,hw⟩
  rw [HI_if.out]
  have hw':=(hw HI_if.out).symm; subst hw'; clear hw K
  have K:=Lib.hid (take_any [119,104,105,108,101] _ _ _ _ _ _ H1.out.par)
  cases hk : see [119,104,105,108,101] ts
  case' true=>
   have HI_while:=Lib.hid hk
   clear hk
   go_wp2_with fail
   refine K.out.mono ?_; rintro _ w2 ⟨rfl,hp,hc,_⟩
   rw [HI_while.out]
   rw [skip,HI_while.out,if_pos rfl] at hp
   have H2:=Lib.hid (H1.out.step hc hp); clear hc hp K
   have K:=Lib.hid (ex0_any _ _ _ _ _ _ H2.out.par)
   go_wp2_with fail
   refine K.out.mono ?_; intro e w3 he
   rcases he.cut with ⟨en,q,b9,rfl,hx,HE⟩ | ⟨v,r3,u,rfl,X3,hv,hc,hp⟩
   ·go_wp2_with fail; exact ⟨rfl,HE.out _ _ _ H2.out.chg (by rw [stmt,if_neg (by rw [HI_if.out]; simp),if_pos HI_while.out]; simp only [hx.out])⟩
   obtain ⟨b3,rfl⟩:=hv.ptr
   have H3:=Lib.hid (H2.out.call hc hp (framed_E v [ptr b3]) hv); clear hc hp hv K he
   obtain ⟨e0,_,_,_,e4,_,_⟩:=H3.out.blk.seven; obtain ⟨f0,_,_,_,f4,_,_⟩:=H3.out.blk.free7
   obtain ⟨w3b,hw⟩ : ∃ x,x=(w3.setCell ⟨w.heap.size + 1,0,none⟩ (.int .i64 3)).setCell ⟨w.heap.size + 1,4,none⟩ (ptr b3):=⟨_,rfl⟩
   have H3b:=Lib.hid ((H3.out.store 0 (.int .i64 3)).store 4 (ptr b3))
   simp only [Array.setIfInBounds] at H3b
   rw [← hw] at H3b
   have K:=Lib.hid (must_any [100,111] _ _ _ _ _ _ H3b.out.par)
   go_wp2_with fail
   rw [← hw]
   refine K.out.mono ?_; intro e w5 he
   rcases he.cut with ⟨en,q,b9,rfl,hx,HE⟩ | ⟨_,r5,_,rfl,X5,rfl,hc,hp⟩
   ·go_wp2_with fail; exact ⟨rfl,HE.out _ _ _ H3b.out.chg (by rw [stmt,if_neg (by rw [HI_if.out]; simp),if_pos HI_while.out]; simp only [X3.out,hx.out])⟩
   have H5:=Lib.hid (H3b.out.step hc hp); clear hc hp K he
   clear e0 f0 e4 f4 hw
   have K:=Lib.hid (HBO.out _ _ _ _ _ _ H5.out.par)
   go_wp2_with fail
   refine K.out.mono ?_; intro e w6 he
   rcases he.cut with ⟨en,q,b9,rfl,hx,HE⟩ | ⟨t,r6,_,rfl,X6,⟨a6,k6,cs6,rfl,hl,hr,hs⟩,hc,hp⟩
   ·go_wp2_with fail; exact ⟨rfl,HE.out _ _ _ H5.out.chg (by rw [stmt,if_neg (by rw [HI_if.out]; simp),if_pos HI_while.out]; simp only [X3.out,X5.out,hx.out])⟩
   have H6:=Lib.hid (H5.out.call hc hp (framed_Sl t (.slice a6 t.len k6)) ⟨_,_,_,rfl,hl,hr,hs⟩); clear hc hp K he
   clear hl hr hs
   obtain ⟨_,_,_,_,_,e5,_⟩:=H6.out.blk.seven; obtain ⟨_,_,_,_,_,f5,_⟩:=H6.out.blk.free7
   obtain ⟨w6b,hw⟩ : ∃ x,x=w6.setCell ⟨w.heap.size + 1,5,none⟩ (.slice a6 t.len k6):=⟨_,rfl⟩
   have H6b:=Lib.hid (H6.out.store 5 (.slice a6 t.len k6))
   simp only [Array.setIfInBounds] at H6b
   rw [← hw] at H6b
   have K:=Lib.hid (must_any [101,110,100] _ _ _ _ _ _ H6b.out.par)
   go_wp2_with fail
   rw [← hw]
   refine K.out.mono ?_; intro e w7 he
   rcases he.cut with ⟨en,q,b9,rfl,hx,HE⟩ | ⟨_,r7,_,rfl,X7,rfl,hc,hp⟩
   ·go_wp2_with fail; exact ⟨rfl,HE.out _ _ _ H6b.out.chg (by rw [stmt,if_neg (by rw [HI_if.out]; simp),if_pos HI_while.out]; simp only [X3.out,X5.out,X6.out,hx.out])⟩
   have H7:=Lib.hid (H6b.out.step hc hp); clear hc hp K he
   clear e5 f5 hw
   obtain ⟨wE,rfl⟩ : ∃ x,x=w7:=⟨_,rfl⟩
   obtain ⟨sx,rE,cs,Q,H9,HSE,hlE,HRR⟩ : ∃ (sx:S) (rE:List Tok) (cs:List Value) (Q:World→(Nat→Prop)→Prop),Hid (Mk 85 w wE B bp bt z rE (sCells 0) cs.toArray Q)∧Hid (SAt wE (New2 w wE) sx cs)∧S.len sx=1∧Hid (stmt z (bodies z d).1 (bodies z (d + 1)).2 ts = .ok sx rE):=
    ⟨(.whil (hd z ts) v t .nil),_,_,_,H7,Lib.hid (by obtain ⟨a,c,cs7,he,h1,h2,h3⟩:=H7.out.q.2; cases he; exact ⟨_,_,_,_,[],rfl,H7.out.q.1.2,h1,h2,h3,rfl⟩),rfl,Lib.hid (by rw [stmt,if_neg (by rw [HI_if.out]; simp),if_pos HI_while.out]; simp only [X3.out,X5.out,X6.out,X7.out])⟩
  case' false=>
   have HI_while:=Lib.hid hk
   clear hk
   go_wp2_with fail
   refine K.out.mono ?_; rintro _ w2 ⟨rfl,_,_,hw⟩
   rw [HI_while.out]
   have hw':=(hw HI_while.out).symm; subst hw'; clear hw K
   have K:=Lib.hid (take_any [114,101,116,117,114,110] _ _ _ _ _ _ H1.out.par)
   cases hk : see [114,101,116,117,114,110] ts
   case' true=>
    have HI_return:=Lib.hid hk
    clear hk
    go_wp2_with fail
    refine K.out.mono ?_; rintro _ w2 ⟨rfl,hp,hc,_⟩
    rw [HI_return.out]
    rw [skip,HI_return.out,if_pos rfl] at hp
    have H2:=Lib.hid (H1.out.step hc hp); clear hc hp K
    have K:=Lib.hid (ex0_any _ _ _ _ _ _ H2.out.par)
    go_wp2_with fail
    refine K.out.mono ?_; intro e w3 he
    rcases he.cut with ⟨en,q,b9,rfl,hx,HE⟩ | ⟨v,r3,u,rfl,X3,hv,hc,hp⟩
    ·go_wp2_with fail; exact ⟨rfl,HE.out _ _ _ H2.out.chg (by rw [stmt,if_neg (by rw [HI_if.out]; simp),if_neg (by rw [HI_while.out]; simp),if_pos HI_return.out]; simp only [hx.out])⟩
    obtain ⟨b3,rfl⟩:=hv.ptr
    have H3:=Lib.hid (H2.out.call hc hp (framed_E v [ptr b3]) hv); clear hc hp hv K he
    obtain ⟨e0,_,_,_,e4,_,_⟩:=H3.out.blk.seven; obtain ⟨f0,_,_,_,f4,_,_⟩:=H3.out.blk.free7
    obtain ⟨w3b,hw⟩ : ∃ x,(w3.setCell ⟨w.heap.size + 1,0,none⟩ (.int .i64 4)).setCell ⟨w.heap.size + 1,4,none⟩ (ptr b3)=x:=⟨_,rfl⟩
    have H3b:=Lib.hid ((H3.out.store 0 (.int .i64 4)).store 4 (ptr b3))
    simp only [Array.setIfInBounds] at H3b
    rw [hw] at H3b
    obtain ⟨wE,rfl⟩ : ∃ x,x=w3b:=⟨_,rfl⟩
    obtain ⟨sx,rE,cs,Q,H9,HSE,hlE,HRR⟩ : ∃ (sx:S) (rE:List Tok) (cs:List Value) (Q:World→(Nat→Prop)→Prop),Hid (Mk 85 w wE B bp bt z rE (sCells 0) cs.toArray Q)∧Hid (SAt wE (New2 w wE) sx cs)∧S.len sx=1∧Hid (stmt z (bodies z d).1 (bodies z (d + 1)).2 ts = .ok sx rE):=
     ⟨(.ret (hd z ts) v .nil),_,_,_,H3b,Lib.hid (⟨_,[],rfl,H3b.out.q.2,rfl⟩),rfl,Lib.hid (by rw [stmt,if_neg (by rw [HI_if.out]; simp),if_neg (by rw [HI_while.out]; simp),if_pos HI_return.out]; simp only [X3.out])⟩
   case' false=>
    have HI_return:=Lib.hid hk
    clear hk
    go_wp2_with fail
    refine K.out.mono ?_; rintro _ w2 ⟨rfl,_,_,hw⟩
    rw [HI_return.out]
    have hw':=(hw HI_return.out).symm; subst hw'; clear hw K
    have K:=Lib.hid (take_any [119,114,105,116,101] _ _ _ _ _ _ H1.out.par)
    cases hk : see [119,114,105,116,101] ts
    case' true=>
     have HI_write:=Lib.hid hk
     clear hk
     go_wp2_with fail
     refine K.out.mono ?_; rintro _ w2 ⟨rfl,hp,hc,_⟩
     rw [HI_write.out]
     rw [skip,HI_write.out,if_pos rfl] at hp
     have H2:=Lib.hid (H1.out.step hc hp); clear hc hp K
     have K:=Lib.hid (ex0_any _ _ _ _ _ _ H2.out.par)
     go_wp2_with fail
     refine K.out.mono ?_; intro e w3 he
     rcases he.cut with ⟨en,q,b9,rfl,hx,HE⟩ | ⟨v,r3,u,rfl,X3,hv,hc,hp⟩
     ·go_wp2_with fail; exact ⟨rfl,HE.out _ _ _ H2.out.chg (by rw [stmt,if_neg (by rw [HI_if.out]; simp),if_neg (by rw [HI_while.out]; simp),if_neg (by rw [HI_return.out]; simp),if_pos HI_write.out]; simp only [hx.out])⟩
     obtain ⟨b3,rfl⟩:=hv.ptr
     have H3:=Lib.hid (H2.out.call hc hp (framed_E v [ptr b3]) hv); clear hc hp hv K he
     obtain ⟨e0,_,_,_,e4,_,_⟩:=H3.out.blk.seven; obtain ⟨f0,_,_,_,f4,_,_⟩:=H3.out.blk.free7
     obtain ⟨w3b,hw⟩ : ∃ x,(w3.setCell ⟨w.heap.size + 1,0,none⟩ (.int .i64 5)).setCell ⟨w.heap.size + 1,4,none⟩ (ptr b3)=x:=⟨_,rfl⟩
     have H3b:=Lib.hid ((H3.out.store 0 (.int .i64 5)).store 4 (ptr b3))
     simp only [Array.setIfInBounds] at H3b
     rw [hw] at H3b
     obtain ⟨wE,rfl⟩ : ∃ x,x=w3b:=⟨_,rfl⟩
     obtain ⟨sx,rE,cs,Q,H9,HSE,hlE,HRR⟩ : ∃ (sx:S) (rE:List Tok) (cs:List Value) (Q:World→(Nat→Prop)→Prop),Hid (Mk 85 w wE B bp bt z rE (sCells 0) cs.toArray Q)∧Hid (SAt wE (New2 w wE) sx cs)∧S.len sx=1∧Hid (stmt z (bodies z d).1 (bodies z (d + 1)).2 ts = .ok sx rE):=
      ⟨(.wri (hd z ts) v .nil),_,_,_,H3b,Lib.hid (⟨_,[],rfl,H3b.out.q.2,rfl⟩),rfl,Lib.hid (by rw [stmt,if_neg (by rw [HI_if.out]; simp),if_neg (by rw [HI_while.out]; simp),if_neg (by rw [HI_return.out]; simp),if_pos HI_write.out]; simp only [X3.out])⟩
    case' false=>
     have HI_write:=Lib.hid hk
     clear hk
     go_wp2_with fail
     refine K.out.mono ?_; rintro _ w2 ⟨rfl,_,_,hw⟩
     rw [HI_write.out]
     have hw':=(hw HI_write.out).symm; subst hw'; clear hw K
     have K:=Lib.hid (first_any (hd z ts) _ _ _ _ _ _ _ H1.out.par H1.out.blk (by omega) (by omega) (by omega))
     go_wp2_with fail
     refine K.out.mono ?_; intro e w2 he
     rcases he.cut with ⟨en,q,b9,rfl,hx,HE⟩ | ⟨x2,r2,rfl,X2,⟨cs,hb,hs⟩,hc,hp⟩
     ·go_wp2_with fail; exact ⟨rfl,H1.out.bad HE.out (by rw [stmt,if_neg (by rw [HI_if.out]; simp),if_neg (by rw [HI_while.out]; simp),if_neg (by rw [HI_return.out]; simp),if_neg (by rw [HI_write.out]; simp)]; simp only [hx.out])⟩
     have H2:=Lib.hid ((H1.out.loop hc hp hb).add (framed_S x2 cs) (hs.mono (fun x hx=>⟨Nat.le_trans H1.out.sz hx.1,hx.2⟩))); clear hc hp hb hs K he
     obtain ⟨wE,rfl⟩ : ∃ x,x=w2:=⟨_,rfl⟩
     obtain ⟨sx,rE,cs,Q,H9,HSE,hlE,HRR⟩ : ∃ (sx:S) (rE:List Tok) (cs:List Value) (Q:World→(Nat→Prop)→Prop),Hid (Mk 85 w wE B bp bt z rE (sCells 0) cs.toArray Q)∧Hid (SAt wE (New2 w wE) sx cs)∧S.len sx=1∧Hid (stmt z (bodies z d).1 (bodies z (d + 1)).2 ts = .ok sx rE):=
      ⟨x2,_,_,_,H2,Lib.hid (H2.out.q.2),first_len X2.out,Lib.hid (by rw [stmt,if_neg (by rw [HI_if.out]; simp),if_neg (by rw [HI_while.out]; simp),if_neg (by rw [HI_return.out]; simp),if_neg (by rw [HI_write.out]; simp)]; simp only [X2.out])⟩
 all_goals
  obtain ⟨k9,q9,n9,i9,v9,a9,l9,m9,b9,j9,o9,rfl⟩:=HSE.out.shape hlE
  obtain ⟨d0,d1,d2,d3,d4,d5,d6⟩:=H9.out.blk.seven; obtain ⟨e0,e1,e2,e3,e4,e5,e6⟩:=H9.out.res.seven; obtain ⟨f0,f1,f2,f3,f4,f5,f6⟩:=H9.out.res.free7
  go_wp2_with fail
  obtain ⟨wF,hwF,hcF,hbF⟩:=set7 (.int .i64 k9) (.int .i64 q9) (str n9) (.pointer i9) (.pointer v9) (.slice a9 l9 m9) (.slice b9 j9 o9) H9.out.res
  rw [hwF]
  clear hwF
  obtain ⟨g0,g1,g2,g3,g4,g5,g6⟩:=hbF.seven
  refine bodyPost_ret (v:=.agg #[.int .i64 k9,.int .i64 q9,str n9,.pointer i9,.pointer v9,.slice a9 l9 m9,.slice b9 j9 o9]) (by simp [results,Tryz.results62,go_sem,g0,g1,g2,g3,g4,g5,g6]) rfl ?_
  rw [HRR.out]
  have hkF : ∀ x∈[w.heap.size],¬ New2 w wE x:=fun x hx hn=>by simp at hx; have:=hn.1; omega
  exact ⟨H9.out.chg.trans hcF (fun x hx=>.inr (by simp at hx; omega)),_,rfl,⟨_,rfl,rfl,(HSE.out.kept hcF hkF).mono (fun x hx=>⟨by have:=hx.1; omega,Nat.lt_of_lt_of_le hx.2 hcF.size⟩)⟩,H9.out.par.kept hcF (fun x hx=>by simp at hx; omega) (by simp; omega) (by simp; omega)⟩
end Go.Proofs.YtilhhkokdfajiaaGreatDoor
namespace Go.Mq.Tree
open Go Go.RowKit Go.Mq
theorem ex0_eats (z:Nat):Eats (ex0 z):=expr_eats (one_eats z 11) 5
theorem first_mono (z p:Nat):Mono (first z p):=by
 intro ts a r h
 rw [first] at h
 cases hn : named z (expr z (one z 10) 5) ts with
 | bad e q=>rw [hn] at h; cases h
 | ok e r1=>
  have g1:=named_eats (expr_eats (one_eats z 10) 5) _ _ _ hn
  rcases named_shape hn with ⟨q,m,n,rfl⟩ | ⟨q,m,n,i,rfl⟩ | ⟨q,m,n,l,rfl⟩
  ·simp only [hn] at h
   split at h
   ·cases h
   ·cases hm : must z [58,61] r1 with
    | bad e q=>simp only [hm] at h; cases h
    | ok u r2=>
     have g2:=must_len hm
     simp only [hm] at h
     cases hx : ex0 z r2 with
     | bad e q=>simp only [hx] at h; cases h
     | ok v r3=>
      have g3:=ex0_eats z _ _ _ hx
      simp only [hx] at h
      cases h
      omega
  ·simp only [hn] at h
   split at h
   ·cases h
   ·cases hm : must z [58,61] r1 with
    | bad e q=>simp only [hm] at h; cases h
    | ok u r2=>
     have g2:=must_len hm
     simp only [hm] at h
     cases hx : ex0 z r2 with
     | bad e q=>simp only [hx] at h; cases h
     | ok v r3=>
      have g3:=ex0_eats z _ _ _ hx
      simp only [hx] at h
      cases h
      omega
  ·simp only [hn] at h
   cases h
   omega
theorem restL_mono {z:Nat} {bd:Ps S} {more:Ps (E × S × S)} (hb:Mono bd) (hm:Mono more):Mono (restL z bd more):=by
 intro ts a r h
 rw [restL] at h
 cases h1 : ex0 z ts with
 | bad e q=>rw [h1] at h; cases h
 | ok v r1=>
  have g1:=ex0_eats z _ _ _ h1
  simp only [h1] at h
  cases h2 : must z [116,104,101,110] r1 with
  | bad e q=>simp only [h2] at h; cases h
  | ok u r2=>
   have g2:=must_len h2
   simp only [h2] at h
   cases h3 : bd r2 with
   | bad e q=>simp only [h3] at h; cases h
   | ok t r3=>
    have g3:=hb _ _ _ h3
    simp only [h3] at h
    split at h
    ·cases h4 : more r3.tail with
     | bad e q=>simp only [h4] at h; cases h
     | ok x r4=>
      have g4:=hm _ _ _ h4
      simp only [h4] at h
      cases h
      simp at g4; omega
    ·split at h
     ·cases h4 : bd r3.tail with
      | bad e q=>simp only [h4] at h; cases h
      | ok x r4=>
       have g4:=hb _ _ _ h4
       simp only [h4] at h
       cases h
       simp at g4; omega
     ·cases h; omega
theorem stmt_mono {z:Nat} {bd:Ps S} {rest:Ps (E × S × S)} (hb:Mono bd) (hr:Mono rest):Mono (stmt z bd rest):=by
 intro ts a r h
 have ht : ts.tail.length≤ts.length:=by simp
 rw [stmt] at h
 split at h
 ·cases h1 : rest ts.tail with
  | bad e q=>simp only [h1] at h; cases h
  | ok x r1=>
   have g1:=hr _ _ _ h1
   simp only [h1] at h
   cases h2 : must z [101,110,100] r1 with
   | bad e q=>simp only [h2] at h; cases h
   | ok u r2=>
    have g2:=must_len h2
    simp only [h2] at h
    cases h; omega
 ·split at h
  ·cases h1 : ex0 z ts.tail with
   | bad e q=>simp only [h1] at h; cases h
   | ok v r1=>
    have g1:=ex0_eats z _ _ _ h1
    simp only [h1] at h
    cases h2 : must z [100,111] r1 with
    | bad e q=>simp only [h2] at h; cases h
    | ok u r2=>
     have g2:=must_len h2
     simp only [h2] at h
     cases h3 : bd r2 with
     | bad e q=>simp only [h3] at h; cases h
     | ok t r3=>
      have g3:=hb _ _ _ h3
      simp only [h3] at h
      cases h4 : must z [101,110,100] r3 with
      | bad e q=>simp only [h4] at h; cases h
      | ok u r4=>
       have g4:=must_len h4
       simp only [h4] at h
       cases h; omega
  ·split at h
   ·cases h1 : ex0 z ts.tail with
    | bad e q=>simp only [h1] at h; cases h
    | ok v r1=>
     have g1:=ex0_eats z _ _ _ h1
     simp only [h1] at h
     cases h; omega
   ·split at h
    ·cases h1 : ex0 z ts.tail with
     | bad e q=>simp only [h1] at h; cases h
     | ok v r1=>
      have g1:=ex0_eats z _ _ _ h1
      simp only [h1] at h
      cases h; omega
    ·exact first_mono z _ _ _ _ h
theorem bodyL_mono {z:Nat} {st:Ps S} (hs:Mono st) : ∀ f l,Mono (bodyL z st f l):=by
 intro f
 induction f with
 | zero=>intro l ts a r h; cases h
 | succ f ih=>
  intro l ts a r h
  rw [bodyL] at h
  split at h
  ·cases h; exact Nat.le_refl _
  ·cases h1 : st ts with
   | bad e q=>rw [h1] at h; cases h
   | ok s r1=>
    have g1:=hs _ _ _ h1
    simp only [h1] at h
    cases h2 : must z [59] r1 with
    | bad e q=>simp only [h2] at h; cases h
    | ok u r2=>
     have g2:=must_len h2
     simp only [h2] at h
     have g3:=ih _ _ _ _ h
     omega
theorem bodies_mono (z:Nat) : ∀ d,Mono (bodies z d).1∧Mono (bodies z d).2:=by
 intro d
 induction d with
 | zero=>exact ⟨fun ts a r h=>(by cases h),fun ts a r h=>(by cases h)⟩
 | succ d ih=>exact ⟨fun ts a r h=>bodyL_mono (stmt_mono ih.1 (restL_mono ih.1 ih.2)) _ _ _ _ _ h,restL_mono ih.1 ih.2⟩
theorem stmt_len {z:Nat} {bd:Ps S} {rest:Ps (E × S × S)} {ts r:List Tok} {s:S} (h : stmt z bd rest ts = .ok s r) : s.len=1:=by
 rw [stmt] at h
 repeat' (split at h)
 all_goals first | (cases h; rfl) | cases h | exact first_len h | (rename_i h2; split at h2; all_goals first | cases h2 | (cases h; rfl))
end Go.Mq.Tree
namespace Go.Proofs.YtilhhkokdfajiaaGreatDoor
open Go Go.RowKit Go.Mq Go.Mq.Tree
set_option maxRecDepth 100000
set_option maxHeartbeats 8000000
theorem infoStmt : (Tryz.prog.info? 85).map (fun i=>(i.zero,i.size,i.bytes))=some (some (.agg #[.int .i64 0,.int .i64 0,.string ⟨#[]⟩,.pointer none,.pointer none,.slice none 0 0,.slice none 0 0]),7,96):=by kernel_rfl
theorem body_of (deep:Nat) (hdp : deep≤10) (st:Nat→Ps S) (hS:StmtOK deep st) (hm : ∀ z,Mono (st z)) (hl : ∀ z ts s r,st z ts = .ok s r→s.len=1) (w:World) (B bp bt z:Nat) (ts:List Tok) (h:Par w B bp bt z ts) :
  Calls Tryz.prog 42 #[ptr bp,.int .i64 deep] w (Ended w B bp bt z (bodyL z (st z) (ts.length + 1) .nil ts) (fun w' s v=>SlAt w' (New w w') s v)):=by
 have HS:=Lib.hid hS
 have H:=Lib.hid h
 have hB:=h.laid.le
 have hbp:=h.bp_lt
 have hbt:=h.bt_lt
 have hfew:=h.few
 have HM:=Lib.hid (hm z)
 have HL:=Lib.hid (hl z)
 have hdec : decide ((10:Int) < (deep:Int))=false:=by simp; omega
 clear h hS hm hl
 go_enter Tryz.func42,Tryz.ntmps42
 go_wp2_with fail
 clear hdec
 go_loopw [5] (fun l wr=>∃ (f:Nat) (acc:S) (cs:List Value) (ts':List Tok),bodyL z (st z) (ts.length + 1) .nil ts=bodyL z (st z) f acc ts'∧ts'.length < f∧acc.len + ts'.length≤600 ∧
   Par wr B bp bt z ts'∧wr.ownsRow 0 85 7 l acc.len cs∧SAt wr (Off w wr l) acc cs∧From w.heap.size l∧Chg [bp] w wr) (fun _ wr=>cntOf wr bp)
 case atStart=>exact ⟨ts.length + 1,.nil,[],ts,rfl,by omega,by simpa [S.len] using hfew,H.out,World.ownsRow_nil _ _ _ _,rfl,From.nil _,Chg.refl _ _⟩
 case round=>
  obtain ⟨f,acc,cs,ts',hr,hf,hlen,hp,ho,hes,hF,hC⟩:=hrel
  have HR:=Lib.hid hr; have HP:=Lib.hid hp; have HO:=Lib.hid ho; have HES:=Lib.hid hes; have HF:=Lib.hid hF; have HC:=Lib.hid hC
  obtain ⟨sa,sc,hs⟩:=slice_of_owns ho
  clear hr hp ho hes hF hC
  subst hs
  obtain ⟨f,rfl⟩ : ∃ f',f=f' + 1:=⟨f - 1,by omega⟩
  have HA:=Lib.hid (see_any [101,110,100] wr B bp bt z ts' HP.out)
  have HB:=Lib.hid (see_any [101,108,115,101] wr B bp bt z ts' HP.out)
  have HD:=Lib.hid (see_any [101,108,115,105,102] wr B bp bt z ts' HP.out)
  have HEND:Hid ((see [101,110,100] ts' || see [101,108,115,101] ts' || see [101,108,115,105,102] ts')=true→Ended w B bp bt z (bodyL z (st z) (ts.length + 1) .nil ts) (fun w' s v=>SlAt w' (New w w') s v) (.returned (.slice sa acc.len sc)) wr):=Lib.hid (fun hsee=>by
   rw [HR.out,bodyL,if_pos hsee]
   refine ⟨HC.out,_,rfl,?_,HP.out⟩
   obtain ⟨a,c,he,hac,hrow⟩:=Row.of_owns HO.out (new_owns HO.out HF.out)
   cases he
   exact ⟨_,_,_,rfl,hac,hrow,(framed_S acc cs).done HES.out⟩)
  cases ha : see [101,110,100] ts' with
  | true=>
   rw [ha] at HA HEND
   clear ha
   go_wp2_with fail
   refine HA.out.mono ?_; rintro _ _ ⟨rfl,hw⟩; have hw:=hw.symm; subst hw
   go_wp2_with fail
   go_ret
   exact HEND.out (by simp)
  | false=>
   rw [ha] at HA HEND
   cases hb : see [101,108,115,101] ts' with
   | true=>
    rw [hb] at HB HEND
    clear ha hb
    go_wp2_with fail
    refine HA.out.mono ?_; rintro _ _ ⟨rfl,hw⟩; have hw:=hw.symm; subst hw
    go_wp2_with fail
    refine HB.out.mono ?_; rintro _ _ ⟨rfl,hw⟩; have hw:=hw.symm; subst hw
    go_wp2_with fail
    go_ret
    exact HEND.out (by simp)
   | false=>
    rw [hb] at HB HEND
    cases hd' : see [101,108,115,105,102] ts' with
    | true=>
     rw [hd'] at HD HEND
     clear ha hb hd'
     go_wp2_with fail
     refine HA.out.mono ?_; rintro _ _ ⟨rfl,hw⟩; have hw:=hw.symm; subst hw
     go_wp2_with fail
     refine HB.out.mono ?_; rintro _ _ ⟨rfl,hw⟩; have hw:=hw.symm; subst hw
     go_wp2_with fail
     refine HD.out.mono ?_; rintro _ _ ⟨rfl,hw⟩; have hw:=hw.symm; subst hw
     go_wp2_with fail
     go_ret
     exact HEND.out (by simp)
    | false=>
     rw [hd'] at HD
     have HRR:Hid (∀ q,st z ts'=q→bodyL z (st z) (ts.length + 1) .nil ts=match q with | .bad e p=>.bad e p | .ok s r=>(match must z [59] r with | .bad e p=>.bad e p | .ok _ r2=>bodyL z (st z) f (acc.app s) r2)):=Lib.hid (fun q hq=>by rw [HR.out,bodyL,ha,hb,hd',if_neg (by simp),hq]; cases q <;> rfl)
     clear ha hb hd' HEND
     have HX:=Lib.hid (HS.out wr B bp bt z ts' HP.out)
     cases hx : st z ts' with
     | bad en p=>
      have HE:=Lib.hid (HRR.out _ hx)
      rw [hx] at HX
      clear hx
      go_wp2_with fail
      refine HA.out.mono ?_; rintro _ _ ⟨rfl,hw⟩; have hw:=hw.symm; subst hw
      go_wp2_with fail
      refine HB.out.mono ?_; rintro _ _ ⟨rfl,hw⟩; have hw:=hw.symm; subst hw
      go_wp2_with fail
      refine HD.out.mono ?_; rintro _ _ ⟨rfl,hw⟩; have hw:=hw.symm; subst hw
      go_wp2_with fail
      refine HX.out.mono ?_; intro e w2 he
      have HEE:=Lib.hid he
      obtain ⟨b,rfl⟩:=he.thrown
      clear he
      go_wp2_with fail
      refine ⟨rfl,?_⟩
      rw [HE.out]
      exact HEE.out.relay HC.out
     | ok s r=>
      have hxl:=HM.out _ _ _ hx
      have hs1:=HL.out _ _ _ hx
      have HE:=Lib.hid (HRR.out _ hx)
      rw [hx] at HX
      clear hx
      go_wp2_with fail
      refine HA.out.mono ?_; rintro _ _ ⟨rfl,hw⟩; have hw:=hw.symm; subst hw
      go_wp2_with fail
      refine HB.out.mono ?_; rintro _ _ ⟨rfl,hw⟩; have hw:=hw.symm; subst hw
      go_wp2_with fail
      refine HD.out.mono ?_; rintro _ _ ⟨rfl,hw⟩; have hw:=hw.symm; subst hw
      go_wp2_with fail
      refine HX.out.mono ?_; rintro _ w4 ⟨hc4,_,rfl,⟨cx,rfl,hcl,hsx⟩,hp4⟩
      have HSX:=Lib.hid hsx
      obtain ⟨k9,q9,n9,i9,v9,a9,l9,m9,b9,j9,o9,rfl⟩:=hsx.shape hs1
      have HC4:=Lib.hid hc4; have HP4:=Lib.hid hp4
      have ho4:=owns_kept HO.out hc4 (fun g hg hm=>by have:=HF.out g hg; simp at hm; omega)
      have ho5:=owns_kept ho4 ((Chg.refl [] w4).alloc (.cells #[.int .i64 k9,.int .i64 q9,str n9,.pointer i9,.pointer v9,.slice a9 l9 m9,.slice b9 j9 o9] 85)) (by simp)
      have HO4:=Lib.hid ho5
      have hal : acc.len≤600:=by omega
      clear hc4 hp4 ho4 ho5 hcl hsx
      go_wp2_with (at_builtin; go_must (refine wpL_append rfl _ _ 27 rfl 85 _ 7 96 infoStmt Tryz.underlying27 rfl (by decide) _ _ _ rfl HO4.out ⟨w4.heap.size,0,none⟩ 1 1 [.int .i64 k9,.int .i64 q9,str n9,.pointer i9,.pointer v9,.slice a9 l9 m9,.slice b9 j9 o9] rfl rfl (cells_new _ _ _) (by simp [Value.oneCell']) ?_ ?_ ?_))
      ·omega
      ·unfold maxLen; omega
      ·intro v' w' hown' hch' hmv'
       have HO':=Lib.hid hown'; clear hown'
       obtain ⟨hp5,hc5,hf5⟩:=grow_step hB hbp hbt HC.out HC4.out HP4.out HF.out hch' hmv'
       have hlw : ∀ g∈blk _,g < wr.heap.size:=fun g hg=>owns_lt HO.out g hg
       have hes4:=(framed_S acc cs).call HES.out HC4.out hbp
       have hx4:=(framed_S s _).fresh HSX.out hlw HC.out.size
       have hes5:=(framed_S acc cs).app hes4 hch' hmv'
       have hx5:=(framed_S s _).app hx4 hch' hmv'
       have HES5:=Lib.hid (SAt.append hx5 hes5)
       have HP5:=Lib.hid hp5; have HC5:=Lib.hid hc5; have HF5:=Lib.hid hf5
       have hal5 : (acc.app s).len=acc.len + 1:=by rw [S.app_len,hs1]
       have HMU:=Lib.hid (must_any [59] w' B bp bt z r hp5)
       clear hch' hmv' hp5 hc5 hf5 hes4 hx4 hes5 hx5 hlw
       cases hmu : must z [59] r with
       | bad en p=>
        have HEB:=Lib.hid (show bodyL z (st z) (ts.length + 1) .nil ts = .bad en p by rw [HE.out]; simp only [hmu])
        rw [hmu] at HMU
        clear hmu
        go_wp2_with fail
        refine HMU.out.mono ?_; intro e w6 he
        have HEE:=Lib.hid he
        obtain ⟨b,rfl⟩:=he.thrown
        clear he
        go_wp2_with fail
        refine ⟨rfl,?_⟩
        rw [HEB.out]
        exact HEE.out.relay HC5.out
       | ok u r2=>
        have hml:=must_len hmu
        have HEO:=Lib.hid (show bodyL z (st z) (ts.length + 1) .nil ts=bodyL z (st z) f (acc.app s) r2 by rw [HE.out]; simp only [hmu])
        rw [hmu] at HMU
        clear hmu
        go_wp2_with fail
        refine HMU.out.mono ?_; rintro _ w6 ⟨hc6,_,rfl,rfl,hp6⟩
        have HC6:=Lib.hid hc6; have HP6:=Lib.hid hp6
        clear hc6 hp6
        go_wp2_with fail
        have ho6:=owns_kept HO'.out HC6.out (fun g hg hm=>by have:=HF5.out g hg; simp at hm; omega)
        refine ⟨⟨f,acc.app s,_,r2,HEO.out,by omega,by rw [hal5]; omega,HP6.out,by rw [hal5]; exact ho6,(framed_S _ _).call HES5.out HC6.out hbp,HF5.out,HC5.out.then HC6.out⟩,?_⟩
        rw [HP6.out.cnt,HP.out.cnt]
        omega
theorem body_deep (w:World) (B bp bt z:Nat) (ts:List Tok) (h:Par w B bp bt z ts) :
  Calls Tryz.prog 42 #[ptr bp,.int .i64 (11:Nat)] w (Ended w B bp bt z (.bad 4 (hd z ts):R S) (fun w' s v=>SlAt w' (New w w') s v)):=by
 have HF:=Lib.hid (fail_any 4 w B bp bt z ts h)
 clear h
 go_enter Tryz.func42,Tryz.ntmps42
 go_wp2_with fail
 refine HF.out.mono ?_; intro e w6 he
 have HEE:=Lib.hid he
 obtain ⟨b,rfl⟩:=he.thrown
 clear he
 go_wp2_with fail
 refine ⟨rfl,?_⟩
 exact HEE.out.relay (Chg.refl _ _)
theorem bodies_any : ∀ d deep,deep + d=11→BodyOK deep d∧(0 < d→RestOK deep d):=by
 intro d
 induction d with
 | zero=>
  intro deep h
  obtain rfl : deep=11:=by omega
  exact ⟨fun w B bp bt z ts hp=>body_deep w B bp bt z ts hp,fun h=>by omega⟩
 | succ d ih=>
  intro deep h
  have hB:=(ih (deep + 1) (by omega)).1
  have hR:RestOK (deep + 1) d∨d=0:=by
   rcases Nat.eq_zero_or_pos d with h0 | h0
   ·exact .inr h0
   ·exact .inl ((ih (deep + 1) (by omega)).2 h0)
  have hRR:=rest_step deep d (by omega) hB hR
  refine ⟨?_,fun _=>hRR⟩
  have hS:=stmt_step deep d (by omega) hB hRR
  exact fun w B bp bt z ts hp=>body_of deep (by omega) _ hS (fun z=>stmt_mono (bodies_mono z d).1 (bodies_mono z (d + 1)).2) (fun z ts s r hx=>stmt_len hx) w B bp bt z ts hp
theorem body0_any (w:World) (B bp bt z:Nat) (ts:List Tok) (h:Par w B bp bt z ts) :
  Calls Tryz.prog 42 #[ptr bp,.int .i64 0] w (Ended w B bp bt z (body0 z ts) (fun w' s v=>SlAt w' (New w w') s v)):=
 (bodies_any 11 0 rfl).1 w B bp bt z ts h
end Go.Proofs.YtilhhkokdfajiaaGreatDoor
namespace Go.Proofs.YtilhhkokdfajiaaGreatDoor
open Go Go.RowKit Go.Mq Go.Mq.Tree
set_option maxRecDepth 100000
set_option maxHeartbeats 8000000
theorem infoGlob : (Tryz.prog.info? 70).map (fun i=>(i.zero,i.size,i.bytes))=some (some (.agg #[.string ⟨#[]⟩,.int .i64 0,.int .i64 0,.bool false]),4,40):=by kernel_rfl
theorem vars_any (w:World) (B bp bt z:Nat) (ts:List Tok) (h:Par w B bp bt z ts) :
  Calls Tryz.prog 39 #[ptr bp] w (Ended w B bp bt z (varsL z 11 [] ts) (fun w' l v=>GlobsAt w' (New w w') l v)):=by
 have H:=Lib.hid h
 have hB:=h.laid.le
 have hbp:=h.bp_lt
 have hbt:=h.bt_lt
 clear h
 go_enter Tryz.func39,Tryz.ntmps39
 go_wp2_with fail
 go_loopw [3] (fun l wr=>∃ (f:Nat) (acc:List Glob) (ts':List Tok),varsL z 11 [] ts=varsL z f acc ts'∧f + acc.length=11∧acc.length≤10 ∧
   Par wr B bp bt z ts'∧wr.ownsRow 0 70 4 l acc.length (acc.flatMap Glob.cells)∧From w.heap.size l∧Chg [bp] w wr) (fun l _=>11 - lenOf l)
 case atStart=>exact ⟨11,[],ts,rfl,rfl,Nat.zero_le _,H.out,World.ownsRow_nil _ _ _ _,From.nil _,Chg.refl _ _⟩
 case round=>
  obtain ⟨f,acc,ts',hr,hf,ha,hp,ho,hF,hC⟩:=hrel
  have HR:=Lib.hid hr; have HP:=Lib.hid hp; have HO:=Lib.hid ho; have HF:=Lib.hid hF; have HC:=Lib.hid hC
  obtain ⟨sa,sc,hs⟩:=slice_of_owns ho
  have hsz:=hC.size
  clear hr hp ho hF hC
  subst hs
  obtain ⟨f,rfl⟩ : ∃ f',f=f' + 1:=⟨f - 1,by omega⟩
  have HT:=Lib.hid (take_any [118,97,114] wr B bp bt z ts' HP.out)
  cases hk : see [118,97,114] ts' with
  | false=>
   have HRR:=Lib.hid (show varsL z 11 [] ts = .ok acc ts' by rw [HR.out,varsL,if_neg (by rw [hk]; simp)])
   have HI:=Lib.hid hk
   clear hk
   go_wp2_with fail
   refine HT.out.mono ?_; rintro _ w1 ⟨rfl,_,_,hw⟩
   rw [HI.out]
   have hw':=(hw HI.out).symm; subst hw'; clear hw
   go_wp2_with fail
   go_ret
   rw [HRR.out]
   obtain ⟨a,c,he,hac,hrow⟩:=Row.of_owns HO.out (new_owns HO.out HF.out)
   cases he
   exact ⟨HC.out,_,rfl,⟨_,_,rfl,hac,hrow⟩,HP.out⟩
  | true=>
   obtain ⟨t1,ht1⟩ : ∃ t1,t1=ts'.tail:=⟨_,rfl⟩
   have HI:=Lib.hid hk
   cases he : decide (acc.length=10) with
   | true=>
    have he1 : ((acc.length:Int) == 10)=true:=by have:=of_decide_eq_true he; simp [this]
    have HRR:=Lib.hid (show varsL z 11 [] ts = .bad 4 (hd z t1) by rw [HR.out,varsL,if_pos hk,if_pos (of_decide_eq_true he),ht1])
    clear he hk
    go_wp2_with fail
    refine HT.out.mono ?_; rintro _ w1 ⟨rfl,hp1,hc1,_⟩
    rw [HI.out]
    rw [skip,HI.out,if_pos rfl,← ht1] at hp1
    have HC1:=Lib.hid hc1; have HP1:=Lib.hid hp1
    clear hp1 hc1
    go_wp2_with fail
    refine (fail_any 4 _ B bp bt z t1 HP1.out).mono ?_; intro e w2 he
    have HE:=Lib.hid he
    obtain ⟨b,rfl⟩:=he.thrown
    clear he
    go_wp2_with fail
    refine ⟨rfl,?_⟩
    rw [HRR.out]
    exact HE.out.relay (HC.out.then HC1.out)
   | false=>
    have he1 : ((acc.length:Int) == 10)=false:=by have:=of_decide_eq_false he; simp; omega
    have hne:=of_decide_eq_false he
    have HG:Hid (∀ q,glob z t1=q→varsL z 11 [] ts=match q with | .bad e p=>.bad e p | .ok g r=>varsL z f (acc ++ [g]) r):=Lib.hid (fun q hq=>by rw [HR.out,varsL,if_pos hk,if_neg hne,← ht1,hq]; cases q <;> rfl)
    clear he hk
    go_wp2_with fail
    refine HT.out.mono ?_; rintro _ w1 ⟨rfl,hp1,hc1,_⟩
    rw [HI.out]
    rw [skip,HI.out,if_pos rfl,← ht1] at hp1
    obtain ⟨off,c,nn,c0,c2⟩:=par_at hp1
    have hG : wr.heap.size≤w1.heap.size:=hc1.size
    have hgp : w1.heap.size≠bp:=by omega
    have hgt : w1.heap.size≠bt:=by omega
    obtain ⟨w2,hw2⟩ : ∃ w2,w2=w1.alloc (.cells #[str [],.int .i64 (hd z t1),.int .i64 0,.bool false] 70):=⟨_,rfl⟩
    have HC2:Hid (Chg [bp] wr w2):=Lib.hid (by rw [hw2]; exact hc1.alloc _)
    have HP2:Hid (Par w2 B bp bt z t1):=Lib.hid (by rw [hw2]; exact hp1.kept ((Chg.refl [] w1).alloc _) (by simp) (by simp) (by simp))
    have HB2:Hid (Blk w2 w1.heap.size #[str [],.int .i64 (hd z t1),.int .i64 0,.bool false] 70):=Lib.hid (by rw [hw2]; exact Blk.new _ _ _)
    have HN:=Lib.hid (name_any w2 B bp bt z t1 HP2.out)
    clear hp1 hc1 ht1
    go_wp2_with fail
    try rw [← hw2]
    refine HN.out.mono ?_; intro e w3 he
    rcases he.part with ⟨en,q,b9,rfl,hx,HEE⟩ | ⟨aK,rK,hx,he⟩
    ·go_wp2_with fail; exact ⟨rfl,by rw [show varsL z 11 [] ts = .bad en q by rw [HG.out _ (show glob z t1 = .bad en q by rw [glob]; simp only [hx.out])]]; exact HEE.out.relay (HC.out.then HC2.out)⟩
    obtain ⟨n,rfl⟩ : ∃ n,n=aK:=⟨aK,rfl⟩
    obtain ⟨r1,rfl⟩ : ∃ r1,r1=rK:=⟨rK,rfl⟩
    have HX1:=hx
    obtain ⟨hc3,_,rfl,rfl,hp3⟩:=he
    clear hx
    have hb3:=HB2.out.kept hc3 (by simp; omega)
    have f0:=hb3.frozen 0; have e0:=hb3.cell 0 _ rfl
    obtain ⟨w3b,hw3⟩ : ∃ w3b,w3b=w3.setCell ⟨w1.heap.size,0,none⟩ (str n):=⟨_,rfl⟩
    have HB3:Hid (Blk w3b w1.heap.size #[str n,.int .i64 (hd z t1),.int .i64 0,.bool false] 70):=Lib.hid (by rw [hw3]; simpa using hb3.set 0 (str n))
    have HP3:Hid (Par w3b B bp bt z r1):=Lib.hid (by rw [hw3]; exact hp3.kept (Chg.set1 w3 w1.heap.size 0 (str n)) (fun x hx=>by simp at hx; omega) (by simp; omega) (by simp; omega))
    have HC3:Hid (Chg [bp] wr w3b):=Lib.hid (by rw [hw3]; exact (HC2.out.then hc3).trans (Chg.set1 w3 w1.heap.size 0 (str n)) (fun x hx=>.inr (by simp at hx; omega)))
    have HTS:=Lib.hid (take_any [42] w3b B bp bt z r1 HP3.out)
    clear hb3 hc3 hp3
    go_wp2_with fail
    rw [← hw3]
    clear f0 e0 hw3
    refine HTS.out.mono ?_; rintro _ w4 ⟨rfl,hp4,hc4,_⟩
    have hb4:=HB3.out.kept hc4 (by simp; omega)
    have f3:=hb4.frozen 3; have e3:=hb4.cell 3 _ rfl
    obtain ⟨w4b,hw4⟩ : ∃ w4b,w4b=w4.setCell ⟨w1.heap.size,3,none⟩ (.bool (see [42] r1)):=⟨_,rfl⟩
    have HB4a:Hid (Blk w4b w1.heap.size #[str n,.int .i64 (hd z t1),.int .i64 0,.bool (see [42] r1)] 70):=Lib.hid (by rw [hw4]; simpa using hb4.set 3 (.bool (see [42] r1)))
    have HP4a:Hid (Par w4b B bp bt z (skip [42] r1)):=Lib.hid (by rw [hw4]; exact hp4.kept (Chg.set1 w4 w1.heap.size 3 (.bool (see [42] r1))) (fun x hx=>by simp at hx; omega) (by simp; omega) (by simp; omega))
    have HC4a:Hid (Chg [bp] wr w4b):=Lib.hid (by rw [hw4]; exact (HC3.out.then hc4).trans (Chg.set1 w4 w1.heap.size 3 (.bool (see [42] r1))) (fun x hx=>.inr (by simp at hx; omega)))
    have HMC:=Lib.hid (must_any [58] w4b B bp bt z (skip [42] r1) HP4a.out)
    clear hb4 hc4 hp4
    go_wp2_with fail
    rw [← hw4]
    refine HMC.out.mono ?_; intro e w5 he
    rcases he.part with ⟨en,q,b9,rfl,hx,HEE⟩ | ⟨aK,rK,hx,he⟩
    ·go_wp2_with fail; exact ⟨rfl,by rw [show varsL z 11 [] ts = .bad en q by rw [HG.out _ (show glob z t1 = .bad en q by rw [glob]; simp only [HX1.out,hx.out])]]; exact HEE.out.relay (HC.out.then HC4a.out)⟩
    obtain ⟨r2,rfl⟩ : ∃ r2,r2=rK:=⟨rK,rfl⟩
    have HX2:=hx
    clear f3 e3 hw4
    obtain ⟨hc5,_,rfl,rfl,hp5⟩:=he
    clear hx
    have HB4:=Lib.hid (HB4a.out.kept hc5 (by simp; omega)); have HC4:=Lib.hid (HC4a.out.then hc5); have HP4:=Lib.hid hp5
    clear hc5 hp5
    have HT5:=Lib.hid (take_any [97,114,114,97,121] w5 B bp bt z r2 HP4.out)
    cases hk : see [97,114,114,97,121] r2 with
    | true=>
     have HI5:=Lib.hid hk
     clear hk
     go_wp2_with fail
     refine HT5.out.mono ?_; rintro _ w5 ⟨rfl,hp5,hc5,_⟩
     rw [HI5.out]
     rw [skip,HI5.out,if_pos rfl] at hp5
     have HC5:=Lib.hid (HC4.out.then hc5); have HP5:=Lib.hid hp5; have HB5:=Lib.hid (HB4.out.kept hc5 (by simp; omega))
     clear hp5 hc5
     have HN:=Lib.hid (number_any 30 w5 B bp bt z r2.tail HP5.out)
     cases hx : number z 30 r2.tail with
     | bad en q=>
      have HRR:=Lib.hid (show varsL z 11 [] ts = .bad en q by rw [HG.out _ (show glob z t1 = .bad en q by rw [glob]; simp only [HX1.out,HX2.out,kindOf,HI5.out,if_true,hx])])
      rw [hx] at HN
      clear hx
      go_wp2_with fail
      refine HN.out.mono ?_; intro e w9 he
      have HEE:=Lib.hid he
      obtain ⟨b9,rfl⟩:=he.thrown
      clear he
      go_wp2_with fail
      refine ⟨rfl,?_⟩
      rw [HRR.out]
      exact HEE.out.relay (HC.out.then HC5.out)
     | ok aK rK=>
      obtain ⟨m,rfl⟩ : ∃ m,m=aK:=⟨aK,rfl⟩
      obtain ⟨r3,rfl⟩ : ∃ r3,r3=rK:=⟨rK,rfl⟩
      have HXN:=Lib.hid hx
      rw [hx] at HN
      clear hx
      have hb5:=HB5.out
      cases hz : decide (m=0) with
      | true=>
       have hz1 : (m == 0)=true:=by have:=of_decide_eq_true hz; simp [this]
       have HRR:=Lib.hid (HG.out _ (show glob z t1 = .bad 2 (hd z r3) by rw [glob]; simp only [HX1.out,HX2.out,kindOf,HI5.out,if_true,HXN.out,of_decide_eq_true hz]))
       clear hz
       go_wp2_with fail
       refine HN.out.mono ?_; rintro _ w6 ⟨hc6,_,rfl,rfl,hp6⟩
       have hb6:=hb5.kept hc6 (by simp; omega)
       have f2:=hb6.frozen 2; have e2:=hb6.cell 2 _ rfl
       have HP6:=Lib.hid (hp6.kept (Chg.set1 w6 w1.heap.size 2 (.int .i64 m)) (fun x hx=>by simp at hx; omega) (by simp; omega) (by simp; omega))
       have HC6:=Lib.hid ((HC5.out.then hc6).trans (Chg.set1 w6 w1.heap.size 2 (.int .i64 m)) (fun x hx=>.inr (by simp at hx; omega)))
       clear hb5 hb6 hc6 hp6
       go_wp2_with fail
       refine (fail_any 2 _ B bp bt z r3 HP6.out).mono ?_; intro e w9 he
       have HEE:=Lib.hid he
       obtain ⟨b9,rfl⟩:=he.thrown
       clear he
       go_wp2_with fail
       refine ⟨rfl,?_⟩
       rw [HRR.out]
       exact HEE.out.relay (HC.out.then HC6.out)
      | false=>
       have hz1 : (m == 0)=false:=by have:=of_decide_eq_false hz; simp [this]
       have HK3:=Lib.hid (show kindOf z r2 = .ok m r3 by simp only [kindOf,HI5.out,if_true,HXN.out,if_neg (of_decide_eq_false hz)])
       clear hz
       go_wp2_with fail
       refine HN.out.mono ?_; rintro _ w6 ⟨hc6,_,rfl,rfl,hp6⟩
       have hb6:=hb5.kept hc6 (by simp; omega)
       have f2:=hb6.frozen 2; have e2:=hb6.cell 2 _ rfl
       have HB6:Hid (Blk (w6.setCell ⟨w1.heap.size,2,none⟩ (.int .i64 m)) w1.heap.size #[str n,.int .i64 (hd z t1),.int .i64 m,.bool (see [42] r1)] 70):=Lib.hid (by simpa using hb6.set 2 (.int .i64 m))
       have HP6:=Lib.hid (hp6.kept (Chg.set1 w6 w1.heap.size 2 (.int .i64 m)) (fun x hx=>by simp at hx; omega) (by simp; omega) (by simp; omega))
       have HC6:=Lib.hid ((HC5.out.then hc6).trans (Chg.set1 w6 w1.heap.size 2 (.int .i64 m)) (fun x hx=>.inr (by simp at hx; omega)))
       clear hb5 hb6 hc6 hp6
       go_wp2_with fail
       have HMU4:=Lib.hid (must_any [59] _ B bp bt z r3 HP6.out)
       go_wp2_with fail
       refine HMU4.out.mono ?_; intro e w7 he
       rcases he.part with ⟨en,q,b9,rfl,hx,HEE⟩ | ⟨aK,rK,hx,he⟩
       ·go_wp2_with fail; exact ⟨rfl,by rw [show varsL z 11 [] ts = .bad en q by rw [HG.out _ (show glob z t1 = .bad en q by rw [glob]; simp only [HX1.out,HX2.out,HK3.out,hx.out])]]; exact HEE.out.relay (HC.out.then HC6.out)⟩
       have HRR:=Lib.hid (HG.out _ (show glob z t1 = .ok ⟨n,hd z t1,m,see [42] r1⟩ rK by rw [glob]; simp only [HX1.out,HX2.out,HK3.out,hx.out]))
       obtain ⟨hc7,_,rfl,rfl,hp7⟩:=he
       clear hx
       have hb7:=HB6.out.kept hc7 (by simp; omega)
       have d0:=hb7.cell 0 _ rfl; have d1:=hb7.cell 1 _ rfl; have d2:=hb7.cell 2 _ rfl; have d3:=hb7.cell 3 _ rfl
       have HC7:=Lib.hid (HC6.out.then hc7); have HP7:=Lib.hid hp7
       have ho7:=owns_kept HO.out HC7.out (fun g hg hm=>by have:=HF.out g hg; simp at hm; omega)
       have HO7:=Lib.hid (owns_kept ho7 ((Chg.refl [] w7).alloc (.cells #[str n,.int .i64 (hd z t1),.int .i64 m,.bool (see [42] r1)] 70)) (by simp))
       clear hc7 hp7 ho7 hb7
       go_wp2_with (at_builtin; go_must (refine wpL_append rfl _ _ 25 rfl 70 _ 4 40 infoGlob Tryz.underlying25 rfl (by decide) _ _ _ rfl HO7.out ⟨w7.heap.size,0,none⟩ 1 1 [str n,.int .i64 (hd z t1),.int .i64 m,.bool (see [42] r1)] rfl rfl (cells_new _ _ _) (by simp [Value.oneCell']) ?_ ?_ ?_))
       ·omega
       ·unfold maxLen; omega
       ·intro v' w' hown' hch' hmv'
        have HO':=Lib.hid hown'; clear hown'
        obtain ⟨hp8,hc8,hf8⟩:=grow_step hB hbp hbt HC.out HC7.out HP7.out HF.out hch' hmv'
        have HP8:=Lib.hid hp8; have HC8:=Lib.hid hc8; have HF8:=Lib.hid hf8
        clear hch' hmv' hp8 hc8 hf8
        go_wp2_with fail
        have hl8 : lenOf v'=acc.length + 1:=lenOf_owns HO'.out
        refine ⟨⟨f,acc ++ [⟨n,hd z t1,m,see [42] r1⟩],rK,HRR.out,by simp; omega,by simp; omega,HP8.out,by simpa [Glob.cells] using HO'.out,HF8.out,HC8.out⟩,?_⟩
        rw [hl8]; simp only [lenOf]; omega
    | false=>
     have HI5:=Lib.hid hk
     clear hk
     go_wp2_with fail
     refine HT5.out.mono ?_; rintro _ w5 ⟨rfl,_,_,hw⟩
     rw [HI5.out]
     have hw':=(hw HI5.out).symm; subst hw'; clear hw
     have HMI:=Lib.hid (must_any [105,110,116] _ B bp bt z r2 HP4.out)
     go_wp2_with fail
     refine HMI.out.mono ?_; intro e w6 he
     rcases he.part with ⟨en,q,b9,rfl,hx,HEE⟩ | ⟨aK,rK,hx,he⟩
     ·go_wp2_with fail; exact ⟨rfl,by rw [show varsL z 11 [] ts = .bad en q by rw [HG.out _ (show glob z t1 = .bad en q by rw [glob]; simp only [HX1.out,HX2.out,kindOf,HI5.out,Bool.false_eq_true,if_false,hx.out])]]; exact HEE.out.relay (HC.out.then HC4.out)⟩
     obtain ⟨r3,rfl⟩ : ∃ r3,r3=rK:=⟨rK,rfl⟩
     have HK3:=Lib.hid (show kindOf z r2 = .ok 0 r3 by simp only [kindOf,HI5.out,Bool.false_eq_true,if_false,hx.out])
     obtain ⟨hc6,_,rfl,rfl,hp6⟩:=he
     clear hx
     have HB6:=Lib.hid (HB4.out.kept hc6 (by simp; omega)); have HC6:=Lib.hid (HC4.out.then hc6); have HP6:=Lib.hid hp6
     clear hc6 hp6
     have HMU4:=Lib.hid (must_any [59] w6 B bp bt z r3 HP6.out)
     go_wp2_with fail
     refine HMU4.out.mono ?_; intro e w7 he
     rcases he.part with ⟨en,q,b9,rfl,hx,HEE⟩ | ⟨aK,rK,hx,he⟩
     ·go_wp2_with fail; exact ⟨rfl,by rw [show varsL z 11 [] ts = .bad en q by rw [HG.out _ (show glob z t1 = .bad en q by rw [glob]; simp only [HX1.out,HX2.out,HK3.out,hx.out])]]; exact HEE.out.relay (HC.out.then HC6.out)⟩
     have HRR:=Lib.hid (HG.out _ (show glob z t1 = .ok ⟨n,hd z t1,0,see [42] r1⟩ rK by rw [glob]; simp only [HX1.out,HX2.out,HK3.out,hx.out]))
     obtain ⟨hc7,_,rfl,rfl,hp7⟩:=he
     clear hx
     have hb7:=HB6.out.kept hc7 (by simp; omega)
     have d0:=hb7.cell 0 _ rfl; have d1:=hb7.cell 1 _ rfl; have d2:=hb7.cell 2 _ rfl; have d3:=hb7.cell 3 _ rfl
     have HC7:=Lib.hid (HC6.out.then hc7); have HP7:=Lib.hid hp7
     have ho7:=owns_kept HO.out HC7.out (fun g hg hm=>by have:=HF.out g hg; simp at hm; omega)
     have HO7:=Lib.hid (owns_kept ho7 ((Chg.refl [] w7).alloc (.cells #[str n,.int .i64 (hd z t1),.int .i64 0,.bool (see [42] r1)] 70)) (by simp))
     clear hc7 hp7 ho7 hb7
     go_wp2_with (at_builtin; go_must (refine wpL_append rfl _ _ 25 rfl 70 _ 4 40 infoGlob Tryz.underlying25 rfl (by decide) _ _ _ rfl HO7.out ⟨w7.heap.size,0,none⟩ 1 1 [str n,.int .i64 (hd z t1),.int .i64 0,.bool (see [42] r1)] rfl rfl (cells_new _ _ _) (by simp [Value.oneCell']) ?_ ?_ ?_))
     ·omega
     ·unfold maxLen; omega
     ·intro v' w' hown' hch' hmv'
      have HO':=Lib.hid hown'; clear hown'
      obtain ⟨hp8,hc8,hf8⟩:=grow_step hB hbp hbt HC.out HC7.out HP7.out HF.out hch' hmv'
      have HP8:=Lib.hid hp8; have HC8:=Lib.hid hc8; have HF8:=Lib.hid hf8
      clear hch' hmv' hp8 hc8 hf8
      go_wp2_with fail
      have hl8 : lenOf v'=acc.length + 1:=lenOf_owns HO'.out
      refine ⟨⟨f,acc ++ [⟨n,hd z t1,0,see [42] r1⟩],rK,HRR.out,by simp; omega,by simp; omega,HP8.out,by simpa [Glob.cells] using HO'.out,HF8.out,HC8.out⟩,?_⟩
      rw [hl8]; simp only [lenOf]; omega
end Go.Proofs.YtilhhkokdfajiaaGreatDoor
namespace Go.Mq.Tree
open Go Go.RowKit Go.Mq
theorem namesL_most {z most:Nat} : ∀ f l (ts:List Tok) a r,l.length≤most→namesL z most f l ts = .ok a r→a.length≤most:=by
 intro f
 induction f with
 | zero=>intro l ts a r _ h; cases h
 | succ f ih=>
  intro l ts a r hl h
  rw [namesL] at h
  split at h
  ·cases h
  ·rename_i hne
   cases hn : name z ts with
   | bad e q=>simp only [hn] at h; cases h
   | ok n r1=>
    simp only [hn] at h
    split at h
    ·exact ih _ _ _ _ (by simp; omega) h
    ·cases h; simp; omega
theorem names_most {z most:Nat} {ts r:List Tok} {l:List (List UInt8)} (h : names z most ts = .ok l r) : l.length≤most:=namesL_most _ _ _ _ _ (Nat.zero_le _) h
theorem sub_wrap {k:Nat} (h : k≤10):IntKind.i64.wrap (10 - (k:Int))=((10 - k:Nat):Int):=by
 simp only [IntKind.wrap,IntKind.bits,IntKind.signed]; simp; omega
theorem set6 {w:World} {b:Nat} (v0 v1 v2 v3 v4 v5:Value) {u0 u1 u2 u3 u4 u5:Value} {t:TypeId} (h:Blk w b #[u0,u1,u2,u3,u4,u5] t) : ∃ wF,((((((w.setCell ⟨b,0,none⟩ v0).setCell ⟨b,1,none⟩ v1).setCell ⟨b,2,none⟩ v2).setCell ⟨b,3,none⟩ v3).setCell ⟨b,4,none⟩ v4).setCell ⟨b,5,none⟩ v5)=wF∧Chg [b] w wF∧Blk wF b #[v0,v1,v2,v3,v4,v5] t:=
 ⟨_,rfl,(((((Chg.set1 _ _ _ _).then (Chg.set1 _ _ _ _)).then (Chg.set1 _ _ _ _)).then (Chg.set1 _ _ _ _)).then (Chg.set1 _ _ _ _)).then (Chg.set1 _ _ _ _),by
  have:=(((((h.set 0 v0).set 1 v1).set 2 v2).set 3 v3).set 4 v4).set 5 v5
  simpa using this⟩
end Go.Mq.Tree
namespace Go.Proofs.YtilhhkokdfajiaaGreatDoor
open Go Go.RowKit Go.Mq Go.Mq.Tree
set_option maxRecDepth 100000
set_option maxHeartbeats 16000000
abbrev PV (w:World):World→Proc→Value→Prop:=fun w' x v=>∃ cs,v = .agg cs.toArray∧PrAt w' (New w w') x cs
theorem proc_any (w:World) (B bp bt z:Nat) (ts:List Tok) (h:Par w B bp bt z ts):Calls Tryz.prog 41 #[ptr bp] w (Ended w B bp bt z (proc z ts) (PV w)):=by
 have hbp:=h.bp_lt
 have hbt:=h.bt_lt
 have hB0:=h.laid.le
 have hBp:=h.bpB
 obtain ⟨off,c,nn,c0,c2⟩:=par_at h
 have hw1 : (w.alloc (.cells #[str [],.int .i64 0,.bool false,nils,nils,nils] 73)).heap.size=w.heap.size + 1:=by simp
 obtain ⟨w0,hw0⟩ : ∃ w0,w0=(w.alloc (.cells #[str [],.int .i64 0,.bool false,nils,nils,nils] 73)).alloc (.cells #[str [],.int .i64 (hd z ts),.bool false,nils,nils,nils] 73):=⟨_,rfl⟩
 have hb0:=Blk.new (w.alloc (.cells #[str [],.int .i64 0,.bool false,nils,nils,nils] 73)) #[str [],.int .i64 (hd z ts),.bool false,nils,nils,nils] 73
 rw [hw1,← hw0] at hb0
 have H0:Hid (Mk 73 w w0 B bp bt z ts #[str [],.int .i64 0,.bool false,nils,nils,nils] #[str [],.int .i64 (hd z ts),.bool false,nils,nils,nils] (fun _ _=>True)):=Lib.hid (by
  refine ⟨framed_true,hbp,hbt,?_,?_,hb0,?_,?_,trivial⟩
  ·rw [hw0]; exact ((Chg.refl _ _).alloc _).alloc _
  ·rw [hw0]; exact h.kept (((Chg.refl [] w).alloc _).alloc _) (by simp) (by simp) (by simp)
  ·rw [hw0]; exact (Blk.new w _ 73).kept ((Chg.refl [] _).alloc _) (by simp)
  ·rw [hw0]; simp)
 clear h hb0 hw1
 go_enter Tryz.func41,Tryz.ntmps41
 go_wp2_with fail
 clear c0 c2
 change Calls _ _ _ ((w.alloc (.cells #[str [],.int .i64 0,.bool false,nils,nils,nils] 73)).alloc (.cells #[str [],.int .i64 (hd z ts),.bool false,nils,nils,nils] 73)) _
 rw [← hw0]
 clear hw0
 have K:=Lib.hid (must_any [112,114,111,99] _ _ _ _ _ ts H0.out.par)
 go_wp2_with fail
 refine K.out.mono ?_; intro e w1 he
 rcases he.cut with ⟨en,q,b9,rfl,hx,HE⟩ | ⟨_,r1,_,rfl,X1,rfl,hc,hp⟩
 ·go_wp2_with fail; exact ⟨rfl,HE.out _ _ _ H0.out.chg (by simp only [proc,hx.out])⟩
 have H1:=Lib.hid (H0.out.step hc hp); clear hc hp K he
 have K:=Lib.hid (name_any _ _ _ _ _ _ H1.out.par)
 go_wp2_with fail
 refine K.out.mono ?_; intro e w2 he
 rcases he.cut with ⟨en,q,b9,rfl,hx,HE⟩ | ⟨n,r2,_,rfl,X2,rfl,hc,hp⟩
 ·go_wp2_with fail; exact ⟨rfl,HE.out _ _ _ H1.out.chg (by simp only [proc,X1.out,hx.out])⟩
 have H2:=Lib.hid (H1.out.step hc hp); clear hc hp K he
 have K:=Lib.hid (take_any [42] _ _ _ _ _ _ H2.out.par)
 go_wp2_with fail
 refine K.out.mono ?_; rintro _ w3 ⟨rfl,hp,hc,_⟩
 have H3a:=Lib.hid (H2.out.step hc hp); clear hc hp K
 obtain ⟨e0,_,e2,_⟩:=H3a.out.blk.six; obtain ⟨f0,_,f2,_⟩:=H3a.out.blk.free6
 obtain ⟨w3b,hw⟩ : ∃ w3b,w3b=(w3.setCell ⟨w.heap.size + 1,0,none⟩ (str n)).setCell ⟨w.heap.size + 1,2,none⟩ (.bool (see [42] r2)):=⟨_,rfl⟩
 have H3:=Lib.hid ((H3a.out.store 0 (str n)).store 2 (.bool (see [42] r2)))
 simp only [Array.setIfInBounds] at H3
 rw [← hw] at H3
 have K:=Lib.hid (must_any [40] _ _ _ _ _ _ H3.out.par)
 go_wp2_with fail
 rw [← hw]
 refine K.out.mono ?_; intro e w4 he
 rcases he.cut with ⟨en,q,b9,rfl,hx,HE⟩ | ⟨_,r4,_,rfl,X4,rfl,hc,hp⟩
 ·go_wp2_with fail; exact ⟨rfl,HE.out _ _ _ H3.out.chg (by simp only [proc,X1.out,X2.out,hx.out])⟩
 have H4:=Lib.hid (H3.out.step hc hp); clear hc hp K he
 clear e0 e2 f0 f2 hw
 have KT:=Lib.hid (take_any [41] _ _ _ _ _ _ H4.out.par)
 cases hk : see [41] r4
 case' true=>
  have HI:=Lib.hid hk
  clear hk
  go_wp2_with fail
  refine KT.out.mono ?_; rintro _ wP ⟨rfl,hp,hc,_⟩
  rw [HI.out]
  rw [skip,HI.out,if_pos rfl] at hp
  obtain ⟨rP,ps,a3,c3,hps,HP,HS⟩ : ∃ rP ps a3 c3,ps.length≤10∧Hid (params z r4 = .ok ps rP)∧Hid (Mk 73 w wP B bp bt z rP #[str [],.int .i64 0,.bool false,nils,nils,nils] #[str n,.int .i64 (hd z ts),.bool (see [42] r2),.slice a3 ps.length c3,nils,nils] (fun w F=>True∧NamesAt w F ps (.slice a3 ps.length c3))):=
   ⟨_,[],none,0,by simp,Lib.hid (by rw [params,if_pos HI.out]),Lib.hid ((H4.out.step hc hp).add (framed_Names [] nils) NamesAt.nil)⟩
  clear hc hp HI
 case' false=>
  have HI:=Lib.hid hk
  clear hk
  go_wp2_with fail
  refine KT.out.mono ?_; rintro _ w5 ⟨rfl,_,_,hw⟩
  rw [HI.out]
  have hw':=(hw HI.out).symm; subst hw'; clear hw
  have K:=Lib.hid (names_any 10 (by omega) _ _ _ _ _ _ H4.out.par)
  go_wp2_with fail
  refine K.out.mono ?_; intro e w5 he
  rcases he.cut with ⟨en,q,b9,rfl,hx,HE⟩ | ⟨ps,r5,_,rfl,X5,⟨a3,c3,rfl,hac,hv⟩,hc,hp⟩
  ·go_wp2_with fail; exact ⟨rfl,HE.out _ _ _ H4.out.chg (by simp only [proc,X1.out,X2.out,X4.out,params,HI.out,Bool.false_eq_true,if_false,hx.out])⟩
  have H5:=Lib.hid (H4.out.call hc hp (framed_Names ps (.slice a3 ps.length c3)) ⟨_,_,rfl,hac,hv⟩); clear hc hp K he
  have hps : ps.length≤10:=names_most X5.out
  clear hac hv
  obtain ⟨_,_,_,e3,_⟩:=H5.out.blk.six; obtain ⟨_,_,_,f3,_⟩:=H5.out.blk.free6
  obtain ⟨w6,hw⟩ : ∃ x,x=w5.setCell ⟨w.heap.size + 1,3,none⟩ (.slice a3 ps.length c3):=⟨_,rfl⟩
  have H6:=Lib.hid (H5.out.store 3 (.slice a3 ps.length c3))
  simp only [Array.setIfInBounds] at H6
  rw [← hw] at H6
  have K:=Lib.hid (must_any [41] _ _ _ _ _ _ H6.out.par)
  go_wp2_with fail
  rw [← hw]
  refine K.out.mono ?_; intro e w7 he
  rcases he.cut with ⟨en,q,b9,rfl,hx,HE⟩ | ⟨_,r7,_,rfl,X7,rfl,hc,hp⟩
  ·go_wp2_with fail; exact ⟨rfl,HE.out _ _ _ H6.out.chg (by simp only [proc,X1.out,X2.out,X4.out,params,HI.out,Bool.false_eq_true,if_false,X5.out,hx.out])⟩
  have HS:=Lib.hid (H6.out.step hc hp); clear hc hp K he
  have HP:=Lib.hid (show params z r4 = .ok ps r7 by simp only [params,HI.out,Bool.false_eq_true,if_false,X5.out,X7.out])
  obtain ⟨rP,rfl⟩ : ∃ x,x=r7:=⟨_,rfl⟩
  obtain ⟨wP,rfl⟩ : ∃ x,x=w7:=⟨_,rfl⟩
  clear e3 f3 hw HI
 all_goals
  clear KT
  have K:=Lib.hid (must_any [59] _ _ _ _ _ _ HS.out.par)
  go_wp2_with fail
  refine K.out.mono ?_; intro e w8 he
  rcases he.cut with ⟨en,q,b9,rfl,hx,HE⟩ | ⟨_,r8,_,rfl,X8,rfl,hc,hp⟩
  ·go_wp2_with fail; exact ⟨rfl,HE.out _ _ _ HS.out.chg (by simp only [proc,X1.out,X2.out,X4.out,HP.out,hx.out])⟩
  have H8:=Lib.hid (HS.out.step hc hp); clear hc hp K he
  have KT:=Lib.hid (take_any [118,97,114] _ _ _ _ _ _ H8.out.par)
  obtain ⟨_,_,_,e3,_⟩:=H8.out.blk.six
  cases hk : see [118,97,114] r8
  case' true=>
   have HI:=Lib.hid hk
   clear hk
   go_wp2_with fail
   refine KT.out.mono ?_; rintro _ w9 ⟨rfl,hp,hc,_⟩
   rw [HI.out]
   rw [skip,HI.out,if_pos rfl] at hp
   have H9:=Lib.hid (H8.out.step hc hp)
   clear hc hp e3
   obtain ⟨_,_,_,e3,_⟩:=H9.out.blk.six
   have hsub:=sub_wrap hps
   have K:=Lib.hid (names_any (10 - ps.length) (by omega) _ _ _ _ _ _ H9.out.par)
   go_wp2_with fail
   refine K.out.mono ?_; intro e w10 he
   rcases he.cut with ⟨en,q,b9,rfl,hx,HE⟩ | ⟨vs,r10,_,rfl,X10,⟨a4,c4,rfl,hac,hv⟩,hc,hp⟩
   ·go_wp2_with fail; exact ⟨rfl,HE.out _ _ _ H9.out.chg (by simp only [proc,X1.out,X2.out,X4.out,HP.out,X8.out,locals,HI.out,if_true,hx.out])⟩
   have H10:=Lib.hid (H9.out.call hc hp (framed_Names vs (.slice a4 vs.length c4)) ⟨_,_,rfl,hac,hv⟩); clear hc hp K he
   clear hac hv e3 hsub
   obtain ⟨_,_,_,_,e4,_⟩:=H10.out.blk.six; obtain ⟨_,_,_,_,f4,_⟩:=H10.out.blk.free6
   obtain ⟨w11,hw⟩ : ∃ x,x=w10.setCell ⟨w.heap.size + 1,4,none⟩ (.slice a4 vs.length c4):=⟨_,rfl⟩
   have H11:=Lib.hid (H10.out.store 4 (.slice a4 vs.length c4))
   simp only [Array.setIfInBounds] at H11
   rw [← hw] at H11
   have K:=Lib.hid (must_any [59] _ _ _ _ _ _ H11.out.par)
   go_wp2_with fail
   rw [← hw]
   refine K.out.mono ?_; intro e w12 he
   rcases he.cut with ⟨en,q,b9,rfl,hx,HE⟩ | ⟨_,r12,_,rfl,X12,rfl,hc,hp⟩
   ·go_wp2_with fail; exact ⟨rfl,HE.out _ _ _ H11.out.chg (by simp only [proc,X1.out,X2.out,X4.out,HP.out,X8.out,locals,HI.out,if_true,X10.out,hx.out])⟩
   have HT:=Lib.hid (H11.out.step hc hp); clear hc hp K he
   have HL:=Lib.hid (show locals z (10 - ps.length) r8 = .ok vs r12 by simp only [locals,HI.out,if_true,X10.out,X12.out])
   obtain ⟨rL,rfl⟩ : ∃ x,x=r12:=⟨_,rfl⟩
   obtain ⟨wL,rfl⟩ : ∃ x,x=w12:=⟨_,rfl⟩
   clear e4 f4 hw HI
  case' false=>
   have HI:=Lib.hid hk
   clear hk
   go_wp2_with fail
   refine KT.out.mono ?_; rintro _ w9 ⟨rfl,_,_,hw⟩
   rw [HI.out]
   have hw':=(hw HI.out).symm; subst hw'; clear hw e3
   obtain ⟨rL,vs,a4,c4,HL,HT⟩ : ∃ rL vs a4 c4,Hid (locals z (10 - ps.length) r8 = .ok vs rL)∧Hid (Mk 73 w w8 B bp bt z rL #[str [],.int .i64 0,.bool false,nils,nils,nils] #[str n,.int .i64 (hd z ts),.bool (see [42] r2),.slice a3 ps.length c3,.slice a4 vs.length c4,nils] (fun w F=>(True∧NamesAt w F ps (.slice a3 ps.length c3))∧NamesAt w F vs (.slice a4 vs.length c4))):=
    ⟨_,[],none,0,Lib.hid (by simp only [locals,HI.out,Bool.false_eq_true,if_false]),Lib.hid (H8.out.add (framed_Names [] nils) NamesAt.nil)⟩
   obtain ⟨wL,rfl⟩ : ∃ x,x=w8:=⟨_,rfl⟩
   clear HI
  all_goals
   clear KT
   have K:=Lib.hid (must_any [98,101,103,105,110] _ _ _ _ _ _ HT.out.par)
   go_wp2_with fail
   refine K.out.mono ?_; intro e w13 he
   rcases he.cut with ⟨en,q,b9,rfl,hx,HE⟩ | ⟨_,r13,_,rfl,X13,rfl,hc,hp⟩
   ·go_wp2_with fail; exact ⟨rfl,HE.out _ _ _ HT.out.chg (by simp only [proc,X1.out,X2.out,X4.out,HP.out,X8.out,HL.out,block,hx.out])⟩
   have H13:=Lib.hid (HT.out.step hc hp); clear hc hp K he
   have K:=Lib.hid (body0_any _ _ _ _ _ _ H13.out.par)
   go_wp2_with fail
   refine K.out.mono ?_; intro e w14 he
   rcases he.cut with ⟨en,q,b9,rfl,hx,HE⟩ | ⟨b,r14,_,rfl,X14,⟨a5,c5,cs5,rfl,hv⟩,hc,hp⟩
   ·go_wp2_with fail; exact ⟨rfl,HE.out _ _ _ H13.out.chg (by simp only [proc,X1.out,X2.out,X4.out,HP.out,X8.out,HL.out,block,X13.out,hx.out])⟩
   have H14:=Lib.hid (H13.out.call hc hp (framed_Sl b (.slice a5 b.len c5)) ⟨_,_,_,rfl,hv⟩); clear hc hp K he
   clear hv
   obtain ⟨_,_,_,_,_,e5⟩:=H14.out.blk.six; obtain ⟨_,_,_,_,_,f5⟩:=H14.out.blk.free6
   obtain ⟨w15,hw⟩ : ∃ x,x=w14.setCell ⟨w.heap.size + 1,5,none⟩ (.slice a5 b.len c5):=⟨_,rfl⟩
   have H15:=Lib.hid (H14.out.store 5 (.slice a5 b.len c5))
   simp only [Array.setIfInBounds] at H15
   rw [← hw] at H15
   have K:=Lib.hid (must_any [101,110,100] _ _ _ _ _ _ H15.out.par)
   go_wp2_with fail
   rw [← hw]
   refine K.out.mono ?_; intro e w16 he
   rcases he.cut with ⟨en,q,b9,rfl,hx,HE⟩ | ⟨_,r16,_,rfl,X16,rfl,hc,hp⟩
   ·go_wp2_with fail; exact ⟨rfl,HE.out _ _ _ H15.out.chg (by simp only [proc,X1.out,X2.out,X4.out,HP.out,X8.out,HL.out,block,X13.out,X14.out,hx.out])⟩
   have H16:=Lib.hid (H15.out.step hc hp); clear hc hp K he
   clear e5 f5 hw
   have K:=Lib.hid (must_any [59] _ _ _ _ _ _ H16.out.par)
   go_wp2_with fail
   refine K.out.mono ?_; intro e w17 he
   rcases he.cut with ⟨en,q,b9,rfl,hx,HE⟩ | ⟨_,r17,_,rfl,X17,rfl,hc,hp⟩
   ·go_wp2_with fail; exact ⟨rfl,HE.out _ _ _ H16.out.chg (by simp only [proc,X1.out,X2.out,X4.out,HP.out,X8.out,HL.out,block,X13.out,X14.out,X16.out,hx.out])⟩
   have H17:=Lib.hid (H16.out.step hc hp); clear hc hp K he
   have HRR:=Lib.hid (show proc z ts = .ok ⟨n,hd z ts,see [42] r2,ps,vs,b⟩ r17 by simp only [proc,X1.out,X2.out,X4.out,HP.out,X8.out,HL.out,block,X13.out,X14.out,X16.out,X17.out])
   obtain ⟨d0,d1,d2,d3,d4,d5⟩:=H17.out.blk.six; obtain ⟨e0,e1,e2,e3,e4,e5⟩:=H17.out.res.six; obtain ⟨f0,f1,f2,f3,f4,f5⟩:=H17.out.res.free6
   go_wp2_with fail
   obtain ⟨wF,hwF,hcF,hbF⟩:=set6 (str n) (.int .i64 (hd z ts)) (.bool (see [42] r2)) (.slice a3 ps.length c3) (.slice a4 vs.length c4) (.slice a5 b.len c5) H17.out.res
   rw [hwF]
   clear hwF
   obtain ⟨g0,g1,g2,g3,g4,g5⟩:=hbF.six
   refine bodyPost_ret (v:=.agg #[str n,.int .i64 (hd z ts),.bool (see [42] r2),.slice a3 ps.length c3,.slice a4 vs.length c4,.slice a5 b.len c5]) (by simp [results,Tryz.results41,go_sem,g0,g1,g2,g3,g4,g5]) rfl ?_
   rw [HRR.out]
   have hq:=H17.out.fin hcF
   exact ⟨H17.out.chg.trans hcF (fun x hx=>.inr (by simp at hx; omega)),_,rfl,⟨_,rfl,_,_,_,rfl,hq.1.1.2,hq.1.2,hq.2⟩,H17.out.par.kept hcF (fun x hx=>by simp at hx; omega) (by simp; omega) (by simp; omega)⟩
end Go.Proofs.YtilhhkokdfajiaaGreatDoor
