/- Some texts in one. -/
import Derived.Shelf.Strings.Prefix
import Derived.Defers
import Derived.Recover
import Derived.Test.YtilhhkokdfajiaaGreatDoorI1
import Derived.Test.YtilhhkokdfajiaaGreatDoorI5
import Derived.Test.YtilhhkokdfajiaaGreatDoorI8
import Derived.Test.YtilhhkokdfajiaaGreatDoorI9
namespace Go.Mq.Tree
open Go Go.RowKit Go.Mq
theorem framed_Globs (l:List Glob) (v:Value):Framed (fun w F=>GlobsAt w F l v):=⟨fun hF h=>h.mono hF,fun hc hS h=>h.kept hc hS⟩
theorem framed_Procs (l:List Proc) (v:Value):Framed (fun w F=>ProcsAt w F l v):=⟨fun hF h=>h.mono hF,fun hc hS h=>h.kept hc hS⟩
theorem framed_Pr (x:Proc) (cs:List Value):Framed (fun w F=>PrAt w F x cs):=⟨fun hF h=>h.mono hF,fun hc hS h=>h.kept hc hS⟩
theorem set5 {w:World} {b:Nat} (v0 v1 v2 v3 v4:Value) {u0 u1 u2 u3 u4:Value} {t:TypeId} (h:Blk w b #[u0,u1,u2,u3,u4] t) : ∃ wF,(((((w.setCell ⟨b,0,none⟩ v0).setCell ⟨b,1,none⟩ v1).setCell ⟨b,2,none⟩ v2).setCell ⟨b,3,none⟩ v3).setCell ⟨b,4,none⟩ v4)=wF∧Chg [b] w wF∧Blk wF b #[v0,v1,v2,v3,v4] t:=
 ⟨_,rfl,((((Chg.set1 _ _ _ _).then (Chg.set1 _ _ _ _)).then (Chg.set1 _ _ _ _)).then (Chg.set1 _ _ _ _)).then (Chg.set1 _ _ _ _),by
  have:=((((h.set 0 v0).set 1 v1).set 2 v2).set 3 v3).set 4 v4
  simpa using this⟩
end Go.Mq.Tree
namespace Go.Proofs.YtilhhkokdfajiaaGreatDoor
open Go Go.RowKit Go.Mq Go.Mq.Tree
set_option maxRecDepth 100000
set_option maxHeartbeats 16000000
theorem infoProc : (Tryz.prog.info? 73).map (fun i=>(i.zero,i.size,i.bytes))=some (some (.agg #[.string ⟨#[]⟩,.int .i64 0,.bool false,.slice none 0 0,.slice none 0 0,.slice none 0 0]),6,104):=by kernel_rfl
theorem module_any (w:World) (B bp bt z:Nat) (ts:List Tok) (h:Par w B bp bt z ts):Calls Tryz.prog 20 #[ptr bp] w (Ended w B bp bt z (module_ z ts) (fun w' m v=>ModAt w' (New w w') m v)):=by
 have hbp:=h.bp_lt
 have hbt:=h.bt_lt
 have hB0:=h.laid.le
 have hBp:=h.bpB
 have hw1 : (w.alloc (.cells #[str [],nils,nils,nils,nils] 29)).heap.size=w.heap.size + 1:=by simp
 obtain ⟨w0,hw0⟩ : ∃ w0,w0=(w.alloc (.cells #[str [],nils,nils,nils,nils] 29)).alloc (.cells #[str [],nils,nils,nils,nils] 29):=⟨_,rfl⟩
 have hb0:=Blk.new (w.alloc (.cells #[str [],nils,nils,nils,nils] 29)) #[str [],nils,nils,nils,nils] 29
 rw [hw1,← hw0] at hb0
 have H0:Hid (Mk 29 w w0 B bp bt z ts #[str [],nils,nils,nils,nils] #[str [],nils,nils,nils,nils] (fun _ _=>True)):=Lib.hid (by
  refine ⟨framed_true,hbp,hbt,?_,?_,hb0,?_,?_,trivial⟩
  ·rw [hw0]; exact ((Chg.refl _ _).alloc _).alloc _
  ·rw [hw0]; exact h.kept (((Chg.refl [] w).alloc _).alloc _) (by simp) (by simp) (by simp)
  ·rw [hw0]; exact (Blk.new w _ 29).kept ((Chg.refl [] _).alloc _) (by simp)
  ·rw [hw0]; simp)
 clear h hb0 hw1
 go_enter Tryz.func20,Tryz.ntmps20
 go_wp2_with fail
 change Calls _ _ _ ((w.alloc (.cells #[str [],nils,nils,nils,nils] 29)).alloc (.cells #[str [],nils,nils,nils,nils] 29)) _
 rw [← hw0]
 clear hw0
 have K:=Lib.hid (must_any [109,111,100,117,108,101] _ _ _ _ _ ts H0.out.par)
 go_wp2_with fail
 refine K.out.mono ?_; intro e w1 he
 rcases he.cut with ⟨en,q,b9,rfl,hx,HE⟩ | ⟨_,r1,_,rfl,X1,rfl,hc,hp⟩
 ·go_wp2_with fail; exact ⟨rfl,HE.out _ _ _ H0.out.chg (by simp only [module_,hx.out])⟩
 have H1:=Lib.hid (H0.out.step hc hp); clear hc hp K he
 have K:=Lib.hid (name_any _ _ _ _ _ _ H1.out.par)
 go_wp2_with fail
 refine K.out.mono ?_; intro e w2 he
 rcases he.cut with ⟨en,q,b9,rfl,hx,HE⟩ | ⟨n,r2,_,rfl,X2,rfl,hc,hp⟩
 ·go_wp2_with fail; exact ⟨rfl,HE.out _ _ _ H1.out.chg (by simp only [module_,X1.out,hx.out])⟩
 have H2:=Lib.hid (H1.out.step hc hp); clear hc hp K he
 obtain ⟨e0,_⟩:=H2.out.blk.five; obtain ⟨f0,_⟩:=H2.out.blk.free6
 obtain ⟨w2b,hw⟩ : ∃ x,x=w2.setCell ⟨w.heap.size + 1,0,none⟩ (str n):=⟨_,rfl⟩
 have H2b:=Lib.hid (H2.out.store 0 (str n))
 simp only [Array.setIfInBounds] at H2b
 rw [← hw] at H2b
 have K:=Lib.hid (must_any [59] _ _ _ _ _ _ H2b.out.par)
 go_wp2_with fail
 rw [← hw]
 refine K.out.mono ?_; intro e w3 he
 rcases he.cut with ⟨en,q,b9,rfl,hx,HE⟩ | ⟨_,r3,_,rfl,X3,rfl,hc,hp⟩
 ·go_wp2_with fail; exact ⟨rfl,HE.out _ _ _ H2b.out.chg (by simp only [module_,X1.out,X2.out,hx.out])⟩
 have H3:=Lib.hid (H2b.out.step hc hp); clear hc hp K he
 clear e0 f0 hw
 have KT:=Lib.hid (take_any [105,109,112,111,114,116] _ _ _ _ _ _ H3.out.par)
 cases hk : see [105,109,112,111,114,116] r3
 case' true=>
  have HI:=Lib.hid hk
  clear hk
  go_wp2_with fail
  refine KT.out.mono ?_; rintro _ w4 ⟨rfl,hp,hc,_⟩
  rw [HI.out]
  rw [skip,HI.out,if_pos rfl] at hp
  have H4:=Lib.hid (H3.out.step hc hp)
  clear hc hp
  have K:=Lib.hid (names_any 6 (by omega) _ _ _ _ _ _ H4.out.par)
  go_wp2_with fail
  refine K.out.mono ?_; intro e w5 he
  rcases he.cut with ⟨en,q,b9,rfl,hx,HE⟩ | ⟨ims,r5,_,rfl,X5,⟨a3,c3,rfl,hac,hv⟩,hc,hp⟩
  ·go_wp2_with fail; exact ⟨rfl,HE.out _ _ _ H4.out.chg (by simp only [module_,X1.out,X2.out,X3.out,imports,HI.out,if_true,hx.out])⟩
  have H5:=Lib.hid (H4.out.call hc hp (framed_Names ims (.slice a3 ims.length c3)) ⟨_,_,rfl,hac,hv⟩); clear hc hp K he
  clear hac hv
  obtain ⟨_,e1,_⟩:=H5.out.blk.five; obtain ⟨_,f1,_⟩:=H5.out.blk.free6
  obtain ⟨w5b,hw⟩ : ∃ x,x=w5.setCell ⟨w.heap.size + 1,1,none⟩ (.slice a3 ims.length c3):=⟨_,rfl⟩
  have H5b:=Lib.hid (H5.out.store 1 (.slice a3 ims.length c3))
  simp only [Array.setIfInBounds] at H5b
  rw [← hw] at H5b
  have K:=Lib.hid (must_any [59] _ _ _ _ _ _ H5b.out.par)
  go_wp2_with fail
  rw [← hw]
  refine K.out.mono ?_; intro e w6 he
  rcases he.cut with ⟨en,q,b9,rfl,hx,HE⟩ | ⟨_,r6,_,rfl,X6,rfl,hc,hp⟩
  ·go_wp2_with fail; exact ⟨rfl,HE.out _ _ _ H5b.out.chg (by simp only [module_,X1.out,X2.out,X3.out,imports,HI.out,if_true,X5.out,hx.out])⟩
  have H6:=Lib.hid (H5b.out.step hc hp); clear hc hp K he
  have HIM:=Lib.hid (show imports z r3 = .ok ims r6 by simp only [imports,HI.out,if_true,X5.out,X6.out])
  obtain ⟨r4,rfl⟩ : ∃ x,x=r6:=⟨_,rfl⟩
  clear e1 f1 hw HI
 case' false=>
  have HI:=Lib.hid hk
  clear hk
  go_wp2_with fail
  refine KT.out.mono ?_; rintro _ w6 ⟨rfl,_,_,hw⟩
  rw [HI.out]
  have hw':=(hw HI.out).symm; subst hw'; clear hw
  obtain ⟨r4,ims,a3,c3,HIM,H6⟩ : ∃ r4 ims a3 c3,Hid (imports z r3 = .ok ims r4)∧Hid (Mk 29 w w3 B bp bt z r4 #[str [],nils,nils,nils,nils] #[str n,.slice a3 ims.length c3,nils,nils,nils] (fun w F=>True∧NamesAt w F ims (.slice a3 ims.length c3))):=
   ⟨_,[],none,0,Lib.hid (by simp only [imports,HI.out,Bool.false_eq_true,if_false]),Lib.hid (H3.out.add (framed_Names [] nils) NamesAt.nil)⟩
  clear HI
 all_goals
  clear KT
  have K:=Lib.hid (vars_any _ _ _ _ _ _ H6.out.par)
  go_wp2_with fail
  refine K.out.mono ?_; intro e w7 he
  rcases he.cut with ⟨en,q,b9,rfl,hx,HE⟩ | ⟨gs,r7,_,rfl,X7,⟨a7,c7,rfl,hac,hv⟩,hc,hp⟩
  ·go_wp2_with fail; exact ⟨rfl,HE.out _ _ _ H6.out.chg (by simp only [module_,X1.out,X2.out,X3.out,HIM.out,hx.out])⟩
  have H7:=Lib.hid (H6.out.call hc hp (framed_Globs gs (.slice a7 gs.length c7)) ⟨_,_,rfl,hac,hv⟩); clear hc hp K he
  clear hac hv
  obtain ⟨_,_,e2,_⟩:=H7.out.blk.five; obtain ⟨_,_,f2,_⟩:=H7.out.blk.free6
  obtain ⟨w8,hw⟩ : ∃ x,x=w7.setCell ⟨w.heap.size + 1,2,none⟩ (.slice a7 gs.length c7):=⟨_,rfl⟩
  have H8:=Lib.hid (H7.out.store 2 (.slice a7 gs.length c7))
  simp only [Array.setIfInBounds] at H8
  rw [← hw] at H8
  go_wp2_with fail
  rw [← hw]
  clear e2 f2 hw
  go_loopw [] (fun wr=>∃ (f:Nat) (acc:List Proc) (cs:List Value) (l:Value) (ts':List Tok),procsL z 11 [] r7=procsL z f acc ts'∧f + acc.length=11∧acc.length≤10∧Chg [bp,w.heap.size + 1] w8 wr∧Par wr B bp bt z ts' ∧
    Blk wr (w.heap.size + 1) #[str n,.slice a3 ims.length c3,.slice a7 gs.length c7,l,nils] 29∧wr.ownsRow 0 73 6 l acc.length cs∧PrsAt wr (Off w8 wr l) acc cs∧From w8.heap.size l) (fun wr=>11 - lenOf ((wr.cell? ⟨w.heap.size + 1,3,none⟩).getD nilp))
  case atStart=>exact ⟨11,[],[],nils,r7,rfl,rfl,Nat.zero_le _,Chg.refl _ _,H8.out.par,H8.out.blk,World.ownsRow_nil _ _ _ _,rfl,From.nil _⟩
  case round=>
   obtain ⟨f,acc,cs,l,ts',hr,hf,ha,hC,hp,hb,ho,hes,hF⟩:=hrel
   have HR:=Lib.hid hr; have HP:=Lib.hid hp; have HO:=Lib.hid ho; have HES:=Lib.hid hes; have HF:=Lib.hid hF; have HC:=Lib.hid hC; have HB:=Lib.hid hb
   obtain ⟨sa,sc,hs⟩:=slice_of_owns ho
   have hsz:=hC.size
   have hs8:=H8.out.sz
   have hbl:=hb.lt
   have HW:=Lib.hid (show Chg [bp] w wr from H8.out.chg.trans hC (fun x hx=>by simp at hx; rcases hx with rfl | rfl; exact .inl (by simp); exact .inr (by omega)))
   clear hr hp ho hes hF hC hb
   subst hs
   obtain ⟨f,rfl⟩ : ∃ f',f=f' + 1:=⟨f - 1,by omega⟩
   have KSe:=Lib.hid (see_any [112,114,111,99] wr B bp bt z ts' HP.out)
   cases hk : see [112,114,111,99] ts' with
   | false=>
    rw [hk] at KSe
    have HPL0:=Lib.hid (show procsL z 11 [] r7 = .ok acc ts' by rw [HR.out,procsL,if_neg (by rw [hk]; simp)])
    clear hk
    go_wp2_with fail
    refine KSe.out.mono ?_; rintro _ _ ⟨rfl,hw⟩; have hw:=hw.symm; subst hw
    obtain ⟨r6,hr6⟩ : ∃ r6,r6=ts':=⟨_,rfl⟩
    subst hr6
    have HPL:=HPL0
    have H9:=Lib.hid ((H8.out.loop HC.out HP.out HB.out).add (framed_Procs acc (.slice sa acc.length sc)) (by
     obtain ⟨a,c,he,hac,hrow⟩:=Row.of_owns HO.out (new_owns HO.out HF.out)
     cases he
     refine ProcsAt.mono (F:=New w8 wr) (fun x hx=>⟨Nat.le_trans hs8 hx.1,hx.2⟩) ⟨_,_,_,rfl,hac,hrow,(framed_Prs acc cs).done HES.out⟩))
    clear HES HO HR HPL0
    go_wp2_with fail
    have K:=Lib.hid (must_any [98,101,103,105,110] _ _ _ _ _ _ H9.out.par)
    go_wp2_with fail
    refine K.out.mono ?_; intro e w18 he
    rcases he.cut with ⟨en,q,b9,rfl,hx,HE⟩ | ⟨_,r18,_,rfl,X18,rfl,hc,hp⟩
    ·go_wp2_with fail; exact ⟨rfl,HE.out _ _ _ H9.out.chg (by simp only [module_,X1.out,X2.out,X3.out,HIM.out,X7.out,HPL.out,block,hx.out])⟩
    have H18:=Lib.hid (H9.out.step hc hp); clear hc hp K he
    have K:=Lib.hid (body0_any _ _ _ _ _ _ H18.out.par)
    go_wp2_with fail
    refine K.out.mono ?_; intro e w19 he
    rcases he.cut with ⟨en,q,b9,rfl,hx,HE⟩ | ⟨b,r19,_,rfl,X19,⟨a5,c5,cs5,rfl,hv⟩,hc,hp⟩
    ·go_wp2_with fail; exact ⟨rfl,HE.out _ _ _ H18.out.chg (by simp only [module_,X1.out,X2.out,X3.out,HIM.out,X7.out,HPL.out,block,X18.out,hx.out])⟩
    have H19:=Lib.hid (H18.out.call hc hp (framed_Sl b (.slice a5 b.len c5)) ⟨_,_,_,rfl,hv⟩); clear hc hp K he
    clear hv
    obtain ⟨_,_,_,_,e4⟩:=H19.out.blk.five; obtain ⟨_,_,_,_,f4,_⟩:=H19.out.blk.free6
    obtain ⟨w19b,hw⟩ : ∃ x,x=w19.setCell ⟨w.heap.size + 1,4,none⟩ (.slice a5 b.len c5):=⟨_,rfl⟩
    have H19b:=Lib.hid (H19.out.store 4 (.slice a5 b.len c5))
    simp only [Array.setIfInBounds] at H19b
    rw [← hw] at H19b
    have K:=Lib.hid (must_any [101,110,100] _ _ _ _ _ _ H19b.out.par)
    go_wp2_with fail
    rw [← hw]
    refine K.out.mono ?_; intro e w20 he
    rcases he.cut with ⟨en,q,b9,rfl,hx,HE⟩ | ⟨_,r20,_,rfl,X20,rfl,hc,hp⟩
    ·go_wp2_with fail; exact ⟨rfl,HE.out _ _ _ H19b.out.chg (by simp only [module_,X1.out,X2.out,X3.out,HIM.out,X7.out,HPL.out,block,X18.out,X19.out,hx.out])⟩
    have H20:=Lib.hid (H19b.out.step hc hp); clear hc hp K he
    clear e4 f4 hw
    have K:=Lib.hid (must_any [46] _ _ _ _ _ _ H20.out.par)
    go_wp2_with fail
    refine K.out.mono ?_; intro e w21 he
    rcases he.cut with ⟨en,q,b9,rfl,hx,HE⟩ | ⟨_,r21,_,rfl,X21,rfl,hc,hp⟩
    ·go_wp2_with fail; exact ⟨rfl,HE.out _ _ _ H20.out.chg (by simp only [module_,X1.out,X2.out,X3.out,HIM.out,X7.out,HPL.out,block,X18.out,X19.out,X20.out,hx.out])⟩
    have H21:=Lib.hid (H20.out.step hc hp); clear hc hp K he
    have HRR:=Lib.hid (show module_ z ts = .ok ⟨n,ims,gs,acc,b⟩ r21 by simp only [module_,X1.out,X2.out,X3.out,HIM.out,X7.out,HPL.out,block,X18.out,X19.out,X20.out,X21.out])
    obtain ⟨d0,d1,d2,d3,d4⟩:=H21.out.blk.five; obtain ⟨e0,e1,e2,e3,e4⟩:=H21.out.res.five; obtain ⟨f0,f1,f2,f3,f4,_⟩:=H21.out.res.free6
    go_wp2_with fail
    obtain ⟨wF,hwF,hcF,hbF⟩:=set5 (str n) (.slice a3 ims.length c3) (.slice a7 gs.length c7) (.slice sa acc.length sc) (.slice a5 b.len c5) H21.out.res
    rw [hwF]
    clear hwF
    obtain ⟨g0,g1,g2,g3,g4⟩:=hbF.five
    refine bodyPost_ret (v:=.agg #[str n,.slice a3 ims.length c3,.slice a7 gs.length c7,.slice sa acc.length sc,.slice a5 b.len c5]) (by simp [results,Tryz.results20,go_sem,g0,g1,g2,g3,g4]) rfl ?_
    rw [HRR.out]
    have hq:=H21.out.fin hcF
    exact ⟨H21.out.chg.trans hcF (fun x hx=>.inr (by simp at hx; omega)),_,rfl,⟨_,_,_,_,rfl,hq.1.1.1.2,hq.1.1.2,hq.1.2,hq.2⟩,H21.out.par.kept hcF (fun x hx=>by simp at hx; omega) (by simp; omega) (by simp; omega)⟩
   | true=>
    rw [hk] at KSe
    have d3:=HB.out.cell 3 _ rfl
    cases he : decide (acc.length=10) with
    | true=>
     have he1 : ((acc.length:Int) == 10)=true:=by have:=of_decide_eq_true he; simp [this]
     have HPL:=Lib.hid (show procsL z 11 [] r7 = .bad 4 (hd z ts') by rw [HR.out,procsL,if_pos hk,if_pos (of_decide_eq_true he)])
     have HRR:=Lib.hid (show module_ z ts = .bad 4 (hd z ts') by simp only [module_,X1.out,X2.out,X3.out,HIM.out,X7.out,HPL.out])
     clear he hk
     go_wp2_with fail
     refine KSe.out.mono ?_; rintro _ _ ⟨rfl,hw⟩; have hw:=hw.symm; subst hw
     go_wp2_with fail
     refine (fail_any 4 _ B bp bt z ts' HP.out).mono ?_; intro e w2 he
     have HE:=Lib.hid he
     obtain ⟨b,rfl⟩:=he.thrown
     clear he
     go_wp2_with fail
     refine ⟨rfl,?_⟩
     rw [HRR.out]
     exact HE.out.relay HW.out
    | false=>
     have he1 : ((acc.length:Int) == 10)=false:=by have:=of_decide_eq_false he; simp; omega
     have hne:=of_decide_eq_false he
     have HG:Hid (∀ q,proc z ts'=q→procsL z 11 [] r7=match q with | .bad e p=>.bad e p | .ok g r=>procsL z f (acc ++ [g]) r):=Lib.hid (fun q hq=>by rw [HR.out,procsL,if_pos hk,if_neg hne,hq]; cases q <;> rfl)
     have hPD:Par wr.drew B bp bt z ts':=HP.out.kept (Chg.refl [] wr).drew (by simp) (by simp) (by simp)
     have HX:=Lib.hid (proc_any wr.drew B bp bt z ts' hPD)
     have d3d : wr.drew.cell? ⟨w.heap.size + 1,3,none⟩=some (.slice sa acc.length sc):=d3
     clear he hk hPD
     cases hx : proc z ts' with
     | bad en q=>
      have HPL:=Lib.hid (HG.out _ hx)
      have HRR:=Lib.hid (show module_ z ts = .bad en q by simp only [module_,X1.out,X2.out,X3.out,HIM.out,X7.out,HPL.out])
      rw [hx] at HX
      clear hx
      go_wp2_with fail
      refine KSe.out.mono ?_; rintro _ _ ⟨rfl,hw⟩; have hw:=hw.symm; subst hw
      go_wp2_with fail
      refine wp_region_dead 3 [true,true,true] rfl (by kernel_rfl) (by kernel_rfl) rfl ?_
      repeat ((with_reducible show wpX _ _ _ _ _ _ _ _);(first | refine wpX_nil ?_ | refine wpX_skip rfl ?_ | refine wpX_mv rfl rfl (by kernel_rfl) (fun _ _=>?_) | refine wpX_ldD rfl rfl rfl (by exact ⟨_,_,d3d⟩) (fun _ _=>?_));go_wp2_with fail)
      refine HX.out.mono ?_; intro e w6 he
      have HEE:=Lib.hid he
      obtain ⟨b,rfl⟩:=he.thrown
      clear he
      intro a' ha
      refine ⟨ha,?_⟩
      rw [HRR.out]
      exact HEE.out.relay HW.out.drew
     | ok x r=>
      have HPL:=Lib.hid (HG.out _ hx)
      rw [hx] at HX
      clear hx
      have hxb : (w.heap.size + 1)∉bp :: blk (.slice sa acc.length sc):=by
       simp only [List.mem_cons,not_or]
       exact ⟨by omega,fun hm=>by have:=HF.out _ hm; omega⟩
      have HXB:=Lib.hid hxb
      have HZ:=Lib.hid (Zone.of (X:=bp :: blk (.slice sa acc.length sc)) d3d hxb)
      clear hxb
      go_wp2_with fail
      refine KSe.out.mono ?_; rintro _ _ ⟨rfl,hw⟩; have hw:=hw.symm; subst hw
      go_wp2_with fail
      refine wp_region_T (bp :: blk (.slice sa acc.length sc)) rfl (by kernel_rfl) rfl ?_
      have hS:Chg (bp :: blk (.slice sa acc.length sc)) wr.drew wr.drew:=Chg.refl _ _
      repeat ((with_reducible refine gX ?_); (first | refine wpX_nil ?_ | refine sK ?_ | refine sM fun _ _=>?_ | refine sL (hz:=by exact HZ.out) fun _ _=>?_ | refine sE fun _ _=>?_); go_wp2_with fail)
      refine HX.out.mono ?_; rintro _ w6 ⟨hc6,_,rfl,⟨cx,rfl,hx6⟩,hp6⟩
      have HX6:=Lib.hid hx6
      obtain ⟨vp,vv,vb,rfl,h1,h2,h3⟩:=hx6
      obtain ⟨x1,y1,rfl,_,_⟩:=h1
      obtain ⟨x2,y2,rfl,_,_⟩:=h2
      obtain ⟨x3,y3,_,rfl,_,_⟩:=h3
      have hS:Chg (bp :: blk (.slice sa acc.length sc)) wr.drew w6:=hc6.mono (fun x hx=>.inl (by simp at hx; simp [hx]))
      have HC6:=Lib.hid hc6; have HP6:=Lib.hid hp6
      clear hc6 hp6
      go_wp2_with fail
      refine And.intro hS ?_
      repeat ((with_reducible refine gX ?_); (first | refine wpX_nil ?_ | refine sK ?_ | refine sM fun _ _=>?_ | refine sL (hz:=by exact HZ.out) fun _ _=>?_ | refine sE fun _ _=>?_); go_wp2_with fail)
      refine And.intro (hS.alloc _) ?_
      repeat ((with_reducible refine gX ?_); (first | refine wpX_nil ?_ | refine sK ?_ | refine sM fun _ _=>?_ | refine sL (hz:=by exact HZ.out) fun _ _=>?_ | refine sE fun _ _=>?_); go_wp2_with fail)
      have how:=owns_kept (w:=wr.drew) (owns_kept HO.out (Chg.refl [] wr).drew (by simp)) (HC6.out.alloc (.cells #[str x.name,.int .i64 x.pos,.bool x.seen,.slice x1 x.params.length y1,.slice x2 x.vars.length y2,.slice x3 x.body.len y3] 73)) (fun g hg hm=>by have:=HF.out g hg; simp at hm; omega)
      refine wpX_append _ _ 26 rfl rfl rfl 73 _ 6 104 infoProc Tryz.underlying26 rfl (by decide) (.slice sa acc.length sc) acc.length _ rfl how ⟨w6.heap.size,0,none⟩ 1 1 [str x.name,.int .i64 x.pos,.bool x.seen,.slice x1 x.params.length y1,.slice x2 x.vars.length y2,.slice x3 x.body.len y3] rfl rfl (cells_new _ _ _) (by simp [Value.oneCell']) (by omega) (by unfold maxLen; omega) ?_
      intro v' w7 hown' hch' hmv'
      obtain ⟨a',c',rfl⟩:=slice_of_owns hown'
      obtain ⟨v',hv'⟩ : ∃ v',v'=Value.slice a' (acc.length + 1) c':=⟨_,rfl⟩
      rw [← hv'] at hown' hmv'
      have hc7:Chg (bp :: blk (.slice sa acc.length sc)) wr.drew w7:=(hS.alloc _).then (hch'.mono (fun x hx=>.inl (by simp [hx])))
      have hb7:Blk w7 (w.heap.size + 1) _ _:=HB.out.kept (Chg.trans (S:=bp :: blk (.slice sa acc.length sc)) (⟨rfl,rfl,rfl,Nat.le_refl _,fun _ _ _=>rfl⟩ : Chg _ wr wr.drew) hc7 (fun x hx=>.inl hx)) HXB.out
      have hcell7:=hb7.cell 3 _ rfl
      have hfz7:=hb7.frozen 3
      have hsz6:=HC6.out.size
      have hsz7 : w6.heap.size≤w7.heap.size:=Nat.le_trans (by simp) hch'.size
      have hswd : wr.drew.heap.size=wr.heap.size:=rfl
      have hes6:=(framed_Prs acc cs).call HES.out ((⟨rfl,rfl,rfl,Nat.le_refl _,fun _ _ _=>rfl⟩ : Chg [bp] wr wr.drew).then HC6.out) (by omega)
      have hlw : ∀ g∈blk (.slice sa acc.length sc),g < wr.drew.heap.size:=fun g hg=>owns_lt HO.out g hg
      have hx6':=(framed_Pr x _).fresh (w:=w8) (l:=.slice sa acc.length sc) HX6.out hlw (by omega)
      have hes7:=(framed_Prs acc cs).app hes6 hch' hmv'
      have hx7:=(framed_Pr x _).app hx6' hch' hmv'
      have HES7:=Lib.hid (PrsAt.snoc hes7 hx7)
      have hF7:From w8.heap.size v':=HF.out.moved hmv' (by simp; omega)
      have HF7:=Lib.hid hF7
      have hp7:Par w7 B bp bt z r:=(HP6.out.kept ((Chg.refl [] w6).alloc _) (by simp) (by simp) (by simp)).kept hch' (fun g hg=>by have:=HF.out g hg; omega) (fun hm=>by have:=HF.out _ hm; omega) (fun hm=>by have:=HF.out _ hm; omega)
      have HP7:=Lib.hid hp7
      have HO7:=Lib.hid hown'
      have HB7:=Lib.hid hb7
      have HC7:=Lib.hid hc7
      have hl7 : lenOf v'=acc.length + 1:=lenOf_owns hown'
      have HL7:=Lib.hid hl7
      clear hown' hch' hmv' hb7 hS how hes6 hlw hx6' hes7 hx7 hF7 hp7 hl7 hc7
      refine And.intro HC7.out ?_
      repeat ((with_reducible refine gX ?_); (first | refine wpX_nil ?_ | refine sK ?_ | refine sM fun _ _=>?_ | refine sL (hz:=by exact HZ.out) fun _ _=>?_ | refine sE fun _ _=>?_); go_wp2_with fail)
      refine stepX_ef rfl rfl (fun _ _=>?_)
      change Oper.wp _ (Oper.mk _ _ _ _ _ _) _ _ _ _
      go_wp2_with fail
      rw [← hv']
      have hcs:Chg [w.heap.size + 1] w7 (w7.setCell ⟨w.heap.size + 1,3,none⟩ v'):=Chg.set1 _ _ _ _
      have hbs:Blk (w7.setCell ⟨w.heap.size + 1,3,none⟩ v') (w.heap.size + 1) #[str n,.slice a3 ims.length c3,.slice a7 gs.length c7,v',nils] 29:=HB7.out.set 3 v'
      have hwr7:Chg [bp,w.heap.size + 1] w8 w7:=(HC.out.trans (⟨rfl,rfl,rfl,Nat.le_refl _,fun _ _ _=>rfl⟩ : Chg [bp] wr wr.drew) (fun x hx=>.inl (by simp at hx; simp [hx]))).trans HC7.out (fun x hx=>by
       rcases List.mem_cons.1 hx with rfl | hx
       ·exact .inl (by simp)
       ·exact .inr (HF.out x hx))
      go_roundw
      case rel=>
       refine ⟨f,acc ++ [x],_,v',r,HPL.out,by simp; omega,by simp; omega,hwr7.trans hcs (fun x hx=>.inl (by simp at hx; simp [hx])),HP7.out.kept hcs (fun x hx=>by simp at hx; omega) (by simp; omega) (by simp; omega),hbs,?_,(framed_Prs _ _).call HES7.out hcs (by omega),HF7.out⟩
       simpa using owns_kept HO7.out hcs (fun g hg hm=>by have:=HF7.out g hg; simp at hm; omega)
      case measure=>
       have g3:=hbs.cell 3 _ rfl
       rw [g3,HB.out.cell 3 _ rfl]
       show 11 - lenOf v' < 11 - lenOf (.slice sa acc.length sc)
       rw [HL7.out]
       simp only [lenOf]
       omega
end Go.Proofs.YtilhhkokdfajiaaGreatDoor
namespace Go.Proofs.YtilhhkokdfajiaaGreatDoor
open Go Go.RowKit Go.Mq Go.Mq.Tree
set_option maxRecDepth 100000
set_option maxHeartbeats 4000000
theorem letter_any (c:UInt8) (w:World):Calls Tryz.prog 55 #[.int .u8 c.toNat] w (fun e w'=>e = .returned (.bool (letter c))∧w'=w):=by
 obtain ⟨n,hn⟩ : ∃ n:Nat,n=c.toNat:=⟨_,rfl⟩
 have HL:=Lib.hid (show letter c=(decide (97≤n) && decide (n≤122)) by rw [letter,hn])
 rw [← hn]
 clear hn
 cases h1 : decide (97≤n) with
 | false=>
  have h1' : decide ((97:Int)≤(n:Int))=false:=by have:=of_decide_eq_false h1; simp; omega
  rw [h1] at HL
  clear h1
  go_enter Tryz.func55,Tryz.ntmps55
  go_wp2_with fail
  go_ret
  rw [HL.out]
  exact ⟨rfl,rfl⟩
 | true=>
  have h1' : decide ((97:Int)≤(n:Int))=true:=by have:=of_decide_eq_true h1; simp; omega
  have h2' : decide ((n:Int)≤122)=decide (n≤122):=by by_cases h : n≤122 <;> simp [h] <;> omega
  rw [h1] at HL
  clear h1
  go_enter Tryz.func55,Tryz.ntmps55
  go_wp2_with fail
  go_ret
  rw [HL.out,← h2']
  exact ⟨rfl,rfl⟩
theorem digit_any (c:UInt8) (w:World):Calls Tryz.prog 58 #[.int .u8 c.toNat] w (fun e w'=>e = .returned (.bool (digit c))∧w'=w):=by
 obtain ⟨n,hn⟩ : ∃ n:Nat,n=c.toNat:=⟨_,rfl⟩
 have HL:=Lib.hid (show digit c=(decide (48≤n) && decide (n≤57)) by rw [digit,hn])
 rw [← hn]
 clear hn
 cases h1 : decide (48≤n) with
 | false=>
  have h1' : decide ((48:Int)≤(n:Int))=false:=by have:=of_decide_eq_false h1; simp; omega
  rw [h1] at HL
  clear h1
  go_enter Tryz.func58,Tryz.ntmps58
  go_wp2_with fail
  go_ret
  rw [HL.out]
  exact ⟨rfl,rfl⟩
 | true=>
  have h1' : decide ((48:Int)≤(n:Int))=true:=by have:=of_decide_eq_true h1; simp; omega
  have h2' : decide ((n:Int)≤57)=decide (n≤57):=by by_cases h : n≤57 <;> simp [h] <;> omega
  rw [h1] at HL
  clear h1
  go_enter Tryz.func58,Tryz.ntmps58
  go_wp2_with fail
  go_ret
  rw [HL.out,← h2']
  exact ⟨rfl,rfl⟩
theorem alnum_any (c:UInt8) (w:World):Calls Tryz.prog 57 #[.int .u8 c.toNat] w (fun e w'=>e = .returned (.bool (letter c || digit c))∧w'=w):=by
 have HL:=Lib.hid (letter_any c w)
 have HD:=Lib.hid (digit_any c w)
 obtain ⟨n,hn⟩ : ∃ n:Nat,n=c.toNat:=⟨_,rfl⟩
 rw [← hn] at HL HD
 rw [← hn]
 clear hn
 cases h1 : letter c with
 | true=>
  rw [h1] at HL
  clear h1
  go_enter Tryz.func57,Tryz.ntmps57
  go_wp2_with fail
  refine HL.out.mono ?_; rintro _ w2 ⟨rfl,hw⟩
  have hw:=hw.symm; subst hw
  go_wp2_with fail
  go_ret
  exact ⟨rfl,rfl⟩
 | false=>
  rw [h1] at HL
  clear h1
  go_enter Tryz.func57,Tryz.ntmps57
  go_wp2_with fail
  refine HL.out.mono ?_; rintro _ w2 ⟨rfl,hw⟩
  have hw:=hw.symm; subst hw
  go_wp2_with fail
  refine HD.out.mono ?_; rintro _ w2 ⟨rfl,hw⟩
  have hw:=hw.symm; subst hw
  go_wp2_with fail
  go_ret
  exact ⟨rfl,rfl⟩
theorem run_any (f:UInt8→Bool) (F:FuncId) (hF : ∀ (cs:Array Value) (w:World),(callFunc F cs).run Tryz.prog w = .ok (.enter F cs) w) (w:World) (hc : ∀ c:UInt8,Calls Tryz.prog F #[.int .u8 c.toNat] w (fun e w'=>e = .returned (.bool (f c))∧w'=w))
  (l:List UInt8) (hl : l.length≤1099511627776):Calls Tryz.prog 56 #[str l,.func (.func F) #[] #[]] w (fun e w'=>e = .returned (.int .i64 (howN f l))∧w'=w):=by
 have HC:=Lib.hid hc
 obtain ⟨s,hs⟩ : ∃ s,s=bs l:=⟨_,rfl⟩
 have hsz : s.size=l.length:=by rw [hs]; rfl
 have HS:=Lib.hid hs
 show Calls Tryz.prog 56 #[.string (bs l),.func (.func F) #[] #[]] w _
 rw [← hs]
 clear hc hs
 go_enter Tryz.func56,Tryz.ntmps56
 go_wp2_with fail
 go_loopw [5] (fun v wr=>∃ k:Nat,v = .int .i64 k∧k≤l.length∧wr=w∧howN f l=k + howN f (l.drop k)) (fun v _=>l.length - (intOf v).toNat)
 case atStart=>exact ⟨0,rfl,Nat.zero_le _,rfl,by simp⟩
 case round=>
  obtain ⟨k,rfl,hk,rfl,hr⟩:=hrel
  have HR:=Lib.hid hr; clear hr
  by_cases hlt : k < l.length
  ·have hdec : decide ((k:Int) < (s.size:Int))=true:=by simp; omega
   obtain ⟨c,hcc⟩ : ∃ c,l[k]?=some c:=⟨l[k],List.getElem?_eq_getElem hlt⟩
   have hdrop : l.drop k=c :: l.drop (k + 1):=by
    rw [List.drop_eq_getElem_cons hlt]
    congr 1
    rw [List.getElem?_eq_getElem hlt] at hcc
    exact Option.some.inj hcc
   have hidx:=run_index_str (P:=Tryz.prog) Tryz.underlying9 (show s[k]?=some c by rw [HS.out,bs_get]; exact hcc)
   have HCL:=Lib.hid (HC.out c)
   obtain ⟨n,hn⟩ : ∃ n:Nat,n=c.toNat:=⟨_,rfl⟩
   rw [← hn] at hidx HCL
   clear hn hcc
   cases hf : f c with
   | true=>
    have HRR:=Lib.hid (show howN f l=(k + 1) + howN f (l.drop (k + 1)) by rw [HR.out,hdrop,howN,if_pos hf]; omega)
    rw [hf] at HCL
    clear hf hdrop
    go_wp2_with fail
    refine HCL.out.mono ?_; rintro _ w2 ⟨rfl,hw⟩
    have hw:=hw.symm; subst hw
    go_wp2_with fail
    exact ⟨⟨k + 1,by go_num,by omega,by first | rfl | trivial,HRR.out⟩,by simp [intOf]; omega⟩
   | false=>
    have HRR:=Lib.hid (show howN f l=k by rw [HR.out,hdrop,howN,if_neg (by rw [hf]; simp)]; rfl)
    rw [hf] at HCL
    clear hf hdrop
    go_wp2_with fail
    refine HCL.out.mono ?_; rintro _ w2 ⟨rfl,hw⟩
    have hw:=hw.symm; subst hw
    go_wp2_with fail
    go_ret
    rw [HRR.out]
    exact ⟨rfl,rfl⟩
  ·have hdec : decide ((k:Int) < (s.size:Int))=false:=by simp; omega
   have HRR:=Lib.hid (show howN f l=k by rw [HR.out,List.drop_eq_nil_of_le (by omega)]; rfl)
   go_wp2_with fail
   go_ret
   rw [HRR.out]
   exact ⟨rfl,rfl⟩
theorem marks_index (k:Nat) (hk : k < 18) (w:World) : (Instr.index 127 (.agg #[str [58,61],str [60,61],str [62,61],str [35],str [61],str [60],str [62],str [43],str [45],str [42],str [40],str [41],str [91],str [93],str [44],str [59],str [58],str [46]]) (.int .i64 k)).run Tryz.prog w = .ok (str (marks.getD k [])) w:=by
 match k,hk with
 | 0,_=>rfl
 | 1,_=>rfl
 | 2,_=>rfl
 | 3,_=>rfl
 | 4,_=>rfl
 | 5,_=>rfl
 | 6,_=>rfl
 | 7,_=>rfl
 | 8,_=>rfl
 | 9,_=>rfl
 | 10,_=>rfl
 | 11,_=>rfl
 | 12,_=>rfl
 | 13,_=>rfl
 | 14,_=>rfl
 | 15,_=>rfl
 | 16,_=>rfl
 | 17,_=>rfl
 | n + 18,h=>omega
end Go.Proofs.YtilhhkokdfajiaaGreatDoor
namespace Go.Mq.Tree
open Go Go.RowKit Go.Mq
theorem prefix_eq (m l:List UInt8):Lib.hasPrefix l m=m.isPrefixOf l:=rfl
theorem nextK_letter {c:UInt8} {t:List UInt8} (h : letter c=true) : nextK (c :: t)=(.word,howN (fun c=>letter c || digit c) (c :: t)):=by rw [nextK,if_pos h]
theorem nextK_digit {c:UInt8} {t:List UInt8} (h : letter c=false) (h2 : digit c=true) : nextK (c :: t)=(.number,howN digit (c :: t)):=by rw [nextK,if_neg (by simp [h]),if_pos h2]
theorem nextK_mark {c:UInt8} {t:List UInt8} (h : letter c=false) (h2 : digit c=false) {m:List UInt8} (hm : marks.find? (fun m=>m.isPrefixOf (c :: t))=some m) : nextK (c :: t)=(.mark,m.length):=by
 rw [nextK,if_neg (by simp [h]),if_neg (by simp [h2]),hm]; rfl
theorem nextK_none {c:UInt8} {t:List UInt8} (h : letter c=false) (h2 : digit c=false) (hm : marks.find? (fun m=>m.isPrefixOf (c :: t))=none) : nextK (c :: t)=(.mark,0):=by
 rw [nextK,if_neg (by simp [h]),if_neg (by simp [h2]),hm]; rfl
end Go.Mq.Tree
namespace Go.Proofs.YtilhhkokdfajiaaGreatDoor
open Go Go.RowKit Go.Mq Go.Mq.Tree
set_option maxRecDepth 100000
set_option maxHeartbeats 4000000
theorem enters35 : ∀ (cs:Array Value) (w:World),(callFunc 57 cs).run Tryz.prog w = .ok (.enter 57 cs) w:=fun cs w=>by kernel_rfl
theorem enters36 : ∀ (cs:Array Value) (w:World),(callFunc 58 cs).run Tryz.prog w = .ok (.enter 58 cs) w:=fun cs w=>by kernel_rfl
theorem next_any (c:UInt8) (t:List UInt8) (hl : (c :: t).length≤1099511627776) (w:World) (B:Nat) (hL:Laid w B) :
  Calls Tryz.prog 34 #[str (c :: t)] w (fun e w'=>e = .returned (.tuple #[.int .i64 (nextK (c :: t)).1.num,.int .i64 (nextK (c :: t)).2])∧w'=w):=by
 have HLE:=Lib.hid (letter_any c w)
 have HDI:=Lib.hid (digit_any c w)
 have HRW:=Lib.hid (run_any (fun c=>letter c || digit c) 57 enters35 w (fun c=>alnum_any c w) (c :: t) hl)
 have HRD:=Lib.hid (run_any digit 58 enters36 w (fun c=>digit_any c w) (c :: t) hl)
 obtain ⟨s,hs⟩ : ∃ s,s=bs (c :: t):=⟨_,rfl⟩
 have hidx:=run_index_str (P:=Tryz.prog) Tryz.underlying9 (k:=0) (c:=c) (show s[0]?=some c by rw [hs,bs_get]; rfl)
 have hidx : ∀ w,(Instr.index 9 (.string s) (.int .i64 0)).run Tryz.prog w = .ok (.int .u8 c.toNat) w:=hidx
 have hsz : s.size=t.length + 1:=by rw [hs]; rfl
 have HS:=Lib.hid hs
 show Calls Tryz.prog 34 #[.string (bs (c :: t))] w _
 have HRW:Hid (Calls Tryz.prog 56 #[.string s,.func (.func 57) #[] #[]] w (fun e w'=>e = .returned (.int .i64 (howN (fun c=>letter c || digit c) (c :: t)))∧w'=w)):=by rw [hs]; exact HRW
 have HRD:Hid (Calls Tryz.prog 56 #[.string s,.func (.func 58) #[] #[]] w (fun e w'=>e = .returned (.int .i64 (howN digit (c :: t)))∧w'=w)):=by rw [hs]; exact HRD
 rw [← hs]
 clear hs
 obtain ⟨n,hn⟩ : ∃ n:Nat,n=c.toNat:=⟨_,rfl⟩
 rw [← hn] at hidx HLE HDI
 clear hn
 cases h1 : letter c with
 | true=>
  have HRR:=Lib.hid (nextK_letter (t:=t) h1)
  rw [h1] at HLE
  clear h1
  go_enter Tryz.func34,Tryz.ntmps34
  go_wp2_with fail
  refine HLE.out.mono ?_; rintro _ w2 ⟨rfl,hw⟩
  have hw:=hw.symm; subst hw
  go_wp2_with fail
  refine HRW.out.mono ?_; rintro _ w2 ⟨rfl,hw⟩
  have hw:=hw.symm; subst hw
  go_wp2_with fail
  go_ret2
  rw [HRR.out]
  exact ⟨rfl,rfl⟩
 | false=>
  rw [h1] at HLE
  cases h2 : digit c with
  | true=>
   have HRR:=Lib.hid (nextK_digit (t:=t) h1 h2)
   rw [h2] at HDI
   clear h1 h2
   go_enter Tryz.func34,Tryz.ntmps34
   go_wp2_with fail
   refine HLE.out.mono ?_; rintro _ w2 ⟨rfl,hw⟩
   have hw:=hw.symm; subst hw
   go_wp2_with fail
   refine HDI.out.mono ?_; rintro _ w2 ⟨rfl,hw⟩
   have hw:=hw.symm; subst hw
   go_wp2_with fail
   refine HRD.out.mono ?_; rintro _ w2 ⟨rfl,hw⟩
   have hw:=hw.symm; subst hw
   go_wp2_with fail
   go_ret2
   rw [HRR.out]
   exact ⟨rfl,rfl⟩
  | false=>
   have HM:Hid (∀ m,marks.find? (fun m=>m.isPrefixOf (c :: t))=some m→nextK (c :: t)=(.mark,m.length)):=Lib.hid (fun m hm=>nextK_mark h1 h2 hm)
   have HN:Hid (marks.find? (fun m=>m.isPrefixOf (c :: t))=none→nextK (c :: t)=(.mark,0)):=Lib.hid (fun hm=>nextK_none h1 h2 hm)
   rw [h2] at HDI
   clear h1 h2
   have d0:=hL.marks 0 _ rfl
   have d1:=hL.marks 1 _ rfl
   have d2:=hL.marks 2 _ rfl
   have d3:=hL.marks 3 _ rfl
   have d4:=hL.marks 4 _ rfl
   have d5:=hL.marks 5 _ rfl
   have d6:=hL.marks 6 _ rfl
   have d7:=hL.marks 7 _ rfl
   have d8:=hL.marks 8 _ rfl
   have d9:=hL.marks 9 _ rfl
   have d10:=hL.marks 10 _ rfl
   have d11:=hL.marks 11 _ rfl
   have d12:=hL.marks 12 _ rfl
   have d13:=hL.marks 13 _ rfl
   have d14:=hL.marks 14 _ rfl
   have d15:=hL.marks 15 _ rfl
   have d16:=hL.marks 16 _ rfl
   have d17:=hL.marks 17 _ rfl
   have hml : marks.length=18:=rfl
   go_enter Tryz.func34,Tryz.ntmps34
   go_wp2_with fail
   refine HLE.out.mono ?_; rintro _ w2 ⟨rfl,hw⟩
   have hw:=hw.symm; subst hw
   go_wp2_with fail
   refine HDI.out.mono ?_; rintro _ w2 ⟨rfl,hw⟩
   have hw:=hw.symm; subst hw
   go_wp2_with fail
   clear d0 d1 d2 d3 d4 d5 d6 d7 d8 d9 d10 d11 d12 d13 d14 d15 d16 d17
   go_loopw [5,19] (fun _ i wr=>∃ k:Nat,k≤18∧i = .int .i64 k∧wr=w∧marks.find? (fun m=>m.isPrefixOf (c :: t))=(marks.drop k).find? (fun m=>m.isPrefixOf (c :: t))) (fun _ i _=>20 - (intOf i).toNat)
   case atStart=>exact ⟨0,Nat.zero_le _,rfl,rfl,rfl⟩
   case round=>
    obtain ⟨k,hk,rfl,rfl,hr⟩:=hrel
    have HR:=Lib.hid hr; clear hr
    by_cases hlt : k < 18
    ·have hmi:=marks_index k hlt
     have HX:=Lib.hid (Any.strings_HasPrefix Tryz.lays99 s (bs (marks.getD k [])) wr)
     have hm : marks[k]?=some (marks.getD k []):=by rw [List.getD_eq_getElem?_getD,List.getElem?_eq_getElem (by omega)]; rfl
     have hdr : marks.drop k=marks.getD k [] :: marks.drop (k + 1):=by
      rw [List.drop_eq_getElem_cons (by omega)]
      congr 1
      rw [List.getElem?_eq_getElem (by omega)] at hm
      exact Option.some.inj hm
     have HDR:=Lib.hid hdr
     have hml9 : (marks.getD k []).length≤2:=by
      have : ∀ m∈marks,m.length≤2:=by decide
      exact this _ (List.mem_of_getElem? hm)
     obtain ⟨m,hmm⟩ : ∃ m,m=marks.getD k []:=⟨_,rfl⟩
     rw [← hmm] at hmi HX HDR hml9
     have HX:Hid (Calls Tryz.prog 59 #[.string s,str m] wr (fun e w'=>e = .returned (.bool (m.isPrefixOf (c :: t)))∧w'=wr)):=Lib.hid (by
      have:=HX.out
      rw [HS.out,prefix_eq] at this
      rw [HS.out]
      exact this)
     clear hm hdr hmm
     cases hp : m.isPrefixOf (c :: t) with
     | true=>
      have HRR:=Lib.hid (HM.out m (by rw [HR.out,HDR.out,List.find?_cons,hp]))
      rw [hp] at HX
      clear hp
      go_wp2_with fail
      refine HX.out.mono ?_; rintro _ w2 ⟨rfl,hw⟩
      have hw:=hw.symm; subst hw
      go_wp2_with fail
      go_ret2
      rw [HRR.out]
      exact ⟨rfl,rfl⟩
     | false=>
      have HRR:=Lib.hid (show marks.find? (fun m=>m.isPrefixOf (c :: t))=(marks.drop (k + 1)).find? (fun m=>m.isPrefixOf (c :: t)) by rw [HR.out,HDR.out,List.find?_cons,hp])
      rw [hp] at HX
      clear hp
      go_wp2_with fail
      refine HX.out.mono ?_; rintro _ w2 ⟨rfl,hw⟩
      have hw:=hw.symm; subst hw
      go_wp2_with fail
      exact ⟨⟨k + 1,by omega,by go_num,by first | rfl | trivial,HRR.out⟩,by simp [intOf]; omega⟩
    ·have hge : k=18:=by omega
     have HRR:=Lib.hid (HN.out (by rw [HR.out,hge]; rfl))
     go_wp2_with fail
     go_ret2
     rw [HRR.out]
     exact ⟨rfl,rfl⟩
end Go.Proofs.YtilhhkokdfajiaaGreatDoor
namespace Go.Mq.Tree
open Go Go.RowKit Go.Mq
theorem howN_le (f:UInt8→Bool) : ∀ l:List UInt8,howN f l≤l.length:=by
 intro l
 induction l with
 | nil=>exact Nat.le_refl _
 | cons c t ih=>rw [howN]; split <;> simp <;> omega
theorem nextK_le (l:List UInt8) : (nextK l).2≤l.length:=by
 cases l with
 | nil=>exact Nat.le_refl _
 | cons c t=>
  rw [nextK]
  split
  ·exact howN_le _ _
  ·split
   ·exact howN_le _ _
   ·cases h : marks.find? (fun m=>m.isPrefixOf (c :: t)) with
    | none=>simp
    | some m=>
     have:=List.find?_some h
     have:=(List.isPrefixOf_iff_prefix.1 this).length_le
     simpa using this
theorem gap_eq (c:UInt8) : gap c=(((c.toNat:Int) == 32) || ((c.toNat:Int) == 10)):=by
 have h1 : (c == 32)=((c.toNat:Int) == 32):=by
  by_cases h : c=32
  ·subst h; rfl
  ·have : c.toNat≠32:=fun h2=>h (UInt8.toNat_inj.1 (by rw [h2]; rfl))
   rw [beq_eq_false_iff_ne.2 h]
   symm
   simp; omega
 have h2 : (c == 10)=((c.toNat:Int) == 10):=by
  by_cases h : c=10
  ·subst h; rfl
  ·have : c.toNat≠10:=fun h2=>h (UInt8.toNat_inj.1 (by rw [h2]; rfl))
   rw [beq_eq_false_iff_ne.2 h]
   symm
   simp; omega
 rw [gap,h1,h2]
def LexR.ahead (acc:List Tok):LexR→LexR
 | .ok ts=>.ok (acc ++ ts)
 | .bad e p=>.bad e p
theorem lexL_nil (f i k:Nat) : lexL f i k [] = .ok []:=by cases f <;> rfl
theorem lexL_gap {f i k:Nat} {c:UInt8} {t:List UInt8} (h : gap c=true) : lexL (f + 1) i k (c :: t)=lexL f (i + 1) k t:=by simp only [lexL,h,if_true]
theorem lexL_none {f i k:Nat} {c:UInt8} {t:List UInt8} (h : gap c=false) (h2 : (nextK (c :: t)).2=0) : lexL (f + 1) i k (c :: t) = .bad 3 i:=by simp [lexL,h,h2]
theorem lexL_many {f i:Nat} {c:UInt8} {t:List UInt8} (h : gap c=false) (h2 : (nextK (c :: t)).2≠0) : lexL (f + 1) i 600 (c :: t) = .bad 4 i:=by simp [lexL,h,h2]
theorem lexL_tok {f i k:Nat} {c:UInt8} {t:List UInt8} (h : gap c=false) (h2 : (nextK (c :: t)).2≠0) (h3 : k≠600) (acc:List Tok) :
  (lexL (f + 1) i k (c :: t)).ahead acc=(lexL f (i + (nextK (c :: t)).2) (k + 1) ((c :: t).drop (nextK (c :: t)).2)).ahead (acc ++ [⟨(nextK (c :: t)).1,(c :: t).take (nextK (c :: t)).2,i⟩]):=by
 simp only [lexL,h,h2,h3,if_false,Bool.false_eq_true]
 cases lexL f (i + (nextK (c :: t)).2) (k + 1) ((c :: t).drop (nextK (c :: t)).2) with
 | ok ts=>simp [LexR.ahead]
 | bad e p=>rfl
def LexOut (w:World) (z:Nat) (r:LexR) (e:Ending) (w':World):Prop:=Chg [] w w'∧match r with
 | .ok ts=>∃ a c,e = .returned (.tuple #[.slice a (ts.length + 1) c,.nilIface])∧ts.length + 1≤c∧Row w' (New w w') a (toksCells z ts)∧ts.length≤600 ∧ ∀ t∈ts,t.text.length≤1099511627776
 | .bad en p=>∃ b,e = .returned (.tuple #[nils,.iface 94 (ptr b)])∧w.heap.size≤b∧Blk w' b #[.int .i64 en,.int .i64 p] 96
theorem toksCells_eq (z:Nat) : ∀ ts:List Tok,toksCells z ts=ts.flatMap Tok.cells ++ [.int .i64 4,str [],.int .i64 z]:=by
 intro ts
 induction ts with
 | nil=>rfl
 | cons t r ih=>rw [toksCells,ih,List.flatMap_cons,List.append_assoc]
end Go.Mq.Tree
namespace Go.Proofs.YtilhhkokdfajiaaGreatDoor
open Go Go.RowKit Go.Mq Go.Mq.Tree
set_option maxRecDepth 100000
set_option maxHeartbeats 8000000
theorem infoTok : (Tryz.prog.info? 61).map (fun i=>(i.zero,i.size,i.bytes))=some (some (.agg #[.int .i64 0,.string ⟨#[]⟩,.int .i64 0]),3,32):=by kernel_rfl
theorem tokens_any (l:List UInt8) (hl : l.length≤1099511627776) (w:World) (B:Nat) (hL:Laid w B):Calls Tryz.prog 19 #[str l] w (LexOut w l.length (lex l)):=by
 obtain ⟨s,hs⟩ : ∃ s,s=bs l:=⟨_,rfl⟩
 have hsz : s.size=l.length:=by rw [hs]; rfl
 have HS:=Lib.hid hs
 have HL:=Lib.hid hL
 show Calls Tryz.prog 19 #[.string (bs l)] w _
 rw [← hs]
 clear hs hL
 go_enter Tryz.func19,Tryz.ntmps19
 go_wp2_with fail
 go_loopw [4,5,6,7] (fun lv iv _ _ wr=>∃ (f i:Nat) (acc:List Tok),iv = .int .i64 i∧i≤l.length∧lex l=(lexL f i acc.length (l.drop i)).ahead acc∧l.length - i≤f∧acc.length≤600∧(∀ t∈acc,t.text.length≤1099511627776) ∧
   wr.ownsRow 0 61 3 lv acc.length (acc.flatMap Tok.cells)∧From w.heap.size lv∧Chg [] w wr) (fun _ iv _ _ _=>l.length - (intOf iv).toNat)
 case atStart=>exact ⟨l.length,0,[],rfl,Nat.zero_le _,by rw [List.drop_zero,lex]; cases lexL l.length 0 0 l <;> rfl,Nat.sub_le _ _,Nat.zero_le _,fun _ h=>(by cases h),World.ownsRow_nil _ _ _ _,From.nil _,Chg.refl _ _⟩
 case round=>
  obtain ⟨f,i,acc,rfl,hi,hr,hf,ha,hsh,ho,hF,hC⟩:=hrel
  have HR:=Lib.hid hr; have HSH:=Lib.hid hsh; have HO:=Lib.hid ho; have HF:=Lib.hid hF; have HC:=Lib.hid hC
  obtain ⟨sa,sc,hsl⟩:=slice_of_owns ho
  have hsw:=hC.size
  clear hr hsh ho hF hC
  subst hsl
  by_cases hlt : i < l.length
  ·have hdec : decide ((i:Int) < (s.size:Int))=true:=by simp; omega
   obtain ⟨c,hcc⟩ : ∃ c,l[i]?=some c:=⟨l[i],List.getElem?_eq_getElem hlt⟩
   have hdrop : l.drop i=c :: l.drop (i + 1):=by
    rw [List.drop_eq_getElem_cons hlt]
    congr 1
    rw [List.getElem?_eq_getElem hlt] at hcc
    exact Option.some.inj hcc
   obtain ⟨f,rfl⟩ : ∃ f',f=f' + 1:=⟨f - 1,by omega⟩
   have hidx:=run_index_str (P:=Tryz.prog) Tryz.underlying9 (show s[i]?=some c by rw [HS.out,bs_get]; exact hcc)
   have HD:=Lib.hid hdrop
   have HBE:=Lib.hid (gap_eq c)
   obtain ⟨n0,hn0⟩ : ∃ n:Nat,n=c.toNat:=⟨_,rfl⟩
   rw [← hn0] at hidx HBE
   clear hn0 hcc hdrop
   cases hb : gap c with
   | true=>
    have HRR:=Lib.hid (show lex l=(lexL f (i + 1) acc.length (l.drop (i + 1))).ahead acc by rw [HR.out,HD.out,lexL_gap hb])
    rw [hb] at HBE
    clear hb
    cases h1 : ((n0:Int) == 32) with
    | true=>
     clear HBE
     go_wp2_with fail
     exact ⟨⟨f,i + 1,acc,by go_num,by omega,HRR.out,by omega,ha,HSH.out,HO.out,HF.out,HC.out⟩,by simp [intOf]; omega⟩
    | false=>
     have h2 : ((n0:Int) == 10)=true:=by have:=HBE.out; rw [h1] at this; simpa using this.symm
     clear HBE
     go_wp2_with fail
     exact ⟨⟨f,i + 1,acc,by go_num,by omega,HRR.out,by omega,ha,HSH.out,HO.out,HF.out,HC.out⟩,by simp [intOf]; omega⟩
   | false=>
    have hbe:=HBE.out
    rw [hb] at hbe
    obtain ⟨h1,h2⟩:=Bool.or_eq_false_iff.1 hbe.symm
    clear hbe
    clear HBE
    have hE1 : s.extract i l.length=bs (c :: l.drop (i + 1)):=by rw [HS.out,bs_extract,← HD.out]; congr 2; exact List.take_of_length_le (by simp)
    have hlen : (c :: l.drop (i + 1)).length=l.length - i:=by rw [← HD.out]; simp
    have HNX:=Lib.hid (next_any c (l.drop (i + 1)) (by rw [hlen]; omega) wr B (HL.out.kept HC.out (by simp)))
    have HLT:Hid (nextK (c :: l.drop (i + 1))=nextK (c :: l.drop (i + 1))):=Lib.hid rfl
    have hnl:=nextK_le (c :: l.drop (i + 1))
    rw [hlen] at hnl
    obtain ⟨kd,hkd⟩ : ∃ kd:Nat,kd=(nextK (c :: l.drop (i + 1))).1.num:=⟨_,rfl⟩
    obtain ⟨n,hn⟩ : ∃ n,n=(nextK (c :: l.drop (i + 1))).2:=⟨_,rfl⟩
    have HKD:=Lib.hid hkd; have HN:=Lib.hid hn
    rw [← hkd,← hn] at HNX
    rw [← hn] at hnl
    have HNX:Hid (Calls Tryz.prog 34 #[.string (s.extract i l.length)] wr (fun e w'=>e = .returned (.tuple #[.int .i64 kd,.int .i64 n])∧w'=wr)):=Lib.hid (by rw [hE1]; exact HNX.out)
    have HB:=Lib.hid hb
    have HNZ:Hid (n=0→lex l = .bad 3 i):=Lib.hid (fun h0=>by rw [HR.out,HD.out,lexL_none hb (by rw [← hn,h0])]; rfl)
    have HNM:Hid (n≠0→acc.length=600→lex l = .bad 4 i):=Lib.hid (fun h0 h6=>by rw [HR.out,HD.out,h6,lexL_many hb (by rw [← hn]; exact h0)]; rfl)
    have HNT:Hid (∀ tx,s.extract i (i + n)=bs tx→n≠0→acc.length≠600→lex l=(lexL f (i + n) (acc.length + 1) (l.drop (i + n))).ahead (acc ++ [⟨(nextK (c :: l.drop (i + 1))).1,tx,i⟩])):=Lib.hid (fun tx htx h0 h6=>by
     rw [HR.out,HD.out,lexL_tok hb (by rw [← hn]; exact h0) h6,← hn,← HD.out,List.drop_drop]
     have htx' : tx=(l.drop i).take n:=by
      rw [HS.out,bs_extract,Nat.add_sub_cancel_left] at htx
      have h9:=ByteArray.mk.inj htx
      exact (by simpa using congrArg Array.toList h9.symm)
     rw [htx'])
    clear hkd hn hb hE1 HLT
    by_cases h0 : n=0
    ·have hz : ((n:Int) == 0)=true:=by simp [h0]
     have HRR:=Lib.hid (HNZ.out h0)
     clear h0
     go_wp2_with fail
     refine HNX.out.mono ?_; rintro _ w2 ⟨rfl,hw⟩
     have hw:=hw.symm; subst hw
     go_wp2_with fail
     go_ret2
     rw [HRR.out]
     exact ⟨HC.out.alloc _,_,rfl,hsw,Blk.new _ _ _⟩
    ·have hz : ((n:Int) == 0)=false:=by simp [h0]
     by_cases h6 : acc.length=600
     ·have h6' : ((acc.length:Int) == 600)=true:=by simp [h6]
      have HRR:=Lib.hid (HNM.out h0 h6)
      clear h0 h6
      go_wp2_with fail
      refine HNX.out.mono ?_; rintro _ w2 ⟨rfl,hw⟩
      have hw:=hw.symm; subst hw
      go_wp2_with fail
      go_ret2
      rw [HRR.out]
      exact ⟨HC.out.alloc _,_,rfl,hsw,Blk.new _ _ _⟩
     ·have h6' : ((acc.length:Int) == 600)=false:=by simp; omega
      have HTX:=Lib.hid (HNT.out ((l.drop i).take n) (by rw [HS.out,bs_extract,Nat.add_sub_cancel_left]) h0 h6)
      have HEX:=Lib.hid (show s.extract i (i + n)=bs ((l.drop i).take n) by rw [HS.out,bs_extract,Nat.add_sub_cancel_left])
      have htl : ((l.drop i).take n).length≤1099511627776:=by simp; omega
      have HO2:=Lib.hid (owns_kept HO.out ((Chg.refl [] wr).alloc (.cells #[.int .i64 kd,.string (s.extract i (i + n)),.int .i64 i] 61)) (by simp))
      go_wp2_with fail
      refine HNX.out.mono ?_; rintro _ w2 ⟨rfl,hw⟩
      have hw:=hw.symm; subst hw
      go_wp2_with (at_builtin; go_must (refine wpL_append rfl _ _ 53 rfl 61 _ 3 32 infoTok Tryz.underlying53 rfl (by decide) _ _ _ rfl HO2.out ⟨wr.heap.size,0,none⟩ 1 1 [.int .i64 kd,.string (s.extract i (i + n)),.int .i64 i] rfl rfl (cells_new _ _ _) (by simp [Value.oneCell']) ?_ ?_ ?_))
      ·omega
      ·unfold maxLen; omega
      ·intro v' w' hown' hch' hmv'
       have HO':=Lib.hid hown'
       have HF':=Lib.hid (HF.out.moved hmv' (by simp; omega))
       have HC':=Lib.hid ((HC.out.alloc (.cells #[.int .i64 kd,.string (s.extract i (i + n)),.int .i64 i] 61)).trans hch' (fun x hx=>.inr (HF.out x hx)))
       clear hown' hch' hmv'
       go_wp2_with fail
       refine ⟨⟨f,i + n,acc ++ [⟨(nextK (c :: l.drop (i + 1))).1,(l.drop i).take n,i⟩],by go_num,by omega,by simpa using HTX.out,by omega,by simp; omega,?_,?_,HF'.out,HC'.out⟩,by simp [intOf]; omega⟩
       ·intro t ht
        rcases List.mem_append.1 ht with h | h
        ·exact HSH.out t h
        ·simp at h; rw [h]; exact htl
       ·have:=HO'.out
        rw [HEX.out,HKD.out] at this
        simpa [Tok.cells] using this
  ·have hdec : decide ((i:Int) < (s.size:Int))=false:=by simp; omega
   have HRR:=Lib.hid (show lex l = .ok acc by rw [HR.out,List.drop_eq_nil_of_le (by omega),lexL_nil]; simp [LexR.ahead])
   have HO2:=Lib.hid (owns_kept HO.out ((Chg.refl [] wr).alloc (.cells #[.int .i64 4,str [],.int .i64 l.length] 61)) (by simp))
   go_wp2_with (at_builtin; go_must (refine wpL_append rfl _ _ 53 rfl 61 _ 3 32 infoTok Tryz.underlying53 rfl (by decide) _ _ _ rfl HO2.out ⟨wr.heap.size,0,none⟩ 1 1 [.int .i64 4,str [],.int .i64 l.length] rfl rfl (cells_new _ _ _) (by simp [Value.oneCell']) ?_ ?_ ?_))
   ·omega
   ·unfold maxLen; omega
   ·intro v' w' hown' hch' hmv'
    have HO':=Lib.hid hown'
    have hF':=HF.out.moved hmv' (by simp; omega)
    have HF':=Lib.hid hF'
    have HC':=Lib.hid ((HC.out.alloc (.cells #[.int .i64 4,str [],.int .i64 l.length] 61)).trans hch' (fun x hx=>.inr (HF.out x hx)))
    clear hown' hch' hmv' hF'
    go_wp2_with fail
    go_ret2
    rw [HRR.out]
    obtain ⟨a,k,rfl,hk,hrow⟩:=Row.of_owns HO'.out (new_owns HO'.out HF'.out)
    refine ⟨HC'.out,a,k,rfl,hk,?_,ha,HSH.out⟩
    rw [toksCells_eq]
    exact hrow
end Go.Proofs.YtilhhkokdfajiaaGreatDoor
namespace Go.Proofs.YtilhhkokdfajiaaGreatDoor
open Go Go.RowKit Go.Mq Go.Mq.Tree
set_option maxRecDepth 100000
set_option maxHeartbeats 8000000
theorem catch_idle (bm be:Nat) (w:World):CallsD Tryz.prog 18 #[ptr bm,ptr be] .returning w fun e u' w'=>
   e = .returned (.tuple #[])∧u' = .returning∧w'=w:=by
 refine callsD_of_wpS Tryz.func18 rfl fun c₀ cs hu=>?_
 rw [show (#[ptr bm,ptr be] ++ Array.replicate (Tryz.f18.ntmps - (#[ptr bm,ptr be] : Array Value).size) undef:Array Value) = #[ptr bm,ptr be,undef,undef,undef,undef,undef,undef,undef,undef,undef,undef,undef,undef,undef,undef,undef,undef,undef] from rfl]
 apply wpS_seq
 apply wpS_region
 simp [wpOpsS,go_sem,recoverD,hu,Exit.thenS]
 refine wpS_of_wp ?_
 go_wp2_with fail
 exact ⟨rfl,.returning,by cases c₀; simp_all,.tuple #[],results_none rfl _ _ _,rfl,rfl,rfl⟩
theorem catch_thrown (bm be b:Nat) (c0 c1 c2 c3 c4 e0:Value) (w:World) (hm:Blk w bm #[c0,c1,c2,c3,c4] 29) (he:Blk w be #[e0] 31) (hne : bm≠be) :
  CallsD Tryz.prog 18 #[ptr bm,ptr be] (.panicking [{ v:=.iface 51 (.agg #[.iface 94 (ptr b)]),recovered:=false }]) w fun e u' w'=>
   e = .returned (.tuple #[])∧u' = .panicking [{ v:=.iface 51 (.agg #[.iface 94 (ptr b)]),recovered:=true }]∧Chg [bm,be] w w' ∧
   Blk w' bm #[str [],nils,nils,nils,nils] 29∧Blk w' be #[.iface 94 (ptr b)] 31:=by
 have hta : ∀ w,(Instr.typeAssert (.iface 51 (.agg #[.iface 94 (ptr b)])) 20 51 true).run Tryz.prog w = .ok (.tuple #[.agg #[.iface 94 (ptr b)],.bool true]) w:=fun _=>rfl
 refine callsD_of_wpS Tryz.func18 rfl fun c₀ cs hu=>?_
 rw [show (#[ptr bm,ptr be] ++ Array.replicate (Tryz.f18.ntmps - (#[ptr bm,ptr be] : Array Value).size) undef:Array Value) = #[ptr bm,ptr be,undef,undef,undef,undef,undef,undef,undef,undef,undef,undef,undef,undef,undef,undef,undef,undef,undef] from rfl]
 apply wpS_seq
 apply wpS_region
 simp [wpOpsS,go_sem,recoverD,hu,Exit.thenS]
 refine wpS_of_wp ?_
 go_wp2_with fail
 have hlm:=hm.lt
 have hle:=he.lt
 have hm':=hm.kept ((Chg.refl [] w).alloc (.cells #[.iface 94 (ptr b)] 51)) (by simp)
 have he':=he.kept ((Chg.refl [] w).alloc (.cells #[.iface 94 (ptr b)] 51)) (by simp)
 have hx':=Blk.new w #[.iface 94 (ptr b)] 51
 have hc':Chg [bm,be] w (w.alloc (.cells #[.iface 94 (ptr b)] 51)):=(Chg.refl _ w).alloc _
 have hnx : w.heap.size≠bm:=by omega
 have hny : w.heap.size≠be:=by omega
 generalize w.alloc (.cells #[.iface 94 (ptr b)] 51)=w1 at *
 have f0:=hm'.frozen 0; have f1:=hm'.frozen 1; have f2:=hm'.frozen 2; have f3:=hm'.frozen 3; have f4:=hm'.frozen 4
 have d0:=hm'.cell 0 _ rfl; have d1:=hm'.cell 1 _ rfl; have d2:=hm'.cell 2 _ rfl; have d3:=hm'.cell 3 _ rfl; have d4:=hm'.cell 4 _ rfl
 have g0:=he'.frozen 0; have e0':=he'.cell 0 _ rfl
 have x0:=hx'.cell 0 _ rfl
 have HM:=Lib.hid hm'; have HE:=Lib.hid he'; have HC:=Lib.hid hc'
 clear hm he hm' he' hx' hc' hta
 go_region
 obtain ⟨wF,hwF,hcF,hbF⟩:=set5 (str []) nils nils nils nils HM.out
 have heF:=HE.out.kept hcF (by simp; exact Ne.symm hne)
 have hcE:Chg [be] wF (wF.setCell ⟨be,0,none⟩ (.iface 94 (ptr b))):=Chg.set1 _ _ _ _
 refine ⟨rfl,.panicking [{ v:=.iface 51 (.agg #[.iface 94 (ptr b)]),recovered:=true }],rfl,.tuple #[],results_none rfl _ _ _,rfl,rfl,?_⟩
 rw [hwF]
 refine ⟨((HC.out.then (hcF.mono (fun x hx=>.inl (by simp at hx; simp [hx])))).then (hcE.mono (fun x hx=>.inl (by simp at hx; simp [hx])))).drew,?_,?_⟩
 ·exact (hbF.kept hcE (by simpa using hne)).kept (Chg.refl [] _).drew (by simp)
 ·have:=(heF.set 0 (.iface 94 (ptr b))).kept (Chg.refl [] _).drew (by simp)
  simpa using this
end Go.Proofs.YtilhhkokdfajiaaGreatDoor
namespace Go.Mq.Tree
open Go Go.RowKit Go.Mq
def ParseOut (w:World) (r:Res) (e:Ending) (w':World):Prop:=Chg [] w w'∧match r with
 | .ok m=>∃ v,e = .returned (.tuple #[v,.nilIface])∧ModAt w' (New w w') m v
 | .bad en p=>∃ b,e = .returned (.tuple #[.agg #[str [],nils,nils,nils,nils],.iface 94 (ptr b)])∧w.heap.size≤b∧Blk w' b #[.int .i64 en,.int .i64 p] 96
end Go.Mq.Tree
namespace Go.Proofs.YtilhhkokdfajiaaGreatDoor
open Go Go.RowKit Go.Mq Go.Mq.Tree
set_option maxRecDepth 100000
set_option maxHeartbeats 1000000
theorem results_cells (tmps:Array Value) (bm be:Nat) (c0 c1 c2 c3 c4 ev:Value) (w:World) (h2 : tmps[2]?.getD undef=ptr bm) (h3 : tmps[3]?.getD undef=ptr be) (hm:Blk w bm #[c0,c1,c2,c3,c4] 29) (he:Blk w be #[ev] 31) :
  (results Tryz.f6 tmps).run Tryz.prog w = .ok (.tuple #[.agg #[c0,c1,c2,c3,c4],ev]) w:=by
 have d0:=hm.cell 0 _ rfl; have d1:=hm.cell 1 _ rfl; have d2:=hm.cell 2 _ rfl; have d3:=hm.cell 3 _ rfl; have d4:=hm.cell 4 _ rfl
 have e0:=he.cell 0 _ rfl
 simp [results,Tryz.results6,h2,h3,go_sem,d0,d1,d2,d3,d4,e0]
theorem leave_idle (tmps:Array Value) (bm be:Nat) (c0 c1 c2 c3 c4 ev:Value) (w:World) (R:Ending→World→Prop) (h2 : tmps[2]?.getD undef=ptr bm) (h3 : tmps[3]?.getD undef=ptr be) (hm:Blk w bm #[c0,c1,c2,c3,c4] 29) (he:Blk w be #[ev] 31)
  (hR:R (.returned (.tuple #[.agg #[c0,c1,c2,c3,c4],ev])) w):Leaves Tryz.prog Tryz.f6 tmps R [{ target:=.fn (.func 18) #[ptr bm,ptr be],args:=#[] }] .returning w:=by
 refine leaves_cons (f:=18) (args:=#[ptr bm,ptr be]) (by simp) (by simp [go_sem]) ?_
 refine (catch_idle bm be w).mono ?_
 rintro e u' w'' ⟨rfl,rfl,rfl⟩
 exact ⟨_,results_cells tmps bm be c0 c1 c2 c3 c4 ev w'' h2 h3 hm he,hR⟩
theorem leave_thrown (tmps:Array Value) (bm be b:Nat) (c0 c1 c2 c3 c4 ev:Value) (w:World) (R:Ending→World→Prop) (h2 : tmps[2]?.getD undef=ptr bm) (h3 : tmps[3]?.getD undef=ptr be) (hm:Blk w bm #[c0,c1,c2,c3,c4] 29) (he:Blk w be #[ev] 31) (hne : bm≠be)
  (hR : ∀ w',Chg [bm,be] w w'→R (.returned (.tuple #[.agg #[str [],nils,nils,nils,nils],.iface 94 (ptr b)])) w'):Leaves Tryz.prog Tryz.f6 tmps R [{ target:=.fn (.func 18) #[ptr bm,ptr be],args:=#[] }] (.panicking [{ v:=.iface 51 (.agg #[.iface 94 (ptr b)]),recovered:=false }]) w:=by
 refine leaves_cons (f:=18) (args:=#[ptr bm,ptr be]) (by simp) (by simp [go_sem]) ?_
 refine (catch_thrown bm be b c0 c1 c2 c3 c4 ev w hm he hne).mono ?_
 rintro e u' w'' ⟨rfl,rfl,hc,hm',he'⟩
 exact ⟨_,results_cells tmps bm be _ _ _ _ _ _ w'' h2 h3 hm' he',hR w'' hc⟩
theorem parse_any (l:List UInt8) (hl : l.length≤1099511627776) (w:World) (B:Nat) (hL:Laid w B):Calls Tryz.prog 6 #[str l] w (ParseOut w (parse l)):=by
 have hmf : ∀ (fn:Fn) (first cap:Array Value) (w:World),(Instr.makeFunc fn first cap).run Tryz.prog w = .ok (.func fn first cap) w:=fun _ _ _ _=>rfl
 have hw1 : (w.alloc (.cells #[str [],nils,nils,nils,nils] 29)).heap.size=w.heap.size + 1:=by simp
 obtain ⟨w0,hw0⟩ : ∃ w0,w0=(w.alloc (.cells #[str [],nils,nils,nils,nils] 29)).alloc (.cells #[.nilIface] 31):=⟨_,rfl⟩
 have hb0:=Blk.new (w.alloc (.cells #[str [],nils,nils,nils,nils] 29)) #[.nilIface] 31
 have hm0:=(Blk.new w #[str [],nils,nils,nils,nils] 29).kept ((Chg.refl [] _).alloc (.cells #[.nilIface] 31)) (by simp)
 have hc0:Chg [] w ((w.alloc (.cells #[str [],nils,nils,nils,nils] 29)).alloc (.cells #[.nilIface] 31)):=((Chg.refl _ _).alloc _).alloc _
 have hs0 : ((w.alloc (.cells #[str [],nils,nils,nils,nils] 29)).alloc (.cells #[.nilIface] 31)).heap.size=w.heap.size + 2:=by simp
 rw [hw1,← hw0] at hb0
 rw [← hw0] at hm0 hc0 hs0
 have HBE:=Lib.hid hb0; have HBM:=Lib.hid hm0; have HC0:=Lib.hid hc0
 have hLw:Laid w0 B:=hL.kept hc0 (by simp)
 have HL:=Lib.hid hLw
 have HTK:=Lib.hid (tokens_any l hl w0 B hLw)
 have hB0:=hL.le
 clear hL hLw hb0 hm0 hw1 hc0
 cases hx : lex l with
 | bad en q=>
  have HRR:=Lib.hid (show parse l = .bad en q by rw [parse,hx])
  rw [hx] at HTK
  clear hx
  go_enter_defers Tryz.func6,Tryz.ntmps6
  go_wp2_with fail
  try rw [← hw0]
  refine HTK.out.mono ?_; rintro _ w1 ⟨hc1,b,rfl,hbl,hb1⟩
  have hbe:=HBE.out.kept hc1 (by simp)
  have hbm:=HBM.out.kept hc1 (by simp)
  have d0:=hbe.cell 0 _ rfl
  have f0:=hbe.frozen 0
  clear hw0
  have hcs:Chg [w.heap.size + 1] w1 (w1.setCell ⟨w.heap.size + 1,0,none⟩ (.iface 94 (ptr b))):=Chg.set1 _ _ _ _
  have hbe2:Blk (w1.setCell ⟨w.heap.size + 1,0,none⟩ (.iface 94 (ptr b))) (w.heap.size + 1) #[.iface 94 (ptr b)] 31:=by simpa using hbe.set 0 (.iface 94 (ptr b))
  have hbm2:=hbm.kept hcs (by simp)
  have hb2:=hb1.kept hcs (by simp; omega)
  have hc2:Chg [] w _:=(HC0.out.then hc1).trans hcs (fun x hx=>.inr (by simp at hx; omega))
  have HBE2:=Lib.hid hbe2; have HBM2:=Lib.hid hbm2; have HB2:=Lib.hid hb2; have HC2:=Lib.hid hc2
  clear hc1 hb1 hbe hbm hcs hbe2 hbm2 hb2 hc2
  go_wp2_with fail
  generalize w1.setCell ⟨w.heap.size + 1,0,none⟩ (.iface 94 (ptr b))=w2 at *
  have d0:=HBE2.out.cell 0 _ rfl; have f0:=HBE2.out.frozen 0
  have m0:=HBM2.out.cell 0 _ rfl; have m1:=HBM2.out.cell 1 _ rfl; have m2:=HBM2.out.cell 2 _ rfl; have m3:=HBM2.out.cell 3 _ rfl; have m4:=HBM2.out.cell 4 _ rfl
  have k0:=HBM2.out.frozen 0; have k1:=HBM2.out.frozen 1; have k2:=HBM2.out.frozen 2; have k3:=HBM2.out.frozen 3; have k4:=HBM2.out.frozen 4
  go_region
  obtain ⟨wF,hwF,hcF,hbF⟩:=set5 (str []) nils nils nils nils HBM2.out
  have heF:=HBE2.out.kept hcF (by simp)
  have hcE:Chg [w.heap.size + 1] wF (wF.setCell ⟨w.heap.size + 1,0,none⟩ (.iface 94 (ptr b))):=Chg.set1 _ _ _ _
  have hbE:=hbF.kept hcE (by simp)
  have heE:=heF.set 0 (.iface 94 (ptr b))
  simp only [Array.setIfInBounds,List.size_toArray,List.length_cons,List.length_nil] at heE
  have hb2:=(HB2.out.kept hcF (by simp; omega)).kept hcE (by simp; omega)
  have hcG:Chg [] w (wF.setCell ⟨w.heap.size + 1,0,none⟩ (.iface 94 (ptr b))):=(HC2.out.trans hcF (fun x hx=>.inr (by simp at hx; omega))).trans hcE (fun x hx=>.inr (by simp at hx; omega))
  have HFIN:=Lib.hid (And.intro hbE (And.intro heE (And.intro hb2 hcG)))
  clear hbE heE hb2 hcG hcE heF hbF hcF d0 f0 m0 m1 m2 m3 m4 k0 k1 k2 k3 k4
  rw [hwF]
  go_wp2_with fail
  obtain ⟨hbE,heE,hb2,hcG⟩:=HFIN.out
  refine leave_idle _ _ _ _ _ _ _ _ _ _ _ rfl rfl (hbE.kept (Chg.refl [] _).drew (by simp)) (heE.kept (Chg.refl [] _).drew (by simp)) ?_
  rw [HRR.out]
  exact ⟨hcG.drew,b,rfl,by omega,hb2.kept (Chg.refl [] _).drew (by simp)⟩
 | ok ts=>
  have HLX:=Lib.hid hx
  rw [hx] at HTK
  clear hx
  go_enter_defers Tryz.func6,Tryz.ntmps6
  go_wp2_with fail
  try rw [← hw0]
  refine HTK.out.mono ?_; rintro _ w1 ⟨hc1,a,k,rfl,hk,hrow,hfew,hshort⟩
  obtain ⟨bt,off,rfl,hcell⟩:=hrow.at_ (by rw [toksCells_eq]; simp)
  have hF:=hrow.own (by rw [toksCells_eq]; simp) _ rfl
  have hbe:=HBE.out.kept hc1 (by simp)
  have hbm:=HBM.out.kept hc1 (by simp)
  have d0:=hbe.cell 0 _ rfl
  have f0:=hbe.frozen 0
  clear hw0
  have hcs:Chg [w.heap.size + 1] w1 (w1.setCell ⟨w.heap.size + 1,0,none⟩ .nilIface):=Chg.set1 _ _ _ _
  have hbe2:Blk (w1.setCell ⟨w.heap.size + 1,0,none⟩ .nilIface) (w.heap.size + 1) #[.nilIface] 31:=by simpa using hbe.set 0 .nilIface
  have hbm2:=hbm.kept hcs (by simp)
  have hc2:Chg [] w _:=(HC0.out.then hc1).trans hcs (fun x hx=>.inr (by simp at hx; omega))
  have hs1:=hc1.size
  have hL2:=(HL.out.kept hc1 (by simp)).kept hcs (fun x hx=>by simp at hx; omega)
  have hbt0 : w0.heap.size≤bt:=hF.1
  have hcell2 : ∀ (i:Nat) (v:Value),(toksCells l.length ts)[i]?=some v→(w1.setCell ⟨w.heap.size + 1,0,none⟩ .nilIface).cell? ⟨bt,off + i,none⟩=some v:=fun i v hv=>hcs.cellSome (hcell i v hv) (by simp; omega)
  have hs2 : (w1.setCell ⟨w.heap.size + 1,0,none⟩ .nilIface).heap.size=w1.heap.size:=by simp [World.setCell]
  have hbt1 : bt < w1.heap.size:=hF.2
  obtain ⟨w2,hw2⟩ : ∃ w2,w2=w1.setCell ⟨w.heap.size + 1,0,none⟩ .nilIface:=⟨_,rfl⟩
  rw [← hw2] at hbe2 hbm2 hc2 hL2 hcell2 hs2
  obtain ⟨w3,hw3⟩ : ∃ w3,w3=w2.alloc (.cells #[.slice (some ⟨bt,off,none⟩) (ts.length + 1) k] 58):=⟨_,rfl⟩
  have hc3:Chg [] w2 w3:=by rw [hw3]; exact (Chg.refl _ _).alloc _
  have hb3:Blk w3 w1.heap.size #[.slice (some ⟨bt,off,none⟩) (ts.length + 1) k] 58:=by rw [hw3,← hs2]; exact Blk.new _ _ _
  have hs3 : w3.heap.size=w1.heap.size + 1:=by rw [hw3,← hs2]; simp
  have hPar:Par w3 B w1.heap.size bt l.length ts:=⟨hL2.kept hc3 (by simp),by omega,by omega,by omega,hfew,hshort,off,k,hb3,hk,fun i v hv=>hc3.cellSome (hcell2 i v hv) (by simp)⟩
  have hbe3:=hbe2.kept hc3 (by simp)
  have hbm3:=hbm2.kept hc3 (by simp)
  have hcw3:Chg [] w w3:=hc2.then hc3
  have HM:=Lib.hid (module_any w3 B w1.heap.size bt l.length ts hPar)
  have HBE3:=Lib.hid hbe3; have HBM3:=Lib.hid hbm3; have HC3:=Lib.hid hcw3
  have hn2 : w.heap.size + 2≤w1.heap.size:=by omega
  have g0 : w2.cell? ⟨w.heap.size + 1,0,none⟩=some .nilIface:=hbe2.cell 0 _ rfl
  clear hc1 hrow hcell hF hbe hbm hcs hbe2 hbm2 hc2 hL2 hcell2 hc3 hb3 hPar hbe3 hbm3 hcw3 hfew hshort
  cases hx : module_ l.length ts with
  | bad en q=>
   have HRR:=Lib.hid (show parse l = .bad en q by rw [parse,HLX.out]; simp only [hx])
   rw [hx] at HM
   clear hx
   go_wp2_with fail
   rw [← hw2,← hw3]
   refine HM.out.mono ?_; intro e w9 he
   obtain ⟨b9,rfl⟩:=he.thrown
   have HEE:=Lib.hid he
   clear he
   go_wp2_with fail
   obtain ⟨hc9,b,hbe9,hlt9,hb9⟩:=HEE.out
   cases hbe9
   refine leave_thrown _ _ _ _ _ _ _ _ _ _ _ _ rfl rfl (HBM3.out.kept hc9 (by simp; omega)) (HBE3.out.kept hc9 (by simp; omega)) (by omega) (fun w' hc=>?_)
   rw [HRR.out]
   exact ⟨(HC3.out.trans hc9 (fun x hx=>.inr (by simp at hx; omega))).trans hc (fun x hx=>.inr (by simp at hx; omega)),_,rfl,by omega,hb9.kept hc (by simp; omega)⟩
  | ok m ts'=>
   have HMX:=Lib.hid hx
   rw [hx] at HM
   clear hx
   go_wp2_with fail
   rw [← hw2,← hw3]
   refine HM.out.mono ?_; rintro _ w4 ⟨hc4,_,rfl,⟨vi,vv,vp,vb,rfl,hmi,hmv,hmp,hmb⟩,hp4⟩
   have hbe4:=HBE3.out.kept hc4 (by simp; omega)
   have hbm4:=HBM3.out.kept hc4 (by simp; omega)
   have d0:=hbm4.cell 0 _ rfl; have d1:=hbm4.cell 1 _ rfl; have d2:=hbm4.cell 2 _ rfl; have d3:=hbm4.cell 3 _ rfl; have d4:=hbm4.cell 4 _ rfl
   have f0:=hbm4.frozen 0; have f1:=hbm4.frozen 1; have f2:=hbm4.frozen 2; have f3:=hbm4.frozen 3; have f4:=hbm4.frozen 4
   have hs4:=hc4.size
   have hcw4:Chg [] w w4:=HC3.out.trans hc4 (fun x hx=>.inr (by simp at hx; omega))
   have HMA:=Lib.hid (show ModAt w4 (New w3 w4) m (.agg #[str m.name,vi,vv,vp,vb]) from ⟨vi,vv,vp,vb,rfl,hmi,hmv,hmp,hmb⟩)
   obtain ⟨ai,ci,rfl,_⟩:=hmi
   obtain ⟨av,cv,rfl,_⟩:=hmv
   obtain ⟨ap,cp,_,rfl,_⟩:=hmp
   obtain ⟨ab,cb,_,rfl,_⟩:=hmb
   obtain ⟨wF,hwF,hcF,hbF⟩:=set5 (str m.name) (.slice ai m.imports.length ci) (.slice av m.vars.length cv) (.slice ap m.procs.length cp) (.slice ab m.body.len cb) hbm4
   have hpF:=hp4.kept hcF (fun x hx=>by simp at hx; omega) (by simp; omega) (by simp; omega)
   have hbeF:=hbe4.kept hcF (by simp)
   have HPF:=Lib.hid hpF; have HBF:=Lib.hid hbF; have HBEF:=Lib.hid hbeF; have HCF:=Lib.hid hcF; have HCW:=Lib.hid hcw4
   have g0:=hbF.cell 0 _ rfl; have g1:=hbF.cell 1 _ rfl; have g2:=hbF.cell 2 _ rfl; have g3:=hbF.cell 3 _ rfl; have g4:=hbF.cell 4 _ rfl
   have k0:=hbF.frozen 0; have k1:=hbF.frozen 1; have k2:=hbF.frozen 2; have k3:=hbF.frozen 3; have k4:=hbF.frozen 4
   have ge:=hbeF.cell 0 _ rfl; have ke:=hbeF.frozen 0
   clear hc4 hbe4 hbm4 hcF hp4 hbeF hbF hcw4
   cases ts' with
   | nil=>
    have HRR:=Lib.hid (show parse l = .ok m by rw [parse,HLX.out]; simp only [HMX.out])
    obtain ⟨o2,c2,p0,p1,_,hl2⟩:=par_nil hpF
    obtain ⟨wG,hwG,hcG,hbG⟩:=set5 (str m.name) (.slice ai m.imports.length ci) (.slice av m.vars.length cv) (.slice ap m.procs.length cp) (.slice ab m.body.len cb) HBF.out
    have hbeG:=HBEF.out.kept hcG (by simp)
    have geG:=hbeG.cell 0 _ rfl; have keG:=hbeG.frozen 0
    obtain ⟨wH,hwH⟩ : ∃ wH,wG.setCell ⟨w.heap.size + 1,0,none⟩ .nilIface=wH:=⟨_,rfl⟩
    have hcH:Chg [w.heap.size + 1] wG wH:=by rw [← hwH]; exact Chg.set1 _ _ _ _
    have hbeH:Blk wH (w.heap.size + 1) #[.nilIface] 31:=by rw [← hwH]; simpa using hbeG.set 0 .nilIface
    have hbmH:=hbG.kept hcH (by simp)
    have hcF':=HCF.out.trans hcG (fun x hx=>.inl hx)
    have hMH:ModAt wH (New w wH) m (.agg #[str m.name,.slice ai m.imports.length ci,.slice av m.vars.length cv,.slice ap m.procs.length cp,.slice ab m.body.len cb]):=by
     have hsF:=hcF'.size; have hsH:=hcH.size
     refine ((HMA.out.kept hcF' (fun x hx hn=>?_)).kept hcH (fun x hx hn=>?_)).mono (fun x hx=>⟨by have:=hx.1; omega,by have:=hx.2; omega⟩)
     ·simp at hx; have:=hn.1; omega
     ·simp at hx; have:=hn.1; omega
    have HBMH:=Lib.hid hbmH; have HBEH:=Lib.hid hbeH; have HMH:=Lib.hid hMH
    have HCH:=Lib.hid ((HCW.out.trans hcF' (fun x hx=>.inr (by simp at hx; omega))).trans hcH (fun x hx=>.inr (by simp at hx; omega)))
    clear hpF hcG hbG hbeG hcH hbeH hbmH hcF' hMH
    go_wp2_with fail
    exact leave_idle _ _ _ _ _ _ _ _ _ _ _ rfl rfl HBMH.out HBEH.out (by rw [HRR.out]; exact ⟨HCH.out,_,rfl,HMH.out⟩)
   | cons t r=>
    have HRR:=Lib.hid (show parse l = .bad 3 t.pos by rw [parse,HLX.out]; simp only [HMX.out])
    obtain ⟨o2,c2,hpb,p0,p1,p2,p3,hl2,_⟩:=par_cons hpF
    have hkn:=kind_ne t.kind
    have HFA:=Lib.hid (fail_any 3 wF B w1.heap.size bt l.length (t :: r) hpF)
    clear hpF hpb
    go_wp2_with fail
    refine HFA.out.mono ?_; intro e w9 he
    obtain ⟨b9,rfl⟩:=he.thrown
    have HEE:=Lib.hid he
    clear he
    go_wp2_with fail
    obtain ⟨hc9,b,hbe9,hlt9,hb9⟩:=HEE.out
    cases hbe9
    have hsF:=HCF.out.size
    refine leave_thrown _ _ _ _ _ _ _ _ _ _ _ _ rfl rfl (HBF.out.kept hc9 (by simp; omega)) (HBEF.out.kept hc9 (by simp; omega)) (by omega) (fun w' hc=>?_)
    rw [HRR.out]
    exact ⟨((HCW.out.trans HCF.out (fun x hx=>.inr (by simp at hx; omega))).trans hc9 (fun x hx=>.inr (by simp at hx; omega))).trans hc (fun x hx=>.inr (by simp at hx; omega)),_,rfl,by omega,hb9.kept hc (by simp; omega)⟩
end Go.Proofs.YtilhhkokdfajiaaGreatDoor
namespace Go.Mq.Tree
open Go Go.RowKit Go.Mq
def wordy (c:UInt8):Bool:=letter c || digit c
def kindT:List UInt8→Kind
 | []=>.mark
 | c :: _=>if letter c then .word else if digit c then .number else .mark
def IsWord (t:List UInt8):Prop:=∃ c r,t=c :: r∧letter c=true ∧ ∀ x∈r,wordy x=true
def IsNum (t:List UInt8):Prop:=∃ c r,t=c :: r∧digit c=true ∧ ∀ x∈r,digit x=true
def IsTok (t:List UInt8):Prop:=IsWord t∨IsNum t∨t∈marks
def Ends (t:List UInt8):List UInt8→Prop
 | []=>True
 | b :: _=>(kindT t ≠ .mark→wordy b=false)∧(b.toNat=61→t≠[58]∧t≠[60]∧t≠[62])
inductive Toks:List UInt8→List (List UInt8)→Prop
 | nil:Toks [] []
 | gap {c u K} : gap c=true→Toks u K→Toks (c :: u) K
 | tok {t u K} : IsTok t→Ends t u→Toks u K→Toks (t ++ u) (t :: K)
inductive Spread:List UInt8→List UInt8→Prop
 | nil:Spread [] []
 | byte {c u v} : gap c=false→Spread u v→Spread (c :: u) (c :: v)
 | gap {c g u v} : gap c=true→g≠[]→(∀ x∈g,gap x=true)→Spread u v→Spread (c :: u) (g ++ v)
theorem Spread.refl : ∀ u,Spread u u
 | []=>.nil
 | c :: u=>by
  cases h:Tree.gap c with
  | false=>exact .byte h (Spread.refl u)
  | true=>exact Spread.gap (g:=[c]) h (by simp) (by simpa using h) (Spread.refl u)
theorem letter_val {c:UInt8} (h : letter c=true) : 97≤c.toNat∧c.toNat≤122:=by simpa [letter] using h
theorem digit_val {c:UInt8} (h : digit c=true) : 48≤c.toNat∧c.toNat≤57:=by simpa [digit] using h
theorem tok_ne {t:List UInt8} (h:IsTok t) : t≠[]:=by
 rcases h with ⟨c,r,rfl,_,_⟩ | ⟨c,r,rfl,_,_⟩ | h
 ·simp
 ·simp
 ·revert h; revert t; decide
theorem letter_not_digit {c:UInt8} (h : digit c=true) : letter c=false:=by
 cases hl : letter c with
 | false=>rfl
 | true=>have:=letter_val hl; have:=digit_val h; omega
theorem kind_word {t:List UInt8} (h:IsWord t) : kindT t = .word:=by
 obtain ⟨c,r,rfl,hc,_⟩:=h; simp [kindT,hc]
theorem kind_num {t:List UInt8} (h:IsNum t) : kindT t = .number:=by
 obtain ⟨c,r,rfl,hc,_⟩:=h; simp [kindT,hc,letter_not_digit hc]
theorem kind_mark : ∀ t∈marks,kindT t = .mark:=by decide
theorem howN_take {f:UInt8→Bool} : ∀ (l:List UInt8),(∀ x∈l.take (howN f l),f x=true)∧howN f l≤l.length
 | []=>by simp [howN]
 | c :: t=>by
  have h:=howN_take (f:=f) t
  cases hc : f c with
  | false=>simp [howN,hc]
  | true=>
   simp only [howN,hc,if_true,List.take_succ_cons,List.length_cons]
   exact ⟨fun x hx=>(List.mem_cons.mp hx).elim (fun e=>e ▸ hc) (h.1 x),by omega⟩
theorem next_istok {l:List UInt8} (h : (nextK l).2≠0):IsTok (l.take (nextK l).2)∧kindT (l.take (nextK l).2)=(nextK l).1∧(nextK l).2≤l.length:=by
 cases l with
 | nil=>simp [nextK] at h
 | cons c t=>
  rw [nextK] at h ⊢
  by_cases hl : letter c=true
  ·rw [if_pos hl] at h ⊢
   have hh:=howN_take (f:=fun c=>letter c || digit c) (c :: t)
   have he : howN (fun c=>letter c || digit c) (c :: t)=howN (fun c=>letter c || digit c) t + 1:=by simp [howN,hl]
   simp only [he,List.take_succ_cons] at hh ⊢
   have hw:IsWord (c :: t.take (howN (fun c=>letter c || digit c) t)):=⟨c,_,rfl,hl,fun x hx=>by simpa [wordy] using hh.1 x (by simp [hx])⟩
   exact ⟨.inl hw,kind_word hw,hh.2⟩
  ·rw [if_neg hl] at h ⊢
   by_cases hd : digit c=true
   ·rw [if_pos hd] at h ⊢
    have hh:=howN_take (f:=digit) (c :: t)
    have he : howN digit (c :: t)=howN digit t + 1:=by simp [howN,hd]
    simp only [he,List.take_succ_cons] at hh ⊢
    have hw:IsNum (c :: t.take (howN digit t)):=⟨c,_,rfl,hd,fun x hx=>hh.1 x (by simp [hx])⟩
    exact ⟨.inr (.inl hw),kind_num hw,hh.2⟩
   ·rw [if_neg hd] at h ⊢
    cases hf : marks.find? fun m=>m.isPrefixOf (c :: t) with
    | none=>simp [hf] at h
    | some m=>
     have h1:=List.mem_of_find?_eq_some hf
     have h2:=List.find?_some hf
     obtain ⟨v,hv⟩:=List.isPrefixOf_iff_prefix.mp h2
     simp only [Option.map_some,Option.getD_some]
     rw [← hv]
     simp only [List.take_left,List.length_append]
     exact ⟨.inr (.inr h1),kind_mark m h1,by omega⟩
def bytes (ts:List Tok):Nat:=(ts.map fun t=>t.text.length).sum
def Good (ts:List Tok):Prop:=∀ t∈ts,IsTok t.text∧t.kind=kindT t.text
theorem lexL_good : ∀ (f i k:Nat) (l:List UInt8) (ts:List Tok),lexL f i k l = .ok ts→Good ts∧bytes ts≤l.length
 | 0,_,_,l,ts,h=>by cases h; exact ⟨fun _ h=>by simp at h,by simp [bytes]⟩
 | f + 1,i,k,[],ts,h=>by cases h; exact ⟨fun _ h=>by simp at h,by simp [bytes]⟩
 | f + 1,i,k,c :: t,ts,h=>by
  rw [lexL] at h
  split at h
  ·have:=lexL_good f _ _ _ _ h
   exact ⟨this.1,by simp only [List.length_cons]; omega⟩
  ·split at h
   ·cases h
   ·rename_i hn
    split at h
    ·cases h
    ·split at h
     ·rename_i ts' hts
      cases h
      have h1:=lexL_good f _ _ _ _ hts
      have h2:=next_istok hn
      refine ⟨?_,?_⟩
      ·intro x hx
       rcases List.mem_cons.mp hx with rfl | hx
       ·exact ⟨h2.1,h2.2.1.symm⟩
       ·exact h1.1 x hx
      ·have h3:=h1.2
       have h4 : ((c :: t).take (nextK (c :: t)).2).length=(nextK (c :: t)).2:=by rw [List.length_take]; exact Nat.min_eq_left h2.2.2
       rw [List.length_drop] at h3
       simp only [bytes,List.map_cons,List.sum_cons,h4] at h3 ⊢
       have:=h2.2.2
       omega
     ·cases h
end Go.Mq.Tree
namespace Go.Mq.Tree
open Go Go.RowKit Go.Mq
def Nm (n:List UInt8):Prop:=IsWord n∧kept n=false∧n.length≤10
def Qm (m:List UInt8):Prop:=m=[]∨Nm m
def E.isX:E→Prop
 | .nil=>False
 | .cons _ _=>False
 | _=>True
def E.isL:E→Prop
 | .nil=>True
 | .cons _ _=>True
 | _=>False
def WF:E→Prop
 | .num _ n=>0≤n∧n≤9223372036854775807
 | .var _ m n=>Qm m∧Nm n
 | .item _ m n i=>Qm m∧Nm n∧WF i∧i.isX
 | .un _ op x=>(op=[45]∨op=[110,111,116])∧WF x∧x.isX
 | .bin _ op x y=>(∃ k,k < 5∧op∈levels.getD (4 - k) [])∧(WF x∧x.isX)∧WF y∧y.isX
 | .app _ m n l=>Qm m∧Nm n∧WF l∧l.isL
 | .nil=>True
 | .cons x r=>(WF x∧x.isX)∧WF r∧r.isL
def needW (lv:Nat) (x:E) (k:Nat):Nat:=if lv≤lvl x then k else k + 1
def need:E→Nat
 | .num _ _=>1
 | .var _ _ _=>1
 | .item _ _ _ i=>need i + 1
 | .un _ _ x=>needW 5 x (need x) + 1
 | .bin _ op x y=>max (needW (opLevel op) x (need x)) (needW (opLevel op + 1) y (need y))
 | .app _ _ _ l=>need l + 1
 | .nil=>0
 | .cons x r=>max (need x) (need r)
def withinK (lv:Nat) (x:E) (K:List (List UInt8)):List (List UInt8):=if lv≤lvl x then K else [40] :: (K ++ [[41]])
def qualK (m n:List UInt8):List (List UInt8):=if m=[] then [n] else [m,[46],n]
def toks:E→List (List UInt8)
 | .num _ n=>[Lib.itoa n]
 | .var _ m n=>qualK m n
 | .item _ m n i=>qualK m n ++ [91] :: (toks i ++ [[93]])
 | .un _ op x=>op :: withinK 5 x (toks x)
 | .bin _ op x y=>withinK (opLevel op) x (toks x) ++ op :: withinK (opLevel op + 1) y (toks y)
 | .app _ m n l=>qualK m n ++ [40] :: (toks l ++ [[41]])
 | .nil=>[]
 | .cons x .nil=>toks x
 | .cons x r=>toks x ++ [44] :: toks r
def E.cost:E→Nat
 | .cons x r=>(toks x).length + 1 + r.cost
 | _=>0
def Sp {α:Type} (p:Ps α) (Q : α→Prop) (c : α→Nat):Prop:=∀ ts a r,Good ts→p ts = .ok a r→Q a∧c a + bytes r≤bytes ts∧Good r
theorem bytes_cons (t:Tok) (r:List Tok) : bytes (t :: r)=t.text.length + bytes r:=by simp [bytes]
theorem good_cons {t:Tok} {r:List Tok} (h:Good (t :: r)) : (IsTok t.text∧t.kind=kindT t.text)∧Good r:=⟨h t (by simp),fun x hx=>h x (by simp [hx])⟩
theorem len_pos {t:List UInt8} (h:IsTok t) : 1≤t.length:=by
 cases t with
 | nil=>exact absurd rfl (tok_ne h)
 | cons _ _=>simp
theorem see_cost {s:List UInt8} {ts:List Tok} (hg:Good ts) (h : see s ts=true) : s.length + bytes ts.tail=bytes ts∧Good ts.tail:=by
 cases ts with
 | nil=>simp [see] at h
 | cons t r=>
  have : t.text=s:=by simpa [see] using h
  exact ⟨by rw [bytes_cons,this]; rfl,(good_cons hg).2⟩
theorem must_sp {z:Nat} {s:List UInt8} {ts:List Tok} {u:Unit} {r:List Tok} (hg:Good ts) (h : must z s ts = .ok u r) : s.length + bytes r=bytes ts∧Good r:=by
 rw [must] at h
 split at h
 ·rename_i hs; cases h; exact see_cost hg hs
 ·cases h
theorem name_sp {z:Nat} : Sp (name z) Nm (fun _=>1):=by
 intro ts n r hg h
 cases ts with
 | nil=>cases h
 | cons t ts=>
  rw [name] at h
  split at h
  ·cases h
  ·rename_i h1
   split at h
   ·cases h
   ·rename_i h2
    cases h
    have hg:=good_cons hg
    have hk : kindT t.text = .word:=by rw [← hg.1.2]; exact Classical.not_not.mp fun h=>h1 (.inl h)
    refine ⟨⟨?_,by simpa using fun h=>h1 (.inr h),by omega⟩,by show 1 + _≤_; rw [bytes_cons]; have:=len_pos hg.1.1; omega,hg.2⟩
    rcases hg.1.1 with h | h | h
    ·exact h
    ·rw [kind_num h] at hk; cases hk
    ·rw [kind_mark _ h] at hk; cases hk
theorem number_sp {z:Nat} {most:Int} : Sp (number z most) (fun n=>0≤n∧n≤most) (fun _=>1):=by
 intro ts n r hg h
 cases ts with
 | nil=>cases h
 | cons t ts=>
  rw [number] at h
  split at h
  ·cases h
  ·rename_i h1
   have hg:=good_cons hg
   have hk : kindT t.text = .number:=by rw [← hg.1.2]; exact Classical.not_not.mp h1
   have hn:IsNum t.text:=by
    rcases hg.1.1 with h | h | h
    ·rw [kind_word h] at hk; cases hk
    ·exact h
    ·rw [kind_mark _ h] at hk; cases hk
   split at h
   ·rename_i n' hp
    split at h
    ·cases h
    ·rename_i h2
     cases h
     refine ⟨⟨?_,by omega⟩,by show 1 + _≤_; rw [bytes_cons]; have:=len_pos hg.1.1; omega,hg.2⟩
     obtain ⟨c,r,hc,hd,_⟩:=hn
     rw [hc] at hp
     have hd:=digit_val hd
     have e : (c.toNat=45)=False:=by simp; omega
     unfold Lib.parseIntB at hp
     simp only [e,not_false_eq_true,true_and,false_and,if_false] at hp
     split at hp
     ·cases hp
     ·cases hp
     ·split at hp
      ·cases hp
      ·injection hp with hp; omega
   ·cases h
theorem namesL_sp {z most:Nat} : ∀ (f:Nat) (l:List (List UInt8)) (ts:List Tok) (l':List (List UInt8)) (r:List Tok),Good ts→(∀ n∈l,Nm n)→l.length≤most→namesL z most f l ts = .ok l' r →
  (∀ n∈l',Nm n)∧l'.length≤most∧l.length < l'.length∧2 * l'.length + bytes r≤2 * l.length + bytes ts + 1∧Good r
 | 0,_,_,_,_,_,_,_,h=>by cases h
 | f + 1,l,ts,l',r,hg,hl,hm,h=>by
  rw [namesL] at h
  split at h
  ·cases h
  ·cases hn : name z ts with
   | bad e p=>simp only [hn] at h; cases h
   | ok n r1=>
    obtain ⟨h1,h2,h3⟩:=name_sp _ _ _ hg hn
    replace h2 : 1 + bytes r1≤bytes ts:=h2
    have hl2 : ∀ x∈l ++ [n],Nm x:=by
     intro x hx
     rcases List.mem_append.mp hx with hx | hx
     ·exact hl x hx
     ·simp at hx; subst hx; exact h1
    simp only [hn] at h
    split at h
    ·rename_i hs
     have hc:=see_cost h3 hs
     have hr:=namesL_sp f _ _ _ _ hc.2 hl2 (by simp; omega) h
     simp only [List.length_append,List.length_cons,List.length_nil] at hr hc
     exact ⟨hr.1,hr.2.1,by omega,by omega,hr.2.2.2.2⟩
    ·cases h
     exact ⟨hl2,by simp; omega,by simp,by simp; omega,h3⟩
theorem names_sp {z most:Nat} {ts:List Tok} {l:List (List UInt8)} {r:List Tok} (hg:Good ts) (h : names z most ts = .ok l r) : (∀ n∈l,Nm n)∧l.length≤most∧l≠[]∧2 * l.length + bytes r≤bytes ts + 1∧Good r:=by
 have:=namesL_sp _ _ _ _ _ hg (by simp) (by simp) h
 simp only [List.length_nil] at this
 exact ⟨this.1,this.2.1,fun h=>by rw [h] at this; simp at this,by omega,this.2.2.2.2⟩
theorem qual_sp {z:Nat} : Sp (qual z) (fun q=>Qm q.1∧Nm q.2) (fun q=>(qualK q.1 q.2).length):=by
 intro ts q r hg h
 rw [qual] at h
 cases h1 : name z ts with
 | bad e p=>simp only [h1] at h; cases h
 | ok n r1=>
  obtain ⟨a1,a2,a3⟩:=name_sp _ _ _ hg h1
  replace a2 : 1 + bytes r1≤bytes ts:=a2
  simp only [h1] at h
  split at h
  ·rename_i hs
   have hc:=see_cost a3 hs
   cases h2 : name z r1.tail with
   | bad e p=>simp only [h2] at h; cases h
   | ok n2 r2=>
    obtain ⟨b1,b2,b3⟩:=name_sp _ _ _ hc.2 h2
    replace b2 : 1 + bytes r2≤bytes r1.tail:=b2
    simp only [h2] at h
    cases h
    refine ⟨⟨.inr a1,b1⟩,?_,b3⟩
    have : (qualK n n2).length≤3:=by rw [qualK]; split <;> simp
    simp only [List.length_cons,List.length_nil] at hc
    simp only
    omega
  ·cases h
   exact ⟨⟨.inl rfl,a1⟩,by simp [qualK]; omega,a3⟩
theorem op_level : ∀ k < 5,∀ op∈levels.getD (4 - k) [],opLevel op=4 - k:=by decide
theorem within_len (lv:Nat) (x:E) (K:List (List UInt8)) : (withinK lv x K).length≤K.length + 2:=by rw [withinK]; split <;> simp
theorem within_mono {a b:Nat} (h : a≤b) (x:E) (K:List (List UInt8)) : (withinK a x K).length≤(withinK b x K).length:=by
 rw [withinK,withinK]; split <;> split <;> simp <;> omega
theorem needW_mono {a b:Nat} (h : a≤b) (x:E) (k:Nat) : needW a x k≤needW b x k:=by
 rw [needW,needW]; split <;> split <;> omega
def Fits (d lv:Nat) (x:E):Prop:=(WF x∧x.isX)∧needW lv x (need x)≤d
def costW (lv:Nat) (x:E):Nat:=(withinK lv x (toks x)).length
theorem op_cost {lv:List (List UInt8)} {ts:List Tok} {m:List UInt8} (hg:Good ts) (h : opOf lv ts=some m) : m∈lv∧1 + bytes ts.tail≤bytes ts∧Good ts.tail:=by
 have h1:=List.mem_of_find?_eq_some h
 have h2:=List.find?_some h
 have h3:=see_cost hg h2
 refine ⟨h1,?_,h3.2⟩
 cases ts with
 | nil=>simp [see] at h2
 | cons t r=>rw [bytes_cons]; have:=len_pos (good_cons hg).1.1; simp; omega
theorem binL_sp {sub:Ps E} {k d:Nat} (p:Nat) (hk : k < 5) (hs:Sp sub (Fits d (5 - k)) (costW (5 - k))) : ∀ (f:Nat) (x:E) (ts:List Tok) (a:E) (r:List Tok),Good ts→Fits d (4 - k) x→binL sub (levels.getD (4 - k) []) p f x ts = .ok a r →
  Fits d (4 - k) a∧costW (4 - k) a + bytes r≤costW (4 - k) x + bytes ts∧Good r
 | 0,_,_,_,_,_,_,h=>by cases h
 | f + 1,x,ts,a,r,hg,hx,h=>by
  rw [binL] at h
  split at h
  ·cases h; exact ⟨hx,Nat.le_refl _,hg⟩
  ·rename_i m hm
   obtain ⟨o1,o2,o3⟩:=op_cost hg hm
   cases hy : sub ts.tail with
   | bad e q=>simp only [hy] at h; cases h
   | ok y r1=>
    obtain ⟨y1,y2,y3⟩:=hs _ _ _ o3 hy
    simp only [hy] at h
    have hlv:=op_level k hk m o1
    have e5 : 5 - k=4 - k + 1:=by omega
    rw [e5] at y1 y2
    have hb:Fits d (4 - k) (.bin p m x y):=by
     refine ⟨⟨⟨⟨k,hk,o1⟩,hx.1,y1.1⟩,trivial⟩,?_⟩
     have h1:=hx.2; have h2:=y1.2
     rw [needW,if_pos (by rw [lvl,hlv]; exact Nat.le_refl _),need,hlv]
     omega
    obtain ⟨b1,b2,b3⟩:=binL_sp p hk hs f _ _ _ _ y3 hb h
    have hc : costW (4 - k) (.bin p m x y)=costW (4 - k) x + 1 + costW (4 - k + 1) y:=by
     rw [costW,withinK,if_pos (by rw [lvl,hlv]; exact Nat.le_refl _),toks,hlv,List.length_append,List.length_cons,costW,costW]; omega
    exact ⟨b1,by omega,b3⟩
theorem expr_sp {z d:Nat} {base:Ps E} (hb:Sp base (Fits d 5) (costW 5)) : ∀ (k:Nat),k≤5→Sp (expr z base k) (Fits d (5 - k)) (costW (5 - k))
 | 0,_=>hb
 | k + 1,hk=>by
  intro ts a r hg h
  have ih:=expr_sp (z:=z) hb k (by omega)
  rw [expr] at h
  cases hx : expr z base k ts with
  | bad e q=>simp only [hx] at h; cases h
  | ok x r1=>
   obtain ⟨x1,x2,x3⟩:=ih _ _ _ hg hx
   simp only [hx] at h
   have e4 : 5 - (k + 1)=4 - k:=by omega
   rw [e4]
   have hx':Fits d (4 - k) x:=⟨x1.1,Nat.le_trans (needW_mono (by omega) _ _) x1.2⟩
   obtain ⟨b1,b2,b3⟩:=binL_sp _ (by omega) ih _ _ _ _ _ x3 hx' h
   have : costW (4 - k) x≤costW (5 - k) x:=within_mono (by omega) _ _
   exact ⟨b1,by omega,b3⟩
theorem ofList_isL : ∀ l,(E.ofList l).isL
 | []=>trivial
 | _ :: _=>trivial
theorem toks_cost : ∀ (x:E) (l:List E),(toks (E.ofList (x :: l))).length + 1=(E.ofList (x :: l)).cost
 | x,[]=>by simp [E.ofList,toks,E.cost]
 | x,y :: r=>by
  have:=toks_cost y r
  simp only [E.ofList] at this ⊢
  rw [toks,E.cost]
  ·simp only [List.length_append,List.length_cons]; omega
  ·intro h; cases h
theorem cost_append : ∀ (l:List E) (x:E),(E.ofList (l ++ [x])).cost=(E.ofList l).cost + (toks x).length + 1
 | [],x=>by simp [E.ofList,E.cost]
 | y :: l,x=>by simp only [List.cons_append,E.ofList,E.cost,cost_append l x]; omega
theorem args_sp {z d:Nat} {ex:Ps E} (he:Sp ex (Fits d 0) (costW 0)) : ∀ (f:Nat) (first:Bool) (l:List E) (ts:List Tok) (l':List E) (r:List Tok),Good ts→(∀ x∈l,Fits d 0 x)→argsL z ex f first l ts = .ok l' r →
  (∀ x∈l',Fits d 0 x)∧((l'=l∧1 + bytes r=bytes ts)∨(l'≠[]∧(E.ofList l').cost + 1 + bytes r≤(E.ofList l).cost + bytes ts + (if first then 1 else 0)))∧Good r
 | 0,_,_,_,_,_,_,_,h=>by cases h
 | f + 1,first,l,ts,l',r,hg,hl,h=>by
  rw [argsL] at h
  split at h
  ·rename_i hs
   cases h
   have:=see_cost hg hs
   exact ⟨hl,.inl ⟨rfl,by simpa using this.1⟩,this.2⟩
  ·split at h
   ·cases h
   ·rename_i h2
    have h3 : (Good (if first then ts else ts.tail))∧bytes (if first then ts else ts.tail) + (if first then 0 else 1)=bytes ts:=by
     cases first with
     | true=>exact ⟨hg,rfl⟩
     | false=>
      have hs : see [44] ts=true:=by simpa using h2
      have:=see_cost hg hs
      exact ⟨this.2,by simp only [List.length_cons,List.length_nil] at this; simp; omega⟩
    cases hx : ex (if first then ts else ts.tail) with
    | bad e q=>simp only [hx] at h; cases h
    | ok x r1=>
     obtain ⟨x1,x2,x3⟩:=he _ _ _ h3.1 hx
     simp only [hx] at h
     have hl2 : ∀ y∈l ++ [x],Fits d 0 y:=by
      intro y hy
      rcases List.mem_append.mp hy with hy | hy
      ·exact hl y hy
      ·simp at hy; subst hy; exact x1
     obtain ⟨b1,b2,b3⟩:=args_sp he f false _ _ _ _ x3 hl2 h
     have : costW 0 x=(toks x).length:=by rw [costW,withinK,if_pos (Nat.zero_le _)]
     refine ⟨b1,.inr ?_,b3⟩
     have hca:=cost_append l x
     rcases b2 with ⟨rfl,b2⟩ | ⟨n2,b2⟩
     ·refine ⟨by simp,?_⟩
      rw [hca]
      cases first <;> simp at * <;> omega
     ·refine ⟨n2,?_⟩
      rw [hca] at b2
      cases first <;> simp at * <;> omega
theorem list_fits {d:Nat} : ∀ l:List E,(∀ x∈l,Fits d 0 x)→WF (E.ofList l)∧need (E.ofList l)≤d
 | [],_=>⟨trivial,Nat.zero_le _⟩
 | x :: l,h=>by
  have h1:=h x (by simp)
  have h2:=list_fits l fun y hy=>h y (by simp [hy])
  have h3:=h1.2
  rw [needW,if_pos (Nat.zero_le _)] at h3
  exact ⟨⟨h1.1,h2.1,ofList_isL l⟩,by rw [E.ofList,need]; omega⟩
theorem fits_top {d:Nat} {x:E} (h:WF x∧x.isX) (hl : lvl x=5) (hn : need x≤d):Fits d 5 x∧costW 5 x=(toks x).length:=by
 refine ⟨⟨h,?_⟩,?_⟩
 ·rw [needW,if_pos (by omega)]; exact hn
 ·rw [costW,withinK,if_pos (by omega)]
theorem fits0 {d:Nat} {x:E} (h:Fits d 0 x) : need x≤d∧costW 0 x=(toks x).length:=by
 have:=h.2
 rw [needW,if_pos (Nat.zero_le _)] at this
 exact ⟨this,by rw [costW,withinK,if_pos (Nat.zero_le _)]⟩
theorem named_sp {z d:Nat} {ex:Ps E} (he:Sp ex (Fits d 0) (costW 0)):Sp (named z ex) (Fits (d + 1) 5) (costW 5):=by
 intro ts a r hg h
 rw [named] at h
 cases hq : qual z ts with
 | bad e p=>simp only [hq] at h; cases h
 | ok q r1=>
  obtain ⟨q1,q2,q3⟩:=qual_sp _ _ _ hg hq
  replace q2 : (qualK q.1 q.2).length + bytes r1≤bytes ts:=q2
  simp only [hq] at h
  split at h
  ·rename_i hs
   have hc:=see_cost q3 hs
   cases hx : ex r1.tail with
   | bad e p=>simp only [hx] at h; cases h
   | ok i r2=>
    obtain ⟨x1,x2,x3⟩:=he _ _ _ hc.2 hx
    simp only [hx] at h
    cases hm : must z [93] r2 with
    | bad e p=>simp only [hm] at h; cases h
    | ok u r3=>
     have m1:=must_sp x3 hm
     simp only [hm] at h
     cases h
     have ⟨n1,c1⟩:=fits0 x1
     obtain ⟨f1,f2⟩:=fits_top (d:=d + 1) (x:=.item (hd z ts) q.1 q.2 i) ⟨⟨q1.1,q1.2,x1.1⟩,trivial⟩ rfl (by rw [need]; omega)
     refine ⟨f1,?_,m1.2⟩
     rw [f2,toks]
     simp only [List.length_append,List.length_cons,List.length_nil] at *
     omega
  ·split at h
   ·rename_i hs
    have hc:=see_cost q3 hs
    cases hx : argsL z ex (r1.length + 1) true [] r1.tail with
    | bad e p=>simp only [hx] at h; cases h
    | ok l r2=>
     obtain ⟨x1,x2,x3⟩:=args_sp he _ _ _ _ _ _ hc.2 (by simp) hx
     simp only [hx] at h
     cases h
     have ⟨n1,n2⟩:=list_fits l x1
     have n3 : (toks (E.ofList l)).length + 1 + bytes r≤bytes r1.tail:=by
      rcases x2 with ⟨rfl,x2⟩ | ⟨x2,x3⟩
      ·simp [E.ofList,toks]; omega
      ·cases l with
       | nil=>exact absurd rfl x2
       | cons y l=>have:=toks_cost y l; simp only [E.ofList,E.cost,if_true] at *; omega
     obtain ⟨f1,f2⟩:=fits_top (d:=d + 1) (x:=.app (hd z ts) q.1 q.2 (E.ofList l)) ⟨⟨q1.1,q1.2,n1,ofList_isL l⟩,trivial⟩ rfl (by rw [need]; omega)
     refine ⟨f1,?_,x3⟩
     rw [f2,toks]
     simp only [List.length_append,List.length_cons,List.length_nil] at *
     omega
   ·cases h
    obtain ⟨f1,f2⟩:=fits_top (d:=d + 1) (x:=.var (hd z ts) q.1 q.2) ⟨⟨q1.1,q1.2⟩,trivial⟩ rfl (by rw [need]; omega)
    exact ⟨f1,by rw [f2,toks]; exact q2,q3⟩
theorem one_sp (z:Nat) : ∀ d,Sp (one z d) (Fits d 5) (costW 5)
 | 0=>by intro ts a r _ h; cases h
 | d + 1=>by
  intro ts a r hg h
  have ih:=one_sp z d
  have hex:Sp (expr z (one z d) 5) (Fits d 0) (costW 0):=expr_sp ih 5 (Nat.le_refl _)
  have un : ∀ (s:List UInt8),(s=[45]∨s=[110,111,116])→see s ts=true→(match one z d ts.tail with | .bad e p=>R.bad e p | .ok x r=>.ok (.un (hd z ts) s x) r)=R.ok a r→Fits (d + 1) 5 a∧costW 5 a + bytes r≤bytes ts∧Good r:=by
   intro s hs h1 h
   have hc:=see_cost hg h1
   have hl : 1≤s.length:=by rcases hs with rfl | rfl <;> simp
   cases hx : one z d ts.tail with
   | bad e p=>simp only [hx] at h; cases h
   | ok x r1=>
    obtain ⟨x1,x2,x3⟩:=ih _ _ _ hc.2 hx
    simp only [hx] at h
    cases h
    obtain ⟨f1,f2⟩:=fits_top (d:=d + 1) (x:=.un (hd z ts) s x) ⟨⟨hs,x1.1⟩,trivial⟩ rfl (by rw [need]; have:=x1.2; omega)
    refine ⟨f1,?_,x3⟩
    rw [f2,toks,List.length_cons]
    rw [costW] at x2
    omega
  rw [one] at h
  dsimp only at h
  split at h
  ·rename_i h1; exact un _ (.inl rfl) h1 h
  ·split at h
   ·rename_i h1; exact un _ (.inr rfl) h1 h
   ·split at h
    ·rename_i h1
     have hc:=see_cost hg h1
     cases hx : expr z (one z d) 5 ts.tail with
     | bad e p=>simp only [hx] at h; cases h
     | ok x r1=>
      obtain ⟨x1,x2,x3⟩:=hex _ _ _ hc.2 hx
      simp only [hx] at h
      cases hm : must z [41] r1 with
      | bad e p=>simp only [hm] at h; cases h
      | ok u r2=>
       have m1:=must_sp x3 hm
       simp only [hm] at h
       cases h
       have ⟨n1,c1⟩:=fits0 x1
       refine ⟨⟨x1.1,?_⟩,?_,m1.2⟩
       ·rw [needW]; split <;> omega
       ·have:=within_len 5 a (toks a)
        rw [costW]
        simp only [List.length_cons,List.length_nil] at *
        omega
    ·cases ts with
     | nil=>exact named_sp hex _ _ _ hg h
     | cons t ts=>
      simp only at h
      split at h
      ·rename_i hk
       cases hn : number z 9223372036854775807 (t :: ts) with
       | bad e p=>simp only [hn] at h; cases h
       | ok n r1=>
        obtain ⟨a1,a2,a3⟩:=number_sp _ _ _ hg hn
        simp only [hn] at h
        cases h
        obtain ⟨f1,f2⟩:=fits_top (d:=d + 1) (x:=.num t.pos n) ⟨a1,trivial⟩ rfl (by rw [need]; omega)
        exact ⟨f1,by rw [f2,toks]; exact a2,a3⟩
      ·exact named_sp hex _ _ _ hg h
theorem ex0_sp (z:Nat):Sp (ex0 z) (Fits 11 0) (costW 0):=expr_sp (one_sp z 11) 5 (Nat.le_refl _)
end Go.Mq.Tree
