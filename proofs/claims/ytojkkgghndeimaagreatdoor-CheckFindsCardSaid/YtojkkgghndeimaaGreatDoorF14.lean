/- Some texts in one. -/
import Derived.Defers
import Derived.Recover
import Derived.Test.YtojkkgghndeimaaGreatDoorF1
import Derived.Test.YtojkkgghndeimaaGreatDoorF11
namespace Go.Mq.Tree
open Go Go.RowKit Go.Mq
theorem framed_Globs (l:List Glob) (v:Value):Framed (fun w F=>GlobsAt w F l v):=⟨fun hF h=>h.mono hF,fun hc hS h=>h.kept hc hS⟩
theorem framed_Procs (l:List Proc) (v:Value):Framed (fun w F=>ProcsAt w F l v):=⟨fun hF h=>h.mono hF,fun hc hS h=>h.kept hc hS⟩
theorem framed_Pr (x:Proc) (cs:List Value):Framed (fun w F=>PrAt w F x cs):=⟨fun hF h=>h.mono hF,fun hc hS h=>h.kept hc hS⟩
theorem set5 {w:World} {b:Nat} (v0 v1 v2 v3 v4:Value) {u0 u1 u2 u3 u4:Value} {t:TypeId} (h:Blk w b #[u0,u1,u2,u3,u4] t) : ∃ wF,(((((w.setCell ⟨b,0,none⟩ v0).setCell ⟨b,1,none⟩ v1).setCell ⟨b,2,none⟩ v2).setCell ⟨b,3,none⟩ v3).setCell ⟨b,4,none⟩ v4)=wF∧Chg [b] w wF∧Blk wF b #[v0,v1,v2,v3,v4] t:=
 ⟨_,rfl,((((Chg.set1 _ _ _ _).then (Chg.set1 _ _ _ _)).then (Chg.set1 _ _ _ _)).then (Chg.set1 _ _ _ _)).then (Chg.set1 _ _ _ _),by
  have:=((((h.set 0 v0).set 1 v1).set 2 v2).set 3 v3).set 4 v4
  simpa using this⟩
end Go.Mq.Tree
namespace Go.Proofs.YtojkkgghndeimaaGreatDoor
open Go Go.RowKit Go.Mq Go.Mq.Tree
set_option maxRecDepth 100000
set_option maxHeartbeats 16000000
theorem infoProc : (Tryz.prog.info? 87).map (fun i=>(i.zero,i.size,i.bytes))=some (some (.agg #[.string ⟨#[]⟩,.int .i64 0,.bool false,.slice none 0 0,.slice none 0 0,.slice none 0 0]),6,104):=by kernel_rfl
theorem module_any (w:World) (B bp bt z:Nat) (ts:List Tok) (h:Par w B bp bt z ts):Calls Tryz.prog 50 #[ptr bp] w (Ended w B bp bt z (module_ z ts) (fun w' m v=>ModAt w' (New w w') m v)):=by
 have hbp:=h.bp_lt
 have hbt:=h.bt_lt
 have hB0:=h.laid.le
 have hBp:=h.bpB
 have hw1 : (w.alloc (.cells #[str [],nils,nils,nils,nils] 31)).heap.size=w.heap.size + 1:=by simp
 obtain ⟨w0,hw0⟩ : ∃ w0,w0=(w.alloc (.cells #[str [],nils,nils,nils,nils] 31)).alloc (.cells #[str [],nils,nils,nils,nils] 31):=⟨_,rfl⟩
 have hb0:=Blk.new (w.alloc (.cells #[str [],nils,nils,nils,nils] 31)) #[str [],nils,nils,nils,nils] 31
 rw [hw1,← hw0] at hb0
 have H0:Hid (Mk 31 w w0 B bp bt z ts #[str [],nils,nils,nils,nils] #[str [],nils,nils,nils,nils] (fun _ _=>True)):=Lib.hid (by
  refine ⟨framed_true,hbp,hbt,?_,?_,hb0,?_,?_,trivial⟩
  ·rw [hw0]; exact ((Chg.refl _ _).alloc _).alloc _
  ·rw [hw0]; exact h.kept (((Chg.refl [] w).alloc _).alloc _) (by simp) (by simp) (by simp)
  ·rw [hw0]; exact (Blk.new w _ 31).kept ((Chg.refl [] _).alloc _) (by simp)
  ·rw [hw0]; simp)
 clear h hb0 hw1
 go_enter Tryz.func50,Tryz.ntmps50
 go_wp2_with fail
 change Calls _ _ _ ((w.alloc (.cells #[str [],nils,nils,nils,nils] 31)).alloc (.cells #[str [],nils,nils,nils,nils] 31)) _
 rw [← hw0]
 clear hw0
 have K:=Lib.hid (must_any [109,111,100,117,108,101] _ _ _ _ _ ts H0.out.par)
 go_wp2_with fail
 refine K.out.mono ?_; intro e w1 he
 rcases he.cut with ⟨en,q,b9,rfl,hx,HE⟩ | ⟨_,r1,_,rfl,X1,rfl,hc,hp⟩
 ·go_wp2_with fail; exact ⟨rfl,HE.out _ _ _ H0.out.chg (by simp only [module_,hx.out])⟩
 have H1:=Lib.hid (H0.out.step hc hp); clear hc hp K he
 have K:=Lib.hid (name_any _ _ _ _ _ _ H1.out.par)
 go_wp2_with fail
 refine K.out.mono ?_; intro e w2 he
 rcases he.cut with ⟨en,q,b9,rfl,hx,HE⟩ | ⟨n,r2,_,rfl,X2,rfl,hc,hp⟩
 ·go_wp2_with fail; exact ⟨rfl,HE.out _ _ _ H1.out.chg (by simp only [module_,X1.out,hx.out])⟩
 have H2:=Lib.hid (H1.out.step hc hp); clear hc hp K he
 obtain ⟨e0,_⟩:=H2.out.blk.five; obtain ⟨f0,_⟩:=H2.out.blk.free6
 obtain ⟨w2b,hw⟩ : ∃ x,x=w2.setCell ⟨w.heap.size + 1,0,none⟩ (str n):=⟨_,rfl⟩
 have H2b:=Lib.hid (H2.out.store 0 (str n))
 simp only [Array.setIfInBounds] at H2b
 rw [← hw] at H2b
 have K:=Lib.hid (must_any [59] _ _ _ _ _ _ H2b.out.par)
 go_wp2_with fail
 rw [← hw]
 refine K.out.mono ?_; intro e w3 he
 rcases he.cut with ⟨en,q,b9,rfl,hx,HE⟩ | ⟨_,r3,_,rfl,X3,rfl,hc,hp⟩
 ·go_wp2_with fail; exact ⟨rfl,HE.out _ _ _ H2b.out.chg (by simp only [module_,X1.out,X2.out,hx.out])⟩
 have H3:=Lib.hid (H2b.out.step hc hp); clear hc hp K he
 clear e0 f0 hw
 have KT:=Lib.hid (take_any [105,109,112,111,114,116] _ _ _ _ _ _ H3.out.par)
 cases hk : see [105,109,112,111,114,116] r3
 case' true=>
  have HI:=Lib.hid hk
  clear hk
  go_wp2_with fail
  refine KT.out.mono ?_; rintro _ w4 ⟨rfl,hp,hc,_⟩
  rw [HI.out]
  rw [skip,HI.out,if_pos rfl] at hp
  have H4:=Lib.hid (H3.out.step hc hp)
  clear hc hp
  have K:=Lib.hid (names_any 6 (by omega) _ _ _ _ _ _ H4.out.par)
  go_wp2_with fail
  refine K.out.mono ?_; intro e w5 he
  rcases he.cut with ⟨en,q,b9,rfl,hx,HE⟩ | ⟨ims,r5,_,rfl,X5,⟨a3,c3,rfl,hac,hv⟩,hc,hp⟩
  ·go_wp2_with fail; exact ⟨rfl,HE.out _ _ _ H4.out.chg (by simp only [module_,X1.out,X2.out,X3.out,imports,HI.out,if_true,hx.out])⟩
  have H5:=Lib.hid (H4.out.call hc hp (framed_Names ims (.slice a3 ims.length c3)) ⟨_,_,rfl,hac,hv⟩); clear hc hp K he
  clear hac hv
  obtain ⟨_,e1,_⟩:=H5.out.blk.five; obtain ⟨_,f1,_⟩:=H5.out.blk.free6
  obtain ⟨w5b,hw⟩ : ∃ x,x=w5.setCell ⟨w.heap.size + 1,1,none⟩ (.slice a3 ims.length c3):=⟨_,rfl⟩
  have H5b:=Lib.hid (H5.out.store 1 (.slice a3 ims.length c3))
  simp only [Array.setIfInBounds] at H5b
  rw [← hw] at H5b
  have K:=Lib.hid (must_any [59] _ _ _ _ _ _ H5b.out.par)
  go_wp2_with fail
  rw [← hw]
  refine K.out.mono ?_; intro e w6 he
  rcases he.cut with ⟨en,q,b9,rfl,hx,HE⟩ | ⟨_,r6,_,rfl,X6,rfl,hc,hp⟩
  ·go_wp2_with fail; exact ⟨rfl,HE.out _ _ _ H5b.out.chg (by simp only [module_,X1.out,X2.out,X3.out,imports,HI.out,if_true,X5.out,hx.out])⟩
  have H6:=Lib.hid (H5b.out.step hc hp); clear hc hp K he
  have HIM:=Lib.hid (show imports z r3 = .ok ims r6 by simp only [imports,HI.out,if_true,X5.out,X6.out])
  obtain ⟨r4,rfl⟩ : ∃ x,x=r6:=⟨_,rfl⟩
  clear e1 f1 hw HI
 case' false=>
  have HI:=Lib.hid hk
  clear hk
  go_wp2_with fail
  refine KT.out.mono ?_; rintro _ w6 ⟨rfl,_,_,hw⟩
  rw [HI.out]
  have hw':=(hw HI.out).symm; subst hw'; clear hw
  obtain ⟨r4,ims,a3,c3,HIM,H6⟩ : ∃ r4 ims a3 c3,Hid (imports z r3 = .ok ims r4)∧Hid (Mk 31 w w3 B bp bt z r4 #[str [],nils,nils,nils,nils] #[str n,.slice a3 ims.length c3,nils,nils,nils] (fun w F=>True∧NamesAt w F ims (.slice a3 ims.length c3))):=
   ⟨_,[],none,0,Lib.hid (by simp only [imports,HI.out,Bool.false_eq_true,if_false]),Lib.hid (H3.out.add (framed_Names [] nils) NamesAt.nil)⟩
  clear HI
 all_goals
  clear KT
  have K:=Lib.hid (vars_any _ _ _ _ _ _ H6.out.par)
  go_wp2_with fail
  refine K.out.mono ?_; intro e w7 he
  rcases he.cut with ⟨en,q,b9,rfl,hx,HE⟩ | ⟨gs,r7,_,rfl,X7,⟨a7,c7,rfl,hac,hv⟩,hc,hp⟩
  ·go_wp2_with fail; exact ⟨rfl,HE.out _ _ _ H6.out.chg (by simp only [module_,X1.out,X2.out,X3.out,HIM.out,hx.out])⟩
  have H7:=Lib.hid (H6.out.call hc hp (framed_Globs gs (.slice a7 gs.length c7)) ⟨_,_,rfl,hac,hv⟩); clear hc hp K he
  clear hac hv
  obtain ⟨_,_,e2,_⟩:=H7.out.blk.five; obtain ⟨_,_,f2,_⟩:=H7.out.blk.free6
  obtain ⟨w8,hw⟩ : ∃ x,x=w7.setCell ⟨w.heap.size + 1,2,none⟩ (.slice a7 gs.length c7):=⟨_,rfl⟩
  have H8:=Lib.hid (H7.out.store 2 (.slice a7 gs.length c7))
  simp only [Array.setIfInBounds] at H8
  rw [← hw] at H8
  go_wp2_with fail
  rw [← hw]
  clear e2 f2 hw
  go_loopw [] (fun wr=>∃ (f:Nat) (acc:List Proc) (cs:List Value) (l:Value) (ts':List Tok),procsL z 11 [] r7=procsL z f acc ts'∧f + acc.length=11∧acc.length≤10∧Chg [bp,w.heap.size + 1] w8 wr∧Par wr B bp bt z ts' ∧
    Blk wr (w.heap.size + 1) #[str n,.slice a3 ims.length c3,.slice a7 gs.length c7,l,nils] 31∧wr.ownsRow 0 87 6 l acc.length cs∧PrsAt wr (Off w8 wr l) acc cs∧From w8.heap.size l) (fun wr=>11 - lenOf ((wr.cell? ⟨w.heap.size + 1,3,none⟩).getD nilp))
  case atStart=>exact ⟨11,[],[],nils,r7,rfl,rfl,Nat.zero_le _,Chg.refl _ _,H8.out.par,H8.out.blk,World.ownsRow_nil _ _ _ _,rfl,From.nil _⟩
  case round=>
   obtain ⟨f,acc,cs,l,ts',hr,hf,ha,hC,hp,hb,ho,hes,hF⟩:=hrel
   have HR:=Lib.hid hr; have HP:=Lib.hid hp; have HO:=Lib.hid ho; have HES:=Lib.hid hes; have HF:=Lib.hid hF; have HC:=Lib.hid hC; have HB:=Lib.hid hb
   obtain ⟨sa,sc,hs⟩:=slice_of_owns ho
   have hsz:=hC.size
   have hs8:=H8.out.sz
   have hbl:=hb.lt
   have HW:=Lib.hid (show Chg [bp] w wr from H8.out.chg.trans hC (fun x hx=>by simp at hx; rcases hx with rfl | rfl; exact .inl (by simp); exact .inr (by omega)))
   clear hr hp ho hes hF hC hb
   subst hs
   obtain ⟨f,rfl⟩ : ∃ f',f=f' + 1:=⟨f - 1,by omega⟩
   have KSe:=Lib.hid (see_any [112,114,111,99] wr B bp bt z ts' HP.out)
   cases hk : see [112,114,111,99] ts' with
   | false=>
    rw [hk] at KSe
    have HPL0:=Lib.hid (show procsL z 11 [] r7 = .ok acc ts' by rw [HR.out,procsL,if_neg (by rw [hk]; simp)])
    clear hk
    go_wp2_with fail
    refine KSe.out.mono ?_; rintro _ _ ⟨rfl,hw⟩; have hw:=hw.symm; subst hw
    obtain ⟨r6,hr6⟩ : ∃ r6,r6=ts':=⟨_,rfl⟩
    subst hr6
    have HPL:=HPL0
    have H9:=Lib.hid ((H8.out.loop HC.out HP.out HB.out).add (framed_Procs acc (.slice sa acc.length sc)) (by
     obtain ⟨a,c,he,hac,hrow⟩:=Row.of_owns HO.out (new_owns HO.out HF.out)
     cases he
     refine ProcsAt.mono (F:=New w8 wr) (fun x hx=>⟨Nat.le_trans hs8 hx.1,hx.2⟩) ⟨_,_,_,rfl,hac,hrow,(framed_Prs acc cs).done HES.out⟩))
    clear HES HO HR HPL0
    go_wp2_with fail
    have K:=Lib.hid (must_any [98,101,103,105,110] _ _ _ _ _ _ H9.out.par)
    go_wp2_with fail
    refine K.out.mono ?_; intro e w18 he
    rcases he.cut with ⟨en,q,b9,rfl,hx,HE⟩ | ⟨_,r18,_,rfl,X18,rfl,hc,hp⟩
    ·go_wp2_with fail; exact ⟨rfl,HE.out _ _ _ H9.out.chg (by simp only [module_,X1.out,X2.out,X3.out,HIM.out,X7.out,HPL.out,block,hx.out])⟩
    have H18:=Lib.hid (H9.out.step hc hp); clear hc hp K he
    have K:=Lib.hid (body0_any _ _ _ _ _ _ H18.out.par)
    go_wp2_with fail
    refine K.out.mono ?_; intro e w19 he
    rcases he.cut with ⟨en,q,b9,rfl,hx,HE⟩ | ⟨b,r19,_,rfl,X19,⟨a5,c5,cs5,rfl,hv⟩,hc,hp⟩
    ·go_wp2_with fail; exact ⟨rfl,HE.out _ _ _ H18.out.chg (by simp only [module_,X1.out,X2.out,X3.out,HIM.out,X7.out,HPL.out,block,X18.out,hx.out])⟩
    have H19:=Lib.hid (H18.out.call hc hp (framed_Sl b (.slice a5 b.len c5)) ⟨_,_,_,rfl,hv⟩); clear hc hp K he
    clear hv
    obtain ⟨_,_,_,_,e4⟩:=H19.out.blk.five; obtain ⟨_,_,_,_,f4,_⟩:=H19.out.blk.free6
    obtain ⟨w19b,hw⟩ : ∃ x,x=w19.setCell ⟨w.heap.size + 1,4,none⟩ (.slice a5 b.len c5):=⟨_,rfl⟩
    have H19b:=Lib.hid (H19.out.store 4 (.slice a5 b.len c5))
    simp only [Array.setIfInBounds] at H19b
    rw [← hw] at H19b
    have K:=Lib.hid (must_any [101,110,100] _ _ _ _ _ _ H19b.out.par)
    go_wp2_with fail
    rw [← hw]
    refine K.out.mono ?_; intro e w20 he
    rcases he.cut with ⟨en,q,b9,rfl,hx,HE⟩ | ⟨_,r20,_,rfl,X20,rfl,hc,hp⟩
    ·go_wp2_with fail; exact ⟨rfl,HE.out _ _ _ H19b.out.chg (by simp only [module_,X1.out,X2.out,X3.out,HIM.out,X7.out,HPL.out,block,X18.out,X19.out,hx.out])⟩
    have H20:=Lib.hid (H19b.out.step hc hp); clear hc hp K he
    clear e4 f4 hw
    have K:=Lib.hid (must_any [46] _ _ _ _ _ _ H20.out.par)
    go_wp2_with fail
    refine K.out.mono ?_; intro e w21 he
    rcases he.cut with ⟨en,q,b9,rfl,hx,HE⟩ | ⟨_,r21,_,rfl,X21,rfl,hc,hp⟩
    ·go_wp2_with fail; exact ⟨rfl,HE.out _ _ _ H20.out.chg (by simp only [module_,X1.out,X2.out,X3.out,HIM.out,X7.out,HPL.out,block,X18.out,X19.out,X20.out,hx.out])⟩
    have H21:=Lib.hid (H20.out.step hc hp); clear hc hp K he
    have HRR:=Lib.hid (show module_ z ts = .ok ⟨n,ims,gs,acc,b⟩ r21 by simp only [module_,X1.out,X2.out,X3.out,HIM.out,X7.out,HPL.out,block,X18.out,X19.out,X20.out,X21.out])
    obtain ⟨d0,d1,d2,d3,d4⟩:=H21.out.blk.five; obtain ⟨e0,e1,e2,e3,e4⟩:=H21.out.res.five; obtain ⟨f0,f1,f2,f3,f4,_⟩:=H21.out.res.free6
    go_wp2_with fail
    obtain ⟨wF,hwF,hcF,hbF⟩:=set5 (str n) (.slice a3 ims.length c3) (.slice a7 gs.length c7) (.slice sa acc.length sc) (.slice a5 b.len c5) H21.out.res
    rw [hwF]
    clear hwF
    obtain ⟨g0,g1,g2,g3,g4⟩:=hbF.five
    refine bodyPost_ret (v:=.agg #[str n,.slice a3 ims.length c3,.slice a7 gs.length c7,.slice sa acc.length sc,.slice a5 b.len c5]) (by simp [results,Tryz.results50,go_sem,g0,g1,g2,g3,g4]) rfl ?_
    rw [HRR.out]
    have hq:=H21.out.fin hcF
    exact ⟨H21.out.chg.trans hcF (fun x hx=>.inr (by simp at hx; omega)),_,rfl,⟨_,_,_,_,rfl,hq.1.1.1.2,hq.1.1.2,hq.1.2,hq.2⟩,H21.out.par.kept hcF (fun x hx=>by simp at hx; omega) (by simp; omega) (by simp; omega)⟩
   | true=>
    rw [hk] at KSe
    have d3:=HB.out.cell 3 _ rfl
    cases he : decide (acc.length=10) with
    | true=>
     have he1 : ((acc.length:Int) == 10)=true:=by have:=of_decide_eq_true he; simp [this]
     have HPL:=Lib.hid (show procsL z 11 [] r7 = .bad 4 (hd z ts') by rw [HR.out,procsL,if_pos hk,if_pos (of_decide_eq_true he)])
     have HRR:=Lib.hid (show module_ z ts = .bad 4 (hd z ts') by simp only [module_,X1.out,X2.out,X3.out,HIM.out,X7.out,HPL.out])
     clear he hk
     go_wp2_with fail
     refine KSe.out.mono ?_; rintro _ _ ⟨rfl,hw⟩; have hw:=hw.symm; subst hw
     go_wp2_with fail
     refine (fail_any 4 _ B bp bt z ts' HP.out).mono ?_; intro e w2 he
     have HE:=Lib.hid he
     obtain ⟨b,rfl⟩:=he.thrown
     clear he
     go_wp2_with fail
     refine ⟨rfl,?_⟩
     rw [HRR.out]
     exact HE.out.relay HW.out
    | false=>
     have he1 : ((acc.length:Int) == 10)=false:=by have:=of_decide_eq_false he; simp; omega
     have hne:=of_decide_eq_false he
     have HG:Hid (∀ q,proc z ts'=q→procsL z 11 [] r7=match q with | .bad e p=>.bad e p | .ok g r=>procsL z f (acc ++ [g]) r):=Lib.hid (fun q hq=>by rw [HR.out,procsL,if_pos hk,if_neg hne,hq]; cases q <;> rfl)
     have hPD:Par wr.drew B bp bt z ts':=HP.out.kept (Chg.refl [] wr).drew (by simp) (by simp) (by simp)
     have HX:=Lib.hid (proc_any wr.drew B bp bt z ts' hPD)
     have d3d : wr.drew.cell? ⟨w.heap.size + 1,3,none⟩=some (.slice sa acc.length sc):=d3
     clear he hk hPD
     cases hx : proc z ts' with
     | bad en q=>
      have HPL:=Lib.hid (HG.out _ hx)
      have HRR:=Lib.hid (show module_ z ts = .bad en q by simp only [module_,X1.out,X2.out,X3.out,HIM.out,X7.out,HPL.out])
      rw [hx] at HX
      clear hx
      go_wp2_with fail
      refine KSe.out.mono ?_; rintro _ _ ⟨rfl,hw⟩; have hw:=hw.symm; subst hw
      go_wp2_with fail
      refine wp_region_dead 3 [true,true,true] rfl (by kernel_rfl) (by kernel_rfl) rfl ?_
      repeat ((with_reducible show wpX _ _ _ _ _ _ _ _);(first | refine wpX_nil ?_ | refine wpX_skip rfl ?_ | refine wpX_mv rfl rfl (by kernel_rfl) (fun _ _=>?_) | refine wpX_ldD rfl rfl rfl (by exact ⟨_,_,d3d⟩) (fun _ _=>?_));go_wp2_with fail)
      refine HX.out.mono ?_; intro e w6 he
      have HEE:=Lib.hid he
      obtain ⟨b,rfl⟩:=he.thrown
      clear he
      intro a' ha
      refine ⟨ha,?_⟩
      rw [HRR.out]
      exact HEE.out.relay HW.out.drew
     | ok x r=>
      have HPL:=Lib.hid (HG.out _ hx)
      rw [hx] at HX
      clear hx
      have hxb : (w.heap.size + 1)∉bp :: blk (.slice sa acc.length sc):=by
       simp only [List.mem_cons,not_or]
       exact ⟨by omega,fun hm=>by have:=HF.out _ hm; omega⟩
      have HXB:=Lib.hid hxb
      have HZ:=Lib.hid (Zone.of (X:=bp :: blk (.slice sa acc.length sc)) d3d hxb)
      clear hxb
      go_wp2_with fail
      refine KSe.out.mono ?_; rintro _ _ ⟨rfl,hw⟩; have hw:=hw.symm; subst hw
      go_wp2_with fail
      refine wp_region_T (bp :: blk (.slice sa acc.length sc)) rfl (by kernel_rfl) rfl ?_
      have hS:Chg (bp :: blk (.slice sa acc.length sc)) wr.drew wr.drew:=Chg.refl _ _
      repeat ((with_reducible refine gX ?_); (first | refine wpX_nil ?_ | refine sK ?_ | refine sM fun _ _=>?_ | refine sL (hz:=by exact HZ.out) fun _ _=>?_ | refine sE fun _ _=>?_); go_wp2_with fail)
      refine HX.out.mono ?_; rintro _ w6 ⟨hc6,_,rfl,⟨cx,rfl,hx6⟩,hp6⟩
      have HX6:=Lib.hid hx6
      obtain ⟨vp,vv,vb,rfl,h1,h2,h3⟩:=hx6
      obtain ⟨x1,y1,rfl,_,_⟩:=h1
      obtain ⟨x2,y2,rfl,_,_⟩:=h2
      obtain ⟨x3,y3,_,rfl,_,_⟩:=h3
      have hS:Chg (bp :: blk (.slice sa acc.length sc)) wr.drew w6:=hc6.mono (fun x hx=>.inl (by simp at hx; simp [hx]))
      have HC6:=Lib.hid hc6; have HP6:=Lib.hid hp6
      clear hc6 hp6
      go_wp2_with fail
      refine And.intro hS ?_
      repeat ((with_reducible refine gX ?_); (first | refine wpX_nil ?_ | refine sK ?_ | refine sM fun _ _=>?_ | refine sL (hz:=by exact HZ.out) fun _ _=>?_ | refine sE fun _ _=>?_); go_wp2_with fail)
      refine And.intro (hS.alloc _) ?_
      repeat ((with_reducible refine gX ?_); (first | refine wpX_nil ?_ | refine sK ?_ | refine sM fun _ _=>?_ | refine sL (hz:=by exact HZ.out) fun _ _=>?_ | refine sE fun _ _=>?_); go_wp2_with fail)
      have how:=owns_kept (w:=wr.drew) (owns_kept HO.out (Chg.refl [] wr).drew (by simp)) (HC6.out.alloc (.cells #[str x.name,.int .i64 x.pos,.bool x.seen,.slice x1 x.params.length y1,.slice x2 x.vars.length y2,.slice x3 x.body.len y3] 87)) (fun g hg hm=>by have:=HF.out g hg; simp at hm; omega)
      refine wpX_append _ _ 28 rfl rfl rfl 87 _ 6 104 infoProc Tryz.underlying28 rfl (by decide) (.slice sa acc.length sc) acc.length _ rfl how ⟨w6.heap.size,0,none⟩ 1 1 [str x.name,.int .i64 x.pos,.bool x.seen,.slice x1 x.params.length y1,.slice x2 x.vars.length y2,.slice x3 x.body.len y3] rfl rfl (cells_new _ _ _) (by simp [Value.oneCell']) (by omega) (by unfold maxLen; omega) ?_
      intro v' w7 hown' hch' hmv'
      obtain ⟨a',c',rfl⟩:=slice_of_owns hown'
      obtain ⟨v',hv'⟩ : ∃ v',v'=Value.slice a' (acc.length + 1) c':=⟨_,rfl⟩
      rw [← hv'] at hown' hmv'
      have hc7:Chg (bp :: blk (.slice sa acc.length sc)) wr.drew w7:=(hS.alloc _).then (hch'.mono (fun x hx=>.inl (by simp [hx])))
      have hb7:Blk w7 (w.heap.size + 1) _ _:=HB.out.kept (Chg.trans (S:=bp :: blk (.slice sa acc.length sc)) (⟨rfl,rfl,rfl,Nat.le_refl _,fun _ _ _=>rfl⟩ : Chg _ wr wr.drew) hc7 (fun x hx=>.inl hx)) HXB.out
      have hcell7:=hb7.cell 3 _ rfl
      have hfz7:=hb7.frozen 3
      have hsz6:=HC6.out.size
      have hsz7 : w6.heap.size≤w7.heap.size:=Nat.le_trans (by simp) hch'.size
      have hswd : wr.drew.heap.size=wr.heap.size:=rfl
      have hes6:=(framed_Prs acc cs).call HES.out ((⟨rfl,rfl,rfl,Nat.le_refl _,fun _ _ _=>rfl⟩ : Chg [bp] wr wr.drew).then HC6.out) (by omega)
      have hlw : ∀ g∈blk (.slice sa acc.length sc),g < wr.drew.heap.size:=fun g hg=>owns_lt HO.out g hg
      have hx6':=(framed_Pr x _).fresh (w:=w8) (l:=.slice sa acc.length sc) HX6.out hlw (by omega)
      have hes7:=(framed_Prs acc cs).app hes6 hch' hmv'
      have hx7:=(framed_Pr x _).app hx6' hch' hmv'
      have HES7:=Lib.hid (PrsAt.snoc hes7 hx7)
      have hF7:From w8.heap.size v':=HF.out.moved hmv' (by simp; omega)
      have HF7:=Lib.hid hF7
      have hp7:Par w7 B bp bt z r:=(HP6.out.kept ((Chg.refl [] w6).alloc _) (by simp) (by simp) (by simp)).kept hch' (fun g hg=>by have:=HF.out g hg; omega) (fun hm=>by have:=HF.out _ hm; omega) (fun hm=>by have:=HF.out _ hm; omega)
      have HP7:=Lib.hid hp7
      have HO7:=Lib.hid hown'
      have HB7:=Lib.hid hb7
      have HC7:=Lib.hid hc7
      have hl7 : lenOf v'=acc.length + 1:=lenOf_owns hown'
      have HL7:=Lib.hid hl7
      clear hown' hch' hmv' hb7 hS how hes6 hlw hx6' hes7 hx7 hF7 hp7 hl7 hc7
      refine And.intro HC7.out ?_
      repeat ((with_reducible refine gX ?_); (first | refine wpX_nil ?_ | refine sK ?_ | refine sM fun _ _=>?_ | refine sL (hz:=by exact HZ.out) fun _ _=>?_ | refine sE fun _ _=>?_); go_wp2_with fail)
      refine stepX_ef rfl rfl (fun _ _=>?_)
      change Oper.wp _ (Oper.mk _ _ _ _ _ _) _ _ _ _
      go_wp2_with fail
      rw [← hv']
      have hcs:Chg [w.heap.size + 1] w7 (w7.setCell ⟨w.heap.size + 1,3,none⟩ v'):=Chg.set1 _ _ _ _
      have hbs:Blk (w7.setCell ⟨w.heap.size + 1,3,none⟩ v') (w.heap.size + 1) #[str n,.slice a3 ims.length c3,.slice a7 gs.length c7,v',nils] 31:=HB7.out.set 3 v'
      have hwr7:Chg [bp,w.heap.size + 1] w8 w7:=(HC.out.trans (⟨rfl,rfl,rfl,Nat.le_refl _,fun _ _ _=>rfl⟩ : Chg [bp] wr wr.drew) (fun x hx=>.inl (by simp at hx; simp [hx]))).trans HC7.out (fun x hx=>by
       rcases List.mem_cons.1 hx with rfl | hx
       ·exact .inl (by simp)
       ·exact .inr (HF.out x hx))
      go_roundw
      case rel=>
       refine ⟨f,acc ++ [x],_,v',r,HPL.out,by simp; omega,by simp; omega,hwr7.trans hcs (fun x hx=>.inl (by simp at hx; simp [hx])),HP7.out.kept hcs (fun x hx=>by simp at hx; omega) (by simp; omega) (by simp; omega),hbs,?_,(framed_Prs _ _).call HES7.out hcs (by omega),HF7.out⟩
       simpa using owns_kept HO7.out hcs (fun g hg hm=>by have:=HF7.out g hg; simp at hm; omega)
      case measure=>
       have g3:=hbs.cell 3 _ rfl
       rw [g3,HB.out.cell 3 _ rfl]
       show 11 - lenOf v' < 11 - lenOf (.slice sa acc.length sc)
       rw [HL7.out]
       simp only [lenOf]
       omega
end Go.Proofs.YtojkkgghndeimaaGreatDoor
namespace Go.Proofs.YtojkkgghndeimaaGreatDoor
open Go Go.RowKit Go.Mq Go.Mq.Tree
set_option maxRecDepth 100000
set_option maxHeartbeats 8000000
theorem catch_idle (bm be:Nat) (w:World):CallsD Tryz.prog 48 #[ptr bm,ptr be] .returning w fun e u' w'=>
   e = .returned (.tuple #[])∧u' = .returning∧w'=w:=by
 refine callsD_of_wpS Tryz.func48 rfl fun c₀ cs hu=>?_
 rw [show (#[ptr bm,ptr be] ++ Array.replicate (Tryz.f48.ntmps - (#[ptr bm,ptr be] : Array Value).size) undef:Array Value) = #[ptr bm,ptr be,undef,undef,undef,undef,undef,undef,undef,undef,undef,undef,undef,undef,undef,undef,undef,undef,undef] from rfl]
 apply wpS_seq
 apply wpS_region
 simp [wpOpsS,go_sem,recoverD,hu,Exit.thenS]
 refine wpS_of_wp ?_
 go_wp2_with fail
 exact ⟨rfl,.returning,by cases c₀; simp_all,.tuple #[],results_none rfl _ _ _,rfl,rfl,rfl⟩
theorem catch_thrown (bm be b:Nat) (c0 c1 c2 c3 c4 e0:Value) (w:World) (hm:Blk w bm #[c0,c1,c2,c3,c4] 31) (he:Blk w be #[e0] 38) (hne : bm≠be) :
  CallsD Tryz.prog 48 #[ptr bm,ptr be] (.panicking [{ v:=.iface 91 (.agg #[.iface 167 (ptr b)]),recovered:=false }]) w fun e u' w'=>
   e = .returned (.tuple #[])∧u' = .panicking [{ v:=.iface 91 (.agg #[.iface 167 (ptr b)]),recovered:=true }]∧Chg [bm,be] w w' ∧
   Blk w' bm #[str [],nils,nils,nils,nils] 31∧Blk w' be #[.iface 167 (ptr b)] 38:=by
 have hta : ∀ w,(Instr.typeAssert (.iface 91 (.agg #[.iface 167 (ptr b)])) 20 91 true).run Tryz.prog w = .ok (.tuple #[.agg #[.iface 167 (ptr b)],.bool true]) w:=fun _=>rfl
 refine callsD_of_wpS Tryz.func48 rfl fun c₀ cs hu=>?_
 rw [show (#[ptr bm,ptr be] ++ Array.replicate (Tryz.f48.ntmps - (#[ptr bm,ptr be] : Array Value).size) undef:Array Value) = #[ptr bm,ptr be,undef,undef,undef,undef,undef,undef,undef,undef,undef,undef,undef,undef,undef,undef,undef,undef,undef] from rfl]
 apply wpS_seq
 apply wpS_region
 simp [wpOpsS,go_sem,recoverD,hu,Exit.thenS]
 refine wpS_of_wp ?_
 go_wp2_with fail
 have hlm:=hm.lt
 have hle:=he.lt
 have hm':=hm.kept ((Chg.refl [] w).alloc (.cells #[.iface 167 (ptr b)] 91)) (by simp)
 have he':=he.kept ((Chg.refl [] w).alloc (.cells #[.iface 167 (ptr b)] 91)) (by simp)
 have hx':=Blk.new w #[.iface 167 (ptr b)] 91
 have hc':Chg [bm,be] w (w.alloc (.cells #[.iface 167 (ptr b)] 91)):=(Chg.refl _ w).alloc _
 have hnx : w.heap.size≠bm:=by omega
 have hny : w.heap.size≠be:=by omega
 generalize w.alloc (.cells #[.iface 167 (ptr b)] 91)=w1 at *
 have f0:=hm'.frozen 0; have f1:=hm'.frozen 1; have f2:=hm'.frozen 2; have f3:=hm'.frozen 3; have f4:=hm'.frozen 4
 have d0:=hm'.cell 0 _ rfl; have d1:=hm'.cell 1 _ rfl; have d2:=hm'.cell 2 _ rfl; have d3:=hm'.cell 3 _ rfl; have d4:=hm'.cell 4 _ rfl
 have g0:=he'.frozen 0; have e0':=he'.cell 0 _ rfl
 have x0:=hx'.cell 0 _ rfl
 have HM:=Lib.hid hm'; have HE:=Lib.hid he'; have HC:=Lib.hid hc'
 clear hm he hm' he' hx' hc' hta
 go_region
 obtain ⟨wF,hwF,hcF,hbF⟩:=set5 (str []) nils nils nils nils HM.out
 have heF:=HE.out.kept hcF (by simp; exact Ne.symm hne)
 have hcE:Chg [be] wF (wF.setCell ⟨be,0,none⟩ (.iface 167 (ptr b))):=Chg.set1 _ _ _ _
 refine ⟨rfl,.panicking [{ v:=.iface 91 (.agg #[.iface 167 (ptr b)]),recovered:=true }],rfl,.tuple #[],results_none rfl _ _ _,rfl,rfl,?_⟩
 rw [hwF]
 refine ⟨((HC.out.then (hcF.mono (fun x hx=>.inl (by simp at hx; simp [hx])))).then (hcE.mono (fun x hx=>.inl (by simp at hx; simp [hx])))).drew,?_,?_⟩
 ·exact (hbF.kept hcE (by simpa using hne)).kept (Chg.refl [] _).drew (by simp)
 ·have:=(heF.set 0 (.iface 167 (ptr b))).kept (Chg.refl [] _).drew (by simp)
  simpa using this
end Go.Proofs.YtojkkgghndeimaaGreatDoor
namespace Go.Mq.Tree
open Go Go.RowKit Go.Mq
def ParseOut (w:World) (r:Res) (e:Ending) (w':World):Prop:=Chg [] w w'∧match r with
 | .ok m=>∃ v,e = .returned (.tuple #[v,.nilIface])∧ModAt w' (New w w') m v
 | .bad en p=>∃ b,e = .returned (.tuple #[.agg #[str [],nils,nils,nils,nils],.iface 167 (ptr b)])∧w.heap.size≤b∧Blk w' b #[.int .i64 en,.int .i64 p] 168
end Go.Mq.Tree
namespace Go.Proofs.YtojkkgghndeimaaGreatDoor
open Go Go.RowKit Go.Mq Go.Mq.Tree
set_option maxRecDepth 100000
set_option maxHeartbeats 1000000
theorem results_cells (tmps:Array Value) (bm be:Nat) (c0 c1 c2 c3 c4 ev:Value) (w:World) (h2 : tmps[2]?.getD undef=ptr bm) (h3 : tmps[3]?.getD undef=ptr be) (hm:Blk w bm #[c0,c1,c2,c3,c4] 31) (he:Blk w be #[ev] 38) :
  (results Tryz.f10 tmps).run Tryz.prog w = .ok (.tuple #[.agg #[c0,c1,c2,c3,c4],ev]) w:=by
 have d0:=hm.cell 0 _ rfl; have d1:=hm.cell 1 _ rfl; have d2:=hm.cell 2 _ rfl; have d3:=hm.cell 3 _ rfl; have d4:=hm.cell 4 _ rfl
 have e0:=he.cell 0 _ rfl
 simp [results,Tryz.results10,h2,h3,go_sem,d0,d1,d2,d3,d4,e0]
theorem leave_idle (tmps:Array Value) (bm be:Nat) (c0 c1 c2 c3 c4 ev:Value) (w:World) (R:Ending→World→Prop) (h2 : tmps[2]?.getD undef=ptr bm) (h3 : tmps[3]?.getD undef=ptr be) (hm:Blk w bm #[c0,c1,c2,c3,c4] 31) (he:Blk w be #[ev] 38)
  (hR:R (.returned (.tuple #[.agg #[c0,c1,c2,c3,c4],ev])) w):Leaves Tryz.prog Tryz.f10 tmps R [{ target:=.fn (.func 48) #[ptr bm,ptr be],args:=#[] }] .returning w:=by
 refine leaves_cons (f:=48) (args:=#[ptr bm,ptr be]) (by simp) (by simp [go_sem]) ?_
 refine (catch_idle bm be w).mono ?_
 rintro e u' w'' ⟨rfl,rfl,rfl⟩
 exact ⟨_,results_cells tmps bm be c0 c1 c2 c3 c4 ev w'' h2 h3 hm he,hR⟩
theorem leave_thrown (tmps:Array Value) (bm be b:Nat) (c0 c1 c2 c3 c4 ev:Value) (w:World) (R:Ending→World→Prop) (h2 : tmps[2]?.getD undef=ptr bm) (h3 : tmps[3]?.getD undef=ptr be) (hm:Blk w bm #[c0,c1,c2,c3,c4] 31) (he:Blk w be #[ev] 38) (hne : bm≠be)
  (hR : ∀ w',Chg [bm,be] w w'→R (.returned (.tuple #[.agg #[str [],nils,nils,nils,nils],.iface 167 (ptr b)])) w'):Leaves Tryz.prog Tryz.f10 tmps R [{ target:=.fn (.func 48) #[ptr bm,ptr be],args:=#[] }] (.panicking [{ v:=.iface 91 (.agg #[.iface 167 (ptr b)]),recovered:=false }]) w:=by
 refine leaves_cons (f:=48) (args:=#[ptr bm,ptr be]) (by simp) (by simp [go_sem]) ?_
 refine (catch_thrown bm be b c0 c1 c2 c3 c4 ev w hm he hne).mono ?_
 rintro e u' w'' ⟨rfl,rfl,hc,hm',he'⟩
 exact ⟨_,results_cells tmps bm be _ _ _ _ _ _ w'' h2 h3 hm' he',hR w'' hc⟩
theorem parse_any (l:List UInt8) (hl : l.length≤1099511627776) (w:World) (B:Nat) (hL:Laid w B):Calls Tryz.prog 10 #[str l] w (ParseOut w (parse l)):=by
 have hmf : ∀ (fn:Fn) (first cap:Array Value) (w:World),(Instr.makeFunc fn first cap).run Tryz.prog w = .ok (.func fn first cap) w:=fun _ _ _ _=>rfl
 have hw1 : (w.alloc (.cells #[str [],nils,nils,nils,nils] 31)).heap.size=w.heap.size + 1:=by simp
 obtain ⟨w0,hw0⟩ : ∃ w0,w0=(w.alloc (.cells #[str [],nils,nils,nils,nils] 31)).alloc (.cells #[.nilIface] 38):=⟨_,rfl⟩
 have hb0:=Blk.new (w.alloc (.cells #[str [],nils,nils,nils,nils] 31)) #[.nilIface] 38
 have hm0:=(Blk.new w #[str [],nils,nils,nils,nils] 31).kept ((Chg.refl [] _).alloc (.cells #[.nilIface] 38)) (by simp)
 have hc0:Chg [] w ((w.alloc (.cells #[str [],nils,nils,nils,nils] 31)).alloc (.cells #[.nilIface] 38)):=((Chg.refl _ _).alloc _).alloc _
 have hs0 : ((w.alloc (.cells #[str [],nils,nils,nils,nils] 31)).alloc (.cells #[.nilIface] 38)).heap.size=w.heap.size + 2:=by simp
 rw [hw1,← hw0] at hb0
 rw [← hw0] at hm0 hc0 hs0
 have HBE:=Lib.hid hb0; have HBM:=Lib.hid hm0; have HC0:=Lib.hid hc0
 have hLw:Laid w0 B:=hL.kept hc0 (by simp)
 have HL:=Lib.hid hLw
 have HTK:=Lib.hid (tokens_any l hl w0 B hLw)
 have hB0:=hL.le
 clear hL hLw hb0 hm0 hw1 hc0
 cases hx : lex l with
 | bad en q=>
  have HRR:=Lib.hid (show parse l = .bad en q by rw [parse,hx])
  rw [hx] at HTK
  clear hx
  go_enter_defers Tryz.func10,Tryz.ntmps10
  go_wp2_with fail
  try rw [← hw0]
  refine HTK.out.mono ?_; rintro _ w1 ⟨hc1,b,rfl,hbl,hb1⟩
  have hbe:=HBE.out.kept hc1 (by simp)
  have hbm:=HBM.out.kept hc1 (by simp)
  have d0:=hbe.cell 0 _ rfl
  have f0:=hbe.frozen 0
  clear hw0
  have hcs:Chg [w.heap.size + 1] w1 (w1.setCell ⟨w.heap.size + 1,0,none⟩ (.iface 167 (ptr b))):=Chg.set1 _ _ _ _
  have hbe2:Blk (w1.setCell ⟨w.heap.size + 1,0,none⟩ (.iface 167 (ptr b))) (w.heap.size + 1) #[.iface 167 (ptr b)] 38:=by simpa using hbe.set 0 (.iface 167 (ptr b))
  have hbm2:=hbm.kept hcs (by simp)
  have hb2:=hb1.kept hcs (by simp; omega)
  have hc2:Chg [] w _:=(HC0.out.then hc1).trans hcs (fun x hx=>.inr (by simp at hx; omega))
  have HBE2:=Lib.hid hbe2; have HBM2:=Lib.hid hbm2; have HB2:=Lib.hid hb2; have HC2:=Lib.hid hc2
  clear hc1 hb1 hbe hbm hcs hbe2 hbm2 hb2 hc2
  go_wp2_with fail
  generalize w1.setCell ⟨w.heap.size + 1,0,none⟩ (.iface 167 (ptr b))=w2 at *
  have d0:=HBE2.out.cell 0 _ rfl; have f0:=HBE2.out.frozen 0
  have m0:=HBM2.out.cell 0 _ rfl; have m1:=HBM2.out.cell 1 _ rfl; have m2:=HBM2.out.cell 2 _ rfl; have m3:=HBM2.out.cell 3 _ rfl; have m4:=HBM2.out.cell 4 _ rfl
  have k0:=HBM2.out.frozen 0; have k1:=HBM2.out.frozen 1; have k2:=HBM2.out.frozen 2; have k3:=HBM2.out.frozen 3; have k4:=HBM2.out.frozen 4
  go_region
  obtain ⟨wF,hwF,hcF,hbF⟩:=set5 (str []) nils nils nils nils HBM2.out
  have heF:=HBE2.out.kept hcF (by simp)
  have hcE:Chg [w.heap.size + 1] wF (wF.setCell ⟨w.heap.size + 1,0,none⟩ (.iface 167 (ptr b))):=Chg.set1 _ _ _ _
  have hbE:=hbF.kept hcE (by simp)
  have heE:=heF.set 0 (.iface 167 (ptr b))
  simp only [Array.setIfInBounds,List.size_toArray,List.length_cons,List.length_nil] at heE
  have hb2:=(HB2.out.kept hcF (by simp; omega)).kept hcE (by simp; omega)
  have hcG:Chg [] w (wF.setCell ⟨w.heap.size + 1,0,none⟩ (.iface 167 (ptr b))):=(HC2.out.trans hcF (fun x hx=>.inr (by simp at hx; omega))).trans hcE (fun x hx=>.inr (by simp at hx; omega))
  have HFIN:=Lib.hid (And.intro hbE (And.intro heE (And.intro hb2 hcG)))
  clear hbE heE hb2 hcG hcE heF hbF hcF d0 f0 m0 m1 m2 m3 m4 k0 k1 k2 k3 k4
  rw [hwF]
  go_wp2_with fail
  obtain ⟨hbE,heE,hb2,hcG⟩:=HFIN.out
  refine leave_idle _ _ _ _ _ _ _ _ _ _ _ rfl rfl (hbE.kept (Chg.refl [] _).drew (by simp)) (heE.kept (Chg.refl [] _).drew (by simp)) ?_
  rw [HRR.out]
  exact ⟨hcG.drew,b,rfl,by omega,hb2.kept (Chg.refl [] _).drew (by simp)⟩
 | ok ts=>
  have HLX:=Lib.hid hx
  rw [hx] at HTK
  clear hx
  go_enter_defers Tryz.func10,Tryz.ntmps10
  go_wp2_with fail
  try rw [← hw0]
  refine HTK.out.mono ?_; rintro _ w1 ⟨hc1,a,k,rfl,hk,hrow,hfew,hshort⟩
  obtain ⟨bt,off,rfl,hcell⟩:=hrow.at_ (by rw [toksCells_eq]; simp)
  have hF:=hrow.own (by rw [toksCells_eq]; simp) _ rfl
  have hbe:=HBE.out.kept hc1 (by simp)
  have hbm:=HBM.out.kept hc1 (by simp)
  have d0:=hbe.cell 0 _ rfl
  have f0:=hbe.frozen 0
  clear hw0
  have hcs:Chg [w.heap.size + 1] w1 (w1.setCell ⟨w.heap.size + 1,0,none⟩ .nilIface):=Chg.set1 _ _ _ _
  have hbe2:Blk (w1.setCell ⟨w.heap.size + 1,0,none⟩ .nilIface) (w.heap.size + 1) #[.nilIface] 38:=by simpa using hbe.set 0 .nilIface
  have hbm2:=hbm.kept hcs (by simp)
  have hc2:Chg [] w _:=(HC0.out.then hc1).trans hcs (fun x hx=>.inr (by simp at hx; omega))
  have hs1:=hc1.size
  have hL2:=(HL.out.kept hc1 (by simp)).kept hcs (fun x hx=>by simp at hx; omega)
  have hbt0 : w0.heap.size≤bt:=hF.1
  have hcell2 : ∀ (i:Nat) (v:Value),(toksCells l.length ts)[i]?=some v→(w1.setCell ⟨w.heap.size + 1,0,none⟩ .nilIface).cell? ⟨bt,off + i,none⟩=some v:=fun i v hv=>hcs.cellSome (hcell i v hv) (by simp; omega)
  have hs2 : (w1.setCell ⟨w.heap.size + 1,0,none⟩ .nilIface).heap.size=w1.heap.size:=by simp [World.setCell]
  have hbt1 : bt < w1.heap.size:=hF.2
  obtain ⟨w2,hw2⟩ : ∃ w2,w2=w1.setCell ⟨w.heap.size + 1,0,none⟩ .nilIface:=⟨_,rfl⟩
  rw [← hw2] at hbe2 hbm2 hc2 hL2 hcell2 hs2
  obtain ⟨w3,hw3⟩ : ∃ w3,w3=w2.alloc (.cells #[.slice (some ⟨bt,off,none⟩) (ts.length + 1) k] 98):=⟨_,rfl⟩
  have hc3:Chg [] w2 w3:=by rw [hw3]; exact (Chg.refl _ _).alloc _
  have hb3:Blk w3 w1.heap.size #[.slice (some ⟨bt,off,none⟩) (ts.length + 1) k] 98:=by rw [hw3,← hs2]; exact Blk.new _ _ _
  have hs3 : w3.heap.size=w1.heap.size + 1:=by rw [hw3,← hs2]; simp
  have hPar:Par w3 B w1.heap.size bt l.length ts:=⟨hL2.kept hc3 (by simp),by omega,by omega,by omega,hfew,hshort,off,k,hb3,hk,fun i v hv=>hc3.cellSome (hcell2 i v hv) (by simp)⟩
  have hbe3:=hbe2.kept hc3 (by simp)
  have hbm3:=hbm2.kept hc3 (by simp)
  have hcw3:Chg [] w w3:=hc2.then hc3
  have HM:=Lib.hid (module_any w3 B w1.heap.size bt l.length ts hPar)
  have HBE3:=Lib.hid hbe3; have HBM3:=Lib.hid hbm3; have HC3:=Lib.hid hcw3
  have hn2 : w.heap.size + 2≤w1.heap.size:=by omega
  have g0 : w2.cell? ⟨w.heap.size + 1,0,none⟩=some .nilIface:=hbe2.cell 0 _ rfl
  clear hc1 hrow hcell hF hbe hbm hcs hbe2 hbm2 hc2 hL2 hcell2 hc3 hb3 hPar hbe3 hbm3 hcw3 hfew hshort
  cases hx : module_ l.length ts with
  | bad en q=>
   have HRR:=Lib.hid (show parse l = .bad en q by rw [parse,HLX.out]; simp only [hx])
   rw [hx] at HM
   clear hx
   go_wp2_with fail
   rw [← hw2,← hw3]
   refine HM.out.mono ?_; intro e w9 he
   obtain ⟨b9,rfl⟩:=he.thrown
   have HEE:=Lib.hid he
   clear he
   go_wp2_with fail
   obtain ⟨hc9,b,hbe9,hlt9,hb9⟩:=HEE.out
   cases hbe9
   refine leave_thrown _ _ _ _ _ _ _ _ _ _ _ _ rfl rfl (HBM3.out.kept hc9 (by simp; omega)) (HBE3.out.kept hc9 (by simp; omega)) (by omega) (fun w' hc=>?_)
   rw [HRR.out]
   exact ⟨(HC3.out.trans hc9 (fun x hx=>.inr (by simp at hx; omega))).trans hc (fun x hx=>.inr (by simp at hx; omega)),_,rfl,by omega,hb9.kept hc (by simp; omega)⟩
  | ok m ts'=>
   have HMX:=Lib.hid hx
   rw [hx] at HM
   clear hx
   go_wp2_with fail
   rw [← hw2,← hw3]
   refine HM.out.mono ?_; rintro _ w4 ⟨hc4,_,rfl,⟨vi,vv,vp,vb,rfl,hmi,hmv,hmp,hmb⟩,hp4⟩
   have hbe4:=HBE3.out.kept hc4 (by simp; omega)
   have hbm4:=HBM3.out.kept hc4 (by simp; omega)
   have d0:=hbm4.cell 0 _ rfl; have d1:=hbm4.cell 1 _ rfl; have d2:=hbm4.cell 2 _ rfl; have d3:=hbm4.cell 3 _ rfl; have d4:=hbm4.cell 4 _ rfl
   have f0:=hbm4.frozen 0; have f1:=hbm4.frozen 1; have f2:=hbm4.frozen 2; have f3:=hbm4.frozen 3; have f4:=hbm4.frozen 4
   have hs4:=hc4.size
   have hcw4:Chg [] w w4:=HC3.out.trans hc4 (fun x hx=>.inr (by simp at hx; omega))
   have HMA:=Lib.hid (show ModAt w4 (New w3 w4) m (.agg #[str m.name,vi,vv,vp,vb]) from ⟨vi,vv,vp,vb,rfl,hmi,hmv,hmp,hmb⟩)
   obtain ⟨ai,ci,rfl,_⟩:=hmi
   obtain ⟨av,cv,rfl,_⟩:=hmv
   obtain ⟨ap,cp,_,rfl,_⟩:=hmp
   obtain ⟨ab,cb,_,rfl,_⟩:=hmb
   obtain ⟨wF,hwF,hcF,hbF⟩:=set5 (str m.name) (.slice ai m.imports.length ci) (.slice av m.vars.length cv) (.slice ap m.procs.length cp) (.slice ab m.body.len cb) hbm4
   have hpF:=hp4.kept hcF (fun x hx=>by simp at hx; omega) (by simp; omega) (by simp; omega)
   have hbeF:=hbe4.kept hcF (by simp)
   have HPF:=Lib.hid hpF; have HBF:=Lib.hid hbF; have HBEF:=Lib.hid hbeF; have HCF:=Lib.hid hcF; have HCW:=Lib.hid hcw4
   have g0:=hbF.cell 0 _ rfl; have g1:=hbF.cell 1 _ rfl; have g2:=hbF.cell 2 _ rfl; have g3:=hbF.cell 3 _ rfl; have g4:=hbF.cell 4 _ rfl
   have k0:=hbF.frozen 0; have k1:=hbF.frozen 1; have k2:=hbF.frozen 2; have k3:=hbF.frozen 3; have k4:=hbF.frozen 4
   have ge:=hbeF.cell 0 _ rfl; have ke:=hbeF.frozen 0
   clear hc4 hbe4 hbm4 hcF hp4 hbeF hbF hcw4
   cases ts' with
   | nil=>
    have HRR:=Lib.hid (show parse l = .ok m by rw [parse,HLX.out]; simp only [HMX.out])
    obtain ⟨o2,c2,p0,p1,_,hl2⟩:=par_nil hpF
    obtain ⟨wG,hwG,hcG,hbG⟩:=set5 (str m.name) (.slice ai m.imports.length ci) (.slice av m.vars.length cv) (.slice ap m.procs.length cp) (.slice ab m.body.len cb) HBF.out
    have hbeG:=HBEF.out.kept hcG (by simp)
    have geG:=hbeG.cell 0 _ rfl; have keG:=hbeG.frozen 0
    obtain ⟨wH,hwH⟩ : ∃ wH,wG.setCell ⟨w.heap.size + 1,0,none⟩ .nilIface=wH:=⟨_,rfl⟩
    have hcH:Chg [w.heap.size + 1] wG wH:=by rw [← hwH]; exact Chg.set1 _ _ _ _
    have hbeH:Blk wH (w.heap.size + 1) #[.nilIface] 38:=by rw [← hwH]; simpa using hbeG.set 0 .nilIface
    have hbmH:=hbG.kept hcH (by simp)
    have hcF':=HCF.out.trans hcG (fun x hx=>.inl hx)
    have hMH:ModAt wH (New w wH) m (.agg #[str m.name,.slice ai m.imports.length ci,.slice av m.vars.length cv,.slice ap m.procs.length cp,.slice ab m.body.len cb]):=by
     have hsF:=hcF'.size; have hsH:=hcH.size
     refine ((HMA.out.kept hcF' (fun x hx hn=>?_)).kept hcH (fun x hx hn=>?_)).mono (fun x hx=>⟨by have:=hx.1; omega,by have:=hx.2; omega⟩)
     ·simp at hx; have:=hn.1; omega
     ·simp at hx; have:=hn.1; omega
    have HBMH:=Lib.hid hbmH; have HBEH:=Lib.hid hbeH; have HMH:=Lib.hid hMH
    have HCH:=Lib.hid ((HCW.out.trans hcF' (fun x hx=>.inr (by simp at hx; omega))).trans hcH (fun x hx=>.inr (by simp at hx; omega)))
    clear hpF hcG hbG hbeG hcH hbeH hbmH hcF' hMH
    go_wp2_with fail
    exact leave_idle _ _ _ _ _ _ _ _ _ _ _ rfl rfl HBMH.out HBEH.out (by rw [HRR.out]; exact ⟨HCH.out,_,rfl,HMH.out⟩)
   | cons t r=>
    have HRR:=Lib.hid (show parse l = .bad 3 t.pos by rw [parse,HLX.out]; simp only [HMX.out])
    obtain ⟨o2,c2,hpb,p0,p1,p2,p3,hl2,_⟩:=par_cons hpF
    have hkn:=kind_ne t.kind
    have HFA:=Lib.hid (fail_any 3 wF B w1.heap.size bt l.length (t :: r) hpF)
    clear hpF hpb
    go_wp2_with fail
    refine HFA.out.mono ?_; intro e w9 he
    obtain ⟨b9,rfl⟩:=he.thrown
    have HEE:=Lib.hid he
    clear he
    go_wp2_with fail
    obtain ⟨hc9,b,hbe9,hlt9,hb9⟩:=HEE.out
    cases hbe9
    have hsF:=HCF.out.size
    refine leave_thrown _ _ _ _ _ _ _ _ _ _ _ _ rfl rfl (HBF.out.kept hc9 (by simp; omega)) (HBEF.out.kept hc9 (by simp; omega)) (by omega) (fun w' hc=>?_)
    rw [HRR.out]
    exact ⟨((HCW.out.trans HCF.out (fun x hx=>.inr (by simp at hx; omega))).trans hc9 (fun x hx=>.inr (by simp at hx; omega))).trans hc (fun x hx=>.inr (by simp at hx; omega)),_,rfl,by omega,hb9.kept hc (by simp; omega)⟩
end Go.Proofs.YtojkkgghndeimaaGreatDoor
namespace Go.Mq.Tree
open Go Go.RowKit Go.Mq
def wordy (c:UInt8):Bool:=letter c || digit c
def kindT:List UInt8→Kind
 | []=>.mark
 | c :: _=>if letter c then .word else if digit c then .number else .mark
def IsWord (t:List UInt8):Prop:=∃ c r,t=c :: r∧letter c=true ∧ ∀ x∈r,wordy x=true
def IsNum (t:List UInt8):Prop:=∃ c r,t=c :: r∧digit c=true ∧ ∀ x∈r,digit x=true
def IsTok (t:List UInt8):Prop:=IsWord t∨IsNum t∨t∈marks
def Ends (t:List UInt8):List UInt8→Prop
 | []=>True
 | b :: _=>(kindT t ≠ .mark→wordy b=false)∧(b.toNat=61→t≠[58]∧t≠[60]∧t≠[62])
inductive Toks:List UInt8→List (List UInt8)→Prop
 | nil:Toks [] []
 | gap {c u K} : gap c=true→Toks u K→Toks (c :: u) K
 | tok {t u K} : IsTok t→Ends t u→Toks u K→Toks (t ++ u) (t :: K)
inductive Spread:List UInt8→List UInt8→Prop
 | nil:Spread [] []
 | byte {c u v} : gap c=false→Spread u v→Spread (c :: u) (c :: v)
 | gap {c g u v} : gap c=true→g≠[]→(∀ x∈g,gap x=true)→Spread u v→Spread (c :: u) (g ++ v)
theorem Spread.refl : ∀ u,Spread u u
 | []=>.nil
 | c :: u=>by
  cases h:Tree.gap c with
  | false=>exact .byte h (Spread.refl u)
  | true=>exact Spread.gap (g:=[c]) h (by simp) (by simpa using h) (Spread.refl u)
theorem letter_val {c:UInt8} (h : letter c=true) : 97≤c.toNat∧c.toNat≤122:=by simpa [letter] using h
theorem digit_val {c:UInt8} (h : digit c=true) : 48≤c.toNat∧c.toNat≤57:=by simpa [digit] using h
theorem tok_ne {t:List UInt8} (h:IsTok t) : t≠[]:=by
 rcases h with ⟨c,r,rfl,_,_⟩ | ⟨c,r,rfl,_,_⟩ | h
 ·simp
 ·simp
 ·revert h; revert t; decide
theorem letter_not_digit {c:UInt8} (h : digit c=true) : letter c=false:=by
 cases hl : letter c with
 | false=>rfl
 | true=>have:=letter_val hl; have:=digit_val h; omega
theorem kind_word {t:List UInt8} (h:IsWord t) : kindT t = .word:=by
 obtain ⟨c,r,rfl,hc,_⟩:=h; simp [kindT,hc]
theorem kind_num {t:List UInt8} (h:IsNum t) : kindT t = .number:=by
 obtain ⟨c,r,rfl,hc,_⟩:=h; simp [kindT,hc,letter_not_digit hc]
theorem kind_mark : ∀ t∈marks,kindT t = .mark:=by decide
theorem howN_take {f:UInt8→Bool} : ∀ (l:List UInt8),(∀ x∈l.take (howN f l),f x=true)∧howN f l≤l.length
 | []=>by simp [howN]
 | c :: t=>by
  have h:=howN_take (f:=f) t
  cases hc : f c with
  | false=>simp [howN,hc]
  | true=>
   simp only [howN,hc,if_true,List.take_succ_cons,List.length_cons]
   exact ⟨fun x hx=>(List.mem_cons.mp hx).elim (fun e=>e ▸ hc) (h.1 x),by omega⟩
theorem next_istok {l:List UInt8} (h : (nextK l).2≠0):IsTok (l.take (nextK l).2)∧kindT (l.take (nextK l).2)=(nextK l).1∧(nextK l).2≤l.length:=by
 cases l with
 | nil=>simp [nextK] at h
 | cons c t=>
  rw [nextK] at h ⊢
  by_cases hl : letter c=true
  ·rw [if_pos hl] at h ⊢
   have hh:=howN_take (f:=fun c=>letter c || digit c) (c :: t)
   have he : howN (fun c=>letter c || digit c) (c :: t)=howN (fun c=>letter c || digit c) t + 1:=by simp [howN,hl]
   simp only [he,List.take_succ_cons] at hh ⊢
   have hw:IsWord (c :: t.take (howN (fun c=>letter c || digit c) t)):=⟨c,_,rfl,hl,fun x hx=>by simpa [wordy] using hh.1 x (by simp [hx])⟩
   exact ⟨.inl hw,kind_word hw,hh.2⟩
  ·rw [if_neg hl] at h ⊢
   by_cases hd : digit c=true
   ·rw [if_pos hd] at h ⊢
    have hh:=howN_take (f:=digit) (c :: t)
    have he : howN digit (c :: t)=howN digit t + 1:=by simp [howN,hd]
    simp only [he,List.take_succ_cons] at hh ⊢
    have hw:IsNum (c :: t.take (howN digit t)):=⟨c,_,rfl,hd,fun x hx=>hh.1 x (by simp [hx])⟩
    exact ⟨.inr (.inl hw),kind_num hw,hh.2⟩
   ·rw [if_neg hd] at h ⊢
    cases hf : marks.find? fun m=>m.isPrefixOf (c :: t) with
    | none=>simp [hf] at h
    | some m=>
     have h1:=List.mem_of_find?_eq_some hf
     have h2:=List.find?_some hf
     obtain ⟨v,hv⟩:=List.isPrefixOf_iff_prefix.mp h2
     simp only [Option.map_some,Option.getD_some]
     rw [← hv]
     simp only [List.take_left,List.length_append]
     exact ⟨.inr (.inr h1),kind_mark m h1,by omega⟩
def bytes (ts:List Tok):Nat:=(ts.map fun t=>t.text.length).sum
def Good (ts:List Tok):Prop:=∀ t∈ts,IsTok t.text∧t.kind=kindT t.text
theorem lexL_good : ∀ (f i k:Nat) (l:List UInt8) (ts:List Tok),lexL f i k l = .ok ts→Good ts∧bytes ts≤l.length
 | 0,_,_,l,ts,h=>by cases h; exact ⟨fun _ h=>by simp at h,by simp [bytes]⟩
 | f + 1,i,k,[],ts,h=>by cases h; exact ⟨fun _ h=>by simp at h,by simp [bytes]⟩
 | f + 1,i,k,c :: t,ts,h=>by
  rw [lexL] at h
  split at h
  ·have:=lexL_good f _ _ _ _ h
   exact ⟨this.1,by simp only [List.length_cons]; omega⟩
  ·split at h
   ·cases h
   ·rename_i hn
    split at h
    ·cases h
    ·split at h
     ·rename_i ts' hts
      cases h
      have h1:=lexL_good f _ _ _ _ hts
      have h2:=next_istok hn
      refine ⟨?_,?_⟩
      ·intro x hx
       rcases List.mem_cons.mp hx with rfl | hx
       ·exact ⟨h2.1,h2.2.1.symm⟩
       ·exact h1.1 x hx
      ·have h3:=h1.2
       have h4 : ((c :: t).take (nextK (c :: t)).2).length=(nextK (c :: t)).2:=by rw [List.length_take]; exact Nat.min_eq_left h2.2.2
       rw [List.length_drop] at h3
       simp only [bytes,List.map_cons,List.sum_cons,h4] at h3 ⊢
       have:=h2.2.2
       omega
     ·cases h
end Go.Mq.Tree
namespace Go.Mq.Tree
open Go Go.RowKit Go.Mq
def Nm (n:List UInt8):Prop:=IsWord n∧kept n=false∧n.length≤10
def Qm (m:List UInt8):Prop:=m=[]∨Nm m
def E.isX:E→Prop
 | .nil=>False
 | .cons _ _=>False
 | _=>True
def E.isL:E→Prop
 | .nil=>True
 | .cons _ _=>True
 | _=>False
def WF:E→Prop
 | .num _ n=>0≤n∧n≤9223372036854775807
 | .var _ m n=>Qm m∧Nm n
 | .item _ m n i=>Qm m∧Nm n∧WF i∧i.isX
 | .un _ op x=>(op=[45]∨op=[110,111,116])∧WF x∧x.isX
 | .bin _ op x y=>(∃ k,k < 5∧op∈levels.getD (4 - k) [])∧(WF x∧x.isX)∧WF y∧y.isX
 | .app _ m n l=>Qm m∧Nm n∧WF l∧l.isL
 | .nil=>True
 | .cons x r=>(WF x∧x.isX)∧WF r∧r.isL
def needW (lv:Nat) (x:E) (k:Nat):Nat:=if lv≤lvl x then k else k + 1
def need:E→Nat
 | .num _ _=>1
 | .var _ _ _=>1
 | .item _ _ _ i=>need i + 1
 | .un _ _ x=>needW 5 x (need x) + 1
 | .bin _ op x y=>max (needW (opLevel op) x (need x)) (needW (opLevel op + 1) y (need y))
 | .app _ _ _ l=>need l + 1
 | .nil=>0
 | .cons x r=>max (need x) (need r)
def withinK (lv:Nat) (x:E) (K:List (List UInt8)):List (List UInt8):=if lv≤lvl x then K else [40] :: (K ++ [[41]])
def qualK (m n:List UInt8):List (List UInt8):=if m=[] then [n] else [m,[46],n]
def toks:E→List (List UInt8)
 | .num _ n=>[Lib.itoa n]
 | .var _ m n=>qualK m n
 | .item _ m n i=>qualK m n ++ [91] :: (toks i ++ [[93]])
 | .un _ op x=>op :: withinK 5 x (toks x)
 | .bin _ op x y=>withinK (opLevel op) x (toks x) ++ op :: withinK (opLevel op + 1) y (toks y)
 | .app _ m n l=>qualK m n ++ [40] :: (toks l ++ [[41]])
 | .nil=>[]
 | .cons x .nil=>toks x
 | .cons x r=>toks x ++ [44] :: toks r
def E.cost:E→Nat
 | .cons x r=>(toks x).length + 1 + r.cost
 | _=>0
def Sp {α:Type} (p:Ps α) (Q : α→Prop) (c : α→Nat):Prop:=∀ ts a r,Good ts→p ts = .ok a r→Q a∧c a + bytes r≤bytes ts∧Good r
theorem bytes_cons (t:Tok) (r:List Tok) : bytes (t :: r)=t.text.length + bytes r:=by simp [bytes]
theorem good_cons {t:Tok} {r:List Tok} (h:Good (t :: r)) : (IsTok t.text∧t.kind=kindT t.text)∧Good r:=⟨h t (by simp),fun x hx=>h x (by simp [hx])⟩
theorem len_pos {t:List UInt8} (h:IsTok t) : 1≤t.length:=by
 cases t with
 | nil=>exact absurd rfl (tok_ne h)
 | cons _ _=>simp
theorem see_cost {s:List UInt8} {ts:List Tok} (hg:Good ts) (h : see s ts=true) : s.length + bytes ts.tail=bytes ts∧Good ts.tail:=by
 cases ts with
 | nil=>simp [see] at h
 | cons t r=>
  have : t.text=s:=by simpa [see] using h
  exact ⟨by rw [bytes_cons,this]; rfl,(good_cons hg).2⟩
theorem must_sp {z:Nat} {s:List UInt8} {ts:List Tok} {u:Unit} {r:List Tok} (hg:Good ts) (h : must z s ts = .ok u r) : s.length + bytes r=bytes ts∧Good r:=by
 rw [must] at h
 split at h
 ·rename_i hs; cases h; exact see_cost hg hs
 ·cases h
theorem name_sp {z:Nat} : Sp (name z) Nm (fun _=>1):=by
 intro ts n r hg h
 cases ts with
 | nil=>cases h
 | cons t ts=>
  rw [name] at h
  split at h
  ·cases h
  ·rename_i h1
   split at h
   ·cases h
   ·rename_i h2
    cases h
    have hg:=good_cons hg
    have hk : kindT t.text = .word:=by rw [← hg.1.2]; exact Classical.not_not.mp fun h=>h1 (.inl h)
    refine ⟨⟨?_,by simpa using fun h=>h1 (.inr h),by omega⟩,by show 1 + _≤_; rw [bytes_cons]; have:=len_pos hg.1.1; omega,hg.2⟩
    rcases hg.1.1 with h | h | h
    ·exact h
    ·rw [kind_num h] at hk; cases hk
    ·rw [kind_mark _ h] at hk; cases hk
theorem number_sp {z:Nat} {most:Int} : Sp (number z most) (fun n=>0≤n∧n≤most) (fun _=>1):=by
 intro ts n r hg h
 cases ts with
 | nil=>cases h
 | cons t ts=>
  rw [number] at h
  split at h
  ·cases h
  ·rename_i h1
   have hg:=good_cons hg
   have hk : kindT t.text = .number:=by rw [← hg.1.2]; exact Classical.not_not.mp h1
   have hn:IsNum t.text:=by
    rcases hg.1.1 with h | h | h
    ·rw [kind_word h] at hk; cases hk
    ·exact h
    ·rw [kind_mark _ h] at hk; cases hk
   split at h
   ·rename_i n' hp
    split at h
    ·cases h
    ·rename_i h2
     cases h
     refine ⟨⟨?_,by omega⟩,by show 1 + _≤_; rw [bytes_cons]; have:=len_pos hg.1.1; omega,hg.2⟩
     obtain ⟨c,r,hc,hd,_⟩:=hn
     rw [hc] at hp
     have hd:=digit_val hd
     have e : (c.toNat=45)=False:=by simp; omega
     unfold Lib.parseIntB at hp
     simp only [e,not_false_eq_true,true_and,false_and,if_false] at hp
     split at hp
     ·cases hp
     ·cases hp
     ·split at hp
      ·cases hp
      ·injection hp with hp; omega
   ·cases h
theorem namesL_sp {z most:Nat} : ∀ (f:Nat) (l:List (List UInt8)) (ts:List Tok) (l':List (List UInt8)) (r:List Tok),Good ts→(∀ n∈l,Nm n)→l.length≤most→namesL z most f l ts = .ok l' r →
  (∀ n∈l',Nm n)∧l'.length≤most∧l.length < l'.length∧2 * l'.length + bytes r≤2 * l.length + bytes ts + 1∧Good r
 | 0,_,_,_,_,_,_,_,h=>by cases h
 | f + 1,l,ts,l',r,hg,hl,hm,h=>by
  rw [namesL] at h
  split at h
  ·cases h
  ·cases hn : name z ts with
   | bad e p=>simp only [hn] at h; cases h
   | ok n r1=>
    obtain ⟨h1,h2,h3⟩:=name_sp _ _ _ hg hn
    replace h2 : 1 + bytes r1≤bytes ts:=h2
    have hl2 : ∀ x∈l ++ [n],Nm x:=by
     intro x hx
     rcases List.mem_append.mp hx with hx | hx
     ·exact hl x hx
     ·simp at hx; subst hx; exact h1
    simp only [hn] at h
    split at h
    ·rename_i hs
     have hc:=see_cost h3 hs
     have hr:=namesL_sp f _ _ _ _ hc.2 hl2 (by simp; omega) h
     simp only [List.length_append,List.length_cons,List.length_nil] at hr hc
     exact ⟨hr.1,hr.2.1,by omega,by omega,hr.2.2.2.2⟩
    ·cases h
     exact ⟨hl2,by simp; omega,by simp,by simp; omega,h3⟩
theorem names_sp {z most:Nat} {ts:List Tok} {l:List (List UInt8)} {r:List Tok} (hg:Good ts) (h : names z most ts = .ok l r) : (∀ n∈l,Nm n)∧l.length≤most∧l≠[]∧2 * l.length + bytes r≤bytes ts + 1∧Good r:=by
 have:=namesL_sp _ _ _ _ _ hg (by simp) (by simp) h
 simp only [List.length_nil] at this
 exact ⟨this.1,this.2.1,fun h=>by rw [h] at this; simp at this,by omega,this.2.2.2.2⟩
theorem qual_sp {z:Nat} : Sp (qual z) (fun q=>Qm q.1∧Nm q.2) (fun q=>(qualK q.1 q.2).length):=by
 intro ts q r hg h
 rw [qual] at h
 cases h1 : name z ts with
 | bad e p=>simp only [h1] at h; cases h
 | ok n r1=>
  obtain ⟨a1,a2,a3⟩:=name_sp _ _ _ hg h1
  replace a2 : 1 + bytes r1≤bytes ts:=a2
  simp only [h1] at h
  split at h
  ·rename_i hs
   have hc:=see_cost a3 hs
   cases h2 : name z r1.tail with
   | bad e p=>simp only [h2] at h; cases h
   | ok n2 r2=>
    obtain ⟨b1,b2,b3⟩:=name_sp _ _ _ hc.2 h2
    replace b2 : 1 + bytes r2≤bytes r1.tail:=b2
    simp only [h2] at h
    cases h
    refine ⟨⟨.inr a1,b1⟩,?_,b3⟩
    have : (qualK n n2).length≤3:=by rw [qualK]; split <;> simp
    simp only [List.length_cons,List.length_nil] at hc
    simp only
    omega
  ·cases h
   exact ⟨⟨.inl rfl,a1⟩,by simp [qualK]; omega,a3⟩
theorem op_level : ∀ k < 5,∀ op∈levels.getD (4 - k) [],opLevel op=4 - k:=by decide
theorem within_len (lv:Nat) (x:E) (K:List (List UInt8)) : (withinK lv x K).length≤K.length + 2:=by rw [withinK]; split <;> simp
theorem within_mono {a b:Nat} (h : a≤b) (x:E) (K:List (List UInt8)) : (withinK a x K).length≤(withinK b x K).length:=by
 rw [withinK,withinK]; split <;> split <;> simp <;> omega
theorem needW_mono {a b:Nat} (h : a≤b) (x:E) (k:Nat) : needW a x k≤needW b x k:=by
 rw [needW,needW]; split <;> split <;> omega
def Fits (d lv:Nat) (x:E):Prop:=(WF x∧x.isX)∧needW lv x (need x)≤d
def costW (lv:Nat) (x:E):Nat:=(withinK lv x (toks x)).length
theorem op_cost {lv:List (List UInt8)} {ts:List Tok} {m:List UInt8} (hg:Good ts) (h : opOf lv ts=some m) : m∈lv∧1 + bytes ts.tail≤bytes ts∧Good ts.tail:=by
 have h1:=List.mem_of_find?_eq_some h
 have h2:=List.find?_some h
 have h3:=see_cost hg h2
 refine ⟨h1,?_,h3.2⟩
 cases ts with
 | nil=>simp [see] at h2
 | cons t r=>rw [bytes_cons]; have:=len_pos (good_cons hg).1.1; simp; omega
theorem binL_sp {sub:Ps E} {k d:Nat} (p:Nat) (hk : k < 5) (hs:Sp sub (Fits d (5 - k)) (costW (5 - k))) : ∀ (f:Nat) (x:E) (ts:List Tok) (a:E) (r:List Tok),Good ts→Fits d (4 - k) x→binL sub (levels.getD (4 - k) []) p f x ts = .ok a r →
  Fits d (4 - k) a∧costW (4 - k) a + bytes r≤costW (4 - k) x + bytes ts∧Good r
 | 0,_,_,_,_,_,_,h=>by cases h
 | f + 1,x,ts,a,r,hg,hx,h=>by
  rw [binL] at h
  split at h
  ·cases h; exact ⟨hx,Nat.le_refl _,hg⟩
  ·rename_i m hm
   obtain ⟨o1,o2,o3⟩:=op_cost hg hm
   cases hy : sub ts.tail with
   | bad e q=>simp only [hy] at h; cases h
   | ok y r1=>
    obtain ⟨y1,y2,y3⟩:=hs _ _ _ o3 hy
    simp only [hy] at h
    have hlv:=op_level k hk m o1
    have e5 : 5 - k=4 - k + 1:=by omega
    rw [e5] at y1 y2
    have hb:Fits d (4 - k) (.bin p m x y):=by
     refine ⟨⟨⟨⟨k,hk,o1⟩,hx.1,y1.1⟩,trivial⟩,?_⟩
     have h1:=hx.2; have h2:=y1.2
     rw [needW,if_pos (by rw [lvl,hlv]; exact Nat.le_refl _),need,hlv]
     omega
    obtain ⟨b1,b2,b3⟩:=binL_sp p hk hs f _ _ _ _ y3 hb h
    have hc : costW (4 - k) (.bin p m x y)=costW (4 - k) x + 1 + costW (4 - k + 1) y:=by
     rw [costW,withinK,if_pos (by rw [lvl,hlv]; exact Nat.le_refl _),toks,hlv,List.length_append,List.length_cons,costW,costW]; omega
    exact ⟨b1,by omega,b3⟩
theorem expr_sp {z d:Nat} {base:Ps E} (hb:Sp base (Fits d 5) (costW 5)) : ∀ (k:Nat),k≤5→Sp (expr z base k) (Fits d (5 - k)) (costW (5 - k))
 | 0,_=>hb
 | k + 1,hk=>by
  intro ts a r hg h
  have ih:=expr_sp (z:=z) hb k (by omega)
  rw [expr] at h
  cases hx : expr z base k ts with
  | bad e q=>simp only [hx] at h; cases h
  | ok x r1=>
   obtain ⟨x1,x2,x3⟩:=ih _ _ _ hg hx
   simp only [hx] at h
   have e4 : 5 - (k + 1)=4 - k:=by omega
   rw [e4]
   have hx':Fits d (4 - k) x:=⟨x1.1,Nat.le_trans (needW_mono (by omega) _ _) x1.2⟩
   obtain ⟨b1,b2,b3⟩:=binL_sp _ (by omega) ih _ _ _ _ _ x3 hx' h
   have : costW (4 - k) x≤costW (5 - k) x:=within_mono (by omega) _ _
   exact ⟨b1,by omega,b3⟩
theorem ofList_isL : ∀ l,(E.ofList l).isL
 | []=>trivial
 | _ :: _=>trivial
theorem toks_cost : ∀ (x:E) (l:List E),(toks (E.ofList (x :: l))).length + 1=(E.ofList (x :: l)).cost
 | x,[]=>by simp [E.ofList,toks,E.cost]
 | x,y :: r=>by
  have:=toks_cost y r
  simp only [E.ofList] at this ⊢
  rw [toks,E.cost]
  ·simp only [List.length_append,List.length_cons]; omega
  ·intro h; cases h
theorem cost_append : ∀ (l:List E) (x:E),(E.ofList (l ++ [x])).cost=(E.ofList l).cost + (toks x).length + 1
 | [],x=>by simp [E.ofList,E.cost]
 | y :: l,x=>by simp only [List.cons_append,E.ofList,E.cost,cost_append l x]; omega
theorem args_sp {z d:Nat} {ex:Ps E} (he:Sp ex (Fits d 0) (costW 0)) : ∀ (f:Nat) (first:Bool) (l:List E) (ts:List Tok) (l':List E) (r:List Tok),Good ts→(∀ x∈l,Fits d 0 x)→argsL z ex f first l ts = .ok l' r →
  (∀ x∈l',Fits d 0 x)∧((l'=l∧1 + bytes r=bytes ts)∨(l'≠[]∧(E.ofList l').cost + 1 + bytes r≤(E.ofList l).cost + bytes ts + (if first then 1 else 0)))∧Good r
 | 0,_,_,_,_,_,_,_,h=>by cases h
 | f + 1,first,l,ts,l',r,hg,hl,h=>by
  rw [argsL] at h
  split at h
  ·rename_i hs
   cases h
   have:=see_cost hg hs
   exact ⟨hl,.inl ⟨rfl,by simpa using this.1⟩,this.2⟩
  ·split at h
   ·cases h
   ·rename_i h2
    have h3 : (Good (if first then ts else ts.tail))∧bytes (if first then ts else ts.tail) + (if first then 0 else 1)=bytes ts:=by
     cases first with
     | true=>exact ⟨hg,rfl⟩
     | false=>
      have hs : see [44] ts=true:=by simpa using h2
      have:=see_cost hg hs
      exact ⟨this.2,by simp only [List.length_cons,List.length_nil] at this; simp; omega⟩
    cases hx : ex (if first then ts else ts.tail) with
    | bad e q=>simp only [hx] at h; cases h
    | ok x r1=>
     obtain ⟨x1,x2,x3⟩:=he _ _ _ h3.1 hx
     simp only [hx] at h
     have hl2 : ∀ y∈l ++ [x],Fits d 0 y:=by
      intro y hy
      rcases List.mem_append.mp hy with hy | hy
      ·exact hl y hy
      ·simp at hy; subst hy; exact x1
     obtain ⟨b1,b2,b3⟩:=args_sp he f false _ _ _ _ x3 hl2 h
     have : costW 0 x=(toks x).length:=by rw [costW,withinK,if_pos (Nat.zero_le _)]
     refine ⟨b1,.inr ?_,b3⟩
     have hca:=cost_append l x
     rcases b2 with ⟨rfl,b2⟩ | ⟨n2,b2⟩
     ·refine ⟨by simp,?_⟩
      rw [hca]
      cases first <;> simp at * <;> omega
     ·refine ⟨n2,?_⟩
      rw [hca] at b2
      cases first <;> simp at * <;> omega
theorem list_fits {d:Nat} : ∀ l:List E,(∀ x∈l,Fits d 0 x)→WF (E.ofList l)∧need (E.ofList l)≤d
 | [],_=>⟨trivial,Nat.zero_le _⟩
 | x :: l,h=>by
  have h1:=h x (by simp)
  have h2:=list_fits l fun y hy=>h y (by simp [hy])
  have h3:=h1.2
  rw [needW,if_pos (Nat.zero_le _)] at h3
  exact ⟨⟨h1.1,h2.1,ofList_isL l⟩,by rw [E.ofList,need]; omega⟩
theorem fits_top {d:Nat} {x:E} (h:WF x∧x.isX) (hl : lvl x=5) (hn : need x≤d):Fits d 5 x∧costW 5 x=(toks x).length:=by
 refine ⟨⟨h,?_⟩,?_⟩
 ·rw [needW,if_pos (by omega)]; exact hn
 ·rw [costW,withinK,if_pos (by omega)]
theorem fits0 {d:Nat} {x:E} (h:Fits d 0 x) : need x≤d∧costW 0 x=(toks x).length:=by
 have:=h.2
 rw [needW,if_pos (Nat.zero_le _)] at this
 exact ⟨this,by rw [costW,withinK,if_pos (Nat.zero_le _)]⟩
theorem named_sp {z d:Nat} {ex:Ps E} (he:Sp ex (Fits d 0) (costW 0)):Sp (named z ex) (Fits (d + 1) 5) (costW 5):=by
 intro ts a r hg h
 rw [named] at h
 cases hq : qual z ts with
 | bad e p=>simp only [hq] at h; cases h
 | ok q r1=>
  obtain ⟨q1,q2,q3⟩:=qual_sp _ _ _ hg hq
  replace q2 : (qualK q.1 q.2).length + bytes r1≤bytes ts:=q2
  simp only [hq] at h
  split at h
  ·rename_i hs
   have hc:=see_cost q3 hs
   cases hx : ex r1.tail with
   | bad e p=>simp only [hx] at h; cases h
   | ok i r2=>
    obtain ⟨x1,x2,x3⟩:=he _ _ _ hc.2 hx
    simp only [hx] at h
    cases hm : must z [93] r2 with
    | bad e p=>simp only [hm] at h; cases h
    | ok u r3=>
     have m1:=must_sp x3 hm
     simp only [hm] at h
     cases h
     have ⟨n1,c1⟩:=fits0 x1
     obtain ⟨f1,f2⟩:=fits_top (d:=d + 1) (x:=.item (hd z ts) q.1 q.2 i) ⟨⟨q1.1,q1.2,x1.1⟩,trivial⟩ rfl (by rw [need]; omega)
     refine ⟨f1,?_,m1.2⟩
     rw [f2,toks]
     simp only [List.length_append,List.length_cons,List.length_nil] at *
     omega
  ·split at h
   ·rename_i hs
    have hc:=see_cost q3 hs
    cases hx : argsL z ex (r1.length + 1) true [] r1.tail with
    | bad e p=>simp only [hx] at h; cases h
    | ok l r2=>
     obtain ⟨x1,x2,x3⟩:=args_sp he _ _ _ _ _ _ hc.2 (by simp) hx
     simp only [hx] at h
     cases h
     have ⟨n1,n2⟩:=list_fits l x1
     have n3 : (toks (E.ofList l)).length + 1 + bytes r≤bytes r1.tail:=by
      rcases x2 with ⟨rfl,x2⟩ | ⟨x2,x3⟩
      ·simp [E.ofList,toks]; omega
      ·cases l with
       | nil=>exact absurd rfl x2
       | cons y l=>have:=toks_cost y l; simp only [E.ofList,E.cost,if_true] at *; omega
     obtain ⟨f1,f2⟩:=fits_top (d:=d + 1) (x:=.app (hd z ts) q.1 q.2 (E.ofList l)) ⟨⟨q1.1,q1.2,n1,ofList_isL l⟩,trivial⟩ rfl (by rw [need]; omega)
     refine ⟨f1,?_,x3⟩
     rw [f2,toks]
     simp only [List.length_append,List.length_cons,List.length_nil] at *
     omega
   ·cases h
    obtain ⟨f1,f2⟩:=fits_top (d:=d + 1) (x:=.var (hd z ts) q.1 q.2) ⟨⟨q1.1,q1.2⟩,trivial⟩ rfl (by rw [need]; omega)
    exact ⟨f1,by rw [f2,toks]; exact q2,q3⟩
theorem one_sp (z:Nat) : ∀ d,Sp (one z d) (Fits d 5) (costW 5)
 | 0=>by intro ts a r _ h; cases h
 | d + 1=>by
  intro ts a r hg h
  have ih:=one_sp z d
  have hex:Sp (expr z (one z d) 5) (Fits d 0) (costW 0):=expr_sp ih 5 (Nat.le_refl _)
  have un : ∀ (s:List UInt8),(s=[45]∨s=[110,111,116])→see s ts=true→(match one z d ts.tail with | .bad e p=>R.bad e p | .ok x r=>.ok (.un (hd z ts) s x) r)=R.ok a r→Fits (d + 1) 5 a∧costW 5 a + bytes r≤bytes ts∧Good r:=by
   intro s hs h1 h
   have hc:=see_cost hg h1
   have hl : 1≤s.length:=by rcases hs with rfl | rfl <;> simp
   cases hx : one z d ts.tail with
   | bad e p=>simp only [hx] at h; cases h
   | ok x r1=>
    obtain ⟨x1,x2,x3⟩:=ih _ _ _ hc.2 hx
    simp only [hx] at h
    cases h
    obtain ⟨f1,f2⟩:=fits_top (d:=d + 1) (x:=.un (hd z ts) s x) ⟨⟨hs,x1.1⟩,trivial⟩ rfl (by rw [need]; have:=x1.2; omega)
    refine ⟨f1,?_,x3⟩
    rw [f2,toks,List.length_cons]
    rw [costW] at x2
    omega
  rw [one] at h
  dsimp only at h
  split at h
  ·rename_i h1; exact un _ (.inl rfl) h1 h
  ·split at h
   ·rename_i h1; exact un _ (.inr rfl) h1 h
   ·split at h
    ·rename_i h1
     have hc:=see_cost hg h1
     cases hx : expr z (one z d) 5 ts.tail with
     | bad e p=>simp only [hx] at h; cases h
     | ok x r1=>
      obtain ⟨x1,x2,x3⟩:=hex _ _ _ hc.2 hx
      simp only [hx] at h
      cases hm : must z [41] r1 with
      | bad e p=>simp only [hm] at h; cases h
      | ok u r2=>
       have m1:=must_sp x3 hm
       simp only [hm] at h
       cases h
       have ⟨n1,c1⟩:=fits0 x1
       refine ⟨⟨x1.1,?_⟩,?_,m1.2⟩
       ·rw [needW]; split <;> omega
       ·have:=within_len 5 a (toks a)
        rw [costW]
        simp only [List.length_cons,List.length_nil] at *
        omega
    ·cases ts with
     | nil=>exact named_sp hex _ _ _ hg h
     | cons t ts=>
      simp only at h
      split at h
      ·rename_i hk
       cases hn : number z 9223372036854775807 (t :: ts) with
       | bad e p=>simp only [hn] at h; cases h
       | ok n r1=>
        obtain ⟨a1,a2,a3⟩:=number_sp _ _ _ hg hn
        simp only [hn] at h
        cases h
        obtain ⟨f1,f2⟩:=fits_top (d:=d + 1) (x:=.num t.pos n) ⟨a1,trivial⟩ rfl (by rw [need]; omega)
        exact ⟨f1,by rw [f2,toks]; exact a2,a3⟩
      ·exact named_sp hex _ _ _ hg h
theorem ex0_sp (z:Nat):Sp (ex0 z) (Fits 11 0) (costW 0):=expr_sp (one_sp z 11) 5 (Nat.le_refl _)
end Go.Mq.Tree
namespace Go.Mq.Tree
open Go Go.RowKit Go.Mq
def WFS:Nat→S→Prop
 | _,.nil=>True
 | d,.set _ n i v r=>Nm n∧(∀ x,i=some x→Fits 10 0 x)∧Fits 11 0 v∧WFS d r
 | d,.ifs _ v t e r=>Fits 11 0 v∧((0 < d∧WFS (d - 1) t)∧0 < d∧WFS (d - 1) e)∧WFS d r
 | d,.whil _ v t r=>Fits 11 0 v∧(0 < d∧WFS (d - 1) t)∧WFS d r
 | d,.ret _ v r=>Fits 11 0 v∧WFS d r
 | d,.wri _ v r=>Fits 11 0 v∧WFS d r
 | d,.call _ v r=>(Fits 11 5 v ∧ ∃ p m n l,v = .app p m n l)∧WFS d r
abbrev BQ (d:Nat) (s:S):Prop:=0 < d∧WFS (d - 1) s
def indexK:Option E→List (List UInt8)
 | some x=>[91] :: (toks x ++ [[93]])
 | none=>[]
def stmtK:S→List (List UInt8)
 | .nil=>[]
 | .set _ n i v r=>n :: (indexK i ++ [58,61] :: (toks v ++ [59] :: stmtK r))
 | .ret _ v r=>[114,101,116,117,114,110] :: (toks v ++ [59] :: stmtK r)
 | .wri _ v r=>[119,114,105,116,101] :: (toks v ++ [59] :: stmtK r)
 | .call _ v r=>toks v ++ [59] :: stmtK r
 | .whil _ v t r=>[119,104,105,108,101] :: (toks v ++ [100,111] :: (stmtK t ++ [101,110,100] :: [59] :: stmtK r))
 | .ifs _ v t e r=>[105,102] :: (toks v ++ [116,104,101,110] :: (stmtK t ++ ((if e.isNil then [] else [101,108,115,101] :: stmtK e) ++ [101,110,100] :: [59] :: stmtK r)))
theorem WFS_app : ∀ (d:Nat) (l s:S),WFS d l→WFS d s→WFS d (l.app s)
 | _,.nil,_,_,h=>h
 | d,.set _ _ _ _ r,s,h,hs=>⟨h.1,h.2.1,h.2.2.1,WFS_app d r s h.2.2.2 hs⟩
 | d,.ifs _ _ _ _ r,s,h,hs=>⟨h.1,h.2.1,WFS_app d r s h.2.2 hs⟩
 | d,.whil _ _ _ r,s,h,hs=>⟨h.1,h.2.1,WFS_app d r s h.2.2 hs⟩
 | d,.ret _ _ r,s,h,hs=>⟨h.1,WFS_app d r s h.2 hs⟩
 | d,.wri _ _ r,s,h,hs=>⟨h.1,WFS_app d r s h.2 hs⟩
 | d,.call _ _ r,s,h,hs=>⟨h.1,WFS_app d r s h.2 hs⟩
theorem stmtK_app : ∀ (l s:S),stmtK (l.app s)=stmtK l ++ stmtK s
 | .nil,_=>rfl
 | .set _ _ _ _ r,s=>by simp [S.app,stmtK,stmtK_app r s]
 | .ifs _ _ _ _ r,s=>by simp [S.app,stmtK,stmtK_app r s]
 | .whil _ _ _ r,s=>by simp [S.app,stmtK,stmtK_app r s]
 | .ret _ _ r,s=>by simp [S.app,stmtK,stmtK_app r s]
 | .wri _ _ r,s=>by simp [S.app,stmtK,stmtK_app r s]
 | .call _ _ r,s=>by simp [S.app,stmtK,stmtK_app r s]
def Sp1 {α:Type} (p:Ps α) (Q : α→Prop) (c : α→Nat):Prop:=∀ ts a r,Good ts→p ts = .ok a r→Q a∧c a + bytes r≤bytes ts + 1∧Good r
def costR (x:E × S × S):Nat:=(toks x.1).length + 1 + (stmtK x.2.1).length + (if x.2.2.isNil then 0 else (stmtK x.2.2).length + 1)
theorem ex0_is {z:Nat} {ts r:List Tok} {x:E} (hg:Good ts) (h : ex0 z ts = .ok x r):Fits 11 0 x∧(toks x).length + bytes r≤bytes ts∧Good r:=by
 obtain ⟨h1,h2,h3⟩:=ex0_sp z _ _ _ hg h
 have:=(fits0 h1).2
 exact ⟨h1,by omega,h3⟩
theorem first_sp (z d p:Nat):Sp1 (first z p) (WFS d) (fun s=>(stmtK s).length):=by
 intro ts a r hg h
 rw [first] at h
 cases hn : named z (expr z (one z 10) 5) ts with
 | bad e q=>simp only [hn] at h; cases h
 | ok e r1=>
  obtain ⟨e1,e2,e3⟩:=named_sp (d:=10) (expr_sp (one_sp z 10) 5 (Nat.le_refl _)) _ _ _ hg hn
  have set : ∀ (n:List UInt8) (i:Option E),Nm n→(∀ x,i=some x→Fits 10 0 x)→1 + (indexK i).length + bytes r1≤bytes ts →
    (match must z [58,61] r1 with | .bad e q=>R.bad e q | .ok _ r2=>match ex0 z r2 with | .bad e q=>.bad e q | .ok v r3=>.ok (.set p n i v .nil) r3)=R.ok a r→WFS d a∧(stmtK a).length + bytes r≤bytes ts + 1∧Good r:=by
   intro n i hn hi hb h
   cases hm : must z [58,61] r1 with
   | bad e q=>simp only [hm] at h; cases h
   | ok u r2=>
    have m1:=must_sp e3 hm
    simp only [hm] at h
    cases hx : ex0 z r2 with
    | bad e q=>simp only [hx] at h; cases h
    | ok v r3=>
     obtain ⟨x1,x2,x3⟩:=ex0_is m1.2 hx
     simp only [hx] at h
     cases h
     refine ⟨⟨hn,hi,x1,trivial⟩,?_,x3⟩
     simp only [stmtK,List.length_cons,List.length_append,List.length_nil] at *
     omega
  cases e with
  | app a2 m n l=>
   simp only [hn] at h
   cases h
   refine ⟨⟨⟨e1,_,_,_,_,rfl⟩,trivial⟩,?_,e3⟩
   rw [costW,withinK,if_pos (show 5≤lvl (E.app a2 m n l) from Nat.le_refl 5)] at e2
   simp only [stmtK,List.length_append,List.length_cons,List.length_nil]
   omega
  | item a2 m n i=>
   simp only [hn] at h
   split at h
   ·cases h
   ·rename_i hm
    have hm : m=[]:=Classical.not_not.mp hm
    subst hm
    have hd:=e1.2
    rw [needW,if_pos (show 5≤lvl (E.item a2 [] n i) from Nat.le_refl 5),need] at hd
    rw [costW,withinK,if_pos (show 5≤lvl (E.item a2 [] n i) from Nat.le_refl 5)] at e2
    refine set n (some i) e1.1.1.2.1 ?_ ?_ h
    ·intro x hx; cases hx; exact ⟨e1.1.1.2.2,by rw [needW,if_pos (Nat.zero_le _)]; omega⟩
    ·simp only [toks,qualK,indexK,if_true,List.length_append,List.length_cons,List.length_nil] at *; omega
  | var a2 m n=>
   simp only [hn] at h
   split at h
   ·cases h
   ·rename_i hm
    have hm : m=[]:=Classical.not_not.mp hm
    subst hm
    rw [costW,withinK,if_pos (show 5≤lvl (E.var a2 [] n) from Nat.le_refl 5)] at e2
    refine set n none e1.1.1.2 (by intro x hx; cases hx) ?_ h
    simp only [toks,qualK,indexK,if_true,List.length_cons,List.length_nil] at *; omega
  | num _ _=>simp only [hn] at h; cases h
  | un _ _ _=>simp only [hn] at h; cases h
  | bin _ _ _ _=>simp only [hn] at h; cases h
  | nil=>simp only [hn] at h; cases h
  | cons _ _=>simp only [hn] at h; cases h
abbrev RQ (d:Nat) (x:E × S × S):Prop:=Fits 11 0 x.1∧BQ d x.2.1∧BQ d x.2.2
theorem restL_sp {z d:Nat} {bd:Ps S} {more:Ps (E × S × S)} (hb:Sp bd (BQ d) (fun s=>(stmtK s).length)) (hm:Sp more (fun x=>0 < d∧RQ (d - 1) x) costR):Sp (restL z bd more) (RQ d) costR:=by
 intro ts a r hg h
 rw [restL] at h
 cases h1 : ex0 z ts with
 | bad e q=>simp only [h1] at h; cases h
 | ok v r1=>
  obtain ⟨a1,a2,a3⟩:=ex0_is hg h1
  simp only [h1] at h
  cases h2 : must z [116,104,101,110] r1 with
  | bad e q=>simp only [h2] at h; cases h
  | ok u r2=>
   have m1:=must_sp a3 h2
   simp only [h2] at h
   cases h3 : bd r2 with
   | bad e q=>simp only [h3] at h; cases h
   | ok t r3=>
    obtain ⟨b1,b2,b3⟩:=hb _ _ _ m1.2 h3
    replace b2 : (stmtK t).length + bytes r3≤bytes r2:=b2
    simp only [h3] at h
    split at h
    ·rename_i hs
     have hc:=see_cost b3 hs
     cases h4 : more r3.tail with
     | bad e q=>simp only [h4] at h; cases h
     | ok x r4=>
      obtain ⟨c1,c2,c3⟩:=hm _ _ _ hc.2 h4
      simp only [h4] at h
      cases h
      refine ⟨⟨a1,b1,c1.1,c1.2.1,⟨c1.2.2.1,c1.2.2.2⟩,trivial⟩,?_,c3⟩
      rw [costR] at c2 ⊢
      have e1 : ((if x.2.2.isNil then [] else [101,108,115,101] :: stmtK x.2.2):List (List UInt8)).length=(if x.2.2.isNil then 0 else (stmtK x.2.2).length + 1):=by split <;> rfl
      simp only [stmtK,S.isNil,List.length_cons,List.length_append,List.length_nil,e1] at *
      simp only [Bool.false_eq_true,if_false]
      omega
    ·split at h
     ·rename_i hs
      have hc:=see_cost b3 hs
      cases h4 : bd r3.tail with
      | bad e q=>simp only [h4] at h; cases h
      | ok e2 r4=>
       obtain ⟨c1,c2,c3⟩:=hb _ _ _ hc.2 h4
       replace c2 : (stmtK e2).length + bytes r≤bytes r3.tail:=by simp only [h4] at h; cases h; exact c2
       simp only [h4] at h
       cases h
       refine ⟨⟨a1,b1,c1⟩,?_,c3⟩
       rw [costR]
       simp only [List.length_cons,List.length_nil] at *
       split <;> omega
     ·cases h
      refine ⟨⟨a1,b1,b1.1,trivial⟩,?_,b3⟩
      rw [costR]
      simp only [S.isNil,if_true,List.length_cons,List.length_nil] at *
      omega
theorem stmt_sp {z d:Nat} {bd:Ps S} {rest:Ps (E × S × S)} (hb:Sp bd (BQ d) (fun s=>(stmtK s).length)) (hr:Sp rest (RQ d) costR):Sp1 (stmt z bd rest) (WFS d) (fun s=>(stmtK s).length):=by
 intro ts a r hg h
 rw [stmt] at h
 split at h
 ·rename_i hs
  have hc:=see_cost hg hs
  cases h1 : rest ts.tail with
  | bad e q=>simp only [h1] at h; cases h
  | ok x r1=>
   obtain ⟨a1,a2,a3⟩:=hr _ _ _ hc.2 h1
   simp only [h1] at h
   cases h2 : must z [101,110,100] r1 with
   | bad e q=>simp only [h2] at h; cases h
   | ok u r2=>
    have m1:=must_sp a3 h2
    simp only [h2] at h
    cases h
    refine ⟨⟨a1.1,⟨a1.2.1,a1.2.2⟩,trivial⟩,?_,m1.2⟩
    rw [costR] at a2
    have e1 : ((if x.2.2.isNil then [] else [101,108,115,101] :: stmtK x.2.2):List (List UInt8)).length=(if x.2.2.isNil then 0 else (stmtK x.2.2).length + 1):=by split <;> rfl
    simp only [stmtK,List.length_cons,List.length_append,List.length_nil,e1] at *
    omega
 ·split at h
  ·rename_i hs
   have hc:=see_cost hg hs
   cases h1 : ex0 z ts.tail with
   | bad e q=>simp only [h1] at h; cases h
   | ok v r1=>
    obtain ⟨a1,a2,a3⟩:=ex0_is hc.2 h1
    simp only [h1] at h
    cases h2 : must z [100,111] r1 with
    | bad e q=>simp only [h2] at h; cases h
    | ok u r2=>
     have m1:=must_sp a3 h2
     simp only [h2] at h
     cases h3 : bd r2 with
     | bad e q=>simp only [h3] at h; cases h
     | ok t r3=>
      obtain ⟨b1,b2,b3⟩:=hb _ _ _ m1.2 h3
      simp only [h3] at h
      cases h4 : must z [101,110,100] r3 with
      | bad e q=>simp only [h4] at h; cases h
      | ok u r4=>
       have m2:=must_sp b3 h4
       simp only [h4] at h
       cases h
       refine ⟨⟨a1,b1,trivial⟩,?_,m2.2⟩
       simp only [stmtK,List.length_cons,List.length_append,List.length_nil] at *
       omega
  ·split at h
   ·rename_i hs
    have hc:=see_cost hg hs
    cases h1 : ex0 z ts.tail with
    | bad e q=>simp only [h1] at h; cases h
    | ok v r1=>
     obtain ⟨a1,a2,a3⟩:=ex0_is hc.2 h1
     simp only [h1] at h
     cases h
     refine ⟨⟨a1,trivial⟩,?_,a3⟩
     simp only [stmtK,List.length_cons,List.length_append,List.length_nil] at *
     omega
   ·split at h
    ·rename_i hs
     have hc:=see_cost hg hs
     cases h1 : ex0 z ts.tail with
     | bad e q=>simp only [h1] at h; cases h
     | ok v r1=>
      obtain ⟨a1,a2,a3⟩:=ex0_is hc.2 h1
      simp only [h1] at h
      cases h
      refine ⟨⟨a1,trivial⟩,?_,a3⟩
      simp only [stmtK,List.length_cons,List.length_append,List.length_nil] at *
      omega
    ·exact first_sp z d _ _ _ _ hg h
theorem bodyL_sp {z d:Nat} {st:Ps S} (hs:Sp1 st (WFS d) (fun s=>(stmtK s).length)) : ∀ (f:Nat) (l:S) (ts:List Tok) (a:S) (r:List Tok),Good ts→WFS d l→bodyL z st f l ts = .ok a r→WFS d a∧(stmtK a).length + bytes r≤(stmtK l).length + bytes ts∧Good r
 | 0,_,_,_,_,_,_,h=>by cases h
 | f + 1,l,ts,a,r,hg,hl,h=>by
  rw [bodyL] at h
  split at h
  ·cases h; exact ⟨hl,Nat.le_refl _,hg⟩
  ·cases h1 : st ts with
   | bad e q=>simp only [h1] at h; cases h
   | ok s r1=>
    obtain ⟨a1,a2,a3⟩:=hs _ _ _ hg h1
    replace a2 : (stmtK s).length + bytes r1≤bytes ts + 1:=a2
    simp only [h1] at h
    cases h2 : must z [59] r1 with
    | bad e q=>simp only [h2] at h; cases h
    | ok u r2=>
     have m1:=must_sp a3 h2
     simp only [h2] at h
     obtain ⟨b1,b2,b3⟩:=bodyL_sp hs f _ _ _ _ m1.2 (WFS_app d l s hl a1) h
     rw [stmtK_app,List.length_append] at b2
     simp only [List.length_cons,List.length_nil] at m1
     exact ⟨b1,by omega,b3⟩
theorem bodies_sp (z:Nat) : ∀ d,Sp (bodies z d).1 (BQ d) (fun s=>(stmtK s).length)∧Sp (bodies z d).2 (fun x=>0 < d∧RQ (d - 1) x) costR
 | 0=>⟨fun ts a r _ h=>(by cases h),fun ts a r _ h=>(by cases h)⟩
 | d + 1=>by
  obtain ⟨h1,h2⟩:=bodies_sp z d
  have hr:=restL_sp (z:=z) h1 h2
  refine ⟨fun ts a r hg h=>?_,fun ts a r hg h=>?_⟩
  ·obtain ⟨a1,a2,a3⟩:=bodyL_sp (stmt_sp (z:=z) h1 hr) _ .nil _ _ _ hg trivial h
   exact ⟨⟨Nat.succ_pos _,a1⟩,by simpa [stmtK] using a2,a3⟩
  ·obtain ⟨a1,a2,a3⟩:=hr _ _ _ hg h
   exact ⟨⟨Nat.succ_pos _,a1⟩,a2,a3⟩
theorem body0_sp (z:Nat):Sp (body0 z) (WFS 10) (fun s=>(stmtK s).length):=fun ts a r hg h=>by
 obtain ⟨a1,a2,a3⟩:=(bodies_sp z 11).1 ts a r hg h
 exact ⟨a1.2,a2,a3⟩
structure WFG (g:Glob):Prop where
 name:Nm g.name
 low : 0≤g.len
 high : g.len≤30
structure WFP (x:Proc):Prop where
 name:Nm x.name
 params : ∀ n∈x.params,Nm n
 few : x.params.length≤10
 vars : ∀ n∈x.vars,Nm n
 room : x.vars.length≤10 - x.params.length
 body:WFS 10 x.body
structure WFM (m:Mod):Prop where
 name:Nm m.name
 imports : ∀ n∈m.imports,Nm n
 few : m.imports.length≤6
 vars : ∀ g∈m.vars,WFG g
 fewv : m.vars.length≤10
 procs : ∀ x∈m.procs,WFP x
 fewp : m.procs.length≤10
 body:WFS 10 m.body
def namesK:List (List UInt8)→List (List UInt8)
 | []=>[]
 | [n]=>[n]
 | n :: m :: r=>n :: [44] :: namesK (m :: r)
def starK (b:Bool):List (List UInt8):=if b then [[42]] else []
def globK (g:Glob):List (List UInt8):=[118,97,114] :: g.name :: (starK g.seen ++ [58] :: ((if 0 < g.len then [[97,114,114,97,121],Lib.itoa g.len] else [[105,110,116]]) ++ [[59]]))
def headK (s:List UInt8) (l:List (List UInt8)):List (List UInt8):=if l=[] then [] else s :: (namesK l ++ [[59]])
def procK (x:Proc):List (List UInt8):=[112,114,111,99] :: x.name :: (starK x.seen ++ [40] :: (namesK x.params ++ [41] :: [59] :: (headK [118,97,114] x.vars ++ [98,101,103,105,110] :: (stmtK x.body ++ [[101,110,100],[59]]))))
def modK (m:Mod):List (List UInt8):=[109,111,100,117,108,101] :: m.name :: [59] :: (headK [105,109,112,111,114,116] m.imports ++ (m.vars.flatMap globK ++ (m.procs.flatMap procK ++ [98,101,103,105,110] :: (stmtK m.body ++ [[101,110,100],[46]]))))
theorem namesK_len : ∀ (l:List (List UInt8)),l≠[]→(namesK l).length + 1=2 * l.length
 | [n],_=>rfl
 | n :: m :: r,_=>by have:=namesK_len (m :: r) (by simp); simp only [namesK,List.length_cons] at *; omega
theorem skip_cost {s:List UInt8} {ts:List Tok} (hg:Good ts) (hs : s≠[]) : (starK (see s ts)).length + bytes (skip s ts)≤bytes ts∧Good (skip s ts):=by
 rw [skip]
 cases h : see s ts with
 | false=>simp [starK,hg]
 | true=>
  have:=see_cost hg h
  have : 1≤s.length:=by cases s with | nil=>exact absurd rfl hs | cons _ _=>simp
  simp [starK]
  exact ⟨by omega,(see_cost hg h).2⟩
theorem kindOf_sp (z:Nat):Sp (kindOf z) (fun n=>0≤n∧n≤30) (fun n=>if 0 < n then 2 else 1):=by
 intro ts n r hg h
 rw [kindOf] at h
 split at h
 ·rename_i hs
  have hc:=see_cost hg hs
  cases hn : number z 30 ts.tail with
  | bad e q=>simp only [hn] at h; cases h
  | ok n' r1=>
   obtain ⟨a1,a2,a3⟩:=number_sp _ _ _ hc.2 hn
   replace a2 : 1 + bytes r1≤bytes ts.tail:=a2
   simp only [hn] at h
   split at h
   ·cases h
   ·cases h
    refine ⟨a1,?_,a3⟩
    simp only [List.length_cons,List.length_nil] at hc
    show (if 0 < n then 2 else 1) + _≤_
    split <;> omega
 ·cases hm : must z [105,110,116] ts with
  | bad e q=>simp only [hm] at h; cases h
  | ok u r1=>
   have m1:=must_sp hg hm
   simp only [hm] at h
   cases h
   simp only [List.length_cons,List.length_nil] at m1
   exact ⟨⟨by omega,by omega⟩,by show 1 + _≤_; omega,m1.2⟩
theorem glob_sp (z:Nat) : ∀ ts g r,Good ts→glob z ts = .ok g r→WFG g∧(globK g).length + bytes r≤bytes ts + 1∧Good r:=by
 intro ts g r hg h
 rw [glob] at h
 cases h1 : name z ts with
 | bad e q=>simp only [h1] at h; cases h
 | ok n r1=>
  obtain ⟨a1,a2,a3⟩:=name_sp _ _ _ hg h1
  replace a2 : 1 + bytes r1≤bytes ts:=a2
  simp only [h1] at h
  have hk:=skip_cost (s:=[42]) a3 (by simp)
  cases h2 : must z [58] (skip [42] r1) with
  | bad e q=>simp only [h2] at h; cases h
  | ok u r2=>
   have m1:=must_sp hk.2 h2
   simp only [h2] at h
   cases h3 : kindOf z r2 with
   | bad e q=>simp only [h3] at h; cases h
   | ok k r3=>
    obtain ⟨b1,b2,b3⟩:=kindOf_sp z _ _ _ m1.2 h3
    replace b2 : (if 0 < k then 2 else 1) + bytes r3≤bytes r2:=b2
    simp only [h3] at h
    cases h4 : must z [59] r3 with
    | bad e q=>simp only [h4] at h; cases h
    | ok u r4=>
     have m2:=must_sp b3 h4
     simp only [h4] at h
     cases h
     refine ⟨⟨a1,b1.1,b1.2⟩,?_,m2.2⟩
     have e1 : ((if 0 < k then [[97,114,114,97,121],Lib.itoa k] else [[105,110,116]]):List (List UInt8)).length=if 0 < k then 2 else 1:=by split <;> rfl
     simp only [globK,List.length_cons,List.length_append,List.length_nil,e1] at *
     omega
theorem varsL_sp (z:Nat) : ∀ (f:Nat) (l:List Glob) (ts:List Tok) (a:List Glob) (r:List Tok),Good ts→(∀ g∈l,WFG g)→l.length≤10→varsL z f l ts = .ok a r→(∀ g∈a,WFG g)∧a.length≤10∧(a.flatMap globK).length + bytes r≤(l.flatMap globK).length + bytes ts∧Good r
 | 0,_,_,_,_,_,_,_,h=>by cases h
 | f + 1,l,ts,a,r,hg,hl,hn,h=>by
  rw [varsL] at h
  split at h
  ·rename_i hs
   have hc:=see_cost hg hs
   split at h
   ·cases h
   ·cases h1 : glob z ts.tail with
    | bad e q=>simp only [h1] at h; cases h
    | ok g r1=>
     obtain ⟨a1,a2,a3⟩:=glob_sp z _ _ _ hc.2 h1
     simp only [h1] at h
     obtain ⟨b1,b2,b3,b4⟩:=varsL_sp z f _ _ _ _ a3 (by
      intro x hx
      rcases List.mem_append.mp hx with hx | hx
      ·exact hl x hx
      ·simp at hx; subst hx; exact a1) (by simp; omega) h
     refine ⟨b1,b2,?_,b4⟩
     simp only [List.flatMap_append,List.flatMap_cons,List.flatMap_nil,List.append_nil,List.length_append,List.length_cons,List.length_nil] at *
     omega
  ·cases h; exact ⟨hl,hn,Nat.le_refl _,hg⟩
theorem params_sp (z:Nat) : ∀ ts l r,Good ts→params z ts = .ok l r→(∀ n∈l,Nm n)∧l.length≤10∧(namesK l).length + 1 + bytes r≤bytes ts∧Good r:=by
 intro ts l r hg h
 rw [params] at h
 split at h
 ·rename_i hs
  have hc:=see_cost hg hs
  cases h
  simp only [List.length_cons,List.length_nil] at hc
  exact ⟨by simp,by simp,by simp [namesK]; omega,hc.2⟩
 ·cases h1 : names z 10 ts with
  | bad e q=>simp only [h1] at h; cases h
  | ok l' r1=>
   obtain ⟨a1,a2,a3,a4,a5⟩:=names_sp hg h1
   simp only [h1] at h
   cases h2 : must z [41] r1 with
   | bad e q=>simp only [h2] at h; cases h
   | ok u r2=>
    have m1:=must_sp a5 h2
    simp only [h2] at h
    cases h
    have:=namesK_len l a3
    simp only [List.length_cons,List.length_nil] at m1
    exact ⟨a1,a2,by omega,m1.2⟩
theorem head_sp {z most:Nat} {s:List UInt8} {ts:List Tok} {l:List (List UInt8)} {r:List Tok} (hs : s≠[]) (hg:Good ts) (h : (if see s ts then match names z most ts.tail with
  | .bad e p=>.bad e p
  | .ok l r=>match must z [59] r with
   | .bad e p=>.bad e p
   | .ok _ r2=>.ok l r2
 else R.ok [] ts) = .ok l r) : (∀ n∈l,Nm n)∧l.length≤most∧(headK s l).length + bytes r≤bytes ts∧Good r:=by
 split at h
 ·rename_i h0
  have hc:=see_cost hg h0
  have hl : 1≤s.length:=by cases s with | nil=>exact absurd rfl hs | cons _ _=>simp
  cases h1 : names z most ts.tail with
  | bad e q=>simp only [h1] at h; cases h
  | ok l' r1=>
   obtain ⟨a1,a2,a3,a4,a5⟩:=names_sp hc.2 h1
   simp only [h1] at h
   cases h2 : must z [59] r1 with
   | bad e q=>simp only [h2] at h; cases h
   | ok u r2=>
    have m1:=must_sp a5 h2
    simp only [h2] at h
    cases h
    have:=namesK_len l a3
    refine ⟨a1,a2,?_,m1.2⟩
    rw [headK,if_neg a3]
    simp only [List.length_cons,List.length_append,List.length_nil] at *
    omega
 ·cases h; exact ⟨by simp,by simp,by simp [headK],hg⟩
theorem block_sp (z:Nat) {m:List UInt8} (hm : m.length=1) : ∀ ts b r,Good ts→block z m ts = .ok b r→WFS 10 b∧(stmtK b).length + 3 + bytes r≤bytes ts∧Good r:=by
 intro ts b r hg h
 rw [block] at h
 cases h1 : must z [98,101,103,105,110] ts with
 | bad e q=>simp only [h1] at h; cases h
 | ok u r1=>
  have m1:=must_sp hg h1
  simp only [h1] at h
  cases h2 : body0 z r1 with
  | bad e q=>simp only [h2] at h; cases h
  | ok s r2=>
   obtain ⟨a1,a2,a3⟩:=body0_sp z _ _ _ m1.2 h2
   replace a2 : (stmtK s).length + bytes r2≤bytes r1:=a2
   simp only [h2] at h
   cases h3 : must z [101,110,100] r2 with
   | bad e q=>simp only [h3] at h; cases h
   | ok u r3=>
    have m2:=must_sp a3 h3
    simp only [h3] at h
    cases h4 : must z m r3 with
    | bad e q=>simp only [h4] at h; cases h
    | ok u r4=>
     have m3:=must_sp m2.2 h4
     simp only [h4] at h
     cases h
     simp only [List.length_cons,List.length_nil] at m1 m2 m3
     exact ⟨a1,by omega,m3.2⟩
theorem proc_sp (z:Nat) : ∀ ts x r,Good ts→proc z ts = .ok x r→WFP x∧(procK x).length + bytes r≤bytes ts∧Good r:=by
 intro ts x r hg h
 rw [proc] at h
 cases h1 : must z [112,114,111,99] ts with
 | bad e q=>simp only [h1] at h; cases h
 | ok u r1=>
  have m1:=must_sp hg h1
  simp only [h1] at h
  cases h2 : name z r1 with
  | bad e q=>simp only [h2] at h; cases h
  | ok n r2=>
   obtain ⟨a1,a2,a3⟩:=name_sp _ _ _ m1.2 h2
   replace a2 : 1 + bytes r2≤bytes r1:=a2
   simp only [h2] at h
   have hk:=skip_cost (s:=[42]) a3 (by simp)
   cases h3 : must z [40] (skip [42] r2) with
   | bad e q=>simp only [h3] at h; cases h
   | ok u r3=>
    have m2:=must_sp hk.2 h3
    simp only [h3] at h
    cases h4 : params z r3 with
    | bad e q=>simp only [h4] at h; cases h
    | ok ps r4=>
     obtain ⟨b1,b2,b3,b4⟩:=params_sp z _ _ _ m2.2 h4
     simp only [h4] at h
     cases h5 : must z [59] r4 with
     | bad e q=>simp only [h5] at h; cases h
     | ok u r5=>
      have m3:=must_sp b4 h5
      simp only [h5] at h
      cases h6 : locals z (10 - ps.length) r5 with
      | bad e q=>simp only [h6] at h; cases h
      | ok vs r6=>
       obtain ⟨c1,c2,c3,c4⟩:=head_sp (s:=[118,97,114]) (by simp) m3.2 h6
       simp only [h6] at h
       cases h7 : block z [59] r6 with
       | bad e q=>simp only [h7] at h; cases h
       | ok b r7=>
        obtain ⟨d1,d2,d3⟩:=block_sp z rfl _ _ _ c4 h7
        simp only [h7] at h
        cases h
        refine ⟨⟨a1,b1,b2,c1,c2,d1⟩,?_,d3⟩
        simp only [procK,List.length_cons,List.length_append,List.length_nil] at *
        omega
theorem procsL_sp (z:Nat) : ∀ (f:Nat) (l:List Proc) (ts:List Tok) (a:List Proc) (r:List Tok),Good ts→(∀ g∈l,WFP g)→l.length≤10→procsL z f l ts = .ok a r→(∀ g∈a,WFP g)∧a.length≤10∧(a.flatMap procK).length + bytes r≤(l.flatMap procK).length + bytes ts∧Good r
 | 0,_,_,_,_,_,_,_,h=>by cases h
 | f + 1,l,ts,a,r,hg,hl,hn,h=>by
  rw [procsL] at h
  split at h
  ·split at h
   ·cases h
   ·cases h1 : proc z ts with
    | bad e q=>simp only [h1] at h; cases h
    | ok g r1=>
     obtain ⟨a1,a2,a3⟩:=proc_sp z _ _ _ hg h1
     simp only [h1] at h
     obtain ⟨b1,b2,b3,b4⟩:=procsL_sp z f _ _ _ _ a3 (by
      intro x hx
      rcases List.mem_append.mp hx with hx | hx
      ·exact hl x hx
      ·simp at hx; subst hx; exact a1) (by simp; omega) h
     refine ⟨b1,b2,?_,b4⟩
     simp only [List.flatMap_append,List.flatMap_cons,List.flatMap_nil,List.append_nil,List.length_append] at *
     omega
  ·cases h; exact ⟨hl,hn,Nat.le_refl _,hg⟩
theorem module_sp (z:Nat) : ∀ ts m r,Good ts→module_ z ts = .ok m r→WFM m∧(modK m).length + bytes r≤bytes ts∧Good r:=by
 intro ts m r hg h
 rw [module_] at h
 cases h1 : must z [109,111,100,117,108,101] ts with
 | bad e q=>simp only [h1] at h; cases h
 | ok u r1=>
  have m1:=must_sp hg h1
  simp only [h1] at h
  cases h2 : name z r1 with
  | bad e q=>simp only [h2] at h; cases h
  | ok n r2=>
   obtain ⟨a1,a2,a3⟩:=name_sp _ _ _ m1.2 h2
   replace a2 : 1 + bytes r2≤bytes r1:=a2
   simp only [h2] at h
   cases h3 : must z [59] r2 with
   | bad e q=>simp only [h3] at h; cases h
   | ok u r3=>
    have m2:=must_sp a3 h3
    simp only [h3] at h
    cases h4 : imports z r3 with
    | bad e q=>simp only [h4] at h; cases h
    | ok is r4=>
     obtain ⟨b1,b2,b3,b4⟩:=head_sp (s:=[105,109,112,111,114,116]) (by simp) m2.2 h4
     simp only [h4] at h
     cases h5 : varsL z 11 [] r4 with
     | bad e q=>simp only [h5] at h; cases h
     | ok vs r5=>
      obtain ⟨c1,c2,c3,c4⟩:=varsL_sp z _ _ _ _ _ b4 (by simp) (by simp) h5
      simp only [h5] at h
      cases h6 : procsL z 11 [] r5 with
      | bad e q=>simp only [h6] at h; cases h
      | ok ps r6=>
       obtain ⟨d1,d2,d3,d4⟩:=procsL_sp z _ _ _ _ _ c4 (by simp) (by simp) h6
       simp only [h6] at h
       cases h7 : block z [46] r6 with
       | bad e q=>simp only [h7] at h; cases h
       | ok b r7=>
        obtain ⟨e1,e2,e3⟩:=block_sp z rfl _ _ _ d4 h7
        simp only [h7] at h
        cases h
        refine ⟨⟨a1,b1,b2,c1,c2,d1,d2,e1⟩,?_,e3⟩
        simp only [modK,List.length_cons,List.length_append,List.length_nil,List.flatMap_nil] at *
        omega
theorem parse_sp {l:List UInt8} {m:Mod} (h : parse l = .ok m):WFM m∧(modK m).length≤l.length:=by
 rw [parse] at h
 cases hl : lex l with
 | bad e p=>simp only [hl] at h; cases h
 | ok ts=>
  have h1:=lexL_good _ _ _ _ _ hl
  simp only [hl] at h
  cases hm : module_ l.length ts with
  | bad e p=>simp only [hm] at h; cases h
  | ok m' r=>
   obtain ⟨a1,a2,_⟩:=module_sp _ _ _ _ h1.1 hm
   simp only [hm] at h
   cases r with
   | nil=>cases h; exact ⟨a1,by omega⟩
   | cons t r=>cases h
end Go.Mq.Tree
