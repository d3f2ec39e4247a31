/- Some texts in one. -/
import Derived.Shelf.Strings.Prefix
import Derived.Defers
import Derived.Recover
import Derived.Test.YtojkkgghndeimaaGreatDoorS1
import Derived.Test.YtojkkgghndeimaaGreatDoorS7
import Derived.Test.YtojkkgghndeimaaGreatDoorS8
import Derived.Test.YtojkkgghndeimaaGreatDoorS13
namespace Go.Mq.Tree
open Go Go.RowKit Go.Mq
theorem namesL_most {z most:Nat} : ∀ f l (ts:List Tok) a r,l.length≤most→namesL z most f l ts = .ok a r→a.length≤most:=by
 intro f
 induction f with
 | zero=>intro l ts a r _ h; cases h
 | succ f ih=>
  intro l ts a r hl h
  rw [namesL] at h
  split at h
  ·cases h
  ·rename_i hne
   cases hn : name z ts with
   | bad e q=>simp only [hn] at h; cases h
   | ok n r1=>
    simp only [hn] at h
    split at h
    ·exact ih _ _ _ _ (by simp; omega) h
    ·cases h; simp; omega
theorem names_most {z most:Nat} {ts r:List Tok} {l:List (List UInt8)} (h : names z most ts = .ok l r) : l.length≤most:=namesL_most _ _ _ _ _ (Nat.zero_le _) h
theorem sub_wrap {k:Nat} (h : k≤10):IntKind.i64.wrap (10 - (k:Int))=((10 - k:Nat):Int):=by
 simp only [IntKind.wrap,IntKind.bits,IntKind.signed]; simp; omega
theorem set6 {w:World} {b:Nat} (v0 v1 v2 v3 v4 v5:Value) {u0 u1 u2 u3 u4 u5:Value} {t:TypeId} (h:Blk w b #[u0,u1,u2,u3,u4,u5] t) : ∃ wF,((((((w.setCell ⟨b,0,none⟩ v0).setCell ⟨b,1,none⟩ v1).setCell ⟨b,2,none⟩ v2).setCell ⟨b,3,none⟩ v3).setCell ⟨b,4,none⟩ v4).setCell ⟨b,5,none⟩ v5)=wF∧Chg [b] w wF∧Blk wF b #[v0,v1,v2,v3,v4,v5] t:=
 ⟨_,rfl,(((((Chg.set1 _ _ _ _).then (Chg.set1 _ _ _ _)).then (Chg.set1 _ _ _ _)).then (Chg.set1 _ _ _ _)).then (Chg.set1 _ _ _ _)).then (Chg.set1 _ _ _ _),by
  have:=(((((h.set 0 v0).set 1 v1).set 2 v2).set 3 v3).set 4 v4).set 5 v5
  simpa using this⟩
end Go.Mq.Tree
namespace Go.Proofs.YtojkkgghndeimaaGreatDoor
open Go Go.RowKit Go.Mq Go.Mq.Tree
set_option maxRecDepth 100000
set_option maxHeartbeats 16000000
abbrev PV (w:World):World→Proc→Value→Prop:=fun w' x v=>∃ cs,v = .agg cs.toArray∧PrAt w' (New w w') x cs
theorem proc_any (w:World) (B bp bt z:Nat) (ts:List Tok) (h:Par w B bp bt z ts):Calls Tryz.prog 105 #[ptr bp] w (Ended w B bp bt z (proc z ts) (PV w)):=by
 have hbp:=h.bp_lt
 have hbt:=h.bt_lt
 have hB0:=h.laid.le
 have hBp:=h.bpB
 obtain ⟨off,c,nn,c0,c2⟩:=par_at h
 have hw1 : (w.alloc (.cells #[str [],.int .i64 0,.bool false,nils,nils,nils] 87)).heap.size=w.heap.size + 1:=by simp
 obtain ⟨w0,hw0⟩ : ∃ w0,w0=(w.alloc (.cells #[str [],.int .i64 0,.bool false,nils,nils,nils] 87)).alloc (.cells #[str [],.int .i64 (hd z ts),.bool false,nils,nils,nils] 87):=⟨_,rfl⟩
 have hb0:=Blk.new (w.alloc (.cells #[str [],.int .i64 0,.bool false,nils,nils,nils] 87)) #[str [],.int .i64 (hd z ts),.bool false,nils,nils,nils] 87
 rw [hw1,← hw0] at hb0
 have H0:Hid (Mk 87 w w0 B bp bt z ts #[str [],.int .i64 0,.bool false,nils,nils,nils] #[str [],.int .i64 (hd z ts),.bool false,nils,nils,nils] (fun _ _=>True)):=Lib.hid (by
  refine ⟨framed_true,hbp,hbt,?_,?_,hb0,?_,?_,trivial⟩
  ·rw [hw0]; exact ((Chg.refl _ _).alloc _).alloc _
  ·rw [hw0]; exact h.kept (((Chg.refl [] w).alloc _).alloc _) (by simp) (by simp) (by simp)
  ·rw [hw0]; exact (Blk.new w _ 87).kept ((Chg.refl [] _).alloc _) (by simp)
  ·rw [hw0]; simp)
 clear h hb0 hw1
 go_enter Tryz.func105,Tryz.ntmps105
 go_wp2_with fail
 clear c0 c2
 change Calls _ _ _ ((w.alloc (.cells #[str [],.int .i64 0,.bool false,nils,nils,nils] 87)).alloc (.cells #[str [],.int .i64 (hd z ts),.bool false,nils,nils,nils] 87)) _
 rw [← hw0]
 clear hw0
 have K:=Lib.hid (must_any [112,114,111,99] _ _ _ _ _ ts H0.out.par)
 go_wp2_with fail
 refine K.out.mono ?_; intro e w1 he
 rcases he.cut with ⟨en,q,b9,rfl,hx,HE⟩ | ⟨_,r1,_,rfl,X1,rfl,hc,hp⟩
 ·go_wp2_with fail; exact ⟨rfl,HE.out _ _ _ H0.out.chg (by simp only [proc,hx.out])⟩
 have H1:=Lib.hid (H0.out.step hc hp); clear hc hp K he
 have K:=Lib.hid (name_any _ _ _ _ _ _ H1.out.par)
 go_wp2_with fail
 refine K.out.mono ?_; intro e w2 he
 rcases he.cut with ⟨en,q,b9,rfl,hx,HE⟩ | ⟨n,r2,_,rfl,X2,rfl,hc,hp⟩
 ·go_wp2_with fail; exact ⟨rfl,HE.out _ _ _ H1.out.chg (by simp only [proc,X1.out,hx.out])⟩
 have H2:=Lib.hid (H1.out.step hc hp); clear hc hp K he
 have K:=Lib.hid (take_any [42] _ _ _ _ _ _ H2.out.par)
 go_wp2_with fail
 refine K.out.mono ?_; rintro _ w3 ⟨rfl,hp,hc,_⟩
 have H3a:=Lib.hid (H2.out.step hc hp); clear hc hp K
 obtain ⟨e0,_,e2,_⟩:=H3a.out.blk.six; obtain ⟨f0,_,f2,_⟩:=H3a.out.blk.free6
 obtain ⟨w3b,hw⟩ : ∃ w3b,w3b=(w3.setCell ⟨w.heap.size + 1,0,none⟩ (str n)).setCell ⟨w.heap.size + 1,2,none⟩ (.bool (see [42] r2)):=⟨_,rfl⟩
 have H3:=Lib.hid ((H3a.out.store 0 (str n)).store 2 (.bool (see [42] r2)))
 simp only [Array.setIfInBounds] at H3
 rw [← hw] at H3
 have K:=Lib.hid (must_any [40] _ _ _ _ _ _ H3.out.par)
 go_wp2_with fail
 rw [← hw]
 refine K.out.mono ?_; intro e w4 he
 rcases he.cut with ⟨en,q,b9,rfl,hx,HE⟩ | ⟨_,r4,_,rfl,X4,rfl,hc,hp⟩
 ·go_wp2_with fail; exact ⟨rfl,HE.out _ _ _ H3.out.chg (by simp only [proc,X1.out,X2.out,hx.out])⟩
 have H4:=Lib.hid (H3.out.step hc hp); clear hc hp K he
 clear e0 e2 f0 f2 hw
 have KT:=Lib.hid (take_any [41] _ _ _ _ _ _ H4.out.par)
 cases hk : see [41] r4
 case' true=>
  have HI:=Lib.hid hk
  clear hk
  go_wp2_with fail
  refine KT.out.mono ?_; rintro _ wP ⟨rfl,hp,hc,_⟩
  rw [HI.out]
  rw [skip,HI.out,if_pos rfl] at hp
  obtain ⟨rP,ps,a3,c3,hps,HP,HS⟩ : ∃ rP ps a3 c3,ps.length≤10∧Hid (params z r4 = .ok ps rP)∧Hid (Mk 87 w wP B bp bt z rP #[str [],.int .i64 0,.bool false,nils,nils,nils] #[str n,.int .i64 (hd z ts),.bool (see [42] r2),.slice a3 ps.length c3,nils,nils] (fun w F=>True∧NamesAt w F ps (.slice a3 ps.length c3))):=
   ⟨_,[],none,0,by simp,Lib.hid (by rw [params,if_pos HI.out]),Lib.hid ((H4.out.step hc hp).add (framed_Names [] nils) NamesAt.nil)⟩
  clear hc hp HI
 case' false=>
  have HI:=Lib.hid hk
  clear hk
  go_wp2_with fail
  refine KT.out.mono ?_; rintro _ w5 ⟨rfl,_,_,hw⟩
  rw [HI.out]
  have hw':=(hw HI.out).symm; subst hw'; clear hw
  have K:=Lib.hid (names_any 10 (by omega) _ _ _ _ _ _ H4.out.par)
  go_wp2_with fail
  refine K.out.mono ?_; intro e w5 he
  rcases he.cut with ⟨en,q,b9,rfl,hx,HE⟩ | ⟨ps,r5,_,rfl,X5,⟨a3,c3,rfl,hac,hv⟩,hc,hp⟩
  ·go_wp2_with fail; exact ⟨rfl,HE.out _ _ _ H4.out.chg (by simp only [proc,X1.out,X2.out,X4.out,params,HI.out,Bool.false_eq_true,if_false,hx.out])⟩
  have H5:=Lib.hid (H4.out.call hc hp (framed_Names ps (.slice a3 ps.length c3)) ⟨_,_,rfl,hac,hv⟩); clear hc hp K he
  have hps : ps.length≤10:=names_most X5.out
  clear hac hv
  obtain ⟨_,_,_,e3,_⟩:=H5.out.blk.six; obtain ⟨_,_,_,f3,_⟩:=H5.out.blk.free6
  obtain ⟨w6,hw⟩ : ∃ x,x=w5.setCell ⟨w.heap.size + 1,3,none⟩ (.slice a3 ps.length c3):=⟨_,rfl⟩
  have H6:=Lib.hid (H5.out.store 3 (.slice a3 ps.length c3))
  simp only [Array.setIfInBounds] at H6
  rw [← hw] at H6
  have K:=Lib.hid (must_any [41] _ _ _ _ _ _ H6.out.par)
  go_wp2_with fail
  rw [← hw]
  refine K.out.mono ?_; intro e w7 he
  rcases he.cut with ⟨en,q,b9,rfl,hx,HE⟩ | ⟨_,r7,_,rfl,X7,rfl,hc,hp⟩
  ·go_wp2_with fail; exact ⟨rfl,HE.out _ _ _ H6.out.chg (by simp only [proc,X1.out,X2.out,X4.out,params,HI.out,Bool.false_eq_true,if_false,X5.out,hx.out])⟩
  have HS:=Lib.hid (H6.out.step hc hp); clear hc hp K he
  have HP:=Lib.hid (show params z r4 = .ok ps r7 by simp only [params,HI.out,Bool.false_eq_true,if_false,X5.out,X7.out])
  obtain ⟨rP,rfl⟩ : ∃ x,x=r7:=⟨_,rfl⟩
  obtain ⟨wP,rfl⟩ : ∃ x,x=w7:=⟨_,rfl⟩
  clear e3 f3 hw HI
 all_goals
  clear KT
  have K:=Lib.hid (must_any [59] _ _ _ _ _ _ HS.out.par)
  go_wp2_with fail
  refine K.out.mono ?_; intro e w8 he
  rcases he.cut with ⟨en,q,b9,rfl,hx,HE⟩ | ⟨_,r8,_,rfl,X8,rfl,hc,hp⟩
  ·go_wp2_with fail; exact ⟨rfl,HE.out _ _ _ HS.out.chg (by simp only [proc,X1.out,X2.out,X4.out,HP.out,hx.out])⟩
  have H8:=Lib.hid (HS.out.step hc hp); clear hc hp K he
  have KT:=Lib.hid (take_any [118,97,114] _ _ _ _ _ _ H8.out.par)
  obtain ⟨_,_,_,e3,_⟩:=H8.out.blk.six
  cases hk : see [118,97,114] r8
  case' true=>
   have HI:=Lib.hid hk
   clear hk
   go_wp2_with fail
   refine KT.out.mono ?_; rintro _ w9 ⟨rfl,hp,hc,_⟩
   rw [HI.out]
   rw [skip,HI.out,if_pos rfl] at hp
   have H9:=Lib.hid (H8.out.step hc hp)
   clear hc hp e3
   obtain ⟨_,_,_,e3,_⟩:=H9.out.blk.six
   have hsub:=sub_wrap hps
   have K:=Lib.hid (names_any (10 - ps.length) (by omega) _ _ _ _ _ _ H9.out.par)
   go_wp2_with fail
   refine K.out.mono ?_; intro e w10 he
   rcases he.cut with ⟨en,q,b9,rfl,hx,HE⟩ | ⟨vs,r10,_,rfl,X10,⟨a4,c4,rfl,hac,hv⟩,hc,hp⟩
   ·go_wp2_with fail; exact ⟨rfl,HE.out _ _ _ H9.out.chg (by simp only [proc,X1.out,X2.out,X4.out,HP.out,X8.out,locals,HI.out,if_true,hx.out])⟩
   have H10:=Lib.hid (H9.out.call hc hp (framed_Names vs (.slice a4 vs.length c4)) ⟨_,_,rfl,hac,hv⟩); clear hc hp K he
   clear hac hv e3 hsub
   obtain ⟨_,_,_,_,e4,_⟩:=H10.out.blk.six; obtain ⟨_,_,_,_,f4,_⟩:=H10.out.blk.free6
   obtain ⟨w11,hw⟩ : ∃ x,x=w10.setCell ⟨w.heap.size + 1,4,none⟩ (.slice a4 vs.length c4):=⟨_,rfl⟩
   have H11:=Lib.hid (H10.out.store 4 (.slice a4 vs.length c4))
   simp only [Array.setIfInBounds] at H11
   rw [← hw] at H11
   have K:=Lib.hid (must_any [59] _ _ _ _ _ _ H11.out.par)
   go_wp2_with fail
   rw [← hw]
   refine K.out.mono ?_; intro e w12 he
   rcases he.cut with ⟨en,q,b9,rfl,hx,HE⟩ | ⟨_,r12,_,rfl,X12,rfl,hc,hp⟩
   ·go_wp2_with fail; exact ⟨rfl,HE.out _ _ _ H11.out.chg (by simp only [proc,X1.out,X2.out,X4.out,HP.out,X8.out,locals,HI.out,if_true,X10.out,hx.out])⟩
   have HT:=Lib.hid (H11.out.step hc hp); clear hc hp K he
   have HL:=Lib.hid (show locals z (10 - ps.length) r8 = .ok vs r12 by simp only [locals,HI.out,if_true,X10.out,X12.out])
   obtain ⟨rL,rfl⟩ : ∃ x,x=r12:=⟨_,rfl⟩
   obtain ⟨wL,rfl⟩ : ∃ x,x=w12:=⟨_,rfl⟩
   clear e4 f4 hw HI
  case' false=>
   have HI:=Lib.hid hk
   clear hk
   go_wp2_with fail
   refine KT.out.mono ?_; rintro _ w9 ⟨rfl,_,_,hw⟩
   rw [HI.out]
   have hw':=(hw HI.out).symm; subst hw'; clear hw e3
   obtain ⟨rL,vs,a4,c4,HL,HT⟩ : ∃ rL vs a4 c4,Hid (locals z (10 - ps.length) r8 = .ok vs rL)∧Hid (Mk 87 w w8 B bp bt z rL #[str [],.int .i64 0,.bool false,nils,nils,nils] #[str n,.int .i64 (hd z ts),.bool (see [42] r2),.slice a3 ps.length c3,.slice a4 vs.length c4,nils] (fun w F=>(True∧NamesAt w F ps (.slice a3 ps.length c3))∧NamesAt w F vs (.slice a4 vs.length c4))):=
    ⟨_,[],none,0,Lib.hid (by simp only [locals,HI.out,Bool.false_eq_true,if_false]),Lib.hid (H8.out.add (framed_Names [] nils) NamesAt.nil)⟩
   obtain ⟨wL,rfl⟩ : ∃ x,x=w8:=⟨_,rfl⟩
   clear HI
  all_goals
   clear KT
   have K:=Lib.hid (must_any [98,101,103,105,110] _ _ _ _ _ _ HT.out.par)
   go_wp2_with fail
   refine K.out.mono ?_; intro e w13 he
   rcases he.cut with ⟨en,q,b9,rfl,hx,HE⟩ | ⟨_,r13,_,rfl,X13,rfl,hc,hp⟩
   ·go_wp2_with fail; exact ⟨rfl,HE.out _ _ _ HT.out.chg (by simp only [proc,X1.out,X2.out,X4.out,HP.out,X8.out,HL.out,block,hx.out])⟩
   have H13:=Lib.hid (HT.out.step hc hp); clear hc hp K he
   have K:=Lib.hid (body0_any _ _ _ _ _ _ H13.out.par)
   go_wp2_with fail
   refine K.out.mono ?_; intro e w14 he
   rcases he.cut with ⟨en,q,b9,rfl,hx,HE⟩ | ⟨b,r14,_,rfl,X14,⟨a5,c5,cs5,rfl,hv⟩,hc,hp⟩
   ·go_wp2_with fail; exact ⟨rfl,HE.out _ _ _ H13.out.chg (by simp only [proc,X1.out,X2.out,X4.out,HP.out,X8.out,HL.out,block,X13.out,hx.out])⟩
   have H14:=Lib.hid (H13.out.call hc hp (framed_Sl b (.slice a5 b.len c5)) ⟨_,_,_,rfl,hv⟩); clear hc hp K he
   clear hv
   obtain ⟨_,_,_,_,_,e5⟩:=H14.out.blk.six; obtain ⟨_,_,_,_,_,f5⟩:=H14.out.blk.free6
   obtain ⟨w15,hw⟩ : ∃ x,x=w14.setCell ⟨w.heap.size + 1,5,none⟩ (.slice a5 b.len c5):=⟨_,rfl⟩
   have H15:=Lib.hid (H14.out.store 5 (.slice a5 b.len c5))
   simp only [Array.setIfInBounds] at H15
   rw [← hw] at H15
   have K:=Lib.hid (must_any [101,110,100] _ _ _ _ _ _ H15.out.par)
   go_wp2_with fail
   rw [← hw]
   refine K.out.mono ?_; intro e w16 he
   rcases he.cut with ⟨en,q,b9,rfl,hx,HE⟩ | ⟨_,r16,_,rfl,X16,rfl,hc,hp⟩
   ·go_wp2_with fail; exact ⟨rfl,HE.out _ _ _ H15.out.chg (by simp only [proc,X1.out,X2.out,X4.out,HP.out,X8.out,HL.out,block,X13.out,X14.out,hx.out])⟩
   have H16:=Lib.hid (H15.out.step hc hp); clear hc hp K he
   clear e5 f5 hw
   have K:=Lib.hid (must_any [59] _ _ _ _ _ _ H16.out.par)
   go_wp2_with fail
   refine K.out.mono ?_; intro e w17 he
   rcases he.cut with ⟨en,q,b9,rfl,hx,HE⟩ | ⟨_,r17,_,rfl,X17,rfl,hc,hp⟩
   ·go_wp2_with fail; exact ⟨rfl,HE.out _ _ _ H16.out.chg (by simp only [proc,X1.out,X2.out,X4.out,HP.out,X8.out,HL.out,block,X13.out,X14.out,X16.out,hx.out])⟩
   have H17:=Lib.hid (H16.out.step hc hp); clear hc hp K he
   have HRR:=Lib.hid (show proc z ts = .ok ⟨n,hd z ts,see [42] r2,ps,vs,b⟩ r17 by simp only [proc,X1.out,X2.out,X4.out,HP.out,X8.out,HL.out,block,X13.out,X14.out,X16.out,X17.out])
   obtain ⟨d0,d1,d2,d3,d4,d5⟩:=H17.out.blk.six; obtain ⟨e0,e1,e2,e3,e4,e5⟩:=H17.out.res.six; obtain ⟨f0,f1,f2,f3,f4,f5⟩:=H17.out.res.free6
   go_wp2_with fail
   obtain ⟨wF,hwF,hcF,hbF⟩:=set6 (str n) (.int .i64 (hd z ts)) (.bool (see [42] r2)) (.slice a3 ps.length c3) (.slice a4 vs.length c4) (.slice a5 b.len c5) H17.out.res
   rw [hwF]
   clear hwF
   obtain ⟨g0,g1,g2,g3,g4,g5⟩:=hbF.six
   refine bodyPost_ret (v:=.agg #[str n,.int .i64 (hd z ts),.bool (see [42] r2),.slice a3 ps.length c3,.slice a4 vs.length c4,.slice a5 b.len c5]) (by simp [results,Tryz.results105,go_sem,g0,g1,g2,g3,g4,g5]) rfl ?_
   rw [HRR.out]
   have hq:=H17.out.fin hcF
   exact ⟨H17.out.chg.trans hcF (fun x hx=>.inr (by simp at hx; omega)),_,rfl,⟨_,rfl,_,_,_,rfl,hq.1.1.2,hq.1.2,hq.2⟩,H17.out.par.kept hcF (fun x hx=>by simp at hx; omega) (by simp; omega) (by simp; omega)⟩
end Go.Proofs.YtojkkgghndeimaaGreatDoor
namespace Go.Mq.Tree
open Go Go.RowKit Go.Mq
theorem framed_Globs (l:List Glob) (v:Value):Framed (fun w F=>GlobsAt w F l v):=⟨fun hF h=>h.mono hF,fun hc hS h=>h.kept hc hS⟩
theorem framed_Procs (l:List Proc) (v:Value):Framed (fun w F=>ProcsAt w F l v):=⟨fun hF h=>h.mono hF,fun hc hS h=>h.kept hc hS⟩
theorem framed_Pr (x:Proc) (cs:List Value):Framed (fun w F=>PrAt w F x cs):=⟨fun hF h=>h.mono hF,fun hc hS h=>h.kept hc hS⟩
theorem set5 {w:World} {b:Nat} (v0 v1 v2 v3 v4:Value) {u0 u1 u2 u3 u4:Value} {t:TypeId} (h:Blk w b #[u0,u1,u2,u3,u4] t) : ∃ wF,(((((w.setCell ⟨b,0,none⟩ v0).setCell ⟨b,1,none⟩ v1).setCell ⟨b,2,none⟩ v2).setCell ⟨b,3,none⟩ v3).setCell ⟨b,4,none⟩ v4)=wF∧Chg [b] w wF∧Blk wF b #[v0,v1,v2,v3,v4] t:=
 ⟨_,rfl,((((Chg.set1 _ _ _ _).then (Chg.set1 _ _ _ _)).then (Chg.set1 _ _ _ _)).then (Chg.set1 _ _ _ _)).then (Chg.set1 _ _ _ _),by
  have:=((((h.set 0 v0).set 1 v1).set 2 v2).set 3 v3).set 4 v4
  simpa using this⟩
end Go.Mq.Tree
namespace Go.Proofs.YtojkkgghndeimaaGreatDoor
open Go Go.RowKit Go.Mq Go.Mq.Tree
set_option maxRecDepth 100000
set_option maxHeartbeats 16000000
theorem infoProc : (Tryz.prog.info? 87).map (fun i=>(i.zero,i.size,i.bytes))=some (some (.agg #[.string ⟨#[]⟩,.int .i64 0,.bool false,.slice none 0 0,.slice none 0 0,.slice none 0 0]),6,104):=by kernel_rfl
theorem module_any (w:World) (B bp bt z:Nat) (ts:List Tok) (h:Par w B bp bt z ts):Calls Tryz.prog 50 #[ptr bp] w (Ended w B bp bt z (module_ z ts) (fun w' m v=>ModAt w' (New w w') m v)):=by
 have hbp:=h.bp_lt
 have hbt:=h.bt_lt
 have hB0:=h.laid.le
 have hBp:=h.bpB
 have hw1 : (w.alloc (.cells #[str [],nils,nils,nils,nils] 31)).heap.size=w.heap.size + 1:=by simp
 obtain ⟨w0,hw0⟩ : ∃ w0,w0=(w.alloc (.cells #[str [],nils,nils,nils,nils] 31)).alloc (.cells #[str [],nils,nils,nils,nils] 31):=⟨_,rfl⟩
 have hb0:=Blk.new (w.alloc (.cells #[str [],nils,nils,nils,nils] 31)) #[str [],nils,nils,nils,nils] 31
 rw [hw1,← hw0] at hb0
 have H0:Hid (Mk 31 w w0 B bp bt z ts #[str [],nils,nils,nils,nils] #[str [],nils,nils,nils,nils] (fun _ _=>True)):=Lib.hid (by
  refine ⟨framed_true,hbp,hbt,?_,?_,hb0,?_,?_,trivial⟩
  ·rw [hw0]; exact ((Chg.refl _ _).alloc _).alloc _
  ·rw [hw0]; exact h.kept (((Chg.refl [] w).alloc _).alloc _) (by simp) (by simp) (by simp)
  ·rw [hw0]; exact (Blk.new w _ 31).kept ((Chg.refl [] _).alloc _) (by simp)
  ·rw [hw0]; simp)
 clear h hb0 hw1
 go_enter Tryz.func50,Tryz.ntmps50
 go_wp2_with fail
 change Calls _ _ _ ((w.alloc (.cells #[str [],nils,nils,nils,nils] 31)).alloc (.cells #[str [],nils,nils,nils,nils] 31)) _
 rw [← hw0]
 clear hw0
 have K:=Lib.hid (must_any [109,111,100,117,108,101] _ _ _ _ _ ts H0.out.par)
 go_wp2_with fail
 refine K.out.mono ?_; intro e w1 he
 rcases he.cut with ⟨en,q,b9,rfl,hx,HE⟩ | ⟨_,r1,_,rfl,X1,rfl,hc,hp⟩
 ·go_wp2_with fail; exact ⟨rfl,HE.out _ _ _ H0.out.chg (by simp only [module_,hx.out])⟩
 have H1:=Lib.hid (H0.out.step hc hp); clear hc hp K he
 have K:=Lib.hid (name_any _ _ _ _ _ _ H1.out.par)
 go_wp2_with fail
 refine K.out.mono ?_; intro e w2 he
 rcases he.cut with ⟨en,q,b9,rfl,hx,HE⟩ | ⟨n,r2,_,rfl,X2,rfl,hc,hp⟩
 ·go_wp2_with fail; exact ⟨rfl,HE.out _ _ _ H1.out.chg (by simp only [module_,X1.out,hx.out])⟩
 have H2:=Lib.hid (H1.out.step hc hp); clear hc hp K he
 obtain ⟨e0,_⟩:=H2.out.blk.five; obtain ⟨f0,_⟩:=H2.out.blk.free6
 obtain ⟨w2b,hw⟩ : ∃ x,x=w2.setCell ⟨w.heap.size + 1,0,none⟩ (str n):=⟨_,rfl⟩
 have H2b:=Lib.hid (H2.out.store 0 (str n))
 simp only [Array.setIfInBounds] at H2b
 rw [← hw] at H2b
 have K:=Lib.hid (must_any [59] _ _ _ _ _ _ H2b.out.par)
 go_wp2_with fail
 rw [← hw]
 refine K.out.mono ?_; intro e w3 he
 rcases he.cut with ⟨en,q,b9,rfl,hx,HE⟩ | ⟨_,r3,_,rfl,X3,rfl,hc,hp⟩
 ·go_wp2_with fail; exact ⟨rfl,HE.out _ _ _ H2b.out.chg (by simp only [module_,X1.out,X2.out,hx.out])⟩
 have H3:=Lib.hid (H2b.out.step hc hp); clear hc hp K he
 clear e0 f0 hw
 have KT:=Lib.hid (take_any [105,109,112,111,114,116] _ _ _ _ _ _ H3.out.par)
 cases hk : see [105,109,112,111,114,116] r3
 case' true=>
  have HI:=Lib.hid hk
  clear hk
  go_wp2_with fail
  refine KT.out.mono ?_; rintro _ w4 ⟨rfl,hp,hc,_⟩
  rw [HI.out]
  rw [skip,HI.out,if_pos rfl] at hp
  have H4:=Lib.hid (H3.out.step hc hp)
  clear hc hp
  have K:=Lib.hid (names_any 6 (by omega) _ _ _ _ _ _ H4.out.par)
  go_wp2_with fail
  refine K.out.mono ?_; intro e w5 he
  rcases he.cut with ⟨en,q,b9,rfl,hx,HE⟩ | ⟨ims,r5,_,rfl,X5,⟨a3,c3,rfl,hac,hv⟩,hc,hp⟩
  ·go_wp2_with fail; exact ⟨rfl,HE.out _ _ _ H4.out.chg (by simp only [module_,X1.out,X2.out,X3.out,imports,HI.out,if_true,hx.out])⟩
  have H5:=Lib.hid (H4.out.call hc hp (framed_Names ims (.slice a3 ims.length c3)) ⟨_,_,rfl,hac,hv⟩); clear hc hp K he
  clear hac hv
  obtain ⟨_,e1,_⟩:=H5.out.blk.five; obtain ⟨_,f1,_⟩:=H5.out.blk.free6
  obtain ⟨w5b,hw⟩ : ∃ x,x=w5.setCell ⟨w.heap.size + 1,1,none⟩ (.slice a3 ims.length c3):=⟨_,rfl⟩
  have H5b:=Lib.hid (H5.out.store 1 (.slice a3 ims.length c3))
  simp only [Array.setIfInBounds] at H5b
  rw [← hw] at H5b
  have K:=Lib.hid (must_any [59] _ _ _ _ _ _ H5b.out.par)
  go_wp2_with fail
  rw [← hw]
  refine K.out.mono ?_; intro e w6 he
  rcases he.cut with ⟨en,q,b9,rfl,hx,HE⟩ | ⟨_,r6,_,rfl,X6,rfl,hc,hp⟩
  ·go_wp2_with fail; exact ⟨rfl,HE.out _ _ _ H5b.out.chg (by simp only [module_,X1.out,X2.out,X3.out,imports,HI.out,if_true,X5.out,hx.out])⟩
  have H6:=Lib.hid (H5b.out.step hc hp); clear hc hp K he
  have HIM:=Lib.hid (show imports z r3 = .ok ims r6 by simp only [imports,HI.out,if_true,X5.out,X6.out])
  obtain ⟨r4,rfl⟩ : ∃ x,x=r6:=⟨_,rfl⟩
  clear e1 f1 hw HI
 case' false=>
  have HI:=Lib.hid hk
  clear hk
  go_wp2_with fail
  refine KT.out.mono ?_; rintro _ w6 ⟨rfl,_,_,hw⟩
  rw [HI.out]
  have hw':=(hw HI.out).symm; subst hw'; clear hw
  obtain ⟨r4,ims,a3,c3,HIM,H6⟩ : ∃ r4 ims a3 c3,Hid (imports z r3 = .ok ims r4)∧Hid (Mk 31 w w3 B bp bt z r4 #[str [],nils,nils,nils,nils] #[str n,.slice a3 ims.length c3,nils,nils,nils] (fun w F=>True∧NamesAt w F ims (.slice a3 ims.length c3))):=
   ⟨_,[],none,0,Lib.hid (by simp only [imports,HI.out,Bool.false_eq_true,if_false]),Lib.hid (H3.out.add (framed_Names [] nils) NamesAt.nil)⟩
  clear HI
 all_goals
  clear KT
  have K:=Lib.hid (vars_any _ _ _ _ _ _ H6.out.par)
  go_wp2_with fail
  refine K.out.mono ?_; intro e w7 he
  rcases he.cut with ⟨en,q,b9,rfl,hx,HE⟩ | ⟨gs,r7,_,rfl,X7,⟨a7,c7,rfl,hac,hv⟩,hc,hp⟩
  ·go_wp2_with fail; exact ⟨rfl,HE.out _ _ _ H6.out.chg (by simp only [module_,X1.out,X2.out,X3.out,HIM.out,hx.out])⟩
  have H7:=Lib.hid (H6.out.call hc hp (framed_Globs gs (.slice a7 gs.length c7)) ⟨_,_,rfl,hac,hv⟩); clear hc hp K he
  clear hac hv
  obtain ⟨_,_,e2,_⟩:=H7.out.blk.five; obtain ⟨_,_,f2,_⟩:=H7.out.blk.free6
  obtain ⟨w8,hw⟩ : ∃ x,x=w7.setCell ⟨w.heap.size + 1,2,none⟩ (.slice a7 gs.length c7):=⟨_,rfl⟩
  have H8:=Lib.hid (H7.out.store 2 (.slice a7 gs.length c7))
  simp only [Array.setIfInBounds] at H8
  rw [← hw] at H8
  go_wp2_with fail
  rw [← hw]
  clear e2 f2 hw
  go_loopw [] (fun wr=>∃ (f:Nat) (acc:List Proc) (cs:List Value) (l:Value) (ts':List Tok),procsL z 11 [] r7=procsL z f acc ts'∧f + acc.length=11∧acc.length≤10∧Chg [bp,w.heap.size + 1] w8 wr∧Par wr B bp bt z ts' ∧
    Blk wr (w.heap.size + 1) #[str n,.slice a3 ims.length c3,.slice a7 gs.length c7,l,nils] 31∧wr.ownsRow 0 87 6 l acc.length cs∧PrsAt wr (Off w8 wr l) acc cs∧From w8.heap.size l) (fun wr=>11 - lenOf ((wr.cell? ⟨w.heap.size + 1,3,none⟩).getD nilp))
  case atStart=>exact ⟨11,[],[],nils,r7,rfl,rfl,Nat.zero_le _,Chg.refl _ _,H8.out.par,H8.out.blk,World.ownsRow_nil _ _ _ _,rfl,From.nil _⟩
  case round=>
   obtain ⟨f,acc,cs,l,ts',hr,hf,ha,hC,hp,hb,ho,hes,hF⟩:=hrel
   have HR:=Lib.hid hr; have HP:=Lib.hid hp; have HO:=Lib.hid ho; have HES:=Lib.hid hes; have HF:=Lib.hid hF; have HC:=Lib.hid hC; have HB:=Lib.hid hb
   obtain ⟨sa,sc,hs⟩:=slice_of_owns ho
   have hsz:=hC.size
   have hs8:=H8.out.sz
   have hbl:=hb.lt
   have HW:=Lib.hid (show Chg [bp] w wr from H8.out.chg.trans hC (fun x hx=>by simp at hx; rcases hx with rfl | rfl; exact .inl (by simp); exact .inr (by omega)))
   clear hr hp ho hes hF hC hb
   subst hs
   obtain ⟨f,rfl⟩ : ∃ f',f=f' + 1:=⟨f - 1,by omega⟩
   have KSe:=Lib.hid (see_any [112,114,111,99] wr B bp bt z ts' HP.out)
   cases hk : see [112,114,111,99] ts' with
   | false=>
    rw [hk] at KSe
    have HPL0:=Lib.hid (show procsL z 11 [] r7 = .ok acc ts' by rw [HR.out,procsL,if_neg (by rw [hk]; simp)])
    clear hk
    go_wp2_with fail
    refine KSe.out.mono ?_; rintro _ _ ⟨rfl,hw⟩; have hw:=hw.symm; subst hw
    obtain ⟨r6,hr6⟩ : ∃ r6,r6=ts':=⟨_,rfl⟩
    subst hr6
    have HPL:=HPL0
    have H9:=Lib.hid ((H8.out.loop HC.out HP.out HB.out).add (framed_Procs acc (.slice sa acc.length sc)) (by
     obtain ⟨a,c,he,hac,hrow⟩:=Row.of_owns HO.out (new_owns HO.out HF.out)
     cases he
     refine ProcsAt.mono (F:=New w8 wr) (fun x hx=>⟨Nat.le_trans hs8 hx.1,hx.2⟩) ⟨_,_,_,rfl,hac,hrow,(framed_Prs acc cs).done HES.out⟩))
    clear HES HO HR HPL0
    go_wp2_with fail
    have K:=Lib.hid (must_any [98,101,103,105,110] _ _ _ _ _ _ H9.out.par)
    go_wp2_with fail
    refine K.out.mono ?_; intro e w18 he
    rcases he.cut with ⟨en,q,b9,rfl,hx,HE⟩ | ⟨_,r18,_,rfl,X18,rfl,hc,hp⟩
    ·go_wp2_with fail; exact ⟨rfl,HE.out _ _ _ H9.out.chg (by simp only [module_,X1.out,X2.out,X3.out,HIM.out,X7.out,HPL.out,block,hx.out])⟩
    have H18:=Lib.hid (H9.out.step hc hp); clear hc hp K he
    have K:=Lib.hid (body0_any _ _ _ _ _ _ H18.out.par)
    go_wp2_with fail
    refine K.out.mono ?_; intro e w19 he
    rcases he.cut with ⟨en,q,b9,rfl,hx,HE⟩ | ⟨b,r19,_,rfl,X19,⟨a5,c5,cs5,rfl,hv⟩,hc,hp⟩
    ·go_wp2_with fail; exact ⟨rfl,HE.out _ _ _ H18.out.chg (by simp only [module_,X1.out,X2.out,X3.out,HIM.out,X7.out,HPL.out,block,X18.out,hx.out])⟩
    have H19:=Lib.hid (H18.out.call hc hp (framed_Sl b (.slice a5 b.len c5)) ⟨_,_,_,rfl,hv⟩); clear hc hp K he
    clear hv
    obtain ⟨_,_,_,_,e4⟩:=H19.out.blk.five; obtain ⟨_,_,_,_,f4,_⟩:=H19.out.blk.free6
    obtain ⟨w19b,hw⟩ : ∃ x,x=w19.setCell ⟨w.heap.size + 1,4,none⟩ (.slice a5 b.len c5):=⟨_,rfl⟩
    have H19b:=Lib.hid (H19.out.store 4 (.slice a5 b.len c5))
    simp only [Array.setIfInBounds] at H19b
    rw [← hw] at H19b
    have K:=Lib.hid (must_any [101,110,100] _ _ _ _ _ _ H19b.out.par)
    go_wp2_with fail
    rw [← hw]
    refine K.out.mono ?_; intro e w20 he
    rcases he.cut with ⟨en,q,b9,rfl,hx,HE⟩ | ⟨_,r20,_,rfl,X20,rfl,hc,hp⟩
    ·go_wp2_with fail; exact ⟨rfl,HE.out _ _ _ H19b.out.chg (by simp only [module_,X1.out,X2.out,X3.out,HIM.out,X7.out,HPL.out,block,X18.out,X19.out,hx.out])⟩
    have H20:=Lib.hid (H19b.out.step hc hp); clear hc hp K he
    clear e4 f4 hw
    have K:=Lib.hid (must_any [46] _ _ _ _ _ _ H20.out.par)
    go_wp2_with fail
    refine K.out.mono ?_; intro e w21 he
    rcases he.cut with ⟨en,q,b9,rfl,hx,HE⟩ | ⟨_,r21,_,rfl,X21,rfl,hc,hp⟩
    ·go_wp2_with fail; exact ⟨rfl,HE.out _ _ _ H20.out.chg (by simp only [module_,X1.out,X2.out,X3.out,HIM.out,X7.out,HPL.out,block,X18.out,X19.out,X20.out,hx.out])⟩
    have H21:=Lib.hid (H20.out.step hc hp); clear hc hp K he
    have HRR:=Lib.hid (show module_ z ts = .ok ⟨n,ims,gs,acc,b⟩ r21 by simp only [module_,X1.out,X2.out,X3.out,HIM.out,X7.out,HPL.out,block,X18.out,X19.out,X20.out,X21.out])
    obtain ⟨d0,d1,d2,d3,d4⟩:=H21.out.blk.five; obtain ⟨e0,e1,e2,e3,e4⟩:=H21.out.res.five; obtain ⟨f0,f1,f2,f3,f4,_⟩:=H21.out.res.free6
    go_wp2_with fail
    obtain ⟨wF,hwF,hcF,hbF⟩:=set5 (str n) (.slice a3 ims.length c3) (.slice a7 gs.length c7) (.slice sa acc.length sc) (.slice a5 b.len c5) H21.out.res
    rw [hwF]
    clear hwF
    obtain ⟨g0,g1,g2,g3,g4⟩:=hbF.five
    refine bodyPost_ret (v:=.agg #[str n,.slice a3 ims.length c3,.slice a7 gs.length c7,.slice sa acc.length sc,.slice a5 b.len c5]) (by simp [results,Tryz.results50,go_sem,g0,g1,g2,g3,g4]) rfl ?_
    rw [HRR.out]
    have hq:=H21.out.fin hcF
    exact ⟨H21.out.chg.trans hcF (fun x hx=>.inr (by simp at hx; omega)),_,rfl,⟨_,_,_,_,rfl,hq.1.1.1.2,hq.1.1.2,hq.1.2,hq.2⟩,H21.out.par.kept hcF (fun x hx=>by simp at hx; omega) (by simp; omega) (by simp; omega)⟩
   | true=>
    rw [hk] at KSe
    have d3:=HB.out.cell 3 _ rfl
    cases he : decide (acc.length=10) with
    | true=>
     have he1 : ((acc.length:Int) == 10)=true:=by have:=of_decide_eq_true he; simp [this]
     have HPL:=Lib.hid (show procsL z 11 [] r7 = .bad 4 (hd z ts') by rw [HR.out,procsL,if_pos hk,if_pos (of_decide_eq_true he)])
     have HRR:=Lib.hid (show module_ z ts = .bad 4 (hd z ts') by simp only [module_,X1.out,X2.out,X3.out,HIM.out,X7.out,HPL.out])
     clear he hk
     go_wp2_with fail
     refine KSe.out.mono ?_; rintro _ _ ⟨rfl,hw⟩; have hw:=hw.symm; subst hw
     go_wp2_with fail
     refine (fail_any 4 _ B bp bt z ts' HP.out).mono ?_; intro e w2 he
     have HE:=Lib.hid he
     obtain ⟨b,rfl⟩:=he.thrown
     clear he
     go_wp2_with fail
     refine ⟨rfl,?_⟩
     rw [HRR.out]
     exact HE.out.relay HW.out
    | false=>
     have he1 : ((acc.length:Int) == 10)=false:=by have:=of_decide_eq_false he; simp; omega
     have hne:=of_decide_eq_false he
     have HG:Hid (∀ q,proc z ts'=q→procsL z 11 [] r7=match q with | .bad e p=>.bad e p | .ok g r=>procsL z f (acc ++ [g]) r):=Lib.hid (fun q hq=>by rw [HR.out,procsL,if_pos hk,if_neg hne,hq]; cases q <;> rfl)
     have hPD:Par wr.drew B bp bt z ts':=HP.out.kept (Chg.refl [] wr).drew (by simp) (by simp) (by simp)
     have HX:=Lib.hid (proc_any wr.drew B bp bt z ts' hPD)
     have d3d : wr.drew.cell? ⟨w.heap.size + 1,3,none⟩=some (.slice sa acc.length sc):=d3
     clear he hk hPD
     cases hx : proc z ts' with
     | bad en q=>
      have HPL:=Lib.hid (HG.out _ hx)
      have HRR:=Lib.hid (show module_ z ts = .bad en q by simp only [module_,X1.out,X2.out,X3.out,HIM.out,X7.out,HPL.out])
      rw [hx] at HX
      clear hx
      go_wp2_with fail
      refine KSe.out.mono ?_; rintro _ _ ⟨rfl,hw⟩; have hw:=hw.symm; subst hw
      go_wp2_with fail
      refine wp_region_dead 3 [true,true,true] rfl (by kernel_rfl) (by kernel_rfl) rfl ?_
      repeat ((with_reducible show wpX _ _ _ _ _ _ _ _);(first | refine wpX_nil ?_ | refine wpX_skip rfl ?_ | refine wpX_mv rfl rfl (by kernel_rfl) (fun _ _=>?_) | refine wpX_ldD rfl rfl rfl (by exact ⟨_,_,d3d⟩) (fun _ _=>?_));go_wp2_with fail)
      refine HX.out.mono ?_; intro e w6 he
      have HEE:=Lib.hid he
      obtain ⟨b,rfl⟩:=he.thrown
      clear he
      intro a' ha
      refine ⟨ha,?_⟩
      rw [HRR.out]
      exact HEE.out.relay HW.out.drew
     | ok x r=>
      have HPL:=Lib.hid (HG.out _ hx)
      rw [hx] at HX
      clear hx
      have hxb : (w.heap.size + 1)∉bp :: blk (.slice sa acc.length sc):=by
       simp only [List.mem_cons,not_or]
       exact ⟨by omega,fun hm=>by have:=HF.out _ hm; omega⟩
      have HXB:=Lib.hid hxb
      have HZ:=Lib.hid (Zone.of (X:=bp :: blk (.slice sa acc.length sc)) d3d hxb)
      clear hxb
      go_wp2_with fail
      refine KSe.out.mono ?_; rintro _ _ ⟨rfl,hw⟩; have hw:=hw.symm; subst hw
      go_wp2_with fail
      refine wp_region_T (bp :: blk (.slice sa acc.length sc)) rfl (by kernel_rfl) rfl ?_
      have hS:Chg (bp :: blk (.slice sa acc.length sc)) wr.drew wr.drew:=Chg.refl _ _
      repeat ((with_reducible refine gX ?_); (first | refine wpX_nil ?_ | refine sK ?_ | refine sM fun _ _=>?_ | refine sL (hz:=by exact HZ.out) fun _ _=>?_ | refine sE fun _ _=>?_); go_wp2_with fail)
      refine HX.out.mono ?_; rintro _ w6 ⟨hc6,_,rfl,⟨cx,rfl,hx6⟩,hp6⟩
      have HX6:=Lib.hid hx6
      obtain ⟨vp,vv,vb,rfl,h1,h2,h3⟩:=hx6
      obtain ⟨x1,y1,rfl,_,_⟩:=h1
      obtain ⟨x2,y2,rfl,_,_⟩:=h2
      obtain ⟨x3,y3,_,rfl,_,_⟩:=h3
      have hS:Chg (bp :: blk (.slice sa acc.length sc)) wr.drew w6:=hc6.mono (fun x hx=>.inl (by simp at hx; simp [hx]))
      have HC6:=Lib.hid hc6; have HP6:=Lib.hid hp6
      clear hc6 hp6
      go_wp2_with fail
      refine And.intro hS ?_
      repeat ((with_reducible refine gX ?_); (first | refine wpX_nil ?_ | refine sK ?_ | refine sM fun _ _=>?_ | refine sL (hz:=by exact HZ.out) fun _ _=>?_ | refine sE fun _ _=>?_); go_wp2_with fail)
      refine And.intro (hS.alloc _) ?_
      repeat ((with_reducible refine gX ?_); (first | refine wpX_nil ?_ | refine sK ?_ | refine sM fun _ _=>?_ | refine sL (hz:=by exact HZ.out) fun _ _=>?_ | refine sE fun _ _=>?_); go_wp2_with fail)
      have how:=owns_kept (w:=wr.drew) (owns_kept HO.out (Chg.refl [] wr).drew (by simp)) (HC6.out.alloc (.cells #[str x.name,.int .i64 x.pos,.bool x.seen,.slice x1 x.params.length y1,.slice x2 x.vars.length y2,.slice x3 x.body.len y3] 87)) (fun g hg hm=>by have:=HF.out g hg; simp at hm; omega)
      refine wpX_append _ _ 28 rfl rfl rfl 87 _ 6 104 infoProc Tryz.underlying28 rfl (by decide) (.slice sa acc.length sc) acc.length _ rfl how ⟨w6.heap.size,0,none⟩ 1 1 [str x.name,.int .i64 x.pos,.bool x.seen,.slice x1 x.params.length y1,.slice x2 x.vars.length y2,.slice x3 x.body.len y3] rfl rfl (cells_new _ _ _) (by simp [Value.oneCell']) (by omega) (by unfold maxLen; omega) ?_
      intro v' w7 hown' hch' hmv'
      obtain ⟨a',c',rfl⟩:=slice_of_owns hown'
      obtain ⟨v',hv'⟩ : ∃ v',v'=Value.slice a' (acc.length + 1) c':=⟨_,rfl⟩
      rw [← hv'] at hown' hmv'
      have hc7:Chg (bp :: blk (.slice sa acc.length sc)) wr.drew w7:=(hS.alloc _).then (hch'.mono (fun x hx=>.inl (by simp [hx])))
      have hb7:Blk w7 (w.heap.size + 1) _ _:=HB.out.kept (Chg.trans (S:=bp :: blk (.slice sa acc.length sc)) (⟨rfl,rfl,rfl,Nat.le_refl _,fun _ _ _=>rfl⟩ : Chg _ wr wr.drew) hc7 (fun x hx=>.inl hx)) HXB.out
      have hcell7:=hb7.cell 3 _ rfl
      have hfz7:=hb7.frozen 3
      have hsz6:=HC6.out.size
      have hsz7 : w6.heap.size≤w7.heap.size:=Nat.le_trans (by simp) hch'.size
      have hswd : wr.drew.heap.size=wr.heap.size:=rfl
      have hes6:=(framed_Prs acc cs).call HES.out ((⟨rfl,rfl,rfl,Nat.le_refl _,fun _ _ _=>rfl⟩ : Chg [bp] wr wr.drew).then HC6.out) (by omega)
      have hlw : ∀ g∈blk (.slice sa acc.length sc),g < wr.drew.heap.size:=fun g hg=>owns_lt HO.out g hg
      have hx6':=(framed_Pr x _).fresh (w:=w8) (l:=.slice sa acc.length sc) HX6.out hlw (by omega)
      have hes7:=(framed_Prs acc cs).app hes6 hch' hmv'
      have hx7:=(framed_Pr x _).app hx6' hch' hmv'
      have HES7:=Lib.hid (PrsAt.snoc hes7 hx7)
      have hF7:From w8.heap.size v':=HF.out.moved hmv' (by simp; omega)
      have HF7:=Lib.hid hF7
      have hp7:Par w7 B bp bt z r:=(HP6.out.kept ((Chg.refl [] w6).alloc _) (by simp) (by simp) (by simp)).kept hch' (fun g hg=>by have:=HF.out g hg; omega) (fun hm=>by have:=HF.out _ hm; omega) (fun hm=>by have:=HF.out _ hm; omega)
      have HP7:=Lib.hid hp7
      have HO7:=Lib.hid hown'
      have HB7:=Lib.hid hb7
      have HC7:=Lib.hid hc7
      have hl7 : lenOf v'=acc.length + 1:=lenOf_owns hown'
      have HL7:=Lib.hid hl7
      clear hown' hch' hmv' hb7 hS how hes6 hlw hx6' hes7 hx7 hF7 hp7 hl7 hc7
      refine And.intro HC7.out ?_
      repeat ((with_reducible refine gX ?_); (first | refine wpX_nil ?_ | refine sK ?_ | refine sM fun _ _=>?_ | refine sL (hz:=by exact HZ.out) fun _ _=>?_ | refine sE fun _ _=>?_); go_wp2_with fail)
      refine stepX_ef rfl rfl (fun _ _=>?_)
      change Oper.wp _ (Oper.mk _ _ _ _ _ _) _ _ _ _
      go_wp2_with fail
      rw [← hv']
      have hcs:Chg [w.heap.size + 1] w7 (w7.setCell ⟨w.heap.size + 1,3,none⟩ v'):=Chg.set1 _ _ _ _
      have hbs:Blk (w7.setCell ⟨w.heap.size + 1,3,none⟩ v') (w.heap.size + 1) #[str n,.slice a3 ims.length c3,.slice a7 gs.length c7,v',nils] 31:=HB7.out.set 3 v'
      have hwr7:Chg [bp,w.heap.size + 1] w8 w7:=(HC.out.trans (⟨rfl,rfl,rfl,Nat.le_refl _,fun _ _ _=>rfl⟩ : Chg [bp] wr wr.drew) (fun x hx=>.inl (by simp at hx; simp [hx]))).trans HC7.out (fun x hx=>by
       rcases List.mem_cons.1 hx with rfl | hx
       ·exact .inl (by simp)
       ·exact .inr (HF.out x hx))
      go_roundw
      case rel=>
       refine ⟨f,acc ++ [x],_,v',r,HPL.out,by simp; omega,by simp; omega,hwr7.trans hcs (fun x hx=>.inl (by simp at hx; simp [hx])),HP7.out.kept hcs (fun x hx=>by simp at hx; omega) (by simp; omega) (by simp; omega),hbs,?_,(framed_Prs _ _).call HES7.out hcs (by omega),HF7.out⟩
       simpa using owns_kept HO7.out hcs (fun g hg hm=>by have:=HF7.out g hg; simp at hm; omega)
      case measure=>
       have g3:=hbs.cell 3 _ rfl
       rw [g3,HB.out.cell 3 _ rfl]
       show 11 - lenOf v' < 11 - lenOf (.slice sa acc.length sc)
       rw [HL7.out]
       simp only [lenOf]
       omega
end Go.Proofs.YtojkkgghndeimaaGreatDoor
namespace Go.Proofs.YtojkkgghndeimaaGreatDoor
open Go Go.RowKit Go.Mq Go.Mq.Tree
set_option maxRecDepth 100000
set_option maxHeartbeats 4000000
theorem letter_any (c:UInt8) (w:World):Calls Tryz.prog 142 #[.int .u8 c.toNat] w (fun e w'=>e = .returned (.bool (letter c))∧w'=w):=by
 obtain ⟨n,hn⟩ : ∃ n:Nat,n=c.toNat:=⟨_,rfl⟩
 have HL:=Lib.hid (show letter c=(decide (97≤n) && decide (n≤122)) by rw [letter,hn])
 rw [← hn]
 clear hn
 cases h1 : decide (97≤n) with
 | false=>
  have h1' : decide ((97:Int)≤(n:Int))=false:=by have:=of_decide_eq_false h1; simp; omega
  rw [h1] at HL
  clear h1
  go_enter Tryz.func142,Tryz.ntmps142
  go_wp2_with fail
  go_ret
  rw [HL.out]
  exact ⟨rfl,rfl⟩
 | true=>
  have h1' : decide ((97:Int)≤(n:Int))=true:=by have:=of_decide_eq_true h1; simp; omega
  have h2' : decide ((n:Int)≤122)=decide (n≤122):=by by_cases h : n≤122 <;> simp [h] <;> omega
  rw [h1] at HL
  clear h1
  go_enter Tryz.func142,Tryz.ntmps142
  go_wp2_with fail
  go_ret
  rw [HL.out,← h2']
  exact ⟨rfl,rfl⟩
theorem digit_any (c:UInt8) (w:World):Calls Tryz.prog 145 #[.int .u8 c.toNat] w (fun e w'=>e = .returned (.bool (digit c))∧w'=w):=by
 obtain ⟨n,hn⟩ : ∃ n:Nat,n=c.toNat:=⟨_,rfl⟩
 have HL:=Lib.hid (show digit c=(decide (48≤n) && decide (n≤57)) by rw [digit,hn])
 rw [← hn]
 clear hn
 cases h1 : decide (48≤n) with
 | false=>
  have h1' : decide ((48:Int)≤(n:Int))=false:=by have:=of_decide_eq_false h1; simp; omega
  rw [h1] at HL
  clear h1
  go_enter Tryz.func145,Tryz.ntmps145
  go_wp2_with fail
  go_ret
  rw [HL.out]
  exact ⟨rfl,rfl⟩
 | true=>
  have h1' : decide ((48:Int)≤(n:Int))=true:=by have:=of_decide_eq_true h1; simp; omega
  have h2' : decide ((n:Int)≤57)=decide (n≤57):=by by_cases h : n≤57 <;> simp [h] <;> omega
  rw [h1] at HL
  clear h1
  go_enter Tryz.func145,Tryz.ntmps145
  go_wp2_with fail
  go_ret
  rw [HL.out,← h2']
  exact ⟨rfl,rfl⟩
theorem alnum_any (c:UInt8) (w:World):Calls Tryz.prog 144 #[.int .u8 c.toNat] w (fun e w'=>e = .returned (.bool (letter c || digit c))∧w'=w):=by
 have HL:=Lib.hid (letter_any c w)
 have HD:=Lib.hid (digit_any c w)
 obtain ⟨n,hn⟩ : ∃ n:Nat,n=c.toNat:=⟨_,rfl⟩
 rw [← hn] at HL HD
 rw [← hn]
 clear hn
 cases h1 : letter c with
 | true=>
  rw [h1] at HL
  clear h1
  go_enter Tryz.func144,Tryz.ntmps144
  go_wp2_with fail
  refine HL.out.mono ?_; rintro _ w2 ⟨rfl,hw⟩
  have hw:=hw.symm; subst hw
  go_wp2_with fail
  go_ret
  exact ⟨rfl,rfl⟩
 | false=>
  rw [h1] at HL
  clear h1
  go_enter Tryz.func144,Tryz.ntmps144
  go_wp2_with fail
  refine HL.out.mono ?_; rintro _ w2 ⟨rfl,hw⟩
  have hw:=hw.symm; subst hw
  go_wp2_with fail
  refine HD.out.mono ?_; rintro _ w2 ⟨rfl,hw⟩
  have hw:=hw.symm; subst hw
  go_wp2_with fail
  go_ret
  exact ⟨rfl,rfl⟩
theorem run_any (f:UInt8→Bool) (F:FuncId) (hF : ∀ (cs:Array Value) (w:World),(callFunc F cs).run Tryz.prog w = .ok (.enter F cs) w) (w:World) (hc : ∀ c:UInt8,Calls Tryz.prog F #[.int .u8 c.toNat] w (fun e w'=>e = .returned (.bool (f c))∧w'=w))
  (l:List UInt8) (hl : l.length≤1099511627776):Calls Tryz.prog 143 #[str l,.func (.func F) #[] #[]] w (fun e w'=>e = .returned (.int .i64 (howN f l))∧w'=w):=by
 have HC:=Lib.hid hc
 obtain ⟨s,hs⟩ : ∃ s,s=bs l:=⟨_,rfl⟩
 have hsz : s.size=l.length:=by rw [hs]; rfl
 have HS:=Lib.hid hs
 show Calls Tryz.prog 143 #[.string (bs l),.func (.func F) #[] #[]] w _
 rw [← hs]
 clear hc hs
 go_enter Tryz.func143,Tryz.ntmps143
 go_wp2_with fail
 go_loopw [5] (fun v wr=>∃ k:Nat,v = .int .i64 k∧k≤l.length∧wr=w∧howN f l=k + howN f (l.drop k)) (fun v _=>l.length - (intOf v).toNat)
 case atStart=>exact ⟨0,rfl,Nat.zero_le _,rfl,by simp⟩
 case round=>
  obtain ⟨k,rfl,hk,rfl,hr⟩:=hrel
  have HR:=Lib.hid hr; clear hr
  by_cases hlt : k < l.length
  ·have hdec : decide ((k:Int) < (s.size:Int))=true:=by simp; omega
   obtain ⟨c,hcc⟩ : ∃ c,l[k]?=some c:=⟨l[k],List.getElem?_eq_getElem hlt⟩
   have hdrop : l.drop k=c :: l.drop (k + 1):=by
    rw [List.drop_eq_getElem_cons hlt]
    congr 1
    rw [List.getElem?_eq_getElem hlt] at hcc
    exact Option.some.inj hcc
   have hidx:=run_index_str (P:=Tryz.prog) Tryz.underlying9 (show s[k]?=some c by rw [HS.out,bs_get]; exact hcc)
   have HCL:=Lib.hid (HC.out c)
   obtain ⟨n,hn⟩ : ∃ n:Nat,n=c.toNat:=⟨_,rfl⟩
   rw [← hn] at hidx HCL
   clear hn hcc
   cases hf : f c with
   | true=>
    have HRR:=Lib.hid (show howN f l=(k + 1) + howN f (l.drop (k + 1)) by rw [HR.out,hdrop,howN,if_pos hf]; omega)
    rw [hf] at HCL
    clear hf hdrop
    go_wp2_with fail
    refine HCL.out.mono ?_; rintro _ w2 ⟨rfl,hw⟩
    have hw:=hw.symm; subst hw
    go_wp2_with fail
    exact ⟨⟨k + 1,by go_num,by omega,by first | rfl | trivial,HRR.out⟩,by simp [intOf]; omega⟩
   | false=>
    have HRR:=Lib.hid (show howN f l=k by rw [HR.out,hdrop,howN,if_neg (by rw [hf]; simp)]; rfl)
    rw [hf] at HCL
    clear hf hdrop
    go_wp2_with fail
    refine HCL.out.mono ?_; rintro _ w2 ⟨rfl,hw⟩
    have hw:=hw.symm; subst hw
    go_wp2_with fail
    go_ret
    rw [HRR.out]
    exact ⟨rfl,rfl⟩
  ·have hdec : decide ((k:Int) < (s.size:Int))=false:=by simp; omega
   have HRR:=Lib.hid (show howN f l=k by rw [HR.out,List.drop_eq_nil_of_le (by omega)]; rfl)
   go_wp2_with fail
   go_ret
   rw [HRR.out]
   exact ⟨rfl,rfl⟩
theorem marks_index (k:Nat) (hk : k < 18) (w:World) : (Instr.index 209 (.agg #[str [58,61],str [60,61],str [62,61],str [35],str [61],str [60],str [62],str [43],str [45],str [42],str [40],str [41],str [91],str [93],str [44],str [59],str [58],str [46]]) (.int .i64 k)).run Tryz.prog w = .ok (str (marks.getD k [])) w:=by
 match k,hk with
 | 0,_=>rfl
 | 1,_=>rfl
 | 2,_=>rfl
 | 3,_=>rfl
 | 4,_=>rfl
 | 5,_=>rfl
 | 6,_=>rfl
 | 7,_=>rfl
 | 8,_=>rfl
 | 9,_=>rfl
 | 10,_=>rfl
 | 11,_=>rfl
 | 12,_=>rfl
 | 13,_=>rfl
 | 14,_=>rfl
 | 15,_=>rfl
 | 16,_=>rfl
 | 17,_=>rfl
 | n + 18,h=>omega
end Go.Proofs.YtojkkgghndeimaaGreatDoor
namespace Go.Mq.Tree
open Go Go.RowKit Go.Mq
theorem prefix_eq (m l:List UInt8):Lib.hasPrefix l m=m.isPrefixOf l:=rfl
theorem nextK_letter {c:UInt8} {t:List UInt8} (h : letter c=true) : nextK (c :: t)=(.word,howN (fun c=>letter c || digit c) (c :: t)):=by rw [nextK,if_pos h]
theorem nextK_digit {c:UInt8} {t:List UInt8} (h : letter c=false) (h2 : digit c=true) : nextK (c :: t)=(.number,howN digit (c :: t)):=by rw [nextK,if_neg (by simp [h]),if_pos h2]
theorem nextK_mark {c:UInt8} {t:List UInt8} (h : letter c=false) (h2 : digit c=false) {m:List UInt8} (hm : marks.find? (fun m=>m.isPrefixOf (c :: t))=some m) : nextK (c :: t)=(.mark,m.length):=by
 rw [nextK,if_neg (by simp [h]),if_neg (by simp [h2]),hm]; rfl
theorem nextK_none {c:UInt8} {t:List UInt8} (h : letter c=false) (h2 : digit c=false) (hm : marks.find? (fun m=>m.isPrefixOf (c :: t))=none) : nextK (c :: t)=(.mark,0):=by
 rw [nextK,if_neg (by simp [h]),if_neg (by simp [h2]),hm]; rfl
end Go.Mq.Tree
namespace Go.Proofs.YtojkkgghndeimaaGreatDoor
open Go Go.RowKit Go.Mq Go.Mq.Tree
set_option maxRecDepth 100000
set_option maxHeartbeats 4000000
theorem enters35 : ∀ (cs:Array Value) (w:World),(callFunc 144 cs).run Tryz.prog w = .ok (.enter 144 cs) w:=fun cs w=>by kernel_rfl
theorem enters36 : ∀ (cs:Array Value) (w:World),(callFunc 145 cs).run Tryz.prog w = .ok (.enter 145 cs) w:=fun cs w=>by kernel_rfl
theorem next_any (c:UInt8) (t:List UInt8) (hl : (c :: t).length≤1099511627776) (w:World) (B:Nat) (hL:Laid w B) :
  Calls Tryz.prog 98 #[str (c :: t)] w (fun e w'=>e = .returned (.tuple #[.int .i64 (nextK (c :: t)).1.num,.int .i64 (nextK (c :: t)).2])∧w'=w):=by
 have HLE:=Lib.hid (letter_any c w)
 have HDI:=Lib.hid (digit_any c w)
 have HRW:=Lib.hid (run_any (fun c=>letter c || digit c) 144 enters35 w (fun c=>alnum_any c w) (c :: t) hl)
 have HRD:=Lib.hid (run_any digit 145 enters36 w (fun c=>digit_any c w) (c :: t) hl)
 obtain ⟨s,hs⟩ : ∃ s,s=bs (c :: t):=⟨_,rfl⟩
 have hidx:=run_index_str (P:=Tryz.prog) Tryz.underlying9 (k:=0) (c:=c) (show s[0]?=some c by rw [hs,bs_get]; rfl)
 have hidx : ∀ w,(Instr.index 9 (.string s) (.int .i64 0)).run Tryz.prog w = .ok (.int .u8 c.toNat) w:=hidx
 have hsz : s.size=t.length + 1:=by rw [hs]; rfl
 have HS:=Lib.hid hs
 show Calls Tryz.prog 98 #[.string (bs (c :: t))] w _
 have HRW:Hid (Calls Tryz.prog 143 #[.string s,.func (.func 144) #[] #[]] w (fun e w'=>e = .returned (.int .i64 (howN (fun c=>letter c || digit c) (c :: t)))∧w'=w)):=by rw [hs]; exact HRW
 have HRD:Hid (Calls Tryz.prog 143 #[.string s,.func (.func 145) #[] #[]] w (fun e w'=>e = .returned (.int .i64 (howN digit (c :: t)))∧w'=w)):=by rw [hs]; exact HRD
 rw [← hs]
 clear hs
 obtain ⟨n,hn⟩ : ∃ n:Nat,n=c.toNat:=⟨_,rfl⟩
 rw [← hn] at hidx HLE HDI
 clear hn
 cases h1 : letter c with
 | true=>
  have HRR:=Lib.hid (nextK_letter (t:=t) h1)
  rw [h1] at HLE
  clear h1
  go_enter Tryz.func98,Tryz.ntmps98
  go_wp2_with fail
  refine HLE.out.mono ?_; rintro _ w2 ⟨rfl,hw⟩
  have hw:=hw.symm; subst hw
  go_wp2_with fail
  refine HRW.out.mono ?_; rintro _ w2 ⟨rfl,hw⟩
  have hw:=hw.symm; subst hw
  go_wp2_with fail
  go_ret2
  rw [HRR.out]
  exact ⟨rfl,rfl⟩
 | false=>
  rw [h1] at HLE
  cases h2 : digit c with
  | true=>
   have HRR:=Lib.hid (nextK_digit (t:=t) h1 h2)
   rw [h2] at HDI
   clear h1 h2
   go_enter Tryz.func98,Tryz.ntmps98
   go_wp2_with fail
   refine HLE.out.mono ?_; rintro _ w2 ⟨rfl,hw⟩
   have hw:=hw.symm; subst hw
   go_wp2_with fail
   refine HDI.out.mono ?_; rintro _ w2 ⟨rfl,hw⟩
   have hw:=hw.symm; subst hw
   go_wp2_with fail
   refine HRD.out.mono ?_; rintro _ w2 ⟨rfl,hw⟩
   have hw:=hw.symm; subst hw
   go_wp2_with fail
   go_ret2
   rw [HRR.out]
   exact ⟨rfl,rfl⟩
  | false=>
   have HM:Hid (∀ m,marks.find? (fun m=>m.isPrefixOf (c :: t))=some m→nextK (c :: t)=(.mark,m.length)):=Lib.hid (fun m hm=>nextK_mark h1 h2 hm)
   have HN:Hid (marks.find? (fun m=>m.isPrefixOf (c :: t))=none→nextK (c :: t)=(.mark,0)):=Lib.hid (fun hm=>nextK_none h1 h2 hm)
   rw [h2] at HDI
   clear h1 h2
   have d0:=hL.marks 0 _ rfl
   have d1:=hL.marks 1 _ rfl
   have d2:=hL.marks 2 _ rfl
   have d3:=hL.marks 3 _ rfl
   have d4:=hL.marks 4 _ rfl
   have d5:=hL.marks 5 _ rfl
   have d6:=hL.marks 6 _ rfl
   have d7:=hL.marks 7 _ rfl
   have d8:=hL.marks 8 _ rfl
   have d9:=hL.marks 9 _ rfl
   have d10:=hL.marks 10 _ rfl
   have d11:=hL.marks 11 _ rfl
   have d12:=hL.marks 12 _ rfl
   have d13:=hL.marks 13 _ rfl
   have d14:=hL.marks 14 _ rfl
   have d15:=hL.marks 15 _ rfl
   have d16:=hL.marks 16 _ rfl
   have d17:=hL.marks 17 _ rfl
   have hml : marks.length=18:=rfl
   go_enter Tryz.func98,Tryz.ntmps98
   go_wp2_with fail
   refine HLE.out.mono ?_; rintro _ w2 ⟨rfl,hw⟩
   have hw:=hw.symm; subst hw
   go_wp2_with fail
   refine HDI.out.mono ?_; rintro _ w2 ⟨rfl,hw⟩
   have hw:=hw.symm; subst hw
   go_wp2_with fail
   clear d0 d1 d2 d3 d4 d5 d6 d7 d8 d9 d10 d11 d12 d13 d14 d15 d16 d17
   go_loopw [5,19] (fun _ i wr=>∃ k:Nat,k≤18∧i = .int .i64 k∧wr=w∧marks.find? (fun m=>m.isPrefixOf (c :: t))=(marks.drop k).find? (fun m=>m.isPrefixOf (c :: t))) (fun _ i _=>20 - (intOf i).toNat)
   case atStart=>exact ⟨0,Nat.zero_le _,rfl,rfl,rfl⟩
   case round=>
    obtain ⟨k,hk,rfl,rfl,hr⟩:=hrel
    have HR:=Lib.hid hr; clear hr
    by_cases hlt : k < 18
    ·have hmi:=marks_index k hlt
     have HX:=Lib.hid (Any.strings_HasPrefix Tryz.lays99 s (bs (marks.getD k [])) wr)
     have hm : marks[k]?=some (marks.getD k []):=by rw [List.getD_eq_getElem?_getD,List.getElem?_eq_getElem (by omega)]; rfl
     have hdr : marks.drop k=marks.getD k [] :: marks.drop (k + 1):=by
      rw [List.drop_eq_getElem_cons (by omega)]
      congr 1
      rw [List.getElem?_eq_getElem (by omega)] at hm
      exact Option.some.inj hm
     have HDR:=Lib.hid hdr
     have hml9 : (marks.getD k []).length≤2:=by
      have : ∀ m∈marks,m.length≤2:=by decide
      exact this _ (List.mem_of_getElem? hm)
     obtain ⟨m,hmm⟩ : ∃ m,m=marks.getD k []:=⟨_,rfl⟩
     rw [← hmm] at hmi HX HDR hml9
     have HX:Hid (Calls Tryz.prog 146 #[.string s,str m] wr (fun e w'=>e = .returned (.bool (m.isPrefixOf (c :: t)))∧w'=wr)):=Lib.hid (by
      have:=HX.out
      rw [HS.out,prefix_eq] at this
      rw [HS.out]
      exact this)
     clear hm hdr hmm
     cases hp : m.isPrefixOf (c :: t) with
     | true=>
      have HRR:=Lib.hid (HM.out m (by rw [HR.out,HDR.out,List.find?_cons,hp]))
      rw [hp] at HX
      clear hp
      go_wp2_with fail
      refine HX.out.mono ?_; rintro _ w2 ⟨rfl,hw⟩
      have hw:=hw.symm; subst hw
      go_wp2_with fail
      go_ret2
      rw [HRR.out]
      exact ⟨rfl,rfl⟩
     | false=>
      have HRR:=Lib.hid (show marks.find? (fun m=>m.isPrefixOf (c :: t))=(marks.drop (k + 1)).find? (fun m=>m.isPrefixOf (c :: t)) by rw [HR.out,HDR.out,List.find?_cons,hp])
      rw [hp] at HX
      clear hp
      go_wp2_with fail
      refine HX.out.mono ?_; rintro _ w2 ⟨rfl,hw⟩
      have hw:=hw.symm; subst hw
      go_wp2_with fail
      exact ⟨⟨k + 1,by omega,by go_num,by first | rfl | trivial,HRR.out⟩,by simp [intOf]; omega⟩
    ·have hge : k=18:=by omega
     have HRR:=Lib.hid (HN.out (by rw [HR.out,hge]; rfl))
     go_wp2_with fail
     go_ret2
     rw [HRR.out]
     exact ⟨rfl,rfl⟩
end Go.Proofs.YtojkkgghndeimaaGreatDoor
namespace Go.Mq.Tree
open Go Go.RowKit Go.Mq
theorem howN_le (f:UInt8→Bool) : ∀ l:List UInt8,howN f l≤l.length:=by
 intro l
 induction l with
 | nil=>exact Nat.le_refl _
 | cons c t ih=>rw [howN]; split <;> simp <;> omega
theorem nextK_le (l:List UInt8) : (nextK l).2≤l.length:=by
 cases l with
 | nil=>exact Nat.le_refl _
 | cons c t=>
  rw [nextK]
  split
  ·exact howN_le _ _
  ·split
   ·exact howN_le _ _
   ·cases h : marks.find? (fun m=>m.isPrefixOf (c :: t)) with
    | none=>simp
    | some m=>
     have:=List.find?_some h
     have:=(List.isPrefixOf_iff_prefix.1 this).length_le
     simpa using this
theorem gap_eq (c:UInt8) : gap c=(((c.toNat:Int) == 32) || ((c.toNat:Int) == 10)):=by
 have h1 : (c == 32)=((c.toNat:Int) == 32):=by
  by_cases h : c=32
  ·subst h; rfl
  ·have : c.toNat≠32:=fun h2=>h (UInt8.toNat_inj.1 (by rw [h2]; rfl))
   rw [beq_eq_false_iff_ne.2 h]
   symm
   simp; omega
 have h2 : (c == 10)=((c.toNat:Int) == 10):=by
  by_cases h : c=10
  ·subst h; rfl
  ·have : c.toNat≠10:=fun h2=>h (UInt8.toNat_inj.1 (by rw [h2]; rfl))
   rw [beq_eq_false_iff_ne.2 h]
   symm
   simp; omega
 rw [gap,h1,h2]
def LexR.ahead (acc:List Tok):LexR→LexR
 | .ok ts=>.ok (acc ++ ts)
 | .bad e p=>.bad e p
theorem lexL_nil (f i k:Nat) : lexL f i k [] = .ok []:=by cases f <;> rfl
theorem lexL_gap {f i k:Nat} {c:UInt8} {t:List UInt8} (h : gap c=true) : lexL (f + 1) i k (c :: t)=lexL f (i + 1) k t:=by simp only [lexL,h,if_true]
theorem lexL_none {f i k:Nat} {c:UInt8} {t:List UInt8} (h : gap c=false) (h2 : (nextK (c :: t)).2=0) : lexL (f + 1) i k (c :: t) = .bad 3 i:=by simp [lexL,h,h2]
theorem lexL_many {f i:Nat} {c:UInt8} {t:List UInt8} (h : gap c=false) (h2 : (nextK (c :: t)).2≠0) : lexL (f + 1) i 600 (c :: t) = .bad 4 i:=by simp [lexL,h,h2]
theorem lexL_tok {f i k:Nat} {c:UInt8} {t:List UInt8} (h : gap c=false) (h2 : (nextK (c :: t)).2≠0) (h3 : k≠600) (acc:List Tok) :
  (lexL (f + 1) i k (c :: t)).ahead acc=(lexL f (i + (nextK (c :: t)).2) (k + 1) ((c :: t).drop (nextK (c :: t)).2)).ahead (acc ++ [⟨(nextK (c :: t)).1,(c :: t).take (nextK (c :: t)).2,i⟩]):=by
 simp only [lexL,h,h2,h3,if_false,Bool.false_eq_true]
 cases lexL f (i + (nextK (c :: t)).2) (k + 1) ((c :: t).drop (nextK (c :: t)).2) with
 | ok ts=>simp [LexR.ahead]
 | bad e p=>rfl
def LexOut (w:World) (z:Nat) (r:LexR) (e:Ending) (w':World):Prop:=Chg [] w w'∧match r with
 | .ok ts=>∃ a c,e = .returned (.tuple #[.slice a (ts.length + 1) c,.nilIface])∧ts.length + 1≤c∧Row w' (New w w') a (toksCells z ts)∧ts.length≤600 ∧ ∀ t∈ts,t.text.length≤1099511627776
 | .bad en p=>∃ b,e = .returned (.tuple #[nils,.iface 167 (ptr b)])∧w.heap.size≤b∧Blk w' b #[.int .i64 en,.int .i64 p] 168
theorem toksCells_eq (z:Nat) : ∀ ts:List Tok,toksCells z ts=ts.flatMap Tok.cells ++ [.int .i64 4,str [],.int .i64 z]:=by
 intro ts
 induction ts with
 | nil=>rfl
 | cons t r ih=>rw [toksCells,ih,List.flatMap_cons,List.append_assoc]
end Go.Mq.Tree
namespace Go.Proofs.YtojkkgghndeimaaGreatDoor
open Go Go.RowKit Go.Mq Go.Mq.Tree
set_option maxRecDepth 100000
set_option maxHeartbeats 8000000
theorem infoTok : (Tryz.prog.info? 101).map (fun i=>(i.zero,i.size,i.bytes))=some (some (.agg #[.int .i64 0,.string ⟨#[]⟩,.int .i64 0]),3,32):=by kernel_rfl
theorem tokens_any (l:List UInt8) (hl : l.length≤1099511627776) (w:World) (B:Nat) (hL:Laid w B):Calls Tryz.prog 49 #[str l] w (LexOut w l.length (lex l)):=by
 obtain ⟨s,hs⟩ : ∃ s,s=bs l:=⟨_,rfl⟩
 have hsz : s.size=l.length:=by rw [hs]; rfl
 have HS:=Lib.hid hs
 have HL:=Lib.hid hL
 show Calls Tryz.prog 49 #[.string (bs l)] w _
 rw [← hs]
 clear hs hL
 go_enter Tryz.func49,Tryz.ntmps49
 go_wp2_with fail
 go_loopw [4,5,6,7] (fun lv iv _ _ wr=>∃ (f i:Nat) (acc:List Tok),iv = .int .i64 i∧i≤l.length∧lex l=(lexL f i acc.length (l.drop i)).ahead acc∧l.length - i≤f∧acc.length≤600∧(∀ t∈acc,t.text.length≤1099511627776) ∧
   wr.ownsRow 0 101 3 lv acc.length (acc.flatMap Tok.cells)∧From w.heap.size lv∧Chg [] w wr) (fun _ iv _ _ _=>l.length - (intOf iv).toNat)
 case atStart=>exact ⟨l.length,0,[],rfl,Nat.zero_le _,by rw [List.drop_zero,lex]; cases lexL l.length 0 0 l <;> rfl,Nat.sub_le _ _,Nat.zero_le _,fun _ h=>(by cases h),World.ownsRow_nil _ _ _ _,From.nil _,Chg.refl _ _⟩
 case round=>
  obtain ⟨f,i,acc,rfl,hi,hr,hf,ha,hsh,ho,hF,hC⟩:=hrel
  have HR:=Lib.hid hr; have HSH:=Lib.hid hsh; have HO:=Lib.hid ho; have HF:=Lib.hid hF; have HC:=Lib.hid hC
  obtain ⟨sa,sc,hsl⟩:=slice_of_owns ho
  have hsw:=hC.size
  clear hr hsh ho hF hC
  subst hsl
  by_cases hlt : i < l.length
  ·have hdec : decide ((i:Int) < (s.size:Int))=true:=by simp; omega
   obtain ⟨c,hcc⟩ : ∃ c,l[i]?=some c:=⟨l[i],List.getElem?_eq_getElem hlt⟩
   have hdrop : l.drop i=c :: l.drop (i + 1):=by
    rw [List.drop_eq_getElem_cons hlt]
    congr 1
    rw [List.getElem?_eq_getElem hlt] at hcc
    exact Option.some.inj hcc
   obtain ⟨f,rfl⟩ : ∃ f',f=f' + 1:=⟨f - 1,by omega⟩
   have hidx:=run_index_str (P:=Tryz.prog) Tryz.underlying9 (show s[i]?=some c by rw [HS.out,bs_get]; exact hcc)
   have HD:=Lib.hid hdrop
   have HBE:=Lib.hid (gap_eq c)
   obtain ⟨n0,hn0⟩ : ∃ n:Nat,n=c.toNat:=⟨_,rfl⟩
   rw [← hn0] at hidx HBE
   clear hn0 hcc hdrop
   cases hb : gap c with
   | true=>
    have HRR:=Lib.hid (show lex l=(lexL f (i + 1) acc.length (l.drop (i + 1))).ahead acc by rw [HR.out,HD.out,lexL_gap hb])
    rw [hb] at HBE
    clear hb
    cases h1 : ((n0:Int) == 32) with
    | true=>
     clear HBE
     go_wp2_with fail
     exact ⟨⟨f,i + 1,acc,by go_num,by omega,HRR.out,by omega,ha,HSH.out,HO.out,HF.out,HC.out⟩,by simp [intOf]; omega⟩
    | false=>
     have h2 : ((n0:Int) == 10)=true:=by have:=HBE.out; rw [h1] at this; simpa using this.symm
     clear HBE
     go_wp2_with fail
     exact ⟨⟨f,i + 1,acc,by go_num,by omega,HRR.out,by omega,ha,HSH.out,HO.out,HF.out,HC.out⟩,by simp [intOf]; omega⟩
   | false=>
    have hbe:=HBE.out
    rw [hb] at hbe
    obtain ⟨h1,h2⟩:=Bool.or_eq_false_iff.1 hbe.symm
    clear hbe
    clear HBE
    have hE1 : s.extract i l.length=bs (c :: l.drop (i + 1)):=by rw [HS.out,bs_extract,← HD.out]; congr 2; exact List.take_of_length_le (by simp)
    have hlen : (c :: l.drop (i + 1)).length=l.length - i:=by rw [← HD.out]; simp
    have HNX:=Lib.hid (next_any c (l.drop (i + 1)) (by rw [hlen]; omega) wr B (HL.out.kept HC.out (by simp)))
    have HLT:Hid (nextK (c :: l.drop (i + 1))=nextK (c :: l.drop (i + 1))):=Lib.hid rfl
    have hnl:=nextK_le (c :: l.drop (i + 1))
    rw [hlen] at hnl
    obtain ⟨kd,hkd⟩ : ∃ kd:Nat,kd=(nextK (c :: l.drop (i + 1))).1.num:=⟨_,rfl⟩
    obtain ⟨n,hn⟩ : ∃ n,n=(nextK (c :: l.drop (i + 1))).2:=⟨_,rfl⟩
    have HKD:=Lib.hid hkd; have HN:=Lib.hid hn
    rw [← hkd,← hn] at HNX
    rw [← hn] at hnl
    have HNX:Hid (Calls Tryz.prog 98 #[.string (s.extract i l.length)] wr (fun e w'=>e = .returned (.tuple #[.int .i64 kd,.int .i64 n])∧w'=wr)):=Lib.hid (by rw [hE1]; exact HNX.out)
    have HB:=Lib.hid hb
    have HNZ:Hid (n=0→lex l = .bad 3 i):=Lib.hid (fun h0=>by rw [HR.out,HD.out,lexL_none hb (by rw [← hn,h0])]; rfl)
    have HNM:Hid (n≠0→acc.length=600→lex l = .bad 4 i):=Lib.hid (fun h0 h6=>by rw [HR.out,HD.out,h6,lexL_many hb (by rw [← hn]; exact h0)]; rfl)
    have HNT:Hid (∀ tx,s.extract i (i + n)=bs tx→n≠0→acc.length≠600→lex l=(lexL f (i + n) (acc.length + 1) (l.drop (i + n))).ahead (acc ++ [⟨(nextK (c :: l.drop (i + 1))).1,tx,i⟩])):=Lib.hid (fun tx htx h0 h6=>by
     rw [HR.out,HD.out,lexL_tok hb (by rw [← hn]; exact h0) h6,← hn,← HD.out,List.drop_drop]
     have htx' : tx=(l.drop i).take n:=by
      rw [HS.out,bs_extract,Nat.add_sub_cancel_left] at htx
      have h9:=ByteArray.mk.inj htx
      exact (by simpa using congrArg Array.toList h9.symm)
     rw [htx'])
    clear hkd hn hb hE1 HLT
    by_cases h0 : n=0
    ·have hz : ((n:Int) == 0)=true:=by simp [h0]
     have HRR:=Lib.hid (HNZ.out h0)
     clear h0
     go_wp2_with fail
     refine HNX.out.mono ?_; rintro _ w2 ⟨rfl,hw⟩
     have hw:=hw.symm; subst hw
     go_wp2_with fail
     go_ret2
     rw [HRR.out]
     exact ⟨HC.out.alloc _,_,rfl,hsw,Blk.new _ _ _⟩
    ·have hz : ((n:Int) == 0)=false:=by simp [h0]
     by_cases h6 : acc.length=600
     ·have h6' : ((acc.length:Int) == 600)=true:=by simp [h6]
      have HRR:=Lib.hid (HNM.out h0 h6)
      clear h0 h6
      go_wp2_with fail
      refine HNX.out.mono ?_; rintro _ w2 ⟨rfl,hw⟩
      have hw:=hw.symm; subst hw
      go_wp2_with fail
      go_ret2
      rw [HRR.out]
      exact ⟨HC.out.alloc _,_,rfl,hsw,Blk.new _ _ _⟩
     ·have h6' : ((acc.length:Int) == 600)=false:=by simp; omega
      have HTX:=Lib.hid (HNT.out ((l.drop i).take n) (by rw [HS.out,bs_extract,Nat.add_sub_cancel_left]) h0 h6)
      have HEX:=Lib.hid (show s.extract i (i + n)=bs ((l.drop i).take n) by rw [HS.out,bs_extract,Nat.add_sub_cancel_left])
      have htl : ((l.drop i).take n).length≤1099511627776:=by simp; omega
      have HO2:=Lib.hid (owns_kept HO.out ((Chg.refl [] wr).alloc (.cells #[.int .i64 kd,.string (s.extract i (i + n)),.int .i64 i] 101)) (by simp))
      go_wp2_with fail
      refine HNX.out.mono ?_; rintro _ w2 ⟨rfl,hw⟩
      have hw:=hw.symm; subst hw
      go_wp2_with (at_builtin; go_must (refine wpL_append rfl _ _ 93 rfl 101 _ 3 32 infoTok Tryz.underlying93 rfl (by decide) _ _ _ rfl HO2.out ⟨wr.heap.size,0,none⟩ 1 1 [.int .i64 kd,.string (s.extract i (i + n)),.int .i64 i] rfl rfl (cells_new _ _ _) (by simp [Value.oneCell']) ?_ ?_ ?_))
      ·omega
      ·unfold maxLen; omega
      ·intro v' w' hown' hch' hmv'
       have HO':=Lib.hid hown'
       have HF':=Lib.hid (HF.out.moved hmv' (by simp; omega))
       have HC':=Lib.hid ((HC.out.alloc (.cells #[.int .i64 kd,.string (s.extract i (i + n)),.int .i64 i] 101)).trans hch' (fun x hx=>.inr (HF.out x hx)))
       clear hown' hch' hmv'
       go_wp2_with fail
       refine ⟨⟨f,i + n,acc ++ [⟨(nextK (c :: l.drop (i + 1))).1,(l.drop i).take n,i⟩],by go_num,by omega,by simpa using HTX.out,by omega,by simp; omega,?_,?_,HF'.out,HC'.out⟩,by simp [intOf]; omega⟩
       ·intro t ht
        rcases List.mem_append.1 ht with h | h
        ·exact HSH.out t h
        ·simp at h; rw [h]; exact htl
       ·have:=HO'.out
        rw [HEX.out,HKD.out] at this
        simpa [Tok.cells] using this
  ·have hdec : decide ((i:Int) < (s.size:Int))=false:=by simp; omega
   have HRR:=Lib.hid (show lex l = .ok acc by rw [HR.out,List.drop_eq_nil_of_le (by omega),lexL_nil]; simp [LexR.ahead])
   have HO2:=Lib.hid (owns_kept HO.out ((Chg.refl [] wr).alloc (.cells #[.int .i64 4,str [],.int .i64 l.length] 101)) (by simp))
   go_wp2_with (at_builtin; go_must (refine wpL_append rfl _ _ 93 rfl 101 _ 3 32 infoTok Tryz.underlying93 rfl (by decide) _ _ _ rfl HO2.out ⟨wr.heap.size,0,none⟩ 1 1 [.int .i64 4,str [],.int .i64 l.length] rfl rfl (cells_new _ _ _) (by simp [Value.oneCell']) ?_ ?_ ?_))
   ·omega
   ·unfold maxLen; omega
   ·intro v' w' hown' hch' hmv'
    have HO':=Lib.hid hown'
    have hF':=HF.out.moved hmv' (by simp; omega)
    have HF':=Lib.hid hF'
    have HC':=Lib.hid ((HC.out.alloc (.cells #[.int .i64 4,str [],.int .i64 l.length] 101)).trans hch' (fun x hx=>.inr (HF.out x hx)))
    clear hown' hch' hmv' hF'
    go_wp2_with fail
    go_ret2
    rw [HRR.out]
    obtain ⟨a,k,rfl,hk,hrow⟩:=Row.of_owns HO'.out (new_owns HO'.out HF'.out)
    refine ⟨HC'.out,a,k,rfl,hk,?_,ha,HSH.out⟩
    rw [toksCells_eq]
    exact hrow
end Go.Proofs.YtojkkgghndeimaaGreatDoor
namespace Go.Proofs.YtojkkgghndeimaaGreatDoor
open Go Go.RowKit Go.Mq Go.Mq.Tree
set_option maxRecDepth 100000
set_option maxHeartbeats 8000000
theorem catch_idle (bm be:Nat) (w:World):CallsD Tryz.prog 48 #[ptr bm,ptr be] .returning w fun e u' w'=>
   e = .returned (.tuple #[])∧u' = .returning∧w'=w:=by
 refine callsD_of_wpS Tryz.func48 rfl fun c₀ cs hu=>?_
 rw [show (#[ptr bm,ptr be] ++ Array.replicate (Tryz.f48.ntmps - (#[ptr bm,ptr be] : Array Value).size) undef:Array Value) = #[ptr bm,ptr be,undef,undef,undef,undef,undef,undef,undef,undef,undef,undef,undef,undef,undef,undef,undef,undef,undef] from rfl]
 apply wpS_seq
 apply wpS_region
 simp [wpOpsS,go_sem,recoverD,hu,Exit.thenS]
 refine wpS_of_wp ?_
 go_wp2_with fail
 exact ⟨rfl,.returning,by cases c₀; simp_all,.tuple #[],results_none rfl _ _ _,rfl,rfl,rfl⟩
theorem catch_thrown (bm be b:Nat) (c0 c1 c2 c3 c4 e0:Value) (w:World) (hm:Blk w bm #[c0,c1,c2,c3,c4] 31) (he:Blk w be #[e0] 38) (hne : bm≠be) :
  CallsD Tryz.prog 48 #[ptr bm,ptr be] (.panicking [{ v:=.iface 91 (.agg #[.iface 167 (ptr b)]),recovered:=false }]) w fun e u' w'=>
   e = .returned (.tuple #[])∧u' = .panicking [{ v:=.iface 91 (.agg #[.iface 167 (ptr b)]),recovered:=true }]∧Chg [bm,be] w w' ∧
   Blk w' bm #[str [],nils,nils,nils,nils] 31∧Blk w' be #[.iface 167 (ptr b)] 38:=by
 have hta : ∀ w,(Instr.typeAssert (.iface 91 (.agg #[.iface 167 (ptr b)])) 20 91 true).run Tryz.prog w = .ok (.tuple #[.agg #[.iface 167 (ptr b)],.bool true]) w:=fun _=>rfl
 refine callsD_of_wpS Tryz.func48 rfl fun c₀ cs hu=>?_
 rw [show (#[ptr bm,ptr be] ++ Array.replicate (Tryz.f48.ntmps - (#[ptr bm,ptr be] : Array Value).size) undef:Array Value) = #[ptr bm,ptr be,undef,undef,undef,undef,undef,undef,undef,undef,undef,undef,undef,undef,undef,undef,undef,undef,undef] from rfl]
 apply wpS_seq
 apply wpS_region
 simp [wpOpsS,go_sem,recoverD,hu,Exit.thenS]
 refine wpS_of_wp ?_
 go_wp2_with fail
 have hlm:=hm.lt
 have hle:=he.lt
 have hm':=hm.kept ((Chg.refl [] w).alloc (.cells #[.iface 167 (ptr b)] 91)) (by simp)
 have he':=he.kept ((Chg.refl [] w).alloc (.cells #[.iface 167 (ptr b)] 91)) (by simp)
 have hx':=Blk.new w #[.iface 167 (ptr b)] 91
 have hc':Chg [bm,be] w (w.alloc (.cells #[.iface 167 (ptr b)] 91)):=(Chg.refl _ w).alloc _
 have hnx : w.heap.size≠bm:=by omega
 have hny : w.heap.size≠be:=by omega
 generalize w.alloc (.cells #[.iface 167 (ptr b)] 91)=w1 at *
 have f0:=hm'.frozen 0; have f1:=hm'.frozen 1; have f2:=hm'.frozen 2; have f3:=hm'.frozen 3; have f4:=hm'.frozen 4
 have d0:=hm'.cell 0 _ rfl; have d1:=hm'.cell 1 _ rfl; have d2:=hm'.cell 2 _ rfl; have d3:=hm'.cell 3 _ rfl; have d4:=hm'.cell 4 _ rfl
 have g0:=he'.frozen 0; have e0':=he'.cell 0 _ rfl
 have x0:=hx'.cell 0 _ rfl
 have HM:=Lib.hid hm'; have HE:=Lib.hid he'; have HC:=Lib.hid hc'
 clear hm he hm' he' hx' hc' hta
 go_region
 obtain ⟨wF,hwF,hcF,hbF⟩:=set5 (str []) nils nils nils nils HM.out
 have heF:=HE.out.kept hcF (by simp; exact Ne.symm hne)
 have hcE:Chg [be] wF (wF.setCell ⟨be,0,none⟩ (.iface 167 (ptr b))):=Chg.set1 _ _ _ _
 refine ⟨rfl,.panicking [{ v:=.iface 91 (.agg #[.iface 167 (ptr b)]),recovered:=true }],rfl,.tuple #[],results_none rfl _ _ _,rfl,rfl,?_⟩
 rw [hwF]
 refine ⟨((HC.out.then (hcF.mono (fun x hx=>.inl (by simp at hx; simp [hx])))).then (hcE.mono (fun x hx=>.inl (by simp at hx; simp [hx])))).drew,?_,?_⟩
 ·exact (hbF.kept hcE (by simpa using hne)).kept (Chg.refl [] _).drew (by simp)
 ·have:=(heF.set 0 (.iface 167 (ptr b))).kept (Chg.refl [] _).drew (by simp)
  simpa using this
end Go.Proofs.YtojkkgghndeimaaGreatDoor
namespace Go.Mq.Tree
open Go Go.RowKit Go.Mq
def ParseOut (w:World) (r:Res) (e:Ending) (w':World):Prop:=Chg [] w w'∧match r with
 | .ok m=>∃ v,e = .returned (.tuple #[v,.nilIface])∧ModAt w' (New w w') m v
 | .bad en p=>∃ b,e = .returned (.tuple #[.agg #[str [],nils,nils,nils,nils],.iface 167 (ptr b)])∧w.heap.size≤b∧Blk w' b #[.int .i64 en,.int .i64 p] 168
end Go.Mq.Tree
namespace Go.Proofs.YtojkkgghndeimaaGreatDoor
open Go Go.RowKit Go.Mq Go.Mq.Tree
set_option maxRecDepth 100000
set_option maxHeartbeats 1000000
theorem results_cells (tmps:Array Value) (bm be:Nat) (c0 c1 c2 c3 c4 ev:Value) (w:World) (h2 : tmps[2]?.getD undef=ptr bm) (h3 : tmps[3]?.getD undef=ptr be) (hm:Blk w bm #[c0,c1,c2,c3,c4] 31) (he:Blk w be #[ev] 38) :
  (results Tryz.f10 tmps).run Tryz.prog w = .ok (.tuple #[.agg #[c0,c1,c2,c3,c4],ev]) w:=by
 have d0:=hm.cell 0 _ rfl; have d1:=hm.cell 1 _ rfl; have d2:=hm.cell 2 _ rfl; have d3:=hm.cell 3 _ rfl; have d4:=hm.cell 4 _ rfl
 have e0:=he.cell 0 _ rfl
 simp [results,Tryz.results10,h2,h3,go_sem,d0,d1,d2,d3,d4,e0]
theorem leave_idle (tmps:Array Value) (bm be:Nat) (c0 c1 c2 c3 c4 ev:Value) (w:World) (R:Ending→World→Prop) (h2 : tmps[2]?.getD undef=ptr bm) (h3 : tmps[3]?.getD undef=ptr be) (hm:Blk w bm #[c0,c1,c2,c3,c4] 31) (he:Blk w be #[ev] 38)
  (hR:R (.returned (.tuple #[.agg #[c0,c1,c2,c3,c4],ev])) w):Leaves Tryz.prog Tryz.f10 tmps R [{ target:=.fn (.func 48) #[ptr bm,ptr be],args:=#[] }] .returning w:=by
 refine leaves_cons (f:=48) (args:=#[ptr bm,ptr be]) (by simp) (by simp [go_sem]) ?_
 refine (catch_idle bm be w).mono ?_
 rintro e u' w'' ⟨rfl,rfl,rfl⟩
 exact ⟨_,results_cells tmps bm be c0 c1 c2 c3 c4 ev w'' h2 h3 hm he,hR⟩
theorem leave_thrown (tmps:Array Value) (bm be b:Nat) (c0 c1 c2 c3 c4 ev:Value) (w:World) (R:Ending→World→Prop) (h2 : tmps[2]?.getD undef=ptr bm) (h3 : tmps[3]?.getD undef=ptr be) (hm:Blk w bm #[c0,c1,c2,c3,c4] 31) (he:Blk w be #[ev] 38) (hne : bm≠be)
  (hR : ∀ w',Chg [bm,be] w w'→R (.returned (.tuple #[.agg #[str [],nils,nils,nils,nils],.iface 167 (ptr b)])) w'):Leaves Tryz.prog Tryz.f10 tmps R [{ target:=.fn (.func 48) #[ptr bm,ptr be],args:=#[] }] (.panicking [{ v:=.iface 91 (.agg #[.iface 167 (ptr b)]),recovered:=false }]) w:=by
 refine leaves_cons (f:=48) (args:=#[ptr bm,ptr be]) (by simp) (by simp [go_sem]) ?_
 refine (catch_thrown bm be b c0 c1 c2 c3 c4 ev w hm he hne).mono ?_
 rintro e u' w'' ⟨rfl,rfl,hc,hm',he'⟩
 exact ⟨_,results_cells tmps bm be _ _ _ _ _ _ w'' h2 h3 hm' he',hR w'' hc⟩
theorem parse_any (l:List UInt8) (hl : l.length≤1099511627776) (w:World) (B:Nat) (hL:Laid w B):Calls Tryz.prog 10 #[str l] w (ParseOut w (parse l)):=by
 have hmf : ∀ (fn:Fn) (first cap:Array Value) (w:World),(Instr.makeFunc fn first cap).run Tryz.prog w = .ok (.func fn first cap) w:=fun _ _ _ _=>rfl
 have hw1 : (w.alloc (.cells #[str [],nils,nils,nils,nils] 31)).heap.size=w.heap.size + 1:=by simp
 obtain ⟨w0,hw0⟩ : ∃ w0,w0=(w.alloc (.cells #[str [],nils,nils,nils,nils] 31)).alloc (.cells #[.nilIface] 38):=⟨_,rfl⟩
 have hb0:=Blk.new (w.alloc (.cells #[str [],nils,nils,nils,nils] 31)) #[.nilIface] 38
 have hm0:=(Blk.new w #[str [],nils,nils,nils,nils] 31).kept ((Chg.refl [] _).alloc (.cells #[.nilIface] 38)) (by simp)
 have hc0:Chg [] w ((w.alloc (.cells #[str [],nils,nils,nils,nils] 31)).alloc (.cells #[.nilIface] 38)):=((Chg.refl _ _).alloc _).alloc _
 have hs0 : ((w.alloc (.cells #[str [],nils,nils,nils,nils] 31)).alloc (.cells #[.nilIface] 38)).heap.size=w.heap.size + 2:=by simp
 rw [hw1,← hw0] at hb0
 rw [← hw0] at hm0 hc0 hs0
 have HBE:=Lib.hid hb0; have HBM:=Lib.hid hm0; have HC0:=Lib.hid hc0
 have hLw:Laid w0 B:=hL.kept hc0 (by simp)
 have HL:=Lib.hid hLw
 have HTK:=Lib.hid (tokens_any l hl w0 B hLw)
 have hB0:=hL.le
 clear hL hLw hb0 hm0 hw1 hc0
 cases hx : lex l with
 | bad en q=>
  have HRR:=Lib.hid (show parse l = .bad en q by rw [parse,hx])
  rw [hx] at HTK
  clear hx
  go_enter_defers Tryz.func10,Tryz.ntmps10
  go_wp2_with fail
  try rw [← hw0]
  refine HTK.out.mono ?_; rintro _ w1 ⟨hc1,b,rfl,hbl,hb1⟩
  have hbe:=HBE.out.kept hc1 (by simp)
  have hbm:=HBM.out.kept hc1 (by simp)
  have d0:=hbe.cell 0 _ rfl
  have f0:=hbe.frozen 0
  clear hw0
  have hcs:Chg [w.heap.size + 1] w1 (w1.setCell ⟨w.heap.size + 1,0,none⟩ (.iface 167 (ptr b))):=Chg.set1 _ _ _ _
  have hbe2:Blk (w1.setCell ⟨w.heap.size + 1,0,none⟩ (.iface 167 (ptr b))) (w.heap.size + 1) #[.iface 167 (ptr b)] 38:=by simpa using hbe.set 0 (.iface 167 (ptr b))
  have hbm2:=hbm.kept hcs (by simp)
  have hb2:=hb1.kept hcs (by simp; omega)
  have hc2:Chg [] w _:=(HC0.out.then hc1).trans hcs (fun x hx=>.inr (by simp at hx; omega))
  have HBE2:=Lib.hid hbe2; have HBM2:=Lib.hid hbm2; have HB2:=Lib.hid hb2; have HC2:=Lib.hid hc2
  clear hc1 hb1 hbe hbm hcs hbe2 hbm2 hb2 hc2
  go_wp2_with fail
  generalize w1.setCell ⟨w.heap.size + 1,0,none⟩ (.iface 167 (ptr b))=w2 at *
  have d0:=HBE2.out.cell 0 _ rfl; have f0:=HBE2.out.frozen 0
  have m0:=HBM2.out.cell 0 _ rfl; have m1:=HBM2.out.cell 1 _ rfl; have m2:=HBM2.out.cell 2 _ rfl; have m3:=HBM2.out.cell 3 _ rfl; have m4:=HBM2.out.cell 4 _ rfl
  have k0:=HBM2.out.frozen 0; have k1:=HBM2.out.frozen 1; have k2:=HBM2.out.frozen 2; have k3:=HBM2.out.frozen 3; have k4:=HBM2.out.frozen 4
  go_region
  obtain ⟨wF,hwF,hcF,hbF⟩:=set5 (str []) nils nils nils nils HBM2.out
  have heF:=HBE2.out.kept hcF (by simp)
  have hcE:Chg [w.heap.size + 1] wF (wF.setCell ⟨w.heap.size + 1,0,none⟩ (.iface 167 (ptr b))):=Chg.set1 _ _ _ _
  have hbE:=hbF.kept hcE (by simp)
  have heE:=heF.set 0 (.iface 167 (ptr b))
  simp only [Array.setIfInBounds,List.size_toArray,List.length_cons,List.length_nil] at heE
  have hb2:=(HB2.out.kept hcF (by simp; omega)).kept hcE (by simp; omega)
  have hcG:Chg [] w (wF.setCell ⟨w.heap.size + 1,0,none⟩ (.iface 167 (ptr b))):=(HC2.out.trans hcF (fun x hx=>.inr (by simp at hx; omega))).trans hcE (fun x hx=>.inr (by simp at hx; omega))
  have HFIN:=Lib.hid (And.intro hbE (And.intro heE (And.intro hb2 hcG)))
  clear hbE heE hb2 hcG hcE heF hbF hcF d0 f0 m0 m1 m2 m3 m4 k0 k1 k2 k3 k4
  rw [hwF]
  go_wp2_with fail
  obtain ⟨hbE,heE,hb2,hcG⟩:=HFIN.out
  refine leave_idle _ _ _ _ _ _ _ _ _ _ _ rfl rfl (hbE.kept (Chg.refl [] _).drew (by simp)) (heE.kept (Chg.refl [] _).drew (by simp)) ?_
  rw [HRR.out]
  exact ⟨hcG.drew,b,rfl,by omega,hb2.kept (Chg.refl [] _).drew (by simp)⟩
 | ok ts=>
  have HLX:=Lib.hid hx
  rw [hx] at HTK
  clear hx
  go_enter_defers Tryz.func10,Tryz.ntmps10
  go_wp2_with fail
  try rw [← hw0]
  refine HTK.out.mono ?_; rintro _ w1 ⟨hc1,a,k,rfl,hk,hrow,hfew,hshort⟩
  obtain ⟨bt,off,rfl,hcell⟩:=hrow.at_ (by rw [toksCells_eq]; simp)
  have hF:=hrow.own (by rw [toksCells_eq]; simp) _ rfl
  have hbe:=HBE.out.kept hc1 (by simp)
  have hbm:=HBM.out.kept hc1 (by simp)
  have d0:=hbe.cell 0 _ rfl
  have f0:=hbe.frozen 0
  clear hw0
  have hcs:Chg [w.heap.size + 1] w1 (w1.setCell ⟨w.heap.size + 1,0,none⟩ .nilIface):=Chg.set1 _ _ _ _
  have hbe2:Blk (w1.setCell ⟨w.heap.size + 1,0,none⟩ .nilIface) (w.heap.size + 1) #[.nilIface] 38:=by simpa using hbe.set 0 .nilIface
  have hbm2:=hbm.kept hcs (by simp)
  have hc2:Chg [] w _:=(HC0.out.then hc1).trans hcs (fun x hx=>.inr (by simp at hx; omega))
  have hs1:=hc1.size
  have hL2:=(HL.out.kept hc1 (by simp)).kept hcs (fun x hx=>by simp at hx; omega)
  have hbt0 : w0.heap.size≤bt:=hF.1
  have hcell2 : ∀ (i:Nat) (v:Value),(toksCells l.length ts)[i]?=some v→(w1.setCell ⟨w.heap.size + 1,0,none⟩ .nilIface).cell? ⟨bt,off + i,none⟩=some v:=fun i v hv=>hcs.cellSome (hcell i v hv) (by simp; omega)
  have hs2 : (w1.setCell ⟨w.heap.size + 1,0,none⟩ .nilIface).heap.size=w1.heap.size:=by simp [World.setCell]
  have hbt1 : bt < w1.heap.size:=hF.2
  obtain ⟨w2,hw2⟩ : ∃ w2,w2=w1.setCell ⟨w.heap.size + 1,0,none⟩ .nilIface:=⟨_,rfl⟩
  rw [← hw2] at hbe2 hbm2 hc2 hL2 hcell2 hs2
  obtain ⟨w3,hw3⟩ : ∃ w3,w3=w2.alloc (.cells #[.slice (some ⟨bt,off,none⟩) (ts.length + 1) k] 98):=⟨_,rfl⟩
  have hc3:Chg [] w2 w3:=by rw [hw3]; exact (Chg.refl _ _).alloc _
  have hb3:Blk w3 w1.heap.size #[.slice (some ⟨bt,off,none⟩) (ts.length + 1) k] 98:=by rw [hw3,← hs2]; exact Blk.new _ _ _
  have hs3 : w3.heap.size=w1.heap.size + 1:=by rw [hw3,← hs2]; simp
  have hPar:Par w3 B w1.heap.size bt l.length ts:=⟨hL2.kept hc3 (by simp),by omega,by omega,by omega,hfew,hshort,off,k,hb3,hk,fun i v hv=>hc3.cellSome (hcell2 i v hv) (by simp)⟩
  have hbe3:=hbe2.kept hc3 (by simp)
  have hbm3:=hbm2.kept hc3 (by simp)
  have hcw3:Chg [] w w3:=hc2.then hc3
  have HM:=Lib.hid (module_any w3 B w1.heap.size bt l.length ts hPar)
  have HBE3:=Lib.hid hbe3; have HBM3:=Lib.hid hbm3; have HC3:=Lib.hid hcw3
  have hn2 : w.heap.size + 2≤w1.heap.size:=by omega
  have g0 : w2.cell? ⟨w.heap.size + 1,0,none⟩=some .nilIface:=hbe2.cell 0 _ rfl
  clear hc1 hrow hcell hF hbe hbm hcs hbe2 hbm2 hc2 hL2 hcell2 hc3 hb3 hPar hbe3 hbm3 hcw3 hfew hshort
  cases hx : module_ l.length ts with
  | bad en q=>
   have HRR:=Lib.hid (show parse l = .bad en q by rw [parse,HLX.out]; simp only [hx])
   rw [hx] at HM
   clear hx
   go_wp2_with fail
   rw [← hw2,← hw3]
   refine HM.out.mono ?_; intro e w9 he
   obtain ⟨b9,rfl⟩:=he.thrown
   have HEE:=Lib.hid he
   clear he
   go_wp2_with fail
   obtain ⟨hc9,b,hbe9,hlt9,hb9⟩:=HEE.out
   cases hbe9
   refine leave_thrown _ _ _ _ _ _ _ _ _ _ _ _ rfl rfl (HBM3.out.kept hc9 (by simp; omega)) (HBE3.out.kept hc9 (by simp; omega)) (by omega) (fun w' hc=>?_)
   rw [HRR.out]
   exact ⟨(HC3.out.trans hc9 (fun x hx=>.inr (by simp at hx; omega))).trans hc (fun x hx=>.inr (by simp at hx; omega)),_,rfl,by omega,hb9.kept hc (by simp; omega)⟩
  | ok m ts'=>
   have HMX:=Lib.hid hx
   rw [hx] at HM
   clear hx
   go_wp2_with fail
   rw [← hw2,← hw3]
   refine HM.out.mono ?_; rintro _ w4 ⟨hc4,_,rfl,⟨vi,vv,vp,vb,rfl,hmi,hmv,hmp,hmb⟩,hp4⟩
   have hbe4:=HBE3.out.kept hc4 (by simp; omega)
   have hbm4:=HBM3.out.kept hc4 (by simp; omega)
   have d0:=hbm4.cell 0 _ rfl; have d1:=hbm4.cell 1 _ rfl; have d2:=hbm4.cell 2 _ rfl; have d3:=hbm4.cell 3 _ rfl; have d4:=hbm4.cell 4 _ rfl
   have f0:=hbm4.frozen 0; have f1:=hbm4.frozen 1; have f2:=hbm4.frozen 2; have f3:=hbm4.frozen 3; have f4:=hbm4.frozen 4
   have hs4:=hc4.size
   have hcw4:Chg [] w w4:=HC3.out.trans hc4 (fun x hx=>.inr (by simp at hx; omega))
   have HMA:=Lib.hid (show ModAt w4 (New w3 w4) m (.agg #[str m.name,vi,vv,vp,vb]) from ⟨vi,vv,vp,vb,rfl,hmi,hmv,hmp,hmb⟩)
   obtain ⟨ai,ci,rfl,_⟩:=hmi
   obtain ⟨av,cv,rfl,_⟩:=hmv
   obtain ⟨ap,cp,_,rfl,_⟩:=hmp
   obtain ⟨ab,cb,_,rfl,_⟩:=hmb
   obtain ⟨wF,hwF,hcF,hbF⟩:=set5 (str m.name) (.slice ai m.imports.length ci) (.slice av m.vars.length cv) (.slice ap m.procs.length cp) (.slice ab m.body.len cb) hbm4
   have hpF:=hp4.kept hcF (fun x hx=>by simp at hx; omega) (by simp; omega) (by simp; omega)
   have hbeF:=hbe4.kept hcF (by simp)
   have HPF:=Lib.hid hpF; have HBF:=Lib.hid hbF; have HBEF:=Lib.hid hbeF; have HCF:=Lib.hid hcF; have HCW:=Lib.hid hcw4
   have g0:=hbF.cell 0 _ rfl; have g1:=hbF.cell 1 _ rfl; have g2:=hbF.cell 2 _ rfl; have g3:=hbF.cell 3 _ rfl; have g4:=hbF.cell 4 _ rfl
   have k0:=hbF.frozen 0; have k1:=hbF.frozen 1; have k2:=hbF.frozen 2; have k3:=hbF.frozen 3; have k4:=hbF.frozen 4
   have ge:=hbeF.cell 0 _ rfl; have ke:=hbeF.frozen 0
   clear hc4 hbe4 hbm4 hcF hp4 hbeF hbF hcw4
   cases ts' with
   | nil=>
    have HRR:=Lib.hid (show parse l = .ok m by rw [parse,HLX.out]; simp only [HMX.out])
    obtain ⟨o2,c2,p0,p1,_,hl2⟩:=par_nil hpF
    obtain ⟨wG,hwG,hcG,hbG⟩:=set5 (str m.name) (.slice ai m.imports.length ci) (.slice av m.vars.length cv) (.slice ap m.procs.length cp) (.slice ab m.body.len cb) HBF.out
    have hbeG:=HBEF.out.kept hcG (by simp)
    have geG:=hbeG.cell 0 _ rfl; have keG:=hbeG.frozen 0
    obtain ⟨wH,hwH⟩ : ∃ wH,wG.setCell ⟨w.heap.size + 1,0,none⟩ .nilIface=wH:=⟨_,rfl⟩
    have hcH:Chg [w.heap.size + 1] wG wH:=by rw [← hwH]; exact Chg.set1 _ _ _ _
    have hbeH:Blk wH (w.heap.size + 1) #[.nilIface] 38:=by rw [← hwH]; simpa using hbeG.set 0 .nilIface
    have hbmH:=hbG.kept hcH (by simp)
    have hcF':=HCF.out.trans hcG (fun x hx=>.inl hx)
    have hMH:ModAt wH (New w wH) m (.agg #[str m.name,.slice ai m.imports.length ci,.slice av m.vars.length cv,.slice ap m.procs.length cp,.slice ab m.body.len cb]):=by
     have hsF:=hcF'.size; have hsH:=hcH.size
     refine ((HMA.out.kept hcF' (fun x hx hn=>?_)).kept hcH (fun x hx hn=>?_)).mono (fun x hx=>⟨by have:=hx.1; omega,by have:=hx.2; omega⟩)
     ·simp at hx; have:=hn.1; omega
     ·simp at hx; have:=hn.1; omega
    have HBMH:=Lib.hid hbmH; have HBEH:=Lib.hid hbeH; have HMH:=Lib.hid hMH
    have HCH:=Lib.hid ((HCW.out.trans hcF' (fun x hx=>.inr (by simp at hx; omega))).trans hcH (fun x hx=>.inr (by simp at hx; omega)))
    clear hpF hcG hbG hbeG hcH hbeH hbmH hcF' hMH
    go_wp2_with fail
    exact leave_idle _ _ _ _ _ _ _ _ _ _ _ rfl rfl HBMH.out HBEH.out (by rw [HRR.out]; exact ⟨HCH.out,_,rfl,HMH.out⟩)
   | cons t r=>
    have HRR:=Lib.hid (show parse l = .bad 3 t.pos by rw [parse,HLX.out]; simp only [HMX.out])
    obtain ⟨o2,c2,hpb,p0,p1,p2,p3,hl2,_⟩:=par_cons hpF
    have hkn:=kind_ne t.kind
    have HFA:=Lib.hid (fail_any 3 wF B w1.heap.size bt l.length (t :: r) hpF)
    clear hpF hpb
    go_wp2_with fail
    refine HFA.out.mono ?_; intro e w9 he
    obtain ⟨b9,rfl⟩:=he.thrown
    have HEE:=Lib.hid he
    clear he
    go_wp2_with fail
    obtain ⟨hc9,b,hbe9,hlt9,hb9⟩:=HEE.out
    cases hbe9
    have hsF:=HCF.out.size
    refine leave_thrown _ _ _ _ _ _ _ _ _ _ _ _ rfl rfl (HBF.out.kept hc9 (by simp; omega)) (HBEF.out.kept hc9 (by simp; omega)) (by omega) (fun w' hc=>?_)
    rw [HRR.out]
    exact ⟨((HCW.out.trans HCF.out (fun x hx=>.inr (by simp at hx; omega))).trans hc9 (fun x hx=>.inr (by simp at hx; omega))).trans hc (fun x hx=>.inr (by simp at hx; omega)),_,rfl,by omega,hb9.kept hc (by simp; omega)⟩
end Go.Proofs.YtojkkgghndeimaaGreatDoor
