/- Some texts in one. -/
import Derived.Test.YtojkkgghndeimaaGreatDoorO25
import Derived.Test.YtojkkgghndeimaaGreatDoorO27
import Derived.Test.YtojkkgghndeimaaGreatDoorO28
namespace Go.Mq.Plan
open Go Go.RowKit Go.Mq Go.Mq.Tree Go.Mq.Sym Go.Mq.Used
theorem filter_sort (p:Nm→Bool) (ns:List Nm) : (ns.filter p).mergeSort (fun x y=>decide (x≤y))=(ns.mergeSort fun x y=>decide (x≤y)).filter p:=by
 have htr : ∀ a b c:List UInt8,decide (a≤b)=true→decide (b≤c)=true→decide (a≤c)=true:=fun a b c h1 h2=>by
  simp only [decide_eq_true_eq] at h1 h2 ⊢; exact List.le_trans h1 h2
 have hto : ∀ a b:List UInt8,(decide (a≤b) || decide (b≤a))=true:=fun a b=>by
  rcases List.le_total a b with h | h <;> simp [h]
 refine List.Perm.eq_of_pairwise (le:=fun x y:List UInt8=>decide (x≤y)=true) (fun a b _ _ x y=>?_) (List.pairwise_mergeSort htr hto _) ((List.pairwise_mergeSort htr hto ns).filter p) ?_
 ·exact List.le_antisymm (by simpa using x) (by simpa using y)
 ·exact (List.mergeSort_perm _ _).trans ((List.mergeSort_perm ns _).symm.filter p)
def AllWell (mf:Nm→Option Mod):Prop:=∀ n m,mf n=some m→WFM m∧(modK m).length≤900000
theorem mod_at {w:World} {b:Nat} {G:Nat→Prop} {mf:Nm→Option Mod} {es:List (List UInt8 × Value)} {n:Nm} {v:Value} (h:ModsAt w b G mf es) (hg : getM es n=some v) : ∃ (m:Mod) (ai:Option Addr) (ci:Nat) (av:Option Addr) (cv:Nat) (ap:Option Addr) (cp:Nat) (ab:Option Addr) (cb:Nat),
  mf n=some m∧v = .agg #[str m.name,.slice ai m.imports.length ci,.slice av m.vars.length cv,.slice ap m.procs.length cp,.slice ab m.body.len cb]∧ModAt w G m v:=by
 have h2:=h.2.2.2 n
 cases hm : mf n with
 | none=>rw [hm] at h2; rw [show getM es n=none from h2] at hg; cases hg
 | some m=>
  rw [hm] at h2
  obtain ⟨_,u,hu,hmo⟩:=h2
  rw [hu] at hg
  cases hg
  have hmo':=hmo
  obtain ⟨_,_,_,_,rfl,⟨ai,ci,rfl,_⟩,⟨av,cv,rfl,_⟩,⟨ap,cp,_,rfl,_⟩,⟨ab,cb,_,rfl,_⟩⟩:=hmo
  exact ⟨m,ai,ci,av,cv,ap,cp,ab,cb,rfl,rfl,hmo'⟩
end Go.Mq.Plan
namespace Go.Proofs.YtojkkgghndeimaaGreatDoor
open Go Go.RowKit Go.Mq Go.Mq.Tree Go.Mq.Sym Go.Mq.Used Go.Mq.Ref Go.Mq.Plan
set_option maxRecDepth 100000
set_option maxHeartbeats 4000000
theorem rof_mod {m:Mod} (hg:GoodM m) {G:Nat→Prop} {ai:Option Addr} {ci:Nat} {av:Option Addr} {cv:Nat} {ap:Option Addr} {cp:Nat} {ab:Option Addr} {cb:Nat} (w:World) (hG : ∀ x,G x→x < w.heap.size) (h:ModAt w G m (.agg #[str m.name,.slice ai m.imports.length ci,.slice av m.vars.length cv,.slice ap m.procs.length cp,.slice ab m.body.len cb])) :
  Calls Tryz.prog 13 #[.agg #[str m.name,.slice ai m.imports.length ci,.slice av m.vars.length cv,.slice ap m.procs.length cp,.slice ab m.body.len cb]] w (fun e w'=>∃ v,e = .returned v∧SymsAt w' (New w w') (ofM m) v∧Chg [] w w'):=by
 obtain ⟨vi,vv,vp,vb,he,hi,hv,hp,hb⟩:=h
 cases he
 exact rof_any m.vars m.procs hg.vars hg.procs G m.name ai _ ci ab _ cb _ _ w hG hv (procsL_of hp)
theorem rneed_mod {m:Mod} (hg:GoodM m) (names:List (List UInt8)) (hn : names.length≤1000) (hs : ∀ n∈names,n.length≤1000000) (F F':Nat→Prop) (v v':Value) (w:World) (B:Nat) (hL:Laid w B) (h:SymsAt w F (ofM m) v) (h':NamesAt w F' names v') :
  Calls Tryz.prog 34 #[v,v'] w (fun e w'=>e = .returned (str (needsT (ofM m) names))∧Chg [] w w'):=
 rneeds_any (ofM m) hg.fit (by have:=seenL_len hg.vars hg.procs; rw [ofM]; omega) names hn hs F F' v v' w B hL h h'
theorem rstale_any (b:Nat) (ob:Option Nat) (G Fc:Nat→Prop) (mfw mf:Nm→Option Mod) (es:List (List UInt8 × Value)) (ch:List Nm) (cv:Value) (hgw:AllGood mfw) (hgn:AllGood mf) (hgr:AllWell mf) (hfew : ch.length≤1000) (w:World) (B:Nat) (hL:Laid w B) (hG : ∀ x,G x→x < w.heap.size) (h:ModsAt w b G mf es) (hwas:WasAt w G mfw ob) (hch:NamesAt w Fc ch cv) :
  Calls Tryz.prog 24 #[.map ob,.map (some b),cv] w (StaleOut w mfw mf es ch):=by
 have hmm:=@run_makeMap Tryz.prog
 obtain ⟨ca,cc,rfl,hcc,hcrow⟩:=hch
 obtain ⟨w1,hw1⟩ : ∃ x,w.alloc (.map #[] 0)=x:=⟨_,rfl⟩
 have hc1:Chg [] w w1:=by rw [← hw1]; exact (Chg.refl _ _).alloc _
 have hs1 : w1.heap.size=w.heap.size + 1:=by rw [← hw1]; simp
 have HAD:=Lib.hid (show HadIs w1 w.heap.size [] by rw [← hw1]; exact HadIs.made w)
 have HM:=Lib.hid h; have HGB:=Lib.hid hG; have HWAS:=Lib.hid hwas; have HL:=Lib.hid hL; have HCR:=Lib.hid hcrow
 have HGW:=Lib.hid hgw; have HGN:=Lib.hid hgn; have HGR:=Lib.hid hgr
 have HND:=Lib.hid (keys_nodup h.1)
 have hel : (es.map (·.1)).length≤1000:=by rw [List.length_map]; exact h.2.1
 have hbl : b < w.heap.size:=h.1.lt
 have HC1:=Lib.hid hc1
 obtain ⟨keys,hkeys⟩ : ∃ k,k=es.map (·.1):=⟨_,rfl⟩
 rw [← hkeys] at HND hel
 have HKE:=Lib.hid hkeys
 clear hG h hwas hL hcrow hgw hgn hgr hkeys hc1
 go_enter Tryz.func24,Tryz.ntmps24
 go_wp2_with fail
 clear hw1
 go_loopw [9,20] (fun _ i wr=>∃ (k:Nat) (had:List Nm),i=num k∧k≤ch.length∧HadIs wr w.heap.size had∧(∀ x,x∈had↔x∈ch.take k)∧Chg [w.heap.size] w1 wr) (fun _ i _=>ch.length - (intOf i).toNat)
 case atStart=>exact ⟨0,[],rfl,Nat.zero_le _,HAD.out,fun x=>by simp,Chg.refl _ _⟩
 case round=>
  obtain ⟨k,had,rfl,hk,hhad,hhe,hc⟩:=hrel
  have HH:=Lib.hid hhad; have HHE:=Lib.hid hhe; have HC:=Lib.hid hc
  have HCW:=Lib.hid (show Chg [] w wr from HC1.out.trans hc (fun x hx=>.inr (by simp at hx; omega)))
  clear hhad hhe hc
  by_cases hlt : k < ch.length
  ·obtain ⟨n,hn⟩ : ∃ n,ch[k]?=some n:=⟨ch[k],List.getElem?_eq_getElem hlt⟩
   obtain ⟨nb,no,rfl,n0⟩:=names_cell (HCR.out.kept HCW.out (by simp)) hn
   obtain ⟨wU,hmu,HHU,HCU⟩:=had_put HH.out n
   have HIF:=Lib.hid (show ∀ x,x∈n :: had↔x∈ch.take (k + 1) from fun x=>by
    rw [List.take_add_one,hn]
    simp [HHE.out x,or_comm])
   have HC2:=Lib.hid (HC.out.then HCU.out)
   clear hn
   go_wp2_with fail
   exact ⟨⟨k + 1,n :: had,by go_num,by omega,HHU.out,HIF.out,HC2.out⟩,by simp [intOf]; omega⟩
  ·have HIN:=Lib.hid (show ∀ x,x∈had↔x∈ch from fun x=>by rw [HHE.out x,List.take_of_length_le (by omega)])
   obtain ⟨wN,hwN⟩ : ∃ x,x=wr:=⟨_,rfl⟩
   subst hwN
   obtain ⟨w4,hrun,hrg,hc4,hs4⟩:=map_range (P:=Tryz.prog) Tryz.underlying53 (HM.out.kept HCW.out (by simp) (by simp)).1
   have hszn:=HCW.out.size
   have HSZ:=Lib.hid (And.intro hs4 (And.intro hs1 (HC.out.size)))
   have hbne : wN.heap.size≠b:=by omega
   have HH4:=Lib.hid (HH.out.kept hc4 (by simp))
   have HC4:=Lib.hid (HCW.out.then hc4)
   rw [← HKE.out] at hrg
   have HRG:=Lib.hid hrg
   clear hrg hc4 hs4 hszn HC HH HHE
   go_wp2_with fail
   clear hrun hlt hk
   go_loopw [10,11,12,13,15,16] (fun ov _ _ _ _ _ wr=>∃ (ns rest:List Nm),Ranging wr b wN.heap.size es rest∧keys.Perm (ns ++ rest)∧wr.ownsRow 0 9 1 ov (ns.filter (anew mfw mf ch)).length ((ns.filter (anew mfw mf ch)).map str)∧From w4.heap.size ov∧Chg [] w wr∧HadIs wr w.heap.size had∧w4.heap.size≤wr.heap.size) (fun _ _ _ _ _ _ wr=>wr.rangeLeft b wN.heap.size)
   case atStart=>exact ⟨[],_,HRG.out,List.Perm.refl _,World.ownsRow_nil _ _ _ _,From.nil _,HC4.out,HH4.out,Nat.le_refl _⟩
   case round=>
    obtain ⟨ns,rest,hri,hpm,ho,hf,hc,hhad,hsw⟩:=hrel
    have HO:=Lib.hid ho; have HFR:=Lib.hid hf; have HCR2:=Lib.hid hc; have HPM:=Lib.hid hpm; have HH:=Lib.hid hhad
    have hrd : rest.Nodup:=(List.nodup_append.1 (hpm.nodup_iff.1 HND.out)).2.1
    have hll : ns.length + rest.length≤1000:=by have:=hpm.length_eq; rw [List.length_append] at this; omega
    have hfl : (ns.filter (anew mfw mf ch)).length≤ns.length:=List.length_filter_le _ _
    have hle:=hri.left_eq
    clear ho hf hc hpm hhad
    rcases map_next (P:=Tryz.prog) hri hbne 0 with ⟨hnil,hnx⟩ | ⟨n,v,rest',wn,hn1,hn2,hn3,hn4,hn5,hnx,hri2,hcn,hent⟩
    ·have hns : (ns.filter (anew mfw mf ch)).length≤1000:=by omega
     have HST:=Lib.hid (sorts_any (ns.filter (anew mfw mf ch)) hns _ wr HO.out)
     have hnx':=next_ty hnx
     obtain ⟨names,hnm⟩ : ∃ l:List Nm,l=ns.mergeSort (fun x y=>decide (x≤y)):=⟨_,rfl⟩
     have HNM:=Lib.hid (show Named es names from ⟨ns,by have:=HPM.out; rw [hnil,List.append_nil,HKE.out] at this; exact this.symm,hnm⟩)
     have HFS:=Lib.hid (show (ns.filter (anew mfw mf ch)).mergeSort (fun x y=>decide (x≤y))=names.filter (anew mfw mf ch) by rw [hnm]; exact filter_sort _ _)
     have HLE:=Lib.hid (show (ns.filter (anew mfw mf ch)).length=(names.filter (anew mfw mf ch)).length by rw [← HFS.out]; exact (List.length_mergeSort _).symm)
     clear hnx hri hle hnm hrd hll hns hfl
     go_wp2_with fail
     refine HST.out.mono ?_; rintro _ w6 ⟨rfl,ho6,hc6⟩
     have hr6:=ho6
     rw [HFS.out,HLE.out] at hr6
     have HR6:=Lib.hid hr6
     have HC6:=Lib.hid (HCR2.out.trans hc6 (fun x hx=>.inr (by have:=HFR.out x hx; have:=HSZ.out; omega)))
     clear ho6 hc6 hr6 hnx'
     go_wp2_with fail
     go_ret
     refine ⟨HC6.out,names,_,HNM.out,rfl,?_⟩
     obtain ⟨a',c',he,hac,hrow⟩:=Row.of_owns HR6.out (F:=New w w6) (fun y hy=>⟨by have:=HFR.out y (by have:=HLE.out; simpa [blk] using hy); have:=HSZ.out; omega,owns_lt HR6.out y hy⟩)
     exact ⟨a',c',he,hac,hrow⟩
    ·have HRI:=Lib.hid hri2; have HN1:=Lib.hid (Used.next_perm hrd hn1 hn4 hn5)
     have hnx':=next_ty hnx
     have HCN:=Lib.hid (HCR2.out.trans hcn (fun x hx=>.inr (by have:=HSZ.out; simp at hx; omega)))
     have hszn:=hcn.size
     have HON:=Lib.hid (owns_kept HO.out hcn (fun x hx=>by have:=HFR.out x hx; have:=HSZ.out; simp; omega))
     have HHN:=Lib.hid (HH.out.kept hcn (by have:=HSZ.out; simp; omega))
     have HLE:=Lib.hid hle
     have HN5:=Lib.hid hn5
     obtain ⟨m,ai,ci,av,cv,ap,cp,ab,cb,hmf,rfl,hmo⟩:=mod_at (HM.out.kept HCN.out (by simp) (by simp)) hn3
     have HGM:=Lib.hid (HGN.out n m hmf); have HWM:=Lib.hid (HGR.out n m hmf)
     have HMO:=Lib.hid hmo
     have HIMP:=Lib.hid (show impOf mf n=m.imports by rw [impOf,hmf])
     have HMOR:=Lib.hid (show modOr mf n=m by rw [modOr,hmf]; rfl)
     have hil : m.imports.length≤1000:=by have:=impOf_few HM.out n; rwa [HIMP.out] at this
     have hlk:=had_look HHN.out HIN.out n
     obtain ⟨wS,hwS⟩ : ∃ y,wn.alloc (.cells #[Value.string (bs m.name),.slice ai m.imports.length ci,.slice av m.vars.length cv,.slice ap m.procs.length cp,.slice ab m.body.len cb] 31)=y:=⟨_,rfl⟩
     have hbS:Blk wS wn.heap.size #[str m.name,.slice ai m.imports.length ci,.slice av m.vars.length cv,.slice ap m.procs.length cp,.slice ab m.body.len cb] 31:=by rw [← hwS]; exact Blk.new wn _ _
     have hcS:Chg [] wn wS:=by rw [← hwS]; exact (Chg.refl _ _).alloc _
     have hlkS:=had_look (HHN.out.kept hcS (by simp)) HIN.out n
     have HBS:=Lib.hid hbS; have HCS:=Lib.hid hcS
     have HCSW:=Lib.hid (HCN.out.then hcS)
     have hb1:=hbS.cell 1 _ rfl
     have HSS:=Lib.hid hcS.size
     clear hnx hri hri2 hcn hle hn1 hn2 hn3 hn4 hn5 hmf hmo hbS hcS hrd
     go_wp2_with fail
     clear hwS hb1 hlk hlkS hnx' hent
     obtain ⟨wr0,hwr0⟩ : ∃ x,x=wr:=⟨_,rfl⟩
     subst hwr0
     go_loopw [13,15,16,40] (fun r _ _ t wr=>∃ (q:Nat) (rb:Bool),t=num q∧q≤m.imports.length∧r = .bool rb∧rb=(decide (n∈ch) || (m.imports.take q).any (staleP mfw mf ch n))∧Chg [] wS wr) (fun _ _ _ t _=>m.imports.length - (intOf t).toNat)
     case atStart=>exact ⟨0,_,rfl,Nat.zero_le _,rfl,by simp,Chg.refl _ _⟩
     case round=>
      obtain ⟨q,rb,rfl,hq,rfl,hrb,hc⟩:=hrel
      have HC:=Lib.hid hc; have HRB:=Lib.hid hrb
      have HCW2:=Lib.hid (HCSW.out.then hc)
      clear hc hrb
      by_cases hql : q < m.imports.length
      ·obtain ⟨i,hi⟩ : ∃ i,m.imports[q]?=some i:=⟨m.imports[q],List.getElem?_eq_getElem hql⟩
       have hmoR:=HMO.out.kept (HCS.out.then HC.out) (by simp)
       have hmoR2:=hmoR
       obtain ⟨vi,vv,vp,vb,he,⟨a',c',he2,_,hirow⟩,_⟩:=hmoR2
       cases he
       cases he2
       obtain ⟨xb,xo,rfl,x0⟩:=names_cell hirow hi
       obtain ⟨m0,m1,m2,m3,m4⟩:=(HBS.out.kept HC.out (by simp)).five
       have HUS:=Lib.hid (rused_any m HWM.out.1 HWM.out.2 HGM.out.cnt i G _ wr (fun x hx=>by have:=HGB.out x hx; have:=HCW2.out.size; omega) hmoR)
       have HAT:=Lib.hid (any_take (staleP mfw mf ch n) hi)
       obtain ⟨us,hus⟩ : ∃ y,y=usedL i m:=⟨_,rfl⟩
       rw [← hus] at HUS
       have HUSE:=Lib.hid hus
       clear hi hmoR hirow hus
       go_wp2_with fail
       refine HUS.out.mono ?_; rintro _ w5 ⟨u,rfl,hu,hc5⟩
       have HU:=Lib.hid hu
       obtain ⟨ua,uc,rfl,_,_⟩:=hu
       have HC5:=Lib.hid (HC.out.then hc5); have HCW5:=Lib.hid (HCW2.out.then hc5)
       clear hc5 m0 m1 m2 m3 m4 x0
       go_wp2_with fail
       obtain ⟨wD,hwD⟩ : ∃ x,x=w5.drew:=⟨_,rfl⟩
       have hcD:Chg [] w5 wD:=by rw [hwD]; exact (Chg.refl [] w5).drew
       have HC6:=Lib.hid (HC5.out.then hcD); have HCW6:=Lib.hid (HCW5.out.then hcD)
       have HHD:=Lib.hid (HHN.out.kept (HCS.out.then HC6.out) (by simp))
       have HUD:=Lib.hid (HU.out.kept hcD (by simp))
       clear hcD
       cases rb with
       | true=>
        have HRX:=Lib.hid (show true=(decide (n∈ch) || (m.imports.take (q + 1)).any (staleP mfw mf ch n)) by rw [HAT.out,← Bool.or_assoc,← HRB.out]; rfl)
        refine wp_region_L [] rfl (by kernel_rfl) ?_
        rw [← hwD]
        clear hwD
        have hS:Chg [] wD wD:=Chg.refl _ _
        repeat ((with_reducible refine gX ?_); (first | refine wpX_nil ?_ | refine sK ?_ | refine sM fun _ _=>?_ | refine sL fun _ _=>?_ | refine sE fun _ _=>?_); go_wp2_with fail)
        clear hS
        go_wp2_with fail
        exact ⟨⟨q + 1,true,by go_num,by omega,rfl,HRX.out,HC6.out⟩,by simp [intOf]; omega⟩
       | false=>
        cases hin : decide (i∈ch) with
        | false=>
         have HRX:=Lib.hid (show false=(decide (n∈ch) || (m.imports.take (q + 1)).any (staleP mfw mf ch n)) by rw [HAT.out,← Bool.or_assoc,← HRB.out,staleP,hin]; rfl)
         have HLI:=Lib.hid (show ∀ w',Chg [] wD w'→(Instr.lookup 114 (.map (some w.heap.size)) (str i) false).run Tryz.prog w' = .ok (.bool false) w' from fun w' hw'=>by
          have:=had_look (HHD.out.kept hw' (by simp)) HIN.out i
          rwa [hin] at this)
         clear hin
         refine wp_region_L [] rfl (by kernel_rfl) ?_
         rw [← hwD]
         clear hwD
         have hS:Chg [] wD wD:=Chg.refl _ _
         repeat ((with_reducible refine gX ?_); (first | refine wpX_nil ?_ | refine sK ?_ | refine sM fun _ _=>?_ | refine sL fun _ _=>?_ | refine sE fun _ _=>?_); go_wp2_with fail)
         refine wpX_lk rfl rfl rfl rfl HLI.out ?_
         go_wp2_with fail
         repeat ((with_reducible refine gX ?_); (first | refine wpX_nil ?_ | refine sK ?_ | refine sM fun _ _=>?_ | refine sL fun _ _=>?_ | refine sE fun _ _=>?_); go_wp2_with fail)
         clear hS
         go_wp2_with fail
         exact ⟨⟨q + 1,false,by go_num,by omega,rfl,HRX.out,HC6.out⟩,by simp [intOf]; omega⟩
        | true=>
         have HRX:=Lib.hid (show other mfw mf n i=(decide (n∈ch) || (m.imports.take (q + 1)).any (staleP mfw mf ch n)) by rw [HAT.out,← Bool.or_assoc,← HRB.out,staleP,hin]; rfl)
         have HLI:=Lib.hid (show ∀ w',Chg [] wD w'→(Instr.lookup 114 (.map (some w.heap.size)) (str i) false).run Tryz.prog w' = .ok (.bool true) w' from fun w' hw'=>by
          have:=had_look (HHD.out.kept hw' (by simp)) HIN.out i
          rwa [hin] at this)
         clear hin
         obtain ⟨ai1,ci1,av1,cv1,ap1,cp1,ab1,cb1,hlk1,hmo1⟩:=look_was (HWAS.out.kept HCW6.out) i
         obtain ⟨ai2,ci2,av2,cv2,ap2,cp2,ab2,cb2,hlk2,hmo2⟩:=look_was (.inr ⟨b,es,rfl,HM.out.kept HCW6.out (by simp) (by simp)⟩ : WasAt wD G mf (some b)) i
         have HLK1:=Lib.hid hlk1; have HLK2:=Lib.hid hlk2; have HM2:=Lib.hid hmo2
         have HGI:=Lib.hid (HGW.out.or i); have HNI:=Lib.hid (HGN.out.or i)
         have HGD:=Lib.hid (show ∀ x,G x→x < wD.heap.size from fun x hx=>by have:=HGB.out x hx; have:=HCW6.out.size; omega)
         have HOF1:=Lib.hid (rof_mod HGI.out wD HGD.out hmo1)
         have hus2 : us=usedL i (modOr mf n):=by rw [HUSE.out,HMOR.out]
         have husl : us.length≤1000:=by rw [HUSE.out]; exact used_few HGM.out i
         have HUSN:=Lib.hid (show ∀ x∈us,x.length≤1000000 by rw [HUSE.out]; exact HGM.out.names i)
         have HOT:=Lib.hid (show other mfw mf n i = !(needsT (ofM (modOr mfw i)) us == needsT (ofM (modOr mf i)) us) by rw [other,← hus2])
         obtain ⟨mA,hmA⟩ : ∃ y,y=modOr mfw i:=⟨_,rfl⟩
         obtain ⟨mB,hmB⟩ : ∃ y,y=modOr mf i:=⟨_,rfl⟩
         rw [← hmA] at HLK1 HOF1 HGI HOT
         rw [← hmB] at HLK2 HM2 HNI HOT
         clear hlk1 hmo1 hlk2 hmo2 hus2 hmA hmB
         refine wp_region_L [] rfl (by kernel_rfl) ?_
         rw [← hwD]
         clear hwD
         have hS:Chg [] wD wD:=Chg.refl _ _
         repeat ((with_reducible refine gX ?_); (first | refine wpX_nil ?_ | refine sK ?_ | refine sM fun _ _=>?_ | refine sL fun _ _=>?_ | refine sE fun _ _=>?_); go_wp2_with fail)
         refine wpX_lk rfl rfl rfl rfl HLI.out ?_
         go_wp2_with fail
         repeat ((with_reducible refine gX ?_); (first | refine wpX_nil ?_ | refine sK ?_ | refine sM fun _ _=>?_ | refine sL fun _ _=>?_ | refine sE fun _ _=>?_); go_wp2_with fail)
         refine wpX_lk rfl rfl rfl rfl HLK1.out ?_
         go_wp2_with fail
         repeat ((with_reducible refine gX ?_); (first | refine wpX_nil ?_ | refine sK ?_ | refine sM fun _ _=>?_ | refine sL fun _ _=>?_ | refine sE fun _ _=>?_); go_wp2_with fail)
         refine HOF1.out.mono ?_; rintro _ w7 ⟨v2,rfl,hv2,hc2⟩
         have HV2:=Lib.hid hv2
         obtain ⟨va2,vc2,rfl,_,_,_⟩:=hv2
         have HS2:=Lib.hid hc2
         have HN1':=Lib.hid (rneed_mod HGI.out us husl HUSN.out _ _ _ _ w7 B (HL.out.kept (HCW6.out.then hc2) (by simp)) HV2.out (HUD.out.kept hc2 (by simp)))
         clear hS hc2
         go_wp2_with fail
         refine And.intro HS2.out ?_
         have hS:=HS2.out
         repeat ((with_reducible refine gX ?_); (first | refine wpX_nil ?_ | refine sK ?_ | refine sM fun _ _=>?_ | refine sL fun _ _=>?_ | refine sE fun _ _=>?_); go_wp2_with fail)
         refine HN1'.out.mono ?_; rintro _ w8 ⟨rfl,hc3⟩
         have HS3:=Lib.hid (HS2.out.then hc3)
         have HOF2:=Lib.hid (rof_mod HNI.out w8 (fun x hx=>by have:=HGD.out x hx; have:=HS3.out.size; omega) (HM2.out.kept HS3.out (by simp)))
         clear hc3 hS
         go_wp2_with fail
         refine And.intro HS3.out ?_
         have hS:=HS3.out
         repeat ((with_reducible refine gX ?_); (first | refine wpX_nil ?_ | refine sK ?_ | refine sM fun _ _=>?_ | refine sL fun _ _=>?_ | refine sE fun _ _=>?_); go_wp2_with fail)
         refine wpX_lk rfl rfl rfl rfl HLK2.out ?_
         go_wp2_with fail
         repeat ((with_reducible refine gX ?_); (first | refine wpX_nil ?_ | refine sK ?_ | refine sM fun _ _=>?_ | refine sL fun _ _=>?_ | refine sE fun _ _=>?_); go_wp2_with fail)
         refine HOF2.out.mono ?_; rintro _ w9 ⟨v4,rfl,hv4,hc4⟩
         have HV4:=Lib.hid hv4
         obtain ⟨va4,vc4,rfl,_,_,_⟩:=hv4
         have HS4:=Lib.hid (HS3.out.then hc4)
         have HN2:=Lib.hid (rneed_mod HNI.out us husl HUSN.out _ _ _ _ w9 B (HL.out.kept (HCW6.out.then HS4.out) (by simp)) HV4.out (HUD.out.kept HS4.out (by simp)))
         clear hS hc4
         go_wp2_with fail
         refine And.intro HS4.out ?_
         have hS:=HS4.out
         repeat ((with_reducible refine gX ?_); (first | refine wpX_nil ?_ | refine sK ?_ | refine sM fun _ _=>?_ | refine sL fun _ _=>?_ | refine sE fun _ _=>?_); go_wp2_with fail)
         refine HN2.out.mono ?_; rintro _ w10 ⟨rfl,hc5⟩
         have HS5:=Lib.hid (HS4.out.then hc5)
         have HC10:=Lib.hid (HC6.out.then HS5.out)
         clear hc5 hS
         go_wp2_with fail
         refine And.intro HS5.out ?_
         have hS:=HS5.out
         repeat ((with_reducible refine gX ?_); (first | refine wpX_nil ?_ | refine sK ?_ | refine sM fun _ _=>?_ | refine sL fun _ _=>?_ | refine sE fun _ _=>?_); go_wp2_with fail)
         clear hS
         go_wp2_with fail
         exact ⟨⟨q + 1,other mfw mf n i,by go_num,by omega,by rw [HOT.out] <;> rfl,HRX.out,HC10.out⟩,by simp [intOf]; omega⟩
      ·have HRX:=Lib.hid (show rb=(anew mfw mf ch) n by rw [HRB.out,List.take_of_length_le (by omega),anew,HIMP.out])
       have HCX:=Lib.hid (HCS.out.then HC.out)
       have HRK:=Lib.hid ((HRI.out.kept HCX.out (by simp) (by simp)))
       have hox:=owns_kept HON.out HCX.out (by simp)
       have HHX:=Lib.hid (HHN.out.kept HCX.out (by simp))
       have HPX:=Lib.hid (show keys.Perm ((ns ++ [n]) ++ rest') by
        refine HPM.out.trans ?_
        rw [List.append_assoc]
        exact List.Perm.append_left ns HN1.out)
       have hszx:=HCX.out.size
       have hszw:=HCW2.out.size
       cases rb with
       | false=>
        have HFX:=Lib.hid (show (ns ++ [n]).filter (anew mfw mf ch)=ns.filter (anew mfw mf ch) by rw [List.filter_append,List.filter_cons,← HRX.out]; simp)
        have HOX:=Lib.hid hox
        clear hox
        go_wp2_with fail
        go_roundw
        case rel=>exact ⟨ns ++ [n],rest',HRK.out,HPX.out,by rw [HFX.out]; exact HOX.out,HFR.out,HCW2.out,HHX.out,by omega⟩
        case measure=>rw [HRK.out.left_eq,HLE.out]; exact HN5.out
       | true=>
        have HFX:=Lib.hid (show (ns ++ [n]).filter (anew mfw mf ch)=ns.filter (anew mfw mf ch) ++ [n] by rw [List.filter_append,List.filter_cons,← HRX.out]; simp)
        have HOX:=Lib.hid (owns_kept hox ((Chg.refl [] wr).alloc (.cells #[str n] 9)) (by simp))
        clear hox
        go_wp2_with (at_builtin; go_must (refine wpL_append rfl _ _ 25 rfl 9 _ 1 16 infoStr Tryz.underlying25 rfl (by decide) _ _ _ rfl HOX.out ⟨wr.heap.size,0,none⟩ 1 1 [_] rfl rfl (cell_new1 _ _ _) (by simp [Value.oneCell']) ?_ ?_ ?_))
        ·omega
        ·unfold maxLen; omega
        ·intro v' w' hown' hch' hmv'
         have HO3:=Lib.hid (show w'.ownsRow 0 9 1 v' ((ns ++ [n]).filter (anew mfw mf ch)).length (((ns ++ [n]).filter (anew mfw mf ch)).map str) by rw [HFX.out]; simpa using hown')
         have HF3:=Lib.hid (HFR.out.moved hmv' (by simp; omega))
         have HC3:=Lib.hid ((HCW2.out.alloc (.cells #[str n] 9)).trans hch' (fun x hx=>.inr (by have:=HFR.out x hx; have:=HSZ.out; omega)))
         have HR3:=Lib.hid ((HRK.out.kept ((Chg.refl [] wr).alloc (.cells #[str n] 9)) (by simp) (by simp)).kept hch' (fun h=>by have:=HFR.out _ h; have:=HSZ.out; omega) (fun h=>by have:=HFR.out _ h; have:=HSZ.out; omega))
         have HH3:=Lib.hid ((HHX.out.kept ((Chg.refl [] wr).alloc (.cells #[str n] 9)) (by simp)).kept hch' (fun h=>by have:=HFR.out _ h; have:=HSZ.out; omega))
         have hs3 : w4.heap.size≤w'.heap.size:=by have:=hch'.size; simp at this; omega
         clear hown' hch' hmv'
         go_wp2_with fail
         go_roundw
         case rel=>exact ⟨ns ++ [n],rest',HR3.out,HPX.out,HO3.out,HF3.out,HC3.out,HH3.out,hs3⟩
         case measure=>rw [HR3.out.left_eq,HLE.out]; exact HN5.out
end Go.Proofs.YtojkkgghndeimaaGreatDoor
