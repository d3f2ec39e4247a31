/- Some texts in one. -/
import Derived.Lib.AppendZerosOnto
import Derived.Defers
import Derived.Recover
import Derived.Test.YtilhhkokdfajiaaGreatDoorI12
import Derived.Test.YtilhhkokdfajiaaGreatDoorI15
namespace Go.Mq.Check
open Go Go.RowKit Go.Mq Go.Mq.Tree Go.Mq.Sym
theorem set7C {w:World} {b:Nat} (v0 v1 v2 v3 v4 v5 v6:Value) {u0 u1 u2 u3 u4 u5 u6:Value} {t:TypeId} (h:Blk w b #[u0,u1,u2,u3,u4,u5,u6] t) : ∃ wF,(((((((w.setCell ⟨b,0,none⟩ v0).setCell ⟨b,1,none⟩ v1).setCell ⟨b,2,none⟩ v2).setCell ⟨b,3,none⟩ v3).setCell ⟨b,4,none⟩ v4).setCell ⟨b,5,none⟩ v5).setCell ⟨b,6,none⟩ v6)=wF∧Chg [b] w wF∧Blk wF b #[v0,v1,v2,v3,v4,v5,v6] t:=
 ⟨_,rfl,((((((Chg.set1 _ _ _ _).then (Chg.set1 _ _ _ _)).then (Chg.set1 _ _ _ _)).then (Chg.set1 _ _ _ _)).then (Chg.set1 _ _ _ _)).then (Chg.set1 _ _ _ _)).then (Chg.set1 _ _ _ _),by
  have:=((((((h.set 0 v0).set 1 v1).set 2 v2).set 3 v3).set 4 v4).set 5 v5).set 6 v6
  simpa using this⟩
theorem cells7C {w:World} {F:Nat→Prop} {a:Option Addr} {cs1 cs':List Value} {c0 c1 c2 c3 c4 c5 c6:Value} {k:Nat} (h:Row w F a (cs1 ++ c0 :: c1 :: c2 :: c3 :: c4 :: c5 :: c6 :: cs')) (hl : cs1.length=k * 7) :
  ∃ bb off,a=some ⟨bb,off,none⟩∧w.cell? ⟨bb,off + k * 7,none⟩=some c0∧w.cell? ⟨bb,off + k * 7 + 1,none⟩=some c1∧w.cell? ⟨bb,off + k * 7 + 2,none⟩=some c2∧w.cell? ⟨bb,off + k * 7 + 3,none⟩=some c3∧w.cell? ⟨bb,off + k * 7 + 4,none⟩=some c4∧w.cell? ⟨bb,off + k * 7 + 5,none⟩=some c5∧w.cell? ⟨bb,off + k * 7 + 6,none⟩=some c6:=by
 obtain ⟨bb,off,rfl,hc⟩:=h.at_ (by simp only [List.length_append,List.length_cons]; omega)
 have g : ∀ i v,(c0 :: c1 :: c2 :: c3 :: c4 :: c5 :: c6 :: cs')[i]?=some v→w.cell? ⟨bb,off + k * 7 + i,none⟩=some v:=fun i v hv=>by
  rw [Nat.add_assoc]
  refine hc (k * 7 + i) v ?_
  rw [← hl,List.getElem?_append_right (by omega),Nat.add_sub_cancel_left]
  exact hv
 exact ⟨bb,off,rfl,by simpa using g 0 _ rfl,g 1 _ rfl,g 2 _ rfl,g 3 _ rfl,g 4 _ rfl,g 5 _ rfl,g 6 _ rfl⟩
def AllB (P:S→Prop):S→Prop
 | .nil=>True
 | .set _ _ _ _ r=>AllB P r
 | .ifs _ _ t e r=>P t∧P e∧AllB P r
 | .whil _ _ t r=>P t∧AllB P r
 | .ret _ _ r=>AllB P r
 | .wri _ _ r=>AllB P r
 | .call _ _ r=>AllB P r
theorem EnvAt.mono {w:World} {F G:Nat→Prop} {c:Env} {bc:Nat} (h:EnvAt w F c bc) (hF : ∀ x,F x→G x):EnvAt w G c bc:=by
 obtain ⟨nm,vi,vv,vp,vb,vm,vl,h1,h2,h3,⟨a,k,cs,h4,h5,h6,h7⟩,h8,h9⟩:=h.at_
 exact ⟨hF _ h.own,h.fewi,h.fewl,h.fewv,h.fewp,nm,vi,vv,vp,vb,vm,vl,h1,h2.mono hF,h3.mono hF,⟨a,k,cs,h4,h5,h6.mono hF,h7⟩,h8.mono hF,h9.mono hF⟩
end Go.Mq.Check
namespace Go.Proofs.YtilhhkokdfajiaaGreatDoor
open Go Go.RowKit Go.Mq Go.Mq.Tree Go.Mq.Sym Go.Mq.Check
set_option maxRecDepth 100000
set_option maxHeartbeats 2000000
abbrev Does (f:Nat) (bc:Nat) (v:Value) (w:World) (r:Look):Prop:=∀ w',Chg [] w w'→Calls Tryz.prog f #[ptr bc,v] w' (Looked [] w' r)
theorem stmt_any (bc p n1 k1 n2 k2:Nat) (nm:List UInt8) (uv:Value) (a1 a2:Option Addr) (w:World) (code:Nat) (hcode : code≠1) (ui:Value) (L2 L3 L4:Look) (K2:Does 65 bc uv w L2) (K3:Does 26 bc (.slice a1 n1 k1) w L3) (K4:Does 26 bc (.slice a2 n2 k2) w L4) :
  Calls Tryz.prog 48 #[ptr bc,.agg #[.int .i64 code,.int .i64 p,str nm,ui,uv,.slice a1 n1 k1,.slice a2 n2 k2]] w (Looked [] w (L2.or (L3.or L4))):=by
 have hcd : ((code:Int) == 1)=false:=by simp; omega
 have hcd2 : decide ((code:Int)=1)=false:=by simp; omega
 obtain ⟨tgt,htgt⟩ : ∃ t,t=L2.or (L3.or L4):=⟨_,rfl⟩
 rw [← htgt]
 have HTG:=Lib.hid htgt
 have K2:=Lib.hid K2; have K3:=Lib.hid K3; have K4:=Lib.hid K4
 obtain ⟨wS,hwS⟩ : ∃ x,w.alloc (.cells #[.int .i64 code,.int .i64 p,str nm,ui,uv,.slice a1 n1 k1,.slice a2 n2 k2] 85)=x:=⟨_,rfl⟩
 have hsb:=Blk.new w #[.int .i64 code,.int .i64 p,str nm,ui,uv,.slice a1 n1 k1,.slice a2 n2 k2] 85
 have hcs:Chg [] w wS:=by rw [← hwS]; exact (Chg.refl _ _).alloc _
 rw [hwS] at hsb
 have HSB:=Lib.hid hsb; have HCW:=Lib.hid hcs
 clear hsb hcs htgt
 have s0 : wS.cell? ⟨w.heap.size,0,none⟩=_:=HSB.out.cell 0 _ rfl
 have s1 : wS.cell? ⟨w.heap.size,1,none⟩=_:=HSB.out.cell 1 _ rfl
 have s2 : wS.cell? ⟨w.heap.size,2,none⟩=_:=HSB.out.cell 2 _ rfl
 have s3 : wS.cell? ⟨w.heap.size,3,none⟩=_:=HSB.out.cell 3 _ rfl
 have s4 : wS.cell? ⟨w.heap.size,4,none⟩=_:=HSB.out.cell 4 _ rfl
 have s5 : wS.cell? ⟨w.heap.size,5,none⟩=_:=HSB.out.cell 5 _ rfl
 have s6 : wS.cell? ⟨w.heap.size,6,none⟩=_:=HSB.out.cell 6 _ rfl
 clear hcode
 go_enter Tryz.func48,Tryz.ntmps48
 go_wp2_with fail
 clear hwS hcd hcd2
 have HK:=Lib.hid (K2.out wS HCW.out)
 rcases L2 with _ | ⟨en,q⟩
 ·refine (HK.out).mono ?_
  rintro _ w40 ⟨hc,rfl⟩
  have hWD:Chg [] wS w40:=hc
  have HSB:=Lib.hid (HSB.out.kept hWD (by simp)); have HCW:=Lib.hid (HCW.out.then hWD)
  clear hWD
  clear hc HK
  clear s0 s1 s2 s3 s4 s5 s6
  have s0 : w40.cell? ⟨w.heap.size,0,none⟩=_:=HSB.out.cell 0 _ rfl
  have s1 : w40.cell? ⟨w.heap.size,1,none⟩=_:=HSB.out.cell 1 _ rfl
  have s2 : w40.cell? ⟨w.heap.size,2,none⟩=_:=HSB.out.cell 2 _ rfl
  have s3 : w40.cell? ⟨w.heap.size,3,none⟩=_:=HSB.out.cell 3 _ rfl
  have s4 : w40.cell? ⟨w.heap.size,4,none⟩=_:=HSB.out.cell 4 _ rfl
  have s5 : w40.cell? ⟨w.heap.size,5,none⟩=_:=HSB.out.cell 5 _ rfl
  have s6 : w40.cell? ⟨w.heap.size,6,none⟩=_:=HSB.out.cell 6 _ rfl
  go_wp2_with fail
  have HK:=Lib.hid (K3.out w40 HCW.out)
  rcases L3 with _ | ⟨en,q⟩
  ·refine (HK.out).mono ?_
   rintro _ w50 ⟨hc,rfl⟩
   have hWD:Chg [] w40 w50:=hc
   have HSB:=Lib.hid (HSB.out.kept hWD (by simp)); have HCW:=Lib.hid (HCW.out.then hWD)
   clear hWD
   clear hc HK
   clear s0 s1 s2 s3 s4 s5 s6
   have s0 : w50.cell? ⟨w.heap.size,0,none⟩=_:=HSB.out.cell 0 _ rfl
   have s1 : w50.cell? ⟨w.heap.size,1,none⟩=_:=HSB.out.cell 1 _ rfl
   have s2 : w50.cell? ⟨w.heap.size,2,none⟩=_:=HSB.out.cell 2 _ rfl
   have s3 : w50.cell? ⟨w.heap.size,3,none⟩=_:=HSB.out.cell 3 _ rfl
   have s4 : w50.cell? ⟨w.heap.size,4,none⟩=_:=HSB.out.cell 4 _ rfl
   have s5 : w50.cell? ⟨w.heap.size,5,none⟩=_:=HSB.out.cell 5 _ rfl
   have s6 : w50.cell? ⟨w.heap.size,6,none⟩=_:=HSB.out.cell 6 _ rfl
   go_wp2_with fail
   have HK:=Lib.hid (K4.out w50 HCW.out)
   rcases L4 with _ | ⟨en,q⟩
   ·refine (HK.out).mono ?_
    rintro _ w60 ⟨hc,rfl⟩
    have hWD:Chg [] w50 w60:=hc
    have HSB:=Lib.hid (HSB.out.kept hWD (by simp)); have HCW:=Lib.hid (HCW.out.then hWD)
    clear hWD
    clear hc HK
    clear s0 s1 s2 s3 s4 s5 s6
    have s0 : w60.cell? ⟨w.heap.size,0,none⟩=_:=HSB.out.cell 0 _ rfl
    have s1 : w60.cell? ⟨w.heap.size,1,none⟩=_:=HSB.out.cell 1 _ rfl
    have s2 : w60.cell? ⟨w.heap.size,2,none⟩=_:=HSB.out.cell 2 _ rfl
    have s3 : w60.cell? ⟨w.heap.size,3,none⟩=_:=HSB.out.cell 3 _ rfl
    have s4 : w60.cell? ⟨w.heap.size,4,none⟩=_:=HSB.out.cell 4 _ rfl
    have s5 : w60.cell? ⟨w.heap.size,5,none⟩=_:=HSB.out.cell 5 _ rfl
    have s6 : w60.cell? ⟨w.heap.size,6,none⟩=_:=HSB.out.cell 6 _ rfl
    go_wp2_with fail
    refine bodyPost_end (results_none rfl _ _ _) rfl ?_
    rw [HTG.out]
    exact ⟨HCW.out,rfl⟩
   ·refine (HK.out).mono ?_
    rintro _ w9 ⟨hc,b9,rfl,hl9,hb9⟩
    have HC9:=Lib.hid (HCW.out.then hc); have HB9:=Lib.hid hb9; have HL9:=Lib.hid hl9
    have hsz:=HCW.out.size
    clear hc hb9 hl9
    go_wp2_with fail
    rw [HTG.out]
    exact ⟨rfl,HC9.out,b9,rfl,by have:=HL9.out; omega,HB9.out⟩
  ·refine (HK.out).mono ?_
   rintro _ w9 ⟨hc,b9,rfl,hl9,hb9⟩
   have HC9:=Lib.hid (HCW.out.then hc); have HB9:=Lib.hid hb9; have HL9:=Lib.hid hl9
   have hsz:=HCW.out.size
   clear hc hb9 hl9
   go_wp2_with fail
   rw [HTG.out]
   exact ⟨rfl,HC9.out,b9,rfl,by have:=HL9.out; omega,HB9.out⟩
 ·refine (HK.out).mono ?_
  rintro _ w9 ⟨hc,b9,rfl,hl9,hb9⟩
  have HC9:=Lib.hid (HCW.out.then hc); have HB9:=Lib.hid hb9; have HL9:=Lib.hid hl9
  have hsz:=HCW.out.size
  clear hc hb9 hl9
  go_wp2_with fail
  rw [HTG.out]
  exact ⟨rfl,HC9.out,b9,rfl,by have:=HL9.out; omega,HB9.out⟩
theorem stmt_set0 (bc p n1 k1 n2 k2:Nat) (nm:List UInt8) (uv:Value) (a1 a2:Option Addr) (w:World) (L1 L2 L3 L4:Look) (K1 : ∀ w' b,Chg [] w w'→w.heap.size≤b→Blk w' b #[.int .i64 2,.int .i64 p,.int .i64 0,str [],str nm,str [],nilp,nilp,nils] 83→Calls Tryz.prog 65 #[ptr bc,ptr b] w' (Looked [] w' L1)) (K2:Does 65 bc uv w L2) (K3:Does 26 bc (.slice a1 n1 k1) w L3) (K4:Does 26 bc (.slice a2 n2 k2) w L4) :
  Calls Tryz.prog 48 #[ptr bc,.agg #[.int .i64 1,.int .i64 p,str nm,nilp,uv,.slice a1 n1 k1,.slice a2 n2 k2]] w (Looked [] w (L1.or (L2.or (L3.or L4)))):=by
 obtain ⟨tgt,htgt⟩ : ∃ t,t=L1.or (L2.or (L3.or L4)):=⟨_,rfl⟩
 rw [← htgt]
 have HTG:=Lib.hid htgt
 have K2:=Lib.hid K2; have K3:=Lib.hid K3; have K4:=Lib.hid K4
 obtain ⟨wS,hwS⟩ : ∃ x,w.alloc (.cells #[.int .i64 1,.int .i64 p,str nm,nilp,uv,.slice a1 n1 k1,.slice a2 n2 k2] 85)=x:=⟨_,rfl⟩
 have hsb:=Blk.new w #[.int .i64 1,.int .i64 p,str nm,nilp,uv,.slice a1 n1 k1,.slice a2 n2 k2] 85
 have hcs:Chg [] w wS:=by rw [← hwS]; exact (Chg.refl _ _).alloc _
 rw [hwS] at hsb
 have HSB:=Lib.hid hsb; have HCW:=Lib.hid hcs
 clear hsb hcs htgt
 have s0 : wS.cell? ⟨w.heap.size,0,none⟩=_:=HSB.out.cell 0 _ rfl
 have s1 : wS.cell? ⟨w.heap.size,1,none⟩=_:=HSB.out.cell 1 _ rfl
 have s2 : wS.cell? ⟨w.heap.size,2,none⟩=_:=HSB.out.cell 2 _ rfl
 have s3 : wS.cell? ⟨w.heap.size,3,none⟩=_:=HSB.out.cell 3 _ rfl
 have s4 : wS.cell? ⟨w.heap.size,4,none⟩=_:=HSB.out.cell 4 _ rfl
 have s5 : wS.cell? ⟨w.heap.size,5,none⟩=_:=HSB.out.cell 5 _ rfl
 have s6 : wS.cell? ⟨w.heap.size,6,none⟩=_:=HSB.out.cell 6 _ rfl
 have K1:=Lib.hid K1
 have hb:=Blk.new wS #[.int .i64 2,.int .i64 p,.int .i64 0,str [],str nm,str [],nilp,nilp,nils] 83
 obtain ⟨wB,hwB⟩ : ∃ x,wS.alloc (.cells #[.int .i64 2,.int .i64 p,.int .i64 0,str [],str nm,str [],nilp,nilp,nils] 83)=x:=⟨_,rfl⟩
 rw [hwB] at hb
 have hcB:Chg [] wS wB:=by rw [← hwB]; exact (Chg.refl _ _).alloc _
 have hsz:=HCW.out.size
 have HXB:=Lib.hid hb
 have t3 : wB.cell? ⟨w.heap.size,3,none⟩=_:=hcB.cellSome s3 (by simp)
 clear hb
 go_enter Tryz.func48,Tryz.ntmps48
 go_wp2_with fail
 clear hwS hwB t3
 clear s0 s1 s2 s3 s4 s5 s6
 have hWD:Chg [] wS wB:=hcB
 have HSB:=Lib.hid (HSB.out.kept hWD (by simp)); have HCW:=Lib.hid (HCW.out.then hWD)
 clear hWD
 have s0 : wB.cell? ⟨w.heap.size,0,none⟩=_:=HSB.out.cell 0 _ rfl
 have s1 : wB.cell? ⟨w.heap.size,1,none⟩=_:=HSB.out.cell 1 _ rfl
 have s2 : wB.cell? ⟨w.heap.size,2,none⟩=_:=HSB.out.cell 2 _ rfl
 have s3 : wB.cell? ⟨w.heap.size,3,none⟩=_:=HSB.out.cell 3 _ rfl
 have s4 : wB.cell? ⟨w.heap.size,4,none⟩=_:=HSB.out.cell 4 _ rfl
 have s5 : wB.cell? ⟨w.heap.size,5,none⟩=_:=HSB.out.cell 5 _ rfl
 have s6 : wB.cell? ⟨w.heap.size,6,none⟩=_:=HSB.out.cell 6 _ rfl
 have K1:=Lib.hid (show Calls Tryz.prog 65 #[ptr bc,ptr wS.heap.size] wB (Looked [] wB L1) from K1.out wB _ HCW.out (by omega) HXB.out)
 have HK:=K1
 rcases L1 with _ | ⟨en,q⟩
 ·refine (HK.out).mono ?_
  rintro _ w30 ⟨hc,rfl⟩
  have hWD:Chg [] wB w30:=hc
  have HSB:=Lib.hid (HSB.out.kept hWD (by simp)); have HCW:=Lib.hid (HCW.out.then hWD)
  clear hWD
  clear hc HK
  clear s0 s1 s2 s3 s4 s5 s6
  have s0 : w30.cell? ⟨w.heap.size,0,none⟩=_:=HSB.out.cell 0 _ rfl
  have s1 : w30.cell? ⟨w.heap.size,1,none⟩=_:=HSB.out.cell 1 _ rfl
  have s2 : w30.cell? ⟨w.heap.size,2,none⟩=_:=HSB.out.cell 2 _ rfl
  have s3 : w30.cell? ⟨w.heap.size,3,none⟩=_:=HSB.out.cell 3 _ rfl
  have s4 : w30.cell? ⟨w.heap.size,4,none⟩=_:=HSB.out.cell 4 _ rfl
  have s5 : w30.cell? ⟨w.heap.size,5,none⟩=_:=HSB.out.cell 5 _ rfl
  have s6 : w30.cell? ⟨w.heap.size,6,none⟩=_:=HSB.out.cell 6 _ rfl
  go_wp2_with fail
  have HK:=Lib.hid (K2.out w30 HCW.out)
  rcases L2 with _ | ⟨en,q⟩
  ·refine (HK.out).mono ?_
   rintro _ w40 ⟨hc,rfl⟩
   have hWD:Chg [] w30 w40:=hc
   have HSB:=Lib.hid (HSB.out.kept hWD (by simp)); have HCW:=Lib.hid (HCW.out.then hWD)
   clear hWD
   clear hc HK
   clear s0 s1 s2 s3 s4 s5 s6
   have s0 : w40.cell? ⟨w.heap.size,0,none⟩=_:=HSB.out.cell 0 _ rfl
   have s1 : w40.cell? ⟨w.heap.size,1,none⟩=_:=HSB.out.cell 1 _ rfl
   have s2 : w40.cell? ⟨w.heap.size,2,none⟩=_:=HSB.out.cell 2 _ rfl
   have s3 : w40.cell? ⟨w.heap.size,3,none⟩=_:=HSB.out.cell 3 _ rfl
   have s4 : w40.cell? ⟨w.heap.size,4,none⟩=_:=HSB.out.cell 4 _ rfl
   have s5 : w40.cell? ⟨w.heap.size,5,none⟩=_:=HSB.out.cell 5 _ rfl
   have s6 : w40.cell? ⟨w.heap.size,6,none⟩=_:=HSB.out.cell 6 _ rfl
   go_wp2_with fail
   have HK:=Lib.hid (K3.out w40 HCW.out)
   rcases L3 with _ | ⟨en,q⟩
   ·refine (HK.out).mono ?_
    rintro _ w50 ⟨hc,rfl⟩
    have hWD:Chg [] w40 w50:=hc
    have HSB:=Lib.hid (HSB.out.kept hWD (by simp)); have HCW:=Lib.hid (HCW.out.then hWD)
    clear hWD
    clear hc HK
    clear s0 s1 s2 s3 s4 s5 s6
    have s0 : w50.cell? ⟨w.heap.size,0,none⟩=_:=HSB.out.cell 0 _ rfl
    have s1 : w50.cell? ⟨w.heap.size,1,none⟩=_:=HSB.out.cell 1 _ rfl
    have s2 : w50.cell? ⟨w.heap.size,2,none⟩=_:=HSB.out.cell 2 _ rfl
    have s3 : w50.cell? ⟨w.heap.size,3,none⟩=_:=HSB.out.cell 3 _ rfl
    have s4 : w50.cell? ⟨w.heap.size,4,none⟩=_:=HSB.out.cell 4 _ rfl
    have s5 : w50.cell? ⟨w.heap.size,5,none⟩=_:=HSB.out.cell 5 _ rfl
    have s6 : w50.cell? ⟨w.heap.size,6,none⟩=_:=HSB.out.cell 6 _ rfl
    go_wp2_with fail
    have HK:=Lib.hid (K4.out w50 HCW.out)
    rcases L4 with _ | ⟨en,q⟩
    ·refine (HK.out).mono ?_
     rintro _ w60 ⟨hc,rfl⟩
     have hWD:Chg [] w50 w60:=hc
     have HSB:=Lib.hid (HSB.out.kept hWD (by simp)); have HCW:=Lib.hid (HCW.out.then hWD)
     clear hWD
     clear hc HK
     clear s0 s1 s2 s3 s4 s5 s6
     have s0 : w60.cell? ⟨w.heap.size,0,none⟩=_:=HSB.out.cell 0 _ rfl
     have s1 : w60.cell? ⟨w.heap.size,1,none⟩=_:=HSB.out.cell 1 _ rfl
     have s2 : w60.cell? ⟨w.heap.size,2,none⟩=_:=HSB.out.cell 2 _ rfl
     have s3 : w60.cell? ⟨w.heap.size,3,none⟩=_:=HSB.out.cell 3 _ rfl
     have s4 : w60.cell? ⟨w.heap.size,4,none⟩=_:=HSB.out.cell 4 _ rfl
     have s5 : w60.cell? ⟨w.heap.size,5,none⟩=_:=HSB.out.cell 5 _ rfl
     have s6 : w60.cell? ⟨w.heap.size,6,none⟩=_:=HSB.out.cell 6 _ rfl
     go_wp2_with fail
     refine bodyPost_end (results_none rfl _ _ _) rfl ?_
     rw [HTG.out]
     exact ⟨HCW.out,rfl⟩
    ·refine (HK.out).mono ?_
     rintro _ w9 ⟨hc,b9,rfl,hl9,hb9⟩
     have HC9:=Lib.hid (HCW.out.then hc); have HB9:=Lib.hid hb9; have HL9:=Lib.hid hl9
     have hsz:=HCW.out.size
     clear hc hb9 hl9
     go_wp2_with fail
     rw [HTG.out]
     exact ⟨rfl,HC9.out,b9,rfl,by have:=HL9.out; omega,HB9.out⟩
   ·refine (HK.out).mono ?_
    rintro _ w9 ⟨hc,b9,rfl,hl9,hb9⟩
    have HC9:=Lib.hid (HCW.out.then hc); have HB9:=Lib.hid hb9; have HL9:=Lib.hid hl9
    have hsz:=HCW.out.size
    clear hc hb9 hl9
    go_wp2_with fail
    rw [HTG.out]
    exact ⟨rfl,HC9.out,b9,rfl,by have:=HL9.out; omega,HB9.out⟩
  ·refine (HK.out).mono ?_
   rintro _ w9 ⟨hc,b9,rfl,hl9,hb9⟩
   have HC9:=Lib.hid (HCW.out.then hc); have HB9:=Lib.hid hb9; have HL9:=Lib.hid hl9
   have hsz:=HCW.out.size
   clear hc hb9 hl9
   go_wp2_with fail
   rw [HTG.out]
   exact ⟨rfl,HC9.out,b9,rfl,by have:=HL9.out; omega,HB9.out⟩
 ·refine (HK.out).mono ?_
  rintro _ w9 ⟨hc,b9,rfl,hl9,hb9⟩
  have HC9:=Lib.hid (HCW.out.then hc); have HB9:=Lib.hid hb9; have HL9:=Lib.hid hl9
  have hsz:=HCW.out.size
  clear hc hb9 hl9
  go_wp2_with fail
  rw [HTG.out]
  exact ⟨rfl,HC9.out,b9,rfl,by have:=HL9.out; omega,HB9.out⟩
theorem stmt_set1 (bc p n1 k1 n2 k2:Nat) (nm:List UInt8) (uv:Value) (a1 a2:Option Addr) (w:World) (bi:Nat) (L1 L2 L3 L4:Look) (K1 : ∀ w' b,Chg [] w w'→w.heap.size≤b→Blk w' b #[.int .i64 3,.int .i64 p,.int .i64 0,str [],str nm,str [],(ptr bi),nilp,nils] 83→Calls Tryz.prog 65 #[ptr bc,ptr b] w' (Looked [] w' L1)) (K2:Does 65 bc uv w L2) (K3:Does 26 bc (.slice a1 n1 k1) w L3) (K4:Does 26 bc (.slice a2 n2 k2) w L4) :
  Calls Tryz.prog 48 #[ptr bc,.agg #[.int .i64 1,.int .i64 p,str nm,(ptr bi),uv,.slice a1 n1 k1,.slice a2 n2 k2]] w (Looked [] w (L1.or (L2.or (L3.or L4)))):=by
 obtain ⟨tgt,htgt⟩ : ∃ t,t=L1.or (L2.or (L3.or L4)):=⟨_,rfl⟩
 rw [← htgt]
 have HTG:=Lib.hid htgt
 have K2:=Lib.hid K2; have K3:=Lib.hid K3; have K4:=Lib.hid K4
 obtain ⟨wS,hwS⟩ : ∃ x,w.alloc (.cells #[.int .i64 1,.int .i64 p,str nm,(ptr bi),uv,.slice a1 n1 k1,.slice a2 n2 k2] 85)=x:=⟨_,rfl⟩
 have hsb:=Blk.new w #[.int .i64 1,.int .i64 p,str nm,(ptr bi),uv,.slice a1 n1 k1,.slice a2 n2 k2] 85
 have hcs:Chg [] w wS:=by rw [← hwS]; exact (Chg.refl _ _).alloc _
 rw [hwS] at hsb
 have HSB:=Lib.hid hsb; have HCW:=Lib.hid hcs
 clear hsb hcs htgt
 have s0 : wS.cell? ⟨w.heap.size,0,none⟩=_:=HSB.out.cell 0 _ rfl
 have s1 : wS.cell? ⟨w.heap.size,1,none⟩=_:=HSB.out.cell 1 _ rfl
 have s2 : wS.cell? ⟨w.heap.size,2,none⟩=_:=HSB.out.cell 2 _ rfl
 have s3 : wS.cell? ⟨w.heap.size,3,none⟩=_:=HSB.out.cell 3 _ rfl
 have s4 : wS.cell? ⟨w.heap.size,4,none⟩=_:=HSB.out.cell 4 _ rfl
 have s5 : wS.cell? ⟨w.heap.size,5,none⟩=_:=HSB.out.cell 5 _ rfl
 have s6 : wS.cell? ⟨w.heap.size,6,none⟩=_:=HSB.out.cell 6 _ rfl
 have K1:=Lib.hid K1
 have hb:=Blk.new wS #[.int .i64 2,.int .i64 p,.int .i64 0,str [],str nm,str [],(ptr bi),nilp,nils] 83
 obtain ⟨wB,hwB⟩ : ∃ x,wS.alloc (.cells #[.int .i64 2,.int .i64 p,.int .i64 0,str [],str nm,str [],(ptr bi),nilp,nils] 83)=x:=⟨_,rfl⟩
 rw [hwB] at hb
 have hcB:Chg [] wS wB:=by rw [← hwB]; exact (Chg.refl _ _).alloc _
 have hsz:=HCW.out.size
 have y0:=hb.frozen 0; have z0:=hb.cell 0 _ rfl
 obtain ⟨wC,hwC⟩ : ∃ x,wB.setCell ⟨wS.heap.size,0,none⟩ (.int .i64 3)=x:=⟨_,rfl⟩
 have hcC:Chg [wS.heap.size] wB wC:=by rw [← hwC]; exact Chg.set1 _ _ _ _
 have hbC:Blk wC wS.heap.size #[.int .i64 3,.int .i64 p,.int .i64 0,str [],str nm,str [],(ptr bi),nilp,nils] 83:=by rw [← hwC]; simpa using hb.set 0 (.int .i64 3)
 have hcD:Chg [] wS wC:=hcB.trans hcC (fun x hx=>.inr (by simp at hx; omega))
 have HXB:=Lib.hid hbC
 have t3 : wB.cell? ⟨w.heap.size,3,none⟩=_:=hcB.cellSome s3 (by simp)
 clear hb hcB hcC hbC
 go_enter Tryz.func48,Tryz.ntmps48
 go_wp2_with fail
 clear hwS hwB hwC y0 z0 t3
 clear s0 s1 s2 s3 s4 s5 s6
 have hWD:Chg [] wS wC:=hcD
 have HSB:=Lib.hid (HSB.out.kept hWD (by simp)); have HCW:=Lib.hid (HCW.out.then hWD)
 clear hWD
 have s0 : wC.cell? ⟨w.heap.size,0,none⟩=_:=HSB.out.cell 0 _ rfl
 have s1 : wC.cell? ⟨w.heap.size,1,none⟩=_:=HSB.out.cell 1 _ rfl
 have s2 : wC.cell? ⟨w.heap.size,2,none⟩=_:=HSB.out.cell 2 _ rfl
 have s3 : wC.cell? ⟨w.heap.size,3,none⟩=_:=HSB.out.cell 3 _ rfl
 have s4 : wC.cell? ⟨w.heap.size,4,none⟩=_:=HSB.out.cell 4 _ rfl
 have s5 : wC.cell? ⟨w.heap.size,5,none⟩=_:=HSB.out.cell 5 _ rfl
 have s6 : wC.cell? ⟨w.heap.size,6,none⟩=_:=HSB.out.cell 6 _ rfl
 have K1:=Lib.hid (show Calls Tryz.prog 65 #[ptr bc,ptr wS.heap.size] wC (Looked [] wC L1) from K1.out wC _ HCW.out (by omega) HXB.out)
 have HK:=K1
 rcases L1 with _ | ⟨en,q⟩
 ·refine (HK.out).mono ?_
  rintro _ w30 ⟨hc,rfl⟩
  have hWD:Chg [] wC w30:=hc
  have HSB:=Lib.hid (HSB.out.kept hWD (by simp)); have HCW:=Lib.hid (HCW.out.then hWD)
  clear hWD
  clear hc HK
  clear s0 s1 s2 s3 s4 s5 s6
  have s0 : w30.cell? ⟨w.heap.size,0,none⟩=_:=HSB.out.cell 0 _ rfl
  have s1 : w30.cell? ⟨w.heap.size,1,none⟩=_:=HSB.out.cell 1 _ rfl
  have s2 : w30.cell? ⟨w.heap.size,2,none⟩=_:=HSB.out.cell 2 _ rfl
  have s3 : w30.cell? ⟨w.heap.size,3,none⟩=_:=HSB.out.cell 3 _ rfl
  have s4 : w30.cell? ⟨w.heap.size,4,none⟩=_:=HSB.out.cell 4 _ rfl
  have s5 : w30.cell? ⟨w.heap.size,5,none⟩=_:=HSB.out.cell 5 _ rfl
  have s6 : w30.cell? ⟨w.heap.size,6,none⟩=_:=HSB.out.cell 6 _ rfl
  go_wp2_with fail
  have HK:=Lib.hid (K2.out w30 HCW.out)
  rcases L2 with _ | ⟨en,q⟩
  ·refine (HK.out).mono ?_
   rintro _ w40 ⟨hc,rfl⟩
   have hWD:Chg [] w30 w40:=hc
   have HSB:=Lib.hid (HSB.out.kept hWD (by simp)); have HCW:=Lib.hid (HCW.out.then hWD)
   clear hWD
   clear hc HK
   clear s0 s1 s2 s3 s4 s5 s6
   have s0 : w40.cell? ⟨w.heap.size,0,none⟩=_:=HSB.out.cell 0 _ rfl
   have s1 : w40.cell? ⟨w.heap.size,1,none⟩=_:=HSB.out.cell 1 _ rfl
   have s2 : w40.cell? ⟨w.heap.size,2,none⟩=_:=HSB.out.cell 2 _ rfl
   have s3 : w40.cell? ⟨w.heap.size,3,none⟩=_:=HSB.out.cell 3 _ rfl
   have s4 : w40.cell? ⟨w.heap.size,4,none⟩=_:=HSB.out.cell 4 _ rfl
   have s5 : w40.cell? ⟨w.heap.size,5,none⟩=_:=HSB.out.cell 5 _ rfl
   have s6 : w40.cell? ⟨w.heap.size,6,none⟩=_:=HSB.out.cell 6 _ rfl
   go_wp2_with fail
   have HK:=Lib.hid (K3.out w40 HCW.out)
   rcases L3 with _ | ⟨en,q⟩
   ·refine (HK.out).mono ?_
    rintro _ w50 ⟨hc,rfl⟩
    have hWD:Chg [] w40 w50:=hc
    have HSB:=Lib.hid (HSB.out.kept hWD (by simp)); have HCW:=Lib.hid (HCW.out.then hWD)
    clear hWD
    clear hc HK
    clear s0 s1 s2 s3 s4 s5 s6
    have s0 : w50.cell? ⟨w.heap.size,0,none⟩=_:=HSB.out.cell 0 _ rfl
    have s1 : w50.cell? ⟨w.heap.size,1,none⟩=_:=HSB.out.cell 1 _ rfl
    have s2 : w50.cell? ⟨w.heap.size,2,none⟩=_:=HSB.out.cell 2 _ rfl
    have s3 : w50.cell? ⟨w.heap.size,3,none⟩=_:=HSB.out.cell 3 _ rfl
    have s4 : w50.cell? ⟨w.heap.size,4,none⟩=_:=HSB.out.cell 4 _ rfl
    have s5 : w50.cell? ⟨w.heap.size,5,none⟩=_:=HSB.out.cell 5 _ rfl
    have s6 : w50.cell? ⟨w.heap.size,6,none⟩=_:=HSB.out.cell 6 _ rfl
    go_wp2_with fail
    have HK:=Lib.hid (K4.out w50 HCW.out)
    rcases L4 with _ | ⟨en,q⟩
    ·refine (HK.out).mono ?_
     rintro _ w60 ⟨hc,rfl⟩
     have hWD:Chg [] w50 w60:=hc
     have HSB:=Lib.hid (HSB.out.kept hWD (by simp)); have HCW:=Lib.hid (HCW.out.then hWD)
     clear hWD
     clear hc HK
     clear s0 s1 s2 s3 s4 s5 s6
     have s0 : w60.cell? ⟨w.heap.size,0,none⟩=_:=HSB.out.cell 0 _ rfl
     have s1 : w60.cell? ⟨w.heap.size,1,none⟩=_:=HSB.out.cell 1 _ rfl
     have s2 : w60.cell? ⟨w.heap.size,2,none⟩=_:=HSB.out.cell 2 _ rfl
     have s3 : w60.cell? ⟨w.heap.size,3,none⟩=_:=HSB.out.cell 3 _ rfl
     have s4 : w60.cell? ⟨w.heap.size,4,none⟩=_:=HSB.out.cell 4 _ rfl
     have s5 : w60.cell? ⟨w.heap.size,5,none⟩=_:=HSB.out.cell 5 _ rfl
     have s6 : w60.cell? ⟨w.heap.size,6,none⟩=_:=HSB.out.cell 6 _ rfl
     go_wp2_with fail
     refine bodyPost_end (results_none rfl _ _ _) rfl ?_
     rw [HTG.out]
     exact ⟨HCW.out,rfl⟩
    ·refine (HK.out).mono ?_
     rintro _ w9 ⟨hc,b9,rfl,hl9,hb9⟩
     have HC9:=Lib.hid (HCW.out.then hc); have HB9:=Lib.hid hb9; have HL9:=Lib.hid hl9
     have hsz:=HCW.out.size
     clear hc hb9 hl9
     go_wp2_with fail
     rw [HTG.out]
     exact ⟨rfl,HC9.out,b9,rfl,by have:=HL9.out; omega,HB9.out⟩
   ·refine (HK.out).mono ?_
    rintro _ w9 ⟨hc,b9,rfl,hl9,hb9⟩
    have HC9:=Lib.hid (HCW.out.then hc); have HB9:=Lib.hid hb9; have HL9:=Lib.hid hl9
    have hsz:=HCW.out.size
    clear hc hb9 hl9
    go_wp2_with fail
    rw [HTG.out]
    exact ⟨rfl,HC9.out,b9,rfl,by have:=HL9.out; omega,HB9.out⟩
  ·refine (HK.out).mono ?_
   rintro _ w9 ⟨hc,b9,rfl,hl9,hb9⟩
   have HC9:=Lib.hid (HCW.out.then hc); have HB9:=Lib.hid hb9; have HL9:=Lib.hid hl9
   have hsz:=HCW.out.size
   clear hc hb9 hl9
   go_wp2_with fail
   rw [HTG.out]
   exact ⟨rfl,HC9.out,b9,rfl,by have:=HL9.out; omega,HB9.out⟩
 ·refine (HK.out).mono ?_
  rintro _ w9 ⟨hc,b9,rfl,hl9,hb9⟩
  have HC9:=Lib.hid (HCW.out.then hc); have HB9:=Lib.hid hb9; have HL9:=Lib.hid hl9
  have hsz:=HCW.out.size
  clear hc hb9 hl9
  go_wp2_with fail
  rw [HTG.out]
  exact ⟨rfl,HC9.out,b9,rfl,by have:=HL9.out; omega,HB9.out⟩
def CBody (c:Env) (F:Nat→Prop) (bc:Nat) (s:S):Prop:=FewS s→s.len≤1000 → ∀ (v:Value) (w:World),EnvAt w F c bc→SlAt w F s v→Calls Tryz.prog 26 #[ptr bc,v] w (Looked [] w (Check.bodyL c s))
theorem body_nil (bc:Nat) (w:World):Calls Tryz.prog 26 #[ptr bc,nils] w (Looked [] w none):=by
 go_enter Tryz.func26,Tryz.ntmps26
 go_wp2_with fail
 refine wp_loop_rounds 1 ?_
 rw [rounds_succ]
 go_wp2_with fail
 refine bodyPost_end (results_none rfl _ _ _) rfl ?_
 exact ⟨Chg.refl _ _,rfl⟩
theorem stmt_view (c:Env) (F:Nat→Prop) (bc:Nat) (s:S) (cs:List Value) (w:World) (hE:EnvAt w F c bc) (hs:SAt w F s cs) (hf:FewS s) (ha:AllB (CBody c F bc) s) : s = .nil ∨ ∃ (code p n1 k1 n2 k2:Nat) (nm:List UInt8) (oi ov:Option Addr) (a1 a2:Option Addr) (cs':List Value) (r:S) (sl:Look),
  cs = .int .i64 code :: .int .i64 p :: str nm :: .pointer oi :: .pointer ov :: .slice a1 n1 k1 :: .slice a2 n2 k2 :: cs'∧SAt w F r cs'∧Check.bodyL c s=sl.or (Check.bodyL c r)∧AllB (CBody c F bc) r∧FewS r∧s.len=r.len + 1 ∧
  ∀ w',Chg [] w w'→Calls Tryz.prog 48 #[ptr bc,.agg #[.int .i64 code,.int .i64 p,str nm,.pointer oi,.pointer ov,.slice a1 n1 k1,.slice a2 n2 k2]] w' (Looked [] w' sl):=by
 have ex : ∀ {x:E} {u:Value},FewE x→EAt w F x [u] → ∃ b,u=ptr b ∧ ∀ w',Chg [] w w'→Does 65 bc (ptr b) w' (exprL c x):=fun {x u} hx he=>by
  obtain ⟨b,hb,_⟩:=(expr_all c F bc x hx).1 u w hE he
  subst hb
  refine ⟨b,rfl,fun w1 hc1 w2 hc2=>?_⟩
  have hc:=hc1.then hc2
  obtain ⟨b',hb',hcall⟩:=(expr_all c F bc x hx).1 (ptr b) w2 (hE.kept hc (by simp)) (he.kept hc (by simp))
  cases hb'
  exact hcall
 have bo : ∀ {t:S} {a:Option Addr} {k:Nat} {ts:List Value},CBody c F bc t→FewS t→t.len≤1000→t.len≤k→Row w F a ts→SAt w F t ts → ∀ w',Chg [] w w'→Does 26 bc (.slice a t.len k) w' (Check.bodyL c t):=fun {t a k ts} hb hf hl hk hr hs w1 hc1 w2 hc2=>by
  have hc:=hc1.then hc2
  exact hb hf hl _ w2 (hE.kept hc (by simp)) ⟨a,k,ts,rfl,hk,hr.kept hc (by simp),hs.kept hc (by simp)⟩
 have bn : ∀ w',Does 26 bc (.slice none 0 0) w' none:=fun w' w2 _=>body_nil bc w2
 cases s with
 | nil=>exact .inl rfl
 | set p n i v r=>
  obtain ⟨ui,uv,cs',rfl,hi,hv,hr⟩:=hs
  obtain ⟨bv,rfl,kv⟩:=ex hf.2.1 hv
  refine .inr ?_
  cases i with
  | none=>
   have hui : ui=nilp:=hi
   subst hui
   refine ⟨1,p,0,0,0,0,n,none,some ⟨bv,0,none⟩,none,none,cs',r,(exprL c (.var p [] n)).or (exprL c v),rfl,hr,by rw [Check.bodyL],ha,hf.2.2,rfl,fun w' hc=>?_⟩
   have:=stmt_set0 bc p 0 0 0 0 n (ptr bv) none none w' (exprL c (.var p [] n)) (exprL c v) none none (fun w2 b hc2 hb hx=>by
    have hs:=hc.size
    obtain ⟨b',hb',hcall⟩:=(expr_all c (fun x=>F x∨x=b) bc (.var p [] n) trivial).1 (ptr b) w2 ((hE.kept (hc.then hc2) (by simp)).mono fun x hx=>.inl hx) ⟨b,rfl,.inr rfl,hx⟩
    cases hb'
    exact hcall) (kv w' hc) (bn w') (bn w')
   simpa using this
  | some x=>
   obtain ⟨bi,hbi,_⟩:=ex (hf.1 x rfl) (show EAt w F x [ui] from hi)
   subst hbi
   refine ⟨1,p,0,0,0,0,n,some ⟨bi,0,none⟩,some ⟨bv,0,none⟩,none,none,cs',r,(exprL c (.item p [] n x)).or (exprL c v),rfl,hr,by rw [Check.bodyL],ha,hf.2.2,rfl,fun w' hc=>?_⟩
   have:=stmt_set1 bc p 0 0 0 0 n (ptr bv) none none w' bi (exprL c (.item p [] n x)) (exprL c v) none none (fun w2 b hc2 hb hx=>by
    obtain ⟨b',hb',hcall⟩:=(expr_all c (fun x=>F x∨x=b) bc (.item p [] n x) (hf.1 x rfl)).1 (ptr b) w2 ((hE.kept (hc.then hc2) (by simp)).mono fun x hx=>.inl hx) ⟨b,ptr bi,rfl,.inr rfl,hx,(EAt.kept (hc.then hc2) (by simp) (show EAt w F x [ptr bi] from hi)).mono fun x hx=>.inl hx⟩
    cases hb'
    exact hcall) (kv w' hc) (bn w') (bn w')
   simpa using this
 | ifs p v t e r=>
  obtain ⟨uv,a1,c1,ts,a2,c2,es,cs',rfl,hv,hc1,hr1,ht,hc2,hr2,he,hr⟩:=hs
  obtain ⟨bv,rfl,kv⟩:=ex hf.1 hv
  refine .inr ⟨2,p,_,_,_,_,[],none,some ⟨bv,0,none⟩,a1,a2,cs',r,((exprL c v).or (Check.bodyL c t)).or (Check.bodyL c e),rfl,hr,by rw [Check.bodyL],ha.2.2,hf.2.2.2.2.2,rfl,fun w' hc=>?_⟩
  rw [Option.or_assoc]
  exact stmt_any bc p _ _ _ _ [] (ptr bv) a1 a2 w' 2 (by omega) nilp (exprL c v) (Check.bodyL c t) (Check.bodyL c e) (kv w' hc) (bo ha.1 hf.2.1 hf.2.2.1 hc1 hr1 ht w' hc) (bo ha.2.1 hf.2.2.2.1 hf.2.2.2.2.1 hc2 hr2 he w' hc)
 | whil p v t r=>
  obtain ⟨uv,a1,c1,ts,cs',rfl,hv,hc1,hr1,ht,hr⟩:=hs
  obtain ⟨bv,rfl,kv⟩:=ex hf.1 hv
  refine .inr ⟨3,p,_,_,0,0,[],none,some ⟨bv,0,none⟩,a1,none,cs',r,(exprL c v).or (Check.bodyL c t),rfl,hr,by rw [Check.bodyL],ha.2,hf.2.2.2,rfl,fun w' hc=>?_⟩
  have:=stmt_any bc p _ _ 0 0 [] (ptr bv) a1 none w' 3 (by omega) nilp (exprL c v) (Check.bodyL c t) none (kv w' hc) (bo ha.1 hf.2.1 hf.2.2.1 hc1 hr1 ht w' hc) (bn w')
  simpa using this
 | ret p v r=>
  obtain ⟨uv,cs',rfl,hv,hr⟩:=hs
  obtain ⟨bv,rfl,kv⟩:=ex hf.1 hv
  refine .inr ⟨4,p,0,0,0,0,[],none,some ⟨bv,0,none⟩,none,none,cs',r,exprL c v,rfl,hr,by rw [Check.bodyL],ha,hf.2,rfl,fun w' hc=>?_⟩
  have:=stmt_any bc p 0 0 0 0 [] (ptr bv) none none w' 4 (by omega) nilp (exprL c v) none none (kv w' hc) (bn w') (bn w')
  simpa using this
 | wri p v r=>
  obtain ⟨uv,cs',rfl,hv,hr⟩:=hs
  obtain ⟨bv,rfl,kv⟩:=ex hf.1 hv
  refine .inr ⟨5,p,0,0,0,0,[],none,some ⟨bv,0,none⟩,none,none,cs',r,exprL c v,rfl,hr,by rw [Check.bodyL],ha,hf.2,rfl,fun w' hc=>?_⟩
  have:=stmt_any bc p 0 0 0 0 [] (ptr bv) none none w' 5 (by omega) nilp (exprL c v) none none (kv w' hc) (bn w') (bn w')
  simpa using this
 | call p v r=>
  obtain ⟨uv,cs',rfl,hv,hr⟩:=hs
  obtain ⟨bv,rfl,kv⟩:=ex hf.1 hv
  refine .inr ⟨6,p,0,0,0,0,[],none,some ⟨bv,0,none⟩,none,none,cs',r,exprL c v,rfl,hr,by rw [Check.bodyL],ha,hf.2,rfl,fun w' hc=>?_⟩
  have:=stmt_any bc p 0 0 0 0 [] (ptr bv) none none w' 6 (by omega) nilp (exprL c v) none none (kv w' hc) (bn w') (bn w')
  simpa using this
theorem body_ok (c:Env) (F:Nat→Prop) (bc:Nat) (s:S) (ha:AllB (CBody c F bc) s):CBody c F bc s:=by
 intro hf hlen v w hE hsl
 obtain ⟨a,k0,cs,rfl,hk0,hrow,hs⟩:=hsl
 obtain ⟨tgt,htgt⟩ : ∃ t,t=Check.bodyL c s:=⟨_,rfl⟩
 rw [← htgt]
 have HF0:=Lib.hid hf; have HE:=Lib.hid hE; have HROW:=Lib.hid hrow; have HS:=Lib.hid hs; have HA:=Lib.hid ha; have HTG:=Lib.hid htgt
 clear hf hE hrow hs ha htgt
 go_enter Tryz.func26,Tryz.ntmps26
 go_wp2_with fail
 go_loopw [5,8] (fun _ i wr=>∃ (k:Nat) (rest:S) (cs1 cs2:List Value),i = .int .i64 k∧k + rest.len=s.len∧cs=cs1 ++ cs2∧cs1.length=k * 7∧SAt w F rest cs2∧Check.bodyL c rest=tgt∧Chg [] w wr∧AllB (CBody c F bc) rest∧FewS rest) (fun _ i _=>s.len - (intOf i).toNat)
 case atStart=>exact ⟨0,s,[],cs,rfl,by simp,rfl,rfl,HS.out,HTG.out.symm,Chg.refl _ _,HA.out,HF0.out⟩
 case round=>
  obtain ⟨k,rest,cs1,cs2,rfl,hk,hcse,hl1,hat,htx,hc,hal,hfr⟩:=hrel
  rcases stmt_view c F bc rest cs2 w HE.out hat hfr hal with hnil | ⟨code,p,n1,k1,n2,k2,nm,oi,ov,a1,a2,cs',r,sl,hcs2,hr,hbl,har,hfr2,hle,hcall⟩
  ·subst hnil
   have hke : ¬ k < s.len:=by simp [S.len] at hk; omega
   have HT:=Lib.hid (show tgt=none by rw [← htx]; rfl)
   have HC:=Lib.hid hc
   clear hk hcse hl1 hat htx hc hal hfr
   go_wp2_with fail
   refine bodyPost_end (results_none rfl _ _ _) rfl ?_
   rw [HT.out]
   exact ⟨HC.out,rfl⟩
  ·have hlt : k < s.len:=by omega
   have hrw:=HROW.out.kept hc (by simp)
   rw [hcse,hcs2] at hrw
   obtain ⟨bb,off,rfl,d0,d1,d2,d3,d4,d5,d6⟩:=cells7C hrw hl1
   have hz:=Blk.new wr #[.int .i64 0,.int .i64 0,str [],nilp,nilp,nils,nils] 85
   obtain ⟨wA,hwA⟩ : ∃ wA,wr.alloc (.cells #[.int .i64 0,.int .i64 0,str [],nilp,nilp,nils,nils] 85)=wA:=⟨_,rfl⟩
   rw [hwA] at hz
   have hcA:Chg [] wr wA:=by rw [← hwA]; exact (Chg.refl _ _).alloc _
   obtain ⟨wF,hwF,hcF,hbF⟩:=set7C (.int .i64 code) (.int .i64 p) (str nm) (.pointer oi) (.pointer ov) (.slice a1 n1 k1) (.slice a2 n2 k2) hz
   have hcw:Chg [] wr wF:=hcA.trans hcF (fun x hx=>.inr (by simp at hx; omega))
   have g0:=hcA.cellSome d0 (by simp); have g1:=hcA.cellSome d1 (by simp); have g2:=hcA.cellSome d2 (by simp); have g3:=hcA.cellSome d3 (by simp); have g4:=hcA.cellSome d4 (by simp); have g5:=hcA.cellSome d5 (by simp); have g6:=hcA.cellSome d6 (by simp)
   have z0:=hz.cell 0 _ rfl; have z1:=hz.cell 1 _ rfl; have z2:=hz.cell 2 _ rfl; have z3:=hz.cell 3 _ rfl; have z4:=hz.cell 4 _ rfl; have z5:=hz.cell 5 _ rfl; have z6:=hz.cell 6 _ rfl
   have y0:=hz.frozen 0; have y1:=hz.frozen 1; have y2:=hz.frozen 2; have y3:=hz.frozen 3; have y4:=hz.frozen 4; have y5:=hz.frozen 5; have y6:=hz.frozen 6
   have e0:=hbF.cell 0 _ rfl; have e1:=hbF.cell 1 _ rfl; have e2:=hbF.cell 2 _ rfl; have e3:=hbF.cell 3 _ rfl; have e4:=hbF.cell 4 _ rfl; have e5:=hbF.cell 5 _ rfl; have e6:=hbF.cell 6 _ rfl
   have HCW:=Lib.hid (hc.then hcw)
   have HCALL:=Lib.hid (hcall wF (hc.then hcw))
   have HNX:=Lib.hid (show cs=(cs1 ++ [.int .i64 code,.int .i64 p,str nm,.pointer oi,.pointer ov,.slice a1 n1 k1,.slice a2 n2 k2]) ++ cs' by rw [hcse,hcs2]; simp)
   have HR:=Lib.hid hr; have HAR:=Lib.hid har; have HFR:=Lib.hid hfr2
   have HBL:=Lib.hid (show sl.or (Check.bodyL c r)=tgt by rw [← hbl]; exact htx)
   have HL1:=Lib.hid hl1
   have hkr : k + (r.len + 1)=s.len:=by omega
   clear hk hcse hl1 hat htx hc hal hfr hcs2 hr hbl har hfr2 hle hcall hrw hcA hcF hbF hcw hz
   cases sl with
   | none=>
    go_wp2_with fail
    refine HCALL.out.mono ?_; rintro _ w4 ⟨hc4,rfl⟩
    have HC4:=Lib.hid (HCW.out.then hc4)
    clear hc4
    go_wp2_with fail
    exact ⟨⟨k + 1,r,_,cs',by go_num,by omega,HNX.out,by have:=HL1.out; simp; omega,HR.out,by have:=HBL.out; rwa [Option.none_or] at this,HC4.out,HAR.out,HFR.out⟩,by simp [intOf]; omega⟩
   | some y=>
    obtain ⟨en,q⟩:=y
    have HT:=Lib.hid (show tgt=some (en,q) by rw [← HBL.out]; rfl)
    go_wp2_with fail
    refine HCALL.out.mono ?_; rintro _ w4 ⟨hc4,b9,rfl,hl9,hb9⟩
    have HC4:=Lib.hid (HCW.out.then hc4); have HB9:=Lib.hid hb9; have HL9:=Lib.hid hl9
    have hsz:=HCW.out.size
    clear hc4 hb9 hl9
    go_wp2_with fail
    rw [HT.out]
    exact ⟨rfl,HC4.out,b9,rfl,by have:=HL9.out; omega,HB9.out⟩
theorem bodies_all (c:Env) (F:Nat→Prop) (bc:Nat) : ∀ s,CBody c F bc s∧AllB (CBody c F bc) s
 | .nil=>⟨body_ok c F bc _ trivial,trivial⟩
 | .set _p _n _i _v r=>have h:=(bodies_all c F bc r).2; ⟨body_ok c F bc _ h,h⟩
 | .ifs p v t e r=>have h:AllB (CBody c F bc) (.ifs p v t e r):=⟨(bodies_all c F bc t).1,(bodies_all c F bc e).1,(bodies_all c F bc r).2⟩; ⟨body_ok c F bc _ h,h⟩
 | .whil p v t r=>have h:AllB (CBody c F bc) (.whil p v t r):=⟨(bodies_all c F bc t).1,(bodies_all c F bc r).2⟩; ⟨body_ok c F bc _ h,h⟩
 | .ret _p _v r=>have h:=(bodies_all c F bc r).2; ⟨body_ok c F bc _ h,h⟩
 | .wri _p _v r=>have h:=(bodies_all c F bc r).2; ⟨body_ok c F bc _ h,h⟩
 | .call _p _v r=>have h:=(bodies_all c F bc r).2; ⟨body_ok c F bc _ h,h⟩
theorem cbody_any (c:Env) (F:Nat→Prop) (bc:Nat) (s:S) (hf:FewS s) (hl : s.len≤1000) (v:Value) (w:World) (hE:EnvAt w F c bc) (hs:SlAt w F s v):Calls Tryz.prog 26 #[ptr bc,v] w (Looked [] w (Check.bodyL c s)):=
 (bodies_all c F bc s).1 hf hl v w hE hs
end Go.Proofs.YtilhhkokdfajiaaGreatDoor
namespace Go.Mq.Check
open Go Go.RowKit Go.Mq Go.Mq.Tree Go.Mq.Sym
section
variable {P:Program} {ops:Array Oper} {o:Oper} {rest:List Oper} {a:Act} {w:World} {Q:Exit→Act→World→Prop}
theorem wpL_append_run (hgd : o.guard=none) (s x:Operand) (t u:TypeId) (ho : o.op = .call { callee:=.builtin .append,args:=#[s,x],argTypes:=#[t,u] })
  (v y v':Value) (w':World) (hs : a.eval s=v) (hx : a.eval x=y) (hr : (Builtin.append_ #[t,u] o.type #[v,y]).run P w = .ok v' w')
  (h : wpList P ops Q rest (a.put o.dst v') w') : wpList P ops Q (o :: rest) a w:=by
 refine wpList_plain hgd fun K hK=>?_
 unfold Oper.wp execOp
 simp only [ho,resolve,invoke,builtin,Sem.run_bind,Sem.run_pure,Result.andThen_ok,List.map_toArray,List.map_cons,List.map_nil,hs,hx,hr]
 exact hK _ _ h
end
end Go.Mq.Check
namespace Go.Proofs.YtilhhkokdfajiaaGreatDoor
open Go Go.RowKit Go.Mq Go.Mq.Tree Go.Mq.Sym Go.Mq.Check
set_option maxRecDepth 100000
set_option maxHeartbeats 2000000
theorem infoStrC : (Tryz.prog.info? 9).map (fun i=>(i.zero,i.size,i.bytes))=some (some (.string ⟨#[]⟩),1,16):=by kernel_rfl
theorem grow_any (n:Nat) (hn : n≤1000) (w:World):Calls Tryz.prog 47 #[nils,.int .i64 n] w (fun e w'=>∃ v,e = .returned v∧w'.ownsRow 0 9 1 v 0 []∧From w.heap.size v∧Chg [] w w'):=by
 rcases Nat.eq_zero_or_pos n with rfl | h0
 ·go_enter Tryz.func47,Tryz.ntmps47
  go_wp2_with fail
  go_ret
  exact ⟨_,rfl,World.ownsRow_nil _ _ _ _,From.nil _,Chg.refl _ _⟩
 ·obtain ⟨i,hi,hz,hsize,hby⟩:=info_parts infoStrC
  obtain ⟨cap,hcap⟩ : ∃ c,c=grownCap w n 0 9:=⟨_,rfl⟩
  obtain ⟨w2,hw2⟩ : ∃ x,x=w.drew.alloc (.cells (([] : List Value).toArray ++ Builtin.zeroCells (Value.string ⟨#[]⟩).cells n ++ Builtin.zeroCells (Value.string ⟨#[]⟩).cells (cap - n)) 9):=⟨_,rfl⟩
  have hap : (Builtin.append_ #[22,3] 22 #[.slice none 0 0,.int .i64 n]).run Tryz.prog w = .ok (.slice (some ⟨w.heap.size,0,none⟩) n cap) w2:=by
   have h:=Lib.run_append_grow_zeros (P:=Tryz.prog) w 22 3 22 9 i (.string ⟨#[]⟩) .i64 .i64 Tryz.underlying22 Tryz.underlying3 hi hz none 0 0 [] (by rw [hsize]; simp [Builtin.firstCells]) n h0 (by rw [hsize]; omega) (by omega) (by omega) (by rw [hby]; omega) (by rw [hby]; exact growslice_fits (by omega) (by omega))
   simp only [Nat.zero_add] at h
   rw [hw2,hcap]
   exact h
  have hge : n≤cap:=by rw [hcap]; exact grownCap_ge w n 0 _
  have hle : cap≤maxLen:=by rw [hcap]; exact grownCap_le_maxLen w n 0 _ (by unfold maxLen; omega)
  have hown : w2.ownsRow 0 9 1 (.slice (some ⟨w.heap.size,0,none⟩) 0 cap) 0 []:=⟨rfl,.inr ⟨w.heap.size,cap,_,rfl,Nat.zero_le _,by rw [hw2]; exact heap_alloc_new w.drew _,Nat.zero_le _,hle,by
   have hz1 : (Value.string ⟨#[]⟩).cells.size=1:=rfl
   simp only [Array.size_append,size_zeroCells,hz1]
   simp; omega,by simp⟩⟩
  have HO:=Lib.hid hown; have HAP:=Lib.hid hap
  have HC:=Lib.hid (show Chg [] w w2 by rw [hw2]; exact ((Chg.refl [] w).drew).alloc _)
  have HF:=Lib.hid (show From w.heap.size (.slice (some ⟨w.heap.size,0,none⟩) 0 cap) from fun g hg=>by simp [blk] at hg; omega)
  have hcm : cap≤9223372036854775807:=by unfold maxLen at hle; omega
  clear hown hap hw2 hi hz hsize hby hcap hle
  go_enter Tryz.func47,Tryz.ntmps47
  go_wp2_with (at_builtin; go_must (refine wpL_append_run rfl _ _ 22 3 rfl _ _ _ w2 rfl rfl HAP.out ?_))
  go_wp2_with fail
  go_ret
  exact ⟨_,rfl,HO.out,HF.out,HC.out⟩
theorem strs_one (l:List (List UInt8)) : ∀ u∈l.map str,u.oneCell'=true:=by
 intro u hu
 obtain ⟨x,_,rfl⟩:=List.mem_map.1 hu
 rfl
theorem concat_any (l1 l2:List (List UInt8)) (h1 : l1.length≤100) (h2 : l2.length≤100) (bk k1 k2:Nat) (a1 a2:Option Addr) (F:Nat→Prop) (w:World) (d0 : w.cell? ⟨bk,0,none⟩=some (.slice a1 l1.length k1)) (d1 : w.cell? ⟨bk,1,none⟩=some (.slice a2 l2.length k2)) (hl1:NamesAt w F l1 (.slice a1 l1.length k1)) (hl2:NamesAt w F l2 (.slice a2 l2.length k2)) :
  Calls Tryz.prog 25 #[.slice (some ⟨bk,0,none⟩) 2 2] w (fun e w'=>∃ v,e = .returned v∧NamesAt w' (New w w') (l1 ++ l2) v∧Chg [] w w'):=by
 obtain ⟨_,_,he,_,hr1⟩:=hl1
 cases he
 obtain ⟨_,_,he,_,hr2⟩:=hl2
 cases he
 have HR1:=Lib.hid hr1; have HR2:=Lib.hid hr2
 have HG:=Lib.hid (grow_any (l1.length + l2.length) (by omega) w)
 have D0:=Lib.hid d0; have D1:=Lib.hid d1
 clear hr1 hr2
 go_enter Tryz.func25,Tryz.ntmps25
 go_wp2_with fail
 refine wp_loop_rounds 3 ?_
 rw [rounds_succ]
 go_wp2_with fail
 rw [rounds_succ]
 go_wp2_with fail
 rw [rounds_succ]
 go_wp2_with fail
 refine HG.out.mono ?_; rintro _ w2 ⟨gv,rfl,hown,hf,hc⟩
 obtain ⟨ga,gc,rfl⟩:=slice_of_owns hown
 have HO:=Lib.hid hown; have HF:=Lib.hid hf; have HC:=Lib.hid hc
 clear d0 d1
 have d0:=hc.cellSome D0.out (by simp)
 have HAT1:=Lib.hid ((HR1.out.kept hc (by simp)).at_)
 clear hown hf hc
 go_wp2_with fail
 refine wp_loop_rounds 3 ?_
 rw [rounds_succ]
 go_wp2_with (at_builtin; go_must (refine wpL_append_any rfl _ _ 22 rfl 9 _ 1 16 infoStrC Tryz.underlying22 rfl (by decide) _ 0 [] rfl HO.out a1 l1.length k1 (l1.map str) rfl (by simp) HAT1.out (strs_one l1) (by omega) (by unfold maxLen; omega) ?_))
 intro v3 w3 hown3 hc3 hm3
 obtain ⟨ga3,gc3,rfl⟩:=slice_of_owns hown3
 have hcw3:Chg [] w w3:=HC.out.trans hc3 (fun x hx=>.inr (by have:=HF.out x hx; omega))
 have HF3:=Lib.hid (show From w.heap.size (.slice ga3 l1.length gc3) from HF.out.moved hm3 HC.out.size)
 have HO3:=Lib.hid hown3; have HC3:=Lib.hid hcw3
 have HAT2:=Lib.hid ((HR2.out.kept hcw3 (by simp)).at_)
 have hs3:=hcw3.size
 clear d0
 have d1:=hcw3.cellSome D1.out (by simp)
 clear hown3 hc3 hm3 hcw3
 go_wp2_with fail
 rw [rounds_succ]
 go_wp2_with (at_builtin; go_must (refine wpL_append_any rfl _ _ 22 rfl 9 _ 1 16 infoStrC Tryz.underlying22 rfl (by decide) _ l1.length (l1.map str) rfl HO3.out a2 l2.length k2 (l2.map str) rfl (by simp) HAT2.out (strs_one l2) (by omega) (by unfold maxLen; omega) ?_))
 intro v4 w4 hown4 hc4 hm4
 have hcw4:Chg [] w w4:=HC3.out.trans hc4 (fun x hx=>.inr (by have:=HF3.out x hx; omega))
 have hf4:From w.heap.size v4:=HF3.out.moved hm4 hs3
 have HNM:=Lib.hid (show NamesAt w4 (New w w4) (l1 ++ l2) v4 by
  obtain ⟨a,c,rfl,hac,hrow⟩:=Row.of_owns hown4 (F:=New w w4) (fun g hg=>⟨hf4 g hg,owns_lt hown4 g hg⟩)
  refine ⟨a,c,by simp,by simpa using hac,?_⟩
  rw [List.map_append]
  simpa using hrow)
 have HC4:=Lib.hid hcw4
 clear hown4 hc4 hm4 hcw4 hf4
 go_wp2_with fail
 rw [rounds_succ]
 go_wp2_with fail
 go_ret
 exact ⟨_,rfl,HNM.out,HC4.out⟩
end Go.Proofs.YtilhhkokdfajiaaGreatDoor
namespace Go.Mq.Check
open Go Go.RowKit Go.Mq Go.Mq.Tree Go.Mq.Sym
def CheckOut (w:World) (o:Out) (e:Ending) (w':World):Prop:=Chg [] w w'∧match o with
 | .fine=>e = .returned .nilIface
 | .plain n=>e = .returned (.iface 48 (.int .i64 n))
 | .at_ en p=>∃ b,e = .returned (.iface 94 (ptr b))∧w.heap.size≤b∧Blk w' b #[.int .i64 en,.int .i64 p] 96
end Go.Mq.Check
namespace Go.Proofs.YtilhhkokdfajiaaGreatDoor
open Go Go.RowKit Go.Mq Go.Mq.Tree Go.Mq.Sym Go.Mq.Check
set_option maxRecDepth 100000
set_option maxHeartbeats 8000000
theorem ccatch_idle (be:Nat) (w:World):CallsD Tryz.prog 23 #[ptr be] .returning w fun e u' w'=>
   e = .returned (.tuple #[])∧u' = .returning∧w'=w:=by
 refine callsD_of_wpS Tryz.func23 rfl fun c₀ cs hu=>?_
 rw [show (#[ptr be] ++ Array.replicate (Tryz.f23.ntmps - (#[ptr be] : Array Value).size) undef:Array Value) = #[ptr be,undef,undef,undef,undef,undef,undef,undef,undef,undef,undef,undef,undef,undef,undef,undef,undef] from rfl]
 apply wpS_seq
 apply wpS_region
 simp [wpOpsS,go_sem,recoverD,hu,Exit.thenS]
 refine wpS_of_wp ?_
 go_wp2_with fail
 exact ⟨rfl,.returning,by cases c₀; simp_all,.tuple #[],results_none rfl _ _ _,rfl,rfl,rfl⟩
theorem ccatch_thrown (be b:Nat) (e0:Value) (w:World) (he:Blk w be #[e0] 31) :
  CallsD Tryz.prog 23 #[ptr be] (.panicking [{ v:=.iface 65 (.agg #[.iface 94 (ptr b)]),recovered:=false }]) w fun e u' w'=>
   e = .returned (.tuple #[])∧u' = .panicking [{ v:=.iface 65 (.agg #[.iface 94 (ptr b)]),recovered:=true }]∧Chg [be] w w'∧Blk w' be #[.iface 94 (ptr b)] 31:=by
 have hta : ∀ w,(Instr.typeAssert (.iface 65 (.agg #[.iface 94 (ptr b)])) 20 65 true).run Tryz.prog w = .ok (.tuple #[.agg #[.iface 94 (ptr b)],.bool true]) w:=fun _=>rfl
 refine callsD_of_wpS Tryz.func23 rfl fun c₀ cs hu=>?_
 rw [show (#[ptr be] ++ Array.replicate (Tryz.f23.ntmps - (#[ptr be] : Array Value).size) undef:Array Value) = #[ptr be,undef,undef,undef,undef,undef,undef,undef,undef,undef,undef,undef,undef,undef,undef,undef,undef] from rfl]
 apply wpS_seq
 apply wpS_region
 simp [wpOpsS,go_sem,recoverD,hu,Exit.thenS]
 refine wpS_of_wp ?_
 have he':=he.kept ((Chg.refl [] w).alloc (.cells #[.iface 94 (ptr b)] 65)) (by simp)
 have hx':=Blk.new w #[.iface 94 (ptr b)] 65
 have hc':Chg [be] w (w.alloc (.cells #[.iface 94 (ptr b)] 65)):=(Chg.refl _ w).alloc _
 obtain ⟨w1,hw1⟩ : ∃ x,w.alloc (.cells #[.iface 94 (ptr b)] 65)=x:=⟨_,rfl⟩
 rw [hw1] at he' hx' hc'
 have g0:=he'.frozen 0; have e0':=he'.cell 0 _ rfl
 have x0:=hx'.cell 0 _ rfl
 have hcE:Chg [be] w1 (w1.setCell ⟨be,0,none⟩ (.iface 94 (ptr b))):=Chg.set1 _ _ _ _
 have HE:=Lib.hid (show Blk (w1.setCell ⟨be,0,none⟩ (.iface 94 (ptr b))) be #[.iface 94 (ptr b)] 31 by simpa using he'.set 0 (.iface 94 (ptr b)))
 have HC:=Lib.hid (hc'.then hcE)
 clear he he' hx' hc' hcE
 go_wp2_with fail
 refine ⟨rfl,.panicking [{ v:=.iface 65 (.agg #[.iface 94 (ptr b)]),recovered:=true }],rfl,.tuple #[],results_none rfl _ _ _,rfl,rfl,?_⟩
 exact ⟨HC.out,HE.out⟩
theorem cresults (tmps:Array Value) (be:Nat) (ev:Value) (w:World) (h4 : tmps[4]?.getD undef=ptr be) (he:Blk w be #[ev] 31) :
  (results Tryz.f8 tmps).run Tryz.prog w = .ok ev w:=by
 have e0:=he.cell 0 _ rfl
 simp [results,Tryz.results8,h4,go_sem,e0]
theorem cleave_idle (tmps:Array Value) (be:Nat) (ev:Value) (w:World) (R:Ending→World→Prop) (h4 : tmps[4]?.getD undef=ptr be) (he:Blk w be #[ev] 31)
  (hR:R (.returned ev) w):Leaves Tryz.prog Tryz.f8 tmps R [{ target:=.fn (.func 23) #[ptr be],args:=#[] }] .returning w:=by
 refine leaves_cons (f:=23) (args:=#[ptr be]) (by simp) (by simp [go_sem]) ?_
 refine (ccatch_idle be w).mono ?_
 rintro e u' w'' ⟨rfl,rfl,rfl⟩
 exact ⟨_,cresults tmps be ev w'' h4 he,hR⟩
theorem cleave_thrown (tmps:Array Value) (be b:Nat) (ev:Value) (w:World) (R:Ending→World→Prop) (h4 : tmps[4]?.getD undef=ptr be) (he:Blk w be #[ev] 31)
  (hR : ∀ w',Chg [be] w w'→R (.returned (.iface 94 (ptr b))) w'):Leaves Tryz.prog Tryz.f8 tmps R [{ target:=.fn (.func 23) #[ptr be],args:=#[] }] (.panicking [{ v:=.iface 65 (.agg #[.iface 94 (ptr b)]),recovered:=false }]) w:=by
 refine leaves_cons (f:=23) (args:=#[ptr be]) (by simp) (by simp [go_sem]) ?_
 refine (ccatch_thrown be b ev w he).mono ?_
 rintro e u' w'' ⟨rfl,rfl,hc,he'⟩
 exact ⟨_,cresults tmps be _ w'' h4 he',hR w'' hc⟩
end Go.Proofs.YtilhhkokdfajiaaGreatDoor
namespace Go.Mq.Check
open Go Go.RowKit Go.Mq Go.Mq.Tree Go.Mq.Sym
theorem take_snoc {α:Type} {l:List α} {k:Nat} {x : α} (h : l[k]?=some x) : l.take (k + 1)=l.take k ++ [x]:=by
 rw [List.take_add_one,h]; rfl
theorem drop_cons {α:Type} {l:List α} {k:Nat} {x : α} (h : l[k]?=some x) : l.drop k=x :: l.drop (k + 1):=by
 obtain ⟨hk,he⟩:=List.getElem?_eq_some_iff.1 h
 rw [← he,← List.drop_eq_getElem_cons hk]
theorem names_take {w:World} {F:Nat→Prop} {a:Option Addr} {c:Nat} {l:List (List UInt8)} (h:Row w F a (l.map str)) (hc : l.length≤c) {k:Nat} (hk : k≤l.length):NamesAt w F (l.take k) (.slice a k c):=by
 refine ⟨a,c,by rw [List.length_take,Nat.min_eq_left hk],by rw [List.length_take]; omega,fun h0=>?_,fun h0 p hp=>h.own (by simp at h0 ⊢; omega) p hp⟩
 obtain ⟨b,o,ha,hcell⟩:=h.at_ (by simp at h0 ⊢; omega)
 refine ⟨b,o,ha,fun i v hv=>hcell i v ?_⟩
 rw [List.getElem?_map] at hv ⊢
 rw [List.getElem?_take] at hv
 split at hv
 ·exact hv
 ·cases hv
theorem prsAt_at {w:World} {F:Nat→Prop} : ∀ {l:List Proc} {cs:List Value} {k:Nat} {x:Proc},PrsAt w F l cs→l[k]?=some x → ∃ cs1 c cs',cs=cs1 ++ (c ++ cs')∧cs1.length=k * 6∧PrAt w F x c
 | [],_,_,_,_,hk=>by simp at hk
 | y :: r,_,0,x,h,hk=>by
  obtain ⟨c1,c2,rfl,h1,h2⟩:=h
  simp at hk; subst hk
  exact ⟨[],c1,c2,rfl,rfl,h1⟩
 | y :: r,_,k + 1,x,h,hk=>by
  obtain ⟨c1,c2,rfl,⟨_,_,_,rfl,_⟩,h2⟩:=h
  obtain ⟨cs1,c,cs',rfl,hl,hp⟩:=prsAt_at h2 (by simpa using hk)
  exact ⟨_ ++ cs1,c,cs',by rw [List.append_assoc],by simp [hl]; omega,hp⟩
def behindL (m:Mod) (seen:List UInt8→Option (List Sy)):Look:=((onceL [] (m.vars.map (fun g=>(g.name,g.pos)) ++ m.procs.map fun x=>(x.name,x.pos))).or (procsL m seen m.procs)).or (Check.bodyL ⟨m.imports,seen,[],m.vars,m.procs⟩ m.body)
theorem check_plain {m:Mod} {seen:List UInt8→Option (List Sy)} {e:Nat} (h : importsL m.name seen [] m.imports=some e) : check m seen = .plain e:=by rw [check,h]
theorem check_rest {m:Mod} {seen:List UInt8→Option (List Sy)} (h : importsL m.name seen [] m.imports=none) : check m seen = .of (behindL m seen):=by rw [check,h]; rfl
end Go.Mq.Check
namespace Go.Proofs.YtilhhkokdfajiaaGreatDoor
open Go Go.RowKit Go.Mq Go.Mq.Tree Go.Mq.Sym Go.Mq.Check
set_option maxRecDepth 100000
set_option maxHeartbeats 8000000
theorem ccheck_any (m:Mod) (hm:FewM m) (seen:List UInt8→Option (List Sy)) (F:Nat→Prop) (v vm:Value) (w:World) (hF : ∀ x,F x→x < w.heap.size) (hmod:ModAt w F m v) (hs:SeenAt w F seen vm) :
  Calls Tryz.prog 8 #[v,vm] w (CheckOut w (check m seen)):=by
 have hmf : ∀ (fn:Fn) (first cap:Array Value) (w:World),(Instr.makeFunc fn first cap).run Tryz.prog w = .ok (.func fn first cap) w:=fun _ _ _ _=>rfl
 have hmm:=@run_makeMap Tryz.prog
 obtain ⟨ov,rfl⟩ : ∃ ov,vm = .map ov:=by
  rcases hs with ⟨h,_⟩ | ⟨b,_,h,_⟩
  ·exact ⟨_,h⟩
  ·exact ⟨_,h⟩
 obtain ⟨vi,vv,vp,vb,rfl,⟨ai,ci,rfl,hi1,hi2⟩,⟨av,cv,rfl,hv1,hv2⟩,⟨ap,cp,pcs,rfl,hp1,hp2,hp3⟩,⟨ab,cb,bcs,rfl,hb1,hb2,hb3⟩⟩:=hmod
 obtain ⟨wm,hwm⟩ : ∃ x,w.alloc (.cells #[str m.name,.slice ai m.imports.length ci,.slice av m.vars.length cv,.slice ap m.procs.length cp,.slice ab m.body.len cb] 29)=x:=⟨_,rfl⟩
 have hmb:=Blk.new w #[str m.name,.slice ai m.imports.length ci,.slice av m.vars.length cv,.slice ap m.procs.length cp,.slice ab m.body.len cb] 29
 have hcm:Chg [] w wm:=by rw [← hwm]; exact (Chg.refl _ _).alloc _
 have hsm : wm.heap.size=w.heap.size + 1:=by rw [← hwm]; simp
 rw [hwm] at hmb
 obtain ⟨w0,hw0⟩ : ∃ x,wm.alloc (.cells #[.nilIface] 31)=x:=⟨_,rfl⟩
 have heb:=Blk.new wm #[.nilIface] 31
 have hc0:Chg [] wm w0:=by rw [← hw0]; exact (Chg.refl _ _).alloc _
 have hs0 : w0.heap.size=w.heap.size + 2:=by rw [← hw0]; simp [hsm]
 rw [hw0] at heb
 have hcw:=hcm.then hc0
 have HMB:=Lib.hid (hmb.kept hc0 (by simp)); have HEB:=Lib.hid heb; have HCW:=Lib.hid hcw
 have HIR:=Lib.hid (hi2.kept hcw (by simp)); have HVR:=Lib.hid (hv2.kept hcw (by simp)); have HPR:=Lib.hid (hp2.kept hcw (by simp)); have HPS:=Lib.hid (hp3.kept hcw (by simp))
 have HSB:=Lib.hid (show SlAt w0 F m.body (.slice ab m.body.len cb) from SlAt.kept hcw (by simp) ⟨ab,cb,bcs,rfl,hb1,hb2,hb3⟩)
 have HSN:=Lib.hid (hs.kept hcw (by simp))
 have HM:=Lib.hid hm; have HFB:=Lib.hid hF
 have HS:=Lib.hid (And.intro hsm hs0)
 obtain ⟨tgt,htgt⟩ : ∃ t,t=check m seen:=⟨_,rfl⟩
 rw [← htgt]
 obtain ⟨it,hit⟩ : ∃ x,x=importsL m.name seen [] m.imports:=⟨_,rfl⟩
 have HTG:=Lib.hid htgt; have HIT:=Lib.hid hit
 have him:=hm.imports; have hmv:=hm.vars; have hmp:=hm.procs
 clear hs hm hF htgt hit hmb heb hcm hc0 hcw hi2 hv2 hp2 hp3 hb2 hb3 hsm hs0
 have m0:=HMB.out.cell 0 _ rfl; have m1:=HMB.out.cell 1 _ rfl
 go_enter_defers Tryz.func8,Tryz.ntmps8
 go_wp2_with fail
 clear hwm hw0 m0 m1
 go_loopw [5,6,7,8,24] (fun _ _ _ _ i wr=>∃ k:Nat,i = .int .i64 k∧k≤m.imports.length∧importsL m.name seen (m.imports.take k) (m.imports.drop k)=it∧Chg [] w0 wr) (fun _ _ _ _ i _=>m.imports.length - (intOf i).toNat)
 case atStart=>exact ⟨0,rfl,Nat.zero_le _,by rw [HIT.out] <;> rfl,Chg.refl _ _⟩
 case round=>
  obtain ⟨k,rfl,hk,hin,hc⟩:=hrel
  have HIN:=Lib.hid hin; have HC:=Lib.hid hc
  clear hin hc
  by_cases hlt : k < m.imports.length
  ·have m0:=(HMB.out.kept HC.out (by simp)).cell 0 _ rfl; have m1:=(HMB.out.kept HC.out (by simp)).cell 1 _ rfl
   obtain ⟨n,hn⟩ : ∃ n,m.imports[k]?=some n:=⟨m.imports[k],List.getElem?_eq_getElem hlt⟩
   obtain ⟨b,o,rfl,d0⟩:=names_cell (HIR.out.kept HC.out (by simp)) hn
   have HN:=Lib.hid hn
   have HIS:=Lib.hid (show importsL m.name seen (m.imports.take k) (n :: m.imports.drop (k + 1))=it by rw [← drop_cons hn]; exact HIN.out)
   have HCT:=Lib.hid (contains_in (m.imports.take k) (by rw [List.length_take]; omega) n F _ wr (names_take (HIR.out.kept HC.out (by simp)) hi1 (by omega)))
   clear hn
   cases hq : (n == m.name) with
   | true=>
    have HT:=Lib.hid (show tgt = .plain 10 by
     rw [HTG.out]
     refine check_plain ?_
     rw [← HIT.out,← HIS.out,importsL,if_pos (.inl (by simpa using hq))])
    have e0:=(HEB.out.kept HC.out (by simp)).cell 0 _ rfl; have f0:=(HEB.out.kept HC.out (by simp)).frozen 0
    obtain ⟨wE,hwE⟩ : ∃ x,wr.setCell ⟨wm.heap.size,0,none⟩ (.iface 48 (.int .i64 10))=x:=⟨_,rfl⟩
    have HCE:=Lib.hid (show Chg [wm.heap.size] wr wE by rw [← hwE]; exact Chg.set1 _ _ _ _)
    have HBE:=Lib.hid (show Blk wE wm.heap.size #[.iface 48 (.int .i64 10)] 31 by rw [← hwE]; simpa using (HEB.out.kept HC.out (by simp)).set 0 (.iface 48 (.int .i64 10)))
    go_wp2_with fail
    have hss:=HS.out
    exact cleave_idle _ _ _ _ _ rfl HBE.out (by rw [HT.out]; exact ⟨(HCW.out.then HC.out).trans HCE.out (fun x hx=>.inr (by simp at hx; omega)),rfl⟩)
   | false=>
    have hqn : ¬ n=m.name:=by simpa using hq
    cases hmi : decide (n∈m.imports.take k) with
    | true=>
     rw [hmi] at HCT
     have HT:=Lib.hid (show tgt = .plain 10 by
      rw [HTG.out]
      refine check_plain ?_
      rw [← HIT.out,← HIS.out,importsL,if_pos (.inr (by simpa using hmi))])
     clear hmi hqn
     have e0:=(HEB.out.kept HC.out (by simp)).cell 0 _ rfl; have f0:=(HEB.out.kept HC.out (by simp)).frozen 0
     obtain ⟨wE,hwE⟩ : ∃ x,wr.setCell ⟨wm.heap.size,0,none⟩ (.iface 48 (.int .i64 10))=x:=⟨_,rfl⟩
     have HCE:=Lib.hid (show Chg [wm.heap.size] wr wE by rw [← hwE]; exact Chg.set1 _ _ _ _)
     have HBE:=Lib.hid (show Blk wE wm.heap.size #[.iface 48 (.int .i64 10)] 31 by rw [← hwE]; simpa using (HEB.out.kept HC.out (by simp)).set 0 (.iface 48 (.int .i64 10)))
     go_wp2_with fail
     refine HCT.out.mono ?_; rintro _ _ ⟨rfl,hw⟩; have hw:=hw.symm; subst hw
     go_wp2_with fail
     have hss:=HS.out
     exact cleave_idle _ _ _ _ _ rfl HBE.out (by rw [HT.out]; exact ⟨(HCW.out.then HC.out).trans HCE.out (fun x hx=>.inr (by simp at hx; omega)),rfl⟩)
    | false=>
     rw [hmi] at HCT
     have hni : ¬ (n=m.name∨n∈m.imports.take k):=by simp only [not_or]; exact ⟨hqn,by simpa using hmi⟩
     obtain ⟨u,_,hlk,_,_⟩:=look_seen (HSN.out.kept HC.out (by simp)) n
     have hlu:=hlk wr (Chg.refl _ _)
     clear hlk hmi hqn
     cases hsn : (seen n).isSome with
     | false=>
      rw [hsn] at hlu
      have HT:=Lib.hid (show tgt = .plain 8 by
       rw [HTG.out]
       refine check_plain ?_
       rw [← HIT.out,← HIS.out,importsL,if_neg hni,if_pos (by simpa using hsn)])
      clear hni hsn
      have e0:=(HEB.out.kept HC.out (by simp)).cell 0 _ rfl; have f0:=(HEB.out.kept HC.out (by simp)).frozen 0
      obtain ⟨wE,hwE⟩ : ∃ x,wr.setCell ⟨wm.heap.size,0,none⟩ (.iface 48 (.int .i64 8))=x:=⟨_,rfl⟩
      have HCE:=Lib.hid (show Chg [wm.heap.size] wr wE by rw [← hwE]; exact Chg.set1 _ _ _ _)
      have HBE:=Lib.hid (show Blk wE wm.heap.size #[.iface 48 (.int .i64 8)] 31 by rw [← hwE]; simpa using (HEB.out.kept HC.out (by simp)).set 0 (.iface 48 (.int .i64 8)))
      go_wp2_with fail
      refine HCT.out.mono ?_; rintro _ _ ⟨rfl,hw⟩; have hw:=hw.symm; subst hw
      go_wp2_with fail
      have hss:=HS.out
      exact cleave_idle _ _ _ _ _ rfl HBE.out (by rw [HT.out]; exact ⟨(HCW.out.then HC.out).trans HCE.out (fun x hx=>.inr (by simp at hx; omega)),rfl⟩)
     | true=>
      rw [hsn] at hlu
      have HNX:=Lib.hid (show importsL m.name seen (m.imports.take (k + 1)) (m.imports.drop (k + 1))=it by
       rw [take_snoc HN.out,← HIS.out]
       conv=>rhs; rw [importsL,if_neg hni,if_neg (by simp; intro h; rw [h] at hsn; cases hsn)])
      clear hni hsn
      go_wp2_with fail
      refine HCT.out.mono ?_; rintro _ _ ⟨rfl,hw⟩; have hw:=hw.symm; subst hw
      go_wp2_with fail
      exact ⟨⟨k + 1,by go_num,by omega,HNX.out,HC.out⟩,by simp [intOf]; omega⟩
  ·have HRS:=Lib.hid (show tgt = .of (behindL m seen) by
    rw [HTG.out]
    refine check_rest ?_
    rw [← HIT.out,← HIN.out,List.drop_eq_nil_of_le (by omega)]; rfl)
   obtain ⟨wL,hwL⟩ : ∃ x,x=wr:=⟨_,rfl⟩
   subst hwL
   obtain ⟨wN,hwN⟩ : ∃ x,wL.alloc (.map #[] 0)=x:=⟨_,rfl⟩
   have HCN:=Lib.hid (show Chg [] w0 wN from HC.out.then (by rw [← hwN]; exact (Chg.refl [] wL).alloc _))
   have HAD:=Lib.hid (show HadIs wN wL.heap.size [] by rw [← hwN]; exact HadIs.made wL)
   have hcs:=HC.out.size
   have m2:=(HMB.out.kept HCN.out (by simp)).cell 2 _ rfl
   clear HIN HIT HTG HC
   go_wp2_with fail
   clear hwN m2 hk hlt
   go_loopw [11,56] (fun _ i wr=>∃ (k:Nat) (had:List (List UInt8)),i = .int .i64 k∧k≤m.vars.length∧Chg [] w0 wr∧HadIs wr wL.heap.size had∧onceL had ((m.vars.drop k).map (fun g=>(g.name,g.pos)) ++ m.procs.map fun x=>(x.name,x.pos))=onceL [] (m.vars.map (fun g=>(g.name,g.pos)) ++ m.procs.map fun x=>(x.name,x.pos))) (fun _ i _=>m.vars.length - (intOf i).toNat)
   case atStart=>exact ⟨0,[],rfl,Nat.zero_le _,HCN.out,HAD.out,rfl⟩
   case round=>
    obtain ⟨k,had,rfl,hk,hc,hhad,hon⟩:=hrel
    have HC:=Lib.hid hc; have HH:=Lib.hid hhad; have HON:=Lib.hid hon
    clear hc hhad hon
    by_cases hlt : k < m.vars.length
    ·obtain ⟨g,hg⟩ : ∃ g,m.vars[k]?=some g:=⟨m.vars[k],List.getElem?_eq_getElem hlt⟩
     obtain ⟨b,o,rfl,d0,d1,d2,d3⟩:=glob_cells (HVR.out.kept HC.out (by simp)) hg
     have HOS:=Lib.hid (show onceL had ((g.name,g.pos) :: ((m.vars.drop (k + 1)).map (fun g=>(g.name,g.pos)) ++ m.procs.map fun x=>(x.name,x.pos)))=onceL [] (m.vars.map (fun g=>(g.name,g.pos)) ++ m.procs.map fun x=>(x.name,x.pos)) by
      rw [← HON.out,drop_cons hg]; rfl)
     have hz:=Blk.new wr #[str [],.int .i64 0,.int .i64 0,.bool false] 70
     obtain ⟨wA,hwA⟩ : ∃ x,wr.alloc (.cells #[str [],.int .i64 0,.int .i64 0,.bool false] 70)=x:=⟨_,rfl⟩
     rw [hwA] at hz
     have hcA:Chg [] wr wA:=by rw [← hwA]; exact (Chg.refl _ _).alloc _
     obtain ⟨wF,hwF,hcF,hbF⟩:=set4S (str g.name) (.int .i64 g.pos) (.int .i64 g.len) (.bool g.seen) hz
     have hcw:Chg [] wr wF:=hcA.trans hcF (fun x hx=>.inr (by simp at hx; omega))
     have g0:=hcA.cellSome d0 (by simp); have g1:=hcA.cellSome d1 (by simp); have g2:=hcA.cellSome d2 (by simp); have g3:=hcA.cellSome d3 (by simp)
     have z0:=hz.cell 0 _ rfl; have z1:=hz.cell 1 _ rfl; have z2:=hz.cell 2 _ rfl; have z3:=hz.cell 3 _ rfl
     have y0:=hz.frozen 0; have y1:=hz.frozen 1; have y2:=hz.frozen 2; have y3:=hz.frozen 3
     have e0:=hbF.cell 0 _ rfl; have e1:=hbF.cell 1 _ rfl
     have HCF:=Lib.hid (HC.out.then hcw)
     have hone:=once_any had g.name g.pos wL.heap.size wF (HH.out.kept hcw (by simp))
     clear hg hz hcA hcF hbF hcw
     by_cases hgi : g.name∈had
     ·simp only [if_pos hgi] at hone
      have HON1:=Lib.hid hone
      have HT:=Lib.hid (show tgt = .at_ 9 g.pos by
       rw [HRS.out,behindL,← HOS.out,onceL,if_pos hgi]; rfl)
      clear hone hgi
      go_wp2_with fail
      refine HON1.out.mono ?_
      rintro _ w9 ⟨hc9,b9,rfl,hl9,hb9⟩
      have hs9:=HCF.out.size
      have hss:=HS.out
      have HC9:=Lib.hid (show Chg [] w w9 from (HCW.out.then HCF.out).trans hc9 (fun x hx=>.inr (by simp at hx <;> omega)))
      have HE9:=Lib.hid (show Blk w9 wm.heap.size #[.nilIface] 31 from (HEB.out.kept HCF.out (by simp)).kept hc9 (by simp <;> omega))
      have HB9:=Lib.hid hb9; have HL9:=Lib.hid hl9
      clear hc9 hb9 hl9 hss
      go_wp2_with fail
      refine cleave_thrown _ _ _ _ _ _ rfl HE9.out (fun w' hc=>?_)
      have hss:=HS.out
      have hl9:=HL9.out
      rw [HT.out]
      exact ⟨HC9.out.trans hc (fun x hx=>.inr (by simp at hx <;> omega)),b9,rfl,by omega,HB9.out.kept hc (by simp <;> omega)⟩
     ·simp only [if_neg hgi] at hone
      have HON1:=Lib.hid hone
      have HNX:=Lib.hid (show onceL (g.name :: had) ((m.vars.drop (k + 1)).map (fun g=>(g.name,g.pos)) ++ m.procs.map fun x=>(x.name,x.pos))=onceL [] (m.vars.map (fun g=>(g.name,g.pos)) ++ m.procs.map fun x=>(x.name,x.pos)) by
       rw [← HOS.out]
       conv=>rhs; rw [onceL,if_neg hgi])
      clear hone hgi
      go_wp2_with fail
      refine HON1.out.mono ?_
      rintro _ w4 ⟨rfl,hc4,hh4⟩
      have HC4:=Lib.hid (show Chg [] w0 w4 from HCF.out.trans hc4 (fun x hx=>.inr (by simp at hx; omega)))
      have HH4:=Lib.hid hh4
      clear hc4 hh4
      go_wp2_with fail
      exact ⟨⟨k + 1,g.name :: had,by go_num,by omega,HC4.out,HH4.out,HNX.out⟩,by simp [intOf]; omega⟩
    ·have HRO:=Lib.hid (show onceL had (m.procs.map fun x=>(x.name,x.pos))=onceL [] (m.vars.map (fun g=>(g.name,g.pos)) ++ m.procs.map fun x=>(x.name,x.pos)) by
      rw [← HON.out,List.drop_eq_nil_of_le (by omega)]; rfl)
     obtain ⟨wP,hwP⟩ : ∃ x,x=wr:=⟨_,rfl⟩
     subst hwP
     have m3:=(HMB.out.kept HC.out (by simp)).cell 3 _ rfl
     have HCP:=Lib.hid HC.out; have HHP:=Lib.hid HH.out
     clear HON HC HH
     go_wp2_with fail
     clear m3 hk hlt
     go_loopw [13,70] (fun _ i wr=>∃ (k:Nat) (had:List (List UInt8)),i = .int .i64 k∧k≤m.procs.length∧Chg [] w0 wr∧HadIs wr wL.heap.size had∧onceL had ((m.procs.drop k).map fun x=>(x.name,x.pos))=onceL [] (m.vars.map (fun g=>(g.name,g.pos)) ++ m.procs.map fun x=>(x.name,x.pos))) (fun _ i _=>m.procs.length - (intOf i).toNat)
     case atStart=>exact ⟨0,_,rfl,Nat.zero_le _,HCP.out,HHP.out,HRO.out⟩
     case round=>
      obtain ⟨k,had,rfl,hk,hc,hhad,hon⟩:=hrel
      have HC:=Lib.hid hc; have HH:=Lib.hid hhad; have HON:=Lib.hid hon
      clear hc hhad hon
      by_cases hlt : k < m.procs.length
      ·obtain ⟨x,hx⟩ : ∃ x,m.procs[k]?=some x:=⟨m.procs[k],List.getElem?_eq_getElem hlt⟩
       obtain ⟨cs1,d,cs',hpe,hl1,_,_,_,rfl,⟨p1,q1,rfl,hq1,hr1⟩,⟨p2,q2,rfl,hq2,hr2⟩,⟨p3,q3,bs3,rfl,hq3,hr3,hs3⟩⟩:=prsAt_at HPS.out hx
       have hrw:=HPR.out.kept HC.out (by simp)
       rw [hpe] at hrw
       obtain ⟨b,o,rfl,d0,d1,d2,d3,d4,d5⟩:=cells6S (cs':=cs') hrw hl1
       clear hrw hpe
       clear hl1 hr1 hr2 hr3 hs3
       have hz:=Blk.new wr #[str [],.int .i64 0,.bool false,nils,nils,nils] 73
       obtain ⟨wA,hwA⟩ : ∃ x,wr.alloc (.cells #[str [],.int .i64 0,.bool false,nils,nils,nils] 73)=x:=⟨_,rfl⟩
       rw [hwA] at hz
       have hcA:Chg [] wr wA:=by rw [← hwA]; exact (Chg.refl _ _).alloc _
       obtain ⟨wF,hwF,hcF,hbF⟩:=set6S (str x.name) (.int .i64 x.pos) (.bool x.seen) (.slice p1 x.params.length q1) (.slice p2 x.vars.length q2) (.slice p3 x.body.len q3) hz
       have hcw:Chg [] wr wF:=hcA.trans hcF (fun x hx=>.inr (by simp at hx; omega))
       have g0:=hcA.cellSome d0 (by simp); have g1:=hcA.cellSome d1 (by simp); have g2:=hcA.cellSome d2 (by simp); have g3:=hcA.cellSome d3 (by simp); have g4:=hcA.cellSome d4 (by simp); have g5:=hcA.cellSome d5 (by simp)
       have z0:=hz.cell 0 _ rfl; have z1:=hz.cell 1 _ rfl; have z2:=hz.cell 2 _ rfl; have z3:=hz.cell 3 _ rfl; have z4:=hz.cell 4 _ rfl; have z5:=hz.cell 5 _ rfl
       have y0:=hz.frozen 0; have y1:=hz.frozen 1; have y2:=hz.frozen 2; have y3:=hz.frozen 3; have y4:=hz.frozen 4; have y5:=hz.frozen 5
       have e0:=hbF.cell 0 _ rfl; have e1:=hbF.cell 1 _ rfl
       have HCF:=Lib.hid (HC.out.then hcw); have HBF:=Lib.hid hbF
       have HOS:=Lib.hid (show onceL had ((x.name,x.pos) :: (m.procs.drop (k + 1)).map fun x=>(x.name,x.pos))=onceL [] (m.vars.map (fun g=>(g.name,g.pos)) ++ m.procs.map fun x=>(x.name,x.pos)) by
        rw [← HON.out,drop_cons hx]; rfl)
       have hone:=once_any had x.name x.pos wL.heap.size wF (HH.out.kept hcw (by simp))
       clear hx hz hcA hcF hbF hcw
       by_cases hgi : x.name∈had
       ·simp only [if_pos hgi] at hone
        have HON1:=Lib.hid hone
        have HT:=Lib.hid (show tgt = .at_ 9 x.pos by
         rw [HRS.out,behindL,← HOS.out,onceL,if_pos hgi]; rfl)
        clear hone hgi
        go_wp2_with fail
        refine HON1.out.mono ?_
        rintro _ w9 ⟨hc9,b9,rfl,hl9,hb9⟩
        have hs9:=HCF.out.size
        have hss:=HS.out
        have HC9:=Lib.hid (show Chg [] w w9 from (HCW.out.then HCF.out).trans hc9 (fun x hx=>.inr (by simp at hx <;> omega)))
        have HE9:=Lib.hid (show Blk w9 wm.heap.size #[.nilIface] 31 from (HEB.out.kept HCF.out (by simp)).kept hc9 (by simp <;> omega))
        have HB9:=Lib.hid hb9; have HL9:=Lib.hid hl9
        clear hc9 hb9 hl9 hss
        go_wp2_with fail
        refine cleave_thrown _ _ _ _ _ _ rfl HE9.out (fun w' hc=>?_)
        have hss:=HS.out
        have hl9:=HL9.out
        rw [HT.out]
        exact ⟨HC9.out.trans hc (fun x hx=>.inr (by simp at hx <;> omega)),b9,rfl,by omega,HB9.out.kept hc (by simp <;> omega)⟩
       ·simp only [if_neg hgi] at hone
        have HON1:=Lib.hid hone
        have HNX:=Lib.hid (show onceL (x.name :: had) ((m.procs.drop (k + 1)).map fun x=>(x.name,x.pos))=onceL [] (m.vars.map (fun g=>(g.name,g.pos)) ++ m.procs.map fun x=>(x.name,x.pos)) by
         rw [← HOS.out]
         conv=>rhs; rw [onceL,if_neg hgi])
        clear hone hgi
        go_wp2_with fail
        refine HON1.out.mono ?_
        rintro _ w4 ⟨rfl,hc4,hh4⟩
        have HC4:=Lib.hid (show Chg [] w0 w4 from HCF.out.trans hc4 (fun x hx=>.inr (by simp at hx; omega)))
        have HH4:=Lib.hid hh4
        clear hc4 hh4
        go_wp2_with fail
        exact ⟨⟨k + 1,x.name :: had,by go_num,by omega,HC4.out,HH4.out,HNX.out⟩,by simp [intOf]; omega⟩
      ·have HRS:=Lib.hid (show tgt = .of ((procsL m seen m.procs).or (Check.bodyL ⟨m.imports,seen,[],m.vars,m.procs⟩ m.body)) by
        have h0 : onceL [] (m.vars.map (fun g=>(g.name,g.pos)) ++ m.procs.map fun x=>(x.name,x.pos))=none:=by
         rw [← HON.out,List.drop_eq_nil_of_le (by omega)]; rfl
        rw [HRS.out,behindL,h0]; rfl)
       obtain ⟨wQ,hwQ⟩ : ∃ x,x=wr:=⟨_,rfl⟩
       subst hwQ
       have m3:=(HMB.out.kept HC.out (by simp)).cell 3 _ rfl
       have HCP:=Lib.hid HC.out
       clear HON HC HH
       go_wp2_with fail
       clear m3 hk hlt
       go_loopw [15,16,17,19,84] (fun _ _ _ _ i wr=>∃ k:Nat,i = .int .i64 k∧k≤m.procs.length∧Chg [] w0 wr∧Check.procsL m seen (m.procs.drop k)=Check.procsL m seen m.procs) (fun _ _ _ _ i _=>m.procs.length - (intOf i).toNat)
       case atStart=>exact ⟨0,rfl,Nat.zero_le _,HCP.out,rfl⟩
       case round=>
        obtain ⟨k,rfl,hk,hc,hon⟩:=hrel
        have HC:=Lib.hid hc; have HON:=Lib.hid hon
        clear hc hon
        by_cases hlt : k < m.procs.length
        ·obtain ⟨x,hx⟩ : ∃ x,m.procs[k]?=some x:=⟨m.procs[k],List.getElem?_eq_getElem hlt⟩
         obtain ⟨cs1,d,cs',hpe,hl1,_,_,_,rfl,⟨p1,q1,rfl,hq1,hr1⟩,⟨p2,q2,rfl,hq2,hr2⟩,⟨p3,q3,bs3,rfl,hq3,hr3,hs3⟩⟩:=prsAt_at HPS.out hx
         have hrw:=HPR.out.kept HC.out (by simp)
         rw [hpe] at hrw
         obtain ⟨b,o,rfl,d0,d1,d2,d3,d4,d5⟩:=cells6S (cs':=cs') hrw hl1
         clear hrw hpe
         have HR1:=Lib.hid hr1; have HR2:=Lib.hid hr2; have HR3:=Lib.hid hr3; have HS3:=Lib.hid hs3
         clear hl1 hr1 hr2 hr3 hs3
         have hz:=Blk.new wr #[str [],.int .i64 0,.bool false,nils,nils,nils] 73
         obtain ⟨wA,hwA⟩ : ∃ x,wr.alloc (.cells #[str [],.int .i64 0,.bool false,nils,nils,nils] 73)=x:=⟨_,rfl⟩
         rw [hwA] at hz
         have hcA:Chg [] wr wA:=by rw [← hwA]; exact (Chg.refl _ _).alloc _
         obtain ⟨wF,hwF,hcF,hbF⟩:=set6S (str x.name) (.int .i64 x.pos) (.bool x.seen) (.slice p1 x.params.length q1) (.slice p2 x.vars.length q2) (.slice p3 x.body.len q3) hz
         have hcw:Chg [] wr wF:=hcA.trans hcF (fun x hx=>.inr (by simp at hx; omega))
         have g0:=hcA.cellSome d0 (by simp); have g1:=hcA.cellSome d1 (by simp); have g2:=hcA.cellSome d2 (by simp); have g3:=hcA.cellSome d3 (by simp); have g4:=hcA.cellSome d4 (by simp); have g5:=hcA.cellSome d5 (by simp)
         have z0:=hz.cell 0 _ rfl; have z1:=hz.cell 1 _ rfl; have z2:=hz.cell 2 _ rfl; have z3:=hz.cell 3 _ rfl; have z4:=hz.cell 4 _ rfl; have z5:=hz.cell 5 _ rfl
         have y0:=hz.frozen 0; have y1:=hz.frozen 1; have y2:=hz.frozen 2; have y3:=hz.frozen 3; have y4:=hz.frozen 4; have y5:=hz.frozen 5
         have e0:=hbF.cell 0 _ rfl; have e1:=hbF.cell 1 _ rfl
         have HCF:=Lib.hid (HC.out.then hcw); have HBF:=Lib.hid hbF
         have HPN:=Lib.hid (show (Check.procL m seen x).or (Check.procsL m seen (m.procs.drop (k + 1)))=Check.procsL m seen m.procs by
          rw [← HON.out,drop_cons hx]; rfl)
         have hxm : x∈m.procs:=List.mem_of_getElem? hx
         have HPB:=Lib.hid (HM.out.bodies x hxm)
         obtain ⟨hxp,hxv⟩:=HM.out.params x hxm
         clear hx hxm hz hcA hcF hbF hcw
         go_wp2_with fail
         clear hwA hwF d0 d1 d2 d3 d4 d5 g0 g1 g2 g3 g4 g5 z0 z1 z2 z3 z4 z5 y0 y1 y2 y3 y4 y5 e0 e1
         obtain ⟨wR,hwR⟩ : ∃ x,x=wr:=⟨_,rfl⟩
         subst hwR
         obtain ⟨wD,hwD⟩ : ∃ x,x=wF.drew:=⟨_,rfl⟩
         have HCD:=Lib.hid (show Chg [] w0 wD by rw [hwD]; exact HCF.out.drew)
         have HBD:=Lib.hid (show Blk wD wR.heap.size #[str x.name,.int .i64 x.pos,.bool x.seen,.slice p1 x.params.length q1,.slice p2 x.vars.length q2,.slice p3 x.body.len q3] 73 by rw [hwD]; exact HBF.out)
         have HMD:=Lib.hid (HMB.out.kept HCD.out (by simp))
         have m0:=HMD.out.cell 0 _ rfl; have m1:=HMD.out.cell 1 _ rfl; have m2:=HMD.out.cell 2 _ rfl; have m3:=HMD.out.cell 3 _ rfl; have m4:=HMD.out.cell 4 _ rfl
         have b3:=HBD.out.cell 3 _ rfl; have b4:=HBD.out.cell 4 _ rfl
         have hk:=Blk.new wD #[.slice p1 x.params.length q1,.slice p2 x.vars.length q2] 22
         obtain ⟨wK,hwK⟩ : ∃ y,wD.alloc (.cells #[.slice p1 x.params.length q1,.slice p2 x.vars.length q2] 22)=y:=⟨_,rfl⟩
         rw [hwK] at hk
         have hcK:Chg [] wD wK:=by rw [← hwK]; exact (Chg.refl _ _).alloc _
         have HCK:=Lib.hid (HCD.out.then hcK)
         have HDK:=Lib.hid hcK
         have hsK : wK.heap.size=wD.heap.size + 1:=by rw [← hwK]; simp
         have hcc:=concat_any x.params x.vars (by omega) (by omega) wD.heap.size q1 q2 p1 p2 F wK (hk.cell 0 _ rfl) (hk.cell 1 _ rfl) ⟨p1,q1,rfl,hq1,HR1.out.kept HCK.out (by simp)⟩ ⟨p2,q2,rfl,hq2,HR2.out.kept HCK.out (by simp)⟩
         obtain ⟨L,hL⟩ : ∃ L,L=x.params ++ x.vars:=⟨_,rfl⟩
         have hLl:L.length≤20:=by rw [hL,List.length_append]; omega
         rw [← hL] at hcc
         have HCC:=Lib.hid hcc; have HLE:=Lib.hid hL
         clear hcc hL
         have HSK:=Lib.hid hsK
         have HLR:=Lib.hid (show wR.heap.size < wD.heap.size from HBD.out.lt)
         have HLM:=Lib.hid (show w.heap.size < wD.heap.size from HMD.out.lt)
         clear hk hcK hsK
         refine wp_region_C [] rfl (by kernel_rfl) ?_
         rw [← hwD]
         clear hwD
         have hS:Chg [] wD wD:=Chg.refl _ _
         repeat ((with_reducible refine gX ?_); (first | refine wpX_nil ?_ | refine sK ?_ | refine sM fun _ _=>?_ | refine sL fun _ _=>?_ | refine sE fun _ _=>?_); go_wp2_with fail)
         refine And.intro HDK.out ?_
         have hS1:=HDK.out
         repeat ((with_reducible refine gX ?_); (first | refine wpX_nil ?_ | refine sK ?_ | refine sM fun _ _=>?_ | refine sL fun _ _=>?_ | refine sE fun _ _=>?_); go_wp2_with fail)
         refine HCC.out.mono ?_
         rintro _ wC ⟨lv,rfl,hnl,hcC⟩
         obtain ⟨la,lc,rfl,hlc,hlr⟩:=hnl
         have hS2:Chg [] wD wC:=HDK.out.then hcC
         have HCCw:=Lib.hid (HCK.out.then hcC)
         have hszC:=hcC.size
         have HLRow:=Lib.hid hlr
         obtain ⟨wB,hwB⟩ : ∃ y,wC.alloc (.cells #[str m.name,.slice ai m.imports.length ci,.slice av m.vars.length cv,(.slice (some ⟨b,o,none⟩) m.procs.length cp),.slice ab m.body.len cb,.map ov,.slice la L.length lc] 77)=y:=⟨_,rfl⟩
         have hck:=Blk.new wC #[str m.name,.slice ai m.imports.length ci,.slice av m.vars.length cv,(.slice (some ⟨b,o,none⟩) m.procs.length cp),.slice ab m.body.len cb,.map ov,.slice la L.length lc] 77
         rw [hwB] at hck
         have hcB:Chg [] wC wB:=by rw [← hwB]; exact (Chg.refl _ _).alloc _
         have hsB : wB.heap.size=wC.heap.size + 1:=by rw [← hwB]; simp
         have HSB2:=Lib.hid (show Chg [] wD wB from hS2.then hcB)
         obtain ⟨wM,hwM⟩ : ∃ y,wB.alloc (.map #[] 0)=y:=⟨_,rfl⟩
         have hcM:Chg [] wB wM:=by rw [← hwM]; exact (Chg.refl _ _).alloc _
         have HAD:=Lib.hid (show HadIs wM wB.heap.size [] by rw [← hwM]; exact HadIs.made wB)
         have HCM:=Lib.hid ((HCCw.out.then hcB).then hcM)
         have HKM:=Lib.hid (hck.kept hcM (by simp))
         have HLM2:=Lib.hid ((hlr.kept hcB (by simp)).kept hcM (by simp))
         have HBP:=Lib.hid (((HBD.out.kept hS2 (by simp)).kept hcB (by simp)).kept hcM (by simp))
         have c6:=HKM.out.cell 6 _ rfl
         have hsz : w0.heap.size≤wK.heap.size:=HCK.out.size
         have HSZ:=Lib.hid (And.intro hszC (And.intro hsB hsz))
         clear hcC hlr hck hcB hsB hcM hszC hsz
         go_wp2_with fail
         refine And.intro hS2 ?_
         repeat ((with_reducible refine gX ?_); (first | refine wpX_nil ?_ | refine sK ?_ | refine sM fun _ _=>?_ | refine sL fun _ _=>?_ | refine sE fun _ _=>?_); go_wp2_with fail)
         refine And.intro HSB2.out ?_
         repeat ((with_reducible refine gX ?_); (first | refine wpX_nil ?_ | refine sK ?_ | refine sM fun _ _=>?_ | refine sL fun _ _=>?_ | refine sE fun _ _=>?_); go_wp2_with fail)
         clear hS hS1 hS2 m0 m1 m2 m3 m4 b3 b4
         go_wp2_with fail
         clear hwK hwB hwM c6
         go_loopw [19,104] (fun _ i wr=>∃ (j:Nat) (had:List (List UInt8)),i = .int .i64 j∧j≤L.length∧Chg [wB.heap.size] wM wr∧HadIs wr wB.heap.size had∧onceL had ((L.drop j).map fun n=>(n,x.pos))=onceL [] (L.map fun n=>(n,x.pos))) (fun _ i _=>L.length - (intOf i).toNat)
         case atStart=>exact ⟨0,[],rfl,Nat.zero_le _,Chg.refl _ _,HAD.out,rfl⟩
         case round=>
          obtain ⟨j,had,rfl,hj,hc,hhad,hon⟩:=hrel
          have hsz:=HSZ.out
          have HC5:=Lib.hid (show Chg [] w0 wr from HCM.out.trans hc (fun x hx=>.inr (by simp at hx; omega)))
          have HH:=Lib.hid hhad; have HON5:=Lib.hid hon; have HC:=Lib.hid hc
          have hbp:=HBP.out.kept hc (by have:=HLR.out; have:=HSK.out; simp; omega)
          have q1:=hbp.cell 1 _ rfl; have q5:=hbp.cell 5 _ rfl
          clear hc hhad hon hbp
          by_cases hlj : j < L.length
          ·obtain ⟨n,hn⟩ : ∃ n,L[j]?=some n:=⟨L[j],List.getElem?_eq_getElem hlj⟩
           obtain ⟨b8,o8,rfl,d0⟩:=names_cell (HLM2.out.kept HC.out (fun y hy hn=>by simp at hy; have:=hn.2; omega)) hn
           have HOS:=Lib.hid (show onceL had ((n,x.pos) :: (L.drop (j + 1)).map fun n=>(n,x.pos))=onceL [] (L.map fun n=>(n,x.pos)) by
            rw [← HON5.out,drop_cons hn]; rfl)
           have hone:=once_any had n x.pos wB.heap.size wr HH.out
           clear hn hsz
           by_cases hgi : n∈had
           ·simp only [if_pos hgi] at hone
            have HON1:=Lib.hid hone
            have HT:=Lib.hid (show tgt = .at_ 9 x.pos by
             have h1 : onceL [] ((x.params ++ x.vars).map fun n=>(n,x.pos))=some (9,x.pos):=by
              rw [← HLE.out,← HOS.out,onceL,if_pos hgi]
             rw [HRS.out,← HPN.out,Check.procL,h1]; rfl)
            clear hone hgi
            go_wp2_with fail
            have hsz:=HSZ.out
            refine HON1.out.mono ?_
            rintro _ w9 ⟨hc9,b9,rfl,hl9,hb9⟩
            have hs9:=HC5.out.size
            have hss:=HS.out
            have HC9:=Lib.hid (show Chg [] w w9 from (HCW.out.then HC5.out).trans hc9 (fun x hx=>.inr (by simp at hx <;> omega)))
            have HE9:=Lib.hid (show Blk w9 wm.heap.size #[.nilIface] 31 from (HEB.out.kept HC5.out (by simp)).kept hc9 (by simp <;> omega))
            have HB9:=Lib.hid hb9; have HL9:=Lib.hid hl9
            clear hc9 hb9 hl9 hss
            go_wp2_with fail
            refine cleave_thrown _ _ _ _ _ _ rfl HE9.out (fun w' hc=>?_)
            have hss:=HS.out
            have hl9:=HL9.out
            rw [HT.out]
            exact ⟨HC9.out.trans hc (fun x hx=>.inr (by simp at hx <;> omega)),b9,rfl,by omega,HB9.out.kept hc (by simp <;> omega)⟩
           ·simp only [if_neg hgi] at hone
            have HON1:=Lib.hid hone
            have HNX:=Lib.hid (show onceL (n :: had) ((L.drop (j + 1)).map fun n=>(n,x.pos))=onceL [] (L.map fun n=>(n,x.pos)) by
             rw [← HOS.out]
             conv=>rhs; rw [onceL,if_neg hgi])
            clear hone hgi
            go_wp2_with fail
            refine HON1.out.mono ?_
            rintro _ w4 ⟨rfl,hc4,hh4⟩
            have HC4:=Lib.hid (HC.out.then hc4)
            have HH4:=Lib.hid hh4
            clear hc4 hh4
            go_wp2_with fail
            exact ⟨⟨j + 1,n :: had,by go_num,by omega,HC4.out,HH4.out,HNX.out⟩,by simp [intOf]; omega⟩
          ·have h1 : onceL [] (L.map fun n=>(n,x.pos))=none:=by
            rw [← HON5.out,List.drop_eq_nil_of_le (by omega)]; rfl
           obtain ⟨cv',hcv⟩ : ∃ c:Env,c=⟨m.imports,seen,L,m.vars,m.procs⟩:=⟨_,rfl⟩
           have HPL:=Lib.hid (show Check.procL m seen x=Check.bodyL cv' x.body by rw [Check.procL,← HLE.out,h1,hcv]; rfl)
           have hev:EnvAt wr (fun y=>F y∨(w0.heap.size≤y∧y < wB.heap.size)) cv' wC.heap.size:=by
            rw [hcv]
            exact ⟨(.inr ⟨by omega,by omega⟩),HM.out.imports,by show L.length≤1000; omega,HM.out.vars,HM.out.procs,m.name,.slice ai m.imports.length ci,.slice av m.vars.length cv,.slice (some ⟨b,o,none⟩) m.procs.length cp,.slice ab m.body.len cb,.map ov,.slice la L.length lc,HKM.out.kept HC.out (by simp; omega),
             ⟨ai,ci,rfl,hi1,(HIR.out.kept HC5.out (by simp)).mono (fun y hy=>.inl hy)⟩,⟨av,cv,rfl,hv1,(HVR.out.kept HC5.out (by simp)).mono (fun y hy=>.inl hy)⟩,procsL_of (ProcsAt.mono (fun y hy=>.inl hy) ⟨some ⟨b,o,none⟩,cp,pcs,rfl,hp1,HPR.out.kept HC5.out (by simp),HPS.out.kept HC5.out (by simp)⟩),(HSN.out.kept HC5.out (by simp)).mono (fun y hy=>.inl hy),⟨la,lc,rfl,hlc,(HLM2.out.kept HC.out (fun y hy hn=>by simp at hy; have:=hn.2; omega)).mono (fun y hy=>.inr ⟨by have:=hy.1; omega,by have:=hy.2; omega⟩)⟩⟩
           have HBC:=Lib.hid (cbody_any cv' _ wC.heap.size x.body HPB.out.1 HPB.out.2 (.slice p3 x.body.len q3) wr hev (SlAt.mono (fun y hy=>.inl hy) ⟨p3,q3,bs3,rfl,hq3,HR3.out.kept HC5.out (by simp),HS3.out.kept HC5.out (by simp)⟩))
           clear h1 hev hcv
           cases hbl:Check.bodyL cv' x.body with
           | none=>
            rw [hbl] at HBC
            have HNX:=Lib.hid (show Check.procsL m seen (m.procs.drop (k + 1))=Check.procsL m seen m.procs by
             rw [← HPN.out,HPL.out,hbl]; rfl)
            clear hbl hsz
            go_wp2_with fail
            refine HBC.out.mono ?_
            rintro _ w5 ⟨hc5,rfl⟩
            have HC6:=Lib.hid (HC5.out.then hc5)
            clear hc5
            go_wp2_with fail
            exact ⟨⟨k + 1,by go_num,by omega,HC6.out,HNX.out⟩,by simp [intOf]; omega⟩
           | some y=>
            obtain ⟨en,q⟩:=y
            rw [hbl] at HBC
            have HT:=Lib.hid (show tgt = .at_ en q by rw [HRS.out,← HPN.out,HPL.out,hbl]; rfl)
            clear hbl hsz
            go_wp2_with fail
            have hsz:=HSZ.out
            refine HBC.out.mono ?_
            rintro _ w9 ⟨hc9,b9,rfl,hl9,hb9⟩
            have hs9:=HC5.out.size
            have hss:=HS.out
            have HC9:=Lib.hid (show Chg [] w w9 from (HCW.out.then HC5.out).trans hc9 (fun x hx=>.inr (by simp at hx <;> omega)))
            have HE9:=Lib.hid (show Blk w9 wm.heap.size #[.nilIface] 31 from (HEB.out.kept HC5.out (by simp)).kept hc9 (by simp <;> omega))
            have HB9:=Lib.hid hb9; have HL9:=Lib.hid hl9
            clear hc9 hb9 hl9 hss
            go_wp2_with fail
            refine cleave_thrown _ _ _ _ _ _ rfl HE9.out (fun w' hc=>?_)
            have hss:=HS.out
            have hl9:=HL9.out
            rw [HT.out]
            exact ⟨HC9.out.trans hc (fun x hx=>.inr (by simp at hx <;> omega)),b9,rfl,by omega,HB9.out.kept hc (by simp <;> omega)⟩
        ·have HRT:=Lib.hid (show tgt = .of (Check.bodyL ⟨m.imports,seen,[],m.vars,m.procs⟩ m.body) by
          have h0:Check.procsL m seen m.procs=none:=by rw [← HON.out,List.drop_eq_nil_of_le (by omega)]; rfl
          rw [HRS.out,h0]; rfl)
         have HMD:=Lib.hid (HMB.out.kept HC.out (by simp))
         have m0:=HMD.out.cell 0 _ rfl; have m1:=HMD.out.cell 1 _ rfl; have m2:=HMD.out.cell 2 _ rfl; have m3:=HMD.out.cell 3 _ rfl; have m4:=HMD.out.cell 4 _ rfl
         obtain ⟨wB,hwB⟩ : ∃ y,wr.alloc (.cells #[str m.name,.slice ai m.imports.length ci,.slice av m.vars.length cv,.slice ap m.procs.length cp,.slice ab m.body.len cb,.map ov,nils] 77)=y:=⟨_,rfl⟩
         have hck:=Blk.new wr #[str m.name,.slice ai m.imports.length ci,.slice av m.vars.length cv,.slice ap m.procs.length cp,.slice ab m.body.len cb,.map ov,nils] 77
         rw [hwB] at hck
         have hcB:Chg [] wr wB:=by rw [← hwB]; exact (Chg.refl _ _).alloc _
         have HCB:=Lib.hid (HC.out.then hcB); have HKB:=Lib.hid hck
         have n4 : wB.cell? ⟨w.heap.size,4,none⟩=_:=hcB.cellSome m4 (by simp)
         obtain ⟨cv',hcv⟩ : ∃ c:Env,c=⟨m.imports,seen,[],m.vars,m.procs⟩:=⟨_,rfl⟩
         have hev:EnvAt wB (fun y=>F y∨y=wr.heap.size) cv' wr.heap.size:=by
          rw [hcv]
          exact ⟨(.inr rfl),HM.out.imports,by show ([] : List (List UInt8)).length≤1000; simp,HM.out.vars,HM.out.procs,m.name,.slice ai m.imports.length ci,.slice av m.vars.length cv,.slice ap m.procs.length cp,.slice ab m.body.len cb,.map ov,nils,HKB.out,
           ⟨ai,ci,rfl,hi1,(HIR.out.kept HCB.out (by simp)).mono (fun y hy=>.inl hy)⟩,⟨av,cv,rfl,hv1,(HVR.out.kept HCB.out (by simp)).mono (fun y hy=>.inl hy)⟩,procsL_of (ProcsAt.mono (fun y hy=>.inl hy) ⟨ap,cp,pcs,rfl,hp1,HPR.out.kept HCB.out (by simp),HPS.out.kept HCB.out (by simp)⟩),(HSN.out.kept HCB.out (by simp)).mono (fun y hy=>.inl hy),NamesAt.nil⟩
         have HBC:=Lib.hid (cbody_any cv' _ wr.heap.size m.body HM.out.body.1 HM.out.body.2 (.slice ab m.body.len cb) wB hev ((HSB.out.kept HCB.out (by simp)).mono (fun y hy=>.inl hy)))
         have HRT:=Lib.hid (show tgt = .of (Check.bodyL cv' m.body) by rw [hcv]; exact HRT.out)
         clear hck hcB hev hcv HON
         cases hbl:Check.bodyL cv' m.body with
         | none=>
          rw [hbl] at HBC HRT
          clear hbl
          go_wp2_with fail
          clear hwB m0 m1 m2 m3 m4 n4
          refine HBC.out.mono ?_
          rintro _ w5 ⟨hc5,rfl⟩
          have HC:=Lib.hid (HCB.out.then hc5)
          clear hc5
          have e0:=(HEB.out.kept HC.out (by simp)).cell 0 _ rfl; have f0:=(HEB.out.kept HC.out (by simp)).frozen 0
          obtain ⟨wE,hwE⟩ : ∃ x,w5.setCell ⟨wm.heap.size,0,none⟩ (.nilIface)=x:=⟨_,rfl⟩
          have HCE:=Lib.hid (show Chg [wm.heap.size] w5 wE by rw [← hwE]; exact Chg.set1 _ _ _ _)
          have HBE:=Lib.hid (show Blk wE wm.heap.size #[.nilIface] 31 by rw [← hwE]; simpa using (HEB.out.kept HC.out (by simp)).set 0 (.nilIface))
          go_wp2_with fail
          have hss:=HS.out
          exact cleave_idle _ _ _ _ _ rfl HBE.out (by rw [HRT.out]; exact ⟨(HCW.out.then HC.out).trans HCE.out (fun x hx=>.inr (by simp at hx; omega)),rfl⟩)
         | some y=>
          obtain ⟨en,q⟩:=y
          rw [hbl] at HBC HRT
          clear hbl
          go_wp2_with fail
          clear hwB m0 m1 m2 m3 m4 n4
          refine HBC.out.mono ?_
          rintro _ w9 ⟨hc9,b9,rfl,hl9,hb9⟩
          have hs9:=HCB.out.size
          have hss:=HS.out
          have HC9:=Lib.hid (show Chg [] w w9 from (HCW.out.then HCB.out).trans hc9 (fun x hx=>.inr (by simp at hx <;> omega)))
          have HE9:=Lib.hid (show Blk w9 wm.heap.size #[.nilIface] 31 from (HEB.out.kept HCB.out (by simp)).kept hc9 (by simp <;> omega))
          have HB9:=Lib.hid hb9; have HL9:=Lib.hid hl9
          clear hc9 hb9 hl9 hss
          go_wp2_with fail
          refine cleave_thrown _ _ _ _ _ _ rfl HE9.out (fun w' hc=>?_)
          have hss:=HS.out
          have hl9:=HL9.out
          rw [HRT.out]
          exact ⟨HC9.out.trans hc (fun x hx=>.inr (by simp at hx <;> omega)),b9,rfl,by omega,HB9.out.kept hc (by simp <;> omega)⟩
end Go.Proofs.YtilhhkokdfajiaaGreatDoor
namespace Go.Mq.Check
open Go Go.RowKit Go.Mq Go.Mq.Tree Go.Mq.Sym
def symsStep (f:List UInt8→Option (List Sy)) (t:List UInt8):List UInt8→Option (List Sy):=match parse t with
 | .ok m=>fun n=>if n=m.name then some (ofM m) else f n
 | .bad _ _=>f
def symsF (l:List (List UInt8)):List UInt8→Option (List Sy):=l.foldl symsStep fun _=>none
theorem symsF_snoc (l:List (List UInt8)) (t:List UInt8) : symsF (l ++ [t])=symsStep (symsF l) t:=by rw [symsF,List.foldl_append]; rfl
theorem step_ok {f:List UInt8→Option (List Sy)} {t:List UInt8} {m:Mod} (h : parse t = .ok m) : symsStep f t=fun n=>if n=m.name then some (ofM m) else f n:=by rw [symsStep,h]
theorem step_bad {f:List UInt8→Option (List Sy)} {t:List UInt8} {en p:Nat} (h : parse t = .bad en p) : symsStep f t=f:=by rw [symsStep,h]
def SeenIn (w:World) (b:Nat) (G:Nat→Prop) (seen:List UInt8→Option (List Sy)):Prop:=∃ es,MapIs w b es ∧ ∀ n,match seen n with
  | none=>getM es n=none
  | some l=>l.length≤1000 ∧ ∃ u,getM es n=some u∧SymsAt w G l u
section
variable {w w':World} {b:Nat} {G F:Nat→Prop} {seen:List UInt8→Option (List Sy)}
theorem SeenIn.at_ (h:SeenIn w b G seen) (hF : ∀ x,G x→F x) (hb:F b):SeenAt w F seen (.map (some b)):=by
 obtain ⟨es,h1,h2⟩:=h
 refine .inr ⟨b,es,rfl,hb,h1,fun n=>?_⟩
 have:=h2 n
 cases hs : seen n with
 | none=>rw [hs] at this; exact this
 | some l=>
  rw [hs] at this
  obtain ⟨h5,u,h6,h7⟩:=this
  exact ⟨h5,u,h6,h7.mono hF⟩
theorem SeenIn.mono (h:SeenIn w b G seen) (hF : ∀ x,G x→F x):SeenIn w b F seen:=by
 obtain ⟨es,h1,h2⟩:=h
 refine ⟨es,h1,fun n=>?_⟩
 have:=h2 n
 cases hs : seen n with
 | none=>rw [hs] at this; exact this
 | some l=>
  rw [hs] at this
  obtain ⟨h5,u,h6,h7⟩:=this
  exact ⟨h5,u,h6,h7.mono hF⟩
theorem SeenIn.kept {S:List Nat} (h:SeenIn w b G seen) (hc:Chg S w w') (hn : b∉S) (hS : ∀ x∈S,¬ G x):SeenIn w' b G seen:=by
 obtain ⟨es,h1,h2⟩:=h
 refine ⟨es,h1.kept hc hn,fun n=>?_⟩
 have:=h2 n
 cases hs : seen n with
 | none=>rw [hs] at this; exact this
 | some l=>
  rw [hs] at this
  obtain ⟨h5,u,h6,h7⟩:=this
  exact ⟨h5,u,h6,h7.kept hc hS⟩
theorem SeenIn.made (w:World) (G:Nat→Prop):SeenIn (w.alloc (.map #[] 0)) w.heap.size G fun _=>none:=⟨[],MapIs.made w,fun _=>rfl⟩
end
end Go.Mq.Check
namespace Go.Proofs.YtilhhkokdfajiaaGreatDoor
open Go Go.RowKit Go.Mq Go.Mq.Tree Go.Mq.Sym Go.Mq.Check
set_option maxRecDepth 100000
set_option maxHeartbeats 2000000
theorem seen_put {w:World} {b:Nat} {G:Nat→Prop} {seen:List UInt8→Option (List Sy)} (h:SeenIn w b G seen) (hG : ¬ G b) (n:List UInt8) (l:List Sy) (u:Value) (hl : l.length≤1000) (hu:SymsAt w G l u) :
  ∃ w',(Instr.mapUpdate 34 (.map (some b)) (str n) u).run Tryz.prog w = .ok () w'∧SeenIn w' b G (fun x=>if x=n then some l else seen x)∧Chg [b] w w':=by
 obtain ⟨es,h1,h2⟩:=h
 obtain ⟨w',hr,hm,hc⟩:=run_putM (P:=Tryz.prog) Tryz.underlying34 Tryz.underlying9 h1 n u
 refine ⟨w',hr,⟨_,hm,fun x=>?_⟩,hc⟩
 have hS : ∀ x∈[b],¬ G x:=fun x hx=>by simp at hx; subst hx; exact hG
 rw [getM_put]
 by_cases hx : x=n
 ·subst hx
  simp only [if_pos]
  exact ⟨hl,u,rfl,hu.kept hc hS⟩
 ·simp only [if_neg hx,if_neg (Ne.symm hx)]
  have:=h2 x
  cases hs : seen x with
  | none=>rw [hs] at this; exact this
  | some l'=>
   rw [hs] at this
   obtain ⟨h5,u',h6,h7⟩:=this
   exact ⟨h5,u',h6,h7.kept hc hS⟩
theorem slong_any (n:List UInt8) (hn : n.length≤9223372036854775807) (w:World):Calls Tryz.prog 16 #[str n] w (fun e w'=>e = .returned (.bool (decide (900 < n.length)))∧w'=w):=by
 go_enter Tryz.func16,Tryz.ntmps16
 go_wp2_with fail
 go_ret
 exact ⟨by simp; constructor <;> intro h <;> omega,rfl⟩
theorem sindexf_any (l:List (List UInt8)) (hl : l.length≤1000) (hz : ∀ n∈l,n.length≤9223372036854775807) (F:Nat→Prop) (v:Value) (w:World) (h:NamesAt w F l v) :
  Calls Tryz.prog 32 #[v,.func (.func 16) #[] #[]] w (fun e w'=>∃ r:Int,e = .returned (.int .i64 r) ∧ -1≤r∧r≤1000∧(0≤r ∨ ∀ n∈l,n.length≤900)∧Chg [] w w'):=by
 obtain ⟨a,c,rfl,hac,hrow⟩:=h
 have HROW:=Lib.hid hrow; have HZ:=Lib.hid hz
 clear hrow hz
 go_enter Tryz.func32,Tryz.ntmps32
 go_wp2_with fail
 go_loopw [5,8] (fun _ i wr=>∃ k:Nat,i = .int .i64 k∧k≤l.length∧w=wr ∧ ∀ (i:Nat) (x:List UInt8),i < k→l[i]?=some x→x.length≤900) (fun _ i _=>l.length - (intOf i).toNat)
 case atStart=>exact ⟨0,rfl,Nat.zero_le _,rfl,fun i x hi=>by omega⟩
 case round=>
  obtain ⟨k,rfl,hk,rfl,hno⟩:=hrel
  have HNO:=Lib.hid hno
  clear hno
  by_cases hlt : k < l.length
  ·obtain ⟨n,hs⟩ : ∃ n,l[k]?=some n:=⟨l[k],List.getElem?_eq_getElem hlt⟩
   obtain ⟨b,o,rfl,d0⟩:=names_cell HROW.out hs
   have HS:=Lib.hid hs
   have HI:=Lib.hid (slong_any n (HZ.out n (List.mem_of_getElem? hs)) w)
   clear hs
   cases hq : decide (900 < n.length) with
   | true=>
    rw [hq] at HI
    clear hq
    go_wp2_with fail
    refine HI.out.mono ?_; rintro _ _ ⟨rfl,hw⟩; have hw:=hw.symm; subst hw
    go_wp2_with fail
    go_ret
    exact ⟨k,rfl,by omega,by omega,.inl (by omega),Chg.refl _ _⟩
   | false=>
    rw [hq] at HI
    have HN:=Lib.hid (show n.length≤900 by simpa using hq)
    clear hq
    go_wp2_with fail
    refine HI.out.mono ?_; rintro _ _ ⟨rfl,hw⟩; have hw:=hw.symm; subst hw
    go_wp2_with fail
    refine ⟨⟨k + 1,by go_num,by omega,by first | rfl | trivial,fun i x hi hx=>?_⟩,by simp [intOf]; omega⟩
    by_cases he : i < k
    ·exact HNO.out i x he hx
    ·have : i=k:=by omega
     subst this
     rw [HS.out] at hx
     cases hx
     exact HN.out
  ·have hall : ∀ n∈l,n.length≤900:=fun n hn=>by
    obtain ⟨i,hi⟩:=List.getElem?_of_mem hn
    exact HNO.out i n (by have:=(List.getElem?_eq_some_iff.1 hi).1; omega) hi
   have HA:=Lib.hid hall
   clear hall
   go_wp2_with fail
   go_ret
   exact ⟨-1,rfl,by omega,by omega,.inr HA.out,Chg.refl _ _⟩
theorem scontainsf_any (l:List (List UInt8)) (hl : l.length≤1000) (hz : ∀ n∈l,n.length≤9223372036854775807) (F:Nat→Prop) (v:Value) (w:World) (h:NamesAt w F l v) :
  Calls Tryz.prog 15 #[v,.func (.func 16) #[] #[]] w (fun e w'=>∃ q:Bool,e = .returned (.bool q)∧(q=true ∨ ∀ n∈l,n.length≤900)∧Chg [] w w'):=by
 have HI:=Lib.hid (sindexf_any l hl hz F v w h)
 clear h hz
 go_enter Tryz.func15,Tryz.ntmps15
 go_wp2_with fail
 refine HI.out.mono ?_; rintro _ w1 ⟨r,rfl,h0,h1,hq,hc⟩
 have HQ:=Lib.hid hq; have HC:=Lib.hid hc
 clear hq hc
 go_wp2_with fail
 go_ret
 refine ⟨decide (0≤r),rfl,?_,HC.out⟩
 rcases HQ.out with h | h
 ·exact .inl (by simpa using h)
 ·exact .inr h
theorem short_any (l:List (List UInt8)) (hl : l.length≤9223372036854775807) (hz : ∀ n∈l,n.length≤9223372036854775807) (F:Nat→Prop) (a:Option Addr) (c:Nat) (w:World) (h:NamesAt w F l (.slice a l.length c)) :
  Calls Tryz.prog 4 #[.slice a l.length c] w (fun e w'=>∃ q:Bool,e = .returned (.bool q)∧(q=true→l.length≤5 ∧ ∀ n∈l,n.length≤900)∧Chg [] w w'):=by
 by_cases h5 : l.length≤5
 ·have HC:=Lib.hid (scontainsf_any l (by omega) hz F _ w h)
  clear h hz
  go_enter Tryz.func4,Tryz.ntmps4
  go_wp2_with fail
  refine HC.out.mono ?_; rintro _ w1 ⟨q,rfl,hq,hc⟩
  have HQ:=Lib.hid hq; have HC1:=Lib.hid hc
  clear hq hc
  cases q with
  | true=>
   go_wp2_with fail
   go_ret
   exact ⟨false,rfl,(fun h=>by cases h),HC1.out⟩
  | false=>
   go_wp2_with fail
   go_ret
   exact ⟨true,rfl,fun _=>⟨h5,HQ.out.elim (fun h=>by cases h) id⟩,HC1.out⟩
 ·clear h hz
  go_enter Tryz.func4,Tryz.ntmps4
  go_wp2_with fail
  go_ret
  exact ⟨rfl,Chg.refl _ _⟩
theorem syms_any (l:List (List UInt8)) (hl : l.length≤5) (hz : ∀ n∈l,n.length≤900) (F:Nat→Prop) (a:Option Addr) (c:Nat) (w:World) (B:Nat) (hL:Laid w B) (hF : ∀ x,F x→x < w.heap.size) (h:NamesAt w F l (.slice a l.length c)) :
  Calls Tryz.prog 7 #[.slice a l.length c] w (fun e w'=>e = .returned (.map (some w.heap.size))∧SeenIn w' w.heap.size (fun x=>w.heap.size < x∧x < w'.heap.size) (symsF l)∧Chg [] w w'):=by
 have hmm:=@run_makeMap Tryz.prog
 have hB:=hL.le
 have HFB:=Lib.hid hF
 obtain ⟨_,_,he,_,hrow⟩:=h
 cases he
 obtain ⟨w0,hw0⟩ : ∃ x,w.alloc (.map #[] 0)=x:=⟨_,rfl⟩
 have hc0:Chg [] w w0:=by rw [← hw0]; exact (Chg.refl _ _).alloc _
 have hs0 : w0.heap.size=w.heap.size + 1:=by rw [← hw0]; simp
 have HIN:=Lib.hid (show SeenIn w0 w.heap.size (fun x=>w.heap.size < x∧x < w0.heap.size) (symsF []) by rw [← hw0]; exact SeenIn.made w _)
 have HROW:=Lib.hid (hrow.kept hc0 (by simp)); have HL:=Lib.hid (hL.kept hc0 (by simp)); have HC0:=Lib.hid hc0; have HZ:=Lib.hid hz
 have HS0:=Lib.hid hs0
 clear hrow hL hc0 hz hs0 hF
 go_enter Tryz.func7,Tryz.ntmps7
 go_wp2_with fail
 clear hw0
 go_loopw [4,5,6] (fun i _ _ wr=>∃ k:Nat,i = .int .i64 k∧k≤l.length∧Chg [w.heap.size] w0 wr∧SeenIn wr w.heap.size (fun x=>w.heap.size < x∧x < wr.heap.size) (symsF (l.take k))) (fun i _ _ _=>l.length - (intOf i).toNat)
 case atStart=>exact ⟨0,rfl,Nat.zero_le _,Chg.refl _ _,HIN.out⟩
 case round=>
  obtain ⟨k,rfl,hk,hc,hin⟩:=hrel
  have HC:=Lib.hid hc; have HI:=Lib.hid hin
  clear hc hin
  by_cases hlt : k < l.length
  ·obtain ⟨t,ht⟩ : ∃ t,l[k]?=some t:=⟨l[k],List.getElem?_eq_getElem hlt⟩
   obtain ⟨b,o,rfl,d0⟩:=names_cell (HROW.out.kept HC.out (fun x hx hn=>by simp at hx; have:=HFB.out _ hn; omega)) ht
   have htz:=HZ.out t (List.mem_of_getElem? ht)
   have HSN:=Lib.hid (show symsF (l.take (k + 1))=symsStep (symsF (l.take k)) t by rw [take_snoc ht,symsF_snoc])
   have HPA:=Lib.hid (parse_any t (by omega) wr B (HL.out.kept HC.out (fun x hx=>by simp at hx; omega)))
   clear ht
   cases hp : parse t with
   | bad en q=>
    rw [hp] at HPA
    have HSN:=Lib.hid (show symsF (l.take (k + 1))=symsF (l.take k) by rw [HSN.out,step_bad hp])
    clear hp
    go_wp2_with fail
    refine HPA.out.mono ?_; rintro _ w1 ⟨hc1,b1,rfl,_,_⟩
    have hz:=Blk.new w1 #[str [],nils,nils,nils,nils] 29
    obtain ⟨wA,hwA⟩ : ∃ w',w1.alloc (.cells #[str [],nils,nils,nils,nils] 29)=w':=⟨_,rfl⟩
    rw [hwA] at hz
    have hcA:Chg [] w1 wA:=by rw [← hwA]; exact (Chg.refl _ _).alloc _
    obtain ⟨wF,hwF,hcF,hbF⟩:=set5 (str []) nils nils nils nils hz
    have hcw:Chg [] wr wF:=hc1.then (hcA.trans hcF (fun x hx=>.inr (by simp at hx; omega)))
    have z0:=hz.cell 0 _ rfl; have z1:=hz.cell 1 _ rfl; have z2:=hz.cell 2 _ rfl; have z3:=hz.cell 3 _ rfl; have z4:=hz.cell 4 _ rfl
    have y0:=hz.frozen 0; have y1:=hz.frozen 1; have y2:=hz.frozen 2; have y3:=hz.frozen 3; have y4:=hz.frozen 4
    have hsz:=hcw.size
    have HIF:=Lib.hid (show SeenIn wF w.heap.size (fun x=>w.heap.size < x∧x < wF.heap.size) (symsF (l.take (k + 1))) by
     rw [HSN.out]; exact (HI.out.kept hcw (by simp) (by simp)).mono fun x hx=>⟨hx.1,by have:=hx.2; omega⟩)
    have HCF:=Lib.hid (HC.out.then hcw.weak)
    clear hc1 hz hcA hcF hbF hcw
    go_wp2_with fail
    exact ⟨⟨k + 1,by go_num,by omega,HCF.out,HIF.out⟩,by simp [intOf]; omega⟩
   | ok m=>
    rw [hp] at HPA
    have HSN:=Lib.hid (show symsF (l.take (k + 1))=fun n=>if n=m.name then some (ofM m) else symsF (l.take k) n by rw [HSN.out,step_ok hp])
    have HWF:=Lib.hid (parse_sp hp).1
    clear hp
    go_wp2_with fail
    refine HPA.out.mono ?_; rintro _ w1 ⟨hc1,v,rfl,hmod⟩
    obtain ⟨aia,cia,ava,cva,apa,cpa,aba,cba,rfl,hgv,hpv⟩:=mod_parts hmod
    have hz:=Blk.new w1 #[str [],nils,nils,nils,nils] 29
    obtain ⟨wA,hwA⟩ : ∃ w',w1.alloc (.cells #[str [],nils,nils,nils,nils] 29)=w':=⟨_,rfl⟩
    rw [hwA] at hz
    have hcA:Chg [] w1 wA:=by rw [← hwA]; exact (Chg.refl _ _).alloc _
    obtain ⟨wF,hwF,hcF,hbF⟩:=set5 (str m.name) (.slice aia m.imports.length cia) (.slice ava m.vars.length cva) (.slice apa m.procs.length cpa) (.slice aba m.body.len cba) hz
    have hcG:Chg [] w1 wF:=hcA.trans hcF (fun x hx=>.inr (by simp at hx; omega))
    have hcw:Chg [] wr wF:=hc1.then hcG
    have z0:=hz.cell 0 _ rfl; have z1:=hz.cell 1 _ rfl; have z2:=hz.cell 2 _ rfl; have z3:=hz.cell 3 _ rfl; have z4:=hz.cell 4 _ rfl
    have y0:=hz.frozen 0; have y1:=hz.frozen 1; have y2:=hz.frozen 2; have y3:=hz.frozen 3; have y4:=hz.frozen 4
    have hsz:=hcw.size
    have HIF:=Lib.hid (show SeenIn wF w.heap.size (fun x=>w.heap.size < x∧x < wF.heap.size) (symsF (l.take k)) from
     (HI.out.kept hcw (by simp) (by simp)).mono fun x hx=>⟨hx.1,by have:=hx.2; omega⟩)
    have HCF:=Lib.hid (HC.out.then hcw.weak)
    have HBF:=Lib.hid hbF
    have HGV:=Lib.hid (hgv.kept hcG (by simp)); have HPV:=Lib.hid (hpv.kept hcG (by simp))
    clear hc1 hz hcA hcF hbF hcw hcG hmod hgv hpv
    go_wp2_with fail
    clear hwA hwF z0 z1 z2 z3 z4 y0 y1 y2 y3 y4 d0
    obtain ⟨wD,hwD⟩ : ∃ x,x=wF.drew:=⟨_,rfl⟩
    have hcD:Chg [] wF wD:=by rw [hwD]; exact (Chg.refl [] wF).drew
    have HBD:=Lib.hid (HBF.out.kept hcD (by simp))
    have m0:=HBD.out.cell 0 _ rfl; have m1:=HBD.out.cell 1 _ rfl; have m2:=HBD.out.cell 2 _ rfl; have m3:=HBD.out.cell 3 _ rfl; have m4:=HBD.out.cell 4 _ rfl
    have Z:=Lib.hid (Zone.of (X:=[]) (w0:=wD) m0 (by simp))
    have HOF:=Lib.hid (of_any m.vars m.procs HWF.out.fewv HWF.out.fewp (New wr w1) m.name aia m.imports.length cia aba m.body.len cba _ _ wD (HGV.out.kept hcD (by simp)) (HPV.out.kept hcD (by simp)))
    have HCD:=Lib.hid hcD
    clear hcD
    refine wp_region_T [] rfl (by kernel_rfl) rfl ?_
    rw [← hwD]
    clear hwD
    have hS:Chg [] wD wD:=Chg.refl _ _
    repeat ((with_reducible refine gX ?_); (first | refine wpX_nil ?_ | refine sK ?_ | refine sM fun _ _=>?_ | refine sL fun _ _=>?_ | refine sE fun _ _=>?_); go_wp2_with fail)
    refine HOF.out.mono ?_; rintro _ w2 ⟨sv,rfl,hsy,hc2⟩
    have hS:Chg [] wD w2:=hc2
    have hcx:=HCD.out.then hc2
    have hs2:=hcx.size
    have hcs:=HCF.out.size
    have hs0:=HS0.out
    have hsd:=HCD.out.size
    obtain ⟨w3,hrun,hin3,hc3⟩:=seen_put (G:=fun x=>w.heap.size < x∧x < w2.heap.size) ((HIF.out.kept hcx (by simp) (by simp)).mono fun x hx=>⟨hx.1,by have:=hx.2; omega⟩) (fun h=>by have:=h.1; omega) m.name (ofM m) sv (by have:=seenL_len HWF.out.fewv HWF.out.fewp; show (insSort (seenL m.vars m.procs)).length≤1000; omega) (hsy.mono fun x hx=>⟨by have:=hx.1; omega,hx.2⟩)
    have hs3 : w2.heap.size≤w3.heap.size:=hc3.size
    have HI3:=Lib.hid (show SeenIn w3 w.heap.size (fun x=>w.heap.size < x∧x < w3.heap.size) (symsF (l.take (k + 1))) by
     rw [HSN.out]; exact hin3.mono fun x hx=>⟨hx.1,by have:=hx.2; omega⟩)
    have HC3:=Lib.hid (show Chg [w.heap.size] w0 w3 from (HCF.out.then hcx.weak).then hc3)
    clear hsy hc2 hcx hin3 hc3
    go_wp2_with fail
    refine And.intro hS ?_
    repeat ((with_reducible refine gX ?_); (first | refine wpX_nil ?_ | refine sK ?_ | refine sM fun _ _=>?_ | refine sL fun _ _=>?_ | refine sE fun _ _=>?_); go_wp2_with fail)
    refine stepX_ef rfl rfl (fun _ _=>?_)
    change Oper.wp _ (Oper.mk ..) ..
    go_wp2_with fail
    exact ⟨⟨k + 1,by go_num,by omega,HC3.out,HI3.out⟩,by simp [intOf]; omega⟩
  ·have HR:=Lib.hid (show symsF (l.take k)=symsF l by rw [List.take_of_length_le (by omega)])
   go_wp2_with fail
   go_ret
   exact ⟨rfl,by rw [← HR.out]; exact HI.out,HC0.out.trans HC.out (fun x hx=>.inr (by simp at hx; omega))⟩
end Go.Proofs.YtilhhkokdfajiaaGreatDoor
