/- Some texts in one. -/
import Derived.Lib.ItoaLen
import Derived.Test.YtojkkgghndeimaaGreatDoorR19
import Derived.Test.YtojkkgghndeimaaGreatDoorR21
namespace Go.Mq.Tree
open Go Go.RowKit Go.Mq
theorem set4 {w:World} {b:Nat} (v0 v1 v2 v3:Value) {u0 u1 u2 u3:Value} {t:TypeId} (h:Blk w b #[u0,u1,u2,u3] t) : ∃ wF,((((w.setCell ⟨b,0,none⟩ v0).setCell ⟨b,1,none⟩ v1).setCell ⟨b,2,none⟩ v2).setCell ⟨b,3,none⟩ v3)=wF∧Chg [b] w wF∧Blk wF b #[v0,v1,v2,v3] t:=
 ⟨_,rfl,(((Chg.set1 _ _ _ _).then (Chg.set1 _ _ _ _)).then (Chg.set1 _ _ _ _)).then (Chg.set1 _ _ _ _),by
  have:=(((h.set 0 v0).set 1 v1).set 2 v2).set 3 v3
  simpa using this⟩
theorem set6P {w:World} {b:Nat} (v0 v1 v2 v3 v4 v5:Value) {u0 u1 u2 u3 u4 u5:Value} {t:TypeId} (h:Blk w b #[u0,u1,u2,u3,u4,u5] t) : ∃ wF,((((((w.setCell ⟨b,0,none⟩ v0).setCell ⟨b,1,none⟩ v1).setCell ⟨b,2,none⟩ v2).setCell ⟨b,3,none⟩ v3).setCell ⟨b,4,none⟩ v4).setCell ⟨b,5,none⟩ v5)=wF∧Chg [b] w wF∧Blk wF b #[v0,v1,v2,v3,v4,v5] t:=
 ⟨_,rfl,(((((Chg.set1 _ _ _ _).then (Chg.set1 _ _ _ _)).then (Chg.set1 _ _ _ _)).then (Chg.set1 _ _ _ _)).then (Chg.set1 _ _ _ _)).then (Chg.set1 _ _ _ _),by
  have:=(((((h.set 0 v0).set 1 v1).set 2 v2).set 3 v3).set 4 v4).set 5 v5
  simpa using this⟩
theorem cells4 {w:World} {F:Nat→Prop} {a:Option Addr} {cs1 cs':List Value} {c0 c1 c2 c3:Value} {k:Nat} (h:Row w F a (cs1 ++ c0 :: c1 :: c2 :: c3 :: cs')) (hl : cs1.length=k * 4) :
  ∃ bb off,a=some ⟨bb,off,none⟩∧w.cell? ⟨bb,off + k * 4,none⟩=some c0∧w.cell? ⟨bb,off + k * 4 + 1,none⟩=some c1∧w.cell? ⟨bb,off + k * 4 + 2,none⟩=some c2∧w.cell? ⟨bb,off + k * 4 + 3,none⟩=some c3:=by
 obtain ⟨bb,off,rfl,hc⟩:=h.at_ (by simp only [List.length_append,List.length_cons]; omega)
 have g : ∀ i v,(c0 :: c1 :: c2 :: c3 :: cs')[i]?=some v→w.cell? ⟨bb,off + k * 4 + i,none⟩=some v:=fun i v hv=>by
  rw [Nat.add_assoc]
  refine hc (k * 4 + i) v ?_
  rw [← hl,List.getElem?_append_right (by omega),Nat.add_sub_cancel_left]
  exact hv
 exact ⟨bb,off,rfl,by simpa using g 0 _ rfl,g 1 _ rfl,g 2 _ rfl,g 3 _ rfl⟩
theorem cells6 {w:World} {F:Nat→Prop} {a:Option Addr} {cs1 cs':List Value} {c0 c1 c2 c3 c4 c5:Value} {k:Nat} (h:Row w F a (cs1 ++ c0 :: c1 :: c2 :: c3 :: c4 :: c5 :: cs')) (hl : cs1.length=k * 6) :
  ∃ bb off,a=some ⟨bb,off,none⟩∧w.cell? ⟨bb,off + k * 6,none⟩=some c0∧w.cell? ⟨bb,off + k * 6 + 1,none⟩=some c1∧w.cell? ⟨bb,off + k * 6 + 2,none⟩=some c2∧w.cell? ⟨bb,off + k * 6 + 3,none⟩=some c3∧w.cell? ⟨bb,off + k * 6 + 4,none⟩=some c4∧w.cell? ⟨bb,off + k * 6 + 5,none⟩=some c5:=by
 obtain ⟨bb,off,rfl,hc⟩:=h.at_ (by simp only [List.length_append,List.length_cons]; omega)
 have g : ∀ i v,(c0 :: c1 :: c2 :: c3 :: c4 :: c5 :: cs')[i]?=some v→w.cell? ⟨bb,off + k * 6 + i,none⟩=some v:=fun i v hv=>by
  rw [Nat.add_assoc]
  refine hc (k * 6 + i) v ?_
  rw [← hl,List.getElem?_append_right (by omega),Nat.add_sub_cancel_left]
  exact hv
 exact ⟨bb,off,rfl,by simpa using g 0 _ rfl,g 1 _ rfl,g 2 _ rfl,g 3 _ rfl,g 4 _ rfl,g 5 _ rfl⟩
def tail2 (b:S):List UInt8:=[98,101,103,105,110,10] ++ (stmtsT b [32,32] ++ [101,110,100,46,10])
def tail1 (ps:List Proc) (b:S):List UInt8:=ps.flatMap procT ++ tail2 b
def tail0 (vs:List Glob) (ps:List Proc) (b:S):List UInt8:=vs.flatMap globT ++ tail1 ps b
theorem modT_eq (m:Mod) : modT m=[109,111,100,117,108,101,32] ++ m.name ++ [59,10] ++ ((if m.imports=[] then [] else [105,109,112,111,114,116,32] ++ Lib.join m.imports [44,32] ++ [59,10]) ++ tail0 m.vars m.procs m.body):=by
 simp only [modT,tail0,tail1,tail2,List.append_assoc]
theorem names_len {l:List (List UInt8)} (h : l.length≤10) : l.length≤1099511627777:=by omega
theorem chg_past {w w0 wz:World} (h:Chg [] w w0) (k:Below (w.heap.size + 1) w0 wz):Chg [] w wz:=⟨k.os.trans h.os,k.tape.trans h.tape,k.output.trans h.output,Nat.le_trans h.size k.size,fun i hi _=>(k.block i (by omega)).trans (h.block i hi (by simp))⟩
end Go.Mq.Tree
namespace Go.Proofs.YtojkkgghndeimaaGreatDoor
open Go Go.RowKit Go.Mq Go.Mq.Tree
set_option maxRecDepth 100000
set_option maxHeartbeats 8000000
theorem print_any (m:Mod) (hm:WFM m) (F:Nat→Prop) (v:Value) (w:World) (B:Nat) (hL:Laid w B) (hF : ∀ x,F x→x < w.heap.size) (h:ModAt w F m v) (hlen : (modT m).length≤1099511627776) :
  Calls Tryz.prog 16 #[v] w (fun e w'=>e = .returned (str (modT m))∧Chg [] w w'):=by
 rw [modT_eq] at hlen ⊢
 obtain ⟨nm,is,vs,ps,bdy⟩:=m
 obtain ⟨vi,vv,vp,vb,rfl,hni,hgv,hpv,hsb⟩:=h
 dsimp only at hni hgv hpv hsb hlen ⊢
 have HM:=Lib.hid hm
 have hnl : nm.length≤10:=hm.name.2.2
 have hB0:=hL.le
 have hB1:B≤w.heap.size + 1:=by omega
 have hF1 : ∀ x,F x→x < w.heap.size + 1:=fun x hx=>by have:=hF x hx; omega
 obtain ⟨ai,ci,hvi,hni1,hni2⟩:=hni
 obtain ⟨av,cv,hvv,hgv1,hgv2⟩:=hgv
 obtain ⟨ap,cp,pcs,hvp,hpv1,hpv2,hpv3⟩:=hpv
 obtain ⟨ab,cb,bcs,hvb,hsb1,hsb2,hsb3⟩:=hsb
 subst hvi hvv hvp hvb
 obtain ⟨wX,hwX⟩ : ∃ wX,w.alloc (.cells #[str nm,.slice ai is.length ci,.slice av vs.length cv,.slice ap ps.length cp,.slice ab bdy.len cb] 31)=wX:=⟨_,rfl⟩
 have hbX:=Blk.new w #[str nm,.slice ai is.length ci,.slice av vs.length cv,.slice ap ps.length cp,.slice ab bdy.len cb] 31
 have hcX:Chg [] w wX:=by rw [← hwX]; exact (Chg.refl _ _).alloc _
 have hsX : wX.heap.size=w.heap.size + 1:=by rw [← hwX]; simp
 rw [hwX] at hbX
 obtain ⟨w0,hw0⟩ : ∃ w0,wX.alloc (.cells #[.pointer none,nils] 127)=w0:=⟨_,rfl⟩
 have hbd:Bd (w.heap.size + 1) (w.heap.size + 1) [] w0:=by
  have:=Lib.IsBuilderF.of (Lib.fresh_isBuilder 127 5 wX)
  rw [hsX] at this
  rw [← hw0]
  exact this
 have hc0:Chg [] wX w0:=by rw [← hw0]; exact (Chg.refl _ _).alloc _
 have hcw:=hcX.then hc0
 have hs0 : w0.heap.size=w.heap.size + 2:=by rw [← hw0]; simp [hsX]
 have HW0:=Lib.hid (Wr.refl hbd)
 have HX0:=Lib.hid (hbX.kept hc0 (by simp))
 have hNE : w.heap.size≠w.heap.size + 1:=by omega
 have HNI:=Lib.hid (show NamesAt w0 F is (.slice ai is.length ci) from NamesAt.kept hcw (by simp) ⟨ai,ci,rfl,hni1,hni2⟩)
 have HGV:=Lib.hid (hgv2.kept hcw (by simp)); have HPV:=Lib.hid (hpv2.kept hcw (by simp)); have HPS:=Lib.hid (hpv3.kept hcw (by simp))
 have HSB:=Lib.hid (show SlAt w0 F bdy (.slice ab bdy.len cb) from SlAt.kept hcw (by simp) ⟨ab,cb,bcs,rfl,hsb1,hsb2,hsb3⟩)
 have HL:=Lib.hid (hL.kept hcw (by simp)); have HFB:=Lib.hid hF1; have HCW:=Lib.hid hcw
 have hvn : vs.length≤10:=hm.fewv
 have hpn : ps.length≤10:=hm.fewp
 obtain ⟨T,hT⟩ : ∃ T:List UInt8,T=[109,111,100,117,108,101,32] ++ nm ++ [59,10] ++ ((if is=[] then [] else [105,109,112,111,114,116,32] ++ Lib.join is [44,32] ++ [59,10]) ++ tail0 vs ps bdy):=⟨_,rfl⟩
 rw [← hT] at hlen ⊢
 have HT:=Lib.hid hT
 have HTL:=Lib.hid hlen
 clear hL hF hF1 hni1 hni2 hgv1 hgv2 hpv1 hpv2 hpv3 hsb1 hsb2 hsb3 hcX hbX hc0 hbd hm hcw hT hlen
 by_cases his : is=[]
 ·have hln:=congrArg List.length HT.out
  have hTL:=HTL.out
  simp only [if_pos his,List.length_append,List.length_cons,List.length_nil] at hln
  have HLM:=Lib.hid (show _∧T.length≤1099511627776 from ⟨hln,hTL⟩)
  have hil : ¬ 0 < is.length:=by rw [his]; simp
  have HIS:=Lib.hid his
  clear his hln hTL
  have HX_0:=HX0.out.cell 0 _ rfl; have HX_1:=HX0.out.cell 1 _ rfl; have HX_2:=HX0.out.cell 2 _ rfl; have HX_3:=HX0.out.cell 3 _ rfl; have HX_4:=HX0.out.cell 4 _ rfl
  go_enter Tryz.func16,Tryz.ntmps16
  go_wp2_with fail
  clear hwX hw0
  refine (write_any _ ([109,111,100,117,108,101,32] ++ nm ++ [59,10]) (by rw [bs_append,bs_append] <;> rfl) HW0.out.bd (by have:=HW0.out.size; omega) (by have:=HLM.out; simp only [List.length_append,List.length_cons,List.length_nil]; omega)).mono ?_; rintro _ w1 ⟨rfl,hq⟩
  have HW1:=Lib.hid (HW0.out.trans hq)
  have HX1:=Lib.hid (hq.blk HX0.out (by decide) hNE)
  clear hq
  clear HX_0 HX_1 HX_2 HX_3 HX_4
  have HX_0:=HX1.out.cell 0 _ rfl; have HX_1:=HX1.out.cell 1 _ rfl; have HX_2:=HX1.out.cell 2 _ rfl; have HX_3:=HX1.out.cell 3 _ rfl; have HX_4:=HX1.out.cell 4 _ rfl
  go_wp2_with fail
  have HTX0:=Lib.hid (show ([] ++ ([109,111,100,117,108,101,32] ++ nm ++ [59,10])) ++ (vs.flatMap globT ++ tail1 ps bdy)=T by rw [HT.out,if_pos HIS.out]; simp [tail0] <;> rfl)
  go_loopw [5,6,27] (fun _ _ i wr=>∃ (k:Nat) (rest:List Glob) (l1:List UInt8) (cs1:List Value),i = .int .i64 k∧k + rest.length=vs.length∧vs.flatMap Glob.cells=cs1 ++ rest.flatMap Glob.cells∧cs1.length=k * 4∧Wr (w.heap.size + 1) (w.heap.size + 1) l1 w0 wr∧l1 ++ (rest.flatMap globT ++ tail1 ps bdy)=T ∧ ∀ g∈rest,WFG g) (fun _ _ i _=>vs.length - (intOf i).toNat)
  case atStart=>exact ⟨0,vs,_,[],rfl,by simp,rfl,rfl,HW1.out,HTX0.out,HM.out.vars⟩
  case round=>
   obtain ⟨k,rest,l1,cs1,rfl,hk,hcse,hl1,hwr,htx,hal⟩:=hrel
   have hln:=congrArg List.length htx
   have hTL:=HTL.out
   cases rest with
   | nil=>
    have hke : ¬ k < vs.length:=by simp at hk; omega
    have HTX1:=Lib.hid (show l1 ++ (ps.flatMap procT ++ tail2 bdy)=T by simpa [tail1] using htx)
    have HWg0:=Lib.hid hwr
    have HXg0:=Lib.hid (hwr.blk HX0.out (by decide) hNE)
    clear hln hTL hcse hwr hal htx
    have Xg0:=HXg0.out.cell 0 _ rfl; have Xg1:=HXg0.out.cell 1 _ rfl; have Xg2:=HXg0.out.cell 2 _ rfl; have Xg3:=HXg0.out.cell 3 _ rfl; have Xg4:=HXg0.out.cell 4 _ rfl
    go_wp2_with fail
    go_loopw [8,54] (fun _ i wr=>∃ (k:Nat) (rest:List Proc) (l1:List UInt8) (cs1 cs2:List Value),i = .int .i64 k∧k + rest.length=ps.length∧pcs=cs1 ++ cs2∧cs1.length=k * 6∧PrsAt w0 F rest cs2∧Wr (w.heap.size + 1) (w.heap.size + 1) l1 w0 wr∧l1 ++ (rest.flatMap procT ++ tail2 bdy)=T ∧ ∀ x∈rest,WFP x) (fun _ i _=>ps.length - (intOf i).toNat)
    case atStart=>exact ⟨0,ps,_,[],pcs,rfl,by simp,rfl,rfl,HPS.out,HWg0.out,HTX1.out,HM.out.procs⟩
    case round=>
     obtain ⟨k,rest,l1,cs1,cs2,rfl,hk,hcse,hl1,hat,hwr,htx,hal⟩:=hrel
     have HTX:=Lib.hid htx
     have hln:=congrArg List.length htx
     have hTL:=HTL.out
     clear htx
     cases rest with
     | nil=>
      have hke : ¬ k < ps.length:=by simp at hk; omega
      simp only [List.flatMap_nil,List.nil_append,tail2,List.length_append,List.length_cons,List.length_nil] at hln
      have HLM:=Lib.hid (show _∧T.length≤1099511627776 from ⟨hln,hTL⟩)
      have HWe0:=Lib.hid hwr
      have HXe0:=Lib.hid (hwr.blk HX0.out (by decide) hNE)
      clear hln hTL hat hcse hwr hal
      have HX_0:=HXe0.out.cell 0 _ rfl; have HX_1:=HXe0.out.cell 1 _ rfl; have HX_2:=HXe0.out.cell 2 _ rfl; have HX_3:=HXe0.out.cell 3 _ rfl; have HX_4:=HXe0.out.cell 4 _ rfl
      go_wp2_with fail
      refine (write_any _ ([98,101,103,105,110,10]) (rfl) HWe0.out.bd (by have:=HWe0.out.size; omega) (by have:=HLM.out; simp only [List.length_append,List.length_cons,List.length_nil]; omega)).mono ?_; rintro _ we1 ⟨rfl,hq⟩
      have HWe1:=Lib.hid (HWe0.out.trans hq)
      have HXe1:=Lib.hid (hq.blk HXe0.out (by decide) hNE)
      clear hq
      clear HX_0 HX_1 HX_2 HX_3 HX_4
      have HX_0:=HXe1.out.cell 0 _ rfl; have HX_1:=HXe1.out.cell 1 _ rfl; have HX_2:=HXe1.out.cell 2 _ rfl; have HX_3:=HXe1.out.cell 3 _ rfl; have HX_4:=HXe1.out.cell 4 _ rfl
      go_wp2_with fail
      refine ((stmts_all bdy 10 HM.out.body).1 F _ we1 B (w.heap.size + 1) (w.heap.size + 1) _ ([32,32]) (HWe1.out.laid HL.out hB1) hB1 (by have:=HWe1.out.size; omega) HFB.out (HWe1.out.sl HFB.out HSB.out) HWe1.out.bd (by have:=HLM.out; simp only [List.length_append,List.length_cons,List.length_nil]; omega)).mono ?_; rintro _ we2 ⟨rfl,hq⟩
      have HWe2:=Lib.hid (HWe1.out.trans hq)
      have HXe2:=Lib.hid (hq.blk HXe1.out (by decide) hNE)
      clear hq
      clear HX_0 HX_1 HX_2 HX_3 HX_4
      have HX_0:=HXe2.out.cell 0 _ rfl; have HX_1:=HXe2.out.cell 1 _ rfl; have HX_2:=HXe2.out.cell 2 _ rfl; have HX_3:=HXe2.out.cell 3 _ rfl; have HX_4:=HXe2.out.cell 4 _ rfl
      go_wp2_with fail
      refine (write_any _ ([101,110,100,46,10]) (rfl) HWe2.out.bd (by have:=HWe2.out.size; omega) (by have:=HLM.out; simp only [List.length_append,List.length_cons,List.length_nil]; omega)).mono ?_; rintro _ we3 ⟨rfl,hq⟩
      have HWe3:=Lib.hid (HWe2.out.trans hq)
      have HXe3:=Lib.hid (hq.blk HXe2.out (by decide) hNE)
      clear hq
      clear HX_0 HX_1 HX_2 HX_3 HX_4
      have HX_0:=HXe3.out.cell 0 _ rfl; have HX_1:=HXe3.out.cell 1 _ rfl; have HX_2:=HXe3.out.cell 2 _ rfl; have HX_3:=HXe3.out.cell 3 _ rfl; have HX_4:=HXe3.out.cell 4 _ rfl
      go_wp2_with fail
      refine (Any.Builder_String_k { Tryz.lays156 with } extra (w.heap.size + 1) (w.heap.size + 1) _ we3 HWe3.out.bd (by simp)).mono ?_; rintro _ wz ⟨rfl,_,hbz,_⟩
      have HZZ:=Lib.hid (chg_past HCW.out (HWe3.out.below.trans hbz))
      clear hbz
      go_wp2_with fail
      go_ret
      refine ⟨congrArg (fun t=>Ending.returned (str t)) ?_,?_⟩
      ·rw [← HTX.out]; simp [tail2]
      ·exact HZZ.out
     | cons x r=>
      obtain ⟨xn,xp,xse,xps,xvs,xb⟩:=x
      obtain ⟨c1,cs',rfl,⟨vp,vv,vb,rfl,⟨a1,k1,rfl,hp1,hp2⟩,⟨a2,k2,rfl,hq1,hq2⟩,⟨a3,k3,bcs3,rfl,hb1,hb2,hb3⟩⟩,hr⟩:=hat
      dsimp only at hp1 hp2 hq1 hq2 hb1 hb2 hb3 hcse
      have hx:=hal _ (List.mem_cons_self ..)
      have hal' : ∀ y∈r,WFP y:=fun y hy=>hal y (List.mem_cons_of_mem _ hy)
      have hlt : k < ps.length:=by simp at hk; omega
      have hxnl : xn.length≤10:=hx.name.2.2
      have hstl : (star xse).length≤1:=by cases xse <;> decide
      have hfew : xps.length≤10:=hx.few
      have hfew2 : xvs.length≤10:=by have:=hx.room; dsimp only at this; omega
      have HBO:=Lib.hid hx.body
      have HNP:=Lib.hid (show NamesAt w0 F xps (.slice a1 xps.length k1) from ⟨a1,k1,rfl,hp1,hp2⟩)
      have HNV:=Lib.hid (show NamesAt w0 F xvs (.slice a2 xvs.length k2) from ⟨a2,k2,rfl,hq1,hq2⟩)
      have HBB:=Lib.hid (show SlAt w0 F xb (.slice a3 xb.len k3) from ⟨a3,k3,bcs3,rfl,hb1,hb2,hb3⟩)
      have HAL:=Lib.hid hal'
      have HR:=Lib.hid hr
      clear hp1 hp2 hq1 hq2 hb1 hb2 hb3 hx hal hal' hr
      by_cases hvs : xvs=[]
      ·simp only [List.flatMap_cons,procT,if_pos hvs,List.length_append,List.length_cons,List.length_nil] at hln
       have HLM:=Lib.hid (show _∧T.length≤1099511627776 from ⟨hln,hTL⟩)
       have hvl : ¬ 0 < xvs.length:=by rw [hvs]; simp
       obtain ⟨tj,htj⟩ : ∃ t:ByteArray,t=bs (Lib.join xps [44,32]):=⟨_,rfl⟩
       have hzj : tj.size≤1099511627776:=by rw [htj,bs_size]; omega
       have HTJ:=Lib.hid htj
       clear htj
       have HVS:=Lib.hid hvs
       clear hvs hln hTL
       have hrw:=hwr.row HFB.out HPV.out
       rw [hcse] at hrw
       obtain ⟨bb,off,rfl,d0,d1,d2,d3,d4,d5⟩:=cells6 hrw hl1
       have hz:=Blk.new wr #[str [],.int .i64 0,.bool false,nils,nils,nils] 87
       obtain ⟨wA,hwA⟩ : ∃ wA,wr.alloc (.cells #[str [],.int .i64 0,.bool false,nils,nils,nils] 87)=wA:=⟨_,rfl⟩
       rw [hwA] at hz
       have hcA:Chg [] wr wA:=by rw [← hwA]; exact (Chg.refl _ _).alloc _
       obtain ⟨wF,hwF,hcF,hbF⟩:=set6P (str xn) (.int .i64 xp) (.bool xse) (.slice a1 xps.length k1) (.slice a2 xvs.length k2) (.slice a3 xb.len k3) hz
       have hcw:Chg [] wr wF:=hcA.trans hcF (fun x hx=>.inr (by simp at hx; omega))
       have g0:=hcA.cellSome d0 (by simp); have g1:=hcA.cellSome d1 (by simp); have g2:=hcA.cellSome d2 (by simp); have g3:=hcA.cellSome d3 (by simp); have g4:=hcA.cellSome d4 (by simp); have g5:=hcA.cellSome d5 (by simp)
       have z0:=hz.cell 0 _ rfl; have z1:=hz.cell 1 _ rfl; have z2:=hz.cell 2 _ rfl; have z3:=hz.cell 3 _ rfl; have z4:=hz.cell 4 _ rfl; have z5:=hz.cell 5 _ rfl
       have y0:=hz.frozen 0; have y1:=hz.frozen 1; have y2:=hz.frozen 2; have y3:=hz.frozen 3; have y4:=hz.frozen 4; have y5:=hz.frozen 5
       have hsw:=hwr.size
       have HWc0:=Lib.hid (hwr.chg (by omega) hcw)
       have HXc0:=Lib.hid ((hwr.blk HX0.out (by decide) hNE).kept hcw (by simp))
       have HGc0:=Lib.hid hbF
       have hnbc : wr.heap.size≠w.heap.size + 1:=by have:=hwr.bd.lt; omega
       have HCSE:=Lib.hid hcse
       clear hrw hcA hcF hbF hcw hwr hz hcse
       have HX_0:=HXc0.out.cell 0 _ rfl; have HX_1:=HXc0.out.cell 1 _ rfl; have HX_2:=HXc0.out.cell 2 _ rfl; have HX_3:=HXc0.out.cell 3 _ rfl; have HX_4:=HXc0.out.cell 4 _ rfl
       have HG_0:=HGc0.out.cell 0 _ rfl; have HG_1:=HGc0.out.cell 1 _ rfl; have HG_2:=HGc0.out.cell 2 _ rfl; have HG_3:=HGc0.out.cell 3 _ rfl; have HG_4:=HGc0.out.cell 4 _ rfl; have HG_5:=HGc0.out.cell 5 _ rfl
       have HJ:=Lib.hid (show ∀ w',Chg [] wF w'→Said 65 #[.slice a1 xps.length k1,.string ⟨#[44,32]⟩] w' tj from fun w' hc=>by
        have h1:=HWc0.out.chg (by have:=HWc0.out.size; omega) hc
        rw [HTJ.out]
        exact join_any xps [44,32] w' F _ (h1.names HFB.out HNP.out) (by have:=HLM.out; omega) (names_len hfew))
       go_wp2_with fail
       clear hwA hwF d0 d1 d2 d3 d4 d5 g0 g1 g2 g3 g4 g5 z0 z1 z2 z3 z4 z5 y0 y1 y2 y3 y4 y5
       refine wp_region_T [] rfl (by kernel_rfl) rfl ?_
       have hS:Chg [] wF.drew wF.drew:=Chg.refl _ _
       have HZ:=Lib.hid (Zone.of (X:=[]) (w0:=wF.drew) (off:=0) (b:=wr.heap.size) HG_0 (by simp))
       have HLT:=Lib.hid (show wr.heap.size < wF.drew.heap.size from HGc0.out.lt)
       have HDR:=Lib.hid ((Chg.refl [] wF).drew)
       repeat ((with_reducible refine gX ?_); (first | refine wpX_nil ?_ | refine sK ?_ | refine sM fun _ _=>?_ | refine sL fun _ _=>?_ | refine sE fun _ _=>?_); go_wp2_with fail)
       refine (star_any _ _).mono ?_; rintro _ _ ⟨rfl,rfl⟩
       go_wp2_with fail
       refine And.intro (by assumption:Chg _ _ _) ?_
       repeat ((with_reducible refine gX ?_); (first | refine wpX_nil ?_ | refine sK ?_ | refine sM fun _ _=>?_ | refine sL fun _ _=>?_ | refine sE fun _ _=>?_); go_wp2_with fail)
       refine (HJ.out _ (HDR.out.then hS)).mono ?_; rintro _ wj ⟨rfl,hw⟩; have hS:=hS.then hw; clear hw
       go_wp2_with fail
       refine And.intro (by assumption:Chg _ _ _) ?_
       repeat ((with_reducible refine gX ?_); (first | refine wpX_nil ?_ | refine sK ?_ | refine sM fun _ _=>?_ | refine sL fun _ _=>?_ | refine sE fun _ _=>?_); go_wp2_with fail)
       refine stepX_ef rfl rfl (fun _ _=>?_)
       change Oper.wp _ (Oper.mk _ _ _ _ _ _) _ _ _ _
       go_wp2_with fail
       have hq:=HDR.out.then (by assumption:Chg [] wF.drew _)
       have HWc1:=Lib.hid (HWc0.out.chg (by have:=HWc0.out.size; omega) hq)
       have HXc1:=Lib.hid (HXc0.out.kept hq (by simp))
       have HGc1:=Lib.hid (HGc0.out.kept hq (by simp))
       clear hq hS
       clear HX_0 HX_1 HX_2 HX_3 HX_4
       clear HG_0 HG_1 HG_2 HG_3 HG_4 HG_5
       refine (write_any _ ([112,114,111,99,32] ++ xn ++ star xse ++ [40] ++ Lib.join xps [44,32] ++ [41,59,10]) (by rw [bs_append,bs_append,bs_append,bs_append,bs_append,← HTJ.out] <;> rfl) HWc1.out.bd (by have:=HWc1.out.size; omega) (by have:=HLM.out; simp only [List.length_append,List.length_cons,List.length_nil]; omega)).mono ?_; rintro _ wc2 ⟨rfl,hq⟩
       have HWc2:=Lib.hid (HWc1.out.trans hq)
       have HXc2:=Lib.hid (hq.blk HXc1.out (by decide) hNE)
       have HGc2:=Lib.hid (hq.blk HGc1.out (by decide) hnbc)
       clear hq
       have HX_0:=HXc2.out.cell 0 _ rfl; have HX_1:=HXc2.out.cell 1 _ rfl; have HX_2:=HXc2.out.cell 2 _ rfl; have HX_3:=HXc2.out.cell 3 _ rfl; have HX_4:=HXc2.out.cell 4 _ rfl
       have HG_0:=HGc2.out.cell 0 _ rfl; have HG_1:=HGc2.out.cell 1 _ rfl; have HG_2:=HGc2.out.cell 2 _ rfl; have HG_3:=HGc2.out.cell 3 _ rfl; have HG_4:=HGc2.out.cell 4 _ rfl; have HG_5:=HGc2.out.cell 5 _ rfl
       go_wp2_with fail
       refine (write_any _ ([98,101,103,105,110,10]) (rfl) HWc2.out.bd (by have:=HWc2.out.size; omega) (by have:=HLM.out; simp only [List.length_append,List.length_cons,List.length_nil]; omega)).mono ?_; rintro _ wc3 ⟨rfl,hq⟩
       have HWc3:=Lib.hid (HWc2.out.trans hq)
       have HXc3:=Lib.hid (hq.blk HXc2.out (by decide) hNE)
       have HGc3:=Lib.hid (hq.blk HGc2.out (by decide) hnbc)
       clear hq
       clear HX_0 HX_1 HX_2 HX_3 HX_4
       clear HG_0 HG_1 HG_2 HG_3 HG_4 HG_5
       have HX_0:=HXc3.out.cell 0 _ rfl; have HX_1:=HXc3.out.cell 1 _ rfl; have HX_2:=HXc3.out.cell 2 _ rfl; have HX_3:=HXc3.out.cell 3 _ rfl; have HX_4:=HXc3.out.cell 4 _ rfl
       have HG_0:=HGc3.out.cell 0 _ rfl; have HG_1:=HGc3.out.cell 1 _ rfl; have HG_2:=HGc3.out.cell 2 _ rfl; have HG_3:=HGc3.out.cell 3 _ rfl; have HG_4:=HGc3.out.cell 4 _ rfl; have HG_5:=HGc3.out.cell 5 _ rfl
       go_wp2_with fail
       refine ((stmts_all xb 10 HBO.out).1 F _ wc3 B (w.heap.size + 1) (w.heap.size + 1) _ ([32,32]) (HWc3.out.laid HL.out hB1) hB1 (by have:=HWc3.out.size; omega) HFB.out (HWc3.out.sl HFB.out HBB.out) HWc3.out.bd (by have:=HLM.out; simp only [List.length_append,List.length_cons,List.length_nil]; omega)).mono ?_; rintro _ wc4 ⟨rfl,hq⟩
       have HWc4:=Lib.hid (HWc3.out.trans hq)
       have HXc4:=Lib.hid (hq.blk HXc3.out (by decide) hNE)
       have HGc4:=Lib.hid (hq.blk HGc3.out (by decide) hnbc)
       clear hq
       clear HX_0 HX_1 HX_2 HX_3 HX_4
       clear HG_0 HG_1 HG_2 HG_3 HG_4 HG_5
       have HX_0:=HXc4.out.cell 0 _ rfl; have HX_1:=HXc4.out.cell 1 _ rfl; have HX_2:=HXc4.out.cell 2 _ rfl; have HX_3:=HXc4.out.cell 3 _ rfl; have HX_4:=HXc4.out.cell 4 _ rfl
       have HG_0:=HGc4.out.cell 0 _ rfl; have HG_1:=HGc4.out.cell 1 _ rfl; have HG_2:=HGc4.out.cell 2 _ rfl; have HG_3:=HGc4.out.cell 3 _ rfl; have HG_4:=HGc4.out.cell 4 _ rfl; have HG_5:=HGc4.out.cell 5 _ rfl
       go_wp2_with fail
       refine (write_any _ ([101,110,100,59,10]) (rfl) HWc4.out.bd (by have:=HWc4.out.size; omega) (by have:=HLM.out; simp only [List.length_append,List.length_cons,List.length_nil]; omega)).mono ?_; rintro _ wc5 ⟨rfl,hq⟩
       have HWc5:=Lib.hid (HWc4.out.trans hq)
       have HXc5:=Lib.hid (hq.blk HXc4.out (by decide) hNE)
       have HGc5:=Lib.hid (hq.blk HGc4.out (by decide) hnbc)
       clear hq
       clear HX_0 HX_1 HX_2 HX_3 HX_4
       clear HG_0 HG_1 HG_2 HG_3 HG_4 HG_5
       have HX_0:=HXc5.out.cell 0 _ rfl; have HX_1:=HXc5.out.cell 1 _ rfl; have HX_2:=HXc5.out.cell 2 _ rfl; have HX_3:=HXc5.out.cell 3 _ rfl; have HX_4:=HXc5.out.cell 4 _ rfl
       have HG_0:=HGc5.out.cell 0 _ rfl; have HG_1:=HGc5.out.cell 1 _ rfl; have HG_2:=HGc5.out.cell 2 _ rfl; have HG_3:=HGc5.out.cell 3 _ rfl; have HG_4:=HGc5.out.cell 4 _ rfl; have HG_5:=HGc5.out.cell 5 _ rfl
       go_wp2_with fail
       refine ⟨⟨k + 1,r,_,cs1 ++ [str xn,.int .i64 xp,.bool xse,.slice a1 xps.length k1,.slice a2 xvs.length k2,.slice a3 xb.len k3],cs',by go_num,by simp at hk; omega,by rw [HCSE.out]; simp,by simp [hl1]; omega,HR.out,HWc5.out,?_,HAL.out⟩,by simp [intOf]; omega⟩
       rw [← HTX.out]
       simp [procT,HVS.out]
      ·simp only [List.flatMap_cons,procT,if_neg hvs,List.length_append,List.length_cons,List.length_nil] at hln
       have HLM:=Lib.hid (show _∧T.length≤1099511627776 from ⟨hln,hTL⟩)
       have hvl : 0 < xvs.length:=List.length_pos_iff.2 hvs
       obtain ⟨tj,htj⟩ : ∃ t:ByteArray,t=bs (Lib.join xps [44,32]):=⟨_,rfl⟩
       have hzj : tj.size≤1099511627776:=by rw [htj,bs_size]; omega
       have HTJ:=Lib.hid htj
       clear htj
       obtain ⟨tv,htv⟩ : ∃ t:ByteArray,t=bs (Lib.join xvs [44,32]):=⟨_,rfl⟩
       have hzv : tv.size≤1099511627776:=by rw [htv,bs_size]; omega
       have HTV:=Lib.hid htv
       clear htv
       have HVS:=Lib.hid hvs
       clear hvs hln hTL
       have hrw:=hwr.row HFB.out HPV.out
       rw [hcse] at hrw
       obtain ⟨bb,off,rfl,d0,d1,d2,d3,d4,d5⟩:=cells6 hrw hl1
       have hz:=Blk.new wr #[str [],.int .i64 0,.bool false,nils,nils,nils] 87
       obtain ⟨wA,hwA⟩ : ∃ wA,wr.alloc (.cells #[str [],.int .i64 0,.bool false,nils,nils,nils] 87)=wA:=⟨_,rfl⟩
       rw [hwA] at hz
       have hcA:Chg [] wr wA:=by rw [← hwA]; exact (Chg.refl _ _).alloc _
       obtain ⟨wF,hwF,hcF,hbF⟩:=set6P (str xn) (.int .i64 xp) (.bool xse) (.slice a1 xps.length k1) (.slice a2 xvs.length k2) (.slice a3 xb.len k3) hz
       have hcw:Chg [] wr wF:=hcA.trans hcF (fun x hx=>.inr (by simp at hx; omega))
       have g0:=hcA.cellSome d0 (by simp); have g1:=hcA.cellSome d1 (by simp); have g2:=hcA.cellSome d2 (by simp); have g3:=hcA.cellSome d3 (by simp); have g4:=hcA.cellSome d4 (by simp); have g5:=hcA.cellSome d5 (by simp)
       have z0:=hz.cell 0 _ rfl; have z1:=hz.cell 1 _ rfl; have z2:=hz.cell 2 _ rfl; have z3:=hz.cell 3 _ rfl; have z4:=hz.cell 4 _ rfl; have z5:=hz.cell 5 _ rfl
       have y0:=hz.frozen 0; have y1:=hz.frozen 1; have y2:=hz.frozen 2; have y3:=hz.frozen 3; have y4:=hz.frozen 4; have y5:=hz.frozen 5
       have hsw:=hwr.size
       have HWc0:=Lib.hid (hwr.chg (by omega) hcw)
       have HXc0:=Lib.hid ((hwr.blk HX0.out (by decide) hNE).kept hcw (by simp))
       have HGc0:=Lib.hid hbF
       have hnbc : wr.heap.size≠w.heap.size + 1:=by have:=hwr.bd.lt; omega
       have HCSE:=Lib.hid hcse
       clear hrw hcA hcF hbF hcw hwr hz hcse
       have HX_0:=HXc0.out.cell 0 _ rfl; have HX_1:=HXc0.out.cell 1 _ rfl; have HX_2:=HXc0.out.cell 2 _ rfl; have HX_3:=HXc0.out.cell 3 _ rfl; have HX_4:=HXc0.out.cell 4 _ rfl
       have HG_0:=HGc0.out.cell 0 _ rfl; have HG_1:=HGc0.out.cell 1 _ rfl; have HG_2:=HGc0.out.cell 2 _ rfl; have HG_3:=HGc0.out.cell 3 _ rfl; have HG_4:=HGc0.out.cell 4 _ rfl; have HG_5:=HGc0.out.cell 5 _ rfl
       have HJ:=Lib.hid (show ∀ w',Chg [] wF w'→Said 65 #[.slice a1 xps.length k1,.string ⟨#[44,32]⟩] w' tj from fun w' hc=>by
        have h1:=HWc0.out.chg (by have:=HWc0.out.size; omega) hc
        rw [HTJ.out]
        exact join_any xps [44,32] w' F _ (h1.names HFB.out HNP.out) (by have:=HLM.out; omega) (names_len hfew))
       go_wp2_with fail
       clear hwA hwF d0 d1 d2 d3 d4 d5 g0 g1 g2 g3 g4 g5 z0 z1 z2 z3 z4 z5 y0 y1 y2 y3 y4 y5
       refine wp_region_T [] rfl (by kernel_rfl) rfl ?_
       have hS:Chg [] wF.drew wF.drew:=Chg.refl _ _
       have HZ:=Lib.hid (Zone.of (X:=[]) (w0:=wF.drew) (off:=0) (b:=wr.heap.size) HG_0 (by simp))
       have HLT:=Lib.hid (show wr.heap.size < wF.drew.heap.size from HGc0.out.lt)
       have HDR:=Lib.hid ((Chg.refl [] wF).drew)
       repeat ((with_reducible refine gX ?_); (first | refine wpX_nil ?_ | refine sK ?_ | refine sM fun _ _=>?_ | refine sL fun _ _=>?_ | refine sE fun _ _=>?_); go_wp2_with fail)
       refine (star_any _ _).mono ?_; rintro _ _ ⟨rfl,rfl⟩
       go_wp2_with fail
       refine And.intro (by assumption:Chg _ _ _) ?_
       repeat ((with_reducible refine gX ?_); (first | refine wpX_nil ?_ | refine sK ?_ | refine sM fun _ _=>?_ | refine sL fun _ _=>?_ | refine sE fun _ _=>?_); go_wp2_with fail)
       refine (HJ.out _ (HDR.out.then hS)).mono ?_; rintro _ wj ⟨rfl,hw⟩; have hS:=hS.then hw; clear hw
       go_wp2_with fail
       refine And.intro (by assumption:Chg _ _ _) ?_
       repeat ((with_reducible refine gX ?_); (first | refine wpX_nil ?_ | refine sK ?_ | refine sM fun _ _=>?_ | refine sL fun _ _=>?_ | refine sE fun _ _=>?_); go_wp2_with fail)
       refine stepX_ef rfl rfl (fun _ _=>?_)
       change Oper.wp _ (Oper.mk _ _ _ _ _ _) _ _ _ _
       go_wp2_with fail
       have hq:=HDR.out.then (by assumption:Chg [] wF.drew _)
       have HWc1:=Lib.hid (HWc0.out.chg (by have:=HWc0.out.size; omega) hq)
       have HXc1:=Lib.hid (HXc0.out.kept hq (by simp))
       have HGc1:=Lib.hid (HGc0.out.kept hq (by simp))
       clear hq hS
       clear HX_0 HX_1 HX_2 HX_3 HX_4
       clear HG_0 HG_1 HG_2 HG_3 HG_4 HG_5
       refine (write_any _ ([112,114,111,99,32] ++ xn ++ star xse ++ [40] ++ Lib.join xps [44,32] ++ [41,59,10]) (by rw [bs_append,bs_append,bs_append,bs_append,bs_append,← HTJ.out] <;> rfl) HWc1.out.bd (by have:=HWc1.out.size; omega) (by have:=HLM.out; simp only [List.length_append,List.length_cons,List.length_nil]; omega)).mono ?_; rintro _ wc2 ⟨rfl,hq⟩
       have HWc2:=Lib.hid (HWc1.out.trans hq)
       have HXc2:=Lib.hid (hq.blk HXc1.out (by decide) hNE)
       have HGc2:=Lib.hid (hq.blk HGc1.out (by decide) hnbc)
       clear hq
       have HX_0:=HXc2.out.cell 0 _ rfl; have HX_1:=HXc2.out.cell 1 _ rfl; have HX_2:=HXc2.out.cell 2 _ rfl; have HX_3:=HXc2.out.cell 3 _ rfl; have HX_4:=HXc2.out.cell 4 _ rfl
       have HG_0:=HGc2.out.cell 0 _ rfl; have HG_1:=HGc2.out.cell 1 _ rfl; have HG_2:=HGc2.out.cell 2 _ rfl; have HG_3:=HGc2.out.cell 3 _ rfl; have HG_4:=HGc2.out.cell 4 _ rfl; have HG_5:=HGc2.out.cell 5 _ rfl
       go_wp2_with fail
       have hs:=join_any xvs [44,32] wc2 F _ (HWc2.out.names HFB.out HNV.out) (by have:=HLM.out; omega) (names_len hfew2)
       rw [show str (Lib.join xvs [44,32]) = .string tv from congrArg Value.string HTV.out.symm] at hs
       refine (hs).mono ?_; rintro _ wc3 ⟨rfl,hq⟩
       have HWc3:=Lib.hid (HWc2.out.chg (by have:=HWc2.out.size; omega) hq)
       have HXc3:=Lib.hid (HXc2.out.kept hq (by simp))
       have HGc3:=Lib.hid (HGc2.out.kept hq (by simp))
       clear hq
       clear HX_0 HX_1 HX_2 HX_3 HX_4
       clear HG_0 HG_1 HG_2 HG_3 HG_4 HG_5
       have HX_0:=HXc3.out.cell 0 _ rfl; have HX_1:=HXc3.out.cell 1 _ rfl; have HX_2:=HXc3.out.cell 2 _ rfl; have HX_3:=HXc3.out.cell 3 _ rfl; have HX_4:=HXc3.out.cell 4 _ rfl
       have HG_0:=HGc3.out.cell 0 _ rfl; have HG_1:=HGc3.out.cell 1 _ rfl; have HG_2:=HGc3.out.cell 2 _ rfl; have HG_3:=HGc3.out.cell 3 _ rfl; have HG_4:=HGc3.out.cell 4 _ rfl; have HG_5:=HGc3.out.cell 5 _ rfl
       go_wp2_with fail
       clear hs
       refine (write_any _ ([118,97,114,32] ++ Lib.join xvs [44,32] ++ [59,10]) (by rw [bs_append,bs_append,← HTV.out] <;> rfl) HWc3.out.bd (by have:=HWc3.out.size; omega) (by have:=HLM.out; simp only [List.length_append,List.length_cons,List.length_nil]; omega)).mono ?_; rintro _ wc4 ⟨rfl,hq⟩
       have HWc4:=Lib.hid (HWc3.out.trans hq)
       have HXc4:=Lib.hid (hq.blk HXc3.out (by decide) hNE)
       have HGc4:=Lib.hid (hq.blk HGc3.out (by decide) hnbc)
       clear hq
       clear HX_0 HX_1 HX_2 HX_3 HX_4
       clear HG_0 HG_1 HG_2 HG_3 HG_4 HG_5
       have HX_0:=HXc4.out.cell 0 _ rfl; have HX_1:=HXc4.out.cell 1 _ rfl; have HX_2:=HXc4.out.cell 2 _ rfl; have HX_3:=HXc4.out.cell 3 _ rfl; have HX_4:=HXc4.out.cell 4 _ rfl
       have HG_0:=HGc4.out.cell 0 _ rfl; have HG_1:=HGc4.out.cell 1 _ rfl; have HG_2:=HGc4.out.cell 2 _ rfl; have HG_3:=HGc4.out.cell 3 _ rfl; have HG_4:=HGc4.out.cell 4 _ rfl; have HG_5:=HGc4.out.cell 5 _ rfl
       go_wp2_with fail
       refine (write_any _ ([98,101,103,105,110,10]) (rfl) HWc4.out.bd (by have:=HWc4.out.size; omega) (by have:=HLM.out; simp only [List.length_append,List.length_cons,List.length_nil]; omega)).mono ?_; rintro _ wc5 ⟨rfl,hq⟩
       have HWc5:=Lib.hid (HWc4.out.trans hq)
       have HXc5:=Lib.hid (hq.blk HXc4.out (by decide) hNE)
       have HGc5:=Lib.hid (hq.blk HGc4.out (by decide) hnbc)
       clear hq
       clear HX_0 HX_1 HX_2 HX_3 HX_4
       clear HG_0 HG_1 HG_2 HG_3 HG_4 HG_5
       have HX_0:=HXc5.out.cell 0 _ rfl; have HX_1:=HXc5.out.cell 1 _ rfl; have HX_2:=HXc5.out.cell 2 _ rfl; have HX_3:=HXc5.out.cell 3 _ rfl; have HX_4:=HXc5.out.cell 4 _ rfl
       have HG_0:=HGc5.out.cell 0 _ rfl; have HG_1:=HGc5.out.cell 1 _ rfl; have HG_2:=HGc5.out.cell 2 _ rfl; have HG_3:=HGc5.out.cell 3 _ rfl; have HG_4:=HGc5.out.cell 4 _ rfl; have HG_5:=HGc5.out.cell 5 _ rfl
       go_wp2_with fail
       refine ((stmts_all xb 10 HBO.out).1 F _ wc5 B (w.heap.size + 1) (w.heap.size + 1) _ ([32,32]) (HWc5.out.laid HL.out hB1) hB1 (by have:=HWc5.out.size; omega) HFB.out (HWc5.out.sl HFB.out HBB.out) HWc5.out.bd (by have:=HLM.out; simp only [List.length_append,List.length_cons,List.length_nil]; omega)).mono ?_; rintro _ wc6 ⟨rfl,hq⟩
       have HWc6:=Lib.hid (HWc5.out.trans hq)
       have HXc6:=Lib.hid (hq.blk HXc5.out (by decide) hNE)
       have HGc6:=Lib.hid (hq.blk HGc5.out (by decide) hnbc)
       clear hq
       clear HX_0 HX_1 HX_2 HX_3 HX_4
       clear HG_0 HG_1 HG_2 HG_3 HG_4 HG_5
       have HX_0:=HXc6.out.cell 0 _ rfl; have HX_1:=HXc6.out.cell 1 _ rfl; have HX_2:=HXc6.out.cell 2 _ rfl; have HX_3:=HXc6.out.cell 3 _ rfl; have HX_4:=HXc6.out.cell 4 _ rfl
       have HG_0:=HGc6.out.cell 0 _ rfl; have HG_1:=HGc6.out.cell 1 _ rfl; have HG_2:=HGc6.out.cell 2 _ rfl; have HG_3:=HGc6.out.cell 3 _ rfl; have HG_4:=HGc6.out.cell 4 _ rfl; have HG_5:=HGc6.out.cell 5 _ rfl
       go_wp2_with fail
       refine (write_any _ ([101,110,100,59,10]) (rfl) HWc6.out.bd (by have:=HWc6.out.size; omega) (by have:=HLM.out; simp only [List.length_append,List.length_cons,List.length_nil]; omega)).mono ?_; rintro _ wc7 ⟨rfl,hq⟩
       have HWc7:=Lib.hid (HWc6.out.trans hq)
       have HXc7:=Lib.hid (hq.blk HXc6.out (by decide) hNE)
       have HGc7:=Lib.hid (hq.blk HGc6.out (by decide) hnbc)
       clear hq
       clear HX_0 HX_1 HX_2 HX_3 HX_4
       clear HG_0 HG_1 HG_2 HG_3 HG_4 HG_5
       have HX_0:=HXc7.out.cell 0 _ rfl; have HX_1:=HXc7.out.cell 1 _ rfl; have HX_2:=HXc7.out.cell 2 _ rfl; have HX_3:=HXc7.out.cell 3 _ rfl; have HX_4:=HXc7.out.cell 4 _ rfl
       have HG_0:=HGc7.out.cell 0 _ rfl; have HG_1:=HGc7.out.cell 1 _ rfl; have HG_2:=HGc7.out.cell 2 _ rfl; have HG_3:=HGc7.out.cell 3 _ rfl; have HG_4:=HGc7.out.cell 4 _ rfl; have HG_5:=HGc7.out.cell 5 _ rfl
       go_wp2_with fail
       refine ⟨⟨k + 1,r,_,cs1 ++ [str xn,.int .i64 xp,.bool xse,.slice a1 xps.length k1,.slice a2 xvs.length k2,.slice a3 xb.len k3],cs',by go_num,by simp at hk; omega,by rw [HCSE.out]; simp,by simp [hl1]; omega,HR.out,HWc7.out,?_,HAL.out⟩,by simp [intOf]; omega⟩
       rw [← HTX.out]
       simp [procT,if_neg HVS.out]
   | cons g r=>
    have HTX:=Lib.hid htx
    obtain ⟨gn,gp,gl,gs⟩:=g
    have hg:=hal _ (List.mem_cons_self ..)
    have hal' : ∀ y∈r,WFG y:=fun y hy=>hal y (List.mem_cons_of_mem _ hy)
    have hlt : k < vs.length:=by simp at hk; omega
    have hgnl : gn.length≤10:=hg.name.2.2
    have hstl : (star gs).length≤1:=by cases gs <;> decide
    have hlo : 0≤gl:=hg.low
    have hhi : gl≤30:=hg.high
    have HAL:=Lib.hid hal'
    simp only [List.flatMap_cons,Glob.cells,List.cons_append,List.nil_append] at hcse
    clear hg hal hal' htx
    by_cases hgl : 0 < gl
    ·simp only [List.flatMap_cons,globT,if_pos hgl,List.length_append,List.length_cons,List.length_nil] at hln
     have HLM:=Lib.hid (show _∧T.length≤1099511627776 from ⟨hln,hTL⟩)
     obtain ⟨ti,hti⟩ : ∃ t:ByteArray,t=bs (Lib.itoa gl):=⟨_,rfl⟩
     have hzi : ti.size≤1099511627776:=by rw [hti,bs_size]; omega
     have HTI:=Lib.hid hti
     clear hti
     have HGL:=Lib.hid hgl
     clear hln hTL
     have hrw:=hwr.row HFB.out HGV.out
     rw [hcse] at hrw
     obtain ⟨bb,off,rfl,d0,d1,d2,d3⟩:=cells4 hrw hl1
     have hz:=Blk.new wr #[str [],.int .i64 0,.int .i64 0,.bool false] 84
     obtain ⟨wA,hwA⟩ : ∃ wA,wr.alloc (.cells #[str [],.int .i64 0,.int .i64 0,.bool false] 84)=wA:=⟨_,rfl⟩
     rw [hwA] at hz
     have hcA:Chg [] wr wA:=by rw [← hwA]; exact (Chg.refl _ _).alloc _
     obtain ⟨wF,hwF,hcF,hbF⟩:=set4 (str gn) (.int .i64 gp) (.int .i64 gl) (.bool gs) hz
     have hcw:Chg [] wr wF:=hcA.trans hcF (fun x hx=>.inr (by simp at hx; omega))
     have g0:=hcA.cellSome d0 (by simp); have g1:=hcA.cellSome d1 (by simp); have g2:=hcA.cellSome d2 (by simp); have g3:=hcA.cellSome d3 (by simp)
     have z0:=hz.cell 0 _ rfl; have z1:=hz.cell 1 _ rfl; have z2:=hz.cell 2 _ rfl; have z3:=hz.cell 3 _ rfl
     have y0:=hz.frozen 0; have y1:=hz.frozen 1; have y2:=hz.frozen 2; have y3:=hz.frozen 3
     have hsw:=hwr.size
     have HWc0:=Lib.hid (hwr.chg (by omega) hcw)
     have HXc0:=Lib.hid ((hwr.blk HX0.out (by decide) hNE).kept hcw (by simp))
     have HGc0:=Lib.hid hbF
     have hnbc : wr.heap.size≠w.heap.size + 1:=by have:=hwr.bd.lt; omega
     have HCSE:=Lib.hid hcse
     clear hrw hcA hcF hbF hcw hwr hz hcse
     have HX_0:=HXc0.out.cell 0 _ rfl; have HX_1:=HXc0.out.cell 1 _ rfl; have HX_2:=HXc0.out.cell 2 _ rfl; have HX_3:=HXc0.out.cell 3 _ rfl; have HX_4:=HXc0.out.cell 4 _ rfl
     have HG_0:=HGc0.out.cell 0 _ rfl; have HG_1:=HGc0.out.cell 1 _ rfl; have HG_2:=HGc0.out.cell 2 _ rfl; have HG_3:=HGc0.out.cell 3 _ rfl
     go_wp2_with fail
     clear hwA hwF d0 d1 d2 d3 g0 g1 g2 g3 z0 z1 z2 z3 y0 y1 y2 y3
     have hs:=itoa_any gl hlo (by omega) wF B (HWc0.out.laid HL.out hB1)
     rw [show str (Lib.itoa gl) = .string ti from congrArg Value.string HTI.out.symm] at hs
     refine (hs).mono ?_; rintro _ wc1 ⟨rfl,hq⟩
     have HWc1:=Lib.hid (HWc0.out.chg (by have:=HWc0.out.size; omega) hq)
     have HXc1:=Lib.hid (HXc0.out.kept hq (by simp))
     have HGc1:=Lib.hid (HGc0.out.kept hq (by simp))
     clear hq
     clear HX_0 HX_1 HX_2 HX_3 HX_4
     clear HG_0 HG_1 HG_2 HG_3
     have HX_0:=HXc1.out.cell 0 _ rfl; have HX_1:=HXc1.out.cell 1 _ rfl; have HX_2:=HXc1.out.cell 2 _ rfl; have HX_3:=HXc1.out.cell 3 _ rfl; have HX_4:=HXc1.out.cell 4 _ rfl
     have HG_0:=HGc1.out.cell 0 _ rfl; have HG_1:=HGc1.out.cell 1 _ rfl; have HG_2:=HGc1.out.cell 2 _ rfl; have HG_3:=HGc1.out.cell 3 _ rfl
     go_wp2_with fail
     clear hs
     refine wp_region_T [] rfl (by kernel_rfl) rfl ?_
     have hS:Chg [] wc1.drew wc1.drew:=Chg.refl _ _
     have HZ:=Lib.hid (Zone.of (X:=[]) (w0:=wc1.drew) (off:=0) (b:=wr.heap.size) HG_0 (by simp))
     have HLT:=Lib.hid (show wr.heap.size < wc1.drew.heap.size from HGc1.out.lt)
     have HDR:=Lib.hid ((Chg.refl [] wc1).drew)
     repeat ((with_reducible refine gX ?_); (first | refine wpX_nil ?_ | refine sK ?_ | refine sM fun _ _=>?_ | refine sL fun _ _=>?_ | refine sE fun _ _=>?_); go_wp2_with fail)
     refine (star_any _ _).mono ?_; rintro _ _ ⟨rfl,rfl⟩
     go_wp2_with fail
     refine And.intro (by assumption:Chg _ _ _) ?_
     repeat ((with_reducible refine gX ?_); (first | refine wpX_nil ?_ | refine sK ?_ | refine sM fun _ _=>?_ | refine sL fun _ _=>?_ | refine sE fun _ _=>?_); go_wp2_with fail)
     refine stepX_ef rfl rfl (fun _ _=>?_)
     change Oper.wp _ (Oper.mk _ _ _ _ _ _) _ _ _ _
     go_wp2_with fail
     have hq:=HDR.out.then (by assumption:Chg [] wc1.drew _)
     have HWc2:=Lib.hid (HWc1.out.chg (by have:=HWc1.out.size; omega) hq)
     have HXc2:=Lib.hid (HXc1.out.kept hq (by simp))
     have HGc2:=Lib.hid (HGc1.out.kept hq (by simp))
     clear hq hS
     clear HX_0 HX_1 HX_2 HX_3 HX_4
     clear HG_0 HG_1 HG_2 HG_3
     refine (write_any _ ([118,97,114,32] ++ gn ++ star gs ++ [58,32] ++ ([97,114,114,97,121,32] ++ Lib.itoa gl) ++ [59,10]) (by rw [bs_append,bs_append,bs_append,bs_append,bs_append,bs_append,← HTI.out] <;> rfl) HWc2.out.bd (by have:=HWc2.out.size; omega) (by have:=HLM.out; simp only [List.length_append,List.length_cons,List.length_nil]; omega)).mono ?_; rintro _ wc3 ⟨rfl,hq⟩
     have HWc3:=Lib.hid (HWc2.out.trans hq)
     clear hq
     go_wp2_with fail
     refine ⟨⟨k + 1,r,_,cs1 ++ [str gn,.int .i64 gp,.int .i64 gl,.bool gs],by go_num,by simp at hk; omega,by rw [HCSE.out]; simp,by simp [hl1]; omega,HWc3.out,?_,HAL.out⟩,by simp [intOf]; omega⟩
     rw [← HTX.out]
     simp [globT,if_pos (show 0 < gl by have:=HGL.out; omega)]
    ·simp only [List.flatMap_cons,globT,if_neg hgl,List.length_append,List.length_cons,List.length_nil] at hln
     have HLM:=Lib.hid (show _∧T.length≤1099511627776 from ⟨hln,hTL⟩)
     have HGL:=Lib.hid hgl
     clear hln hTL
     have hrw:=hwr.row HFB.out HGV.out
     rw [hcse] at hrw
     obtain ⟨bb,off,rfl,d0,d1,d2,d3⟩:=cells4 hrw hl1
     have hz:=Blk.new wr #[str [],.int .i64 0,.int .i64 0,.bool false] 84
     obtain ⟨wA,hwA⟩ : ∃ wA,wr.alloc (.cells #[str [],.int .i64 0,.int .i64 0,.bool false] 84)=wA:=⟨_,rfl⟩
     rw [hwA] at hz
     have hcA:Chg [] wr wA:=by rw [← hwA]; exact (Chg.refl _ _).alloc _
     obtain ⟨wF,hwF,hcF,hbF⟩:=set4 (str gn) (.int .i64 gp) (.int .i64 gl) (.bool gs) hz
     have hcw:Chg [] wr wF:=hcA.trans hcF (fun x hx=>.inr (by simp at hx; omega))
     have g0:=hcA.cellSome d0 (by simp); have g1:=hcA.cellSome d1 (by simp); have g2:=hcA.cellSome d2 (by simp); have g3:=hcA.cellSome d3 (by simp)
     have z0:=hz.cell 0 _ rfl; have z1:=hz.cell 1 _ rfl; have z2:=hz.cell 2 _ rfl; have z3:=hz.cell 3 _ rfl
     have y0:=hz.frozen 0; have y1:=hz.frozen 1; have y2:=hz.frozen 2; have y3:=hz.frozen 3
     have hsw:=hwr.size
     have HWc0:=Lib.hid (hwr.chg (by omega) hcw)
     have HXc0:=Lib.hid ((hwr.blk HX0.out (by decide) hNE).kept hcw (by simp))
     have HGc0:=Lib.hid hbF
     have hnbc : wr.heap.size≠w.heap.size + 1:=by have:=hwr.bd.lt; omega
     have HCSE:=Lib.hid hcse
     clear hrw hcA hcF hbF hcw hwr hz hcse
     have HX_0:=HXc0.out.cell 0 _ rfl; have HX_1:=HXc0.out.cell 1 _ rfl; have HX_2:=HXc0.out.cell 2 _ rfl; have HX_3:=HXc0.out.cell 3 _ rfl; have HX_4:=HXc0.out.cell 4 _ rfl
     have HG_0:=HGc0.out.cell 0 _ rfl; have HG_1:=HGc0.out.cell 1 _ rfl; have HG_2:=HGc0.out.cell 2 _ rfl; have HG_3:=HGc0.out.cell 3 _ rfl
     go_wp2_with fail
     clear hwA hwF d0 d1 d2 d3 g0 g1 g2 g3 z0 z1 z2 z3 y0 y1 y2 y3
     refine wp_region_T [] rfl (by kernel_rfl) rfl ?_
     have hS:Chg [] wF.drew wF.drew:=Chg.refl _ _
     have HZ:=Lib.hid (Zone.of (X:=[]) (w0:=wF.drew) (off:=0) (b:=wr.heap.size) HG_0 (by simp))
     have HLT:=Lib.hid (show wr.heap.size < wF.drew.heap.size from HGc0.out.lt)
     have HDR:=Lib.hid ((Chg.refl [] wF).drew)
     repeat ((with_reducible refine gX ?_); (first | refine wpX_nil ?_ | refine sK ?_ | refine sM fun _ _=>?_ | refine sL fun _ _=>?_ | refine sE fun _ _=>?_); go_wp2_with fail)
     refine (star_any _ _).mono ?_; rintro _ _ ⟨rfl,rfl⟩
     go_wp2_with fail
     refine And.intro (by assumption:Chg _ _ _) ?_
     repeat ((with_reducible refine gX ?_); (first | refine wpX_nil ?_ | refine sK ?_ | refine sM fun _ _=>?_ | refine sL fun _ _=>?_ | refine sE fun _ _=>?_); go_wp2_with fail)
     refine stepX_ef rfl rfl (fun _ _=>?_)
     change Oper.wp _ (Oper.mk _ _ _ _ _ _) _ _ _ _
     go_wp2_with fail
     have hq:=HDR.out.then (by assumption:Chg [] wF.drew _)
     have HWc1:=Lib.hid (HWc0.out.chg (by have:=HWc0.out.size; omega) hq)
     have HXc1:=Lib.hid (HXc0.out.kept hq (by simp))
     have HGc1:=Lib.hid (HGc0.out.kept hq (by simp))
     clear hq hS
     clear HX_0 HX_1 HX_2 HX_3 HX_4
     clear HG_0 HG_1 HG_2 HG_3
     refine (write_any _ ([118,97,114,32] ++ gn ++ star gs ++ [58,32] ++ ([105,110,116]) ++ [59,10]) (by rw [bs_append,bs_append,bs_append,bs_append,bs_append] <;> rfl) HWc1.out.bd (by have:=HWc1.out.size; omega) (by have:=HLM.out; simp only [List.length_append,List.length_cons,List.length_nil]; omega)).mono ?_; rintro _ wc2 ⟨rfl,hq⟩
     have HWc2:=Lib.hid (HWc1.out.trans hq)
     clear hq
     go_wp2_with fail
     refine ⟨⟨k + 1,r,_,cs1 ++ [str gn,.int .i64 gp,.int .i64 gl,.bool gs],by go_num,by simp at hk; omega,by rw [HCSE.out]; simp,by simp [hl1]; omega,HWc2.out,?_,HAL.out⟩,by simp [intOf]; omega⟩
     rw [← HTX.out]
     simp [globT,if_neg (show ¬ 0 < gl by have:=HGL.out; omega)]
 ·have hln:=congrArg List.length HT.out
  have hTL:=HTL.out
  simp only [if_neg his,List.length_append,List.length_cons,List.length_nil] at hln
  have HLM:=Lib.hid (show _∧T.length≤1099511627776 from ⟨hln,hTL⟩)
  have hil : 0 < is.length:=List.length_pos_iff.2 his
  obtain ⟨ti,hti⟩ : ∃ t:ByteArray,t=bs (Lib.join is [44,32]):=⟨_,rfl⟩
  have hzi : ti.size≤1099511627776:=by rw [hti,bs_size]; omega
  have HTI:=Lib.hid hti
  clear hti
  have HIS:=Lib.hid his
  clear his hln hTL
  have HX_0:=HX0.out.cell 0 _ rfl; have HX_1:=HX0.out.cell 1 _ rfl; have HX_2:=HX0.out.cell 2 _ rfl; have HX_3:=HX0.out.cell 3 _ rfl; have HX_4:=HX0.out.cell 4 _ rfl
  go_enter Tryz.func16,Tryz.ntmps16
  go_wp2_with fail
  clear hwX hw0
  refine (write_any _ ([109,111,100,117,108,101,32] ++ nm ++ [59,10]) (by rw [bs_append,bs_append] <;> rfl) HW0.out.bd (by have:=HW0.out.size; omega) (by have:=HLM.out; simp only [List.length_append,List.length_cons,List.length_nil]; omega)).mono ?_; rintro _ w1 ⟨rfl,hq⟩
  have HW1:=Lib.hid (HW0.out.trans hq)
  have HX1:=Lib.hid (hq.blk HX0.out (by decide) hNE)
  clear hq
  clear HX_0 HX_1 HX_2 HX_3 HX_4
  have HX_0:=HX1.out.cell 0 _ rfl; have HX_1:=HX1.out.cell 1 _ rfl; have HX_2:=HX1.out.cell 2 _ rfl; have HX_3:=HX1.out.cell 3 _ rfl; have HX_4:=HX1.out.cell 4 _ rfl
  go_wp2_with fail
  have hs:=join_any is [44,32] w1 F _ (HW1.out.names HFB.out HNI.out) (by have:=HLM.out; omega) (names_len (by have:=HM.out.few; dsimp only at this; omega))
  rw [show str (Lib.join is [44,32]) = .string ti from congrArg Value.string HTI.out.symm] at hs
  refine (hs).mono ?_; rintro _ w2 ⟨rfl,hq⟩
  have HW2:=Lib.hid (HW1.out.chg (by have:=HW1.out.size; omega) hq)
  have HX2:=Lib.hid (HX1.out.kept hq (by simp))
  clear hq
  clear HX_0 HX_1 HX_2 HX_3 HX_4
  have HX_0:=HX2.out.cell 0 _ rfl; have HX_1:=HX2.out.cell 1 _ rfl; have HX_2:=HX2.out.cell 2 _ rfl; have HX_3:=HX2.out.cell 3 _ rfl; have HX_4:=HX2.out.cell 4 _ rfl
  go_wp2_with fail
  clear hs
  refine (write_any _ ([105,109,112,111,114,116,32] ++ Lib.join is [44,32] ++ [59,10]) (by rw [bs_append,bs_append,← HTI.out] <;> rfl) HW2.out.bd (by have:=HW2.out.size; omega) (by have:=HLM.out; simp only [List.length_append,List.length_cons,List.length_nil]; omega)).mono ?_; rintro _ w3 ⟨rfl,hq⟩
  have HW3:=Lib.hid (HW2.out.trans hq)
  have HX3:=Lib.hid (hq.blk HX2.out (by decide) hNE)
  clear hq
  clear HX_0 HX_1 HX_2 HX_3 HX_4
  have HX_0:=HX3.out.cell 0 _ rfl; have HX_1:=HX3.out.cell 1 _ rfl; have HX_2:=HX3.out.cell 2 _ rfl; have HX_3:=HX3.out.cell 3 _ rfl; have HX_4:=HX3.out.cell 4 _ rfl
  go_wp2_with fail
  have HTX0:=Lib.hid (show ([] ++ ([109,111,100,117,108,101,32] ++ nm ++ [59,10]) ++ ([105,109,112,111,114,116,32] ++ Lib.join is [44,32] ++ [59,10])) ++ (vs.flatMap globT ++ tail1 ps bdy)=T by rw [HT.out,if_neg HIS.out]; simp [tail0] <;> rfl)
  go_loopw [5,6,27] (fun _ _ i wr=>∃ (k:Nat) (rest:List Glob) (l1:List UInt8) (cs1:List Value),i = .int .i64 k∧k + rest.length=vs.length∧vs.flatMap Glob.cells=cs1 ++ rest.flatMap Glob.cells∧cs1.length=k * 4∧Wr (w.heap.size + 1) (w.heap.size + 1) l1 w0 wr∧l1 ++ (rest.flatMap globT ++ tail1 ps bdy)=T ∧ ∀ g∈rest,WFG g) (fun _ _ i _=>vs.length - (intOf i).toNat)
  case atStart=>exact ⟨0,vs,_,[],rfl,by simp,rfl,rfl,HW3.out,HTX0.out,HM.out.vars⟩
  case round=>
   obtain ⟨k,rest,l1,cs1,rfl,hk,hcse,hl1,hwr,htx,hal⟩:=hrel
   have hln:=congrArg List.length htx
   have hTL:=HTL.out
   cases rest with
   | nil=>
    have hke : ¬ k < vs.length:=by simp at hk; omega
    have HTX1:=Lib.hid (show l1 ++ (ps.flatMap procT ++ tail2 bdy)=T by simpa [tail1] using htx)
    have HWg0:=Lib.hid hwr
    have HXg0:=Lib.hid (hwr.blk HX0.out (by decide) hNE)
    clear hln hTL hcse hwr hal htx
    have Xg0:=HXg0.out.cell 0 _ rfl; have Xg1:=HXg0.out.cell 1 _ rfl; have Xg2:=HXg0.out.cell 2 _ rfl; have Xg3:=HXg0.out.cell 3 _ rfl; have Xg4:=HXg0.out.cell 4 _ rfl
    go_wp2_with fail
    go_loopw [8,54] (fun _ i wr=>∃ (k:Nat) (rest:List Proc) (l1:List UInt8) (cs1 cs2:List Value),i = .int .i64 k∧k + rest.length=ps.length∧pcs=cs1 ++ cs2∧cs1.length=k * 6∧PrsAt w0 F rest cs2∧Wr (w.heap.size + 1) (w.heap.size + 1) l1 w0 wr∧l1 ++ (rest.flatMap procT ++ tail2 bdy)=T ∧ ∀ x∈rest,WFP x) (fun _ i _=>ps.length - (intOf i).toNat)
    case atStart=>exact ⟨0,ps,_,[],pcs,rfl,by simp,rfl,rfl,HPS.out,HWg0.out,HTX1.out,HM.out.procs⟩
    case round=>
     obtain ⟨k,rest,l1,cs1,cs2,rfl,hk,hcse,hl1,hat,hwr,htx,hal⟩:=hrel
     have HTX:=Lib.hid htx
     have hln:=congrArg List.length htx
     have hTL:=HTL.out
     clear htx
     cases rest with
     | nil=>
      have hke : ¬ k < ps.length:=by simp at hk; omega
      simp only [List.flatMap_nil,List.nil_append,tail2,List.length_append,List.length_cons,List.length_nil] at hln
      have HLM:=Lib.hid (show _∧T.length≤1099511627776 from ⟨hln,hTL⟩)
      have HWe0:=Lib.hid hwr
      have HXe0:=Lib.hid (hwr.blk HX0.out (by decide) hNE)
      clear hln hTL hat hcse hwr hal
      have HX_0:=HXe0.out.cell 0 _ rfl; have HX_1:=HXe0.out.cell 1 _ rfl; have HX_2:=HXe0.out.cell 2 _ rfl; have HX_3:=HXe0.out.cell 3 _ rfl; have HX_4:=HXe0.out.cell 4 _ rfl
      go_wp2_with fail
      refine (write_any _ ([98,101,103,105,110,10]) (rfl) HWe0.out.bd (by have:=HWe0.out.size; omega) (by have:=HLM.out; simp only [List.length_append,List.length_cons,List.length_nil]; omega)).mono ?_; rintro _ we1 ⟨rfl,hq⟩
      have HWe1:=Lib.hid (HWe0.out.trans hq)
      have HXe1:=Lib.hid (hq.blk HXe0.out (by decide) hNE)
      clear hq
      clear HX_0 HX_1 HX_2 HX_3 HX_4
      have HX_0:=HXe1.out.cell 0 _ rfl; have HX_1:=HXe1.out.cell 1 _ rfl; have HX_2:=HXe1.out.cell 2 _ rfl; have HX_3:=HXe1.out.cell 3 _ rfl; have HX_4:=HXe1.out.cell 4 _ rfl
      go_wp2_with fail
      refine ((stmts_all bdy 10 HM.out.body).1 F _ we1 B (w.heap.size + 1) (w.heap.size + 1) _ ([32,32]) (HWe1.out.laid HL.out hB1) hB1 (by have:=HWe1.out.size; omega) HFB.out (HWe1.out.sl HFB.out HSB.out) HWe1.out.bd (by have:=HLM.out; simp only [List.length_append,List.length_cons,List.length_nil]; omega)).mono ?_; rintro _ we2 ⟨rfl,hq⟩
      have HWe2:=Lib.hid (HWe1.out.trans hq)
      have HXe2:=Lib.hid (hq.blk HXe1.out (by decide) hNE)
      clear hq
      clear HX_0 HX_1 HX_2 HX_3 HX_4
      have HX_0:=HXe2.out.cell 0 _ rfl; have HX_1:=HXe2.out.cell 1 _ rfl; have HX_2:=HXe2.out.cell 2 _ rfl; have HX_3:=HXe2.out.cell 3 _ rfl; have HX_4:=HXe2.out.cell 4 _ rfl
      go_wp2_with fail
      refine (write_any _ ([101,110,100,46,10]) (rfl) HWe2.out.bd (by have:=HWe2.out.size; omega) (by have:=HLM.out; simp only [List.length_append,List.length_cons,List.length_nil]; omega)).mono ?_; rintro _ we3 ⟨rfl,hq⟩
      have HWe3:=Lib.hid (HWe2.out.trans hq)
      have HXe3:=Lib.hid (hq.blk HXe2.out (by decide) hNE)
      clear hq
      clear HX_0 HX_1 HX_2 HX_3 HX_4
      have HX_0:=HXe3.out.cell 0 _ rfl; have HX_1:=HXe3.out.cell 1 _ rfl; have HX_2:=HXe3.out.cell 2 _ rfl; have HX_3:=HXe3.out.cell 3 _ rfl; have HX_4:=HXe3.out.cell 4 _ rfl
      go_wp2_with fail
      refine (Any.Builder_String_k { Tryz.lays156 with } extra (w.heap.size + 1) (w.heap.size + 1) _ we3 HWe3.out.bd (by simp)).mono ?_; rintro _ wz ⟨rfl,_,hbz,_⟩
      have HZZ:=Lib.hid (chg_past HCW.out (HWe3.out.below.trans hbz))
      clear hbz
      go_wp2_with fail
      go_ret
      refine ⟨congrArg (fun t=>Ending.returned (str t)) ?_,?_⟩
      ·rw [← HTX.out]; simp [tail2]
      ·exact HZZ.out
     | cons x r=>
      obtain ⟨xn,xp,xse,xps,xvs,xb⟩:=x
      obtain ⟨c1,cs',rfl,⟨vp,vv,vb,rfl,⟨a1,k1,rfl,hp1,hp2⟩,⟨a2,k2,rfl,hq1,hq2⟩,⟨a3,k3,bcs3,rfl,hb1,hb2,hb3⟩⟩,hr⟩:=hat
      dsimp only at hp1 hp2 hq1 hq2 hb1 hb2 hb3 hcse
      have hx:=hal _ (List.mem_cons_self ..)
      have hal' : ∀ y∈r,WFP y:=fun y hy=>hal y (List.mem_cons_of_mem _ hy)
      have hlt : k < ps.length:=by simp at hk; omega
      have hxnl : xn.length≤10:=hx.name.2.2
      have hstl : (star xse).length≤1:=by cases xse <;> decide
      have hfew : xps.length≤10:=hx.few
      have hfew2 : xvs.length≤10:=by have:=hx.room; dsimp only at this; omega
      have HBO:=Lib.hid hx.body
      have HNP:=Lib.hid (show NamesAt w0 F xps (.slice a1 xps.length k1) from ⟨a1,k1,rfl,hp1,hp2⟩)
      have HNV:=Lib.hid (show NamesAt w0 F xvs (.slice a2 xvs.length k2) from ⟨a2,k2,rfl,hq1,hq2⟩)
      have HBB:=Lib.hid (show SlAt w0 F xb (.slice a3 xb.len k3) from ⟨a3,k3,bcs3,rfl,hb1,hb2,hb3⟩)
      have HAL:=Lib.hid hal'
      have HR:=Lib.hid hr
      clear hp1 hp2 hq1 hq2 hb1 hb2 hb3 hx hal hal' hr
      by_cases hvs : xvs=[]
      ·simp only [List.flatMap_cons,procT,if_pos hvs,List.length_append,List.length_cons,List.length_nil] at hln
       have HLM:=Lib.hid (show _∧T.length≤1099511627776 from ⟨hln,hTL⟩)
       have hvl : ¬ 0 < xvs.length:=by rw [hvs]; simp
       obtain ⟨tj,htj⟩ : ∃ t:ByteArray,t=bs (Lib.join xps [44,32]):=⟨_,rfl⟩
       have hzj : tj.size≤1099511627776:=by rw [htj,bs_size]; omega
       have HTJ:=Lib.hid htj
       clear htj
       have HVS:=Lib.hid hvs
       clear hvs hln hTL
       have hrw:=hwr.row HFB.out HPV.out
       rw [hcse] at hrw
       obtain ⟨bb,off,rfl,d0,d1,d2,d3,d4,d5⟩:=cells6 hrw hl1
       have hz:=Blk.new wr #[str [],.int .i64 0,.bool false,nils,nils,nils] 87
       obtain ⟨wA,hwA⟩ : ∃ wA,wr.alloc (.cells #[str [],.int .i64 0,.bool false,nils,nils,nils] 87)=wA:=⟨_,rfl⟩
       rw [hwA] at hz
       have hcA:Chg [] wr wA:=by rw [← hwA]; exact (Chg.refl _ _).alloc _
       obtain ⟨wF,hwF,hcF,hbF⟩:=set6P (str xn) (.int .i64 xp) (.bool xse) (.slice a1 xps.length k1) (.slice a2 xvs.length k2) (.slice a3 xb.len k3) hz
       have hcw:Chg [] wr wF:=hcA.trans hcF (fun x hx=>.inr (by simp at hx; omega))
       have g0:=hcA.cellSome d0 (by simp); have g1:=hcA.cellSome d1 (by simp); have g2:=hcA.cellSome d2 (by simp); have g3:=hcA.cellSome d3 (by simp); have g4:=hcA.cellSome d4 (by simp); have g5:=hcA.cellSome d5 (by simp)
       have z0:=hz.cell 0 _ rfl; have z1:=hz.cell 1 _ rfl; have z2:=hz.cell 2 _ rfl; have z3:=hz.cell 3 _ rfl; have z4:=hz.cell 4 _ rfl; have z5:=hz.cell 5 _ rfl
       have y0:=hz.frozen 0; have y1:=hz.frozen 1; have y2:=hz.frozen 2; have y3:=hz.frozen 3; have y4:=hz.frozen 4; have y5:=hz.frozen 5
       have hsw:=hwr.size
       have HWc0:=Lib.hid (hwr.chg (by omega) hcw)
       have HXc0:=Lib.hid ((hwr.blk HX0.out (by decide) hNE).kept hcw (by simp))
       have HGc0:=Lib.hid hbF
       have hnbc : wr.heap.size≠w.heap.size + 1:=by have:=hwr.bd.lt; omega
       have HCSE:=Lib.hid hcse
       clear hrw hcA hcF hbF hcw hwr hz hcse
       have HX_0:=HXc0.out.cell 0 _ rfl; have HX_1:=HXc0.out.cell 1 _ rfl; have HX_2:=HXc0.out.cell 2 _ rfl; have HX_3:=HXc0.out.cell 3 _ rfl; have HX_4:=HXc0.out.cell 4 _ rfl
       have HG_0:=HGc0.out.cell 0 _ rfl; have HG_1:=HGc0.out.cell 1 _ rfl; have HG_2:=HGc0.out.cell 2 _ rfl; have HG_3:=HGc0.out.cell 3 _ rfl; have HG_4:=HGc0.out.cell 4 _ rfl; have HG_5:=HGc0.out.cell 5 _ rfl
       have HJ:=Lib.hid (show ∀ w',Chg [] wF w'→Said 65 #[.slice a1 xps.length k1,.string ⟨#[44,32]⟩] w' tj from fun w' hc=>by
        have h1:=HWc0.out.chg (by have:=HWc0.out.size; omega) hc
        rw [HTJ.out]
        exact join_any xps [44,32] w' F _ (h1.names HFB.out HNP.out) (by have:=HLM.out; omega) (names_len hfew))
       go_wp2_with fail
       clear hwA hwF d0 d1 d2 d3 d4 d5 g0 g1 g2 g3 g4 g5 z0 z1 z2 z3 z4 z5 y0 y1 y2 y3 y4 y5
       refine wp_region_T [] rfl (by kernel_rfl) rfl ?_
       have hS:Chg [] wF.drew wF.drew:=Chg.refl _ _
       have HZ:=Lib.hid (Zone.of (X:=[]) (w0:=wF.drew) (off:=0) (b:=wr.heap.size) HG_0 (by simp))
       have HLT:=Lib.hid (show wr.heap.size < wF.drew.heap.size from HGc0.out.lt)
       have HDR:=Lib.hid ((Chg.refl [] wF).drew)
       repeat ((with_reducible refine gX ?_); (first | refine wpX_nil ?_ | refine sK ?_ | refine sM fun _ _=>?_ | refine sL fun _ _=>?_ | refine sE fun _ _=>?_); go_wp2_with fail)
       refine (star_any _ _).mono ?_; rintro _ _ ⟨rfl,rfl⟩
       go_wp2_with fail
       refine And.intro (by assumption:Chg _ _ _) ?_
       repeat ((with_reducible refine gX ?_); (first | refine wpX_nil ?_ | refine sK ?_ | refine sM fun _ _=>?_ | refine sL fun _ _=>?_ | refine sE fun _ _=>?_); go_wp2_with fail)
       refine (HJ.out _ (HDR.out.then hS)).mono ?_; rintro _ wj ⟨rfl,hw⟩; have hS:=hS.then hw; clear hw
       go_wp2_with fail
       refine And.intro (by assumption:Chg _ _ _) ?_
       repeat ((with_reducible refine gX ?_); (first | refine wpX_nil ?_ | refine sK ?_ | refine sM fun _ _=>?_ | refine sL fun _ _=>?_ | refine sE fun _ _=>?_); go_wp2_with fail)
       refine stepX_ef rfl rfl (fun _ _=>?_)
       change Oper.wp _ (Oper.mk _ _ _ _ _ _) _ _ _ _
       go_wp2_with fail
       have hq:=HDR.out.then (by assumption:Chg [] wF.drew _)
       have HWc1:=Lib.hid (HWc0.out.chg (by have:=HWc0.out.size; omega) hq)
       have HXc1:=Lib.hid (HXc0.out.kept hq (by simp))
       have HGc1:=Lib.hid (HGc0.out.kept hq (by simp))
       clear hq hS
       clear HX_0 HX_1 HX_2 HX_3 HX_4
       clear HG_0 HG_1 HG_2 HG_3 HG_4 HG_5
       refine (write_any _ ([112,114,111,99,32] ++ xn ++ star xse ++ [40] ++ Lib.join xps [44,32] ++ [41,59,10]) (by rw [bs_append,bs_append,bs_append,bs_append,bs_append,← HTJ.out] <;> rfl) HWc1.out.bd (by have:=HWc1.out.size; omega) (by have:=HLM.out; simp only [List.length_append,List.length_cons,List.length_nil]; omega)).mono ?_; rintro _ wc2 ⟨rfl,hq⟩
       have HWc2:=Lib.hid (HWc1.out.trans hq)
       have HXc2:=Lib.hid (hq.blk HXc1.out (by decide) hNE)
       have HGc2:=Lib.hid (hq.blk HGc1.out (by decide) hnbc)
       clear hq
       have HX_0:=HXc2.out.cell 0 _ rfl; have HX_1:=HXc2.out.cell 1 _ rfl; have HX_2:=HXc2.out.cell 2 _ rfl; have HX_3:=HXc2.out.cell 3 _ rfl; have HX_4:=HXc2.out.cell 4 _ rfl
       have HG_0:=HGc2.out.cell 0 _ rfl; have HG_1:=HGc2.out.cell 1 _ rfl; have HG_2:=HGc2.out.cell 2 _ rfl; have HG_3:=HGc2.out.cell 3 _ rfl; have HG_4:=HGc2.out.cell 4 _ rfl; have HG_5:=HGc2.out.cell 5 _ rfl
       go_wp2_with fail
       refine (write_any _ ([98,101,103,105,110,10]) (rfl) HWc2.out.bd (by have:=HWc2.out.size; omega) (by have:=HLM.out; simp only [List.length_append,List.length_cons,List.length_nil]; omega)).mono ?_; rintro _ wc3 ⟨rfl,hq⟩
       have HWc3:=Lib.hid (HWc2.out.trans hq)
       have HXc3:=Lib.hid (hq.blk HXc2.out (by decide) hNE)
       have HGc3:=Lib.hid (hq.blk HGc2.out (by decide) hnbc)
       clear hq
       clear HX_0 HX_1 HX_2 HX_3 HX_4
       clear HG_0 HG_1 HG_2 HG_3 HG_4 HG_5
       have HX_0:=HXc3.out.cell 0 _ rfl; have HX_1:=HXc3.out.cell 1 _ rfl; have HX_2:=HXc3.out.cell 2 _ rfl; have HX_3:=HXc3.out.cell 3 _ rfl; have HX_4:=HXc3.out.cell 4 _ rfl
       have HG_0:=HGc3.out.cell 0 _ rfl; have HG_1:=HGc3.out.cell 1 _ rfl; have HG_2:=HGc3.out.cell 2 _ rfl; have HG_3:=HGc3.out.cell 3 _ rfl; have HG_4:=HGc3.out.cell 4 _ rfl; have HG_5:=HGc3.out.cell 5 _ rfl
       go_wp2_with fail
       refine ((stmts_all xb 10 HBO.out).1 F _ wc3 B (w.heap.size + 1) (w.heap.size + 1) _ ([32,32]) (HWc3.out.laid HL.out hB1) hB1 (by have:=HWc3.out.size; omega) HFB.out (HWc3.out.sl HFB.out HBB.out) HWc3.out.bd (by have:=HLM.out; simp only [List.length_append,List.length_cons,List.length_nil]; omega)).mono ?_; rintro _ wc4 ⟨rfl,hq⟩
       have HWc4:=Lib.hid (HWc3.out.trans hq)
       have HXc4:=Lib.hid (hq.blk HXc3.out (by decide) hNE)
       have HGc4:=Lib.hid (hq.blk HGc3.out (by decide) hnbc)
       clear hq
       clear HX_0 HX_1 HX_2 HX_3 HX_4
       clear HG_0 HG_1 HG_2 HG_3 HG_4 HG_5
       have HX_0:=HXc4.out.cell 0 _ rfl; have HX_1:=HXc4.out.cell 1 _ rfl; have HX_2:=HXc4.out.cell 2 _ rfl; have HX_3:=HXc4.out.cell 3 _ rfl; have HX_4:=HXc4.out.cell 4 _ rfl
       have HG_0:=HGc4.out.cell 0 _ rfl; have HG_1:=HGc4.out.cell 1 _ rfl; have HG_2:=HGc4.out.cell 2 _ rfl; have HG_3:=HGc4.out.cell 3 _ rfl; have HG_4:=HGc4.out.cell 4 _ rfl; have HG_5:=HGc4.out.cell 5 _ rfl
       go_wp2_with fail
       refine (write_any _ ([101,110,100,59,10]) (rfl) HWc4.out.bd (by have:=HWc4.out.size; omega) (by have:=HLM.out; simp only [List.length_append,List.length_cons,List.length_nil]; omega)).mono ?_; rintro _ wc5 ⟨rfl,hq⟩
       have HWc5:=Lib.hid (HWc4.out.trans hq)
       have HXc5:=Lib.hid (hq.blk HXc4.out (by decide) hNE)
       have HGc5:=Lib.hid (hq.blk HGc4.out (by decide) hnbc)
       clear hq
       clear HX_0 HX_1 HX_2 HX_3 HX_4
       clear HG_0 HG_1 HG_2 HG_3 HG_4 HG_5
       have HX_0:=HXc5.out.cell 0 _ rfl; have HX_1:=HXc5.out.cell 1 _ rfl; have HX_2:=HXc5.out.cell 2 _ rfl; have HX_3:=HXc5.out.cell 3 _ rfl; have HX_4:=HXc5.out.cell 4 _ rfl
       have HG_0:=HGc5.out.cell 0 _ rfl; have HG_1:=HGc5.out.cell 1 _ rfl; have HG_2:=HGc5.out.cell 2 _ rfl; have HG_3:=HGc5.out.cell 3 _ rfl; have HG_4:=HGc5.out.cell 4 _ rfl; have HG_5:=HGc5.out.cell 5 _ rfl
       go_wp2_with fail
       refine ⟨⟨k + 1,r,_,cs1 ++ [str xn,.int .i64 xp,.bool xse,.slice a1 xps.length k1,.slice a2 xvs.length k2,.slice a3 xb.len k3],cs',by go_num,by simp at hk; omega,by rw [HCSE.out]; simp,by simp [hl1]; omega,HR.out,HWc5.out,?_,HAL.out⟩,by simp [intOf]; omega⟩
       rw [← HTX.out]
       simp [procT,HVS.out]
      ·simp only [List.flatMap_cons,procT,if_neg hvs,List.length_append,List.length_cons,List.length_nil] at hln
       have HLM:=Lib.hid (show _∧T.length≤1099511627776 from ⟨hln,hTL⟩)
       have hvl : 0 < xvs.length:=List.length_pos_iff.2 hvs
       obtain ⟨tj,htj⟩ : ∃ t:ByteArray,t=bs (Lib.join xps [44,32]):=⟨_,rfl⟩
       have hzj : tj.size≤1099511627776:=by rw [htj,bs_size]; omega
       have HTJ:=Lib.hid htj
       clear htj
       obtain ⟨tv,htv⟩ : ∃ t:ByteArray,t=bs (Lib.join xvs [44,32]):=⟨_,rfl⟩
       have hzv : tv.size≤1099511627776:=by rw [htv,bs_size]; omega
       have HTV:=Lib.hid htv
       clear htv
       have HVS:=Lib.hid hvs
       clear hvs hln hTL
       have hrw:=hwr.row HFB.out HPV.out
       rw [hcse] at hrw
       obtain ⟨bb,off,rfl,d0,d1,d2,d3,d4,d5⟩:=cells6 hrw hl1
       have hz:=Blk.new wr #[str [],.int .i64 0,.bool false,nils,nils,nils] 87
       obtain ⟨wA,hwA⟩ : ∃ wA,wr.alloc (.cells #[str [],.int .i64 0,.bool false,nils,nils,nils] 87)=wA:=⟨_,rfl⟩
       rw [hwA] at hz
       have hcA:Chg [] wr wA:=by rw [← hwA]; exact (Chg.refl _ _).alloc _
       obtain ⟨wF,hwF,hcF,hbF⟩:=set6P (str xn) (.int .i64 xp) (.bool xse) (.slice a1 xps.length k1) (.slice a2 xvs.length k2) (.slice a3 xb.len k3) hz
       have hcw:Chg [] wr wF:=hcA.trans hcF (fun x hx=>.inr (by simp at hx; omega))
       have g0:=hcA.cellSome d0 (by simp); have g1:=hcA.cellSome d1 (by simp); have g2:=hcA.cellSome d2 (by simp); have g3:=hcA.cellSome d3 (by simp); have g4:=hcA.cellSome d4 (by simp); have g5:=hcA.cellSome d5 (by simp)
       have z0:=hz.cell 0 _ rfl; have z1:=hz.cell 1 _ rfl; have z2:=hz.cell 2 _ rfl; have z3:=hz.cell 3 _ rfl; have z4:=hz.cell 4 _ rfl; have z5:=hz.cell 5 _ rfl
       have y0:=hz.frozen 0; have y1:=hz.frozen 1; have y2:=hz.frozen 2; have y3:=hz.frozen 3; have y4:=hz.frozen 4; have y5:=hz.frozen 5
       have hsw:=hwr.size
       have HWc0:=Lib.hid (hwr.chg (by omega) hcw)
       have HXc0:=Lib.hid ((hwr.blk HX0.out (by decide) hNE).kept hcw (by simp))
       have HGc0:=Lib.hid hbF
       have hnbc : wr.heap.size≠w.heap.size + 1:=by have:=hwr.bd.lt; omega
       have HCSE:=Lib.hid hcse
       clear hrw hcA hcF hbF hcw hwr hz hcse
       have HX_0:=HXc0.out.cell 0 _ rfl; have HX_1:=HXc0.out.cell 1 _ rfl; have HX_2:=HXc0.out.cell 2 _ rfl; have HX_3:=HXc0.out.cell 3 _ rfl; have HX_4:=HXc0.out.cell 4 _ rfl
       have HG_0:=HGc0.out.cell 0 _ rfl; have HG_1:=HGc0.out.cell 1 _ rfl; have HG_2:=HGc0.out.cell 2 _ rfl; have HG_3:=HGc0.out.cell 3 _ rfl; have HG_4:=HGc0.out.cell 4 _ rfl; have HG_5:=HGc0.out.cell 5 _ rfl
       have HJ:=Lib.hid (show ∀ w',Chg [] wF w'→Said 65 #[.slice a1 xps.length k1,.string ⟨#[44,32]⟩] w' tj from fun w' hc=>by
        have h1:=HWc0.out.chg (by have:=HWc0.out.size; omega) hc
        rw [HTJ.out]
        exact join_any xps [44,32] w' F _ (h1.names HFB.out HNP.out) (by have:=HLM.out; omega) (names_len hfew))
       go_wp2_with fail
       clear hwA hwF d0 d1 d2 d3 d4 d5 g0 g1 g2 g3 g4 g5 z0 z1 z2 z3 z4 z5 y0 y1 y2 y3 y4 y5
       refine wp_region_T [] rfl (by kernel_rfl) rfl ?_
       have hS:Chg [] wF.drew wF.drew:=Chg.refl _ _
       have HZ:=Lib.hid (Zone.of (X:=[]) (w0:=wF.drew) (off:=0) (b:=wr.heap.size) HG_0 (by simp))
       have HLT:=Lib.hid (show wr.heap.size < wF.drew.heap.size from HGc0.out.lt)
       have HDR:=Lib.hid ((Chg.refl [] wF).drew)
       repeat ((with_reducible refine gX ?_); (first | refine wpX_nil ?_ | refine sK ?_ | refine sM fun _ _=>?_ | refine sL fun _ _=>?_ | refine sE fun _ _=>?_); go_wp2_with fail)
       refine (star_any _ _).mono ?_; rintro _ _ ⟨rfl,rfl⟩
       go_wp2_with fail
       refine And.intro (by assumption:Chg _ _ _) ?_
       repeat ((with_reducible refine gX ?_); (first | refine wpX_nil ?_ | refine sK ?_ | refine sM fun _ _=>?_ | refine sL fun _ _=>?_ | refine sE fun _ _=>?_); go_wp2_with fail)
       refine (HJ.out _ (HDR.out.then hS)).mono ?_; rintro _ wj ⟨rfl,hw⟩; have hS:=hS.then hw; clear hw
       go_wp2_with fail
       refine And.intro (by assumption:Chg _ _ _) ?_
       repeat ((with_reducible refine gX ?_); (first | refine wpX_nil ?_ | refine sK ?_ | refine sM fun _ _=>?_ | refine sL fun _ _=>?_ | refine sE fun _ _=>?_); go_wp2_with fail)
       refine stepX_ef rfl rfl (fun _ _=>?_)
       change Oper.wp _ (Oper.mk _ _ _ _ _ _) _ _ _ _
       go_wp2_with fail
       have hq:=HDR.out.then (by assumption:Chg [] wF.drew _)
       have HWc1:=Lib.hid (HWc0.out.chg (by have:=HWc0.out.size; omega) hq)
       have HXc1:=Lib.hid (HXc0.out.kept hq (by simp))
       have HGc1:=Lib.hid (HGc0.out.kept hq (by simp))
       clear hq hS
       clear HX_0 HX_1 HX_2 HX_3 HX_4
       clear HG_0 HG_1 HG_2 HG_3 HG_4 HG_5
       refine (write_any _ ([112,114,111,99,32] ++ xn ++ star xse ++ [40] ++ Lib.join xps [44,32] ++ [41,59,10]) (by rw [bs_append,bs_append,bs_append,bs_append,bs_append,← HTJ.out] <;> rfl) HWc1.out.bd (by have:=HWc1.out.size; omega) (by have:=HLM.out; simp only [List.length_append,List.length_cons,List.length_nil]; omega)).mono ?_; rintro _ wc2 ⟨rfl,hq⟩
       have HWc2:=Lib.hid (HWc1.out.trans hq)
       have HXc2:=Lib.hid (hq.blk HXc1.out (by decide) hNE)
       have HGc2:=Lib.hid (hq.blk HGc1.out (by decide) hnbc)
       clear hq
       have HX_0:=HXc2.out.cell 0 _ rfl; have HX_1:=HXc2.out.cell 1 _ rfl; have HX_2:=HXc2.out.cell 2 _ rfl; have HX_3:=HXc2.out.cell 3 _ rfl; have HX_4:=HXc2.out.cell 4 _ rfl
       have HG_0:=HGc2.out.cell 0 _ rfl; have HG_1:=HGc2.out.cell 1 _ rfl; have HG_2:=HGc2.out.cell 2 _ rfl; have HG_3:=HGc2.out.cell 3 _ rfl; have HG_4:=HGc2.out.cell 4 _ rfl; have HG_5:=HGc2.out.cell 5 _ rfl
       go_wp2_with fail
       have hs:=join_any xvs [44,32] wc2 F _ (HWc2.out.names HFB.out HNV.out) (by have:=HLM.out; omega) (names_len hfew2)
       rw [show str (Lib.join xvs [44,32]) = .string tv from congrArg Value.string HTV.out.symm] at hs
       refine (hs).mono ?_; rintro _ wc3 ⟨rfl,hq⟩
       have HWc3:=Lib.hid (HWc2.out.chg (by have:=HWc2.out.size; omega) hq)
       have HXc3:=Lib.hid (HXc2.out.kept hq (by simp))
       have HGc3:=Lib.hid (HGc2.out.kept hq (by simp))
       clear hq
       clear HX_0 HX_1 HX_2 HX_3 HX_4
       clear HG_0 HG_1 HG_2 HG_3 HG_4 HG_5
       have HX_0:=HXc3.out.cell 0 _ rfl; have HX_1:=HXc3.out.cell 1 _ rfl; have HX_2:=HXc3.out.cell 2 _ rfl; have HX_3:=HXc3.out.cell 3 _ rfl; have HX_4:=HXc3.out.cell 4 _ rfl
       have HG_0:=HGc3.out.cell 0 _ rfl; have HG_1:=HGc3.out.cell 1 _ rfl; have HG_2:=HGc3.out.cell 2 _ rfl; have HG_3:=HGc3.out.cell 3 _ rfl; have HG_4:=HGc3.out.cell 4 _ rfl; have HG_5:=HGc3.out.cell 5 _ rfl
       go_wp2_with fail
       clear hs
       refine (write_any _ ([118,97,114,32] ++ Lib.join xvs [44,32] ++ [59,10]) (by rw [bs_append,bs_append,← HTV.out] <;> rfl) HWc3.out.bd (by have:=HWc3.out.size; omega) (by have:=HLM.out; simp only [List.length_append,List.length_cons,List.length_nil]; omega)).mono ?_; rintro _ wc4 ⟨rfl,hq⟩
       have HWc4:=Lib.hid (HWc3.out.trans hq)
       have HXc4:=Lib.hid (hq.blk HXc3.out (by decide) hNE)
       have HGc4:=Lib.hid (hq.blk HGc3.out (by decide) hnbc)
       clear hq
       clear HX_0 HX_1 HX_2 HX_3 HX_4
       clear HG_0 HG_1 HG_2 HG_3 HG_4 HG_5
       have HX_0:=HXc4.out.cell 0 _ rfl; have HX_1:=HXc4.out.cell 1 _ rfl; have HX_2:=HXc4.out.cell 2 _ rfl; have HX_3:=HXc4.out.cell 3 _ rfl; have HX_4:=HXc4.out.cell 4 _ rfl
       have HG_0:=HGc4.out.cell 0 _ rfl; have HG_1:=HGc4.out.cell 1 _ rfl; have HG_2:=HGc4.out.cell 2 _ rfl; have HG_3:=HGc4.out.cell 3 _ rfl; have HG_4:=HGc4.out.cell 4 _ rfl; have HG_5:=HGc4.out.cell 5 _ rfl
       go_wp2_with fail
       refine (write_any _ ([98,101,103,105,110,10]) (rfl) HWc4.out.bd (by have:=HWc4.out.size; omega) (by have:=HLM.out; simp only [List.length_append,List.length_cons,List.length_nil]; omega)).mono ?_; rintro _ wc5 ⟨rfl,hq⟩
       have HWc5:=Lib.hid (HWc4.out.trans hq)
       have HXc5:=Lib.hid (hq.blk HXc4.out (by decide) hNE)
       have HGc5:=Lib.hid (hq.blk HGc4.out (by decide) hnbc)
       clear hq
       clear HX_0 HX_1 HX_2 HX_3 HX_4
       clear HG_0 HG_1 HG_2 HG_3 HG_4 HG_5
       have HX_0:=HXc5.out.cell 0 _ rfl; have HX_1:=HXc5.out.cell 1 _ rfl; have HX_2:=HXc5.out.cell 2 _ rfl; have HX_3:=HXc5.out.cell 3 _ rfl; have HX_4:=HXc5.out.cell 4 _ rfl
       have HG_0:=HGc5.out.cell 0 _ rfl; have HG_1:=HGc5.out.cell 1 _ rfl; have HG_2:=HGc5.out.cell 2 _ rfl; have HG_3:=HGc5.out.cell 3 _ rfl; have HG_4:=HGc5.out.cell 4 _ rfl; have HG_5:=HGc5.out.cell 5 _ rfl
       go_wp2_with fail
       refine ((stmts_all xb 10 HBO.out).1 F _ wc5 B (w.heap.size + 1) (w.heap.size + 1) _ ([32,32]) (HWc5.out.laid HL.out hB1) hB1 (by have:=HWc5.out.size; omega) HFB.out (HWc5.out.sl HFB.out HBB.out) HWc5.out.bd (by have:=HLM.out; simp only [List.length_append,List.length_cons,List.length_nil]; omega)).mono ?_; rintro _ wc6 ⟨rfl,hq⟩
       have HWc6:=Lib.hid (HWc5.out.trans hq)
       have HXc6:=Lib.hid (hq.blk HXc5.out (by decide) hNE)
       have HGc6:=Lib.hid (hq.blk HGc5.out (by decide) hnbc)
       clear hq
       clear HX_0 HX_1 HX_2 HX_3 HX_4
       clear HG_0 HG_1 HG_2 HG_3 HG_4 HG_5
       have HX_0:=HXc6.out.cell 0 _ rfl; have HX_1:=HXc6.out.cell 1 _ rfl; have HX_2:=HXc6.out.cell 2 _ rfl; have HX_3:=HXc6.out.cell 3 _ rfl; have HX_4:=HXc6.out.cell 4 _ rfl
       have HG_0:=HGc6.out.cell 0 _ rfl; have HG_1:=HGc6.out.cell 1 _ rfl; have HG_2:=HGc6.out.cell 2 _ rfl; have HG_3:=HGc6.out.cell 3 _ rfl; have HG_4:=HGc6.out.cell 4 _ rfl; have HG_5:=HGc6.out.cell 5 _ rfl
       go_wp2_with fail
       refine (write_any _ ([101,110,100,59,10]) (rfl) HWc6.out.bd (by have:=HWc6.out.size; omega) (by have:=HLM.out; simp only [List.length_append,List.length_cons,List.length_nil]; omega)).mono ?_; rintro _ wc7 ⟨rfl,hq⟩
       have HWc7:=Lib.hid (HWc6.out.trans hq)
       have HXc7:=Lib.hid (hq.blk HXc6.out (by decide) hNE)
       have HGc7:=Lib.hid (hq.blk HGc6.out (by decide) hnbc)
       clear hq
       clear HX_0 HX_1 HX_2 HX_3 HX_4
       clear HG_0 HG_1 HG_2 HG_3 HG_4 HG_5
       have HX_0:=HXc7.out.cell 0 _ rfl; have HX_1:=HXc7.out.cell 1 _ rfl; have HX_2:=HXc7.out.cell 2 _ rfl; have HX_3:=HXc7.out.cell 3 _ rfl; have HX_4:=HXc7.out.cell 4 _ rfl
       have HG_0:=HGc7.out.cell 0 _ rfl; have HG_1:=HGc7.out.cell 1 _ rfl; have HG_2:=HGc7.out.cell 2 _ rfl; have HG_3:=HGc7.out.cell 3 _ rfl; have HG_4:=HGc7.out.cell 4 _ rfl; have HG_5:=HGc7.out.cell 5 _ rfl
       go_wp2_with fail
       refine ⟨⟨k + 1,r,_,cs1 ++ [str xn,.int .i64 xp,.bool xse,.slice a1 xps.length k1,.slice a2 xvs.length k2,.slice a3 xb.len k3],cs',by go_num,by simp at hk; omega,by rw [HCSE.out]; simp,by simp [hl1]; omega,HR.out,HWc7.out,?_,HAL.out⟩,by simp [intOf]; omega⟩
       rw [← HTX.out]
       simp [procT,if_neg HVS.out]
   | cons g r=>
    have HTX:=Lib.hid htx
    obtain ⟨gn,gp,gl,gs⟩:=g
    have hg:=hal _ (List.mem_cons_self ..)
    have hal' : ∀ y∈r,WFG y:=fun y hy=>hal y (List.mem_cons_of_mem _ hy)
    have hlt : k < vs.length:=by simp at hk; omega
    have hgnl : gn.length≤10:=hg.name.2.2
    have hstl : (star gs).length≤1:=by cases gs <;> decide
    have hlo : 0≤gl:=hg.low
    have hhi : gl≤30:=hg.high
    have HAL:=Lib.hid hal'
    simp only [List.flatMap_cons,Glob.cells,List.cons_append,List.nil_append] at hcse
    clear hg hal hal' htx
    by_cases hgl : 0 < gl
    ·simp only [List.flatMap_cons,globT,if_pos hgl,List.length_append,List.length_cons,List.length_nil] at hln
     have HLM:=Lib.hid (show _∧T.length≤1099511627776 from ⟨hln,hTL⟩)
     obtain ⟨ti,hti⟩ : ∃ t:ByteArray,t=bs (Lib.itoa gl):=⟨_,rfl⟩
     have hzi : ti.size≤1099511627776:=by rw [hti,bs_size]; omega
     have HTI:=Lib.hid hti
     clear hti
     have HGL:=Lib.hid hgl
     clear hln hTL
     have hrw:=hwr.row HFB.out HGV.out
     rw [hcse] at hrw
     obtain ⟨bb,off,rfl,d0,d1,d2,d3⟩:=cells4 hrw hl1
     have hz:=Blk.new wr #[str [],.int .i64 0,.int .i64 0,.bool false] 84
     obtain ⟨wA,hwA⟩ : ∃ wA,wr.alloc (.cells #[str [],.int .i64 0,.int .i64 0,.bool false] 84)=wA:=⟨_,rfl⟩
     rw [hwA] at hz
     have hcA:Chg [] wr wA:=by rw [← hwA]; exact (Chg.refl _ _).alloc _
     obtain ⟨wF,hwF,hcF,hbF⟩:=set4 (str gn) (.int .i64 gp) (.int .i64 gl) (.bool gs) hz
     have hcw:Chg [] wr wF:=hcA.trans hcF (fun x hx=>.inr (by simp at hx; omega))
     have g0:=hcA.cellSome d0 (by simp); have g1:=hcA.cellSome d1 (by simp); have g2:=hcA.cellSome d2 (by simp); have g3:=hcA.cellSome d3 (by simp)
     have z0:=hz.cell 0 _ rfl; have z1:=hz.cell 1 _ rfl; have z2:=hz.cell 2 _ rfl; have z3:=hz.cell 3 _ rfl
     have y0:=hz.frozen 0; have y1:=hz.frozen 1; have y2:=hz.frozen 2; have y3:=hz.frozen 3
     have hsw:=hwr.size
     have HWc0:=Lib.hid (hwr.chg (by omega) hcw)
     have HXc0:=Lib.hid ((hwr.blk HX0.out (by decide) hNE).kept hcw (by simp))
     have HGc0:=Lib.hid hbF
     have hnbc : wr.heap.size≠w.heap.size + 1:=by have:=hwr.bd.lt; omega
     have HCSE:=Lib.hid hcse
     clear hrw hcA hcF hbF hcw hwr hz hcse
     have HX_0:=HXc0.out.cell 0 _ rfl; have HX_1:=HXc0.out.cell 1 _ rfl; have HX_2:=HXc0.out.cell 2 _ rfl; have HX_3:=HXc0.out.cell 3 _ rfl; have HX_4:=HXc0.out.cell 4 _ rfl
     have HG_0:=HGc0.out.cell 0 _ rfl; have HG_1:=HGc0.out.cell 1 _ rfl; have HG_2:=HGc0.out.cell 2 _ rfl; have HG_3:=HGc0.out.cell 3 _ rfl
     go_wp2_with fail
     clear hwA hwF d0 d1 d2 d3 g0 g1 g2 g3 z0 z1 z2 z3 y0 y1 y2 y3
     have hs:=itoa_any gl hlo (by omega) wF B (HWc0.out.laid HL.out hB1)
     rw [show str (Lib.itoa gl) = .string ti from congrArg Value.string HTI.out.symm] at hs
     refine (hs).mono ?_; rintro _ wc1 ⟨rfl,hq⟩
     have HWc1:=Lib.hid (HWc0.out.chg (by have:=HWc0.out.size; omega) hq)
     have HXc1:=Lib.hid (HXc0.out.kept hq (by simp))
     have HGc1:=Lib.hid (HGc0.out.kept hq (by simp))
     clear hq
     clear HX_0 HX_1 HX_2 HX_3 HX_4
     clear HG_0 HG_1 HG_2 HG_3
     have HX_0:=HXc1.out.cell 0 _ rfl; have HX_1:=HXc1.out.cell 1 _ rfl; have HX_2:=HXc1.out.cell 2 _ rfl; have HX_3:=HXc1.out.cell 3 _ rfl; have HX_4:=HXc1.out.cell 4 _ rfl
     have HG_0:=HGc1.out.cell 0 _ rfl; have HG_1:=HGc1.out.cell 1 _ rfl; have HG_2:=HGc1.out.cell 2 _ rfl; have HG_3:=HGc1.out.cell 3 _ rfl
     go_wp2_with fail
     clear hs
     refine wp_region_T [] rfl (by kernel_rfl) rfl ?_
     have hS:Chg [] wc1.drew wc1.drew:=Chg.refl _ _
     have HZ:=Lib.hid (Zone.of (X:=[]) (w0:=wc1.drew) (off:=0) (b:=wr.heap.size) HG_0 (by simp))
     have HLT:=Lib.hid (show wr.heap.size < wc1.drew.heap.size from HGc1.out.lt)
     have HDR:=Lib.hid ((Chg.refl [] wc1).drew)
     repeat ((with_reducible refine gX ?_); (first | refine wpX_nil ?_ | refine sK ?_ | refine sM fun _ _=>?_ | refine sL fun _ _=>?_ | refine sE fun _ _=>?_); go_wp2_with fail)
     refine (star_any _ _).mono ?_; rintro _ _ ⟨rfl,rfl⟩
     go_wp2_with fail
     refine And.intro (by assumption:Chg _ _ _) ?_
     repeat ((with_reducible refine gX ?_); (first | refine wpX_nil ?_ | refine sK ?_ | refine sM fun _ _=>?_ | refine sL fun _ _=>?_ | refine sE fun _ _=>?_); go_wp2_with fail)
     refine stepX_ef rfl rfl (fun _ _=>?_)
     change Oper.wp _ (Oper.mk _ _ _ _ _ _) _ _ _ _
     go_wp2_with fail
     have hq:=HDR.out.then (by assumption:Chg [] wc1.drew _)
     have HWc2:=Lib.hid (HWc1.out.chg (by have:=HWc1.out.size; omega) hq)
     have HXc2:=Lib.hid (HXc1.out.kept hq (by simp))
     have HGc2:=Lib.hid (HGc1.out.kept hq (by simp))
     clear hq hS
     clear HX_0 HX_1 HX_2 HX_3 HX_4
     clear HG_0 HG_1 HG_2 HG_3
     refine (write_any _ ([118,97,114,32] ++ gn ++ star gs ++ [58,32] ++ ([97,114,114,97,121,32] ++ Lib.itoa gl) ++ [59,10]) (by rw [bs_append,bs_append,bs_append,bs_append,bs_append,bs_append,← HTI.out] <;> rfl) HWc2.out.bd (by have:=HWc2.out.size; omega) (by have:=HLM.out; simp only [List.length_append,List.length_cons,List.length_nil]; omega)).mono ?_; rintro _ wc3 ⟨rfl,hq⟩
     have HWc3:=Lib.hid (HWc2.out.trans hq)
     clear hq
     go_wp2_with fail
     refine ⟨⟨k + 1,r,_,cs1 ++ [str gn,.int .i64 gp,.int .i64 gl,.bool gs],by go_num,by simp at hk; omega,by rw [HCSE.out]; simp,by simp [hl1]; omega,HWc3.out,?_,HAL.out⟩,by simp [intOf]; omega⟩
     rw [← HTX.out]
     simp [globT,if_pos (show 0 < gl by have:=HGL.out; omega)]
    ·simp only [List.flatMap_cons,globT,if_neg hgl,List.length_append,List.length_cons,List.length_nil] at hln
     have HLM:=Lib.hid (show _∧T.length≤1099511627776 from ⟨hln,hTL⟩)
     have HGL:=Lib.hid hgl
     clear hln hTL
     have hrw:=hwr.row HFB.out HGV.out
     rw [hcse] at hrw
     obtain ⟨bb,off,rfl,d0,d1,d2,d3⟩:=cells4 hrw hl1
     have hz:=Blk.new wr #[str [],.int .i64 0,.int .i64 0,.bool false] 84
     obtain ⟨wA,hwA⟩ : ∃ wA,wr.alloc (.cells #[str [],.int .i64 0,.int .i64 0,.bool false] 84)=wA:=⟨_,rfl⟩
     rw [hwA] at hz
     have hcA:Chg [] wr wA:=by rw [← hwA]; exact (Chg.refl _ _).alloc _
     obtain ⟨wF,hwF,hcF,hbF⟩:=set4 (str gn) (.int .i64 gp) (.int .i64 gl) (.bool gs) hz
     have hcw:Chg [] wr wF:=hcA.trans hcF (fun x hx=>.inr (by simp at hx; omega))
     have g0:=hcA.cellSome d0 (by simp); have g1:=hcA.cellSome d1 (by simp); have g2:=hcA.cellSome d2 (by simp); have g3:=hcA.cellSome d3 (by simp)
     have z0:=hz.cell 0 _ rfl; have z1:=hz.cell 1 _ rfl; have z2:=hz.cell 2 _ rfl; have z3:=hz.cell 3 _ rfl
     have y0:=hz.frozen 0; have y1:=hz.frozen 1; have y2:=hz.frozen 2; have y3:=hz.frozen 3
     have hsw:=hwr.size
     have HWc0:=Lib.hid (hwr.chg (by omega) hcw)
     have HXc0:=Lib.hid ((hwr.blk HX0.out (by decide) hNE).kept hcw (by simp))
     have HGc0:=Lib.hid hbF
     have hnbc : wr.heap.size≠w.heap.size + 1:=by have:=hwr.bd.lt; omega
     have HCSE:=Lib.hid hcse
     clear hrw hcA hcF hbF hcw hwr hz hcse
     have HX_0:=HXc0.out.cell 0 _ rfl; have HX_1:=HXc0.out.cell 1 _ rfl; have HX_2:=HXc0.out.cell 2 _ rfl; have HX_3:=HXc0.out.cell 3 _ rfl; have HX_4:=HXc0.out.cell 4 _ rfl
     have HG_0:=HGc0.out.cell 0 _ rfl; have HG_1:=HGc0.out.cell 1 _ rfl; have HG_2:=HGc0.out.cell 2 _ rfl; have HG_3:=HGc0.out.cell 3 _ rfl
     go_wp2_with fail
     clear hwA hwF d0 d1 d2 d3 g0 g1 g2 g3 z0 z1 z2 z3 y0 y1 y2 y3
     refine wp_region_T [] rfl (by kernel_rfl) rfl ?_
     have hS:Chg [] wF.drew wF.drew:=Chg.refl _ _
     have HZ:=Lib.hid (Zone.of (X:=[]) (w0:=wF.drew) (off:=0) (b:=wr.heap.size) HG_0 (by simp))
     have HLT:=Lib.hid (show wr.heap.size < wF.drew.heap.size from HGc0.out.lt)
     have HDR:=Lib.hid ((Chg.refl [] wF).drew)
     repeat ((with_reducible refine gX ?_); (first | refine wpX_nil ?_ | refine sK ?_ | refine sM fun _ _=>?_ | refine sL fun _ _=>?_ | refine sE fun _ _=>?_); go_wp2_with fail)
     refine (star_any _ _).mono ?_; rintro _ _ ⟨rfl,rfl⟩
     go_wp2_with fail
     refine And.intro (by assumption:Chg _ _ _) ?_
     repeat ((with_reducible refine gX ?_); (first | refine wpX_nil ?_ | refine sK ?_ | refine sM fun _ _=>?_ | refine sL fun _ _=>?_ | refine sE fun _ _=>?_); go_wp2_with fail)
     refine stepX_ef rfl rfl (fun _ _=>?_)
     change Oper.wp _ (Oper.mk _ _ _ _ _ _) _ _ _ _
     go_wp2_with fail
     have hq:=HDR.out.then (by assumption:Chg [] wF.drew _)
     have HWc1:=Lib.hid (HWc0.out.chg (by have:=HWc0.out.size; omega) hq)
     have HXc1:=Lib.hid (HXc0.out.kept hq (by simp))
     have HGc1:=Lib.hid (HGc0.out.kept hq (by simp))
     clear hq hS
     clear HX_0 HX_1 HX_2 HX_3 HX_4
     clear HG_0 HG_1 HG_2 HG_3
     refine (write_any _ ([118,97,114,32] ++ gn ++ star gs ++ [58,32] ++ ([105,110,116]) ++ [59,10]) (by rw [bs_append,bs_append,bs_append,bs_append,bs_append] <;> rfl) HWc1.out.bd (by have:=HWc1.out.size; omega) (by have:=HLM.out; simp only [List.length_append,List.length_cons,List.length_nil]; omega)).mono ?_; rintro _ wc2 ⟨rfl,hq⟩
     have HWc2:=Lib.hid (HWc1.out.trans hq)
     clear hq
     go_wp2_with fail
     refine ⟨⟨k + 1,r,_,cs1 ++ [str gn,.int .i64 gp,.int .i64 gl,.bool gs],by go_num,by simp at hk; omega,by rw [HCSE.out]; simp,by simp [hl1]; omega,HWc2.out,?_,HAL.out⟩,by simp [intOf]; omega⟩
     rw [← HTX.out]
     simp [globT,if_neg (show ¬ 0 < gl by have:=HGL.out; omega)]
end Go.Proofs.YtojkkgghndeimaaGreatDoor
namespace Go.Mq.Tree
open Go Go.RowKit Go.Mq
theorem qual_le {m n:List UInt8} (hm:Qm m) (hn:Nm n) : (qualT m n).length≤24 * (qualK m n).length:=by
 have h1:=hn.2.2
 rw [qualT,qualK]
 split
 ·simp; omega
 ·rename_i h0
  rcases hm with h | h
  ·exact absurd h h0
  ·have:=h.2.2; simp; omega
theorem within_le24 {lv:Nat} {x:E} (h : (text x).length≤24 * (toks x).length) : (within lv x (text x)).length≤24 * (withinK lv x (toks x)).length:=by
 rw [within,withinK]
 split
 ·exact h
 ·simp; omega
theorem op_len3 : ∀ k < 5,∀ op∈levels.getD (4 - k) [],op.length≤10:=by decide
theorem text_le : ∀ x:E,WF x→(text x).length≤24 * (toks x).length
 | .num _ n,h=>by have:=Lib.itoa_length_le n (by have:=h.1; omega) h.2; simp only [text,toks,List.length_cons,List.length_nil]; omega
 | .var _ m n,h=>by simpa [text,toks] using qual_le h.1 h.2
 | .item _ m n i,h=>by
  have h1:=qual_le h.1 h.2.1
  have h2:=text_le i h.2.2.1
  simp only [text,toks,List.length_append,List.length_cons,List.length_nil]; omega
 | .un _ op x,h=>by
  have h2:=within_le24 (lv:=5) (text_le x h.2.1)
  have h3 : (if op=[110,111,116] then [110,111,116,32] else [45] : List UInt8).length≤4:=by split <;> decide
  simp only [text,toks,List.length_append,List.length_cons]; omega
 | .bin _ op x y,h=>by
  obtain ⟨k,hk,hop⟩:=h.1
  have h1:=op_len3 k hk op hop
  have h2:=within_le24 (lv:=opLevel op) (text_le x h.2.1.1)
  have h3:=within_le24 (lv:=opLevel op + 1) (text_le y h.2.2.1)
  simp only [text,toks,List.length_append,List.length_cons,List.length_nil]; omega
 | .app _ m n l,h=>by
  have h1:=qual_le h.1 h.2.1
  have h2:=text_le l h.2.2.1
  simp only [text,toks,List.length_append,List.length_cons,List.length_nil]; omega
 | .nil,_=>by simp [text]
 | .cons x r,h=>by
  have h1:=text_le x h.1.1
  have h2:=text_le r h.2.1
  cases r with
  | nil=>simpa only [text,toks] using h1
  | _=>simp only [text,toks,List.length_append,List.length_cons,List.length_nil] at h1 h2 ⊢; omega
theorem stmts_le : ∀ (s:S) (d:Nat),WFS d s → ∀ tab:List UInt8,tab.length + 2 * d≤22→(stmtsT s tab).length≤80 * (stmtK s).length
 | .nil,_,_,_,_=>by simp [stmtsT]
 | .set _ n i v r,d,h,tab,ht=>by
  have h1:=stmts_le r d h.2.2.2 tab ht
  have h2:=text_le v h.2.2.1.1.1
  have h3:=h.1.2.2
  cases i with
  | none=>simp only [stmtsT,stmtK,indexK,List.length_append,List.length_cons,List.length_nil]; omega
  | some y=>
   have h4:=text_le y (h.2.1 y rfl).1.1
   simp only [stmtsT,stmtK,indexK,List.length_append,List.length_cons,List.length_nil]; omega
 | .ret _ v r,d,h,tab,ht=>by
  have h1:=stmts_le r d h.2 tab ht
  have h2:=text_le v h.1.1.1
  simp only [stmtsT,stmtK,List.length_append,List.length_cons,List.length_nil]; omega
 | .wri _ v r,d,h,tab,ht=>by
  have h1:=stmts_le r d h.2 tab ht
  have h2:=text_le v h.1.1.1
  simp only [stmtsT,stmtK,List.length_append,List.length_cons,List.length_nil]; omega
 | .call _ v r,d,h,tab,ht=>by
  have h1:=stmts_le r d h.2 tab ht
  have h2:=text_le v h.1.1.1.1
  simp only [stmtsT,stmtK,List.length_append,List.length_cons,List.length_nil]; omega
 | .whil _ v t r,d,h,tab,ht=>by
  have h0:=h.2.1.1
  have h1:=stmts_le r d h.2.2 tab ht
  have h2:=text_le v h.1.1.1
  have h3:=stmts_le t (d - 1) h.2.1.2 (tab ++ [32,32]) (by simp; omega)
  simp only [stmtsT,stmtK,List.length_append,List.length_cons,List.length_nil] at h3 ⊢; omega
 | .ifs _ v t e r,d,h,tab,ht=>by
  have h0:=h.2.1.1.1
  have h1:=stmts_le r d h.2.2 tab ht
  have h2:=text_le v h.1.1.1
  have h3:=stmts_le t (d - 1) h.2.1.1.2 (tab ++ [32,32]) (by simp; omega)
  have h4:=stmts_le e (d - 1) h.2.1.2.2 (tab ++ [32,32]) (by simp; omega)
  have h5 : (if e.isNil then [] else tab ++ [101,108,115,101,10] ++ stmtsT e (tab ++ [32,32])).length≤80 * (if e.isNil then [] else [101,108,115,101] :: stmtK e).length:=by
   split
   ·simp
   ·simp only [List.length_append,List.length_cons,List.length_nil] at h4 ⊢; omega
  simp only [stmtsT,stmtK,List.length_append,List.length_cons,List.length_nil] at h3 h5 ⊢; omega
theorem names_le12 : ∀ l:List (List UInt8),(∀ n∈l,Nm n)→(Lib.join l [44,32]).length≤12 * (namesK l).length
 | [],_=>by simp [Lib.join_nil]
 | [n],h=>by rw [Lib.join_one]; have:=(h n (by simp)).2.2; simp [namesK]; omega
 | n :: m :: r,h=>by
  have ih:=names_le12 (m :: r) (fun x hx=>h x (by simp [hx]))
  have:=(h n (by simp)).2.2
  rw [join_more]
  simp only [namesK,List.length_append,List.length_cons,List.length_nil]; omega
theorem head_le {w:List UInt8} {l:List (List UInt8)} (hw : w.length≤6) (h : ∀ n∈l,Nm n) : (if l=[] then [] else w ++ [32] ++ Lib.join l [44,32] ++ [59,10] : List UInt8).length≤80 * (headK w l).length:=by
 rw [headK]
 have:=names_le12 l h
 split
 ·simp
 ·simp only [List.length_append,List.length_cons,List.length_nil]; omega
theorem glob_le {g:Glob} (h:WFG g) : (globT g).length≤80 * (globK g).length:=by
 have h1:=h.name.2.2
 have h2:=Lib.itoa_length_le g.len (by have:=h.low; omega) (by have:=h.high; omega)
 have h3 : (star g.seen).length≤1:=by cases g.seen <;> decide
 have h4 : (if 0 < g.len then [97,114,114,97,121,32] ++ Lib.itoa g.len else [105,110,116] : List UInt8).length≤27:=by split <;> simp <;> omega
 simp only [globT,globK,List.length_append,List.length_cons,List.length_nil]; omega
theorem proc_le {x:Proc} (h:WFP x) : (procT x).length≤80 * (procK x).length:=by
 have h1:=h.name.2.2
 have h3 : (star x.seen).length≤1:=by cases x.seen <;> decide
 have h4:=names_le12 x.params h.params
 have h5:=head_le (w:=[118,97,114]) (by decide) h.vars
 have h6:=stmts_le x.body 10 h.body [32,32] (by decide)
 simp only [List.cons_append,List.nil_append] at h5
 simp only [procT,procK,List.length_append,List.length_cons,List.length_nil,List.cons_append,List.nil_append] at h5 ⊢; omega
theorem flat_le {α:Type} {f : α→List UInt8} {g : α→List (List UInt8)} {P : α→Prop} (h : ∀ x,P x→(f x).length≤80 * (g x).length) : ∀ l:List α,(∀ x∈l,P x)→(l.flatMap f).length≤80 * (l.flatMap g).length
 | [],_=>by simp
 | x :: r,hl=>by
  have h1:=h x (hl x (by simp))
  have h2:=flat_le h r (fun y hy=>hl y (by simp [hy]))
  rw [List.flatMap_cons,List.flatMap_cons,List.length_append,List.length_append]; omega
theorem mod_le {m:Mod} (h:WFM m) : (modT m).length≤80 * (modK m).length:=by
 have h1:=h.name.2.2
 have h5:=head_le (w:=[105,109,112,111,114,116]) (by decide) h.imports
 have h6:=stmts_le m.body 10 h.body [32,32] (by decide)
 have h7:=flat_le (f:=globT) (g:=globK) (fun x hx=>glob_le hx) m.vars h.vars
 have h8:=flat_le (f:=procT) (g:=procK) (fun x hx=>proc_le hx) m.procs h.procs
 rw [show modT m=[109,111,100,117,108,101,32] ++ m.name ++ [59,10] ++ (if m.imports=[] then [] else [105,109,112,111,114,116] ++ [32] ++ Lib.join m.imports [44,32] ++ [59,10]) ++ m.vars.flatMap globT ++ m.procs.flatMap procT ++ [98,101,103,105,110,10] ++ stmtsT m.body [32,32] ++ [101,110,100,46,10] from rfl]
 generalize (if m.imports=[] then [] else [105,109,112,111,114,116] ++ [32] ++ Lib.join m.imports [44,32] ++ [59,10] : List UInt8)=I at h5 ⊢
 simp only [modK,List.length_append,List.length_cons,List.length_nil]; omega
theorem parse_le {l:List UInt8} {m:Mod} (h : parse l = .ok m):WFM m∧(modT m).length≤80 * l.length:=by
 obtain ⟨h1,h2⟩:=parse_sp h
 have:=mod_le h1
 exact ⟨h1,by omega⟩
end Go.Mq.Tree
