/- Some texts in one. -/
import Derived.Test.YtilhhkokdfajiaaGreatDoorI21
import Derived.Test.YtilhhkokdfajiaaGreatDoorI22
import Derived.Test.YtilhhkokdfajiaaGreatDoorI25
namespace Go.Proofs.YtilhhkokdfajiaaGreatDoor
open Go Go.RowKit Go.Mq Go.Mq.Tree Go.Mq.Sym Go.Mq.Check
open Go.Mq.Used (usedL useM_len cntP cntS cntM_le)
set_option maxRecDepth 100000
set_option maxHeartbeats 16000000
theorem next_tyI {r:Nat} {w w':World} {v:Value} {ty:TypeId} (h : (Instr.next (.pointer (some ⟨r,0,none⟩)) false ty).run Tryz.prog w = .ok v w') : ∀ ty',(Instr.next (.pointer (some ⟨r,0,none⟩)) false ty').run Tryz.prog w = .ok v w':=fun _=>h
theorem imports_any (s:List UInt8) (others:List (List UInt8)) (hs63 : s.length≤9223372036854775807) (hn63 : others.length≤9223372036854775807) (hz : ∀ n∈others,n.length≤9223372036854775807) (F:Nat→Prop) (a:Option Addr) (c:Nat) (w:World) (B:Nat) (hL:Laid w B) (hg:ErrLaid w) (hF : ∀ x,F x→x < w.heap.size) (h:NamesAt w F others (.slice a others.length c)) :
  Calls Tryz.prog 3 #[str s,.slice a others.length c] w (Holds w):=by
 by_cases h1 : 1000 < s.length
 ·go_enter Tryz.func3,Tryz.ntmps3
  go_wp2_with fail
  go_ret
  exact ⟨rfl,Chg.refl _ _⟩
 have HSH:=Lib.hid (short_any others hn63 hz F a c w h)
 have HL:=Lib.hid hL; have HG:=Lib.hid hg; have HFB:=Lib.hid hF; have HN:=Lib.hid h
 clear hL hg hF h hz
 go_enter Tryz.func3,Tryz.ntmps3
 go_wp2_with fail
 refine HSH.out.mono ?_; rintro _ w1 ⟨q,rfl,hq,hc1⟩
 have HQ:=Lib.hid hq; have HC1:=Lib.hid hc1
 clear hq hc1 hn63
 cases q with
 | false=>
  go_wp2_with fail
  go_ret
  exact ⟨rfl,HC1.out⟩
 | true=>
  obtain ⟨hf5,hf9⟩:=HQ.out rfl
  have HF9:=Lib.hid hf9
  clear hf9
  have HCK:=Lib.hid (checked_any w1 B (HL.out.kept HC1.out (by simp)) (HG.out.kept HC1.out (by simp)))
  go_wp2_with fail
  refine HCK.out.mono ?_; rintro _ w2 ⟨rfl,hc2⟩
  have HC2:=Lib.hid (HC1.out.then hc2)
  clear hc2
  have HPA:=Lib.hid (parse_any s (by omega) w2 B (HL.out.kept HC2.out (by simp)))
  cases hp : parse s with
  | bad en q=>
   rw [hp] at HPA
   clear hp
   go_wp2_with fail
   refine HPA.out.mono ?_; rintro _ w3 ⟨hc3,b3,rfl,_,_⟩
   have hz:=Blk.new w3 #[str [],nils,nils,nils,nils] 29
   obtain ⟨wA,hwA⟩ : ∃ w',w3.alloc (.cells #[str [],nils,nils,nils,nils] 29)=w':=⟨_,rfl⟩
   rw [hwA] at hz
   have hcA:Chg [] w3 wA:=by rw [← hwA]; exact (Chg.refl _ _).alloc _
   obtain ⟨wF,hwF,hcF,hbF⟩:=set5 (str []) nils nils nils nils hz
   have HCF:=Lib.hid (HC2.out.then (hc3.then (hcA.trans hcF (fun x hx=>.inr (by simp at hx; omega)))))
   have z0:=hz.cell 0 _ rfl; have z1:=hz.cell 1 _ rfl; have z2:=hz.cell 2 _ rfl; have z3:=hz.cell 3 _ rfl; have z4:=hz.cell 4 _ rfl
   have y0:=hz.frozen 0; have y1:=hz.frozen 1; have y2:=hz.frozen 2; have y3:=hz.frozen 3; have y4:=hz.frozen 4
   clear hc3 hz hcA hcF hbF
   go_wp2_with fail
   go_ret
   exact ⟨rfl,HCF.out⟩
  | ok m=>
   rw [hp] at HPA
   have HFM:=Lib.hid (few_mod (by omega) hp)
   obtain ⟨hwf,hmk⟩:=parse_sp hp
   have HWF:=Lib.hid hwf
   have HCN:=Lib.hid (show cntP m.procs + cntS m.body≤1000 by have:=cntM_le m; omega)
   clear hwf hmk
   clear hp
   go_wp2_with fail
   refine HPA.out.mono ?_; rintro _ w3 ⟨hc3,v,rfl,hmod⟩
   obtain ⟨vi,vv,vp,vb,rfl,⟨ai,ci,rfl,hi1,hi2⟩,⟨av,cv,rfl,hv1,hv2⟩,⟨ap,cp,pcs,rfl,hp1,hp2,hp3⟩,⟨ab,cb,bcs,rfl,hb1,hb2,hb3⟩⟩:=hmod
   have HMO:=Lib.hid (show ModAt w3 (New w2 w3) m (.agg #[str m.name,.slice ai m.imports.length ci,.slice av m.vars.length cv,.slice ap m.procs.length cp,.slice ab m.body.len cb]) from ⟨_,_,_,_,rfl,⟨ai,ci,rfl,hi1,hi2⟩,⟨av,cv,rfl,hv1,hv2⟩,⟨ap,cp,pcs,rfl,hp1,hp2,hp3⟩,⟨ab,cb,bcs,rfl,hb1,hb2,hb3⟩⟩)
   have HIM:=Lib.hid hi2; have HVA:=Lib.hid hv2; have HPO:=Lib.hid hp2; have HPP:=Lib.hid hp3
   have HBO:=Lib.hid (show SlAt w3 (New w2 w3) m.body (.slice ab m.body.len cb) from ⟨ab,cb,bcs,rfl,hb1,hb2,hb3⟩)
   have hz:=Blk.new w3 #[str [],nils,nils,nils,nils] 29
   obtain ⟨wA,hwA⟩ : ∃ w',w3.alloc (.cells #[str [],nils,nils,nils,nils] 29)=w':=⟨_,rfl⟩
   rw [hwA] at hz
   have hcA:Chg [] w3 wA:=by rw [← hwA]; exact (Chg.refl _ _).alloc _
   obtain ⟨wF,hwF,hcF,hbF⟩:=set5 (str m.name) (.slice ai m.imports.length ci) (.slice av m.vars.length cv) (.slice ap m.procs.length cp) (.slice ab m.body.len cb) hz
   have hc3F:Chg [] w3 wF:=hcA.trans hcF (fun x hx=>.inr (by simp at hx; omega))
   have z0:=hz.cell 0 _ rfl; have z1:=hz.cell 1 _ rfl; have z2:=hz.cell 2 _ rfl; have z3:=hz.cell 3 _ rfl; have z4:=hz.cell 4 _ rfl
   have y0:=hz.frozen 0; have y1:=hz.frozen 1; have y2:=hz.frozen 2; have y3:=hz.frozen 3; have y4:=hz.frozen 4
   have HC3:=Lib.hid (HC2.out.then hc3); have H3F:=Lib.hid hc3F; have HBM:=Lib.hid hbF
   have HL3F:=Lib.hid (show w3.heap.size < wF.heap.size from hbF.lt)
   have HSY:=Lib.hid (syms_any others hf5 HF9.out F a c wF B (HL.out.kept (HC3.out.then hc3F) (by simp)) (fun x hx=>by have:=HFB.out x hx; have:=(HC3.out.then hc3F).size; omega) (HN.out.kept (HC3.out.then hc3F) (by simp)))
   clear hc3 hz hcA hcF hbF hc3F hi2 hv2 hp2 hp3 hb2 hb3 hb1
   go_wp2_with fail
   clear hwA hwF z0 z1 z2 z3 z4 y0 y1 y2 y3 y4
   refine HSY.out.mono ?_; rintro _ w4 ⟨rfl,hin,hc4⟩
   have HS4:=Lib.hid hin; have H4:=Lib.hid (H3F.out.then hc4); have HF4:=Lib.hid hc4
   have hs4:=hc4.size
   have hl3:=HL3F.out
   obtain ⟨sn,hsn⟩ : ∃ f,f=symsF others:=⟨_,rfl⟩
   rw [← hsn] at HS4
   have HB4:=Lib.hid (HBM.out.kept hc4 (by simp))
   have HCA:=Lib.hid (ccheck_any m HFM.out sn (fun x=>x < w4.heap.size) _ _ w4 (fun _ h=>h) ((HMO.out.kept H4.out (by simp)).mono fun x hx=>by have:=hx.2; have:=H4.out.size; omega) (HS4.out.at_ (fun x hx=>hx.2) (by show wF.heap.size < w4.heap.size; obtain ⟨es,h,_⟩:=HS4.out; exact h.lt)))
   have x0:=HB4.out.cell 0 _ rfl; have x1:=HB4.out.cell 1 _ rfl; have x2:=HB4.out.cell 2 _ rfl; have x3:=HB4.out.cell 3 _ rfl; have x4:=HB4.out.cell 4 _ rfl
   clear hin hc4 hsn
   cases hck : check m sn with
   | plain e=>
    rw [hck] at HCA
    clear hck
    go_wp2_with fail
    refine HCA.out.mono ?_; rintro _ w5 ⟨hc5,rfl⟩
    have HC5:=Lib.hid ((HC3.out.then H4.out).then hc5)
    clear hc5
    go_wp2_with fail
    go_ret
    exact ⟨rfl,HC5.out⟩
   | at_ e p=>
    rw [hck] at HCA
    clear hck
    go_wp2_with fail
    refine HCA.out.mono ?_; rintro _ w5 ⟨hc5,b5,rfl,_,_⟩
    have HC5:=Lib.hid ((HC3.out.then H4.out).then hc5)
    clear hc5
    go_wp2_with fail
    go_ret
    exact ⟨rfl,HC5.out⟩
   | fine=>
    rw [hck] at HCA
    have HFI:=Lib.hid hck
    clear hck
    go_wp2_with fail
    clear x0 x1 x2 x3 x4
    refine HCA.out.mono ?_; rintro _ w5 ⟨hc5,rfl⟩
    have HS5:=Lib.hid (show SeenIn w5 wF.heap.size (fun x=>wF.heap.size < x∧x < w4.heap.size) sn from HS4.out.kept hc5 (by simp) (by simp))
    have H5:=Lib.hid (H4.out.then hc5)
    have HB5:=Lib.hid (HB4.out.kept hc5 (by simp))
    have hs5:=hc5.size
    clear hc5
    have hmf : ∀ (fn:Fn) (first cap:Array Value) (w:World),(Instr.makeFunc fn first cap).run Tryz.prog w = .ok (.func fn first cap) w:=fun _ _ _ _=>rfl
    have hmm:=@run_makeMap Tryz.prog
    obtain ⟨wL,hwL⟩ : ∃ y,w5.alloc (.map #[] 0)=y:=⟨_,rfl⟩
    have hcL:Chg [] w5 wL:=by rw [← hwL]; exact (Chg.refl _ _).alloc _
    have hsL : wL.heap.size=w5.heap.size + 1:=by rw [← hwL]; simp
    have HLS:=Lib.hid (show LessIn wL w5.heap.size [] (fun _=>none) by rw [← hwL]; exact LessIn.made w5)
    obtain ⟨lb,hlb⟩ : ∃ y,y=w5.heap.size:=⟨_,rfl⟩
    have HSZ:=Lib.hid (show wL.heap.size=lb + 1∧w4.heap.size≤lb∧w3.heap.size < lb∧wF.heap.size < lb∧w3.heap.size < wF.heap.size by
     have:=hs4; obtain ⟨es,h,_⟩:=HS4.out; have:=h.lt; have:=HL3F.out; omega)
    rw [← hlb] at HLS
    have HC5L:=Lib.hid (H5.out.then hcL)
    have HCW:=Lib.hid (HC3.out.then HC5L.out)
    have HWB:=Lib.hid (show w.heap.size≤lb by rw [hlb]; exact (HC3.out.then H5.out).size)
    have HSNL:=Lib.hid (HS5.out.kept hcL (by simp) (by simp)); have HBL:=Lib.hid (HB5.out.kept hcL (by simp))
    have x1:=HBL.out.cell 1 _ rfl
    have him:=HFM.out.imports
    clear hcL hsL hs5 hs4 hl3
    go_wp2_with fail
    clear hwL x1
    rw [← hlb]
    clear hlb
    have HAT:=Lib.hid (show ∀ wx,Chg [lb] wL wx→Chg [] w wx∧Blk wx w3.heap.size #[str m.name,.slice ai m.imports.length ci,.slice av m.vars.length cv,.slice ap m.procs.length cp,.slice ab m.body.len cb] 29∧ModAt wx (New w2 w3) m (.agg #[str m.name,.slice ai m.imports.length ci,.slice av m.vars.length cv,.slice ap m.procs.length cp,.slice ab m.body.len cb])∧SeenIn wx wF.heap.size (fun x=>wF.heap.size < x∧x < w4.heap.size) sn∧Row wx (New w2 w3) ai (m.imports.map str) from fun wx hc=>by
     have hz:=HSZ.out
     exact ⟨HCW.out.trans hc (fun x hx=>.inr (by have:=HWB.out; simp at hx; omega)),HBL.out.kept hc (by simp; omega),(HMO.out.kept HC5L.out (by simp)).kept hc (fun x hx hn=>by simp at hx; have:=hn.2; omega),HSNL.out.kept hc (by simp; omega) (fun x hx hn=>by simp at hx; have:=hn.2; omega),(HIM.out.kept HC5L.out (by simp)).kept hc (fun x hx hn=>by simp at hx; have:=hn.2; omega)⟩)
    go_loopw [9,10,11] (fun i _ _ wr=>∃ (k:Nat) (es:List (List UInt8 × Value)),i = .int .i64 k∧k≤m.imports.length∧LessIn wr lb es (fun n=>if n∈m.imports.take k then some (((sn n).getD []).filter fun s=>decide (s.name∈usedL n m)) else none)∧Chg [lb] wL wr) (fun i _ _ _=>m.imports.length - (intOf i).toNat)
    case atStart=>exact ⟨0,[],rfl,Nat.zero_le _,HLS.out.congr fun n=>by simp,Chg.refl _ _⟩
    case round=>
     obtain ⟨k,es,rfl,hk,hls,hc⟩:=hrel
     have HLK:=Lib.hid hls; have HC:=Lib.hid hc
     obtain ⟨wO,hwO⟩ : ∃ x,x=wr:=⟨_,rfl⟩
     subst hwO
     obtain ⟨hcw,hbm,hmo,hsn,hir⟩:=HAT.out wO hc
     have HCO:=Lib.hid hcw; have HMO2:=Lib.hid hmo
     obtain ⟨x0,x1,x2,x3,x4⟩:=hbm.five
     have hszO:=hc.size
     clear hls hc hbm hcw hmo
     by_cases hlt : k < m.imports.length
     ·obtain ⟨n,hn⟩ : ∃ n,m.imports[k]?=some n:=⟨m.imports[k],List.getElem?_eq_getElem hlt⟩
      obtain ⟨bb,oo,rfl,d0⟩:=names_cell hir hn
      have HN:=Lib.hid hn
      have HUS:=Lib.hid (used_any m HFM.out HCN.out n (New w2 w3) _ wO (fun x hx=>by have:=hx.2; have:=HSZ.out; omega) HMO2.out)
      obtain ⟨us,hus⟩ : ∃ y,y=usedL n m:=⟨_,rfl⟩
      rw [← hus] at HUS
      have husl : us.length≤1000:=by rw [hus,usedL,List.length_mergeSort]; exact Nat.le_trans (useM_len n m) HCN.out
      have HUE:=Lib.hid hus
      clear hn hir hus hsn
      go_wp2_with fail
      refine HUS.out.mono ?_; rintro _ w6 ⟨u,rfl,hu,hc6⟩
      have HU:=Lib.hid hu
      obtain ⟨ua,uc,rfl,_,_⟩:=hu
      obtain ⟨wU,hwU⟩ : ∃ y,w6.alloc (.cells #[Value.slice ua us.length uc] 22)=y:=⟨_,rfl⟩
      have hcU:Chg [] w6 wU:=by rw [← hwU]; exact (Chg.refl _ _).alloc _
      have hbU:Blk wU w6.heap.size #[Value.slice ua us.length uc] 22:=by rw [← hwU]; exact Blk.new w6 _ _
      have HBU:=Lib.hid hbU
      have HCU:=Lib.hid (HC.out.then (hc6.then hcU).weak)
      have HLU:=Lib.hid (HLK.out.kept (hc6.then hcU) (by simp))
      have HUU:=Lib.hid (HU.out.kept hcU (by simp))
      have HOU:=Lib.hid (HCO.out.then (hc6.then hcU))
      have hsU : wO.heap.size≤w6.heap.size∧w6.heap.size < wU.heap.size:=⟨hc6.size,hbU.lt⟩
      have HSU:=Lib.hid hsU
      obtain ⟨_,_,_,hsnU,_⟩:=HAT.out wU HCU.out
      obtain ⟨su,hlk,_,hsl,hsy⟩:=look_seen (hsnU.at_ (F:=fun x=>wF.heap.size≤x∧x < w4.heap.size) (fun x hx=>⟨by omega,hx.2⟩) ⟨Nat.le_refl _,by obtain ⟨es,h,_⟩:=HS4.out; exact h.lt⟩) n
      have hlu:=hlk wU (Chg.refl _ _)
      obtain ⟨L,hL⟩ : ∃ y,y=(sn n).getD []:=⟨_,rfl⟩
      rw [← hL] at hsl hsy
      have HCLN:=Lib.hid (clone_any L hsl _ su wU hsy)
      have HLE:=Lib.hid hL
      obtain ⟨sa,sc,rfl,_,_,_⟩:=hsy
      clear hc6 hcU hbU hsU hsnU hlk hL d0 x0 x1 x2 x3 x4
      go_wp2_with fail
      clear hwU
      refine HCLN.out.mono ?_; rintro _ w7 ⟨cv7,rfl,hown,hfr,hc7⟩
      have HF7:=Lib.hid hfr
      have h67:=hc7.size
      have hsu:=HSU.out
      have HB7:=Lib.hid (HBU.out.kept hc7 (by simp)); have HU7:=Lib.hid (HUU.out.kept hc7 (by simp))
      have HC7:=Lib.hid (HCU.out.then hc7.weak); have HL7:=Lib.hid (HLU.out.kept hc7 (by simp))
      have HS67:=Lib.hid h67
      have HLT7:=Lib.hid (fun g hg=>owns_lt hown g hg)
      have HCUT:=Lib.hid (cut_any #[ptr w6.heap.size] 12 fun1 L hsl (fun x=>!decide (x.name∈us)) cv7 w7 hown (fun x hx w' hc'=>unused_any us husl _ ua uc w6.heap.size x w' ((HB7.out.kept hc' (fun h=>by have:=HF7.out _ h; omega)).cell 0 _ rfl) (HU7.out.kept hc' (fun y hy hn=>by have:=HF7.out y hy; have:=hn.2; omega))))
      obtain ⟨ca7,cc7,rfl⟩:=slice_of_owns hown
      have HX7:=Lib.hid hc7
      clear hown hfr hc7 hlu
      go_wp2_with fail
      refine HCUT.out.mono ?_; rintro _ w8 ⟨v8,rfl,hs8,hc8⟩
      have h78:=hc8.size
      have HF8:=Lib.hid (show ∀ y∈blk (Value.slice ca7 L.length cc7),wU.heap.size≤y∧y < w7.heap.size from fun y hy=>⟨HF7.out y hy,HLT7.out y hy⟩)
      have hcz:Chg [lb] wL w8:=HC7.out.trans hc8 (fun x hx=>.inr (by have:=HF8.out x hx; have:=HSU.out; omega))
      have h8u:Chg [] wU w8:=HX7.out.trans hc8 (fun x hx=>.inr (HF8.out x hx).1)
      have hl8:=HLU.out.kept h8u (by simp)
      have hfe : (L.filter fun x=>!(!decide (x.name∈us)))=L.filter fun x=>decide (x.name∈us):=by simp only [Bool.not_not]
      rw [hfe] at hs8
      have hflt:=List.length_filter_le (fun x:Sy=>decide (x.name∈us)) L
      obtain ⟨w9,hput,hl9,hc9⟩:=less_put hl8 n (L.filter fun x=>decide (x.name∈us)) v8 (by omega) (hs8.mono fun y hy=>⟨by have:=(HF8.out y hy).1; have:=HSU.out; have:=HSZ.out; omega,by have:=(HF8.out y hy).2; omega⟩)
      have HL9:=Lib.hid (hl9.congr (seen':=fun x=>if x∈m.imports.take (k + 1) then some (((sn x).getD []).filter fun s=>decide (s.name∈usedL x m)) else none) fun x=>by
       have hmem : x∈m.imports.take (k + 1)↔x∈m.imports.take k∨x=n:=by rw [take_more HN.out]; simp
       by_cases hx : x=n
       ·subst hx
        simp only [hmem,or_true,if_true,HLE.out,HUE.out]
       ·simp only [hmem,hx,or_false,if_neg,if_false])
      have HC9:=Lib.hid (hcz.then hc9)
      obtain ⟨sa8,sc8,rfl,_,_,_⟩:=hs8
      clear hc8 hcz h8u hl8 hfe hl9 hc9
      go_wp2_with fail
      exact ⟨⟨k + 1,_,by go_num,by omega,HL9.out,HC9.out⟩,by simp [intOf]; omega⟩
     ·have HLF:=Lib.hid (show LessIn wO lb es (lessF m sn) from HLK.out.congr fun n=>by rw [lessF,List.take_of_length_le (by omega)])
      have HCA2:=Lib.hid (ccheck_any m HFM.out (lessF m sn) (fun x=>x < wO.heap.size) _ _ wO (fun _ h=>h) (HMO2.out.mono fun x hx=>by have:=hx.2; have:=HSZ.out; omega) (HLF.out.seenIn.at_ (fun x hx=>hx.2) HLF.out.1.lt))
      rw [check_less HFI.out] at HCA2
      clear hir hsn
      go_wp2_with fail
      refine HCA2.out.mono ?_; rintro _ w6 ⟨hc6,rfl⟩
      have HC6:=Lib.hid (HC.out.then hc6.weak)
      have HL6:=Lib.hid (HLF.out.kept hc6 (by simp))
      obtain ⟨w7,hrun,hrg,hc7,hs7⟩:=Plan.map_range (P:=Tryz.prog) Tryz.underlying34 HL6.out.1
      have HX7:=Lib.hid hc7; have HRG:=Lib.hid hrg
      have hrne : w6.heap.size≠lb:=by have:=HL6.out.1.lt; omega
      have HS7:=Lib.hid (And.intro hs7 HL6.out.1.lt)
      clear hc6 hrg hc7 hs7 x0 x1 x2 x3 x4 hlt
      go_wp2_with fail
      clear hrun
      go_loopw [12,13] (fun _ _ wr=>∃ rest:List (List UInt8),Plan.Ranging wr lb w6.heap.size es rest∧Chg [w6.heap.size] w6 wr) (fun _ _ wr=>wr.rangeLeft lb w6.heap.size)
      case atStart=>exact ⟨_,HRG.out,HX7.out.weak⟩
      case round=>
       obtain ⟨rest,hri,hc⟩:=hrel
       have HLEFT:=Lib.hid hri.left_eq
       have HCR:=Lib.hid hc
       have HCLR:=Lib.hid (show Chg [lb] wL wr from HC6.out.trans hc (fun x hx=>.inr (by have:=HC6.out.size; simp at hx; omega)))
       obtain ⟨hcw,_,_,_,_⟩:=HAT.out wr HCLR.out
       have HCW2:=Lib.hid hcw
       clear hc hcw
       rcases Plan.map_next (P:=Tryz.prog) hri hrne 0 with ⟨hnil,hnx⟩ | ⟨n,v,rest',wn,hn1,hn2,hn3,hn4,hn5,hnx,hri2,hcn,hent⟩
       ·have hnx':=next_tyI hnx
        clear hnx hri
        go_wp2_with fail
        go_ret
        exact ⟨rfl,HCW2.out⟩
       ·have hcr6:=HCR.out.then hcn
        have hln:=HL6.out.kept hcr6 (by simp)
        have hl2:=hln.2 n
        cases hlf : lessF m sn n with
        | none=>rw [hlf] at hl2; rw [show Plan.getM es n=none from hl2] at hn3; cases hn3
        | some l=>
         rw [hlf] at hl2
         obtain ⟨hll,u,hu,hsy⟩:=hl2
         rw [hu] at hn3
         cases hn3
         have HSY:=Lib.hid hsy
         obtain ⟨a',c',rfl,hac,hrow,_⟩:=hsy
         have HROW:=Lib.hid hrow; have HLN:=Lib.hid hln; have HN5:=Lib.hid hn5; have HRI:=Lib.hid hri2; have HLF2:=Lib.hid hlf
         have HC6N:=Lib.hid hcr6
         have HCN:=Lib.hid (show Chg [lb] wL wn from HCLR.out.trans hcn (fun x hx=>.inr (by have:=HC6.out.size; simp at hx; omega)))
         obtain ⟨wS,hwS⟩ : ∃ y,wn.alloc (.cells #[Value.slice a' l.length c'] 38)=y:=⟨_,rfl⟩
         have hcS:Chg [] wn wS:=by rw [← hwS]; exact (Chg.refl _ _).alloc _
         have hbS:Blk wS wn.heap.size #[Value.slice a' l.length c'] 38:=by rw [← hwS]; exact Blk.new wn _ _
         have HBS:=Lib.hid hbS; have HCS:=Lib.hid hcS
         have HCZ:=Lib.hid (HCN.out.then hcS.weak)
         have HNS:=Lib.hid (show wn.heap.size < wS.heap.size from hbS.lt)
         have b0:=hbS.cell 0 _ rfl
         have hnx':=next_tyI hnx
         clear hcr6 hln hu hrow hcS hbS hri hri2 hnx hn1 hn2 hn4 hn5 hlf hcn
         by_cases hl0 : 0 < l.length
         rotate_left
         ·have hd0 : decide ((0:Int) < (l.length:Int))=false:=by rw [show l.length=0 by omega]; rfl
          go_wp2_with fail
          go_roundw
          case rel=>exact ⟨rest',HRI.out.kept HCS.out (by simp) (by simp),HC6N.out.then HCS.out.weak⟩
          case measure=>rw [(HRI.out.kept HCS.out (by simp) (by simp)).left_eq,HLEFT.out]; exact HN5.out
         ·have hd0 : decide ((0:Int) < (l.length:Int))=true:=by simp; omega
          obtain ⟨y,hy⟩ : ∃ y,l[0]?=some y:=⟨l[0],List.getElem?_eq_getElem hl0⟩
          have HY:=Lib.hid hy
          have hlfe:=HLF2.out
          rw [lessF] at hlfe
          have hni : n∈m.imports:=by
           by_cases h : n∈m.imports
           ·exact h
           ·rw [if_neg h] at hlfe; cases hlfe
          rw [if_pos hni] at hlfe
          have hyu : y.name∈usedL n m:=by
           have h1 : y∈l:=List.mem_of_getElem? hy
           have h2:=Option.some.inj hlfe
           rw [← h2,List.mem_filter] at h1
           simpa using h1.2
          have hne : n≠[]:=by
           have:=(HWF.out.imports n hni).1
           intro h0
           rw [h0] at this
           exact absurd this (by simp [IsWord])
          obtain ⟨sn2,hsn2⟩ : ∃ f:List UInt8→Option (List Sy),f=fun k=>if k=n then some (l.filter fun x=>!(x.name == y.name)) else lessF m sn k:=⟨_,rfl⟩
          have HLACK:=Lib.hid (show check m sn2 ≠ .fine from check_lack hne hyu (by
           rw [hsn2]
           simp only [if_true,Option.getD_some]
           rw [findS,List.findIdx?_eq_none_iff]
           intro z hz
           have:=(List.mem_filter.1 hz).2
           simpa using this))
          have HSN2:=Lib.hid hsn2
          have HCLN:=Lib.hid (clone_any l hll _ _ wS (HSY.out.kept HCS.out (by simp)))
          clear hlfe hni hyu hne hsn2 hy
          go_wp2_with fail
          clear hwS
          refine HCLN.out.mono ?_; rintro _ w8 ⟨cv8,rfl,hown,hfr,hc8⟩
          have HF8:=Lib.hid hfr
          have HB8:=Lib.hid (HBS.out.kept hc8 (by simp))
          have HR8:=Lib.hid (HROW.out.kept (HCS.out.then hc8) (by simp))
          have HLT8:=Lib.hid (fun g hg=>owns_lt hown g hg)
          have HX8:=Lib.hid (HCS.out.then hc8)
          have HCUT:=Lib.hid (cut_any #[ptr wn.heap.size] 14 fun2 l hll (fun x=>x.name == y.name) cv8 w8 hown (fun x hx w' hc'=>gone_any l y HY.out _ a' c' wn.heap.size x w' ((HB8.out.kept hc' (fun h=>by have:=HF8.out _ h; have:=HNS.out; omega)).cell 0 _ rfl) (HR8.out.kept hc' (fun z hz hn=>by have:=HF8.out z hz; have:=HNS.out; have:=hn.2; omega))))
          obtain ⟨ca8,cc8,rfl⟩:=slice_of_owns hown
          clear hown hfr hc8 b0
          go_wp2_with fail
          refine HCUT.out.mono ?_; rintro _ w9 ⟨v9,rfl,hs9,hc9⟩
          have h89:=hc9.size
          have h9n:Chg [] wn w9:=HX8.out.trans hc9 (fun x hx=>.inr (by have:=HF8.out x hx; have:=HNS.out; omega))
          have hl9:=HLN.out.kept h9n (by simp)
          have hflt:=List.length_filter_le (fun x:Sy=>!(x.name == y.name)) l
          obtain ⟨w10,hput,hl10,hc10⟩:=less_put hl9 n (l.filter fun x=>!(x.name == y.name)) v9 (by omega) (hs9.mono fun z hz=>⟨by have:=HF8.out z hz; have:=HNS.out; have:=HLN.out.1.lt; omega,by have:=HLT8.out z hz; omega⟩)
          have HL10:=Lib.hid (show LessIn w10 lb _ sn2 by rw [HSN2.out]; exact hl10)
          have HC10:=Lib.hid (show Chg [lb] wL w10 from (HCN.out.then h9n.weak).then hc10)
          obtain ⟨hcw10,hbm10,hmo10,_,_⟩:=HAT.out w10 HC10.out
          obtain ⟨x0,x1,x2,x3,x4⟩:=hbm10.five
          have HCW10:=Lib.hid hcw10
          have HCA3:=Lib.hid (ccheck_any m HFM.out sn2 (fun x=>x < w10.heap.size) _ _ w10 (fun _ h=>h) (hmo10.mono fun x hx=>by have:=hx.2; have:=HSZ.out; have:=HC10.out.size; omega) (HL10.out.seenIn.at_ (fun x hx=>hx.2) HL10.out.1.lt))
          obtain ⟨va9,vc9,rfl,_,_,_⟩:=hs9
          clear hc9 h9n hl9 hl10 hc10 hcw10 hbm10 hmo10
          cases hck : check m sn2 with
          | fine=>exact absurd hck HLACK.out
          | plain e=>
           rw [hck] at HCA3
           clear hck
           go_wp2_with fail
           refine HCA3.out.mono ?_; rintro _ w11 ⟨hc11,rfl⟩
           have HC11:=Lib.hid (HCW10.out.then hc11)
           clear hc11
           go_wp2_with fail
           go_ret
           exact ⟨rfl,HC11.out⟩
          | at_ e p=>
           rw [hck] at HCA3
           clear hck
           go_wp2_with fail
           refine HCA3.out.mono ?_; rintro _ w11 ⟨hc11,b11,rfl,_,_⟩
           have HC11:=Lib.hid (HCW10.out.then hc11)
           clear hc11
           go_wp2_with fail
           go_ret
           exact ⟨rfl,HC11.out⟩
end Go.Proofs.YtilhhkokdfajiaaGreatDoor
