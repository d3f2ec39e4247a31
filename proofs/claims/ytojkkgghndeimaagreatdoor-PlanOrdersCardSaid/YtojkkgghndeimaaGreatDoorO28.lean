/- Some texts in one. -/
import Derived.Test.YtojkkgghndeimaaGreatDoorO6
import Derived.Test.YtojkkgghndeimaaGreatDoorO15
import Derived.Test.YtojkkgghndeimaaGreatDoorO23
import Derived.Test.YtojkkgghndeimaaGreatDoorO24
import Derived.Test.YtojkkgghndeimaaGreatDoorO26
namespace Go.Mq.Plan
open Go Go.RowKit Go.Mq Go.Mq.Tree Go.Mq.Sym Go.Mq.Used
open Go.Mq.Check (FewM few_mod)
structure GoodM (m:Mod):Prop where
 few:FewM m
 cnt : cntP m.procs + cntS m.body≤1000
 vars : m.vars.length≤10
 procs : m.procs.length≤10
 fit : ∀ x∈ofM m,x.fit
 names : ∀ g,∀ n∈usedL g m,n.length≤1000000
theorem good_of {t:List UInt8} {m:Mod} (ht : t.length≤1000) (h : parse t = .ok m):GoodM m:=by
 obtain ⟨hw,hk⟩:=parse_sp h
 exact ⟨few_mod ht h,by have:=cntM_le m; omega,hw.fewv,hw.fewp,seenL_fit hw.vars hw.procs,fun g n hn=>by have:=usedL_short g hw n hn; omega⟩
def zeroM:Mod:=⟨[],[],[],[],.nil⟩
theorem good_zero:GoodM zeroM:=by
 refine ⟨⟨by simp [zeroM],by simp [zeroM],by simp [zeroM],fun x hx=>(by cases hx),fun x hx=>(by cases hx),trivial,by simp [zeroM,S.len]⟩,by simp [zeroM,cntP,cntS],by simp [zeroM],by simp [zeroM],fun x hx=>?_,fun g n hn=>?_⟩
 ·have:=mem_insSort hx
  simp [seenL,zeroM] at this
 ·rw [usedL,(List.mergeSort_perm _ _).mem_iff] at hn
  simp [useM,useP,useS,zeroM] at hn
def modOr (mf:Nm→Option Mod) (n:Nm):Mod:=(mf n).getD zeroM
def AllGood (mf:Nm→Option Mod):Prop:=∀ n m,mf n=some m→GoodM m
theorem AllGood.or {mf:Nm→Option Mod} (h:AllGood mf) (n:Nm):GoodM (modOr mf n):=by
 rw [modOr]
 cases hm : mf n with
 | none=>exact good_zero
 | some m=>exact h n m hm
def WasAt (w:World) (G:Nat→Prop) (mf:Nm→Option Mod) (ob:Option Nat):Prop:=(ob=none∧mf=fun _=>none) ∨ ∃ b es,ob=some b∧ModsAt w b G mf es
theorem WasAt.kept {w w':World} {G:Nat→Prop} {mf:Nm→Option Mod} {ob:Option Nat} (h:WasAt w G mf ob) (hc:Chg [] w w'):WasAt w' G mf ob:=by
 rcases h with h | ⟨b,es,h1,h2⟩
 ·exact .inl h
 ·exact .inr ⟨b,es,h1,h2.kept hc (by simp) (by simp)⟩
theorem zero_modAt (w:World) (G:Nat→Prop):ModAt w G zeroM (.agg #[str [],nils,nils,nils,nils]):=
 ⟨_,_,_,_,rfl,⟨none,0,rfl,Nat.le_refl _,Row.nil _ _ _⟩,⟨none,0,rfl,Nat.le_refl _,Row.nil _ _ _⟩,⟨none,0,[],rfl,Nat.le_refl _,Row.nil _ _ _,rfl⟩,⟨none,0,[],rfl,Nat.le_refl _,Row.nil _ _ _,rfl⟩⟩
def other (mfw mf:Nm→Option Mod) (n i:Nm):Bool:=!(needsT (ofM (modOr mfw i)) (usedL i (modOr mf n)) == needsT (ofM (modOr mf i)) (usedL i (modOr mf n)))
def staleP (mfw mf:Nm→Option Mod) (ch:List Nm) (n i:Nm):Bool:=decide (i∈ch) && other mfw mf n i
structure StaleAt (w:World) (bc bn bx bw b:Nat) (ob:Option Nat) (G Fc:Nat→Prop) (mfw mf:Nm→Option Mod) (es:List (List UInt8 × Value)) (ch:List Nm) (n:Nm):Prop where
 chs : ∃ cv,w.cell? ⟨bc,0,none⟩=some cv∧NamesAt w Fc ch cv
 now : w.cell? ⟨bn,0,none⟩=some (.map (some b))
 x : w.cell? ⟨bx,0,none⟩=some (str n)
 was : w.cell? ⟨bw,0,none⟩=some (.map ob)
 mods:ModsAt w b G mf es
 old:WasAt w G mfw ob
 few : ch.length≤1000
theorem StaleAt.kept {w w':World} {bc bn bx bw b:Nat} {ob:Option Nat} {G Fc:Nat→Prop} {mfw mf:Nm→Option Mod} {es:List (List UInt8 × Value)} {ch:List Nm} {n:Nm} (h:StaleAt w bc bn bx bw b ob G Fc mfw mf es ch n) (hc:Chg [] w w'):StaleAt w' bc bn bx bw b ob G Fc mfw mf es ch n:=by
 obtain ⟨cv,h1,h2⟩:=h.chs
 exact ⟨⟨cv,hc.cellSome h1 (by simp),h2.kept hc (by simp)⟩,hc.cellSome h.now (by simp),hc.cellSome h.x (by simp),hc.cellSome h.was (by simp),h.mods.kept hc (by simp) (by simp),h.old.kept hc,h.few⟩
end Go.Mq.Plan
namespace Go.Proofs.YtojkkgghndeimaaGreatDoor
open Go Go.RowKit Go.Mq Go.Mq.Tree Go.Mq.Sym Go.Mq.Used Go.Mq.Plan
set_option maxRecDepth 100000
set_option maxHeartbeats 4000000
def LookOut (w:World) (G:Nat→Prop) (mf:Nm→Option Mod) (ob:Option Nat) (n:Nm):Prop:=∃ (ai:Option Addr) (ci:Nat) (av:Option Addr) (cv:Nat) (ap:Option Addr) (cp:Nat) (ab:Option Addr) (cb:Nat),
  (∀ w',Chg [] w w'→(Instr.lookup 53 (.map ob) (str n) false).run Tryz.prog w' = .ok (.agg #[str (modOr mf n).name,.slice ai (modOr mf n).imports.length ci,.slice av (modOr mf n).vars.length cv,.slice ap (modOr mf n).procs.length cp,.slice ab (modOr mf n).body.len cb]) w') ∧
  ModAt w G (modOr mf n) (.agg #[str (modOr mf n).name,.slice ai (modOr mf n).imports.length ci,.slice av (modOr mf n).vars.length cv,.slice ap (modOr mf n).procs.length cp,.slice ab (modOr mf n).body.len cb])
theorem look_was {w:World} {G:Nat→Prop} {mf:Nm→Option Mod} {ob:Option Nat} (h:WasAt w G mf ob) (n:Nm):LookOut w G mf ob n:=by
 have zero : modOr mf n=zeroM→(∀ w',Chg [] w w'→(Instr.lookup 53 (.map ob) (str n) false).run Tryz.prog w' = .ok (.agg #[str [],nils,nils,nils,nils]) w')→LookOut w G mf ob n:=fun hz hl=>by
  refine ⟨none,0,none,0,none,0,none,0,fun w' hc=>?_,?_⟩
  ·rw [hz]; exact hl w' hc
  ·rw [hz]; exact zero_modAt w G
 rcases h with ⟨rfl,rfl⟩ | ⟨b,es,rfl,hmods⟩
 ·exact zero rfl fun w' _=>by have:=run_getNok (P:=Tryz.prog) Tryz.underlying53 Tryz.underlying9 (zero_mod w') n false; simpa using this
 ·obtain ⟨h1,_,_,h2⟩:=hmods
  have hn:=h2 n
  cases hs : mf n with
  | none=>
   rw [hs] at hn
   simp only at hn
   refine zero (by rw [modOr,hs]; rfl) fun w' hc=>?_
   have:=run_getM (P:=Tryz.prog) Tryz.underlying53 Tryz.underlying9 (zero_mod w') (h1.kept hc (by simp)) n
   rw [hn] at this
   exact this
  | some m=>
   rw [hs] at hn
   have hmo : modOr mf n=m:=by rw [modOr,hs]; rfl
   rw [LookOut,hmo]
   obtain ⟨_,v,h6,hm⟩:=hn
   have hm0:=hm
   obtain ⟨vi,vv,vp,vb,rfl,⟨ai,ci,rfl,_⟩,⟨av,cv,rfl,_⟩,⟨ap,cp,_,rfl,_⟩,⟨ab,cb,_,rfl,_⟩⟩:=hm
   refine ⟨ai,ci,av,cv,ap,cp,ab,cb,fun w' hc=>?_,hm0⟩
   have:=run_getM (P:=Tryz.prog) Tryz.underlying53 Tryz.underlying9 (zero_mod w') (h1.kept hc (by simp)) n
   rw [h6] at this
   exact this
theorem of_mod {m:Mod} (hg:GoodM m) {G:Nat→Prop} {ai:Option Addr} {ci:Nat} {av:Option Addr} {cv:Nat} {ap:Option Addr} {cp:Nat} {ab:Option Addr} {cb:Nat} (w:World) (h:ModAt w G m (.agg #[str m.name,.slice ai m.imports.length ci,.slice av m.vars.length cv,.slice ap m.procs.length cp,.slice ab m.body.len cb])) :
  Calls Tryz.prog 25 #[.agg #[str m.name,.slice ai m.imports.length ci,.slice av m.vars.length cv,.slice ap m.procs.length cp,.slice ab m.body.len cb]] w (fun e w'=>∃ v,e = .returned v∧SymsAt w' (New w w') (ofM m) v∧Chg [] w w'):=by
 obtain ⟨vi,vv,vp,vb,he,hi,hv,hp,hb⟩:=h
 cases he
 exact of_any m.vars m.procs hg.vars hg.procs G m.name ai _ ci ab _ cb _ _ w hv (procsL_of hp)
theorem need_any {m:Mod} (hg:GoodM m) (names:List (List UInt8)) (hn : names.length≤1000) (hs : ∀ n∈names,n.length≤1000000) (F F':Nat→Prop) (v v':Value) (w:World) (B:Nat) (hL:Laid w B) (h:SymsAt w F (ofM m) v) (h':NamesAt w F' names v') :
  Calls Tryz.prog 33 #[v,v'] w (fun e w'=>e = .returned (str (needsT (ofM m) names))∧Chg [] w w'):=
 needs_any (ofM m) hg.fit (by have:=seenL_len hg.vars hg.procs; rw [ofM]; omega) names hn hs F F' v v' w B hL h h'
theorem used_mod {m:Mod} (hg:GoodM m) (g:List UInt8) {G:Nat→Prop} (v:Value) (w:World) (hG : ∀ x,G x→x < w.heap.size) (h:ModAt w G m v) :
  Calls Tryz.prog 29 #[v,str g] w (fun e w'=>∃ u,e = .returned u∧NamesAt w' (fun x=>w.heap.size≤x∧x < w'.heap.size) (usedL g m) u∧Chg [] w w'):=
 used_any m hg.few hg.cnt g G v w hG h
theorem used_few {m:Mod} (hg:GoodM m) (g:List UInt8) : (usedL g m).length≤1000:=by
 rw [usedL,List.length_mergeSort]
 exact Nat.le_trans (useM_len g m) hg.cnt
theorem other_any (i n:Nm) (bc bn bx bw b:Nat) (ob:Option Nat) (G Fc:Nat→Prop) (mfw mf:Nm→Option Mod) (es:List (List UInt8 × Value)) (ch:List Nm) (hgw:AllGood mfw) (hgn:AllGood mf) (w:World) (B:Nat) (hL:Laid w B) (hG : ∀ x,G x→x < w.heap.size) (h:StaleAt w bc bn bx bw b ob G Fc mfw mf es ch n) :
  Calls Tryz.prog 80 #[str i,ptr bc,ptr bn,ptr bx,ptr bw] w (fun e w'=>e = .returned (.bool (staleP mfw mf ch n i))∧Chg [] w w'):=by
 obtain ⟨cv,hch,hcn⟩:=h.chs
 have HCT:=Lib.hid (contains_in ch h.few i Fc cv w hcn)
 have H:=Lib.hid h; have HL:=Lib.hid hL; have HGB:=Lib.hid hG
 have HGI:=Lib.hid (hgw.or i); have HNI:=Lib.hid (hgn.or i); have HNN:=Lib.hid (hgn.or n)
 obtain ⟨tgt,htgt⟩ : ∃ q,q=staleP mfw mf ch n i:=⟨_,rfl⟩
 rw [← htgt]
 have HTG:=Lib.hid htgt
 obtain ⟨ca,cc,rfl,_,_⟩:=hcn
 have hnow:=h.now; have hxx:=h.x
 clear h hL htgt hG
 cases hin : decide (i∈ch) with
 | false=>
  rw [hin] at HCT
  have HT:=Lib.hid (show tgt=false by rw [HTG.out,staleP,hin]; rfl)
  clear hin
  go_enter Tryz.func80,Tryz.ntmps80
  go_wp2_with fail
  refine HCT.out.mono ?_; rintro _ _ ⟨rfl,hw⟩; have hw:=hw.symm; subst hw
  go_wp2_with fail
  go_ret
  exact ⟨by rw [HT.out] <;> rfl,Chg.refl _ _⟩
 | true=>
  rw [hin] at HCT
  have HT:=Lib.hid (show tgt=other mfw mf n i by rw [HTG.out,staleP,hin]; rfl)
  clear hin
  obtain ⟨ai,ci,av,cv',ap,cp,ab,cb,hlk,hmo⟩:=look_was (.inr ⟨b,es,rfl,H.out.mods⟩ : WasAt w G mf (some b)) n
  have hlk0:=hlk w (Chg.refl _ _)
  have HUS:=Lib.hid (used_mod HNN.out i _ w HGB.out hmo)
  clear hlk hmo
  go_enter Tryz.func80,Tryz.ntmps80
  go_wp2_with fail
  refine HCT.out.mono ?_; rintro _ _ ⟨rfl,hw⟩; have hw:=hw.symm; subst hw
  go_wp2_with fail
  refine HUS.out.mono ?_; rintro _ w1 ⟨u,rfl,hu,hc1⟩
  have HU:=Lib.hid hu
  obtain ⟨ua,uc,rfl,_,_⟩:=hu
  have HC1:=Lib.hid hc1
  clear hc1 hlk0 hnow hxx hch
  go_wp2_with fail
  obtain ⟨wD,hwD⟩ : ∃ x,x=w1.drew:=⟨_,rfl⟩
  have hcD:Chg [] w wD:=HC1.out.then (by rw [hwD]; exact (Chg.refl [] w1).drew)
  have HCD:=Lib.hid hcD
  have b0:=(H.out.kept hcD).was; have b1:=(H.out.kept hcD).now
  obtain ⟨ai1,ci1,av1,cv1,ap1,cp1,ab1,cb1,hlk1,hmo1⟩:=look_was (H.out.kept hcD).old i
  obtain ⟨ai2,ci2,av2,cv2,ap2,cp2,ab2,cb2,hlk2,hmo2⟩:=look_was (.inr ⟨b,es,rfl,(H.out.kept hcD).mods⟩ : WasAt wD G mf (some b)) i
  have HLK1:=Lib.hid hlk1
  have HLK2:=Lib.hid hlk2; have HM2:=Lib.hid hmo2
  have HOF1:=Lib.hid (of_mod HGI.out wD hmo1)
  have HUD:=Lib.hid (show NamesAt wD _ _ _ from HU.out.kept (by rw [hwD]; exact (Chg.refl [] w1).drew) (by simp))
  clear hcD hlk1 hmo1 hlk2 hmo2
  refine wp_region_L [] rfl (by kernel_rfl) ?_
  rw [← hwD]
  clear hwD
  have hS:Chg [] wD wD:=Chg.refl _ _
  repeat ((with_reducible refine gX ?_); (first | refine wpX_nil ?_ | refine sK ?_ | refine sM fun _ _=>?_ | refine sL fun _ _=>?_ | refine sE fun _ _=>?_); go_wp2_with fail)
  refine wpX_lk rfl rfl rfl rfl HLK1.out ?_
  go_wp2_with fail
  repeat ((with_reducible refine gX ?_); (first | refine wpX_nil ?_ | refine sK ?_ | refine sM fun _ _=>?_ | refine sL fun _ _=>?_ | refine sE fun _ _=>?_); go_wp2_with fail)
  refine HOF1.out.mono ?_; rintro _ w2 ⟨v2,rfl,hv2,hc2⟩
  have HV2:=Lib.hid hv2
  obtain ⟨va2,vc2,rfl,_,_,_⟩:=hv2
  have HS2:=Lib.hid hc2
  have HN1:=Lib.hid (need_any HGI.out _ (used_few HNN.out i) (HNN.out.names i) _ _ _ _ w2 B (HL.out.kept (HCD.out.then hc2) (by simp)) HV2.out (HUD.out.kept hc2 (by simp)))
  clear hS hc2
  go_wp2_with fail
  refine And.intro HS2.out ?_
  have hS:=HS2.out
  repeat ((with_reducible refine gX ?_); (first | refine wpX_nil ?_ | refine sK ?_ | refine sM fun _ _=>?_ | refine sL fun _ _=>?_ | refine sE fun _ _=>?_); go_wp2_with fail)
  refine HN1.out.mono ?_; rintro _ w3 ⟨rfl,hc3⟩
  have HS3:=Lib.hid (HS2.out.then hc3)
  have b1':=HS3.out.cellSome b1 (by simp)
  have HOF2:=Lib.hid (of_mod HNI.out w3 (HM2.out.kept HS3.out (by simp)))
  clear hc3 hS
  go_wp2_with fail
  refine And.intro HS3.out ?_
  have hS:=HS3.out
  repeat ((with_reducible refine gX ?_); (first | refine wpX_nil ?_ | refine sK ?_ | refine sM fun _ _=>?_ | refine sL fun _ _=>?_ | refine sE fun _ _=>?_); go_wp2_with fail)
  refine wpX_lk rfl rfl rfl rfl HLK2.out ?_
  go_wp2_with fail
  repeat ((with_reducible refine gX ?_); (first | refine wpX_nil ?_ | refine sK ?_ | refine sM fun _ _=>?_ | refine sL fun _ _=>?_ | refine sE fun _ _=>?_); go_wp2_with fail)
  refine HOF2.out.mono ?_; rintro _ w4 ⟨v4,rfl,hv4,hc4⟩
  have HV4:=Lib.hid hv4
  obtain ⟨va4,vc4,rfl,_,_,_⟩:=hv4
  have HS4:=Lib.hid (HS3.out.then hc4)
  have HN2:=Lib.hid (need_any HNI.out _ (used_few HNN.out i) (HNN.out.names i) _ _ _ _ w4 B (HL.out.kept (HCD.out.then HS4.out) (by simp)) HV4.out (HUD.out.kept HS4.out (by simp)))
  clear hS hc4
  go_wp2_with fail
  refine And.intro HS4.out ?_
  have hS:=HS4.out
  repeat ((with_reducible refine gX ?_); (first | refine wpX_nil ?_ | refine sK ?_ | refine sM fun _ _=>?_ | refine sL fun _ _=>?_ | refine sE fun _ _=>?_); go_wp2_with fail)
  refine HN2.out.mono ?_; rintro _ w5 ⟨rfl,hc5⟩
  have HS5:=Lib.hid (HS4.out.then hc5)
  clear hc5 hS
  go_wp2_with fail
  refine And.intro HS5.out ?_
  have hS:=HS5.out
  repeat ((with_reducible refine gX ?_); (first | refine wpX_nil ?_ | refine sK ?_ | refine sM fun _ _=>?_ | refine sL fun _ _=>?_ | refine sE fun _ _=>?_); go_wp2_with fail)
  clear hS b0 b1 b1'
  go_wp2_with fail
  go_ret
  exact ⟨by rw [HT.out,other] <;> rfl,HCD.out.then HS5.out⟩
theorem stale_index (l:List Nm) (hl : l.length≤1000) (p:Nm→Bool) (c1 c2 c3 c4:Nat) (F:Nat→Prop) (v:Value) (w:World) (h:NamesAt w F l v)
  (hf : ∀ n w',Chg [] w w'→Calls Tryz.prog 80 #[str n,ptr c1,ptr c2,ptr c3,ptr c4] w' (fun e w''=>e = .returned (.bool (p n))∧Chg [] w' w'')) :
  Calls Tryz.prog 76 #[v,.func (.func 80) #[] #[ptr c1,ptr c2,ptr c3,ptr c4]] w (fun e w'=>At1 l p e∧Chg [] w w'):=by
 obtain ⟨a,c,rfl,hac,hrow⟩:=h
 have HROW:=Lib.hid hrow; have HF:=Lib.hid hf
 clear hrow hf
 go_enter Tryz.func76,Tryz.ntmps76
 go_wp2_with fail
 go_loopw [5,8] (fun _ i wr=>∃ k:Nat,i = .int .i64 k∧k≤l.length∧Chg [] w wr ∧ ∀ (i:Nat) (x:Nm),i < k→l[i]?=some x→p x=false) (fun _ i _=>l.length - (intOf i).toNat)
 case atStart=>exact ⟨0,rfl,Nat.zero_le _,Chg.refl _ _,fun i x hi=>by omega⟩
 case round=>
  obtain ⟨k,rfl,hk,hc,hno⟩:=hrel
  have HNO:=Lib.hid hno; have HC:=Lib.hid hc
  clear hno hc
  by_cases hlt : k < l.length
  ·obtain ⟨s,hs⟩ : ∃ s,l[k]?=some s:=⟨l[k],List.getElem?_eq_getElem hlt⟩
   obtain ⟨bb,off,rfl,d0⟩:=names_cell (HROW.out.kept HC.out (by simp)) hs
   have HS:=Lib.hid hs
   have HI:=Lib.hid (HF.out s wr HC.out)
   clear hs
   cases hq : p s with
   | true=>
    rw [hq] at HI
    have HR:=Lib.hid (show l.find? p=some s from find_at HS.out hq HNO.out)
    clear hq
    go_wp2_with fail
    refine HI.out.mono ?_; rintro _ w2 ⟨rfl,hq⟩
    have HQ:=Lib.hid (HC.out.then hq); clear hq
    go_wp2_with fail
    go_ret
    refine ⟨?_,HQ.out⟩
    rw [At1,HR.out]
    exact ⟨k,HS.out,rfl⟩
   | false=>
    rw [hq] at HI
    have HN:=Lib.hid hq
    clear hq
    go_wp2_with fail
    refine HI.out.mono ?_; rintro _ w2 ⟨rfl,hq⟩
    have HQ:=Lib.hid (HC.out.then hq); clear hq
    go_wp2_with fail
    refine ⟨⟨k + 1,by go_num,by omega,HQ.out,fun i x hi hx=>?_⟩,by simp [intOf]; omega⟩
    by_cases he : i < k
    ·exact HNO.out i x he hx
    ·have : i=k:=by omega
     subst this
     rw [HS.out] at hx
     cases hx
     exact HN.out
  ·have HR:=Lib.hid (show l.find? p=none from find_no fun i x hx=>HNO.out i x (by have:=(List.getElem?_eq_some_iff.1 hx).1; omega) hx)
   go_wp2_with fail
   go_ret
   exact ⟨by rw [At1,HR.out] <;> rfl,HC.out⟩
theorem stale_contains (l:List Nm) (hl : l.length≤1000) (p:Nm→Bool) (c1 c2 c3 c4:Nat) (F:Nat→Prop) (v:Value) (w:World) (h:NamesAt w F l v)
  (hf : ∀ n w',Chg [] w w'→Calls Tryz.prog 80 #[str n,ptr c1,ptr c2,ptr c3,ptr c4] w' (fun e w''=>e = .returned (.bool (p n))∧Chg [] w' w'')) :
  Calls Tryz.prog 78 #[v,.func (.func 80) #[] #[ptr c1,ptr c2,ptr c3,ptr c4]] w (fun e w'=>e = .returned (.bool (l.any p))∧Chg [] w w'):=by
 have HI:=Lib.hid (stale_index l hl p c1 c2 c3 c4 F v w h hf)
 clear h hf
 go_enter Tryz.func78,Tryz.ntmps78
 go_wp2_with fail
 refine HI.out.mono ?_; rintro e w1 ⟨hat,hc⟩
 have HC:=Lib.hid hc
 have hfd:=any_find l p
 clear hc
 rw [At1] at hat
 cases hx : l.find? p with
 | none=>
  rw [hx] at hat hfd
  simp only at hat
  subst hat
  have HAF:=Lib.hid (show l.any p=false from hfd)
  clear hfd hx
  go_wp2_with fail
  go_ret
  exact ⟨by rw [HAF.out] <;> rfl,HC.out⟩
 | some x=>
  rw [hx] at hat hfd
  obtain ⟨k,hk,rfl⟩:=hat
  have HAF:=Lib.hid (show l.any p=true from hfd)
  have hkz : decide ((0:Int)≤(k:Int))=true:=by simp
  clear hfd hx hk
  go_wp2_with fail
  go_ret
  exact ⟨by rw [HAF.out] <;> simp,HC.out⟩
end Go.Proofs.YtojkkgghndeimaaGreatDoor
namespace Go.Mq.Plan
open Go Go.RowKit Go.Mq Go.Mq.Tree Go.Mq.Sym Go.Mq.Used
def anew (mfw mf:Nm→Option Mod) (ch:List Nm) (n:Nm):Bool:=decide (n∈ch) || (impOf mf n).any (staleP mfw mf ch n)
def StaleOut (w:World) (mfw mf:Nm→Option Mod) (es:List (List UInt8 × Value)) (ch:List Nm) (e:Ending) (w':World):Prop:=
 Chg [] w w' ∧ ∃ names v,Named es names∧e = .returned v∧NamesAt w' (New w w') (names.filter (anew mfw mf ch)) v
theorem filter_take {α:Type} (q : α→Bool) {l:List α} {k:Nat} {x : α} (h : l[k]?=some x) : (l.take (k + 1)).filter q=(l.take k).filter q ++ (if q x then [x] else []):=by
 have hk:=(List.getElem?_eq_some_iff.1 h).1
 rw [List.take_add_one,h,List.filter_append]
 cases hq : q x <;> simp [hq]
end Go.Mq.Plan
namespace Go.Proofs.YtojkkgghndeimaaGreatDoor
open Go Go.RowKit Go.Mq Go.Mq.Tree Go.Mq.Sym Go.Mq.Used Go.Mq.Plan
set_option maxRecDepth 100000
set_option maxHeartbeats 4000000
theorem stale_run (b:Nat) (ob:Option Nat) (G Fc:Nat→Prop) (mfw mf:Nm→Option Mod) (es:List (List UInt8 × Value)) (ch:List Nm) (cv:Value) (hgw:AllGood mfw) (hgn:AllGood mf) (hfew : ch.length≤1000) (w:World) (B:Nat) (hL:Laid w B) (hG : ∀ x,G x→x < w.heap.size) (h:ModsAt w b G mf es) (hwas:WasAt w G mfw ob) (hch:NamesAt w Fc ch cv) :
  Calls Tryz.prog 23 #[.map ob,.map (some b),cv] w (StaleOut w mfw mf es ch):=by
 have hmf : ∀ (fn:Fn) (first cap:Array Value) (w:World),(Instr.makeFunc fn first cap).run Tryz.prog w = .ok (.func fn first cap) w:=fun _ _ _ _=>rfl
 have hfi:=field_imports
 obtain ⟨ca,cc,rfl,hcc,hcrow⟩:=hch
 obtain ⟨wa,hwa⟩ : ∃ x,w.alloc (.cells #[.map ob] 53)=x:=⟨_,rfl⟩
 have hba:=Blk.new w #[.map ob] 53
 rw [hwa] at hba
 have hca:Chg [] w wa:=by rw [← hwa]; exact (Chg.refl _ _).alloc _
 have hsa : wa.heap.size=w.heap.size + 1:=by rw [← hwa]; simp
 obtain ⟨wb,hwb⟩ : ∃ x,wa.alloc (.cells #[.map (some b)] 53)=x:=⟨_,rfl⟩
 have hbb:=Blk.new wa #[.map (some b)] 53
 rw [hwb] at hbb
 have hcb:Chg [] wa wb:=by rw [← hwb]; exact (Chg.refl _ _).alloc _
 have hsb : wb.heap.size=w.heap.size + 2:=by rw [← hwb]; simp [hsa]
 obtain ⟨wc,hwc⟩ : ∃ x,wb.alloc (.cells #[.slice ca ch.length cc] 25)=x:=⟨_,rfl⟩
 have hbc:=Blk.new wb #[.slice ca ch.length cc] 25
 rw [hwc] at hbc
 have hcc':Chg [] wb wc:=by rw [← hwc]; exact (Chg.refl _ _).alloc _
 have hsc : wc.heap.size=w.heap.size + 3:=by rw [← hwc]; simp [hsb]
 have hcab:=(hca.then hcb).then hcc'
 obtain ⟨D,hown,hsz,hkeys⟩:=mapIs_owns (P:=Tryz.prog) Tryz.underlying9 (h.kept hcab (by simp) (by simp)).1 h.2.1 h.2.2.1
 have HK:=Lib.hid (keys_any (some b) wc)
 have HS:=Lib.hid (sorted_any b es.length D anyR wc hown (by rw [hsz]; have:=h.2.1; unfold maxLen; omega) (by rw [hsz]; have:=h.2.1; omega))
 rw [hsc] at HS
 have HM:=Lib.hid (h.kept hcab (by simp) (by simp)); have HBA:=Lib.hid (hba.kept (hcb.then hcc') (by simp)); have HBB:=Lib.hid (hbb.kept hcc' (by simp)); have HBC:=Lib.hid hbc; have HC:=Lib.hid hcab
 have HWAS:=Lib.hid (hwas.kept hcab); have HCR0:=Lib.hid (hcrow.kept hcab (by simp)); have HL:=Lib.hid (hL.kept hcab (by simp)); have HGB:=Lib.hid (fun x hx=>(show x < w.heap.size from hG x hx))
 have hes:=h.2.1
 have HKE:=Lib.hid hkeys
 rw [hsa] at HBB
 rw [hsb] at HBC
 have a1:=HBB.out.cell 0 _ rfl
 clear hG h hwas hcrow hL hba hca hbb hcb hbc hcc' hcab hown hsz hkeys
 go_enter Tryz.func23,Tryz.ntmps23
 go_wp2_with fail
 clear hwa hwb hwc
 refine HK.out.mono ?_; rintro _ w1 ⟨rfl,hw1⟩
 go_wp2_with fail
 refine HS.out.mono ?_; rintro _ w2 ⟨nv,ss,rfl,hpm,hnr,_,hbl⟩
 have hc2:Chg [] wc w2:=((Chg.refl [] wc).alloc _).then (Chg.of_below hbl)
 obtain ⟨names,hnm⟩ : ∃ ns:List Nm,ns=ss.mergeSort fun x y=>decide (x≤y):=⟨_,rfl⟩
 rw [← hnm] at hnr
 have hnl : ss.length=names.length:=by rw [hnm]; exact ((List.mergeSort_perm _ _).length_eq).symm
 rw [hnl] at hnr
 have HND:=Lib.hid (show Named es names from ⟨ss,hpm.trans HKE.out,hnm⟩)
 have hnl2 : names.length≤1000:=by have:=HND.out.perm'.length_eq; simp at this; omega
 obtain ⟨na,nc,rfl,hnc,hnrow⟩:=Row.of_owns (F:=fun g=>w.heap.size + 3 < g) (show w2.ownsRow 0 9 1 nv names.length (names.map str) from ⟨hnr.1,by
  rcases hnr.2 with h | ⟨g,cap,cur,h1,_,h3⟩
  ·exact .inl h
  ·exact .inr ⟨g,cap,cur,h1,Nat.zero_le _,h3⟩⟩) (fun g hg=>by
  rcases hnr.2 with ⟨h,_⟩ | ⟨g',cap,cur,h1,h2,_⟩
  ·subst h; cases hg
  ·subst h1; simp [blk] at hg; subst hg; simp at h2; omega)
 have HNR:=Lib.hid hnrow; have HC2:=Lib.hid hc2
 have hs2:=hc2.size
 clear hpm hnr hnm hnl hnrow hc2 hbl hw1 a1
 go_wp2_with fail
 have HSC:=Lib.hid hsc
 clear hsa hsb hsc
 go_loopw [7,9,14] (fun ov _ i wr=>∃ (k:Nat) (o:List Nm),i = .int .i64 k∧k≤names.length∧wr.ownsRow 0 9 1 ov o.length (o.map str)∧From w2.heap.size ov∧o=(names.take k).filter (anew mfw mf ch)∧Chg [] w2 wr) (fun _ _ i _=>names.length - (intOf i).toNat)
 case atStart=>exact ⟨0,[],rfl,Nat.zero_le _,World.ownsRow_nil _ _ _ _,From.nil _,rfl,Chg.refl _ _⟩
 case round=>
  obtain ⟨k,o,rfl,hk,hov,hfo,ho,hc⟩:=hrel
  obtain ⟨oa,oc,rfl⟩:=slice_of_owns hov
  have HOV:=Lib.hid hov; have HFO:=Lib.hid hfo; have HO:=Lib.hid ho; have HCR:=Lib.hid hc
  have hsr:=hc.size
  clear hov hfo ho
  by_cases hlt : k < names.length
  ·obtain ⟨n,hn⟩ : ∃ n,names[k]?=some n:=⟨names[k],List.getElem?_eq_getElem hlt⟩
   have hol : o.length≤1000:=by rw [HO.out]; exact Nat.le_trans (List.length_filter_le _ _) (by rw [List.length_take]; omega)
   obtain ⟨nb,no,rfl,d0⟩:=names_cell (HNR.out.kept hc (by simp)) hn
   have HFT:=Lib.hid (filter_take (anew mfw mf ch) hn)
   have hbx:=Blk.new wr #[str n] 9
   obtain ⟨wx,hwx⟩ : ∃ x,wr.alloc (.cells #[str n] 9)=x:=⟨_,rfl⟩
   rw [hwx] at hbx
   have hcx:Chg [] wr wx:=by rw [← hwx]; exact (Chg.refl _ _).alloc _
   have hcx2:Chg [] wc wx:=(HC2.out.then hc).then hcx
   have x0:=hbx.cell 0 _ rfl
   have t0:=(HBA.out.kept hcx2 (by simp)).cell 0 _ rfl; have t1:=(HBB.out.kept hcx2 (by simp)).cell 0 _ rfl; have t2:=(HBC.out.kept hcx2 (by simp)).cell 0 _ rfl
   have hcrow:=HCR0.out.kept hcx2 (by simp)
   have hmods:=HM.out.kept hcx2 (by simp) (by simp)
   have hsa:StaleAt wx (w.heap.size + 2) (w.heap.size + 1) wr.heap.size w.heap.size b ob G Fc mfw mf es ch n:=⟨⟨_,t2,_,_,rfl,hcc,hcrow⟩,t1,x0,t0,hmods,HWAS.out.kept hcx2,hfew⟩
   have HCT:=Lib.hid (contains_in ch hfew n Fc _ wx ⟨_,_,rfl,hcc,hcrow⟩)
   obtain ⟨nm,ai,ci,av,nv,cv,ap,np,cp,ab,nb',cb,hlk,_,hni⟩:=look_mod hmods n
   have hlk:=hlk wx (Chg.refl _ _)
   have hsx:=hcx2.size
   have HAN:=Lib.hid (stale_contains (impOf mf n) (impOf_few hmods n) (staleP mfw mf ch n) (w.heap.size + 2) (w.heap.size + 1) wr.heap.size w.heap.size G _ wx hni (fun i w' hc'=>other_any i n (w.heap.size + 2) (w.heap.size + 1) wr.heap.size w.heap.size b ob G Fc mfw mf es ch hgw hgn w' B (HL.out.kept (hcx2.then hc') (by simp)) (fun x hx=>by have:=HGB.out x hx; have:=hc'.size; have:=HSC.out; omega) (hsa.kept hc')))
   have HCX:=Lib.hid (hc.then hcx)
   have hox:=owns_kept HOV.out hcx (fun _ _ h=>by cases h)
   have HOX:=Lib.hid hox
   clear hc hbx hcx hcx2 hcrow hmods hsa hni hox hn hsr
   cases hin : decide (n∈ch) with
   | true=>
    rw [hin] at HCT
    have HQ:=Lib.hid (show anew mfw mf ch n=true by rw [anew,hin]; rfl)
    clear hin
    go_wp2_with fail
    refine HCT.out.mono ?_; rintro _ _ ⟨rfl,hw⟩; have hw:=hw.symm; subst hw
    have HO4:=Lib.hid (owns_kept HOX.out ((Chg.refl [] wx).alloc (.cells #[str n] 9)) (by simp))
    go_wp2_with (at_builtin; go_must (refine wpL_append rfl _ _ 25 rfl 9 _ 1 16 infoStrC Tryz.underlying25 rfl (by decide) _ o.length (o.map str) rfl HO4.out ⟨wx.heap.size,0,none⟩ 1 1 [str n] rfl rfl (cell_new1 _ _ _) (by simp [Value.oneCell']) ?_ ?_ ?_))
    ·omega
    ·unfold maxLen; omega
    ·intro v' w' hown' hch' hmv'
     have HO':=Lib.hid hown'; have HCH:=Lib.hid hch'; have HMV:=Lib.hid hmv'
     have hcz:=HCX.out.size
     obtain ⟨va,vc,rfl⟩:=slice_of_owns hown'
     clear hown' hch' hmv' HCT HAN
     go_wp2_with fail
     refine ⟨⟨k + 1,o ++ [n],by go_num,by omega,by rw [List.map_append,List.length_append]; exact HO'.out,fun g hg=>?_,by rw [HFT.out,HQ.out,HO.out]; simp,?_⟩,by simp [intOf]; omega⟩
     ·rcases HMV.out g hg with h | h
      ·exact HFO.out g h
      ·simp at h; omega
     ·exact (HCX.out.then ((Chg.refl [] wx).alloc _)).trans HCH.out (fun x hx=>.inr (HFO.out x hx))
   | false=>
    rw [hin] at HCT
    have HA0:=Lib.hid (show anew mfw mf ch n=(impOf mf n).any (staleP mfw mf ch n) by rw [anew,hin]; rfl)
    clear hin
    go_wp2_with fail
    refine HCT.out.mono ?_; rintro _ _ ⟨rfl,hw⟩; have hw:=hw.symm; subst hw
    go_wp2_with fail
    refine HAN.out.mono ?_; rintro _ wy ⟨rfl,hcy⟩
    have HCX:=Lib.hid (HCX.out.then hcy)
    have HOX:=Lib.hid (owns_kept HOX.out hcy (fun _ _ h=>by cases h))
    have x0:=hcy.cellSome x0 (by simp)
    cases hq : (impOf mf n).any (staleP mfw mf ch n) with
    | true=>
     have HQ:=Lib.hid (show anew mfw mf ch n=true by rw [HA0.out,hq])
     clear hq hcy
     have HO4:=Lib.hid (owns_kept HOX.out ((Chg.refl [] wy).alloc (.cells #[str n] 9)) (by simp))
     go_wp2_with (at_builtin; go_must (refine wpL_append rfl _ _ 25 rfl 9 _ 1 16 infoStrC Tryz.underlying25 rfl (by decide) _ o.length (o.map str) rfl HO4.out ⟨wy.heap.size,0,none⟩ 1 1 [str n] rfl rfl (cell_new1 _ _ _) (by simp [Value.oneCell']) ?_ ?_ ?_))
     ·omega
     ·unfold maxLen; omega
     ·intro v' w' hown' hch' hmv'
      have HO':=Lib.hid hown'; have HCH:=Lib.hid hch'; have HMV:=Lib.hid hmv'
      have hcz:=HCX.out.size
      obtain ⟨va,vc,rfl⟩:=slice_of_owns hown'
      clear hown' hch' hmv' HCT HAN
      go_wp2_with fail
      refine ⟨⟨k + 1,o ++ [n],by go_num,by omega,by rw [List.map_append,List.length_append]; exact HO'.out,fun g hg=>?_,by rw [HFT.out,HQ.out,HO.out]; simp,?_⟩,by simp [intOf]; omega⟩
      ·rcases HMV.out g hg with h | h
       ·exact HFO.out g h
       ·simp at h; omega
      ·exact (HCX.out.then ((Chg.refl [] wy).alloc _)).trans HCH.out (fun x hx=>.inr (HFO.out x hx))
    | false=>
     have HQ:=Lib.hid (show anew mfw mf ch n=false by rw [HA0.out,hq])
     clear hq hcy
     go_wp2_with fail
     exact ⟨⟨k + 1,o,by go_num,by omega,HOX.out,HFO.out,by rw [HFT.out,HQ.out,HO.out]; simp,HCX.out⟩,by simp [intOf]; omega⟩
  ·have hkn : k=names.length:=by omega
   have HON:=Lib.hid (show o=names.filter (anew mfw mf ch) by rw [HO.out,List.take_of_length_le (by omega)])
   clear hc
   go_wp2_with fail
   go_ret
   have hc3:Chg [] w wr:=(HC.out.then HC2.out).then HCR.out
   refine ⟨hc3,names,_,HND.out,rfl,?_⟩
   rw [← HON.out]
   have hs3:=HC.out.size
   obtain ⟨a',c',he,hac,hrow⟩:=Row.of_owns HOV.out (F:=New w wr) (fun g hg=>⟨by have:=HFO.out g hg; omega,owns_lt HOV.out g hg⟩)
   exact ⟨a',c',he,hac,hrow⟩
end Go.Proofs.YtojkkgghndeimaaGreatDoor
