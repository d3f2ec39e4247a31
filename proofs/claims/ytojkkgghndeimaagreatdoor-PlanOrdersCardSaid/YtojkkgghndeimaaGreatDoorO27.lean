/- Some texts in one. -/
import Derived.Test.YtojkkgghndeimaaGreatDoorO25
import Derived.Test.YtojkkgghndeimaaGreatDoorO26
namespace Go.Mq.Plan
open Go Go.RowKit Go.Mq Go.Mq.Tree
def lenV:Value→Nat
 | .slice _ n _=>n
 | _=>0
def pickN (l:List Nm) (f:Nm→Bool):Nm:=(l.find? f).getD []
theorem pickN_cons (x:Nm) (l:List Nm) (f:Nm→Bool) : pickN (x :: l) f=if f x then x else pickN l f:=by
 rw [pickN,List.find?_cons]
 cases f x <;> rfl
theorem drop_at {α:Type} {l:List α} {k:Nat} {x : α} (h : l[k]?=some x) : l.drop k=x :: l.drop (k + 1):=by
 obtain ⟨hk,he⟩:=List.getElem?_eq_some_iff.1 h
 rw [← he,← List.drop_eq_getElem_cons hk]
theorem any_take {α:Type} (f : α→Bool) {l:List α} {k:Nat} {x : α} (h : l[k]?=some x) : (l.take (k + 1)).any f=((l.take k).any f || f x):=by
 rw [List.take_add_one,h]
 simp
end Go.Mq.Plan
namespace Go.Proofs.YtojkkgghndeimaaGreatDoor
open Go Go.RowKit Go.Mq Go.Mq.Tree Go.Mq.Ref Go.Mq.Plan
set_option maxRecDepth 100000
set_option maxHeartbeats 4000000
theorem had_look {w:World} {db:Nat} {had out:List Nm} (h:HadIs w db had) (he : ∀ x,x∈had↔x∈out) (n:Nm) : (Instr.lookup 114 (.map (some db)) (str n) false).run Tryz.prog w = .ok (.bool (decide (n∈out))) w:=by
 obtain ⟨es,hm,hes⟩:=h
 have hl:=run_getM (P:=Tryz.prog) Tryz.underlying114 Tryz.underlying9 (zero_bool w) hm n
 rw [hes] at hl
 by_cases hn : n∈out
 ·rw [if_pos ((he n).2 hn)] at hl
  simpa [hn] using hl
 ·rw [if_neg (fun h=>hn ((he n).1 h))] at hl
  simpa [hn] using hl
theorem had_put {w:World} {db:Nat} {had:List Nm} (h:HadIs w db had) (n:Nm) : ∃ w',(Instr.mapUpdate 114 (.map (some db)) (str n) (.bool true)).run Tryz.prog w = .ok () w'∧Hid (HadIs w' db (n :: had))∧Hid (Chg [db] w w'):=by
 obtain ⟨es,hm,hes⟩:=h
 obtain ⟨w',hu,hm',hc'⟩:=run_putM (P:=Tryz.prog) Tryz.underlying114 Tryz.underlying9 hm n (.bool true)
 exact ⟨w',hu,Lib.hid ⟨_,hm',fun x=>by
  rw [getM_put,hes]
  by_cases hx : n=x
  ·subst hx; simp
  ·rw [if_neg hx]; simp [Ne.symm hx]⟩,Lib.hid hc'⟩
def ROrderOut (w:World) (mf:Nm→Option Mod) (es:List (List UInt8 × Value)) (e:Ending) (w':World):Prop:=Chg [] w w' ∧ ∃ names,Named es names∧match orderL names (fun i=>(mf i).isSome) (impOf mf) names.length [] with
 | none=>e = .returned (.tuple #[nils,.bool false])
 | some o=>∃ v,e = .returned (.tuple #[v,.bool true])∧NamesAt w' (New w w') o v
theorem rorder_any (b:Nat) (G:Nat→Prop) (mf:Nm→Option Mod) (es:List (List UInt8 × Value)) (w:World) (hG : ∀ x,G x→x < w.heap.size) (hne : ∀ n,(mf n).isSome=true→n≠[]) (h:ModsAt w b G mf es) :
  Calls Tryz.prog 19 #[.map (some b)] w (ROrderOut w mf es):=by
 have hmm:=@run_makeMap Tryz.prog
 have hfi:=field_imports
 obtain ⟨w4,hrun,hrg,hc4,hs4⟩:=map_range (P:=Tryz.prog) Tryz.underlying53 h.1
 have HM:=Lib.hid h; have HGB:=Lib.hid hG; have HNE:=Lib.hid hne
 have HRG:=Lib.hid hrg; have HC4:=Lib.hid hc4; have HS4:=Lib.hid hs4
 have HND:=Lib.hid (keys_nodup h.1)
 have hel : (es.map (·.1)).length≤1000:=by rw [List.length_map]; exact h.2.1
 have HEL:=Lib.hid hel
 have HBL:=Lib.hid (show b < w.heap.size from h.1.lt)
 have hbne : w.heap.size≠b:=by have:=h.1.lt; omega
 obtain ⟨keys,hkeys⟩ : ∃ k,k=es.map (·.1):=⟨_,rfl⟩
 rw [← hkeys] at HND HRG hel HEL
 have HKE:=Lib.hid hkeys
 clear hG hne h hrg hc4 hs4 hkeys
 go_enter Tryz.func19,Tryz.ntmps19
 go_wp2_with fail
 clear hrun
 go_loopw [4,6] (fun v _ wr=>∃ (ns rest:List Nm),Ranging wr b w.heap.size es rest∧keys.Perm (ns ++ rest)∧wr.ownsRow 0 9 1 v ns.length (ns.map str)∧From w4.heap.size v∧Chg [] w wr∧w4.heap.size≤wr.heap.size) (fun _ _ wr=>wr.rangeLeft b w.heap.size)
 case atStart=>exact ⟨[],_,HRG.out,List.Perm.refl _,World.ownsRow_nil _ _ _ _,From.nil _,HC4.out,Nat.le_refl _⟩
 case round=>
  obtain ⟨ns,rest,hri,hpm,ho,hf,hc,hsw⟩:=hrel
  have HO:=Lib.hid ho; have HFR:=Lib.hid hf; have HCR:=Lib.hid hc; have HPM:=Lib.hid hpm
  have hrd : rest.Nodup:=(List.nodup_append.1 (hpm.nodup_iff.1 HND.out)).2.1
  have hll : ns.length + rest.length≤1000:=by have:=hpm.length_eq; rw [List.length_append] at this; omega
  have hle:=hri.left_eq
  clear ho hf hc hpm
  rcases map_next (P:=Tryz.prog) hri hbne 0 with ⟨hnil,hnx⟩ | ⟨n,v,rest',wn,hn1,hn2,hn3,hn4,hn5,hnx,hri2,hcn,hent⟩
  rotate_left
  ·have HRI:=Lib.hid hri2; have HN1:=Lib.hid (Used.next_perm hrd hn1 hn4 hn5)
   have hnx':=next_ty hnx
   have HCN:=Lib.hid (HCR.out.trans hcn (fun x hx=>.inr (by simp at hx; omega)))
   have hszn:=hcn.size
   have hs4:=HS4.out
   have hon:=owns_kept HO.out hcn (fun x hx=>by have:=HFR.out x hx; simp; omega)
   have HO2:=Lib.hid (owns_kept hon ((Chg.refl [] wn).alloc (.cells #[str n] 9)) (by simp))
   have HLE:=Lib.hid hle
   clear hnx hri hri2 hcn hon hle hs4
   go_wp2_with (at_builtin; go_must (refine wpL_append rfl _ _ 25 rfl 9 _ 1 16 infoStr Tryz.underlying25 rfl (by decide) _ _ _ rfl HO2.out ⟨wn.heap.size,0,none⟩ 1 1 [_] rfl rfl (cell_new1 _ _ _) (by simp [Value.oneCell']) ?_ ?_ ?_))
   ·omega
   ·unfold maxLen; omega
   ·intro v' w' hown' hch' hmv'
    have HO3:=Lib.hid (show w'.ownsRow 0 9 1 v' (ns ++ [n]).length ((ns ++ [n]).map str) by simpa using hown')
    have HF3:=Lib.hid (HFR.out.moved hmv' (by simp; omega))
    have HC3:=Lib.hid ((HCN.out.alloc (.cells #[str n] 9)).trans hch' (fun x hx=>.inr (by have:=HFR.out x hx; have:=HS4.out; omega)))
    have HR3:=Lib.hid ((HRI.out.kept ((Chg.refl [] wn).alloc (.cells #[str n] 9)) (by simp) (by simp)).kept hch' (fun h=>by have:=HFR.out _ h; have:=HS4.out; have:=HBL.out; omega) (fun h=>by have:=HFR.out _ h; have:=HS4.out; omega))
    have hs3 : w4.heap.size≤w'.heap.size:=by have:=hch'.size; simp at this; omega
    have HP3:=Lib.hid (show keys.Perm ((ns ++ [n]) ++ rest') by
     refine HPM.out.trans ?_
     rw [List.append_assoc]
     exact List.Perm.append_left ns HN1.out)
    clear hown' hch' hmv' hnx' hent
    go_wp2_with fail
    go_roundw
    case rel=>exact ⟨ns ++ [n],rest',HR3.out,HP3.out,HO3.out,HF3.out,HC3.out,hs3⟩
    case measure=>rw [HR3.out.left_eq,HLE.out]; exact hn5
  ·have hns : ns.length≤1000:=by omega
   have HST:=Lib.hid (sorts_any ns hns _ wr HO.out)
   have hnx':=next_ty hnx
   obtain ⟨names,hnm⟩ : ∃ l:List Nm,l=ns.mergeSort (fun x y=>decide (x≤y)):=⟨_,rfl⟩
   have HNM:=Lib.hid (show Named es names from ⟨ns,by have:=HPM.out; rw [hnil,List.append_nil,HKE.out] at this; exact this.symm,hnm⟩)
   have hnl : ns.length=names.length:=by rw [hnm]; exact (List.length_mergeSort _).symm
   have hnl2 : names.length≤1000:=by omega
   rw [← hnm] at HST
   have HNL:=Lib.hid hnl
   clear hnx hri hle hnm hrd hll hnl
   go_wp2_with fail
   refine HST.out.mono ?_; rintro _ w6 ⟨rfl,ho6,hc6⟩
   have hr6:=ho6
   rw [HNL.out] at hr6
   obtain ⟨na,nc,rfl,hnc,hnrow⟩:=Row.of_owns hr6 (F:=fun x=>w.heap.size≤x∧x < w6.heap.size) (fun y hy=>⟨by have:=HFR.out y hy; have:=HS4.out; omega,owns_lt hr6 y hy⟩)
   have HC6:=Lib.hid (HCR.out.trans hc6 (fun x hx=>.inr (by have:=HFR.out x hx; have:=HS4.out; omega)))
   obtain ⟨w7,hw7⟩ : ∃ x,w6.alloc (.map #[] 0)=x:=⟨_,rfl⟩
   have hc7:Chg [] w6 w7:=by rw [← hw7]; exact (Chg.refl _ _).alloc _
   have HAD:=Lib.hid (show HadIs w7 w6.heap.size [] by rw [← hw7]; exact HadIs.made w6)
   have HNR:=Lib.hid (hnrow.kept hc7 (by simp)); have HC7:=Lib.hid (HC6.out.then hc7)
   have hs7 : w7.heap.size=w6.heap.size + 1:=by rw [← hw7]; simp
   have hs6:=HC6.out.size
   have HSZ:=Lib.hid (And.intro hs7 hs6)
   obtain ⟨db,hdb⟩ : ∃ x,w6.heap.size=x:=⟨_,rfl⟩
   rw [hdb] at HAD HSZ HNR
   obtain ⟨tot,htot⟩ : ∃ t,t=orderL names (fun i=>(mf i).isSome) (impOf mf) names.length []:=⟨_,rfl⟩
   have HTT:=Lib.hid htot
   clear ho6 hc6 hr6 hnrow hnx' hc7 hs7 hs6 htot hns
   go_wp2_with fail
   clear hw7
   go_loopw [5,8,9,10,12,13,14] (fun ov _ _ _ _ _ _ wr=>∃ (out had:List Nm),wr.ownsRow 0 9 1 ov out.length (out.map str)∧From w7.heap.size ov∧out.length≤names.length∧orderL names (fun i=>(mf i).isSome) (impOf mf) (names.length - out.length) out=tot∧HadIs wr db had∧(∀ x,x∈had↔x∈out)∧Chg [db] w7 wr) (fun ov _ _ _ _ _ _ _=>names.length - lenV ov)
   case atStart=>exact ⟨[],[],World.ownsRow_nil _ _ _ _,From.nil _,Nat.zero_le _,HTT.out.symm,HAD.out,fun x=>Iff.rfl,Chg.refl _ _⟩
   case round=>
    obtain ⟨out,had,ho,hf,hol,hot,hhad,hhe,hc⟩:=hrel
    obtain ⟨oa,oc,rfl⟩:=slice_of_owns ho
    have HO:=Lib.hid ho; have HF:=Lib.hid hf; have HOT:=Lib.hid hot; have HH:=Lib.hid hhad; have HHE:=Lib.hid hhe; have HCR:=Lib.hid hc
    have HCW:=Lib.hid (show Chg [] w wr from HC7.out.trans hc (fun x hx=>.inr (by have:=HSZ.out; simp at hx; omega)))
    clear ho hf hot hhad hhe hc
    by_cases hlt : out.length < names.length
    ·obtain ⟨f,hfn⟩ : ∃ f,names.length - out.length=f + 1:=⟨names.length - out.length - 1,by omega⟩
     have HON:=Lib.hid (show (match names.find? (may (fun i=>(mf i).isSome) (impOf mf) out) with | none=>none | some n=>orderL names (fun i=>(mf i).isSome) (impOf mf) f (out ++ [n]))=tot by
      have:=HOT.out
      rw [hfn,orderL] at this
      exact this)
     have HFN:=Lib.hid hfn
     obtain ⟨k0,hk0⟩ : ∃ k0,names.length=k0 + 1:=⟨names.length - 1,by omega⟩
     have hsub:IntKind.i64.wrap ((names.length:Int) - 1)=(k0:Int):=by
      simp only [IntKind.wrap,IntKind.bits,IntKind.signed]; simp; omega
     have hsub2 : wrap64 ((names.length:Int) - 1)=(k0:Int):=by simp [wrap64]; omega
     have HK0:=Lib.hid hk0
     clear hfn hk0
     go_wp2_with fail
     clear hsub hsub2
     obtain ⟨wl,hwl⟩ : ∃ x,x=wr:=⟨_,rfl⟩
     subst hwl
     go_loopw [8,9,10,12,13,14] (fun nx i _ _ _ _ wr=>∃ j:Nat,(j=0∧i = .int .i64 (-1) ∨ ∃ k:Nat,j=k + 1∧i=num k)∧j≤names.length∧nx=str (pickN (names.drop j) (may (fun i=>(mf i).isSome) (impOf mf) out))∧Chg [] wl wr) (fun _ i _ _ _ _ _=>(intOf i + 1).toNat)
     case atStart=>exact ⟨k0 + 1,.inr ⟨k0,rfl,rfl⟩,by have:=HK0.out; omega,by rw [List.drop_eq_nil_of_le (by have:=HK0.out; omega)]; rfl,Chg.refl _ _⟩
     case round=>
      obtain ⟨j,hj,hjl,rfl,hc⟩:=hrel
      have HC3:=Lib.hid hc
      have HCW3:=Lib.hid (HCW.out.then hc)
      clear hc
      rcases hj with ⟨rfl,rfl⟩ | ⟨k,rfl,rfl⟩
      ·rw [List.drop_zero]
       cases hfd : names.find? (may (fun i=>(mf i).isSome) (impOf mf) out) with
       | none=>
        have HT:=Lib.hid (show tot=none by rw [← HON.out,hfd])
        have hpk : pickN names (may (fun i=>(mf i).isSome) (impOf mf) out)=[]:=by rw [pickN,hfd]; rfl
        rw [hpk]
        clear hpk hfd
        go_wp2_with fail
        go_ret2
        refine ⟨HCW3.out,names,HNM.out,?_⟩
        rw [← HTT.out,HT.out]
        rfl
       | some n=>
        have HNX:=Lib.hid (show orderL names (fun i=>(mf i).isSome) (impOf mf) (names.length - (out.length + 1)) (out ++ [n])=tot by
         have:=HON.out
         rw [hfd] at this
         rw [show names.length - (out.length + 1)=f by have:=HFN.out; omega]; exact this)
        have hpk : pickN names (may (fun i=>(mf i).isSome) (impOf mf) out)=n:=by rw [pickN,hfd]; rfl
        rw [hpk]
        have hnn : n≠[]:=HNE.out n (by
         have h1:=List.mem_of_find?_eq_some hfd
         exact (mods_mem HM.out n).1 ((HNM.out.perm'.mem_iff).1 h1))
        have hb0:List.isEmpty n=false:=by cases n with
         | nil=>exact absurd rfl hnn
         | cons _ _=>rfl
        obtain ⟨wU,hmu,HHU,HCU⟩:=had_put (HH.out.kept HC3.out (by simp)) n
        have hou:=owns_kept (owns_kept HO.out HC3.out (by simp)) HCU.out (fun x hx=>by have:=HF.out x hx; have:=HSZ.out; simp; omega)
        have HOU:=Lib.hid (owns_kept hou ((Chg.refl [] wU).alloc (.cells #[str n] 9)) (by simp))
        have HCR2:=Lib.hid (show Chg [db] w7 wU from (HCR.out.then HC3.out.weak).then HCU.out)
        have hszU:=HCR2.out.size
        clear hpk hfd hnn hou
        go_wp2_with (at_builtin; go_must (refine wpL_append rfl _ _ 25 rfl 9 _ 1 16 infoStr Tryz.underlying25 rfl (by decide) _ _ _ rfl HOU.out ⟨wU.heap.size,0,none⟩ 1 1 [_] rfl rfl (cell_new1 _ _ _) (by simp [Value.oneCell']) ?_ ?_ ?_))
        ·omega
        ·unfold maxLen; omega
        ·intro v' w' hown' hch' hmv'
         obtain ⟨oa2,oc2,rfl⟩:=slice_of_owns hown'
         have HO3:=Lib.hid (show w'.ownsRow 0 9 1 (.slice oa2 (out.length + 1) oc2) (out ++ [n]).length ((out ++ [n]).map str) by simpa using hown')
         have HF3:=Lib.hid (HF.out.moved hmv' (by simp; omega))
         have HC9:=Lib.hid (show Chg [db] w7 w' from (HCR2.out.alloc (.cells #[str n] 9)).trans hch' (fun x hx=>.inr (HF.out x hx)))
         have HH9:=Lib.hid (show HadIs w' db (n :: had) from (HHU.out.kept ((Chg.refl [] wU).alloc (.cells #[str n] 9)) (by simp)).kept hch' (fun h=>by have:=HF.out _ h; have:=HSZ.out; omega))
         have HIF:=Lib.hid (show ∀ x,x∈n :: had↔x∈out ++ [n] from fun x=>by simp [HHE.out x,or_comm])
         clear hown' hch' hmv' hmu
         go_wp2_with fail
         go_roundw
         case rel=>exact ⟨out ++ [n],n :: had,HO3.out,HF3.out,by simp; omega,by rw [List.length_append]; exact HNX.out,HH9.out,HIF.out,HC9.out⟩
         case measure=>simp [lenV]; omega
      ·obtain ⟨n,hn⟩ : ∃ n,names[k]?=some n:=⟨names[k]'(by omega),List.getElem?_eq_getElem (by omega)⟩
       obtain ⟨nb,no,rfl,n0⟩:=names_cell (HNR.out.kept (HCR.out.then HC3.out.weak) (fun y hy hn=>by simp at hy; omega)) hn
       have hlk:=had_look (HH.out.kept HC3.out (by simp)) HHE.out n
       obtain ⟨nm,ai,ci,av,nv,cv,ap,np,cp,ab,nb',cb,hl1,_,hni⟩:=look_mod (HM.out.kept HCW3.out (by simp) (by simp)) n
       have hlm:=hl1 wr (Chg.refl _ _)
       have hil : (impOf mf n).length≤1000:=impOf_few HM.out n
       have HNI:=Lib.hid hni; have HN:=Lib.hid hn
       have hge : decide ((0:Int)≤(k:Int))=true:=by simp
       obtain ⟨vd,hvd,hvc⟩ : ∃ vd:Int,IntKind.i64.wrap ((k:Int) - 1)=vd∧(k=0∧vd = -1 ∨ ∃ m:Nat,k=m + 1∧vd=(m:Int)):=by
        cases k with
        | zero=>exact ⟨-1,rfl,.inl ⟨rfl,rfl⟩⟩
        | succ m=>exact ⟨m,by simp only [IntKind.wrap,IntKind.bits,IntKind.signed]; simp; omega,.inr ⟨m,rfl,rfl⟩⟩
       have hvd2 : wrap64 ((k:Int) - 1)=vd:=by
        rcases hvc with ⟨rfl,rfl⟩ | ⟨m,rfl,rfl⟩
        ·simp [wrap64]
        ·simp [wrap64]; omega
       have HVC:=Lib.hid hvc
       have HPK:=Lib.hid (show pickN (names.drop k) (may (fun i=>(mf i).isSome) (impOf mf) out)=if (may (fun i=>(mf i).isSome) (impOf mf) out) n then n else pickN (names.drop (k + 1)) (may (fun i=>(mf i).isSome) (impOf mf) out) by rw [drop_at hn,pickN_cons])
       obtain ⟨pn,hpn⟩ : ∃ x,x=pickN (names.drop (k + 1)) (may (fun i=>(mf i).isSome) (impOf mf) out):=⟨_,rfl⟩
       rw [← hpn] at HPK ⊢
       clear hl1 hni hn hvc hpn
       go_wp2_with fail
       clear hlk hlm hge
       obtain ⟨wm,hwm⟩ : ∃ x,x=wr:=⟨_,rfl⟩
       subst hwm
       go_loopw [10,12,13,14,55] (fun r _ _ _ t wr=>∃ (q:Nat) (rb:Bool),t=num q∧q≤(impOf mf n).length∧r = .bool rb∧rb=(!decide (n∈out) && !((impOf mf n).take q).any (fun i=>(mf i).isSome && !decide (i∈out)))∧Chg [] wm wr) (fun _ _ _ _ t _=>(impOf mf n).length - (intOf t).toNat)
       case atStart=>exact ⟨0,_,rfl,Nat.zero_le _,rfl,by simp,Chg.refl _ _⟩
       case round=>
        obtain ⟨q,rb,rfl,hq,rfl,hrb,hc⟩:=hrel
        have HC4:=Lib.hid hc; have HRB:=Lib.hid hrb
        have HCW4:=Lib.hid (HCW3.out.then hc)
        clear hc hrb
        by_cases hql : q < (impOf mf n).length
        ·obtain ⟨x,hx⟩ : ∃ x,(impOf mf n)[q]?=some x:=⟨(impOf mf n)[q],List.getElem?_eq_getElem hql⟩
         obtain ⟨a',c',he,_,hrow⟩:=HNI.out
         cases he
         obtain ⟨xb,xo,rfl,x0⟩:=names_cell (hrow.kept HC4.out (by simp)) hx
         have hlk:=had_look (HH.out.kept (HC3.out.then HC4.out) (by simp)) HHE.out x
         obtain ⟨xm,xi,yi,xv,zv,yv,xp,zp,yp,xz,zz,yz,_,hl2,_⟩:=look_mod (HM.out.kept HCW4.out (by simp) (by simp)) x
         have hlm:=hl2 wr (Chg.refl _ _)
         obtain ⟨wY,hwY⟩ : ∃ y,wr.alloc (.cells #[Value.string (bs xm),.slice xi (impOf mf x).length yi,.slice xv zv yv,.slice xp zp yp,.slice xz zz yz] 31)=y:=⟨_,rfl⟩
         have hcY:Chg [] wr wY:=by rw [← hwY]; exact (Chg.refl _ _).alloc _
         have HC5:=Lib.hid (HC4.out.then hcY)
         have hlkY:=had_look ((HH.out.kept (HC3.out.then HC4.out) (by simp)).kept hcY (by simp)) HHE.out x
         have HAT:=Lib.hid (any_take (fun i=>(mf i).isSome && !decide (i∈out)) hx)
         clear hl2 hx hrow hcY
         cases hms : (mf x).isSome with
         | false=>
          rw [hms] at hlm
          have HRX:=Lib.hid (show rb=(!decide (n∈out) && !((impOf mf n).take (q + 1)).any (fun i=>(mf i).isSome && !decide (i∈out))) by rw [HAT.out,hms,Bool.false_and,Bool.or_false]; exact HRB.out)
          clear hms
          go_wp2_with fail
          exact ⟨⟨q + 1,rb,by go_num,by omega,rfl,HRX.out,HC5.out⟩,by simp [intOf]; omega⟩
         | true=>
          rw [hms] at hlm
          cases hxo : decide (x∈out) with
          | true=>
           rw [hxo] at hlk hlkY
           have HRX:=Lib.hid (show rb=(!decide (n∈out) && !((impOf mf n).take (q + 1)).any (fun i=>(mf i).isSome && !decide (i∈out))) by rw [HAT.out,hms,hxo]; simp only [Bool.not_true,Bool.and_false,Bool.or_false]; exact HRB.out)
           clear hms hxo
           go_wp2_with fail
           exact ⟨⟨q + 1,rb,by go_num,by omega,rfl,HRX.out,HC5.out⟩,by simp [intOf]; omega⟩
          | false=>
           rw [hxo] at hlk hlkY
           have HRX:=Lib.hid (show false=(!decide (n∈out) && !((impOf mf n).take (q + 1)).any (fun i=>(mf i).isSome && !decide (i∈out))) by rw [HAT.out,hms,hxo]; simp)
           clear hms hxo
           go_wp2_with fail
           exact ⟨⟨q + 1,false,by go_num,by omega,rfl,HRX.out,HC5.out⟩,by simp [intOf]; omega⟩
        ·have HMY:=Lib.hid (show rb=(may (fun i=>(mf i).isSome) (impOf mf) out) n by rw [HRB.out,List.take_of_length_le (by omega)]; rfl)
         have n0r:=HC4.out.cellSome n0 (by simp)
         have HC5:=Lib.hid (HC3.out.then HC4.out)
         clear n0
         cases rb with
         | true=>
          have HPX:=Lib.hid (show n=pickN (names.drop k) (may (fun i=>(mf i).isSome) (impOf mf) out) by rw [HPK.out,← HMY.out]; rfl)
          go_wp2_with fail
          exact ⟨⟨k,by rcases HVC.out with ⟨rfl,rfl⟩ | ⟨m,rfl,rfl⟩ <;> simp,by omega,by rw [← HPX.out],HC5.out⟩,by rcases HVC.out with ⟨rfl,rfl⟩ | ⟨m,rfl,rfl⟩ <;> simp [intOf] <;> omega⟩
         | false=>
          have HPX:=Lib.hid (show pn=pickN (names.drop k) (may (fun i=>(mf i).isSome) (impOf mf) out) by rw [HPK.out,← HMY.out]; rfl)
          go_wp2_with fail
          exact ⟨⟨k,by rcases HVC.out with ⟨rfl,rfl⟩ | ⟨m,rfl,rfl⟩ <;> simp,by omega,by rw [← HPX.out],HC5.out⟩,by rcases HVC.out with ⟨rfl,rfl⟩ | ⟨m,rfl,rfl⟩ <;> simp [intOf] <;> omega⟩
    ·have hoe : out.length=names.length:=by omega
     have HT:=Lib.hid (show tot=some out by
      rw [← HOT.out,show names.length - out.length=0 by omega]; rfl)
     clear hlt
     go_wp2_with fail
     go_ret2
     refine ⟨HCW.out,names,HNM.out,?_⟩
     rw [← HTT.out,HT.out]
     refine ⟨_,rfl,?_⟩
     obtain ⟨a',c',he,hac,hrow⟩:=Row.of_owns HO.out (F:=New w wr) (fun y hy=>⟨by have:=HF.out y hy; have:=HSZ.out; omega,owns_lt HO.out y hy⟩)
     exact ⟨a',c',he,hac,hrow⟩
end Go.Proofs.YtojkkgghndeimaaGreatDoor
