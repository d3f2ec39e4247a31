/- Some texts in one. -/
import Derived.Test.YtojkkgghndeimaaGreatDoorO15
import Derived.Test.YtojkkgghndeimaaGreatDoorO21
namespace Go.Proofs.YtojkkgghndeimaaGreatDoor
open Go Go.RowKit Go.Maps Go.Sort Go.Shelf Go.Mq Go.Mq.Tree Go.Mq.Plan
theorem sorts_are (m:Nat):AnyZ.SortsIn Tryz.prog Tryz.sorted74_ren Fence.wide m:=
 ⟨fun blk off cap ss W hH hblk hsz=>callsIn_wide.2 (AnyM.slices_Sort_string Tryz.sort88 blk off cap ss W hH hblk hsz),
  fun p cap W=>callsIn_wide.2 (AnyM.slices_Sort_string_none Tryz.sort88 p cap W)⟩
theorem keys_any (mb:Option Nat) (W:World):Calls Tryz.prog 75 #[.map mb] W fun e w'=>e = .returned (.func (.func 130) #[] #[.pointer (some ⟨W.heap.size,0,none⟩)])∧w'=W.alloc (.cells #[.map mb] 53):=
 (callsIn_wide (n:=5)).1 (AnyZ.keys_in Tryz.keys75 Fence.wide 5 trivial rfl mb W)
set_option maxHeartbeats 1000000 in
theorem sorted_any {H:Type} (b nn:Nat) (D0:DataW H) (R:Value→Option (DataW H × List MemPlace)) (w:World) (hown : w.ownsMap Tryz.prog 9 R b nn D0) (hmax:Maps.size D0≤maxLen) (hbytes:Maps.size D0 * 16≤140737488355328) :
  Calls Tryz.prog 74 #[.func (.func 130) #[] #[.pointer (some ⟨w.heap.size,0,none⟩)]] (w.alloc (.cells #[.map (some b)] 53)) fun e w'=>∃ (v:Value) (ss:List (List UInt8)),e = .returned v∧ss.Perm (strKeys D0) ∧
   w'.ownsRow (w.alloc (.cells #[.map (some b)] 53)).heap.size 9 1 v ss.length ((ss.mergeSort (fun x y=>decide (x≤y))).map encStr)∧(v = .slice none 0 0↔ss=[])∧Below (w.alloc (.cells #[.map (some b)] 53)).heap.size (w.alloc (.cells #[.map (some b)] 53)) w':=by
 have hbl:=hown.lt
 have hseq:SeqGives Fence.wide 2 Tryz.prog 130 #[.pointer (some ⟨w.heap.size,0,none⟩)] encStr (fun ss=>ss.Perm (strKeys D0)) (Maps.size D0) (w.alloc (.cells #[.map (some b)] 53)):=
  AnyZ.keys_gives (ρ:=Tryz.keys75_ren) { Tryz.keys75 with } Fence.wide _ trivial rfl (by omega) w.heap.size b nn D0 _ (by simp) (by simp) (by
   obtain ⟨es,clock,hb,Ft,hs,hD⟩:=hown
   exact ⟨es,clock,(Below.heap_alloc _ _ b hbl).trans hb,Ft,hs,hD⟩)
 exact (callsIn_wide (n:=5)).1 (AnyZ.sorted_in Tryz.sorted74 Fence.wide 5 trivial trivial trivial trivial rfl (by omega) (sorts_are _) (enters_of Tryz.func88 (by kernel_rfl) rfl) 130 #[.pointer (some ⟨w.heap.size,0,none⟩)] trivial (enters_of Tryz.func130 (by kernel_rfl) rfl) _ _ hmax hbytes _ hseq)
end Go.Proofs.YtojkkgghndeimaaGreatDoor
namespace Go.Mq.Plan
open Go Go.RowKit Go.Mq Go.Mq.Tree Go.WideElems Go.MapKept
def anyR (_:Value):Option (DataW Unit × List MemPlace):=some (.lit (.bool true),[])
theorem rd_any {P:Program} {k:TypeId} (hk:P.underlying k=some .string) {x:MapEntry} {n:List UInt8} (hx : x.key=str n) (hn : n.length≤1000) : rd P k anyR x=some (.string n,.lit (.bool true)):=by
 have h1 : keyOf P k (str n)=some (.string n):=by
  have:=Go.WideMaps.keyOf_string_mk (P:=P) hk (s:=bs n) (by rw [bs_size]; unfold maxLen; omega)
  simpa [str,bs] using this
 rw [rd,hx,h1]; rfl
theorem mapIs_owns {P:Program} {k:TypeId} {w:World} {b:Nat} {es:List (List UInt8 × Value)} (hk:P.underlying k=some .string) (h:MapIs w b es) (h1 : es.length≤1000) (h2 : ∀ p∈es,p.1.length≤1000) :
  ∃ D:DataW Unit,w.ownsMap P k anyR b es.length D∧Maps.size D=es.length∧(strKeys D).Perm (es.map (·.1)):=by
 obtain ⟨arr,clock,hb,he,hst⟩:=h
 have hlen : arr.size=es.length:=by have:=congrArg List.length he; simpa using this
 have hrd : ∀ x∈arr.toList,∃ n,x.key=str n∧n.length≤1000:=fun x hx=>by
  obtain ⟨i,hi⟩:=List.getElem?_of_mem hx
  have:=congrArg (fun l=>l[i]?) he
  simp only [List.getElem?_map,hi,Option.map_some] at this
  cases hp : es[i]? with
  | none=>rw [hp] at this; simp at this
  | some p=>
   rw [hp] at this
   simp only [Option.map_some,Option.some.injEq,Prod.mk.injEq] at this
   exact ⟨p.1,this.1,h2 p (List.mem_of_getElem? hp)⟩
 refine ⟨_,⟨arr,clock,hb,⟨by unfold maxLen; omega,hst,fun x hx=>?_⟩,by omega,rfl⟩,?_,?_⟩
 ·obtain ⟨n,hn,hl⟩:=hrd x hx
  exact ⟨_,rd_any hk hn hl⟩
 ·show ((arr.toList.map (rg P k anyR)).foldr DataW.insert []).length=es.length
  rw [(WideShapes.sorted_perm _).length_eq]; simp [hlen]
 ·show (((arr.toList.map (rg P k anyR)).foldr DataW.insert []).map fun p=>strOf p.1).Perm (es.map (·.1))
  refine ((WideShapes.sorted_perm _).map _).trans ?_
  rw [List.map_map]
  have : arr.toList.map ((fun p=>strOf p.1) ∘ rg P k anyR)=es.map (·.1):=by
   apply List.ext_getElem?
   intro i
   have hi:=congrArg (fun l=>l[i]?) he
   simp only [List.getElem?_map] at hi ⊢
   cases ha : arr.toList[i]? with
   | none=>rw [ha] at hi; cases hp : es[i]? with
    | none=>rfl
    | some p=>rw [hp] at hi; simp at hi
   | some x=>
    rw [ha] at hi
    cases hp : es[i]? with
    | none=>rw [hp] at hi; simp at hi
    | some p=>
     rw [hp] at hi
     simp only [Option.map_some,Option.some.injEq,Prod.mk.injEq] at hi
     have:=rd_any hk hi.1 (h2 p (List.mem_of_getElem? hp))
     simp only [Option.map_some,Function.comp_apply,rg,this,Option.getD_some]
     rfl
  rw [this]
theorem getM_mem : ∀ {es:List (List UInt8 × Value)} {n:List UInt8},(getM es n).isSome=true↔n∈es.map (·.1)
 | [],n=>by simp [getM]
 | (k,u) :: r,n=>by
  rw [getM]
  by_cases hk : k=n
  ·subst hk; simp
  ·rw [if_neg hk,getM_mem]; simp [Ne.symm hk]
theorem mods_mem {w:World} {b:Nat} {G:Nat→Prop} {mf:Nm→Option Mod} {es:List (List UInt8 × Value)} (h:ModsAt w b G mf es) (n:Nm) : n∈es.map (·.1)↔(mf n).isSome=true:=by
 rw [← getM_mem]
 have:=h.2.2.2 n
 cases hs : mf n with
 | none=>rw [hs] at this; rw [this]; simp
 | some m=>rw [hs] at this; obtain ⟨_,v,hv,_⟩:=this; rw [hv]; simp
theorem keys_nodup {w:World} {b:Nat} {es:List (List UInt8 × Value)} (h:MapIs w b es) : (es.map (·.1)).Nodup:=by
 obtain ⟨arr,clock,hb,he,hst⟩:=h
 have h1:=hst.2.2
 have h2 : arr.toList.map (·.key)=(es.map (·.1)).map str:=by
  have:=congrArg (List.map (·.1)) he
  simpa [List.map_map,Function.comp_def] using this
 rw [h2] at h1
 exact List.Pairwise.of_map str (fun a b h e=>h (congrArg str e)) h1
structure Named (es:List (List UInt8 × Value)) (names:List Nm):Prop where
 perm : ∃ ss:List Nm,ss.Perm (es.map (·.1))∧names=ss.mergeSort fun x y=>decide (x≤y)
theorem Named.perm' {es:List (List UInt8 × Value)} {names:List Nm} (h:Named es names) : names.Perm (es.map (·.1)):=by
 obtain ⟨ss,h1,rfl⟩:=h.perm
 exact (List.mergeSort_perm _ _).trans h1
def lenAt (w:World) (b:Nat):Nat:=match w.cell? ⟨b,0,none⟩ with
 | some (.slice _ n _)=>n
 | _=>0
end Go.Mq.Plan
namespace Go.Proofs.YtojkkgghndeimaaGreatDoor
open Go Go.RowKit Go.Mq Go.Mq.Tree Go.Mq.Plan
set_option maxRecDepth 100000
set_option maxHeartbeats 4000000
def OrderOut (w:World) (mf:Nm→Option Mod) (es:List (List UInt8 × Value)) (e:Ending) (w':World):Prop:=Chg [] w w' ∧ ∃ names,Named es names∧match orderL names (fun i=>(mf i).isSome) (impOf mf) names.length [] with
 | none=>e = .returned (.tuple #[nils,.iface 32 (.int .i64 11)])
 | some o=>∃ v,e = .returned (.tuple #[v,.nilIface])∧NamesAt w' (New w w') o v
theorem order_any (b:Nat) (G:Nat→Prop) (mf:Nm→Option Mod) (es:List (List UInt8 × Value)) (w:World) (hG : ∀ x,G x→x < w.heap.size) (h:ModsAt w b G mf es) :
  Calls Tryz.prog 20 #[.map (some b)] w (OrderOut w mf es):=by
 have hmf : ∀ (fn:Fn) (first cap:Array Value) (w:World),(Instr.makeFunc fn first cap).run Tryz.prog w = .ok (.func fn first cap) w:=fun _ _ _ _=>rfl
 obtain ⟨wa,hwa⟩ : ∃ x,w.alloc (.cells #[.map (some b)] 53)=x:=⟨_,rfl⟩
 have hba:=Blk.new w #[.map (some b)] 53
 rw [hwa] at hba
 have hca:Chg [] w wa:=by rw [← hwa]; exact (Chg.refl _ _).alloc _
 have hsa : wa.heap.size=w.heap.size + 1:=by rw [← hwa]; simp
 obtain ⟨wb,hwb⟩ : ∃ x,wa.alloc (.cells #[nils] 25)=x:=⟨_,rfl⟩
 have hbb:=Blk.new wa #[nils] 25
 rw [hwb] at hbb
 have hcb:Chg [] wa wb:=by rw [← hwb]; exact (Chg.refl _ _).alloc _
 have hsb : wb.heap.size=w.heap.size + 2:=by rw [← hwb]; simp [hsa]
 have hcab:=hca.then hcb
 obtain ⟨D,hown,hsz,hkeys⟩:=mapIs_owns (P:=Tryz.prog) Tryz.underlying9 (h.kept hcab (by simp) (by simp)).1 h.2.1 h.2.2.1
 have HK:=Lib.hid (keys_any (some b) wb)
 have HS:=Lib.hid (sorted_any b es.length D anyR wb hown (by rw [hsz]; have:=h.2.1; unfold maxLen; omega) (by rw [hsz]; have:=h.2.1; omega))
 rw [hsb] at HS
 have HM:=Lib.hid (h.kept hcab (by simp) (by simp)); have HBA:=Lib.hid (hba.kept hcb (by simp)); have HBB:=Lib.hid hbb; have HC:=Lib.hid hcab
 have hes:=h.2.1
 have hbw:=h.1.lt
 have HGB:=Lib.hid hG
 have HKE:=Lib.hid hkeys
 have a0:=HBA.out.cell 0 _ rfl
 clear hG h hba hca hbb hcb hcab hown hsz hkeys
 go_enter Tryz.func20,Tryz.ntmps20
 go_wp2_with fail
 clear hwa hwb
 refine HK.out.mono ?_; rintro _ w1 ⟨rfl,hw1⟩
 go_wp2_with fail
 refine HS.out.mono ?_; rintro _ w2 ⟨nv,ss,rfl,hpm,hnr,_,hbl⟩
 have hc2:Chg [] wb w2:=((Chg.refl [] wb).alloc _).then (Chg.of_below hbl)
 obtain ⟨names,hnm⟩ : ∃ ns:List Nm,ns=ss.mergeSort fun x y=>decide (x≤y):=⟨_,rfl⟩
 rw [← hnm] at hnr
 have hnl : ss.length=names.length:=by rw [hnm]; exact ((List.mergeSort_perm _ _).length_eq).symm
 rw [hnl] at hnr
 have HND:=Lib.hid (show Named es names from ⟨ss,hpm.trans HKE.out,hnm⟩)
 have hnl2 : names.length≤1000:=by have:=HND.out.perm'.length_eq; simp at this; omega
 obtain ⟨na,nc,rfl,hnc,hnrow⟩:=Row.of_owns (F:=fun g=>w.heap.size + 2 < g) (show w2.ownsRow 0 9 1 nv names.length (names.map str) from ⟨hnr.1,by
  rcases hnr.2 with h | ⟨g,cap,cur,h1,_,h3⟩
  ·exact .inl h
  ·exact .inr ⟨g,cap,cur,h1,Nat.zero_le _,h3⟩⟩) (fun g hg=>by
  rcases hnr.2 with ⟨h,_⟩ | ⟨g',cap,cur,h1,h2,_⟩
  ·subst h; cases hg
  ·subst h1; simp [blk] at hg; subst hg; simp at h2; omega)
 have HNR:=Lib.hid hnrow; have HC2:=Lib.hid hc2
 have HB2:=Lib.hid (HBB.out.kept hc2 (by simp))
 obtain ⟨tot,htot⟩ : ∃ t,t=orderL names (fun i=>(mf i).isSome) (impOf mf) names.length []:=⟨_,rfl⟩
 have HTT:=Lib.hid htot
 have hs2:=hc2.size
 clear hpm hnr hnm hnl hnrow hc2 hbl htot hw1 a0
 go_wp2_with fail
 have HSB:=Lib.hid hsb; have HSA:=Lib.hid hsa
 clear hsa hsb
 go_loopw [6] (fun _ wr=>∃ (out:List Nm) (ov:Value),Blk wr (w.heap.size + 1) #[ov] 25∧wr.ownsRow 0 9 1 ov out.length (out.map str)∧From w2.heap.size ov∧out.length≤names.length∧orderL names (fun i=>(mf i).isSome) (impOf mf) (names.length - out.length) out=tot∧Chg [w.heap.size + 1] w2 wr) (fun _ wr=>names.length - lenAt wr (w.heap.size + 1))
 case atStart=>exact ⟨[],nils,(by have:=HB2.out; rwa [show wa.heap.size=w.heap.size + 1 from HSA.out] at this),World.ownsRow_nil _ _ _ _,From.nil _,Nat.zero_le _,HTT.out.symm,Chg.refl _ _⟩
 case round=>
  obtain ⟨out,ov,hbo,hov,hfo,hol,hot,hc⟩:=hrel
  obtain ⟨oa,oc,rfl⟩:=slice_of_owns hov
  have HBO:=Lib.hid hbo; have HOV:=Lib.hid hov; have HFO:=Lib.hid hfo; have HOT:=Lib.hid hot; have HCR:=Lib.hid hc
  have hs2w:=hc.size
  have hsbo:=HSB.out
  have o0:=hbo.cell 0 _ rfl
  have HLA:=Lib.hid (show lenAt wr (w.heap.size + 1)=out.length by rw [lenAt,o0] <;> rfl)
  have hOA:OrderAt wr w.heap.size (w.heap.size + 1) b G (fun _=>True) mf es out:=by
   refine ⟨?_,⟨_,o0,?_⟩,(HM.out.kept HC2.out (by simp) (by simp)).kept hc (by simp; omega) (fun x hx hn=>by simp at hx; have:=HGB.out x hn; omega),by omega⟩
   ·exact hc.cellSome ((HBA.out.kept HC2.out (by simp)).cell 0 _ rfl) (by simp)
   ·obtain ⟨a',c',he,hac,hrow⟩:=Row.of_owns hov (F:=fun _=>True) (fun _ _=>trivial)
    exact ⟨a',c',he,hac,hrow⟩
  have HIX:=Lib.hid (outer_index names hnl2 (may (fun i=>(mf i).isSome) (impOf mf) out) (w.heap.size + 1) w.heap.size (fun g=>w.heap.size + 2 < g) _ wr ⟨na,nc,rfl,hnc,HNR.out.kept hc (fun x hx hn=>by simp at hx; omega)⟩ (fun n w' hc'=>outer_any n w.heap.size (w.heap.size + 1) b G (fun _=>True) mf es out w' (hOA.kept hc')))
  clear hbo hov hfo hot hc hOA
  by_cases hlt : out.length < names.length
  ·obtain ⟨f,hfn⟩ : ∃ f,names.length - out.length=f + 1:=⟨names.length - out.length - 1,by omega⟩
   have HON:=Lib.hid (show (match names.find? (may (fun i=>(mf i).isSome) (impOf mf) out) with | none=>none | some n=>orderL names (fun i=>(mf i).isSome) (impOf mf) f (out ++ [n]))=tot by
    have:=HOT.out
    rw [hfn,orderL] at this
    exact this)
   go_wp2_with fail
   refine HIX.out.mono ?_; rintro e w3 ⟨hat,hc3⟩
   rw [At1] at hat
   cases hfd : names.find? (may (fun i=>(mf i).isSome) (impOf mf) out) with
   | none=>
    rw [hfd] at hat
    simp only at hat
    subst hat
    have HT:=Lib.hid (show tot=none by rw [← HON.out,hfd])
    have HC3:=Lib.hid (show Chg [] w w3 from (HC.out.then HC2.out).trans (HCR.out.then hc3.weak) (fun x hx=>.inr (by simp at hx; omega)))
    clear hc3 hfd o0
    go_wp2_with fail
    go_ret2
    refine ⟨HC3.out,names,HND.out,?_⟩
    rw [← HTT.out,HT.out]
    rfl
   | some n=>
    rw [hfd] at hat
    obtain ⟨k,hk,rfl⟩:=hat
    have hkl : k < names.length:=(List.getElem?_eq_some_iff.1 hk).1
    have HNX:=Lib.hid (show orderL names (fun i=>(mf i).isSome) (impOf mf) (names.length - (out.length + 1)) (out ++ [n])=tot by
     have:=HON.out
     rw [hfd] at this
     rw [show names.length - (out.length + 1)=f by omega]; exact this)
    have HCR3:=Lib.hid (HCR.out.then hc3.weak)
    have hs3:=hc3.size
    obtain ⟨nb,no,hna,n0⟩:=names_cell (HNR.out.kept HCR3.out (fun x hx hn=>by simp at hx; omega)) hk
    obtain ⟨_,_,hna',n2⟩:=names_cell HNR.out hk
    subst hna
    cases hna'
    have hnb2 : nb < w2.heap.size:=lt_of_cell n2
    have HBO3:=Lib.hid (HBO.out.kept hc3 (by simp)); have HOV3:=Lib.hid (owns_kept HOV.out hc3 (fun _ _ h=>by cases h))
    clear hfd hk hc3 o0 n2
    go_wp2_with fail
    obtain ⟨wD,hwD⟩ : ∃ x,x=w3.drew:=⟨_,rfl⟩
    have hcD:Chg [] w3 wD:=by rw [hwD]; exact (Chg.refl [] w3).drew
    have HBD:=Lib.hid (HBO3.out.kept hcD (by simp)); have HOD:=Lib.hid (owns_kept HOV3.out hcD (fun _ _ h=>by cases h))
    have n0D:=hcD.cellSome n0 (by simp)
    have o0:=HBD.out.cell 0 _ rfl
    have HCRD:=Lib.hid (HCR3.out.then hcD.weak)
    have hbv : w.heap.size + 1∉blk (.slice oa out.length oc):=fun hm=>by have:=HFO.out _ hm; omega
    have hnv : nb∉blk (.slice oa out.length oc):=fun hm=>by have:=HFO.out _ hm; omega
    have Z1:=Lib.hid (Zone.of (X:=blk (.slice oa out.length oc)) (w0:=wD) o0 hbv); have Z2:=Lib.hid (Zone.of (X:=blk (.slice oa out.length oc)) (w0:=wD) n0D hnv)
    have HBV:=Lib.hid hbv
    have hsD:=hcD.size
    clear n0 hcD hnv hbv
    refine wp_region_T (blk (.slice oa out.length oc)) rfl (by kernel_rfl) rfl ?_
    rw [← hwD]
    clear hwD
    have hS:Chg (blk (.slice oa out.length oc)) wD wD:=Chg.refl _ _
    repeat ((with_reducible refine gX ?_); (first | refine wpX_nil ?_ | refine sK ?_ | refine sM fun _ _=>?_ | refine sL (hz:=by first | exact Z1.out | exact Z2.out) fun _ _=>?_ | refine sE fun _ _=>?_); go_wp2_with fail)
    refine And.intro (hS.alloc _) ?_
    have hS1:Chg (blk (.slice oa out.length oc)) wD (wD.alloc (.cells #[str n] 9)):=hS.alloc _
    repeat ((with_reducible refine gX ?_); (first | refine wpX_nil ?_ | refine sK ?_ | refine sM fun _ _=>?_ | refine sL (hz:=by first | exact Z1.out | exact Z2.out) fun _ _=>?_ | refine sE fun _ _=>?_); go_wp2_with fail)
    refine wpX_append _ _ 25 rfl rfl rfl 9 (.string ⟨#[]⟩) 1 16 infoStrC Tryz.underlying25 rfl (by decide) (.slice oa out.length oc) out.length (out.map str) rfl (owns_kept HOD.out ((Chg.refl [] _).alloc _) (fun _ _ h=>by cases h)) ⟨wD.heap.size,0,none⟩ 1 1 [str n] rfl rfl (cells_new _ _ _) (by simp [Value.oneCell']) (by omega) (by unfold maxLen; omega) ?_
    intro v4 w4 ho4 hc4 hm4
    have hS4:Chg (blk (.slice oa out.length oc)) wD w4:=(hS.alloc _).then hc4
    obtain ⟨va,vc,rfl⟩:=slice_of_owns ho4
    have hb4:=HBD.out.kept hS4 HBV.out
    have c4:=hb4.cell 0 _ rfl; have f4:=hb4.frozen 0
    obtain ⟨wE,hwE⟩ : ∃ x,w4.setCell ⟨w.heap.size + 1,0,none⟩ (.slice va (out.length + 1) vc)=x:=⟨_,rfl⟩
    have hbE:Blk wE (w.heap.size + 1) #[.slice va (out.length + 1) vc] 25:=by rw [← hwE]; simpa using hb4.set 0 (.slice va (out.length + 1) vc)
    have hcE:Chg [w.heap.size + 1] w4 wE:=by rw [← hwE]; exact Chg.set1 _ _ _ _
    have hf4:From w2.heap.size (.slice va (out.length + 1) vc):=fun g hg=>by
     rcases hm4 g hg with h | h
     ·exact HFO.out g h
     ·simp at h; omega
    have HBE:=Lib.hid hbE; have HFE:=Lib.hid hf4
    have HOE:=Lib.hid (show wE.ownsRow 0 9 1 (.slice va (out.length + 1) vc) (out ++ [n]).length ((out ++ [n]).map str) from by
     have h1:=owns_kept ho4 hcE (fun g hg hm=>by have:=hf4 g hg; simp at hm; omega)
     rw [List.map_append,List.length_append]; exact h1)
    have HCE:=Lib.hid (show Chg [w.heap.size + 1] w2 wE from (HCRD.out.trans hS4 (fun x hx=>.inr (HFO.out x hx))).then hcE)
    have HLE:=Lib.hid (show lenAt wE (w.heap.size + 1)=out.length + 1 by rw [lenAt,hbE.cell 0 _ rfl] <;> rfl)
    clear ho4 hc4 hm4 hb4 hbE hcE hf4
    refine And.intro hS4 ?_
    repeat ((with_reducible refine gX ?_); (first | refine wpX_nil ?_ | refine sK ?_ | refine sM fun _ _=>?_ | refine sL (hz:=by first | exact Z1.out | exact Z2.out) fun _ _=>?_ | refine sE fun _ _=>?_); go_wp2_with fail)
    refine stepX_ef rfl rfl (fun _ _=>?_)
    change Oper.wp _ (Oper.mk ..) ..
    go_wp2_with fail
    refine ⟨⟨out ++ [n],_,HBE.out,HOE.out,HFE.out,by simp; omega,by rw [List.length_append]; exact HNX.out,HCE.out⟩,?_⟩
    rw [HLA.out,HLE.out]; omega
  ·have HT:=Lib.hid (show tot=some out by rw [← HOT.out,show names.length - out.length=0 by omega]; rfl)
   go_wp2_with fail
   go_ret2
   have hc3:Chg [] w wr:=(HC.out.then HC2.out).trans HCR.out (fun x hx=>.inr (by simp at hx; omega))
   refine ⟨hc3,names,HND.out,?_⟩
   rw [← HTT.out,HT.out]
   refine ⟨_,rfl,?_⟩
   obtain ⟨a',c',he,hac,hrow⟩:=Row.of_owns HOV.out (F:=New w wr) (fun g hg=>⟨by have:=HFO.out g hg; omega,owns_lt HOV.out g hg⟩)
   exact ⟨a',c',he,hac,hrow⟩
end Go.Proofs.YtojkkgghndeimaaGreatDoor
