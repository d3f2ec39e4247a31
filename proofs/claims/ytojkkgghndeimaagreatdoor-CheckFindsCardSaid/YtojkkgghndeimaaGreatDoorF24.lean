/- Some texts in one. -/
import Derived.Deep.DeepCutAuto
import Derived.Lib.ReflectliteSwap
import Derived.Laws.Externs
import Derived.Sort.Walk0
import Derived.Test.YtojkkgghndeimaaGreatDoorF9
import Derived.Test.YtojkkgghndeimaaGreatDoorF17
import Derived.Test.YtojkkgghndeimaaGreatDoorF19
namespace Go.Proofs.YtojkkgghndeimaaGreatDoor
open Go Go.RowKit Go.Mq Go.Mq.Tree Go.Mq.Ref Go.Mq.Sym
set_option maxRecDepth 100000
set_option maxHeartbeats 2000000
theorem rfind_any (l:List Sy) (hl : l.length≤1000) (n:List UInt8) (F:Nat→Prop) (v:Value) (w:World) (h:SymsAt w F l v) :
  Calls Tryz.prog 36 #[v,str n] w (fun e w'=>e = .returned (.int .i64 (findI l n))∧Chg [] w w'):=by
 obtain ⟨a,c,rfl,hac,hrow,_⟩:=h
 have HROW:=Lib.hid hrow
 clear hrow
 go_enter Tryz.func36,Tryz.ntmps36
 go_wp2_with fail
 go_loopw [5,6,9] (fun _ _ i wr=>∃ k:Nat,i=num k∧k≤l.length∧Chg [] w wr ∧ ∀ (i:Nat) (x:Sy),i < k→l[i]?=some x→x.name≠n) (fun _ _ i _=>l.length - (intOf i).toNat)
 case atStart=>exact ⟨0,rfl,Nat.zero_le _,Chg.refl _ _,fun i x hi=>by omega⟩
 case round=>
  obtain ⟨k,rfl,hk,hc,hno⟩:=hrel
  have HNO:=Lib.hid hno; have HC:=Lib.hid hc
  clear hno hc
  by_cases hlt : k < l.length
  ·obtain ⟨s,hs⟩ : ∃ s,l[k]?=some s:=⟨l[k],List.getElem?_eq_getElem hlt⟩
   obtain ⟨bb,off,rfl,d0,d1,d2⟩:=sy_cells3 (HROW.out.kept HC.out (by simp)) hs
   have HS:=Lib.hid hs
   have hz:=Blk.new wr #[str [],.int .i64 0,.int .i64 0] 106
   obtain ⟨wA,hwA⟩ : ∃ wA,wr.alloc (.cells #[str [],.int .i64 0,.int .i64 0] 106)=wA:=⟨_,rfl⟩
   rw [hwA] at hz
   have hcA:Chg [] wr wA:=by rw [← hwA]; exact (Chg.refl _ _).alloc _
   obtain ⟨wF,hwF,hcF,hbF⟩:=set3 (str s.name) (.int .i64 s.len) (.int .i64 s.args) hz
   have hcw:Chg [] wr wF:=hcA.trans hcF (fun x hx=>.inr (by simp at hx; omega))
   have g0:=hcA.cellSome d0 (by simp); have g1:=hcA.cellSome d1 (by simp); have g2:=hcA.cellSome d2 (by simp)
   have z0:=hz.cell 0 _ rfl; have z1:=hz.cell 1 _ rfl; have z2:=hz.cell 2 _ rfl
   have y0:=hz.frozen 0; have y1:=hz.frozen 1; have y2:=hz.frozen 2
   have e0:=hbF.cell 0 _ rfl; have e1:=hbF.cell 1 _ rfl; have e2:=hbF.cell 2 _ rfl
   have HCF:=Lib.hid (HC.out.then hcw)
   clear hcA hcF hbF hcw hz hs
   cases hq : (s.name == n) with
   | true=>
    have HR:=Lib.hid (show findI l n=k by rw [findI,findI_some HS.out (by simpa using hq) HNO.out])
    go_wp2_with fail
    go_ret
    exact ⟨by rw [HR.out]; rfl,HCF.out⟩
   | false=>
    have HN:=Lib.hid (show s.name≠n by simpa using hq)
    go_wp2_with fail
    refine ⟨⟨k + 1,by go_num,by omega,HCF.out,fun i x hi hx=>?_⟩,by simp [intOf]; omega⟩
    by_cases he : i < k
    ·exact HNO.out i x he hx
    ·have : i=k:=by omega
     subst this
     rw [HS.out] at hx
     cases hx
     exact HN.out
  ·have HR:=Lib.hid (show findI l n = -1 by rw [findI,findI_none fun i x hx=>HNO.out i x (by have:=(List.getElem?_eq_some_iff.1 hx).1; omega) hx])
   go_wp2_with fail
   go_ret
   exact ⟨by rw [HR.out]; rfl,HC.out⟩
end Go.Proofs.YtojkkgghndeimaaGreatDoor
namespace Go.Mq.Sym
open Go Go.RowKit Go.Mq Go.Mq.Tree Go.Mq.Ref
theorem lt_names : ∀ a b:List UInt8,decide (a < b)=decide (Lib.compareBytes a b < 0)
 | [],[]=>by simp [Lib.compareBytes]
 | [],_ :: _=>by simp [Lib.compareBytes]
 | _ :: _,[]=>by simp [Lib.compareBytes]
 | c :: a,d :: b=>by
  have ih:=lt_names a b
  simp only [Lib.compareBytes,List.cons_lt_cons_iff]
  by_cases h1 : c < d
  ·simp [h1]
  ·by_cases h2 : d < c
   ·have : c≠d:=fun e=>h1 (e ▸ h2)
    simp [h1,h2,this]
   ·have : c=d:=by
     apply UInt8.toNat_inj.1
     have h1' : ¬ c.toNat < d.toNat:=h1
     have h2' : ¬ d.toNat < c.toNat:=h2
     omega
    subst this
    simp only [h1,if_false]
    simpa using ih
end Go.Mq.Sym
namespace Go.Proofs.YtojkkgghndeimaaGreatDoor
open Go Go.RowKit Go.Mq Go.Mq.Tree Go.Mq.Ref Go.Mq.Sym
set_option maxRecDepth 100000
set_option maxHeartbeats 2000000
theorem rless_any (g bl c:Nat) (l:List Sy) (hl : l.length≤20) (i k:Nat) (x y:Sy) (hx : l[i]?=some x) (hy : l[k]?=some y) (w:World) (h:SyBlk w g l) (hv : w.cell? ⟨bl,0,none⟩=some (.slice (some ⟨g,0,none⟩) l.length c)) :
  Calls Tryz.prog 56 #[num i,num k,ptr bl] w (fun e w'=>e = .returned (.bool (ltS x y))∧Chg [] w w'):=by
 have hi:=(List.getElem?_eq_some_iff.1 hx).1; have hk:=(List.getElem?_eq_some_iff.1 hy).1
 obtain ⟨x0,x1,x2⟩:=h.cells hx
 obtain ⟨y0,y1,y2⟩:=h.cells hy
 have HR:=Lib.hid (show ltS x y=Op.bytesLess x.name y.name by rw [Proofs.bytesLess_eq]; exact (lt_names x.name y.name).symm)
 clear h hx hy
 go_enter Tryz.func56,Tryz.ntmps56
 go_wp2_with fail
 go_region
 all_goals (try go_wp2_with fail)
 all_goals
  go_ret
  exact ⟨by rw [HR.out]; rfl,(Chg.refl _ _).drew⟩
def SwapsAt (sf:Nat) (h:Value) (g n c:Nat):Prop:=∀ (w:World) (l:List Sy),SyBlk w g l→l.length=n → ∀ (i j:Nat) (x y:Sy),l[i]?=some x→l[j]?=some y →
 ∃ w',(callFunc sf #[num i,num j,.slice (some ⟨g,0,none⟩) n c,h]).run Tryz.prog w = .ok (.value (.tuple #[])) w'∧SyBlk w' g ((l.set i y).set j x)∧Chg [g] w w'
theorem rinsert_any (sf:Nat) (hd:Value) (g bl c:Nat) (l:List Sy) (hl : l.length≤20) (hsw:SwapsAt sf hd g l.length c) (w:World) (h:SyBlk w g l) (hv : w.cell? ⟨bl,0,none⟩=some (.slice (some ⟨g,0,none⟩) l.length c)) (hne : bl≠g) :
  Calls Tryz.prog 160 #[.agg #[.func (.func 56) #[] #[ptr bl],.func (.func sf) #[] #[.slice (some ⟨g,0,none⟩) l.length c,hd]],num 0,num l.length] w (fun e w'=>e = .returned (.tuple #[])∧SyBlk w' g (insSort l)∧Chg [g] w w'):=by
 have hlt:=h.lt
 obtain ⟨w0,hw0⟩ : ∃ x,w.alloc (.cells #[.func (.func 56) #[] #[ptr bl],.func (.func sf) #[] #[.slice (some ⟨g,0,none⟩) l.length c,hd]] 185)=x:=⟨_,rfl⟩
 have hc0:Chg [] w w0:=hw0 ▸ (Chg.refl _ _).alloc _
 have hb0:Blk w0 w.heap.size #[.func (.func 56) #[] #[ptr bl],.func (.func sf) #[] #[.slice (some ⟨g,0,none⟩) l.length c,hd]] 185:=hw0 ▸ Blk.new w _ _
 have hdg : w.heap.size≠g:=by omega
 have hblt : bl < w.heap.size:=lt_of_cell hv
 have H:=Lib.hid (h.kept hc0 (by simp)); have HB:=Lib.hid hb0; have HC0:=Lib.hid hc0; have HV:=Lib.hid (hc0.cellSome hv (by simp)); have HSW:=Lib.hid hsw
 clear h hc0 hb0 hv hsw
 go_enter Tryz.func160,Tryz.ntmps160
 go_wp2_with fail
 clear hw0
 go_loopw [6,7] (fun i _ wr=>∃ (n:Nat) (l1:List Sy),i=num n∧1≤n∧n≤21∧SyBlk wr g l1∧l1.length=l.length∧sortFrom n l.length l1=insSort l∧Chg [g] w0 wr) (fun i _ _=>21 - (intOf i).toNat)
 case atStart=>exact ⟨1,l,rfl,by omega,by omega,H.out,rfl,rfl,Chg.refl _ _⟩
 case round=>
  obtain ⟨n,l1,rfl,hn1,hn2,hb,hll,hs,hc⟩:=hrel
  have HBL:=Lib.hid hb; have HS:=Lib.hid hs; have HC:=Lib.hid hc
  clear hb hs hc
  by_cases hlt2 : n < l.length
  ·go_wp2_with fail
   go_loopw [7] (fun j ws=>∃ (k:Nat) (l2:List Sy),j=num k∧k≤n∧SyBlk ws g l2∧l2.length=l.length∧sinkS k l2=sinkS n l1∧Chg [g] w0 ws) (fun j _=>(intOf j).toNat)
   case atStart=>exact ⟨n,l1,rfl,Nat.le_refl _,HBL.out,hll,rfl,HC.out⟩
   case round=>
    obtain ⟨k,l2,rfl,hkn,hb,hl2,hs,hc⟩:=hrel
    have HB2:=Lib.hid hb; have HS2:=Lib.hid hs; have HC2:=Lib.hid hc
    clear hb hs hc
    have q0:=HC2.out.cellSome (HB.out.cell 0 _ rfl) (by simpa using hdg)
    by_cases hk0 : 0 < k
    ·obtain ⟨k,rfl⟩ : ∃ k',k=k' + 1:=⟨k - 1,by omega⟩
     obtain ⟨x,hx⟩ : ∃ x,l2[k + 1]?=some x:=⟨l2[k + 1]'(by omega),List.getElem?_eq_getElem (by omega)⟩
     obtain ⟨y,hy⟩ : ∃ y,l2[k]?=some y:=⟨l2[k]'(by omega),List.getElem?_eq_getElem (by omega)⟩
     have hL:=rless_any g bl c l2 (by omega) (k + 1) k x y hx hy wr HB2.out (by rw [hl2]; exact HC2.out.cellSome HV.out (by simpa using hne))
     have HX:=Lib.hid hx; have HY:=Lib.hid hy; have HL:=Lib.hid hL
     have hsub:IntKind.i64.wrap (((k + 1:Nat):Int) - 1)=(k:Int):=by
      simp only [IntKind.wrap,IntKind.bits,IntKind.signed]; simp; omega
     have hgt : decide ((0:Int) < ((k + 1:Nat):Int))=true:=by simp <;> omega
     clear hx hy hL
     go_wp2_with fail
     refine HL.out.mono ?_; rintro _ wk ⟨rfl,hck⟩
     have HBk:=Lib.hid (HB2.out.kept hck (by simp))
     have HCk:=Lib.hid (HC2.out.then hck.weak)
     obtain ⟨wz,hsz0,hbz,hcz⟩:=HSW.out wk l2 HBk.out hl2 (k + 1) k x y HX.out HY.out
     have hsz : (callFunc sf #[num ((k:Int) + 1),num k,.slice (some ⟨g,0,none⟩) l.length c,hd]).run Tryz.prog wk = .ok (.value (.tuple #[])) wz:=hsz0
     clear hsz0
     clear q0 hck
     have q1:=HCk.out.cellSome (HB.out.cell 1 _ rfl) (by simpa using hdg)
     cases hlz : ltS x y with
     | true=>
      have HSK:=Lib.hid (show sinkS (k + 1) l2=sinkS k ((l2.set (k + 1) y).set k x) by
       have e1 : l2.getD (k + 1) Sy.none=x:=by rw [List.getD_eq_getElem?_getD,HX.out]; rfl
       have e2 : l2.getD k Sy.none=y:=by rw [List.getD_eq_getElem?_getD,HY.out]; rfl
       rw [sinkS,e1,e2,if_pos hlz])
      have HBZ:=Lib.hid hbz; have HCZ:=Lib.hid (HCk.out.then hcz)
      clear hbz hcz
      go_wp2_with fail
      go_roundw
      case rel=>exact ⟨k,(l2.set (k + 1) y).set k x,by go_num,by omega,HBZ.out,by simp; omega,by rw [← HSK.out,HS2.out],HCZ.out⟩
      case measure=>simp [intOf]
     | false=>
      have HSK:=Lib.hid (show sinkS (k + 1) l2=l2 by
       have e1 : l2.getD (k + 1) Sy.none=x:=by rw [List.getD_eq_getElem?_getD,HX.out]; rfl
       have e2 : l2.getD k Sy.none=y:=by rw [List.getD_eq_getElem?_getD,HY.out]; rfl
       rw [sinkS,e1,e2,if_neg (by simp [hlz])])
      clear hbz hcz hsz
      go_wp2_with fail
      go_roundw
      case rel=>
       refine ⟨n + 1,l2,by go_num,by omega,by omega,HBk.out,hl2,?_,HCk.out⟩
       rw [← HSK.out,HS2.out,← sortFrom_step hlt2,HS.out]
      case measure=>simp [intOf]; omega
    ·have hk00 : k=0:=by omega
     subst hk00
     go_wp2_with fail
     go_roundw
     case rel=>
      refine ⟨n + 1,l2,by go_num,by omega,by omega,HB2.out,hl2,?_,HC2.out⟩
      have e:=HS2.out
      rw [sinkS] at e
      rw [e,← sortFrom_step hlt2,HS.out]
     case measure=>simp [intOf]; omega
  ·go_wp2_with fail
   refine bodyPost_end (results_none rfl _ _ _) rfl ⟨rfl,?_,HC0.out.weak.then HC.out⟩
   have e:=HS.out
   rw [sortFrom_end (by omega)] at e
   rw [← e]
   exact HBL.out
end Go.Proofs.YtojkkgghndeimaaGreatDoor
namespace Go.Proofs.YtojkkgghndeimaaGreatDoor
open Go Go.RowKit Go.Mq Go.Mq.Tree Go.Mq.Ref Go.Mq.Sym
set_option maxRecDepth 100000
set_option maxHeartbeats 2000000
theorem swaps_at (g n c:Nat):SwapsAt 159 (typeHandle Tryz.prog 106) g n c:=by
 intro w l h hl i j x y hx hy
 have hi:=(List.getElem?_eq_some_iff.1 hx).1; have hj:=(List.getElem?_eq_some_iff.1 hy).1
 obtain ⟨x0,x1,x2⟩:=h.cells hx
 obtain ⟨y0,y1,y2⟩:=h.cells hy
 obtain ⟨ie,hie⟩ : ∃ ie,Tryz.prog.info? 106=some ie:=⟨_,rfl⟩
 have hs : ie.size=3:=by
  have : (Tryz.prog.info? 106).map (fun i=>i.size)=some 3:=by kernel_rfl
  rw [hie] at this
  exact Option.some.inj this
 have hcall:=run_callFunc_extern (P:=Tryz.prog) Tryz.func159 (by kernel_rfl) (by kernel_rfl) (by kernel_rfl) (e:=Extern.ReflectliteSwapper.swap false) (by kernel_rfl) #[num i,num j,.slice (some ⟨g,0,none⟩) n c,typeHandle Tryz.prog 106] w
 have hrun:=Lib.run_swap_cells (P:=Tryz.prog) false 106 ie hie (fun w=>by kernel_rfl) g 0 n c i j (by omega) (by omega) [str x.name,num x.len,num x.args] [str y.name,num y.len,num y.args] (by rw [hs]; rfl) (by rw [hs]; rfl) (by simp [Value.oneCell']) (by simp [Value.oneCell']) w
  (fun k v hk=>by
   rw [hs,Nat.zero_add]
   have : k < 3:=by simpa using (List.getElem?_eq_some_iff.1 hk).1
   obtain rfl | rfl | rfl : k=0∨k=1∨k=2:=by omega
   ·cases hk; exact x0
   ·cases hk; exact x1
   ·cases hk; exact x2)
  (fun k v hk=>by
   rw [hs,Nat.zero_add]
   have : k < 3:=by simpa using (List.getElem?_eq_some_iff.1 hk).1
   obtain rfl | rfl | rfl : k=0∨k=1∨k=2:=by omega
   ·cases hk; exact y0
   ·cases hk; exact y1
   ·cases hk; exact y2)
  (fun k _=>h.frozen _) (fun k _=>h.frozen _)
 rw [hrun] at hcall
 rw [hs] at hcall
 obtain ⟨hp,hc⟩:=h.swap i j hi hj y x
 refine ⟨_,hcall,?_,?_⟩
 ·simpa [World.setCells] using hp
 ·simpa [World.setCells] using hc
theorem rinsert_few (u v:Value) (m n:Nat) (hm : m≤20) (hn : n≤m + 1) (w:World) :
  Calls Tryz.prog 160 #[.agg #[u,v],num m,num n] w (fun e w'=>e = .returned (.tuple #[])∧Chg [] w w'):=by
 have hc0:=Lib.hid ((Chg.refl [] w).alloc (.cells #[u,v] 185))
 go_enter Tryz.func160,Tryz.ntmps160
 go_wp2_with fail
 obtain ⟨w0,hw0⟩ : ∃ x,w.alloc (.cells #[u,v] 185)=x:=⟨_,rfl⟩
 rw [hw0] at hc0 ⊢
 go_loopw [6,7] (fun i _ wr=>i=num ((m:Int) + 1)∧wr=w0) (fun _ _ _=>0)
 case atStart=>exact ⟨rfl,rfl⟩
 case round=>
  obtain ⟨rfl,rfl⟩:=hrel
  have hd : decide ((m:Int) + 1 < (n:Int))=false:=by simp; omega
  go_wp2_with fail
  exact bodyPost_end (results_none rfl _ _ _) rfl ⟨rfl,hc0.out⟩
abbrev lessV (bl:Nat):Value:=.func (.func 56) #[] #[ptr bl]
noncomputable abbrev swapV (g n c:Nat):Value:=.func (.func 159) #[] #[.slice (some ⟨g,0,none⟩) n c,typeHandle Tryz.prog 106]
theorem rstable_any (g bl c:Nat) (l:List Sy) (hl : l.length≤20) (w:World) (h:SyBlk w g l) (hv : w.cell? ⟨bl,0,none⟩=some (.slice (some ⟨g,0,none⟩) l.length c)) (hne : bl≠g) :
  Calls Tryz.prog 111 #[.agg #[lessV bl,swapV g l.length c],num l.length] w (fun e w'=>e = .returned (.tuple #[])∧SyBlk w' g (insSort l)∧Chg [g] w w'):=by
 obtain ⟨sv,hsv⟩ : ∃ x,x=swapV g l.length c:=⟨_,rfl⟩
 obtain ⟨lv,hlv⟩ : ∃ x,x=lessV bl:=⟨_,rfl⟩
 have HI:=Lib.hid (show ∀ w',Chg [] w w'→Calls Tryz.prog 160 #[.agg #[lv,sv],num 0,num l.length] w' (fun e w2=>e = .returned (.tuple #[])∧SyBlk w2 g (insSort l)∧Chg [g] w' w2) from fun w' hc=>by
  rw [hsv,hlv]; exact rinsert_any _ _ g bl c l hl (swaps_at g l.length c) w' (h.kept hc (by simp)) (hc.cellSome hv (by simp)) hne)
 have hlt:=h.lt
 rw [← hlv,← hsv]
 obtain ⟨w0,hw0⟩ : ∃ x,w.alloc (.cells #[lv,sv] 185)=x:=⟨_,rfl⟩
 have hc0:Chg [] w w0:=hw0 ▸ (Chg.refl _ _).alloc _
 have hb0:Blk w0 w.heap.size #[lv,sv] 185:=hw0 ▸ Blk.new w _ _
 have hdg : w.heap.size≠g:=by omega
 have HB:=Lib.hid hb0; have HC0:=Lib.hid hc0
 have HI0:=Lib.hid (HI.out w0 hc0)
 clear h hv hsv hlv hc0 hb0 HI
 by_cases h20 : l.length=20
 ·rw [h20] at HI0 ⊢
  change Calls _ _ #[_,.int .i64 (20:Int)] _ _
  have q0:=HB.out.cell 0 _ rfl; have q1:=HB.out.cell 1 _ rfl
  go_enter Tryz.func111,Tryz.ntmps111
  go_wp2_with fail
  clear hw0
  go_loopw [5,6] (fun a b wr=>∃ q m:Nat,q≤20∧a=num q∧b=num m∧m=q + 20∧(q=0∨q=20)∧(q=0→w0=wr)∧(q=20→SyBlk wr g (insSort l)∧Chg [g] w0 wr)) (fun _ b _=>40 - (intOf b).toNat)
  case atStart=>exact ⟨0,20,by omega,rfl,rfl,rfl,.inl rfl,fun _=>rfl,fun h=>by omega⟩
  case round=>
   obtain ⟨q,m,_,rfl,rfl,rfl,hq,hq0,hq1⟩:=hrel
   rcases hq with rfl | rfl
   ·have hw0:=hq0 rfl
    subst hw0
    clear hq0 hq1
    go_wp2_with fail
    refine HI0.out.mono ?_; rintro _ w1 ⟨rfl,hb,hc⟩
    have HBl:=Lib.hid hb; have HC:=Lib.hid hc
    clear hb hc
    go_wp2_with fail
    exact ⟨⟨20,40,by omega,by go_num,by go_num,rfl,.inr rfl,fun h=>by omega,fun _=>⟨HBl.out,HC.out⟩⟩,by simp [intOf]⟩
   ·obtain ⟨hb,hc⟩:=hq1 rfl
    have HBl:=Lib.hid hb; have HC:=Lib.hid hc
    clear hb hc hq0 hq1 q0 q1
    have q0:=HC.out.cellSome (HB.out.cell 0 _ rfl) (by simpa using hdg); have q1:=HC.out.cellSome (HB.out.cell 1 _ rfl) (by simpa using hdg)
    have HN:=Lib.hid (rinsert_few lv sv 20 20 (by omega) (by omega) wr)
    go_wp2_with fail
    refine HN.out.mono ?_; rintro _ w2 ⟨rfl,hc2⟩
    have HBl2:=Lib.hid (HBl.out.kept hc2 (by simp)); have HC2:=Lib.hid (HC.out.then hc2.weak)
    clear hc2
    go_wp2_with fail
    go_loopw [4,5,6,7] (fun s _ _ _ ws=>s=num 20∧w2=ws) (fun _ _ _ _ _=>0)
    case atStart=>exact ⟨rfl,rfl⟩
    case round=>
     obtain ⟨rfl,rfl⟩:=hrel
     go_wp2_with fail
     exact bodyPost_end (results_none rfl _ _ _) rfl ⟨rfl,HBl2.out,HC0.out.weak.then HC2.out⟩
 ·have q0:=HB.out.cell 0 _ rfl; have q1:=HB.out.cell 1 _ rfl
  go_enter Tryz.func111,Tryz.ntmps111
  go_wp2_with fail
  clear hw0
  go_loopw [5,6] (fun a b wr=>a=num 0∧b=num 20∧w0=wr) (fun _ b _=>40 - (intOf b).toNat)
  case atStart=>exact ⟨rfl,rfl,rfl⟩
  case round=>
   obtain ⟨rfl,rfl,rfl⟩:=hrel
   have hlt : ¬ 20≤l.length:=by omega
   go_wp2_with fail
   refine HI0.out.mono ?_; rintro _ w1 ⟨rfl,hb,hc⟩
   have HBl:=Lib.hid hb; have HC:=Lib.hid hc
   clear hb hc
   go_wp2_with fail
   go_loopw [4,5,6,7] (fun s _ _ _ ws=>s=num 20∧w1=ws) (fun _ _ _ _ _=>0)
   case atStart=>exact ⟨rfl,rfl⟩
   case round=>
    obtain ⟨rfl,rfl⟩:=hrel
    have hlt2 : ¬ 20 < l.length:=by omega
    go_wp2_with fail
    exact bodyPost_end (results_none rfl _ _ _) rfl ⟨rfl,HBl.out,HC0.out.weak.then HC.out⟩
theorem rstable_few (u v:Value) (n:Nat) (hn : n≤1) (w:World):Calls Tryz.prog 111 #[.agg #[u,v],num n] w (fun e w'=>e = .returned (.tuple #[])∧Chg [] w w'):=by
 obtain ⟨w0,hw0⟩ : ∃ x,w.alloc (.cells #[u,v] 185)=x:=⟨_,rfl⟩
 have hc0:Chg [] w w0:=hw0 ▸ (Chg.refl _ _).alloc _
 have hb0:Blk w0 w.heap.size #[u,v] 185:=hw0 ▸ Blk.new w _ _
 have HC0:=Lib.hid hc0
 have q0:=hb0.cell 0 _ rfl; have q1:=hb0.cell 1 _ rfl
 have HI:=Lib.hid (rinsert_few u v 0 n (by omega) (by omega) w0)
 clear hc0 hb0
 go_enter Tryz.func111,Tryz.ntmps111
 go_wp2_with fail
 clear hw0
 go_loopw [5,6] (fun a b wr=>a=num 0∧b=num 20∧w0=wr) (fun _ b _=>40 - (intOf b).toNat)
 case atStart=>exact ⟨rfl,rfl,rfl⟩
 case round=>
  obtain ⟨rfl,rfl,rfl⟩:=hrel
  have hlt : ¬ 20≤n:=by omega
  go_wp2_with fail
  refine HI.out.mono ?_; rintro _ w1 ⟨rfl,hc⟩
  have HC:=Lib.hid hc
  clear hc
  go_wp2_with fail
  go_loopw [4,5,6,7] (fun s _ _ _ ws=>s=num 20∧w1=ws) (fun _ _ _ _ _=>0)
  case atStart=>exact ⟨rfl,rfl⟩
  case round=>
   obtain ⟨rfl,rfl⟩:=hrel
   have hlt2 : ¬ 20 < n:=by omega
   go_wp2_with fail
   exact bodyPost_end (results_none rfl _ _ _) rfl ⟨rfl,HC0.out.then HC.out⟩
end Go.Proofs.YtojkkgghndeimaaGreatDoor
namespace Go.Proofs.YtojkkgghndeimaaGreatDoor
open Go Go.RowKit Go.Mq Go.Mq.Tree Go.Mq.Ref Go.Mq.Sym
set_option maxRecDepth 100000
set_option maxHeartbeats 2000000
theorem kind_sym (w:World) : (Extern.Rtype.kind 106).run Tryz.prog w = .ok 25 w:=by kernel_rfl
theorem slice_info : ∃ i,Tryz.prog.info? 45=some i∧i.desc = .slice 106:=by
 have h : (Tryz.prog.info? 45).map (fun i=>match i.desc with | .slice e=>some e | _=>none)=some (some 106):=by kernel_rfl
 cases hi:Tryz.prog.info? 45 with
 | none=>rw [hi] at h; cases h
 | some i=>
  refine ⟨i,rfl,?_⟩
  rw [hi] at h
  simp only [Option.map_some,Option.some.injEq] at h
  split at h
  ·next e he=>rw [he]; cases h; rfl
  ·cases h
abbrev thS:Value:=.pointer (some ⟨13,45,none⟩)
theorem th_is : typeHandle Tryz.prog 45=thS:=by kernel_rfl
theorem run_valueOf (p:Option Addr) (n c:Nat) (w:World) : (callFunc 109 #[.iface 45 (.slice p n c)]).run Tryz.prog w = .ok (.value (.agg #[thS,.pointer (some ⟨w.heap.size,0,none⟩),.int .u64 151])) (w.alloc (.cells #[.slice p n c] 45)):=by
 obtain ⟨i,hi,hd⟩:=slice_info
 rw [run_callFunc_extern (P:=Tryz.prog) Tryz.func109 (by kernel_rfl) (by kernel_rfl) (by kernel_rfl) (e:=fun args=>Extern.ReflectliteValue.unpack (args.getD 0 (.tuple #[]))) (by kernel_rfl),
  show Sem.run Tryz.prog ((fun args:Array Value=>Extern.ReflectliteValue.unpack (args.getD 0 (.tuple #[]))) #[.iface 45 (.slice p n c)]) w=_ from Lib.run_valueOf_slice 45 106 i hi hd p n c w,th_is]
 rfl
theorem run_len (p:Option Addr) (n c:Nat) (a:Addr) (w:World) (ha : w.cell? a=some (.slice p n c)) : (callFunc 112 #[.agg #[thS,.pointer (some a),.int .u64 151]]).run Tryz.prog w = .ok (.value (num n)) w:=by
 obtain ⟨i,hi,hd⟩:=slice_info
 have h:=Lib.run_valueLen_slice (P:=Tryz.prog) 45 106 i hi hd (by kernel_rfl) a p n c w ha
 rw [th_is] at h
 rw [run_callFunc_extern (P:=Tryz.prog) Tryz.func112 (by kernel_rfl) (by kernel_rfl) (by kernel_rfl) (e:=Extern.ReflectliteValue.method (Extern.ReflectliteValue.valueError "reflectlite.Value.Len" 0) Extern.ReflectliteValue.len) (by kernel_rfl),h]
 rfl
theorem run_swapper (p:Option Addr) (n c:Nat) (w:World) : ∃ v,(callFunc 110 #[.iface 45 (.slice p n c)]).run Tryz.prog w = .ok (.value (.func (.func v.1) #[] v.2)) w∧(2≤n→v=(159,#[.slice p n c,typeHandle Tryz.prog 106])):=by
 obtain ⟨i,hi,hd⟩:=slice_info
 obtain ⟨ie,hie⟩ : ∃ ie,Tryz.prog.info? 106=some ie:=⟨_,rfl⟩
 have hp : ie.hasPointers=true∧ie.bytes=32:=by
  have : (Tryz.prog.info? 106).map (fun i=>(i.hasPointers,i.bytes))=some (true,32):=by kernel_rfl
  rw [hie] at this
  have:=Option.some.inj this
  exact ⟨congrArg Prod.fst this,congrArg Prod.snd this⟩
 have key : ∀ f,Tryz.prog.funcs.findIdx? (·.name == "internal/reflectlite" ++ ".Swapper$" ++ toString (Lib.swapperK n ie 25))=some f →
   (callFunc 110 #[.iface 45 (.slice p n c)]).run Tryz.prog w = .ok (.value (.func (.func f) #[] (if Lib.swapperK n ie 25≤2 then #[] else #[.slice p n c,typeHandle Tryz.prog 106]))) w:=fun f hf=>by
  rw [run_callFunc_extern (P:=Tryz.prog) Tryz.func110 (by kernel_rfl) (by kernel_rfl) (by kernel_rfl) (e:=Extern.ReflectliteSwapper.swapper "internal/reflectlite" (Extern.ReflectliteValue.valueError "Swapper")) (by kernel_rfl),
   Lib.run_swapper_slice 45 106 i ie hi hd hie 25 kind_sym p n c f hf w]
  rfl
 by_cases h0 : n=0
 ·have e:Lib.swapperK n ie 25=1:=by simp [Lib.swapperK,h0]
  rw [e] at key
  exact ⟨(151,#[]),key _ (by kernel_rfl),fun h=>by omega⟩
 by_cases h1 : n=1
 ·have e:Lib.swapperK n ie 25=2:=by simp [Lib.swapperK,h1]
  rw [e] at key
  exact ⟨(152,#[]),key _ (by kernel_rfl),fun h=>by omega⟩
 ·have e:Lib.swapperK n ie 25=9:=by simp [Lib.swapperK,h0,h1,hp.1,hp.2]
  rw [e] at key
  exact ⟨(159,_),key _ (by kernel_rfl),fun _=>rfl⟩
theorem rslice_run (p:Option Addr) (n c bl:Nat) (R:World→World→Prop) (w:World)
  (hS : ∀ v:Nat × Array Value,(2≤n→v=(159,#[.slice p n c,typeHandle Tryz.prog 106])) → ∀ w',Chg [] w w'→Calls Tryz.prog 111 #[.agg #[lessV bl,.func (.func v.1) #[] v.2],num n] w' (fun e w2=>e = .returned (.tuple #[])∧R w' w2)) :
  Calls Tryz.prog 55 #[.iface 45 (.slice p n c),lessV bl] w (fun e w'=>e = .returned (.tuple #[]) ∧ ∃ w1,Chg [] w w1∧R w1 w'):=by
 obtain ⟨w1,hw1⟩ : ∃ x,w.alloc (.cells #[.slice p n c] 45)=x:=⟨_,rfl⟩
 have hc1:Chg [] w w1:=hw1 ▸ (Chg.refl _ _).alloc _
 have hb1:Blk w1 w.heap.size #[.slice p n c] 45:=hw1 ▸ Blk.new w _ _
 have hv:=run_valueOf p n c w
 rw [hw1] at hv
 obtain ⟨w2,hw2⟩ : ∃ x,w1.alloc (.cells #[thS,.pointer (some ⟨w.heap.size,0,none⟩),.int .u64 151] 179)=x:=⟨_,rfl⟩
 have hc2:Chg [] w1 w2:=hw2 ▸ (Chg.refl _ _).alloc _
 have hb2:Blk w2 w1.heap.size #[thS,.pointer (some ⟨w.heap.size,0,none⟩),.int .u64 151] 179:=hw2 ▸ Blk.new w1 _ _
 obtain ⟨v,hsp,h9⟩:=run_swapper p n c w2
 have hl:=run_len p n c ⟨w.heap.size,0,none⟩ w2 (hc2.cellSome (hb1.cell 0 _ rfl) (by simp))
 have HS:=Lib.hid (hS v h9 w2 (hc1.then hc2))
 have HC:=Lib.hid (hc1.then hc2)
 obtain ⟨q0,q1,q2⟩:=hb2.three
 obtain ⟨f1,f2⟩:=v
 dsimp only at hsp HS
 clear hw1 hS h9 hb1 hb2 hc1 hc2
 go_enter Tryz.func55,Tryz.ntmps55
 go_wp2_with fail
 refine HS.out.mono ?_; rintro _ w3 ⟨rfl,hr⟩
 have HR:=Lib.hid hr; clear hr
 go_wp2_with fail
 exact bodyPost_end (results_none rfl _ _ _) rfl ⟨rfl,w2,HC.out,HR.out⟩
theorem rslice_any (g bl c:Nat) (l:List Sy) (hl : l.length≤20) (w:World) (h:SyBlk w g l) (hv : w.cell? ⟨bl,0,none⟩=some (.slice (some ⟨g,0,none⟩) l.length c)) (hne : bl≠g) :
  Calls Tryz.prog 55 #[.iface 45 (.slice (some ⟨g,0,none⟩) l.length c),lessV bl] w (fun e w'=>e = .returned (.tuple #[])∧SyBlk w' g (insSort l)∧Chg [g] w w'):=by
 by_cases h2 : 2≤l.length
 ·refine (rslice_run (some ⟨g,0,none⟩) l.length c bl (fun w1 w'=>SyBlk w' g (insSort l)∧Chg [g] w1 w') w ?_).mono ?_
  ·intro v hv9 w' hc
   rw [hv9 h2]
   exact rstable_any g bl c l hl w' (h.kept hc (by simp)) (hc.cellSome hv (by simp)) hne
  ·rintro _ w' ⟨rfl,w1,hc,hb,hc2⟩
   exact ⟨rfl,hb,hc.weak.then hc2⟩
 ·refine (rslice_run (some ⟨g,0,none⟩) l.length c bl (fun w1 w'=>Chg [] w1 w') w ?_).mono ?_
  ·intro v hv9 w' hc
   exact rstable_few _ _ l.length (by omega) w'
  ·rintro _ w' ⟨rfl,w1,hc,hc2⟩
   have e : insSort l=l:=by
    cases l with
    | nil=>rfl
    | cons x r=>cases r with
     | nil=>rfl
     | cons y r=>simp at h2
   rw [e]
   exact ⟨rfl,h.kept (hc.then hc2) (by simp),(hc.then hc2).weak⟩
theorem rslice_nil (bl:Nat) (w:World):Calls Tryz.prog 55 #[.iface 45 nils,lessV bl] w (fun e w'=>e = .returned (.tuple #[])∧Chg [] w w'):=by
 refine (rslice_run none 0 0 bl (fun w1 w'=>Chg [] w1 w') w ?_).mono ?_
 ·intro v hv9 w' hc
  exact rstable_few _ _ 0 (by omega) w'
 ·rintro _ w' ⟨rfl,w1,hc,hc2⟩
  exact ⟨rfl,hc.then hc2⟩
end Go.Proofs.YtojkkgghndeimaaGreatDoor
namespace Go.Mq.Sym
open Go Go.RowKit Go.Mq Go.Mq.Tree
structure LB (w0:World) (bl:Nat) (wr:World) (L:List Sy) (a:Option Addr) (c:Nat):Prop where
 box:Blk wr bl #[.slice a L.length c] 45
 own : wr.ownsRow 0 106 3 (.slice a L.length c) L.length (L.flatMap Sy.cells)
 from_:From w0.heap.size (.slice a L.length c)
 chg:Chg [bl] w0 wr
variable {w0 w w':World} {bl c:Nat} {L:List Sy} {a:Option Addr}
theorem LB.kept (h:LB w0 bl w L a c) (hc:Chg [] w w'):LB w0 bl w' L a c:=⟨h.box.kept hc (by simp),owns_kept h.own hc (by simp),h.from_,h.chg.then hc.weak⟩
theorem LB.not_in (h:LB w0 bl w L a c) (hb : bl < w0.heap.size) : bl∉blk (.slice a L.length c):=fun hm=>by have:=h.from_ bl hm; omega
theorem LB.snoc {v':Value} {x:Sy} (h:LB w0 bl w L a c) (hb : bl < w0.heap.size) (hown : w'.ownsRow 0 106 3 v' (L.length + 1) (L.flatMap Sy.cells ++ x.cells)) (hch:Chg (blk (.slice a L.length c)) w w') (hmv:Moved w (.slice a L.length c) v') (hw : w0.heap.size≤w.heap.size) :
  ∃ a' c',v' = .slice a' (L.length + 1) c'∧Blk w' bl #[.slice a L.length c] 45∧LB w0 bl (w'.setCell ⟨bl,0,none⟩ v') (L ++ [x]) a' c':=by
 obtain ⟨a',c',rfl⟩:=slice_of_owns hown
 have hbx:=h.box.kept hch (h.not_in hb)
 have hf:=h.from_.moved hmv hw
 refine ⟨a',c',rfl,hbx,?_⟩
 have hl : (L ++ [x]).length=L.length + 1:=by simp
 have hset:Chg [bl] w' (w'.setCell ⟨bl,0,none⟩ (.slice a' (L.length + 1) c')):=Chg.set1 _ _ _ _
 refine ⟨by rw [hl]; have:=hbx.set 0 (.slice a' (L.length + 1) c'); simpa using this,?_,by rw [hl]; exact hf,(h.chg.trans hch (fun y hy=>.inr (h.from_ y hy))).then hset⟩
 rw [hl]
 have:=owns_kept hown hset (fun g hg hm=>by have:=hf g hg; simp at hm; omega)
 simpa [List.flatMap_append] using this
end Go.Mq.Sym
namespace Go.Proofs.YtojkkgghndeimaaGreatDoor
open Go Go.RowKit Go.Mq Go.Mq.Tree Go.Mq.Ref Go.Mq.Sym
set_option maxRecDepth 100000
set_option maxHeartbeats 4000000
theorem rof_any (vs:List Glob) (ps:List Proc) (hvs : vs.length≤10) (hps : ps.length≤10) (F:Nat→Prop) (nm:List UInt8) (x1:Option Addr) (y1 z1:Nat) (x4:Option Addr) (y4 z4:Nat) (vv vp:Value) (w:World) (hF : ∀ x,F x→x < w.heap.size) (hgv:GlobsAt w F vs vv) (hpv:ProcsL w F ps vp) :
  Calls Tryz.prog 13 #[.agg #[str nm,.slice x1 y1 z1,vv,vp,.slice x4 y4 z4]] w (fun e w'=>∃ v,e = .returned v∧SymsAt w' (New w w') (insSort (seenL vs ps)) v∧Chg [] w w'):=by
 obtain ⟨av,cv,rfl,hgv1,hgv2⟩:=hgv
 obtain ⟨ap,cp,pcs,rfl,hpv1,hpv2,hpv3⟩:=hpv
 obtain ⟨wM,hwM⟩ : ∃ x,w.alloc (.cells #[str nm,.slice x1 y1 z1,.slice av vs.length cv,.slice ap ps.length cp,.slice x4 y4 z4] 31)=x:=⟨_,rfl⟩
 have hbX:=Blk.new w #[str nm,.slice x1 y1 z1,.slice av vs.length cv,.slice ap ps.length cp,.slice x4 y4 z4] 31
 have hcM:Chg [] w wM:=by rw [← hwM]; exact (Chg.refl _ _).alloc _
 rw [hwM] at hbX
 obtain ⟨w0,hw0⟩ : ∃ x,wM.alloc (.cells #[nils] 45)=x:=⟨_,rfl⟩
 have hc0:Chg [] wM w0:=by rw [← hw0]; exact (Chg.refl _ _).alloc _
 have hbB:=Blk.new wM #[nils] 45
 rw [hw0] at hbB
 have hsM : wM.heap.size=w.heap.size + 1:=by rw [← hwM]; simp
 have hs0 : w0.heap.size=wM.heap.size + 1:=by rw [← hw0]; simp
 have hcX:=hcM.then hc0
 have hbX:=hbX.kept hc0 (by simp)
 have hblX : w.heap.size≠wM.heap.size:=by omega
 have hblt : wM.heap.size < w0.heap.size:=by omega
 have e0:=hbX.cell 0 _ rfl; have e1:=hbX.cell 1 _ rfl; have e2:=hbX.cell 2 _ rfl; have e3:=hbX.cell 3 _ rfl; have e4:=hbX.cell 4 _ rfl
 have HX:=Lib.hid hbX; have HCX:=Lib.hid hcX
 have HGV:=Lib.hid (hgv2.kept hcX (by simp)); have HPV:=Lib.hid (hpv2.kept hcX (by simp)); have HPL:=Lib.hid hpv3
 have HBB:=Lib.hid hbB
 have HFB:=Lib.hid (show ∀ x∈[wM.heap.size],¬ F x from fun x hx h=>by simp at hx; have:=hF x h; omega)
 have HS0:=Lib.hid (And.intro hsM hs0)
 clear hbX hcX hgv2 hpv2 hpv3 hcM hc0 hbB hsM hs0
 go_enter Tryz.func13,Tryz.ntmps13
 go_wp2_with fail
 clear hw0 hwM e0 e1 e2 e3 e4
 clear hF
 go_loopw [5,11] (fun _ i wr=>∃ (k:Nat) (rest:List Glob) (L:List Sy) (cs1:List Value) (a:Option Addr) (c:Nat),i = .int .i64 k∧k + rest.length=vs.length∧vs.flatMap Glob.cells=cs1 ++ rest.flatMap Glob.cells∧cs1.length=k * 4∧L.length≤k∧LB w0 (wM.heap.size) wr L a c∧L ++ (rest.filter (·.seen)).map varSy=(vs.filter (·.seen)).map varSy) (fun _ i _=>vs.length - (intOf i).toNat)
 case atStart=>exact ⟨0,vs,[],[],none,0,rfl,by simp,rfl,rfl,Nat.le_refl _,⟨HBB.out,World.ownsRow_nil _ _ _ _,From.nil _,Chg.refl _ _⟩,rfl⟩
 case round=>
  obtain ⟨k,rest,L,cs1,la,lc,rfl,hk,hcse,hl1,hLk,hlb,hT⟩:=hrel
  have HLB:=Lib.hid hlb; have HT:=Lib.hid hT
  have HC:=Lib.hid hlb.chg
  clear hlb hT
  cases rest with
  | nil=>
   have hke : ¬ k < vs.length:=by simp at hk; omega
   have hLe : (vs.filter (·.seen)).map varSy=L:=by have:=HT.out; simpa using this.symm
   have HLE:=Lib.hid hLe
   have hbX:=HX.out.kept HC.out (by simpa using hblX)
   have e0:=hbX.cell 0 _ rfl; have e1:=hbX.cell 1 _ rfl; have e2:=hbX.cell 2 _ rfl; have e3:=hbX.cell 3 _ rfl; have e4:=hbX.cell 4 _ rfl
   have hLv:L.length≤vs.length:=by simp at hk; omega
   clear hbX hcse hLe
   go_wp2_with fail
   clear e0 e1 e2 e3 e4
   have hce : ∀ x,L ++ x=(vs.filter (·.seen)).map varSy ++ x:=fun x=>by rw [HLE.out]
   have HCE:=Lib.hid hce
   clear hce HT
   go_loopw [7,29] (fun _ i wr=>∃ (k:Nat) (rest:List Proc) (M:List Sy) (cs1 cs2:List Value) (a:Option Addr) (c:Nat),i = .int .i64 k∧k + rest.length=ps.length∧pcs=cs1 ++ cs2∧cs1.length=k * 6∧PrsL rest cs2∧M.length≤vs.length + k∧LB w0 (wM.heap.size) wr M a c∧M ++ (rest.filter (·.seen)).map procSy=seenL vs ps) (fun _ i _=>ps.length - (intOf i).toNat)
   case atStart=>exact ⟨0,ps,L,[],pcs,la,lc,rfl,by simp,rfl,rfl,HPL.out,by omega,HLB.out,by rw [seenL,HCE.out]⟩
   case round=>
    clear HCE HLE HLB HC hLk hLv hl1 hk hke
    obtain ⟨k,rest,L,cs1,cs2,la,lc,rfl,hk,hcse,hl1,hpl,hLk,hlb,hT⟩:=hrel
    have HLB:=Lib.hid hlb; have HT:=Lib.hid hT
    have HC:=Lib.hid hlb.chg
    clear hlb hT
    cases rest with
    | nil=>
     have hke : ¬ k < ps.length:=by simp at hk; omega
     have hLe : seenL vs ps=L:=by have:=HT.out; simpa using this.symm
     have HLE:=Lib.hid hLe
     have hL20:L.length≤20:=by simp at hk; omega
     have hsz0:=HC.out.size
     clear hcse hpl hLe
     have q0:=HLB.out.box.cell 0 _ rfl
     rcases SyBlk.of_owns HLB.out.own with ⟨hlv,hnil⟩ | ⟨g,c,hlv,hlc,hsy⟩
     ·obtain ⟨rfl,hL0,rfl⟩ : la=none∧L.length=0∧lc=0:=by simpa using hlv
      have HNIL:=Lib.hid hnil
      rw [hL0] at q0
      clear hnil hlv hL0
      have HST:=Lib.hid (rslice_nil (wM.heap.size) wr)
      go_wp2_with fail
      refine HST.out.mono ?_; rintro _ w5 ⟨rfl,hc5⟩
      have q1:=hc5.cellSome q0 (by simp)
      have HC5:=Lib.hid (HC.out.then hc5.weak)
      clear hc5 q0
      go_wp2_with fail
      go_ret
      refine ⟨_,rfl,?_,HCX.out.trans HC5.out (fun x hx=>.inr (by have:=HS0.out; simp at hx; omega))⟩
      rw [HLE.out,HNIL.out]
      exact ⟨none,0,rfl,Nat.le_refl _,Row.nil _ _ _,fun _=>rfl⟩
     ·obtain ⟨rfl,rfl⟩ : la=some ⟨g,0,none⟩∧lc=c:=by simpa using hlv
      have hg0 : w0.heap.size≤g:=HLB.out.from_ g (by simp [blk])
      have HST:=Lib.hid (rslice_any g (wM.heap.size) lc L hL20 wr hsy q0 (by omega))
      clear hsy hlv
      go_wp2_with fail
      refine HST.out.mono ?_; rintro _ w5 ⟨rfl,hb5,hc5⟩
      have HB5:=Lib.hid hb5
      have q1:=hc5.cellSome q0 (by simp; omega)
      have HC5:=Lib.hid (HC.out.trans hc5 (fun x hx=>.inr (by simp at hx; omega)))
      clear hb5 hc5 q0
      go_wp2_with fail
      go_ret
      have hlt5:=HB5.out.lt
      refine ⟨_,rfl,?_,HCX.out.trans HC5.out (fun x hx=>.inr (by have:=HS0.out; simp at hx; omega))⟩
      rw [HLE.out]
      exact ⟨_,lc,by rw [insSort_length]; rfl,by rw [insSort_length]; exact hlc,HB5.out.row ⟨by have:=HS0.out; omega,hlt5⟩,fun h=>by cases h⟩
    | cons x r=>
     obtain ⟨xn,xp,xse,xps,xvs,xb⟩:=x
     obtain ⟨_,cs',rfl,⟨pos,a1,k1,a2,n2,k2,a3,n3,k3,rfl⟩,hpl'⟩:=hpl
     have HR:=Lib.hid hpl'
     have hlt : k < ps.length:=by simp at hk; omega
     simp only [List.cons_append,List.nil_append] at hcse
     have HCSE:=Lib.hid hcse
     clear hpl'
     have hxl : xps.length≤1000000∨True:=.inr trivial
     have hrw:=HPV.out.kept HC.out HFB.out
     rw [hcse] at hrw
     obtain ⟨bb,off,rfl,d0,d1,d2,d3,d4,d5⟩:=cells6S hrw hl1
     have hz:=Blk.new wr #[str [],.int .i64 0,.bool false,nils,nils,nils] 87
     obtain ⟨wA,hwA⟩ : ∃ wA,wr.alloc (.cells #[str [],.int .i64 0,.bool false,nils,nils,nils] 87)=wA:=⟨_,rfl⟩
     rw [hwA] at hz
     have hcA:Chg [] wr wA:=by rw [← hwA]; exact (Chg.refl _ _).alloc _
     obtain ⟨wF,hwF,hcF,hbF⟩:=set6S (str xn) (.int .i64 pos) (.bool xse) (.slice a1 xps.length k1) (.slice a2 n2 k2) (.slice a3 n3 k3) hz
     have hcw:Chg [] wr wF:=hcA.trans hcF (fun x hx=>.inr (by simp at hx; omega))
     have g0:=hcA.cellSome d0 (by simp); have g1:=hcA.cellSome d1 (by simp); have g2:=hcA.cellSome d2 (by simp); have g3:=hcA.cellSome d3 (by simp); have g4:=hcA.cellSome d4 (by simp); have g5:=hcA.cellSome d5 (by simp)
     have z0:=hz.cell 0 _ rfl; have z1:=hz.cell 1 _ rfl; have z2:=hz.cell 2 _ rfl; have z3:=hz.cell 3 _ rfl; have z4:=hz.cell 4 _ rfl; have z5:=hz.cell 5 _ rfl
     have y0:=hz.frozen 0; have y1:=hz.frozen 1; have y2:=hz.frozen 2; have y3:=hz.frozen 3; have y4:=hz.frozen 4; have y5:=hz.frozen 5
     have b0:=hbF.cell 0 _ rfl; have b1:=hbF.cell 1 _ rfl; have b2:=hbF.cell 2 _ rfl; have b3:=hbF.cell 3 _ rfl; have b4:=hbF.cell 4 _ rfl; have b5:=hbF.cell 5 _ rfl
     have HLF:=Lib.hid (HLB.out.kept hcw)
     have q0:=HLF.out.box.cell 0 _ rfl
     have hszF:=hcw.size
     have hsz0:=HC.out.size
     clear hrw hcA hcF hbF hcw hz hcse
     cases hgs : xse with
     | false=>
      subst hgs
      go_wp2_with fail
      exact ⟨⟨k + 1,r,L,cs1 ++ [str xn,.int .i64 pos,.bool false,.slice a1 xps.length k1,.slice a2 n2 k2,.slice a3 n3 k3],cs',la,lc,by go_num,by simp at hk; omega,by rw [HCSE.out]; simp,by simp [hl1]; omega,HR.out,by omega,HLF.out,by have e:=seen_proc HT.out; simpa using e⟩,by simp [intOf]; omega⟩
     | true=>
      subst hgs
      have HL2:=Lib.hid (HLF.out.kept ((Chg.refl [] wF).alloc (.cells #[str xn,.int .i64 0,.int .i64 (xps.length:Int)] 106)))
      go_wp2_with (at_builtin; go_must (refine wpL_append rfl _ _ 45 rfl 106 _ 3 32 infoSym Tryz.underlying45 rfl (by decide) _ _ _ rfl HL2.out.own ⟨wF.heap.size,0,none⟩ 1 1 (Sy.cells (⟨xn,0,(xps.length:Int)⟩ : Sy)) rfl rfl (cells_new _ _ _) (by simp [Sy.cells,Value.oneCell']) ?_ ?_ ?_))
      ·omega
      ·unfold maxLen; omega
      ·intro v' w' hown' hch' hmv'
       obtain ⟨a',c',rfl,hbx,hlb⟩:=HL2.out.snoc (x:=(⟨xn,0,(xps.length:Int)⟩ : Sy)) hblt hown' hch' hmv' (by simp; omega)
       have q1:=hbx.cell 0 _ rfl; have y9:=hbx.frozen 0
       have HL3:=Lib.hid hlb
       clear hown' hch' hmv' hbx hlb q0
       go_wp2_with fail
       go_roundw
       case rel=>exact ⟨k + 1,r,L ++ [(⟨xn,0,(xps.length:Int)⟩ : Sy)],cs1 ++ [str xn,.int .i64 pos,.bool true,.slice a1 xps.length k1,.slice a2 n2 k2,.slice a3 n3 k3],cs',a',c',by go_num,by simp at hk; omega,by rw [HCSE.out]; simp,by simp [hl1]; omega,HR.out,by simp; omega,HL3.out,by have e:=seen_proc HT.out; simpa [varSy,procSy] using e⟩
       case measure=>simp [intOf]; omega
  | cons g r=>
   obtain ⟨gn,gp,gl,gs⟩:=g
   have hlt : k < vs.length:=by simp at hk; omega
   simp only [List.flatMap_cons,Glob.cells,List.cons_append,List.nil_append] at hcse
   have HCSE:=Lib.hid hcse
   have hrw:=HGV.out.kept HC.out HFB.out
   rw [hcse] at hrw
   obtain ⟨bb,off,rfl,d0,d1,d2,d3⟩:=cells4S hrw hl1
   have hz:=Blk.new wr #[str [],.int .i64 0,.int .i64 0,.bool false] 84
   obtain ⟨wA,hwA⟩ : ∃ wA,wr.alloc (.cells #[str [],.int .i64 0,.int .i64 0,.bool false] 84)=wA:=⟨_,rfl⟩
   rw [hwA] at hz
   have hcA:Chg [] wr wA:=by rw [← hwA]; exact (Chg.refl _ _).alloc _
   obtain ⟨wF,hwF,hcF,hbF⟩:=set4S (str gn) (.int .i64 gp) (.int .i64 gl) (.bool gs) hz
   have hcw:Chg [] wr wF:=hcA.trans hcF (fun x hx=>.inr (by simp at hx; omega))
   have g0:=hcA.cellSome d0 (by simp); have g1:=hcA.cellSome d1 (by simp); have g2:=hcA.cellSome d2 (by simp); have g3:=hcA.cellSome d3 (by simp)
   have z0:=hz.cell 0 _ rfl; have z1:=hz.cell 1 _ rfl; have z2:=hz.cell 2 _ rfl; have z3:=hz.cell 3 _ rfl
   have y0:=hz.frozen 0; have y1:=hz.frozen 1; have y2:=hz.frozen 2; have y3:=hz.frozen 3
   have b0:=hbF.cell 0 _ rfl; have b1:=hbF.cell 1 _ rfl; have b2:=hbF.cell 2 _ rfl; have b3:=hbF.cell 3 _ rfl
   have HLF:=Lib.hid (HLB.out.kept hcw)
   have q0:=HLF.out.box.cell 0 _ rfl
   have hszF:=hcw.size
   have hsz0:=HC.out.size
   clear hrw hcA hcF hbF hcw hz hcse
   cases hgs : gs with
   | false=>
    subst hgs
    go_wp2_with fail
    exact ⟨⟨k + 1,r,L,cs1 ++ [str gn,.int .i64 gp,.int .i64 gl,.bool false],la,lc,by go_num,by simp at hk; omega,by rw [HCSE.out]; simp,by simp [hl1]; omega,by omega,HLF.out,by have e:=seen_var HT.out; simpa using e⟩,by simp [intOf]; omega⟩
   | true=>
    subst hgs
    have HL2:=Lib.hid (HLF.out.kept ((Chg.refl [] wF).alloc (.cells #[str gn,.int .i64 gl,.int .i64 (-1)] 106)))
    go_wp2_with (at_builtin; go_must (refine wpL_append rfl _ _ 45 rfl 106 _ 3 32 infoSym Tryz.underlying45 rfl (by decide) _ _ _ rfl HL2.out.own ⟨wF.heap.size,0,none⟩ 1 1 (Sy.cells (⟨gn,gl,-1⟩ : Sy)) rfl rfl (cells_new _ _ _) (by simp [Sy.cells,Value.oneCell']) ?_ ?_ ?_))
    ·omega
    ·unfold maxLen; omega
    ·intro v' w' hown' hch' hmv'
     obtain ⟨a',c',rfl,hbx,hlb⟩:=HL2.out.snoc (x:=(⟨gn,gl,-1⟩ : Sy)) hblt hown' hch' hmv' (by simp; omega)
     have q1:=hbx.cell 0 _ rfl; have y9:=hbx.frozen 0
     have HL3:=Lib.hid hlb
     clear hown' hch' hmv' hbx hlb q0
     go_wp2_with fail
     go_roundw
     case rel=>exact ⟨k + 1,r,L ++ [(⟨gn,gl,-1⟩ : Sy)],cs1 ++ [str gn,.int .i64 gp,.int .i64 gl,.bool true],a',c',by go_num,by simp at hk; omega,by rw [HCSE.out]; simp,by simp [hl1]; omega,by simp; omega,HL3.out,by have e:=seen_var HT.out; simpa [varSy,procSy] using e⟩
     case measure=>simp [intOf]; omega
end Go.Proofs.YtojkkgghndeimaaGreatDoor
