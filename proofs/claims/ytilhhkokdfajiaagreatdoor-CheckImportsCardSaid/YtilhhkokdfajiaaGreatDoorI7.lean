/- Some texts in one. -/
import Derived.Lib.ItoaLen
import Derived.Test.YtilhhkokdfajiaaGreatDoorI4
import Derived.Test.YtilhhkokdfajiaaGreatDoorI5
import Derived.Test.YtilhhkokdfajiaaGreatDoorI6
namespace Go.Proofs.YtilhhkokdfajiaaGreatDoor
open Go Go.RowKit Go.Mq Go.Mq.Tree Go.Mq.Sym
set_option maxRecDepth 100000
set_option maxHeartbeats 2000000
theorem cmp_any (x y:Sy) (w:World):Calls Tryz.prog 44 #[.agg #[str x.name,.int .i64 x.len,.int .i64 x.args],.agg #[str y.name,.int .i64 y.len,.int .i64 y.args]] w (fun e w'=>e = .returned (.int .i64 (Lib.compareBytes x.name y.name))∧Chg [] w w'):=by
 have HC:=Lib.hid (fun w'=>Any.strings_Compare Tryz.lays106 (bs x.name) (bs y.name) w')
 go_enter Tryz.func44,Tryz.ntmps44
 go_wp2_with fail
 refine (HC.out _).mono ?_; rintro _ _ ⟨rfl,rfl⟩
 go_wp2_with fail
 go_ret
 exact ⟨rfl,((Chg.refl _ _).alloc _).alloc _⟩
theorem cmp_vals (x y:Sy) : -1≤Lib.compareBytes x.name y.name∧Lib.compareBytes x.name y.name≤1:=by
 have key : ∀ a b:List UInt8,-1≤Lib.compareBytes a b∧Lib.compareBytes a b≤1:=by
  intro a
  induction a with
  | nil=>intro b; cases b <;> simp [Lib.compareBytes]
  | cons c a ih=>
   intro b
   cases b with
   | nil=>simp [Lib.compareBytes]
   | cons d b=>
    simp only [Lib.compareBytes]
    split
    ·omega
    ·split
     ·omega
     ·exact ih b
 exact key x.name y.name
theorem insert_any (g:Nat) (l:List Sy) (c:Nat) (hl : l.length≤20) (w:World) (h:SyBlk w g l) :
  Calls Tryz.prog 85 #[.slice (some ⟨g,0,none⟩) l.length c,.int .i64 0,.int .i64 l.length,.func (.func 44) #[] #[]] w (fun e w'=>e = .returned (.tuple #[])∧SyBlk w' g (insSort l)∧Chg [g] w w'):=by
 have H:=Lib.hid h
 clear h
 go_enter Tryz.func85,Tryz.ntmps85
 go_wp2_with fail
 go_loopw [8,9] (fun i _ wr=>∃ (n:Nat) (l1:List Sy),i = .int .i64 n∧1≤n∧n≤21∧SyBlk wr g l1∧l1.length=l.length∧sortFrom n l.length l1=insSort l∧Chg [g] w wr) (fun i _ _=>21 - (intOf i).toNat)
 case atStart=>exact ⟨1,l,rfl,by omega,by omega,H.out,rfl,rfl,Chg.refl _ _⟩
 case round=>
  obtain ⟨n,l1,rfl,hn1,hn2,hb,hll,hs,hc⟩:=hrel
  have HB:=Lib.hid hb; have HS:=Lib.hid hs; have HC:=Lib.hid hc
  clear hb hs hc
  by_cases hlt : n < l.length
  ·go_wp2_with fail
   go_loopw [9] (fun j ws=>∃ (k:Nat) (l2:List Sy),j = .int .i64 k∧k≤n∧SyBlk ws g l2∧l2.length=l.length∧sinkS k l2=sinkS n l1∧Chg [g] w ws) (fun j _=>(intOf j).toNat)
   case atStart=>exact ⟨n,l1,rfl,Nat.le_refl _,HB.out,hll,rfl,HC.out⟩
   case round=>
    obtain ⟨k,l2,rfl,hkn,hb,hl2,hs,hc⟩:=hrel
    have HB2:=Lib.hid hb; have HS2:=Lib.hid hs; have HC2:=Lib.hid hc
    clear hb hs hc
    by_cases hk0 : 0 < k
    ·obtain ⟨k,rfl⟩ : ∃ k',k=k' + 1:=⟨k - 1,by omega⟩
     obtain ⟨x,hx⟩ : ∃ x,l2[k + 1]?=some x:=⟨l2[k + 1]'(by omega),List.getElem?_eq_getElem (by omega)⟩
     obtain ⟨y,hy⟩ : ∃ y,l2[k]?=some y:=⟨l2[k]'(by omega),List.getElem?_eq_getElem (by omega)⟩
     obtain ⟨x0,x1,x2⟩:=HB2.out.cells hx
     obtain ⟨y0,y1,y2⟩:=HB2.out.cells hy
     have HX:=Lib.hid hx; have HY:=Lib.hid hy
     have HZ:=Lib.hid (Zone.of (X:=[]) (w0:=wr.drew) (off:=k * 3) (b:=g) y0 (by simp))
     have HLT:=Lib.hid (show g < wr.drew.heap.size from HB2.out.lt)
     clear hx hy
     go_wp2_with fail
     refine wp_region_C [] rfl (by kernel_rfl) ?_
     have hS:Chg [] wr.drew wr.drew:=Chg.refl _ _
     repeat ((with_reducible refine gX ?_); (first | refine wpX_nil ?_ | refine sK ?_ | refine sM fun _ _=>?_ | refine sL fun _ _=>?_ | refine sE fun _ _=>?_); go_wp2_with fail)
     have hcv:=cmp_vals x y
     have hCM:=cmp_any x y wr.drew
     have HLTS:=Lib.hid (show ltS x y=decide (Lib.compareBytes x.name y.name < 0) from rfl)
     obtain ⟨z,hz⟩ : ∃ z,z=Lib.compareBytes x.name y.name:=⟨_,rfl⟩
     rw [← hz] at hCM hcv HLTS
     clear hz
     refine hCM.mono ?_; rintro _ wk ⟨rfl,hw⟩
     have hS:=hS.then hw
     have hb3:=(HB2.out.kept (Chg.refl [] _).drew (by simp)).kept hw (by simp)
     have HB3:=Lib.hid hb3
     have HC3:=Lib.hid ((HC2.out.drew).then hw.weak)
     obtain ⟨x0,x1,x2⟩:=hb3.cells HX.out
     obtain ⟨y0,y1,y2⟩:=hb3.cells HY.out
     have f0:=hb3.frozen (k * 3); have f1:=hb3.frozen (k * 3 + 1); have f2:=hb3.frozen (k * 3 + 2)
     have f3:=hb3.frozen ((k + 1) * 3); have f4:=hb3.frozen ((k + 1) * 3 + 1); have f5:=hb3.frozen ((k + 1) * 3 + 2)
     clear hw hb3 hCM
     by_cases hlz : z < 0
     ·go_wp2_with fail
      refine And.intro hS ?_
      repeat ((with_reducible refine gX ?_); (first | refine wpX_nil ?_ | refine sK ?_ | refine sM fun _ _=>?_ | refine sL fun _ _=>?_ | refine sE fun _ _=>?_); go_wp2_with fail)
      clear hS
      go_region
      obtain ⟨hput,hpc⟩:=HB3.out.swap (k + 1) k (by omega) (by omega) y x
      have HPUT:=Lib.hid (hput.kept (Chg.refl [] _).drew (by simp))
      have HCP:=Lib.hid (HC3.out.then hpc).drew
      have HSK:=Lib.hid (show sinkS (k + 1) l2=sinkS k ((l2.set (k + 1) y).set k x) by
       have e1 : l2.getD (k + 1) Sy.none=x:=by rw [List.getD_eq_getElem?_getD,HX.out]; rfl
       have e2 : l2.getD k Sy.none=y:=by rw [List.getD_eq_getElem?_getD,HY.out]; rfl
       rw [sinkS,e1,e2,HLTS.out,if_pos (by simpa using hlz)])
      clear hput hpc x0 x1 x2 y0 y1 y2 f0 f1 f2 f3 f4 f5
      go_wp2_with fail
      exact ⟨⟨k,(l2.set (k + 1) y).set k x,by go_num,by omega,HPUT.out,by simp; omega,by rw [← HSK.out,HS2.out],HCP.out⟩,by simp [intOf]⟩
     ·go_wp2_with fail
      refine And.intro hS ?_
      repeat ((with_reducible refine gX ?_); (first | refine wpX_nil ?_ | refine sK ?_ | refine sM fun _ _=>?_ | refine sL fun _ _=>?_ | refine sE fun _ _=>?_); go_wp2_with fail)
      have HSK:=Lib.hid (show sinkS (k + 1) l2=l2 by
       have e1 : l2.getD (k + 1) Sy.none=x:=by rw [List.getD_eq_getElem?_getD,HX.out]; rfl
       have e2 : l2.getD k Sy.none=y:=by rw [List.getD_eq_getElem?_getD,HY.out]; rfl
       rw [sinkS,e1,e2,HLTS.out,if_neg (by simp; omega)])
      refine ⟨⟨n + 1,l2,by go_num,by omega,by omega,HB3.out,hl2,?_,HC3.out⟩,by simp [intOf]; omega⟩
      rw [← HSK.out,HS2.out,← sortFrom_step hlt,HS.out]
    ·have hk00 : k=0:=by omega
     subst hk00
     go_wp2_with fail
     refine wp_region_C [] rfl (by kernel_rfl) ?_
     have hS:Chg [] wr.drew wr.drew:=Chg.refl _ _
     repeat ((with_reducible refine gX ?_); (first | refine wpX_nil ?_ | refine sK ?_ | refine sM fun _ _=>?_ | refine sL fun _ _=>?_ | refine sE fun _ _=>?_); go_wp2_with fail)
     have HBD:=Lib.hid (HB2.out.kept (Chg.refl [] _).drew (by simp))
     refine ⟨⟨n + 1,l2,by go_num,by omega,by omega,HBD.out,hl2,?_,HC2.out.drew⟩,by simp [intOf]; omega⟩
     have e:=HS2.out
     rw [sinkS] at e
     rw [e,← sortFrom_step hlt,HS.out]
  ·go_wp2_with fail
   refine bodyPost_end (results_none rfl _ _ _) rfl ⟨rfl,?_,HC.out⟩
   have e:=HS.out
   rw [sortFrom_end (by omega)] at e
   rw [← e]
   exact HB.out
end Go.Proofs.YtilhhkokdfajiaaGreatDoor
namespace Go.Mq.Sym
open Go Go.RowKit Go.Mq Go.Mq.Tree
theorem SyBlk.of_owns {w:World} {v:Value} {l:List Sy} (h : w.ownsRow 0 41 3 v l.length (l.flatMap Sy.cells)) : (v = .slice none 0 0∧l=[]) ∨ ∃ g c,v = .slice (some ⟨g,0,none⟩) l.length c∧l.length≤c∧SyBlk w g l:=by
 rcases h.2 with ⟨rfl,h0⟩ | ⟨g,cap,cur,rfl,_,hg,hnc,_,hcs,htake⟩
 ·exact .inl ⟨rfl,List.eq_nil_of_length_eq_zero h0⟩
 ·refine .inr ⟨g,cap,rfl,hnc,cur,hg,by rw [hcs]; omega,fun k s hk=>?_⟩
  have hkl : k < l.length:=(List.getElem?_eq_some_iff.1 hk).1
  have key : ∀ i,i < 3→cur[k * 3 + i]?=s.cells[i]?:=fun i hi=>by
   have h1 : (l.flatMap Sy.cells)[k * 3 + i]?=s.cells[i]?:=by
    clear htake hcs hnc hg h
    induction l generalizing k with
    | nil=>simp at hkl
    | cons x r ih=>
     rw [List.flatMap_cons]
     cases k with
     | zero=>
      simp at hk
      subst hk
      rw [List.getElem?_append_left (by simp [Sy.cells]; omega)]
      simp
     | succ k=>
      rw [List.getElem?_append_right (by simp [Sy.cells]; omega),show (k + 1) * 3 + i - x.cells.length=k * 3 + i by simp [Sy.cells]; omega]
      exact ih k (by simpa using hk) (by simpa using hkl)
   rw [← htake,List.getElem?_take] at h1
   rw [if_pos (by omega)] at h1
   rw [← h1]
   simp
  exact ⟨key 0 (by omega),key 1 (by omega),key 2 (by omega)⟩
end Go.Mq.Sym
namespace Go.Proofs.YtilhhkokdfajiaaGreatDoor
open Go Go.RowKit Go.Mq Go.Mq.Tree Go.Mq.Sym
set_option maxRecDepth 100000
set_option maxHeartbeats 2000000
theorem insert_none (a:Option Addr) (n m c:Nat) (hm : m≤20) (w:World):Calls Tryz.prog 85 #[.slice a n c,.int .i64 m,.int .i64 m,.func (.func 44) #[] #[]] w (fun e w'=>e = .returned (.tuple #[])∧w'=w):=by
 go_enter Tryz.func85,Tryz.ntmps85
 go_wp2_with fail
 go_loopw [8,9] (fun i _ wr=>i = .int .i64 (m + 1)∧w=wr) (fun _ _ _=>0)
 case atStart=>exact ⟨rfl,rfl⟩
 case round=>
  obtain ⟨rfl,rfl⟩:=hrel
  go_wp2_with fail
  exact bodyPost_end (results_none rfl _ _ _) rfl ⟨rfl,rfl⟩
theorem stable_any (g:Nat) (l:List Sy) (c:Nat) (hl : l.length≤20) (w:World) (h:SyBlk w g l) :
  Calls Tryz.prog 63 #[.slice (some ⟨g,0,none⟩) l.length c,.int .i64 l.length,.func (.func 44) #[] #[]] w (fun e w'=>e = .returned (.tuple #[])∧SyBlk w' g (insSort l)∧Chg [g] w w'):=by
 have HI:=Lib.hid (insert_any g l c hl w h)
 clear h
 by_cases h20 : l.length=20
 ·have HN:=Lib.hid (fun w'=>insert_none (some ⟨g,0,none⟩) l.length l.length c hl w')
  rw [h20] at HI HN ⊢
  change Calls _ _ #[.slice (some ⟨g,0,none⟩) 20 c,.int .i64 (20:Int),_] _ _
  go_enter Tryz.func63,Tryz.ntmps63
  go_wp2_with fail
  go_loopw [7,8] (fun a b wr=>∃ q m:Nat,q≤20∧a = .int .i64 q∧b = .int .i64 m∧m=q + 20∧(q=0∨q=20)∧(q=0→w=wr)∧(q=20→SyBlk wr g (insSort l)∧Chg [g] w wr)) (fun _ b _=>40 - (intOf b).toNat)
  case atStart=>exact ⟨0,20,by omega,rfl,rfl,rfl,.inl rfl,fun _=>rfl,fun h=>by omega⟩
  case round=>
   obtain ⟨q,m,_,rfl,rfl,rfl,hq,hq0,hq1⟩:=hrel
   rcases hq with rfl | rfl
   ·have hw0:=hq0 rfl
    subst hw0
    clear hq0 hq1
    go_wp2_with fail
    refine HI.out.mono ?_; rintro _ w1 ⟨rfl,hb,hc⟩
    have HB:=Lib.hid hb; have HC:=Lib.hid hc
    clear hb hc
    go_wp2_with fail
    exact ⟨⟨20,40,by omega,by go_num,by go_num,rfl,.inr rfl,fun h=>by omega,fun _=>⟨HB.out,HC.out⟩⟩,by simp [intOf]⟩
   ·obtain ⟨hb,hc⟩:=hq1 rfl
    have HB:=Lib.hid hb; have HC:=Lib.hid hc
    clear hb hc hq0 hq1
    go_wp2_with fail
    refine (HN.out _).mono ?_; rintro _ _ ⟨rfl,hw⟩; have hw:=hw.symm; subst hw
    go_wp2_with fail
    go_loopw [6,7,8,9] (fun s _ _ _ ws=>s = .int .i64 20∧wr=ws) (fun _ _ _ _ _=>0)
    case atStart=>exact ⟨rfl,rfl⟩
    case round=>
     obtain ⟨rfl,rfl⟩:=hrel
     go_wp2_with fail
     exact bodyPost_end (results_none rfl _ _ _) rfl ⟨rfl,HB.out,HC.out⟩
 ·go_enter Tryz.func63,Tryz.ntmps63
  go_wp2_with fail
  go_loopw [7,8] (fun a b wr=>a = .int .i64 0∧b = .int .i64 20∧w=wr) (fun _ b _=>40 - (intOf b).toNat)
  case atStart=>exact ⟨rfl,rfl,rfl⟩
  case round=>
   obtain ⟨rfl,rfl,rfl⟩:=hrel
   have hlt : ¬ 20≤l.length:=by omega
   go_wp2_with fail
   refine HI.out.mono ?_; rintro _ w1 ⟨rfl,hb,hc⟩
   have HB:=Lib.hid hb; have HC:=Lib.hid hc
   clear hb hc
   go_wp2_with fail
   go_loopw [6,7,8,9] (fun s _ _ _ ws=>s = .int .i64 20∧w1=ws) (fun _ _ _ _ _=>0)
   case atStart=>exact ⟨rfl,rfl⟩
   case round=>
    obtain ⟨rfl,rfl⟩:=hrel
    have hlt2 : ¬ 20 < l.length:=by omega
    go_wp2_with fail
    exact bodyPost_end (results_none rfl _ _ _) rfl ⟨rfl,HB.out,HC.out⟩
theorem stable_nil (w:World):Calls Tryz.prog 63 #[.slice none 0 0,.int .i64 0,.func (.func 44) #[] #[]] w (fun e w'=>e = .returned (.tuple #[])∧w'=w):=by
 have HN:=Lib.hid (insert_none none 0 0 0 (by omega) w)
 go_enter Tryz.func63,Tryz.ntmps63
 go_wp2_with fail
 go_loopw [7,8] (fun a b wr=>a = .int .i64 0∧b = .int .i64 20∧w=wr) (fun _ b _=>40 - (intOf b).toNat)
 case atStart=>exact ⟨rfl,rfl,rfl⟩
 case round=>
  obtain ⟨rfl,rfl,rfl⟩:=hrel
  go_wp2_with fail
  refine HN.out.mono ?_; rintro _ _ ⟨rfl,hw⟩; have hw:=hw.symm; subst hw
  go_wp2_with fail
  go_loopw [6,7,8,9] (fun s _ _ _ ws=>s = .int .i64 20∧w=ws) (fun _ _ _ _ _=>0)
  case atStart=>exact ⟨rfl,rfl⟩
  case round=>
   obtain ⟨rfl,rfl⟩:=hrel
   go_wp2_with fail
   exact bodyPost_end (results_none rfl _ _ _) rfl ⟨rfl,rfl⟩
theorem sort_any (g:Nat) (l:List Sy) (c:Nat) (hl : l.length≤20) (w:World) (h:SyBlk w g l) :
  Calls Tryz.prog 43 #[.slice (some ⟨g,0,none⟩) l.length c,.func (.func 44) #[] #[]] w (fun e w'=>e = .returned (.tuple #[])∧SyBlk w' g (insSort l)∧Chg [g] w w'):=by
 have HI:=Lib.hid (stable_any g l c hl w h)
 clear h
 go_enter Tryz.func43,Tryz.ntmps43
 go_wp2_with fail
 refine HI.out.mono ?_; rintro _ w1 ⟨rfl,hb,hc⟩
 have HB:=Lib.hid hb; have HC:=Lib.hid hc
 clear hb hc
 go_wp2_with fail
 exact bodyPost_end (results_none rfl _ _ _) rfl ⟨rfl,HB.out,HC.out⟩
theorem sort_nil (w:World):Calls Tryz.prog 43 #[.slice none 0 0,.func (.func 44) #[] #[]] w (fun e w'=>e = .returned (.tuple #[])∧w'=w):=by
 have HI:=Lib.hid (stable_nil w)
 go_enter Tryz.func43,Tryz.ntmps43
 go_wp2_with fail
 refine HI.out.mono ?_; rintro _ _ ⟨rfl,hw⟩; have hw:=hw.symm; subst hw
 go_wp2_with fail
 exact bodyPost_end (results_none rfl _ _ _) rfl ⟨rfl,rfl⟩
end Go.Proofs.YtilhhkokdfajiaaGreatDoor
namespace Go.Mq.Sym
open Go Go.RowKit Go.Mq Go.Mq.Tree
structure Sy.fit (s:Sy):Prop where
 name : s.name.length≤1000000
 len0 : 0≤s.len
 len1 : s.len≤1000000
 args0 : -1≤s.args
 args1 : s.args≤1000000
def SymsAt (w:World) (F:Nat→Prop) (l:List Sy) (v:Value):Prop:=∃ a c,v = .slice a l.length c∧l.length≤c∧Row w F a (l.flatMap Sy.cells)∧(a=none→c=0)
theorem SymsAt.kept {Z:List Nat} {w w':World} {F:Nat→Prop} {l:List Sy} {v:Value} (h:SymsAt w F l v) (hc:Chg Z w w') (hS : ∀ x∈Z,¬ F x):SymsAt w' F l v:=by
 obtain ⟨a,c,h1,h2,h3,h4⟩:=h; exact ⟨a,c,h1,h2,h3.kept hc hS,h4⟩
theorem SymsAt.mono {w:World} {F G:Nat→Prop} {l:List Sy} {v:Value} (h:SymsAt w F l v) (hF : ∀ x,F x→G x):SymsAt w G l v:=by
 obtain ⟨a,c,h1,h2,h3,h4⟩:=h; exact ⟨a,c,h1,h2,h3.mono hF,h4⟩
theorem sy_cells3 {w:World} {F:Nat→Prop} {a:Option Addr} {l:List Sy} (h:Row w F a (l.flatMap Sy.cells)) {k:Nat} {s:Sy} (hk : l[k]?=some s) :
  ∃ bb off,a=some ⟨bb,off,none⟩∧w.cell? ⟨bb,off + k * 3,none⟩=some (str s.name)∧w.cell? ⟨bb,off + k * 3 + 1,none⟩=some (.int .i64 s.len)∧w.cell? ⟨bb,off + k * 3 + 2,none⟩=some (.int .i64 s.args):=by
 have hkl : k < l.length:=(List.getElem?_eq_some_iff.1 hk).1
 have key : ∀ (l:List Sy) (k:Nat),l[k]?=some s → ∀ i,i < 3→(l.flatMap Sy.cells)[k * 3 + i]?=s.cells[i]?:=by
  intro l
  induction l with
  | nil=>intro k hk; simp at hk
  | cons x r ih=>
   intro k hk i hi
   rw [List.flatMap_cons]
   cases k with
   | zero=>
    simp at hk
    subst hk
    rw [List.getElem?_append_left (by simp [Sy.cells]; omega)]
    simp
   | succ k=>
    rw [List.getElem?_append_right (by simp [Sy.cells]; omega),show (k + 1) * 3 + i - x.cells.length=k * 3 + i by simp [Sy.cells]; omega]
    exact ih k (by simpa using hk) i hi
 obtain ⟨bb,off,rfl,hc⟩:=h.at_ (by
  have h1:=key l k hk 0 (by omega)
  have h2:=(List.getElem?_eq_some_iff.1 (h1.trans (show s.cells[0]?=some (.string (bs s.name)) from rfl))).1
  omega)
 refine ⟨bb,off,rfl,?_,?_,?_⟩
 ·have:=hc (k * 3 + 0) (str s.name) (by rw [key l k hk 0 (by omega)]; rfl); simpa using this
 ·have:=hc (k * 3 + 1) (.int .i64 s.len) (by rw [key l k hk 1 (by omega)]; rfl); rwa [← Nat.add_assoc] at this
 ·have:=hc (k * 3 + 2) (.int .i64 s.args) (by rw [key l k hk 2 (by omega)]; rfl); rwa [← Nat.add_assoc] at this
theorem set3 {w:World} {b:Nat} (v0 v1 v2:Value) {u0 u1 u2:Value} {t:TypeId} (h:Blk w b #[u0,u1,u2] t) : ∃ wF,(((w.setCell ⟨b,0,none⟩ v0).setCell ⟨b,1,none⟩ v1).setCell ⟨b,2,none⟩ v2)=wF∧Chg [b] w wF∧Blk wF b #[v0,v1,v2] t:=
 ⟨_,rfl,((Chg.set1 _ _ _ _).then (Chg.set1 _ _ _ _)).then (Chg.set1 _ _ _ _),by
  have:=((h.set 0 v0).set 1 v1).set 2 v2
  simpa using this⟩
end Go.Mq.Sym
namespace Go.Mq.Sym
open Go Go.RowKit Go.Mq Go.Mq.Tree
def findI (l:List Sy) (n:List UInt8):Int:=match findS l n with
 | none=>-1
 | some k=>k
theorem findI_some {l:List Sy} {n:List UInt8} {k:Nat} {s:Sy} (hk : l[k]?=some s) (hs : s.name=n) (hb : ∀ (i:Nat) (x:Sy),i < k→l[i]?=some x→x.name≠n) : findS l n=some k:=by
 have hlt:=(List.getElem?_eq_some_iff.1 hk).1
 have hg:=(List.getElem?_eq_some_iff.1 hk).2
 rw [findS,List.findIdx?_eq_some_iff_getElem]
 refine ⟨hlt,by rw [hg]; simpa using hs,fun i hi=>?_⟩
 have:=hb i l[i] hi (List.getElem?_eq_getElem (by omega))
 simpa using this
theorem findI_none {l:List Sy} {n:List UInt8} (hb : ∀ (i:Nat) (x:Sy),l[i]?=some x→x.name≠n) : findS l n=none:=by
 rw [findS,List.findIdx?_eq_none_iff]
 intro x hx
 obtain ⟨i,hi⟩:=List.getElem?_of_mem hx
 simpa using hb i x hi
theorem findS_lt {l:List Sy} {n:List UInt8} {k:Nat} (h : findS l n=some k) : k < l.length:=by
 rw [findS,List.findIdx?_eq_some_iff_getElem] at h
 exact h.1
end Go.Mq.Sym
namespace Go.Proofs.YtilhhkokdfajiaaGreatDoor
open Go Go.RowKit Go.Mq Go.Mq.Tree Go.Mq.Sym
set_option maxRecDepth 100000
set_option maxHeartbeats 2000000
theorem is_any (s:Sy) (n:List UInt8) (b:Nat) (w:World) (hb : w.cell? ⟨b,0,none⟩=some (str n)):Calls Tryz.prog 114 #[.agg #[str s.name,.int .i64 s.len,.int .i64 s.args],ptr b] w (fun e w'=>e = .returned (.bool (s.name == n))∧Chg [] w w'):=by
 have hlt:=lt_of_cell hb
 have hb':=((Chg.refl [] w).alloc (.cells #[str s.name,.int .i64 s.len,.int .i64 s.args] 41)).cellSome hb (by simp)
 go_enter Tryz.func114,Tryz.ntmps114
 go_wp2_with fail
 go_ret
 exact ⟨rfl,(Chg.refl _ _).alloc _⟩
theorem index_any (l:List Sy) (hl : l.length≤1000) (n:List UInt8) (b:Nat) (F:Nat→Prop) (v:Value) (w:World) (h:SymsAt w F l v) (hb : w.cell? ⟨b,0,none⟩=some (str n)) :
  Calls Tryz.prog 30 #[v,.func (.func 114) #[] #[ptr b]] w (fun e w'=>e = .returned (.int .i64 (findI l n))∧Chg [] w w'):=by
 obtain ⟨a,c,rfl,hac,hrow,_⟩:=h
 have HROW:=Lib.hid hrow; have HB:=Lib.hid hb
 clear hrow hb
 go_enter Tryz.func30,Tryz.ntmps30
 go_wp2_with fail
 go_loopw [5,8] (fun _ i wr=>∃ k:Nat,i = .int .i64 k∧k≤l.length∧Chg [] w wr ∧ ∀ (i:Nat) (x:Sy),i < k→l[i]?=some x→x.name≠n) (fun _ i _=>l.length - (intOf i).toNat)
 case atStart=>exact ⟨0,rfl,Nat.zero_le _,Chg.refl _ _,fun i x hi=>by omega⟩
 case round=>
  obtain ⟨k,rfl,hk,hc,hno⟩:=hrel
  have HNO:=Lib.hid hno; have HC:=Lib.hid hc
  clear hno hc
  by_cases hlt : k < l.length
  ·obtain ⟨s,hs⟩ : ∃ s,l[k]?=some s:=⟨l[k],List.getElem?_eq_getElem hlt⟩
   obtain ⟨bb,off,rfl,d0,d1,d2⟩:=sy_cells3 (HROW.out.kept HC.out (by simp)) hs
   have HS:=Lib.hid hs
   have HI:=Lib.hid (is_any s n b wr (HC.out.cellSome HB.out (by simp)))
   clear hs
   cases hq : (s.name == n) with
   | true=>
    rw [hq] at HI
    have HR:=Lib.hid (show findI l n=k by rw [findI,findI_some HS.out (by simpa using hq) HNO.out])
    clear hq
    go_wp2_with fail
    refine HI.out.mono ?_; rintro _ w2 ⟨rfl,hq⟩
    have HQ:=Lib.hid (HC.out.then hq); clear hq
    go_wp2_with fail
    go_ret
    exact ⟨by rw [HR.out]; rfl,HQ.out⟩
   | false=>
    rw [hq] at HI
    have HN:=Lib.hid (show s.name≠n by simpa using hq)
    clear hq
    go_wp2_with fail
    refine HI.out.mono ?_; rintro _ w2 ⟨rfl,hq⟩
    have HQ:=Lib.hid (HC.out.then hq); clear hq
    go_wp2_with fail
    refine ⟨⟨k + 1,by go_num,by omega,HQ.out,fun i x hi hx=>?_⟩,by simp [intOf]; omega⟩
    by_cases he : i < k
    ·exact HNO.out i x he hx
    ·have : i=k:=by omega
     subst this
     rw [HS.out] at hx
     cases hx
     exact HN.out
  ·have HR:=Lib.hid (show findI l n = -1 by rw [findI,findI_none fun i x hx=>HNO.out i x (by have:=(List.getElem?_eq_some_iff.1 hx).1; omega) hx])
   go_wp2_with fail
   go_ret
   exact ⟨by rw [HR.out]; rfl,HC.out⟩
theorem find_any (l:List Sy) (hl : l.length≤1000) (n:List UInt8) (F:Nat→Prop) (v:Value) (w:World) (h:SymsAt w F l v) :
  Calls Tryz.prog 101 #[v,str n] w (fun e w'=>e = .returned (.int .i64 (findI l n))∧Chg [] w w'):=by
 have hmf : ∀ (fn:Fn) (first cap:Array Value) (w:World),(Instr.makeFunc fn first cap).run Tryz.prog w = .ok (.func fn first cap) w:=fun _ _ _ _=>rfl
 have hc:Chg [] w (w.alloc (.cells #[str n] 9)):=(Chg.refl _ _).alloc _
 have HI:=Lib.hid (index_any l hl n w.heap.size F v (w.alloc (.cells #[str n] 9)) (h.kept hc (by simp)) ((Blk.new w #[str n] 9).cell 0 _ rfl))
 have HC:=Lib.hid hc
 clear h hc
 go_enter Tryz.func101,Tryz.ntmps101
 go_wp2_with fail
 refine HI.out.mono ?_; rintro _ w2 ⟨rfl,hq⟩
 have HQ:=Lib.hid (HC.out.then hq); clear hq
 go_wp2_with fail
 go_ret
 exact ⟨rfl,HQ.out⟩
end Go.Proofs.YtilhhkokdfajiaaGreatDoor
namespace Go.Mq.Sym
open Go Go.RowKit Go.Mq Go.Mq.Tree
def PrL (x:Proc) (cs:List Value):Prop:=∃ (pos:Int) (a1:Option Addr) (k1:Nat) (a2:Option Addr) (n2 k2:Nat) (a3:Option Addr) (n3 k3:Nat),cs=[str x.name,.int .i64 pos,.bool x.seen,.slice a1 x.params.length k1,.slice a2 n2 k2,.slice a3 n3 k3]
def PrsL:List Proc→List Value→Prop
 | [],cs=>cs=[]
 | x :: r,cs=>∃ c1 c2,cs=c1 ++ c2∧PrL x c1∧PrsL r c2
def ProcsL (w:World) (F:Nat→Prop) (l:List Proc) (v:Value):Prop:=∃ a c cs,v = .slice a l.length c∧l.length≤c∧Row w F a cs∧PrsL l cs
theorem ProcsL.kept {Z:List Nat} {w w':World} {F:Nat→Prop} {l:List Proc} {v:Value} (h:ProcsL w F l v) (hc:Chg Z w w') (hS : ∀ x∈Z,¬ F x):ProcsL w' F l v:=by
 obtain ⟨a,c,cs,h1,h2,h3,h4⟩:=h; exact ⟨a,c,cs,h1,h2,h3.kept hc hS,h4⟩
theorem prsL_of {w:World} {F:Nat→Prop} : ∀ {l:List Proc} {cs:List Value},PrsAt w F l cs→PrsL l cs
 | [],_,h=>h
 | x :: r,_,h=>by
  obtain ⟨c1,c2,rfl,⟨_,_,_,rfl,⟨a1,k1,rfl,_⟩,⟨a2,k2,rfl,_⟩,⟨a3,k3,_,rfl,_⟩⟩,h2⟩:=h
  exact ⟨_,_,rfl,⟨x.pos,a1,k1,a2,_,k2,a3,_,k3,rfl⟩,prsL_of h2⟩
theorem procsL_of {w:World} {F:Nat→Prop} {l:List Proc} {v:Value} (h:ProcsAt w F l v):ProcsL w F l v:=by
 obtain ⟨a,c,cs,h1,h2,h3,h4⟩:=h; exact ⟨a,c,cs,h1,h2,h3,prsL_of h4⟩
theorem set4S {w:World} {b:Nat} (v0 v1 v2 v3:Value) {u0 u1 u2 u3:Value} {t:TypeId} (h:Blk w b #[u0,u1,u2,u3] t) : ∃ wF,((((w.setCell ⟨b,0,none⟩ v0).setCell ⟨b,1,none⟩ v1).setCell ⟨b,2,none⟩ v2).setCell ⟨b,3,none⟩ v3)=wF∧Chg [b] w wF∧Blk wF b #[v0,v1,v2,v3] t:=
 ⟨_,rfl,(((Chg.set1 _ _ _ _).then (Chg.set1 _ _ _ _)).then (Chg.set1 _ _ _ _)).then (Chg.set1 _ _ _ _),by
  have:=(((h.set 0 v0).set 1 v1).set 2 v2).set 3 v3
  simpa using this⟩
theorem set6S {w:World} {b:Nat} (v0 v1 v2 v3 v4 v5:Value) {u0 u1 u2 u3 u4 u5:Value} {t:TypeId} (h:Blk w b #[u0,u1,u2,u3,u4,u5] t) : ∃ wF,((((((w.setCell ⟨b,0,none⟩ v0).setCell ⟨b,1,none⟩ v1).setCell ⟨b,2,none⟩ v2).setCell ⟨b,3,none⟩ v3).setCell ⟨b,4,none⟩ v4).setCell ⟨b,5,none⟩ v5)=wF∧Chg [b] w wF∧Blk wF b #[v0,v1,v2,v3,v4,v5] t:=
 ⟨_,rfl,(((((Chg.set1 _ _ _ _).then (Chg.set1 _ _ _ _)).then (Chg.set1 _ _ _ _)).then (Chg.set1 _ _ _ _)).then (Chg.set1 _ _ _ _)).then (Chg.set1 _ _ _ _),by
  have:=(((((h.set 0 v0).set 1 v1).set 2 v2).set 3 v3).set 4 v4).set 5 v5
  simpa using this⟩
theorem cells4S {w:World} {F:Nat→Prop} {a:Option Addr} {cs1 cs':List Value} {c0 c1 c2 c3:Value} {k:Nat} (h:Row w F a (cs1 ++ c0 :: c1 :: c2 :: c3 :: cs')) (hl : cs1.length=k * 4) :
  ∃ bb off,a=some ⟨bb,off,none⟩∧w.cell? ⟨bb,off + k * 4,none⟩=some c0∧w.cell? ⟨bb,off + k * 4 + 1,none⟩=some c1∧w.cell? ⟨bb,off + k * 4 + 2,none⟩=some c2∧w.cell? ⟨bb,off + k * 4 + 3,none⟩=some c3:=by
 obtain ⟨bb,off,rfl,hc⟩:=h.at_ (by simp only [List.length_append,List.length_cons]; omega)
 have g : ∀ i v,(c0 :: c1 :: c2 :: c3 :: cs')[i]?=some v→w.cell? ⟨bb,off + k * 4 + i,none⟩=some v:=fun i v hv=>by
  rw [Nat.add_assoc]
  refine hc (k * 4 + i) v ?_
  rw [← hl,List.getElem?_append_right (by omega),Nat.add_sub_cancel_left]
  exact hv
 exact ⟨bb,off,rfl,by simpa using g 0 _ rfl,g 1 _ rfl,g 2 _ rfl,g 3 _ rfl⟩
theorem cells6S {w:World} {F:Nat→Prop} {a:Option Addr} {cs1 cs':List Value} {c0 c1 c2 c3 c4 c5:Value} {k:Nat} (h:Row w F a (cs1 ++ c0 :: c1 :: c2 :: c3 :: c4 :: c5 :: cs')) (hl : cs1.length=k * 6) :
  ∃ bb off,a=some ⟨bb,off,none⟩∧w.cell? ⟨bb,off + k * 6,none⟩=some c0∧w.cell? ⟨bb,off + k * 6 + 1,none⟩=some c1∧w.cell? ⟨bb,off + k * 6 + 2,none⟩=some c2∧w.cell? ⟨bb,off + k * 6 + 3,none⟩=some c3∧w.cell? ⟨bb,off + k * 6 + 4,none⟩=some c4∧w.cell? ⟨bb,off + k * 6 + 5,none⟩=some c5:=by
 obtain ⟨bb,off,rfl,hc⟩:=h.at_ (by simp only [List.length_append,List.length_cons]; omega)
 have g : ∀ i v,(c0 :: c1 :: c2 :: c3 :: c4 :: c5 :: cs')[i]?=some v→w.cell? ⟨bb,off + k * 6 + i,none⟩=some v:=fun i v hv=>by
  rw [Nat.add_assoc]
  refine hc (k * 6 + i) v ?_
  rw [← hl,List.getElem?_append_right (by omega),Nat.add_sub_cancel_left]
  exact hv
 exact ⟨bb,off,rfl,by simpa using g 0 _ rfl,g 1 _ rfl,g 2 _ rfl,g 3 _ rfl,g 4 _ rfl,g 5 _ rfl⟩
theorem SyBlk.row {w:World} {g:Nat} {l:List Sy} {F:Nat→Prop} (h:SyBlk w g l) (hF:F g):Row w F (some ⟨g,0,none⟩) (l.flatMap Sy.cells):=by
 refine ⟨fun _=>⟨g,0,rfl,fun i x hx=>?_⟩,fun _ p hp=>by cases hp; exact hF⟩
 have key : ∀ (l:List Sy) (i:Nat) (x:Value),(l.flatMap Sy.cells)[i]?=some x → ∃ k s,l[k]?=some s ∧ ∃ j,j < 3∧i=k * 3 + j∧s.cells[j]?=some x:=by
  intro l
  induction l with
  | nil=>intro i x hx; simp at hx
  | cons y r ih=>
   intro i x hx
   rw [List.flatMap_cons] at hx
   by_cases hi : i < 3
   ·rw [List.getElem?_append_left (by simp [Sy.cells]; omega)] at hx
    exact ⟨0,y,rfl,i,hi,by omega,hx⟩
   ·rw [List.getElem?_append_right (by simp [Sy.cells]; omega)] at hx
    obtain ⟨k,s,hk,j,hj,he,hs⟩:=ih _ x hx
    exact ⟨k + 1,s,by simpa using hk,j,hj,by simp [Sy.cells] at he; omega,hs⟩
 obtain ⟨k,s,hk,j,hj,rfl,hs⟩:=key l i x hx
 obtain ⟨c0,c1,c2⟩:=h.cells hk
 rw [Nat.zero_add]
 match j,hj with
 | 0,_=>simp [Sy.cells] at hs; subst hs; exact c0
 | 1,_=>simp [Sy.cells] at hs; subst hs; exact c1
 | 2,_=>simp [Sy.cells] at hs; subst hs; exact c2
theorem seen_var {g:Glob} {r:List Glob} {L:List Sy} {T:List Sy} (h:L ++ ((g :: r).filter (·.seen)).map varSy=T) : (if g.seen then L ++ [varSy g] else L) ++ (r.filter (·.seen)).map varSy=T:=by
 rw [← h,List.filter_cons]
 split <;> simp
theorem seen_proc {g:Proc} {r:List Proc} {L:List Sy} {T:List Sy} (h:L ++ ((g :: r).filter (·.seen)).map procSy=T) : (if g.seen then L ++ [procSy g] else L) ++ (r.filter (·.seen)).map procSy=T:=by
 rw [← h,List.filter_cons]
 split <;> simp
end Go.Mq.Sym
namespace Go.Proofs.YtilhhkokdfajiaaGreatDoor
open Go Go.RowKit Go.Mq Go.Mq.Tree Go.Mq.Sym
set_option maxRecDepth 100000
set_option maxHeartbeats 4000000
theorem infoSym : (Tryz.prog.info? 41).map (fun i=>(i.zero,i.size,i.bytes))=some (some (.agg #[.string ⟨#[]⟩,.int .i64 0,.int .i64 0]),3,32):=by kernel_rfl
theorem of_any (vs:List Glob) (ps:List Proc) (hvs : vs.length≤10) (hps : ps.length≤10) (F:Nat→Prop) (nm:List UInt8) (x1:Option Addr) (y1 z1:Nat) (x4:Option Addr) (y4 z4:Nat) (vv vp:Value) (w:World) (hgv:GlobsAt w F vs vv) (hpv:ProcsL w F ps vp) :
  Calls Tryz.prog 22 #[.agg #[str nm,.slice x1 y1 z1,vv,vp,.slice x4 y4 z4]] w (fun e w'=>∃ v,e = .returned v∧SymsAt w' (New w w') (insSort (seenL vs ps)) v∧Chg [] w w'):=by
 obtain ⟨av,cv,rfl,hgv1,hgv2⟩:=hgv
 obtain ⟨ap,cp,pcs,rfl,hpv1,hpv2,hpv3⟩:=hpv
 obtain ⟨w0,hw0⟩ : ∃ w0,w.alloc (.cells #[str nm,.slice x1 y1 z1,.slice av vs.length cv,.slice ap ps.length cp,.slice x4 y4 z4] 29)=w0:=⟨_,rfl⟩
 have hbX:=Blk.new w #[str nm,.slice x1 y1 z1,.slice av vs.length cv,.slice ap ps.length cp,.slice x4 y4 z4] 29
 have hcX:Chg [] w w0:=by rw [← hw0]; exact (Chg.refl _ _).alloc _
 have hsX : w0.heap.size=w.heap.size + 1:=by rw [← hw0]; simp
 rw [hw0] at hbX
 have e0:=hbX.cell 0 _ rfl; have e1:=hbX.cell 1 _ rfl; have e2:=hbX.cell 2 _ rfl; have e3:=hbX.cell 3 _ rfl; have e4:=hbX.cell 4 _ rfl
 have HX:=Lib.hid hbX; have HCX:=Lib.hid hcX
 have HGV:=Lib.hid (hgv2.kept hcX (by simp)); have HPV:=Lib.hid (hpv2.kept hcX (by simp)); have HPL:=Lib.hid hpv3
 clear hbX hcX hgv2 hpv2 hpv3
 go_enter Tryz.func22,Tryz.ntmps22
 go_wp2_with fail
 clear hw0 e0 e1 e2 e3 e4
 go_loopw [3,5,11] (fun lv _ i wr=>∃ (k:Nat) (rest:List Glob) (L:List Sy) (cs1:List Value),i = .int .i64 k∧k + rest.length=vs.length∧vs.flatMap Glob.cells=cs1 ++ rest.flatMap Glob.cells∧cs1.length=k * 4∧L.length≤k∧Chg [] w0 wr∧wr.ownsRow 0 41 3 lv L.length (L.flatMap Sy.cells)∧From w0.heap.size lv∧L ++ (rest.filter (·.seen)).map varSy=(vs.filter (·.seen)).map varSy) (fun _ _ i _=>vs.length - (intOf i).toNat)
 case atStart=>exact ⟨0,vs,[],[],rfl,by simp,rfl,rfl,Nat.le_refl _,Chg.refl _ _,World.ownsRow_nil _ _ _ _,From.nil _,rfl⟩
 case round=>
  obtain ⟨k,rest,L,cs1,rfl,hk,hcse,hl1,hLk,hc,ho,hf,hT⟩:=hrel
  have HC:=Lib.hid hc; have HO:=Lib.hid ho; have HF:=Lib.hid hf; have HT:=Lib.hid hT
  clear hc ho hf hT
  cases rest with
  | nil=>
   have hke : ¬ k < vs.length:=by simp at hk; omega
   have hLe : (vs.filter (·.seen)).map varSy=L:=by have:=HT.out; simpa using this.symm
   have HLE:=Lib.hid hLe
   have hbX:=HX.out.kept HC.out (by simp)
   have e0:=hbX.cell 0 _ rfl; have e1:=hbX.cell 1 _ rfl; have e2:=hbX.cell 2 _ rfl; have e3:=hbX.cell 3 _ rfl; have e4:=hbX.cell 4 _ rfl
   have hLv:L.length≤vs.length:=by simp at hk; omega
   clear hbX hcse hLe
   go_wp2_with fail
   clear e0 e1 e2 e3 e4
   have hce : ∀ x,L ++ x=(vs.filter (·.seen)).map varSy ++ x:=fun x=>by rw [HLE.out]
   have HCE:=Lib.hid hce
   clear hce HT
   go_loopw [3,7,29] (fun lv _ i wr=>∃ (k:Nat) (rest:List Proc) (M:List Sy) (cs1 cs2:List Value),i = .int .i64 k∧k + rest.length=ps.length∧pcs=cs1 ++ cs2∧cs1.length=k * 6∧PrsL rest cs2∧M.length≤vs.length + k∧Chg [] w0 wr∧wr.ownsRow 0 41 3 lv M.length (M.flatMap Sy.cells)∧From w0.heap.size lv∧M ++ (rest.filter (·.seen)).map procSy=seenL vs ps) (fun _ _ i _=>ps.length - (intOf i).toNat)
   case atStart=>exact ⟨0,ps,L,[],pcs,rfl,by simp,rfl,rfl,HPL.out,by omega,HC.out,HO.out,HF.out,by rw [seenL,HCE.out]⟩
   case round=>
    clear HCE HLE HO HF HC hLk hLv hl1 hk hke
    obtain ⟨k,rest,L,cs1,cs2,rfl,hk,hcse,hl1,hpl,hLk,hc,ho,hf,hT⟩:=hrel
    have HC:=Lib.hid hc; have HO:=Lib.hid ho; have HF:=Lib.hid hf; have HT:=Lib.hid hT
    clear hc ho hf hT
    cases rest with
    | nil=>
     have hke : ¬ k < ps.length:=by simp at hk; omega
     have hLe : seenL vs ps=L:=by have:=HT.out; simpa using this.symm
     have HLE:=Lib.hid hLe
     have hL20:L.length≤20:=by simp at hk; omega
     have hsz0:=HC.out.size
     clear hcse hpl hLe
     rcases SyBlk.of_owns HO.out with ⟨hlv,hnil⟩ | ⟨g,c,hlv,hlc,hsy⟩
     ·have HNIL:=Lib.hid hnil
      subst hlv
      clear hnil
      have HST:=Lib.hid (sort_nil wr)
      go_wp2_with fail
      refine HST.out.mono ?_; rintro _ _ ⟨rfl,hw⟩; have hw:=hw.symm; subst hw
      go_wp2_with fail
      go_ret
      refine ⟨_,rfl,?_,HCX.out.then HC.out⟩
      rw [HLE.out,HNIL.out]
      exact ⟨none,0,rfl,Nat.le_refl _,Row.nil _ _ _,fun _=>rfl⟩
     ·have hg0 : w0.heap.size≤g:=HF.out g (by rw [hlv]; simp [blk])
      subst hlv
      have HST:=Lib.hid (sort_any g L c hL20 wr hsy)
      clear hsy
      go_wp2_with fail
      refine HST.out.mono ?_; rintro _ w5 ⟨rfl,hb5,hc5⟩
      have HB5:=Lib.hid hb5; have HC5:=Lib.hid hc5
      clear hb5 hc5
      go_wp2_with fail
      go_ret
      have hlt5:=HB5.out.lt
      refine ⟨_,rfl,?_,(HCX.out.then HC.out).trans HC5.out (fun x hx=>.inr (by simp at hx; omega))⟩
      rw [HLE.out]
      exact ⟨_,c,by rw [insSort_length]; rfl,by rw [insSort_length]; exact hlc,HB5.out.row ⟨by omega,hlt5⟩,fun h=>by cases h⟩
    | cons x r=>
     obtain ⟨xn,xp,xse,xps,xvs,xb⟩:=x
     obtain ⟨_,cs',rfl,⟨pos,a1,k1,a2,n2,k2,a3,n3,k3,rfl⟩,hpl'⟩:=hpl
     have HR:=Lib.hid hpl'
     have hlt : k < ps.length:=by simp at hk; omega
     simp only [List.cons_append,List.nil_append] at hcse
     have HCSE:=Lib.hid hcse
     clear hpl'
     have hxl : xps.length≤1000000∨True:=.inr trivial
     have hrw:=HPV.out.kept HC.out (by simp)
     rw [hcse] at hrw
     obtain ⟨bb,off,rfl,d0,d1,d2,d3,d4,d5⟩:=cells6S hrw hl1
     have hz:=Blk.new wr #[str [],.int .i64 0,.bool false,nils,nils,nils] 73
     obtain ⟨wA,hwA⟩ : ∃ wA,wr.alloc (.cells #[str [],.int .i64 0,.bool false,nils,nils,nils] 73)=wA:=⟨_,rfl⟩
     rw [hwA] at hz
     have hcA:Chg [] wr wA:=by rw [← hwA]; exact (Chg.refl _ _).alloc _
     obtain ⟨wF,hwF,hcF,hbF⟩:=set6S (str xn) (.int .i64 pos) (.bool xse) (.slice a1 xps.length k1) (.slice a2 n2 k2) (.slice a3 n3 k3) hz
     have hcw:Chg [] wr wF:=hcA.trans hcF (fun x hx=>.inr (by simp at hx; omega))
     have g0:=hcA.cellSome d0 (by simp); have g1:=hcA.cellSome d1 (by simp); have g2:=hcA.cellSome d2 (by simp); have g3:=hcA.cellSome d3 (by simp); have g4:=hcA.cellSome d4 (by simp); have g5:=hcA.cellSome d5 (by simp)
     have z0:=hz.cell 0 _ rfl; have z1:=hz.cell 1 _ rfl; have z2:=hz.cell 2 _ rfl; have z3:=hz.cell 3 _ rfl; have z4:=hz.cell 4 _ rfl; have z5:=hz.cell 5 _ rfl
     have y0:=hz.frozen 0; have y1:=hz.frozen 1; have y2:=hz.frozen 2; have y3:=hz.frozen 3; have y4:=hz.frozen 4; have y5:=hz.frozen 5
     have b0:=hbF.cell 0 _ rfl; have b1:=hbF.cell 1 _ rfl; have b2:=hbF.cell 2 _ rfl; have b3:=hbF.cell 3 _ rfl; have b4:=hbF.cell 4 _ rfl; have b5:=hbF.cell 5 _ rfl
     have HCF:=Lib.hid (HC.out.then hcw)
     have hszF:=hcw.size
     have hsz0:=HC.out.size
     have HOF:=Lib.hid (owns_kept HO.out hcw (by simp))
     clear hrw hcA hcF hbF hcw hz hcse
     cases hgs : xse with
     | false=>
      subst hgs
      go_wp2_with fail
      exact ⟨⟨k + 1,r,L,cs1 ++ [str xn,.int .i64 pos,.bool false,.slice a1 xps.length k1,.slice a2 n2 k2,.slice a3 n3 k3],cs',by go_num,by simp at hk; omega,by rw [HCSE.out]; simp,by simp [hl1]; omega,HR.out,by omega,HCF.out,HOF.out,HF.out,by have e:=seen_proc HT.out; simpa using e⟩,by simp [intOf]; omega⟩
     | true=>
      subst hgs
      have HO2:=Lib.hid (owns_kept HOF.out ((Chg.refl [] wF).alloc (.cells #[str xn,.int .i64 0,.int .i64 (xps.length:Int)] 41)) (by simp))
      go_wp2_with (at_builtin; go_must (refine wpL_append rfl _ _ 38 rfl 41 _ 3 32 infoSym Tryz.underlying38 rfl (by decide) _ _ _ rfl HO2.out ⟨wF.heap.size,0,none⟩ 1 1 (Sy.cells (⟨xn,0,(xps.length:Int)⟩ : Sy)) rfl rfl (cells_new _ _ _) (by simp [Sy.cells,Value.oneCell']) ?_ ?_ ?_))
      ·omega
      ·unfold maxLen; omega
      ·intro v' w' hown' hch' hmv'
       have hf3:=HF.out.moved hmv' (by simp; omega)
       have HF3:=Lib.hid hf3
       have HC3:=Lib.hid ((HCF.out.alloc (.cells #[str xn,.int .i64 0,.int .i64 (xps.length:Int)] 41)).trans hch' (fun x hx=>.inr (HF.out x hx)))
       have HO3:=Lib.hid (show w'.ownsRow 0 41 3 v' (L ++ [(⟨xn,0,(xps.length:Int)⟩ : Sy)]).length ((L ++ [(⟨xn,0,(xps.length:Int)⟩ : Sy)]).flatMap Sy.cells) by simpa [List.flatMap_append] using hown')
       clear hown' hch' hmv' hf3
       go_wp2_with fail
       exact ⟨⟨k + 1,r,L ++ [(⟨xn,0,(xps.length:Int)⟩ : Sy)],cs1 ++ [str xn,.int .i64 pos,.bool true,.slice a1 xps.length k1,.slice a2 n2 k2,.slice a3 n3 k3],cs',by go_num,by simp at hk; omega,by rw [HCSE.out]; simp,by simp [hl1]; omega,HR.out,by simp; omega,HC3.out,HO3.out,HF3.out,by have e:=seen_proc HT.out; simpa [varSy,procSy] using e⟩,by simp [intOf]; omega⟩
  | cons g r=>
   obtain ⟨gn,gp,gl,gs⟩:=g
   have hlt : k < vs.length:=by simp at hk; omega
   simp only [List.flatMap_cons,Glob.cells,List.cons_append,List.nil_append] at hcse
   have HCSE:=Lib.hid hcse
   have hrw:=HGV.out.kept HC.out (by simp)
   rw [hcse] at hrw
   obtain ⟨bb,off,rfl,d0,d1,d2,d3⟩:=cells4S hrw hl1
   have hz:=Blk.new wr #[str [],.int .i64 0,.int .i64 0,.bool false] 70
   obtain ⟨wA,hwA⟩ : ∃ wA,wr.alloc (.cells #[str [],.int .i64 0,.int .i64 0,.bool false] 70)=wA:=⟨_,rfl⟩
   rw [hwA] at hz
   have hcA:Chg [] wr wA:=by rw [← hwA]; exact (Chg.refl _ _).alloc _
   obtain ⟨wF,hwF,hcF,hbF⟩:=set4S (str gn) (.int .i64 gp) (.int .i64 gl) (.bool gs) hz
   have hcw:Chg [] wr wF:=hcA.trans hcF (fun x hx=>.inr (by simp at hx; omega))
   have g0:=hcA.cellSome d0 (by simp); have g1:=hcA.cellSome d1 (by simp); have g2:=hcA.cellSome d2 (by simp); have g3:=hcA.cellSome d3 (by simp)
   have z0:=hz.cell 0 _ rfl; have z1:=hz.cell 1 _ rfl; have z2:=hz.cell 2 _ rfl; have z3:=hz.cell 3 _ rfl
   have y0:=hz.frozen 0; have y1:=hz.frozen 1; have y2:=hz.frozen 2; have y3:=hz.frozen 3
   have b0:=hbF.cell 0 _ rfl; have b1:=hbF.cell 1 _ rfl; have b2:=hbF.cell 2 _ rfl; have b3:=hbF.cell 3 _ rfl
   have HCF:=Lib.hid (HC.out.then hcw)
   have hszF:=hcw.size
   have hsz0:=HC.out.size
   have HOF:=Lib.hid (owns_kept HO.out hcw (by simp))
   clear hrw hcA hcF hbF hcw hz hcse
   cases hgs : gs with
   | false=>
    subst hgs
    go_wp2_with fail
    exact ⟨⟨k + 1,r,L,cs1 ++ [str gn,.int .i64 gp,.int .i64 gl,.bool false],by go_num,by simp at hk; omega,by rw [HCSE.out]; simp,by simp [hl1]; omega,by omega,HCF.out,HOF.out,HF.out,by have e:=seen_var HT.out; simpa using e⟩,by simp [intOf]; omega⟩
   | true=>
    subst hgs
    have HO2:=Lib.hid (owns_kept HOF.out ((Chg.refl [] wF).alloc (.cells #[str gn,.int .i64 gl,.int .i64 (-1)] 41)) (by simp))
    go_wp2_with (at_builtin; go_must (refine wpL_append rfl _ _ 38 rfl 41 _ 3 32 infoSym Tryz.underlying38 rfl (by decide) _ _ _ rfl HO2.out ⟨wF.heap.size,0,none⟩ 1 1 (Sy.cells (⟨gn,gl,-1⟩ : Sy)) rfl rfl (cells_new _ _ _) (by simp [Sy.cells,Value.oneCell']) ?_ ?_ ?_))
    ·omega
    ·unfold maxLen; omega
    ·intro v' w' hown' hch' hmv'
     have hf3:=HF.out.moved hmv' (by simp; omega)
     have HF3:=Lib.hid hf3
     have HC3:=Lib.hid ((HCF.out.alloc (.cells #[str gn,.int .i64 gl,.int .i64 (-1)] 41)).trans hch' (fun x hx=>.inr (HF.out x hx)))
     have HO3:=Lib.hid (show w'.ownsRow 0 41 3 v' (L ++ [(⟨gn,gl,-1⟩ : Sy)]).length ((L ++ [(⟨gn,gl,-1⟩ : Sy)]).flatMap Sy.cells) by simpa [List.flatMap_append] using hown')
     clear hown' hch' hmv' hf3
     go_wp2_with fail
     exact ⟨⟨k + 1,r,L ++ [(⟨gn,gl,-1⟩ : Sy)],cs1 ++ [str gn,.int .i64 gp,.int .i64 gl,.bool true],by go_num,by simp at hk; omega,by rw [HCSE.out]; simp,by simp [hl1]; omega,by simp; omega,HC3.out,HO3.out,HF3.out,by have e:=seen_var HT.out; simpa [varSy,procSy] using e⟩,by simp [intOf]; omega⟩
end Go.Proofs.YtilhhkokdfajiaaGreatDoor
