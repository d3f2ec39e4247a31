/- Some texts in one. -/
import Derived.Test.YtojkkgghndeimaaGreatDoorO12
import Derived.Test.YtojkkgghndeimaaGreatDoorO13
import Derived.Test.YtojkkgghndeimaaGreatDoorO15
namespace Go.Mq.Used
open Go Go.RowKit Go.Mq Go.Mq.Tree Go.Mq.Plan Go.Mq.Ref
def modN:E→List UInt8
 | .var _ m _=>m
 | .item _ m _ _=>m
 | .app _ m _ _=>m
 | _=>[]
def nameN:E→List UInt8
 | .var _ _ n=>n
 | .item _ _ n _=>n
 | .app _ _ n _=>n
 | _=>[]
def touchE (g:List UInt8) (x:E) (l:List (List UInt8)):List (List UInt8):=touch g (modN x) (nameN x) l
theorem touch_nil (g n:List UInt8) (l:List (List UInt8)) : touch g [] n l=l:=by
 rw [touch,if_neg]
 rintro ⟨h1,h2,_⟩
 exact h2 h1.symm
theorem visE_use (g:List UInt8) (e:E) : ∀ l,visE (touchE g) e l=useE g e l:=by
 induction e with
 | num p n=>intro l; exact touch_nil g _ l
 | var p m n=>intro l; rfl
 | item p m n i ih=>intro l; exact ih _
 | un p o x ih=>intro l; show visE _ x (touch g [] [] l)=_; rw [touch_nil]; exact ih l
 | bin p o x y ih1 ih2=>intro l; show visE _ y (visE _ x (touch g [] [] l))=_; rw [touch_nil,ih1,ih2]; rfl
 | app p m n l ih=>intro t; exact ih _
 | nil=>intro l; rfl
 | cons x r ih1 ih2=>intro l; show visE _ r (visE _ x l)=_; rw [ih1,ih2]; rfl
theorem visS_use (g:List UInt8) (s:S) : ∀ l,visS (touchE g) s l=useS g s l:=by
 induction s with
 | nil=>intro l; rfl
 | set p n i v r ih=>
  intro l
  cases i with
  | none=>show visS _ r (visE _ v l)=_; rw [visE_use,ih]; rfl
  | some x=>show visS _ r (visE _ v (visE _ x l))=_; rw [visE_use,visE_use,ih]; rfl
 | ret p v r ih=>intro l; show visS _ r (visE _ v l)=_; rw [visE_use,ih]; rfl
 | wri p v r ih=>intro l; show visS _ r (visE _ v l)=_; rw [visE_use,ih]; rfl
 | call p v r ih=>intro l; show visS _ r (visE _ v l)=_; rw [visE_use,ih]; rfl
 | whil p v t r ih1 ih2=>intro l; show visS _ r (visS _ t (visE _ v l))=_; rw [visE_use,ih1,ih2]; rfl
 | ifs p v t e r ih1 ih2 ih3=>intro l; show visS _ r (visS _ e (visS _ t (visE _ v l)))=_; rw [visE_use,ih1,ih2,ih3]; rfl
def setM (l:List (List UInt8)):List (List UInt8 × Value):=l.map fun n=>(n,.bool true)
theorem put_set (n:List UInt8) : ∀ l:List (List UInt8),putM (setM l) n (.bool true)=if n∈l then setM l else setM (l ++ [n])
 | []=>by simp [setM,putM]
 | k :: r=>by
  have ih:=put_set n r
  show putM ((k,.bool true) :: setM r) n (.bool true)=_
  rw [putM]
  by_cases hk : k=n
  ·subst hk; simp [setM]
  ·rw [if_neg hk,ih]
   have : n≠k:=fun h=>hk h.symm
   by_cases hr : n∈r
   ·simp [hr,setM]
   ·simp [hr,this,setM]
end Go.Mq.Used
namespace Go.Proofs.YtojkkgghndeimaaGreatDoor
open Go Go.RowKit Go.Mq Go.Mq.Tree Go.Mq.Ref Go.Mq.Used Go.Mq.Plan
set_option maxRecDepth 100000
set_option maxHeartbeats 4000000
theorem at_names {w:World} {F:Nat→Prop} {x:E} {u:Value} (hx : x.isX) (h:EAt w F x [u]) : ∃ b,u=ptr b∧F b∧w.cell? ⟨b,3,none⟩=some (str (modN x))∧w.cell? ⟨b,4,none⟩=some (str (nameN x)):=by
 cases x with
 | num p n=>obtain ⟨b,hb,hF,hx⟩:=h; cases hb; exact ⟨_,rfl,hF,hx.cell 3 _ rfl,hx.cell 4 _ rfl⟩
 | var p m n=>obtain ⟨b,hb,hF,hx⟩:=h; cases hb; exact ⟨_,rfl,hF,hx.cell 3 _ rfl,hx.cell 4 _ rfl⟩
 | item p m n i=>obtain ⟨b,_,hb,hF,hx,_⟩:=h; cases hb; exact ⟨_,rfl,hF,hx.cell 3 _ rfl,hx.cell 4 _ rfl⟩
 | un p op x=>obtain ⟨b,_,hb,hF,hx,_⟩:=h; cases hb; exact ⟨_,rfl,hF,hx.cell 3 _ rfl,hx.cell 4 _ rfl⟩
 | bin p op x y=>obtain ⟨b,_,_,hb,hF,hx,_⟩:=h; cases hb; exact ⟨_,rfl,hF,hx.cell 3 _ rfl,hx.cell 4 _ rfl⟩
 | app p m n l=>obtain ⟨b,_,_,_,hb,hF,hx,_⟩:=h; cases hb; exact ⟨_,rfl,hF,hx.cell 3 _ rfl,hx.cell 4 _ rfl⟩
 | nil=>exact hx.elim
 | cons _ _=>exact hx.elim
theorem rtouch_any (g:List UInt8) (w0:World) (bg bv bm:Nat) (hg : w0.cell? ⟨bg,0,none⟩=some (str g)) (hv : w0.cell? ⟨bv,0,none⟩=some (.map (some bm))) (h1 : bg≠bm) (h2 : bv≠bm) (F:Nat→Prop) (hF : ¬ F bm) (x:E) (u:Value) (hx : x.isX) (h:EAt w0 F x [u]) :
  Does 89 #[ptr bg,ptr bv] w0 [bm] (fun l w=>MapIs w bm (setM l)) u (touchE g x):=by
 intro w l hc hm
 obtain ⟨b,rfl,hFb,hc3,hc4⟩:=at_names hx h
 have hbm : b≠bm:=fun e=>hF (e ▸ hFb)
 obtain ⟨m,hmm⟩ : ∃ m,m=modN x:=⟨_,rfl⟩
 obtain ⟨n,hnn⟩ : ∃ n,n=nameN x:=⟨_,rfl⟩
 have HT:=Lib.hid (show touchE g x l=touch g m n l by rw [touchE,hmm,hnn])
 rw [← hmm] at hc3; rw [← hnn] at hc4
 have c3:=hc.cellSome hc3 (by simpa using hbm); have c4:=hc.cellSome hc4 (by simpa using hbm)
 have cg:=hc.cellSome hg (by simpa using h1); have cv:=hc.cellSome hv (by simpa using h2)
 have HM:=Lib.hid hm
 clear hm hc hc3 hc4 hg hv h hmm hnn hF hFb
 by_cases h0 : m=g∧g≠[]
 ·obtain ⟨rfl,hne⟩:=h0
  have hb2 : (m == [])=false:=by simpa using hne
  have hme : m.isEmpty=false:=by simpa using hne
  obtain ⟨wK,hwK⟩ : ∃ x,x=w.drew.drew:=⟨_,rfl⟩
  have hcK:Chg [] w wK:=by rw [hwK]; exact ((Chg.refl [] w).drew).drew
  have HMK:=Lib.hid (HM.out.kept hcK (by simp))
  obtain ⟨w2,hrun,hm2,hc2⟩:=run_putM (P:=Tryz.prog) Tryz.underlying114 Tryz.underlying9 HMK.out n (.bool true)
  have k3:=hcK.cellSome c3 (by simp); have k4:=hcK.cellSome c4 (by simp); have kg:=hcK.cellSome cg (by simp); have kv:=hcK.cellSome cv (by simp)
  have HM2:=Lib.hid hm2; have HC2:=Lib.hid (hcK.weak.then hc2)
  have HP:=Lib.hid (show putM (setM l) n (.bool true)=setM (touch m m n l) by
   rw [put_set,touch]
   by_cases hnl : n∈l
   ·rw [if_pos hnl,if_neg (fun h=>h.2.2 hnl)]
   ·rw [if_neg hnl,if_pos ⟨rfl,hne,hnl⟩])
  clear hm2
  go_enter Tryz.func89,Tryz.ntmps89
  obtain ⟨wD,hwD⟩ : ∃ x,x=w.drew:=⟨_,rfl⟩
  have hcD:Chg [] w wD:=by rw [hwD]; exact (Chg.refl [] w).drew
  have j3:=hcD.cellSome c3 (by simp); have jg:=hcD.cellSome cg (by simp)
  go_wp2_with fail
  refine wp_region_C [] rfl (by kernel_rfl) ?_
  rw [← hwD]
  rw [← hwD] at hwK
  clear hwD
  have hS:Chg [] wD wD:=Chg.refl _ _
  repeat ((with_reducible refine gX ?_); (first | refine wpX_nil ?_ | refine sK ?_ | refine sM fun _ _=>?_ | refine sL fun _ _=>?_ | refine sE fun _ _=>?_); go_wp2_with fail)
  clear hS j3 jg c3 c4 cg cv
  go_wp2_with fail
  refine wp_region_C [bm] rfl (by kernel_rfl) ?_
  rw [← hwK]
  clear hwK
  have hS:Chg [bm] wK wK:=Chg.refl _ _
  repeat ((with_reducible refine gX ?_); (first | refine wpX_nil ?_ | refine sK ?_ | refine sM fun _ _=>?_ | refine sL (hz:=by first | exact Zone.of kv (by simpa using h2) | exact Zone.of k4 (by simpa using hbm)) fun _ _=>?_ | refine sE fun _ _=>?_); go_wp2_with fail)
  refine And.intro hc2 ?_
  repeat ((with_reducible refine gX ?_); (first | refine wpX_nil ?_ | refine sK ?_ | refine sM fun _ _=>?_ | refine sL (hz:=by exact HZ.out) fun _ _=>?_ | refine sE fun _ _=>?_); go_wp2_with fail)
  refine bodyPost_end (results_none rfl _ _ _) rfl ⟨rfl,?_,HC2.out⟩
  rw [HT.out,← HP.out]
  exact HM2.out
 ·have HTN:=Lib.hid (show touch g m n l=l by rw [touch,if_neg fun h=>h0 ⟨h.1,h.2.1⟩])
  obtain ⟨wD,hwD⟩ : ∃ x,x=w.drew:=⟨_,rfl⟩
  have hcD:Chg [] w wD:=by rw [hwD]; exact (Chg.refl [] w).drew
  have j3:=hcD.cellSome c3 (by simp); have jg:=hcD.cellSome cg (by simp)
  have HMD:=Lib.hid (HM.out.kept hcD (by simp)); have HCD:=Lib.hid hcD
  by_cases h3 : m=g
  case' pos=>
   have hge : g=[]:=by
    by_cases h : g=[]
    ·exact h
    ·exact absurd ⟨h3,h⟩ h0
   subst hge
   subst h3
  case' neg=>have hmb : (m == g)=false:=by simpa using h3
  all_goals
   clear c3 c4 cg cv hcD
   go_enter Tryz.func89,Tryz.ntmps89
   go_wp2_with fail
   refine wp_region_C [] rfl (by kernel_rfl) ?_
   rw [← hwD]
   clear hwD
   have hS:Chg [] wD wD:=Chg.refl _ _
   repeat ((with_reducible refine gX ?_); (first | refine wpX_nil ?_ | refine sK ?_ | refine sM fun _ _=>?_ | refine sL fun _ _=>?_ | refine sE fun _ _=>?_); go_wp2_with fail)
   clear hS j3 jg
   go_wp2_with fail
   refine bodyPost_end (results_none rfl _ _ _) rfl ⟨rfl,?_,HCD.out.weak⟩
   rw [HT.out,HTN.out]
   exact HMD.out
end Go.Proofs.YtojkkgghndeimaaGreatDoor
