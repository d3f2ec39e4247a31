/- Some texts in one. -/
import Derived.Deep.DeepCutAuto
import Derived.Test.YtojkkgghndeimaaGreatDoorR1
import Derived.Test.YtojkkgghndeimaaGreatDoorR5
import Derived.Test.YtojkkgghndeimaaGreatDoorR8
import Derived.Test.YtojkkgghndeimaaGreatDoorR14
namespace Go.Mq.Tree
open Go Go.RowKit Go.Mq
theorem map_flat (l:List (List UInt8)) : l.map str=l.flatMap fun x=>[str x]:=by
 induction l with
 | nil=>rfl
 | cons x r ih=>rw [List.map_cons,ih]; rfl
abbrev Yes (w:World) (e:Ending) (w':World):Prop:=e = .returned (.bool true)∧Chg [] w w'
theorem Row.part {w:World} {F:Nat→Prop} {a:Option Addr} {α:Type} {f : α→List Value} {n:Nat} (hf : ∀ x,(f x).length=n) {l:List α} (h:Row w F a (l.flatMap f)) {k:Nat} (hk : k < l.length) (hn : 0 < n) :
  ∃ b off,a=some ⟨b,off,none⟩ ∧ ∀ (j:Nat) (v:Value),(f l[k])[j]?=some v→w.cell? ⟨b,off + k * n + j,none⟩=some v:=by
 have hlen : ∀ l:List α,(l.flatMap f).length=l.length * n:=by
  intro l
  induction l with
  | nil=>simp
  | cons x r ih=>simp [ih,hf,Nat.succ_mul,Nat.add_comm]
 have hget : ∀ (l:List α) (k:Nat) (hk : k < l.length) (j:Nat) (v:Value),(f l[k])[j]?=some v→(l.flatMap f)[k * n + j]?=some v:=by
  intro l
  induction l with
  | nil=>intro k hk; cases hk
  | cons x r ih=>
   intro k hk j v hv
   have hj : j < n:=by rw [← hf ((x :: r)[k])]; exact (List.getElem?_eq_some_iff.1 hv).1
   cases k with
   | zero=>simp only [Nat.zero_mul,Nat.zero_add,List.flatMap_cons]; rw [List.getElem?_append_left (by rw [hf]; exact hj)]; exact hv
   | succ k=>
    have:=ih k (by simpa using hk) j v (by simpa using hv)
    rw [List.flatMap_cons,List.getElem?_append_right (by rw [hf,Nat.succ_mul]; omega),hf,show (k + 1) * n + j - n=k * n + j by rw [Nat.succ_mul]; omega]
    exact this
 obtain ⟨b,off,rfl,hc⟩:=h.at_ (by rw [hlen]; exact Nat.mul_pos (by omega) hn)
 exact ⟨b,off,rfl,fun j v hv=>by rw [Nat.add_assoc]; exact hc _ v (hget l k hk j v hv)⟩
end Go.Mq.Tree
namespace Go.Proofs.YtojkkgghndeimaaGreatDoor
open Go Go.RowKit Go.Mq Go.Mq.Tree
set_option maxRecDepth 100000
set_option maxHeartbeats 4000000
theorem sameTexts_any {F G:Nat→Prop} {w:World} {l:List (List UInt8)} {v v':Value} (h:NamesAt w F l v) (h':NamesAt w G l v') (hl : l.length≤1000000):Calls Tryz.prog 22 #[v,v'] w (Yes w):=by
 obtain ⟨a,c,rfl,hac,hrow⟩:=h; obtain ⟨a',c',rfl,hac',hrow'⟩:=h'
 rw [map_flat] at hrow hrow'
 have H:=Lib.hid hrow; have H':=Lib.hid hrow'
 clear hrow hrow'
 go_enter Tryz.func22,Tryz.ntmps22
 go_wp2_with fail
 go_loopw [5] (fun i wr=>∃ k:Nat,k≤l.length∧i = .int .i64 k∧Chg [] w wr) (fun i _=>l.length - (intOf i).toNat)
 case atStart=>exact ⟨0,Nat.zero_le _,rfl,Chg.refl _ _⟩
 case round=>
  obtain ⟨k,hk,rfl,hc⟩:=hrel
  by_cases hlt : k < l.length
  ·obtain ⟨b,o,rfl,hcell⟩:=H.out.part (n:=1) (fun _=>rfl) hlt (by omega)
   obtain ⟨b',o',rfl,hcell'⟩:=H'.out.part (n:=1) (fun _=>rfl) hlt (by omega)
   obtain ⟨x,hx⟩ : ∃ x,x=l[k]:=⟨_,rfl⟩
   have c0:=hc.cellSome (hcell 0 (str x) (by rw [hx]; rfl)) (by simp)
   have c1:=hc.cellSome (hcell' 0 (str x) (by rw [hx]; rfl)) (by simp)
   simp only [Nat.mul_one,Nat.add_zero] at c0 c1
   have HC:=Lib.hid hc
   clear hcell hcell' hx hc
   go_wp2_with fail
   go_region
   all_goals (try go_wp2)
   go_roundw
   case rel=>exact ⟨k + 1,by omega,by go_num,HC.out.drew⟩
   case measure=>simp [intOf]; omega
  ·have HC:=Lib.hid hc; clear hc
   go_wp2_with fail
   go_ret
   exact ⟨rfl,HC.out⟩
theorem sameVars_any {F G:Nat→Prop} {w:World} {l:List Glob} {v v':Value} (h:GlobsAt w F l v) (h':GlobsAt w G l v') (hl : l.length≤1000000):Calls Tryz.prog 53 #[v,v'] w (Yes w):=by
 obtain ⟨a,c,rfl,hac,hrow⟩:=h; obtain ⟨a',c',rfl,hac',hrow'⟩:=h'
 have H:=Lib.hid hrow; have H':=Lib.hid hrow'
 clear hrow hrow'
 go_enter Tryz.func53,Tryz.ntmps53
 go_wp2_with fail
 go_loopw [5] (fun i wr=>∃ k:Nat,k≤l.length∧i = .int .i64 k∧Chg [] w wr) (fun i _=>l.length - (intOf i).toNat)
 case atStart=>exact ⟨0,Nat.zero_le _,rfl,Chg.refl _ _⟩
 case round=>
  obtain ⟨k,hk,rfl,hc⟩:=hrel
  by_cases hlt : k < l.length
  ·obtain ⟨b,o,rfl,hcell⟩:=H.out.part (n:=4) (fun _=>rfl) hlt (by omega)
   obtain ⟨b',o',rfl,hcell'⟩:=H'.out.part (n:=4) (fun _=>rfl) hlt (by omega)
   obtain ⟨x,hx⟩ : ∃ x,x=l[k]:=⟨_,rfl⟩
   rw [← hx] at hcell hcell'
   have c0:=hc.cellSome (hcell 0 _ rfl) (by simp); have c1:=hc.cellSome (hcell 1 _ rfl) (by simp); have c2:=hc.cellSome (hcell 2 _ rfl) (by simp); have c3:=hc.cellSome (hcell 3 _ rfl) (by simp)
   have d0:=hc.cellSome (hcell' 0 _ rfl) (by simp); have d1:=hc.cellSome (hcell' 1 _ rfl) (by simp); have d2:=hc.cellSome (hcell' 2 _ rfl) (by simp); have d3:=hc.cellSome (hcell' 3 _ rfl) (by simp)
   simp only [Nat.add_zero] at c0 d0
   have HC:=Lib.hid hc
   clear hcell hcell' hx hc
   go_wp2_with fail
   go_region
   all_goals (try go_wp2)
   go_roundw
   case rel=>exact ⟨k + 1,by omega,by go_num,HC.out.drew⟩
   case measure=>simp [intOf]; omega
  ·have HC:=Lib.hid hc; clear hc
   go_wp2_with fail
   go_ret
   exact ⟨rfl,HC.out⟩
end Go.Proofs.YtojkkgghndeimaaGreatDoor
namespace Go.Proofs.YtojkkgghndeimaaGreatDoor
open Go Go.RowKit Go.Mq Go.Mq.Tree
set_option maxRecDepth 100000
set_option maxHeartbeats 8000000
def SameX (w:World) (u u':Value):Prop:=∀ w',Chg [] w w'→Calls Tryz.prog 108 #[u,u'] w' (Yes w')
theorem SameX.mono {w w1:World} {u u':Value} (h:SameX w u u') (hc:Chg [] w w1):SameX w1 u u':=fun w' h'=>h w' (hc.then h')
theorem sameNil (w:World):SameX w nilp nilp:=by
 intro w' _
 go_enter Tryz.func108,Tryz.ntmps108
 go_wp2_with fail
 go_ret
 exact ⟨rfl,Chg.refl _ _⟩
theorem sameNode {w:World} {F G:Nat→Prop} {b b':Nat} {k p n:Int} {m nm op:List UInt8} {l r l' r':Value} {a a':Option Addr} {c c' N:Nat} {vs vs':List Value}
  (hb:Blk w b #[.int .i64 k,.int .i64 p,.int .i64 n,str m,str nm,str op,l,r,.slice a N c] 155) (hb':Blk w b' #[.int .i64 k,.int .i64 p,.int .i64 n,str m,str nm,str op,l',r',.slice a' N c'] 155)
  (hl:SameX w l l') (hr:SameX w r r') (hn : vs.length=N) (hn' : vs'.length=N) (hN:N≤1000000) (hc:N≤c) (hc':N≤c') (hrow:Row w F a vs) (hrow':Row w G a' vs') (hx : ∀ (i:Nat) u u',vs[i]?=some u→vs'[i]?=some u'→SameX w u u'):SameX w (ptr b) (ptr b'):=by
 intro w' hw
 have HB:=Lib.hid (hb.kept hw (by simp)); have HB':=Lib.hid (hb'.kept hw (by simp))
 have HL:=Lib.hid (hl.mono hw); have HR:=Lib.hid (hr.mono hw)
 have HROW:=Lib.hid (hrow.kept hw (by simp)); have HROW':=Lib.hid (hrow'.kept hw (by simp))
 have HX:Hid (∀ (i:Nat) u u',vs[i]?=some u→vs'[i]?=some u'→SameX w' u u'):=Lib.hid fun i u u' h h'=>(hx i u u' h h').mono hw
 obtain ⟨wD,hwD⟩ : ∃ x,x=w'.drew:=⟨_,rfl⟩
 have hcD:Chg [] w' wD:=hwD ▸ (Chg.refl _ _).drew
 have hD:=HB.out.kept hcD (by simp); have hD':=HB'.out.kept hcD (by simp)
 have c0:=hD.cell 0 _ rfl; have c1:=hD.cell 1 _ rfl; have c2:=hD.cell 2 _ rfl; have c3:=hD.cell 3 _ rfl; have c4:=hD.cell 4 _ rfl; have c5:=hD.cell 5 _ rfl; have c6:=hD.cell 6 _ rfl; have c7:=hD.cell 7 _ rfl; have c8:=hD.cell 8 _ rfl
 have d0:=hD'.cell 0 _ rfl; have d1:=hD'.cell 1 _ rfl; have d2:=hD'.cell 2 _ rfl; have d3:=hD'.cell 3 _ rfl; have d4:=hD'.cell 4 _ rfl; have d5:=hD'.cell 5 _ rfl; have d6:=hD'.cell 6 _ rfl; have d7:=hD'.cell 7 _ rfl; have d8:=hD'.cell 8 _ rfl
 have HLN:=Lib.hid (And.intro hn hn')
 have HCD:=Lib.hid hcD
 clear hb hb' hl hr hrow hrow' hx hD hD' hcD hn hn'
 go_enter Tryz.func108,Tryz.ntmps108
 go_wp2_with fail
 refine wp_region_C [] rfl (by kernel_rfl) ?_
 rw [← hwD]
 clear hwD
 have hS:Chg [] wD wD:=Chg.refl _ _
 repeat ((with_reducible refine gX ?_); (first | refine wpX_nil ?_ | refine sK ?_ | refine sM fun _ _=>?_ | refine sL fun _ _=>?_ | refine sE fun _ _=>?_); go_wp2_with fail)
 refine (HL.out wD HCD.out).mono ?_; rintro _ w2 ⟨rfl,hc2⟩
 have HC2:=Lib.hid hc2
 have c7':=hc2.cellSome c7 (by simp); have d7':=hc2.cellSome d7 (by simp)
 go_wp2_with fail
 refine And.intro (by assumption:Chg _ _ _) ?_
 repeat ((with_reducible refine gX ?_); (first | refine wpX_nil ?_ | refine sK ?_ | refine sM fun _ _=>?_ | refine sL fun _ _=>?_ | refine sE fun _ _=>?_); go_wp2_with fail)
 refine (HR.out w2 (HCD.out.then HC2.out)).mono ?_; rintro _ w3 ⟨rfl,hc3⟩
 have HC3:=Lib.hid (HC2.out.then hc3)
 have hS3:Chg [] wD w3:=hc2.then hc3
 go_wp2_with fail
 refine And.intro hS3 ?_
 repeat ((with_reducible refine gX ?_); (first | refine wpX_nil ?_ | refine sK ?_ | refine sM fun _ _=>?_ | refine sL fun _ _=>?_ | refine sE fun _ _=>?_); go_wp2_with fail)
 clear c0 c1 c2 c3 c4 c5 c6 c7 c8 d0 d1 d2 d3 d4 d5 d6 d7 d8 c7' d7' hS hS3 hc2 hc3
 have HW3:=Lib.hid (HCD.out.then HC3.out)
 clear HC2 HC3 HCD HL HR
 go_loopw [5] (fun i wr=>∃ k:Nat,k≤N∧i = .int .i64 k∧Chg [] w' wr) (fun i _=>N - (intOf i).toNat)
 case atStart=>exact ⟨0,Nat.zero_le _,rfl,HW3.out⟩
 case round=>
  obtain ⟨k,hk,rfl,hcr⟩:=hrel
  have hb1:=HB.out.kept hcr (by simp); have hb2:=HB'.out.kept hcr (by simp)
  have e0:=hb1.cell 8 _ rfl; have e1:=hb2.cell 8 _ rfl
  have HC:=Lib.hid hcr
  clear hb1 hb2
  by_cases hlt : k < N
  ·have hlt1 : k < vs.length:=by have:=HLN.out.1; omega
   have hlt2 : k < vs'.length:=by have:=HLN.out.2; omega
   obtain ⟨b1,o1,rfl,hcell⟩:=HROW.out.at_ (by omega)
   obtain ⟨b2,o2,rfl,hcell'⟩:=HROW'.out.at_ (by omega)
   obtain ⟨u,hu⟩ : ∃ u,vs[k]?=some u:=⟨vs[k],List.getElem?_eq_getElem hlt1⟩
   obtain ⟨u',hu'⟩ : ∃ u,vs'[k]?=some u:=⟨vs'[k],List.getElem?_eq_getElem hlt2⟩
   obtain ⟨wE,hwE⟩ : ∃ x,x=wr.drew:=⟨_,rfl⟩
   have hcE:Chg [] wr wE:=hwE ▸ (Chg.refl _ _).drew
   have HCE:=Lib.hid (hcr.then hcE)
   have g0:=(hcr.then hcE).cellSome (hcell k u hu) (by simp); have g1:=(hcr.then hcE).cellSome (hcell' k u' hu') (by simp)
   have e0':=hcE.cellSome e0 (by simp); have e1':=hcE.cellSome e1 (by simp)
   have HXX:=Lib.hid (HX.out k u u' hu hu')
   clear hcell hcell' hu hu' hcE hcr hlt1 hlt2
   go_wp2_with fail
   refine wp_region_C [] rfl (by kernel_rfl) ?_
   rw [← hwE]
   clear hwE
   have hS:Chg [] wE wE:=Chg.refl _ _
   repeat ((with_reducible refine gX ?_); (first | refine wpX_nil ?_ | refine sK ?_ | refine sM fun _ _=>?_ | refine sL fun _ _=>?_ | refine sE fun _ _=>?_); go_wp2_with fail)
   refine (HXX.out wE HCE.out).mono ?_; rintro _ w2 ⟨rfl,hc2⟩
   have HC2:=Lib.hid (HCE.out.then hc2)
   go_wp2_with fail
   refine And.intro (by assumption:Chg _ _ _) ?_
   repeat ((with_reducible refine gX ?_); (first | refine wpX_nil ?_ | refine sK ?_ | refine sM fun _ _=>?_ | refine sL fun _ _=>?_ | refine sE fun _ _=>?_); go_wp2_with fail)
   exact ⟨⟨k + 1,by omega,by go_num,HC2.out⟩,by simp [intOf]; omega⟩
  ·clear hcr
   go_wp2_with fail
   go_ret
   exact ⟨rfl,HC.out⟩
end Go.Proofs.YtojkkgghndeimaaGreatDoor
namespace Go.Mq.Tree
open Go Go.RowKit Go.Mq
def E.len:E→Nat
 | .nil=>0
 | .cons _ r=>r.len + 1
 | _=>1
theorem len_le (e:E) : e.len≤(toks e).length + 1:=by
 induction e with
 | cons x r ih1 ih2=>cases r <;> simp only [E.len,toks,List.length_append,List.length_cons,List.length_nil] at ih2 ⊢ <;> omega
 | nil=>simp [E.len]
 | _=>simp only [E.len]; omega
theorem within_le (n:Nat) (x:E) (t:List (List UInt8)) : t.length≤(withinK n x t).length:=by unfold withinK; split <;> simp <;> omega
theorem toks_cons (x r:E) : (toks x).length≤(toks (.cons x r)).length∧(toks r).length≤(toks (.cons x r)).length:=by
 cases r <;> simp only [toks,List.length_append,List.length_cons,List.length_nil] <;> omega
end Go.Mq.Tree
namespace Go.Proofs.YtojkkgghndeimaaGreatDoor
open Go Go.RowKit Go.Mq Go.Mq.Tree
set_option maxRecDepth 100000
set_option maxHeartbeats 4000000
def SameL (w:World) (n:Nat) (us us':List Value):Prop:=us.length=n∧us'.length=n ∧ ∀ (i:Nat) u u',us[i]?=some u→us'[i]?=some u'→SameX w u u'
theorem SameL.one {w:World} {u u':Value} (h:SameX w u u'):SameL w 1 [u] [u']:=⟨rfl,rfl,fun i v v' hv hv'=>by
 cases i with
 | zero=>cases hv; cases hv'; exact h
 | succ i=>cases hv⟩
theorem SameL.head {w:World} {u u':Value} {n:Nat} (h:SameL w n [u] [u']):SameX w u u':=h.2.2 0 u u' rfl rfl
theorem sameE (e:E) : (toks e).length≤900000 → ∀ {w:World} {F G:Nat→Prop} {us us':List Value},EAt w F e us→EAt w G e us'→SameL w e.len us us':=by
 induction e with
 | num p n=>
  rintro _ w F G us us' ⟨b,rfl,_,h1⟩ ⟨b',rfl,_,h2⟩
  exact .one (sameNode (vs:=[]) (vs':=[]) (F:=F) (G:=G) h1 h2 (sameNil w) (sameNil w) rfl rfl (by omega) (by omega) (by omega) (Row.nil _ _ _) (Row.nil _ _ _) (fun i u u' h=>by cases h))
 | var p m n=>
  rintro _ w F G us us' ⟨b,rfl,_,h1⟩ ⟨b',rfl,_,h2⟩
  exact .one (sameNode (vs:=[]) (vs':=[]) (F:=F) (G:=G) h1 h2 (sameNil w) (sameNil w) rfl rfl (by omega) (by omega) (by omega) (Row.nil _ _ _) (Row.nil _ _ _) (fun i u u' h=>by cases h))
 | item p m n i ih=>
  rintro hb w F G us us' ⟨b,u,rfl,_,h1,g1⟩ ⟨b',u',rfl,_,h2,g2⟩
  have hi:=ih (by simp only [toks,List.length_append,List.length_cons] at hb; omega) g1 g2
  obtain ⟨x,rfl⟩:=g1.ptr; obtain ⟨x',rfl⟩:=g2.ptr
  exact .one (sameNode (vs:=[]) (vs':=[]) (F:=F) (G:=G) h1 h2 hi.head (sameNil w) rfl rfl (by omega) (by omega) (by omega) (Row.nil _ _ _) (Row.nil _ _ _) (fun i u u' h=>by cases h))
 | un p op x ih=>
  rintro hb w F G us us' ⟨b,u,rfl,_,h1,g1⟩ ⟨b',u',rfl,_,h2,g2⟩
  have hw:=within_le 5 x (toks x)
  have hi:=ih (by simp only [toks,List.length_cons] at hb; omega) g1 g2
  obtain ⟨x,rfl⟩:=g1.ptr; obtain ⟨x',rfl⟩:=g2.ptr
  exact .one (sameNode (vs:=[]) (vs':=[]) (F:=F) (G:=G) h1 h2 hi.head (sameNil w) rfl rfl (by omega) (by omega) (by omega) (Row.nil _ _ _) (Row.nil _ _ _) (fun i u u' h=>by cases h))
 | bin p op x y ih1 ih2=>
  rintro hb w F G us us' ⟨b,u,v,rfl,_,h1,g1,k1⟩ ⟨b',u',v',rfl,_,h2,g2,k2⟩
  have hw1:=within_le (opLevel op) x (toks x); have hw2:=within_le (opLevel op + 1) y (toks y)
  simp only [toks,List.length_append,List.length_cons] at hb
  have hi:=ih1 (by omega) g1 g2; have hj:=ih2 (by omega) k1 k2
  exact .one (sameNode (vs:=[]) (vs':=[]) (F:=F) (G:=G) h1 h2 hi.head hj.head rfl rfl (by omega) (by omega) (by omega) (Row.nil _ _ _) (Row.nil _ _ _) (fun i u u' h=>by cases h))
 | app p m n l ih=>
  rintro hb w F G us us' ⟨b,a,c,vs,rfl,_,h1,hc,hr,g1⟩ ⟨b',a',c',vs',rfl,_,h2,hc',hr',g2⟩
  simp only [toks,List.length_append,List.length_cons] at hb
  have hi:=ih (by omega) g1 g2
  have hl:=len_le l
  rw [hi.1] at h1 hc; rw [hi.2.1] at h2 hc'
  exact .one (sameNode h1 h2 (sameNil w) (sameNil w) hi.1 hi.2.1 (by omega) hc hc' hr hr' hi.2.2)
 | nil=>
  rintro _ w F G us us' h h'
  rw [show us=[] from h,show us'=[] from h']
  exact ⟨rfl,rfl,fun i u u' h=>by cases h⟩
 | cons x r ih1 ih2=>
  rintro hb w F G us us' ⟨u,vs,rfl,g1,k1⟩ ⟨u',vs',rfl,g2,k2⟩
  have ht:=toks_cons x r
  have hi:=ih1 (by omega) g1 g2; have hj:=ih2 (by omega) k1 k2
  refine ⟨by simp [E.len,hj.1],by simp [E.len,hj.2.1],fun i v v' hv hv'=>?_⟩
  cases i with
  | zero=>cases hv; cases hv'; exact hi.2.2 0 _ _ rfl rfl
  | succ i=>exact hj.2.2 i v v' (by simpa using hv) (by simpa using hv')
end Go.Proofs.YtojkkgghndeimaaGreatDoor
namespace Go.Proofs.YtojkkgghndeimaaGreatDoor
open Go Go.RowKit Go.Mq Go.Mq.Tree
set_option maxRecDepth 100000
set_option maxHeartbeats 8000000
theorem two_new (w:World) (A B:Array Value) (T:TypeId):Blk ((w.alloc (.cells A T)).alloc (.cells B T)).drew w.heap.size A T∧Blk ((w.alloc (.cells A T)).alloc (.cells B T)).drew (w.heap.size + 1) B T∧Chg [] w ((w.alloc (.cells A T)).alloc (.cells B T)).drew:=by
 have h2:=Blk.new (w.alloc (.cells A T)) B T
 rw [show (w.alloc (.cells A T)).heap.size=w.heap.size + 1 by simp] at h2
 exact ⟨((Blk.new w A T).kept ((Chg.refl [] _).alloc _) (by simp)).kept (Chg.refl [] _).drew (by simp),h2.kept (Chg.refl [] _).drew (by simp),(((Chg.refl _ _).alloc _).alloc _).drew⟩
def SameS (w:World) (v v':Value):Prop:=∀ w',Chg [] w w'→Calls Tryz.prog 54 #[v,v'] w' (Yes w')
theorem SameS.mono {w w1:World} {u u':Value} (h:SameS w u u') (hc:Chg [] w w1):SameS w1 u u':=fun w' h'=>h w' (hc.then h')
def StSame (w:World) (cs cs':List Value) (i:Nat):Prop:=∃ (k p:Int) (nm:List UInt8) (x y x' y' a1 a2 a1' a2':Option Addr) (l1 c1 l2 c2 l1' c1' l2' c2':Nat),
 (∀ (j:Nat) v,([.int .i64 k,.int .i64 p,str nm,.pointer x,.pointer y,.slice a1 l1 c1,.slice a2 l2 c2] : List Value)[j]?=some v→cs[i * 7 + j]?=some v) ∧
 (∀ (j:Nat) v,([.int .i64 k,.int .i64 p,str nm,.pointer x',.pointer y',.slice a1' l1' c1',.slice a2' l2' c2'] : List Value)[j]?=some v→cs'[i * 7 + j]?=some v) ∧
 SameX w (.pointer x) (.pointer x')∧SameX w (.pointer y) (.pointer y')∧SameS w (.slice a1 l1 c1) (.slice a1' l1' c1')∧SameS w (.slice a2 l2 c2) (.slice a2' l2' c2')
theorem sameRows {w:World} {F G:Nat→Prop} {a a':Option Addr} {n c c':Nat} {cs cs':List Value} (hn : n≤1000000) (hc : n≤c) (hc' : n≤c') (h:Row w F a cs) (h':Row w G a' cs') (hi : ∀ i,i < n→StSame w cs cs' i):SameS w (.slice a n c) (.slice a' n c'):=by
 intro w' hw
 have H:=Lib.hid (h.kept hw (by simp)); have H':=Lib.hid (h'.kept hw (by simp)); have HI:=Lib.hid hi; have HW:=Lib.hid hw
 clear h h' hi hw
 go_enter Tryz.func54,Tryz.ntmps54
 go_wp2_with fail
 go_loopw [5] (fun i wr=>∃ k:Nat,k≤n∧i = .int .i64 k∧Chg [] w' wr) (fun i _=>n - (intOf i).toNat)
 case atStart=>exact ⟨0,Nat.zero_le _,rfl,Chg.refl _ _⟩
 case round=>
  obtain ⟨i,hk,rfl,hcr⟩:=hrel
  by_cases hlt : i < n
  ·obtain ⟨k,p,nm,x,y,x',y',a1,a2,a1',a2',l1,c1,l2,c2,l1',c1',l2',c2',q,q',sx,sy,s1,s2⟩:=HI.out i hlt
   obtain ⟨b,o,rfl,hcell⟩:=H.out.at_ (by have:=(List.getElem?_eq_some_iff.1 (q 0 _ rfl)).1; omega)
   obtain ⟨b',o',rfl,hcell'⟩:=H'.out.at_ (by have:=(List.getElem?_eq_some_iff.1 (q' 0 _ rfl)).1; omega)
   obtain ⟨wD,hwD⟩ : ∃ x,x=wr:=⟨_,rfl⟩
   subst hwD
   have hcD:Chg [] w' wD:=hcr
   have g : ∀ (j:Nat) v,([.int .i64 k,.int .i64 p,str nm,.pointer x,.pointer y,.slice a1 l1 c1,.slice a2 l2 c2] : List Value)[j]?=some v→wD.cell? ⟨b,o + i * 7 + j,none⟩=some v:=fun j v hv=>by
    rw [Nat.add_assoc]; exact hcD.cellSome (hcell _ v (q j v hv)) (by simp)
   have g' : ∀ (j:Nat) v,([.int .i64 k,.int .i64 p,str nm,.pointer x',.pointer y',.slice a1' l1' c1',.slice a2' l2' c2'] : List Value)[j]?=some v→wD.cell? ⟨b',o' + i * 7 + j,none⟩=some v:=fun j v hv=>by
    rw [Nat.add_assoc]; exact hcD.cellSome (hcell' _ v (q' j v hv)) (by simp)
   have e0:=g 0 _ rfl; have e1:=g 1 _ rfl; have e2:=g 2 _ rfl; have e3:=g 3 _ rfl; have e4:=g 4 _ rfl; have e5:=g 5 _ rfl; have e6:=g 6 _ rfl
   have d0:=g' 0 _ rfl; have d1:=g' 1 _ rfl; have d2:=g' 2 _ rfl; have d3:=g' 3 _ rfl; have d4:=g' 4 _ rfl; have d5:=g' 5 _ rfl; have d6:=g' 6 _ rfl
   rw [Nat.add_zero] at e0 d0
   have HCD:=Lib.hid hcD
   have SX:=Lib.hid (sx.mono HW.out); have SY:=Lib.hid (sy.mono HW.out); have S1:=Lib.hid (s1.mono HW.out); have S2:=Lib.hid (s2.mono HW.out)
   have hb : b < wD.heap.size:=lt_of_cell e0
   have hb' : b' < wD.heap.size:=lt_of_cell d0
   clear g g' hcell hcell' q q' sx sy s1 s2 hcr hcD
   go_upto_region 6 with fail
   go_cut [6,7] (fun s6 s7 wx=>∃ bx bz:Nat,s6=ptr bx∧s7=ptr bz∧Blk wx bx #[.int .i64 k,.int .i64 p,str nm,.pointer x,.pointer y,.slice a1 l1 c1,.slice a2 l2 c2] 138∧Blk wx bz #[.int .i64 k,.int .i64 p,str nm,.pointer x',.pointer y',.slice a1' l1' c1',.slice a2' l2' c2'] 138∧Chg [] w' wx)
   case first=>
    go_region
    all_goals (try go_wp2_with fail)
    all_goals
     go_meet
     first
      | exact ⟨_,_,rfl,rfl,(two_new wD _ _ _).1,(two_new wD _ _ _).2.1,HCD.out.then (two_new wD _ _ _).2.2⟩
      | exact ⟨_,_,rfl,rfl,(two_new wD _ _ _).2.1,(two_new wD _ _ _).1,HCD.out.then (two_new wD _ _ _).2.2⟩
   case rest=>
    obtain ⟨bx,bz,rfl,rfl,hbx,hbz,hcx⟩:=hcut
    clear e0 e1 e2 e3 e4 e5 e6 d0 d1 d2 d3 d4 d5 d6
    obtain ⟨e0,e1,e2,e3,e4,e5,e6⟩:=hbx.seven; obtain ⟨d0,d1,d2,d3,d4,d5,d6⟩:=hbz.seven
    have HCX:=Lib.hid hcx
    clear hbx hbz hcx
    go_wp2_with fail
    refine (SX.out wc HCX.out).mono ?_; rintro _ x1 ⟨rfl,hc1⟩
    have HC1:=Lib.hid (HCX.out.then hc1)
    have e4':=hc1.cellSome e4 (by simp); have d4':=hc1.cellSome d4 (by simp); have e5':=hc1.cellSome e5 (by simp); have d5':=hc1.cellSome d5 (by simp); have e6':=hc1.cellSome e6 (by simp); have d6':=hc1.cellSome d6 (by simp)
    clear e0 e1 e2 e3 e4 e5 e6 d0 d1 d2 d3 d4 d5 d6 hc1
    go_wp2_with fail
    refine (SY.out x1 HC1.out).mono ?_; rintro _ x2 ⟨rfl,hc2⟩
    have HC2:=Lib.hid (HC1.out.then hc2)
    have e5:=hc2.cellSome e5' (by simp); have d5:=hc2.cellSome d5' (by simp); have e6:=hc2.cellSome e6' (by simp); have d6:=hc2.cellSome d6' (by simp)
    clear e4' d4' e5' d5' e6' d6' hc2
    go_wp2_with fail
    refine (S1.out x2 HC2.out).mono ?_; rintro _ x3 ⟨rfl,hc3⟩
    have HC3:=Lib.hid (HC2.out.then hc3)
    have e6':=hc3.cellSome e6 (by simp); have d6':=hc3.cellSome d6 (by simp)
    clear e5 d5 e6 d6 hc3
    go_wp2_with fail
    refine (S2.out x3 HC3.out).mono ?_; rintro _ x4 ⟨rfl,hc4⟩
    have HEND:=Lib.hid (HC3.out.then hc4)
    clear hc4 e6' d6'
    go_wp2_with fail
    go_roundw
    case rel=>exact ⟨i + 1,by omega,by go_num,HEND.out⟩
    case measure=>simp [intOf]; omega
  ·have HC:=Lib.hid hcr; clear hcr
   go_wp2_with fail
   go_ret
   exact ⟨rfl,HC.out⟩
end Go.Proofs.YtojkkgghndeimaaGreatDoor
namespace Go.Mq.Tree
open Go Go.RowKit Go.Mq
theorem slen_le (s:S) : s.len≤(stmtK s).length:=by
 induction s with
 | nil=>simp [S.len]
 | set p n i v r ih=>simp only [S.len,stmtK,List.length_append,List.length_cons]; omega
 | ret p v r ih=>simp only [S.len,stmtK,List.length_append,List.length_cons]; omega
 | wri p v r ih=>simp only [S.len,stmtK,List.length_append,List.length_cons]; omega
 | call p v r ih=>simp only [S.len,stmtK,List.length_append,List.length_cons]; omega
 | whil p v t r ih1 ih2=>simp only [S.len,stmtK,List.length_append,List.length_cons]; omega
 | ifs p v t e r ih1 ih2 ih3=>simp only [S.len,stmtK,List.length_append,List.length_cons]; omega
end Go.Mq.Tree
namespace Go.Proofs.YtojkkgghndeimaaGreatDoor
open Go Go.RowKit Go.Mq Go.Mq.Tree
set_option maxRecDepth 100000
set_option maxHeartbeats 4000000
theorem StSame.succ {w:World} {cs cs':List Value} {i:Nat} {c0 c1 c2 c3 c4 c5 c6 d0 d1 d2 d3 d4 d5 d6:Value} (h:StSame w cs cs' i):StSame w (c0 :: c1 :: c2 :: c3 :: c4 :: c5 :: c6 :: cs) (d0 :: d1 :: d2 :: d3 :: d4 :: d5 :: d6 :: cs') (i + 1):=by
 obtain ⟨k,p,nm,x,y,x',y',a1,a2,a1',a2',l1,k1,l2,k2,l1',k1',l2',k2',q,q',sx,sy,s1,s2⟩:=h
 refine ⟨k,p,nm,x,y,x',y',a1,a2,a1',a2',l1,k1,l2,k2,l1',k1',l2',k2',fun j v hv=>?_,fun j v hv=>?_,sx,sy,s1,s2⟩
 ·rw [show (i + 1) * 7 + j=(i * 7 + j) + 7 by omega]; exact q j v hv
 ·rw [show (i + 1) * 7 + j=(i * 7 + j) + 7 by omega]; exact q' j v hv
theorem StSame.zero {w:World} {cs cs':List Value} {k p:Int} {nm:List UInt8} {x y x' y' a1 a2 a1' a2':Option Addr} {l1 c1 l2 c2 l1' c1' l2' c2':Nat}
  (sx:SameX w (.pointer x) (.pointer x')) (sy:SameX w (.pointer y) (.pointer y')) (s1:SameS w (.slice a1 l1 c1) (.slice a1' l1' c1')) (s2:SameS w (.slice a2 l2 c2) (.slice a2' l2' c2')) :
  StSame w (.int .i64 k :: .int .i64 p :: str nm :: .pointer x :: .pointer y :: .slice a1 l1 c1 :: .slice a2 l2 c2 :: cs) (.int .i64 k :: .int .i64 p :: str nm :: .pointer x' :: .pointer y' :: .slice a1' l1' c1' :: .slice a2' l2' c2' :: cs') 0:=by
 refine ⟨k,p,nm,x,y,x',y',a1,a2,a1',a2',l1,c1,l2,c2,l1',c1',l2',c2',fun j v hv=>?_,fun j v hv=>?_,sx,sy,s1,s2⟩
 all_goals
  rw [Nat.zero_mul,Nat.zero_add]
  have hj:=(List.getElem?_eq_some_iff.1 hv).1
  simp only [List.length_cons,List.length_nil] at hj
  have : j=0∨j=1∨j=2∨j=3∨j=4∨j=5∨j=6:=by omega
  rcases this with rfl | rfl | rfl | rfl | rfl | rfl | rfl <;> exact hv
theorem sameNils (w:World):SameS w nils nils:=sameRows (n:=0) (F:=fun _=>True) (G:=fun _=>True) (cs:=[]) (cs':=[]) (by omega) (by omega) (by omega) (Row.nil _ _ _) (Row.nil _ _ _) (fun i h=>by omega)
theorem sameE1 {e:E} {w:World} {F G:Nat→Prop} {u u':Value} (hb : (toks e).length≤900000) (h:EAt w F e [u]) (h':EAt w G e [u']) : ∃ x x',u = .pointer x∧u' = .pointer x'∧SameX w (.pointer x) (.pointer x'):=by
 have hs:=sameE e hb h h'
 obtain ⟨x,rfl⟩:=h.ptr; obtain ⟨x',rfl⟩:=h'.ptr
 exact ⟨_,_,rfl,rfl,hs.2.2 0 _ _ rfl rfl⟩
theorem sameOpt {i:Option E} {w:World} {F G:Nat→Prop} {u u':Value} (hb : (indexK i).length≤900000) (h:OptAt w F i u) (h':OptAt w G i u') : ∃ x x',u = .pointer x∧u' = .pointer x'∧SameX w (.pointer x) (.pointer x'):=by
 cases i with
 | none=>exact ⟨none,none,h,h',sameNil w⟩
 | some e=>exact sameE1 (by simp only [indexK,List.length_append,List.length_cons] at hb; omega) h h'
theorem sameSt (s:S) : (stmtK s).length≤900000 → ∀ {w:World} {F G:Nat→Prop} {cs cs':List Value},SAt w F s cs→SAt w G s cs' → ∀ i,i < s.len→StSame w cs cs' i:=by
 induction s with
 | nil=>intro _ w F G cs cs' _ _ i h; cases h
 | set p n ix v r ih=>
  rintro hb w F G cs cs' ⟨ui,uv,t,rfl,h2,h3,h4⟩ ⟨ui',uv',t',rfl,g2,g3,g4⟩ i hi
  simp only [stmtK,List.length_append,List.length_cons] at hb
  obtain ⟨x,x',rfl,rfl,sx⟩:=sameOpt (by omega) h2 g2
  obtain ⟨y,y',rfl,rfl,sy⟩:=sameE1 (by omega) h3 g3
  cases i with
  | zero=>exact .zero sx sy (sameNils w) (sameNils w)
  | succ i=>exact .succ (ih (by omega) h4 g4 i (by simp [S.len] at hi; omega))
 | ret p v r ih=>
  rintro hb w F G cs cs' ⟨uv,t,rfl,h3,h4⟩ ⟨uv',t',rfl,g3,g4⟩ i hi
  simp only [stmtK,List.length_append,List.length_cons] at hb
  obtain ⟨y,y',rfl,rfl,sy⟩:=sameE1 (by omega) h3 g3
  cases i with
  | zero=>exact .zero (sameNil w) sy (sameNils w) (sameNils w)
  | succ i=>exact .succ (ih (by omega) h4 g4 i (by simp [S.len] at hi; omega))
 | wri p v r ih=>
  rintro hb w F G cs cs' ⟨uv,t,rfl,h3,h4⟩ ⟨uv',t',rfl,g3,g4⟩ i hi
  simp only [stmtK,List.length_append,List.length_cons] at hb
  obtain ⟨y,y',rfl,rfl,sy⟩:=sameE1 (by omega) h3 g3
  cases i with
  | zero=>exact .zero (sameNil w) sy (sameNils w) (sameNils w)
  | succ i=>exact .succ (ih (by omega) h4 g4 i (by simp [S.len] at hi; omega))
 | call p v r ih=>
  rintro hb w F G cs cs' ⟨uv,t,rfl,h3,h4⟩ ⟨uv',t',rfl,g3,g4⟩ i hi
  simp only [stmtK,List.length_append,List.length_cons] at hb
  obtain ⟨y,y',rfl,rfl,sy⟩:=sameE1 (by omega) h3 g3
  cases i with
  | zero=>exact .zero (sameNil w) sy (sameNils w) (sameNils w)
  | succ i=>exact .succ (ih (by omega) h4 g4 i (by simp [S.len] at hi; omega))
 | whil p v t r ih1 ih2=>
  rintro hb w F G cs cs' ⟨uv,a1,c1,ts,q,rfl,h3,hc,hr,ht,h4⟩ ⟨uv',a1',c1',ts',q',rfl,g3,gc,gr,gt,g4⟩ i hi
  simp only [stmtK,List.length_append,List.length_cons] at hb
  have hl:=slen_le t
  obtain ⟨y,y',rfl,rfl,sy⟩:=sameE1 (by omega) h3 g3
  cases i with
  | zero=>exact .zero (sameNil w) sy (sameRows (by omega) hc gc hr gr (ih1 (by omega) ht gt)) (sameNils w)
  | succ i=>exact .succ (ih2 (by omega) h4 g4 i (by simp [S.len] at hi; omega))
 | ifs p v t e r ih1 ih2 ih3=>
  rintro hb w F G cs cs' ⟨uv,a1,c1,ts,a2,c2,es,q,rfl,h3,hc,hr,ht,hc2,hr2,he,h4⟩ ⟨uv',a1',c1',ts',a2',c2',es',q',rfl,g3,gc,gr,gt,gc2,gr2,ge,g4⟩ i hi
  have hbe : (stmtK e).length≤(if e.isNil then [] else [101,108,115,101] :: stmtK e).length:=by
   cases e <;> simp [S.isNil,stmtK]
  simp only [stmtK,List.length_append,List.length_cons] at hb
  have hl:=slen_le t; have hl2:=slen_le e
  obtain ⟨y,y',rfl,rfl,sy⟩:=sameE1 (by omega) h3 g3
  cases i with
  | zero=>exact .zero (sameNil w) sy (sameRows (by omega) hc gc hr gr (ih1 (by omega) ht gt)) (sameRows (by omega) hc2 gc2 hr2 gr2 (ih2 (by omega) he ge))
  | succ i=>exact .succ (ih3 (by omega) h4 g4 i (by simp [S.len] at hi; omega))
theorem sameSl {s:S} {w:World} {F G:Nat→Prop} {v v':Value} (hb : (stmtK s).length≤900000) (h:SlAt w F s v) (h':SlAt w G s v'):SameS w v v':=by
 obtain ⟨a,c,cs,rfl,hc,hr,hs⟩:=h; obtain ⟨a',c',cs',rfl,hc',hr',hs'⟩:=h'
 have:=slen_le s
 exact sameRows (by omega) hc hc' hr hr' (sameSt s hb hs hs')
end Go.Proofs.YtojkkgghndeimaaGreatDoor
namespace Go.Mq.Tree
open Go Go.RowKit Go.Mq
theorem names_b (l:List (List UInt8)) : l.length≤(namesK l).length:=by
 cases l with
 | nil=>simp
 | cons x r=>have:=namesK_len (x :: r) (by simp); simp only [List.length_cons] at *; omega
theorem head_b (s:List UInt8) (l:List (List UInt8)) : l.length≤(headK s l).length:=by
 unfold headK
 have:=names_b l
 split
 ·next h=>subst h; simp
 ·simp only [List.length_cons,List.length_append]; omega
theorem flat_b {α:Type} {f : α→List (List UInt8)} (hf : ∀ x,1≤(f x).length) : ∀ l:List α,l.length≤(l.flatMap f).length
 | []=>by simp
 | x :: r=>by have:=flat_b hf r; have:=hf x; simp only [List.flatMap_cons,List.length_append,List.length_cons]; omega
theorem flat_in {α:Type} {f : α→List (List UInt8)} : ∀ (l:List α) (k:Nat) (hk : k < l.length),(f l[k]).length≤(l.flatMap f).length
 | x :: r,0,_=>by simp only [List.flatMap_cons,List.length_append,List.getElem_cons_zero]; omega
 | x :: r,k + 1,h=>by have:=flat_in r k (by simpa using h) (f:=f); simp only [List.flatMap_cons,List.length_append,List.getElem_cons_succ]; omega
structure SmM (m:Mod):Prop where
 imports : m.imports.length≤900000
 vars : m.vars.length≤900000
 procs : m.procs.length≤900000
 body : (stmtK m.body).length≤900000
 each : ∀ (k:Nat) (hk : k < m.procs.length),m.procs[k].params.length≤900000∧m.procs[k].vars.length≤900000∧(stmtK m.procs[k].body).length≤900000
theorem SmM.of {m:Mod} (h : (modK m).length≤900000):SmM m:=by
 simp only [modK,List.length_cons,List.length_append] at h
 have h1:=head_b [105,109,112,111,114,116] m.imports
 have h2:=flat_b (f:=globK) (fun x=>by simp [globK]) m.vars
 have h3:=flat_b (f:=procK) (fun x=>by simp [procK]) m.procs
 refine ⟨by omega,by omega,by omega,by omega,fun k hk=>?_⟩
 have h4:=flat_in (f:=procK) m.procs k hk
 have h5 : (procK m.procs[k]).length≤900000:=by omega
 simp only [procK,List.length_cons,List.length_append] at h5
 have h6:=names_b m.procs[k].params; have h7:=head_b [118,97,114] m.procs[k].vars
 exact ⟨by omega,by omega,by omega⟩
theorem SmM.none:SmM ⟨[],[],[],[],.nil⟩:=⟨by simp,by simp,by simp,by simp [stmtK],fun k hk=>by cases hk⟩
theorem PrsAt.get {w:World} {F:Nat→Prop} : ∀ {l:List Proc} {cs:List Value},PrsAt w F l cs → ∀ (k:Nat) (hk : k < l.length),∃ c,PrAt w F l[k] c ∧ ∀ (j:Nat) v,c[j]?=some v→cs[k * 6 + j]?=some v
 | x :: r,cs,⟨c1,c2,e,h1,h2⟩,0,_=>by
  refine ⟨c1,h1,fun j v hv=>?_⟩
  rw [e,Nat.zero_mul,Nat.zero_add,List.getElem?_append_left (List.getElem?_eq_some_iff.1 hv).1]; exact hv
 | x :: r,cs,⟨c1,c2,e,h1,h2⟩,k + 1,hk=>by
  obtain ⟨c,g1,g2⟩:=h2.get k (by simpa using hk)
  refine ⟨c,g1,fun j v hv=>?_⟩
  have hl : c1.length=6:=by obtain ⟨_,_,_,rfl,_⟩:=h1; rfl
  rw [e,List.getElem?_append_right (by omega),hl,show (k + 1) * 6 + j - 6=k * 6 + j by omega]
  exact g2 j v hv
end Go.Mq.Tree
namespace Go.Proofs.YtojkkgghndeimaaGreatDoor
open Go Go.RowKit Go.Mq Go.Mq.Tree
set_option maxRecDepth 100000
set_option maxHeartbeats 8000000
theorem sameModule_any {m:Mod} {w:World} {F G:Nat→Prop} {v v':Value} (hm:SmM m) (h:ModAt w F m v) (h':ModAt w G m v'):Calls Tryz.prog 12 #[v,v'] w (Yes w):=by
 obtain ⟨vi,vv,vp,vb,rfl,hi,hv,hp,hb⟩:=h
 obtain ⟨vi',vv',vp',vb',rfl,hi',hv',hp',hb'⟩:=h'
 obtain ⟨w2,hw2⟩ : ∃ x,x=(w.alloc (.cells #[str m.name,vi,vv,vp,vb] 31)).alloc (.cells #[str m.name,vi',vv',vp',vb'] 31):=⟨_,rfl⟩
 have hc2:Chg [] w w2:=hw2 ▸ ((Chg.refl _ _).alloc _).alloc _
 have hb1:Blk w2 w.heap.size #[str m.name,vi,vv,vp,vb] 31:=hw2 ▸ (Blk.new w _ _).kept ((Chg.refl [] _).alloc _) (by simp)
 have hb2:Blk w2 (w.heap.size + 1) #[str m.name,vi',vv',vp',vb'] 31:=by
  have:=Blk.new (w.alloc (.cells #[str m.name,vi,vv,vp,vb] 31)) #[str m.name,vi',vv',vp',vb'] 31
  rw [show (w.alloc (.cells #[str m.name,vi,vv,vp,vb] 31)).heap.size=w.heap.size + 1 by simp,← hw2] at this; exact this
 have HT:=Lib.hid (sameTexts_any (hi.kept hc2 (by simp)) (hi'.kept hc2 (by simp)) (by have:=hm.imports; omega))
 have HV:Hid (∀ wx,Chg [] w wx→Calls Tryz.prog 53 #[vv,vv'] wx (Yes wx)):=Lib.hid fun wx hc=>sameVars_any (hv.kept hc (by simp)) (hv'.kept hc (by simp)) (by have:=hm.vars; omega)
 have HS:=Lib.hid (sameSl hm.body hb hb')
 have HB1:=Lib.hid hb1; have HB2:=Lib.hid hb2; have HC2:=Lib.hid hc2; have HW2:=Lib.hid hw2
 have HM:=Lib.hid hm
 have hpn : m.procs.length≤900000:=hm.procs
 obtain ⟨a,c,cs,rfl,hac,hrow,hps⟩:=hp; obtain ⟨a',c',cs',rfl,hac',hrow',hps'⟩:=hp'
 have HR:=Lib.hid hrow; have HR':=Lib.hid hrow'; have HP:=Lib.hid hps; have HP':=Lib.hid hps'
 obtain ⟨p1,p2,rfl,_,_⟩:=hi; obtain ⟨p3,p4,rfl,_,_⟩:=hi'; obtain ⟨p5,p6,rfl,_,_⟩:=hv; obtain ⟨p7,p8,rfl,_,_⟩:=hv'
 obtain ⟨p9,q1,q2,rfl,_,_,_⟩:=hb; obtain ⟨q3,q4,q5,rfl,_,_,_⟩:=hb'
 obtain ⟨e0,e1,e2,e3,e4⟩:=hb1.five; obtain ⟨d0,d1,d2,d3,d4⟩:=hb2.five
 clear hb1 hb2 hc2 hm hrow hrow' hps hps' hw2
 go_enter Tryz.func12,Tryz.ntmps12
 go_wp2_with fail
 rw [← HW2.out]
 refine (HT.out).mono ?_; rintro _ x1 ⟨rfl,hc1⟩
 have HC1:=Lib.hid (HC2.out.then hc1)
 obtain ⟨_,_,e2',e3',e4'⟩:=(HB1.out.kept hc1 (by simp)).five; obtain ⟨_,_,d2',d3',d4'⟩:=(HB2.out.kept hc1 (by simp)).five
 have HD1:=Lib.hid hc1
 clear e0 e1 e2 e3 e4 d0 d1 d2 d3 d4 hc1
 go_wp2_with fail
 refine (HV.out x1 HC1.out).mono ?_; rintro _ x2 ⟨rfl,hc2⟩
 have HC2':=Lib.hid (HC1.out.then hc2)
 have HD2:=Lib.hid (HD1.out.then hc2)
 obtain ⟨_,_,_,e3,e4⟩:=(HB1.out.kept HD2.out (by simp)).five; obtain ⟨_,_,_,d3,d4⟩:=(HB2.out.kept HD2.out (by simp)).five
 clear e2' e3' e4' d2' d3' d4' hc2
 go_wp2_with fail
 refine (HS.out x2 HC2'.out).mono ?_; rintro _ x3 ⟨rfl,hc3⟩
 have HD3:=Lib.hid (HD2.out.then hc3)
 clear e3 e4 d3 d4 hc3
 go_wp2_with fail
 go_loopw [5] (fun i wr=>∃ k:Nat,k≤m.procs.length∧i = .int .i64 k∧Chg [] w2 wr) (fun i _=>m.procs.length - (intOf i).toNat)
 case atStart=>exact ⟨0,Nat.zero_le _,rfl,HD3.out⟩
 case round=>
  obtain ⟨k,hk,rfl,hcr⟩:=hrel
  obtain ⟨_,_,_,e3,_⟩:=(HB1.out.kept hcr (by simp)).five; obtain ⟨_,_,_,d3,_⟩:=(HB2.out.kept hcr (by simp)).five
  by_cases hlt : k < m.procs.length
  ·have hcw:=HC2.out.then hcr
   obtain ⟨c1,hp1,g⟩:=HP.out.get k hlt; obtain ⟨c2,hp2,g'⟩:=HP'.out.get k hlt
   obtain ⟨y1,y2,y3,rfl,t1,t2,t3⟩:=hp1; obtain ⟨z1,z2,z3,rfl,u1,u2,u3⟩:=hp2
   obtain ⟨hx1,hx2,hx3⟩:=HM.out.each k hlt
   obtain ⟨x,hx⟩ : ∃ x,x=m.procs[k]:=⟨_,rfl⟩
   rw [← hx] at t1 t2 t3 u1 u2 u3 g g' hx1 hx2 hx3
   have X1:=Lib.hid fun (wx:World) (hc:Chg [] w wx)=>sameTexts_any (t1.kept hc (by simp)) (u1.kept hc (by simp)) (by omega)
   have X2:=Lib.hid fun (wx:World) (hc:Chg [] w wx)=>sameTexts_any (t2.kept hc (by simp)) (u2.kept hc (by simp)) (by omega)
   have X3:=Lib.hid (sameSl hx3 t3 u3)
   obtain ⟨b,o,rfl,hcell⟩:=HR.out.at_ (by have:=(List.getElem?_eq_some_iff.1 (g 0 _ rfl)).1; omega)
   obtain ⟨b',o',rfl,hcell'⟩:=HR'.out.at_ (by have:=(List.getElem?_eq_some_iff.1 (g' 0 _ rfl)).1; omega)
   have h : ∀ (j:Nat) v,([str x.name,.int .i64 x.pos,.bool x.seen,y1,y2,y3] : List Value)[j]?=some v→wr.cell? ⟨b,o + k * 6 + j,none⟩=some v:=fun j v hv=>by
    rw [Nat.add_assoc]; exact hcw.cellSome (hcell _ v (g j v hv)) (by simp)
   have h' : ∀ (j:Nat) v,([str x.name,.int .i64 x.pos,.bool x.seen,z1,z2,z3] : List Value)[j]?=some v→wr.cell? ⟨b',o' + k * 6 + j,none⟩=some v:=fun j v hv=>by
    rw [Nat.add_assoc]; exact hcw.cellSome (hcell' _ v (g' j v hv)) (by simp)
   have r0:=h 0 _ rfl; have r1:=h 1 _ rfl; have r2:=h 2 _ rfl; have r3:=h 3 _ rfl; have r4:=h 4 _ rfl; have r5:=h 5 _ rfl
   have s0:=h' 0 _ rfl; have s1:=h' 1 _ rfl; have s2:=h' 2 _ rfl; have s3:=h' 3 _ rfl; have s4:=h' 4 _ rfl; have s5:=h' 5 _ rfl
   rw [Nat.add_zero] at r0 s0
   have HCW:=Lib.hid hcw; have HCR:=Lib.hid hcr
   have hbl : b < wr.heap.size:=lt_of_cell r0
   have hbl' : b' < wr.heap.size:=lt_of_cell s0
   have hml : w.heap.size < wr.heap.size:=lt_of_cell e3
   have hml' : w.heap.size + 1 < wr.heap.size:=lt_of_cell d3
   obtain ⟨j1,j2,rfl,_,_⟩:=t1; obtain ⟨j3,j4,rfl,_,_⟩:=u1; obtain ⟨j5,j6,rfl,_,_⟩:=t2; obtain ⟨j7,j8,rfl,_,_⟩:=u2
   obtain ⟨n1,n2,_,rfl,_,_,_⟩:=t3; obtain ⟨n3,n4,_,rfl,_,_,_⟩:=u3
   obtain ⟨wD,hwD⟩ : ∃ x,x=wr:=⟨_,rfl⟩
   subst hwD
   clear h h' hcell hcell' g g' hcw hcr hx hx1 hx2 hx3
   go_upto_region 6 with fail
   go_cut [6,7] (fun s6 s7 wx=>∃ bx bz:Nat,s6=ptr bx∧s7=ptr bz∧Blk wx bx #[str x.name,.int .i64 x.pos,.bool x.seen,.slice j1 x.params.length j2,.slice j5 x.vars.length j6,.slice n1 x.body.len n2] 87∧Blk wx bz #[str x.name,.int .i64 x.pos,.bool x.seen,.slice j3 x.params.length j4,.slice j7 x.vars.length j8,.slice n3 x.body.len n4] 87∧Chg [] wD wx)
   case first=>
    go_region
    all_goals (try go_wp2_with fail)
    all_goals
     go_meet
     first
      | exact ⟨_,_,rfl,rfl,(two_new wD _ _ _).1,(two_new wD _ _ _).2.1,(two_new wD _ _ _).2.2⟩
      | exact ⟨_,_,rfl,rfl,(two_new wD _ _ _).2.1,(two_new wD _ _ _).1,(two_new wD _ _ _).2.2⟩
   case rest=>
    obtain ⟨bx,bz,rfl,rfl,hbx,hbz,hcx⟩:=hcut
    clear r0 r1 r2 r3 r4 r5 s0 s1 s2 s3 s4 s5 e3 d3
    obtain ⟨r0,r1,r2,r3,r4,r5⟩:=hbx.six; obtain ⟨s0,s1,s2,s3,s4,s5⟩:=hbz.six
    have HX0:=Lib.hid (HCW.out.then hcx); have HY0:=Lib.hid (HCR.out.then hcx)
    clear hbx hbz hcx
    go_wp2_with fail
    refine (X1.out wc HX0.out).mono ?_; rintro _ x4 ⟨rfl,hc4⟩
    have HX4:=Lib.hid (HX0.out.then hc4); have HY4:=Lib.hid (HY0.out.then hc4)
    have r4':=hc4.cellSome r4 (by simp); have s4':=hc4.cellSome s4 (by simp); have r5':=hc4.cellSome r5 (by simp); have s5':=hc4.cellSome s5 (by simp)
    clear r0 r1 r2 r3 r4 r5 s0 s1 s2 s3 s4 s5 hc4
    go_wp2_with fail
    refine (X2.out x4 HX4.out).mono ?_; rintro _ x5 ⟨rfl,hc5⟩
    have HX5:=Lib.hid (HX4.out.then hc5); have HY5:=Lib.hid (HY4.out.then hc5)
    have r5:=hc5.cellSome r5' (by simp); have s5:=hc5.cellSome s5' (by simp)
    clear r4' s4' r5' s5' hc5
    go_wp2_with fail
    refine (X3.out x5 HX5.out).mono ?_; rintro _ x6 ⟨rfl,hc6⟩
    have HY6:=Lib.hid (HY5.out.then hc6)
    clear r5 s5 hc6
    go_wp2_with fail
    go_roundw
    case rel=>exact ⟨k + 1,by omega,by go_num,HY6.out⟩
    case measure=>simp [intOf]; omega
  ·have HC:=Lib.hid (HC2.out.then hcr); clear hcr
   go_wp2_with fail
   go_ret
   exact ⟨rfl,HC.out⟩
end Go.Proofs.YtojkkgghndeimaaGreatDoor
