/- Some texts in one. -/
import Derived.Test.YtilhhkokdfajiaaGreatDoorI10
namespace Go.Mq.Tree
open Go Go.RowKit Go.Mq
def WFS:Nat→S→Prop
 | _,.nil=>True
 | d,.set _ n i v r=>Nm n∧(∀ x,i=some x→Fits 10 0 x)∧Fits 11 0 v∧WFS d r
 | d,.ifs _ v t e r=>Fits 11 0 v∧((0 < d∧WFS (d - 1) t)∧0 < d∧WFS (d - 1) e)∧WFS d r
 | d,.whil _ v t r=>Fits 11 0 v∧(0 < d∧WFS (d - 1) t)∧WFS d r
 | d,.ret _ v r=>Fits 11 0 v∧WFS d r
 | d,.wri _ v r=>Fits 11 0 v∧WFS d r
 | d,.call _ v r=>(Fits 11 5 v ∧ ∃ p m n l,v = .app p m n l)∧WFS d r
abbrev BQ (d:Nat) (s:S):Prop:=0 < d∧WFS (d - 1) s
def indexK:Option E→List (List UInt8)
 | some x=>[91] :: (toks x ++ [[93]])
 | none=>[]
def stmtK:S→List (List UInt8)
 | .nil=>[]
 | .set _ n i v r=>n :: (indexK i ++ [58,61] :: (toks v ++ [59] :: stmtK r))
 | .ret _ v r=>[114,101,116,117,114,110] :: (toks v ++ [59] :: stmtK r)
 | .wri _ v r=>[119,114,105,116,101] :: (toks v ++ [59] :: stmtK r)
 | .call _ v r=>toks v ++ [59] :: stmtK r
 | .whil _ v t r=>[119,104,105,108,101] :: (toks v ++ [100,111] :: (stmtK t ++ [101,110,100] :: [59] :: stmtK r))
 | .ifs _ v t e r=>[105,102] :: (toks v ++ [116,104,101,110] :: (stmtK t ++ ((if e.isNil then [] else [101,108,115,101] :: stmtK e) ++ [101,110,100] :: [59] :: stmtK r)))
theorem WFS_app : ∀ (d:Nat) (l s:S),WFS d l→WFS d s→WFS d (l.app s)
 | _,.nil,_,_,h=>h
 | d,.set _ _ _ _ r,s,h,hs=>⟨h.1,h.2.1,h.2.2.1,WFS_app d r s h.2.2.2 hs⟩
 | d,.ifs _ _ _ _ r,s,h,hs=>⟨h.1,h.2.1,WFS_app d r s h.2.2 hs⟩
 | d,.whil _ _ _ r,s,h,hs=>⟨h.1,h.2.1,WFS_app d r s h.2.2 hs⟩
 | d,.ret _ _ r,s,h,hs=>⟨h.1,WFS_app d r s h.2 hs⟩
 | d,.wri _ _ r,s,h,hs=>⟨h.1,WFS_app d r s h.2 hs⟩
 | d,.call _ _ r,s,h,hs=>⟨h.1,WFS_app d r s h.2 hs⟩
theorem stmtK_app : ∀ (l s:S),stmtK (l.app s)=stmtK l ++ stmtK s
 | .nil,_=>rfl
 | .set _ _ _ _ r,s=>by simp [S.app,stmtK,stmtK_app r s]
 | .ifs _ _ _ _ r,s=>by simp [S.app,stmtK,stmtK_app r s]
 | .whil _ _ _ r,s=>by simp [S.app,stmtK,stmtK_app r s]
 | .ret _ _ r,s=>by simp [S.app,stmtK,stmtK_app r s]
 | .wri _ _ r,s=>by simp [S.app,stmtK,stmtK_app r s]
 | .call _ _ r,s=>by simp [S.app,stmtK,stmtK_app r s]
def Sp1 {α:Type} (p:Ps α) (Q : α→Prop) (c : α→Nat):Prop:=∀ ts a r,Good ts→p ts = .ok a r→Q a∧c a + bytes r≤bytes ts + 1∧Good r
def costR (x:E × S × S):Nat:=(toks x.1).length + 1 + (stmtK x.2.1).length + (if x.2.2.isNil then 0 else (stmtK x.2.2).length + 1)
theorem ex0_is {z:Nat} {ts r:List Tok} {x:E} (hg:Good ts) (h : ex0 z ts = .ok x r):Fits 11 0 x∧(toks x).length + bytes r≤bytes ts∧Good r:=by
 obtain ⟨h1,h2,h3⟩:=ex0_sp z _ _ _ hg h
 have:=(fits0 h1).2
 exact ⟨h1,by omega,h3⟩
theorem first_sp (z d p:Nat):Sp1 (first z p) (WFS d) (fun s=>(stmtK s).length):=by
 intro ts a r hg h
 rw [first] at h
 cases hn : named z (expr z (one z 10) 5) ts with
 | bad e q=>simp only [hn] at h; cases h
 | ok e r1=>
  obtain ⟨e1,e2,e3⟩:=named_sp (d:=10) (expr_sp (one_sp z 10) 5 (Nat.le_refl _)) _ _ _ hg hn
  have set : ∀ (n:List UInt8) (i:Option E),Nm n→(∀ x,i=some x→Fits 10 0 x)→1 + (indexK i).length + bytes r1≤bytes ts →
    (match must z [58,61] r1 with | .bad e q=>R.bad e q | .ok _ r2=>match ex0 z r2 with | .bad e q=>.bad e q | .ok v r3=>.ok (.set p n i v .nil) r3)=R.ok a r→WFS d a∧(stmtK a).length + bytes r≤bytes ts + 1∧Good r:=by
   intro n i hn hi hb h
   cases hm : must z [58,61] r1 with
   | bad e q=>simp only [hm] at h; cases h
   | ok u r2=>
    have m1:=must_sp e3 hm
    simp only [hm] at h
    cases hx : ex0 z r2 with
    | bad e q=>simp only [hx] at h; cases h
    | ok v r3=>
     obtain ⟨x1,x2,x3⟩:=ex0_is m1.2 hx
     simp only [hx] at h
     cases h
     refine ⟨⟨hn,hi,x1,trivial⟩,?_,x3⟩
     simp only [stmtK,List.length_cons,List.length_append,List.length_nil] at *
     omega
  cases e with
  | app a2 m n l=>
   simp only [hn] at h
   cases h
   refine ⟨⟨⟨e1,_,_,_,_,rfl⟩,trivial⟩,?_,e3⟩
   rw [costW,withinK,if_pos (show 5≤lvl (E.app a2 m n l) from Nat.le_refl 5)] at e2
   simp only [stmtK,List.length_append,List.length_cons,List.length_nil]
   omega
  | item a2 m n i=>
   simp only [hn] at h
   split at h
   ·cases h
   ·rename_i hm
    have hm : m=[]:=Classical.not_not.mp hm
    subst hm
    have hd:=e1.2
    rw [needW,if_pos (show 5≤lvl (E.item a2 [] n i) from Nat.le_refl 5),need] at hd
    rw [costW,withinK,if_pos (show 5≤lvl (E.item a2 [] n i) from Nat.le_refl 5)] at e2
    refine set n (some i) e1.1.1.2.1 ?_ ?_ h
    ·intro x hx; cases hx; exact ⟨e1.1.1.2.2,by rw [needW,if_pos (Nat.zero_le _)]; omega⟩
    ·simp only [toks,qualK,indexK,if_true,List.length_append,List.length_cons,List.length_nil] at *; omega
  | var a2 m n=>
   simp only [hn] at h
   split at h
   ·cases h
   ·rename_i hm
    have hm : m=[]:=Classical.not_not.mp hm
    subst hm
    rw [costW,withinK,if_pos (show 5≤lvl (E.var a2 [] n) from Nat.le_refl 5)] at e2
    refine set n none e1.1.1.2 (by intro x hx; cases hx) ?_ h
    simp only [toks,qualK,indexK,if_true,List.length_cons,List.length_nil] at *; omega
  | num _ _=>simp only [hn] at h; cases h
  | un _ _ _=>simp only [hn] at h; cases h
  | bin _ _ _ _=>simp only [hn] at h; cases h
  | nil=>simp only [hn] at h; cases h
  | cons _ _=>simp only [hn] at h; cases h
abbrev RQ (d:Nat) (x:E × S × S):Prop:=Fits 11 0 x.1∧BQ d x.2.1∧BQ d x.2.2
theorem restL_sp {z d:Nat} {bd:Ps S} {more:Ps (E × S × S)} (hb:Sp bd (BQ d) (fun s=>(stmtK s).length)) (hm:Sp more (fun x=>0 < d∧RQ (d - 1) x) costR):Sp (restL z bd more) (RQ d) costR:=by
 intro ts a r hg h
 rw [restL] at h
 cases h1 : ex0 z ts with
 | bad e q=>simp only [h1] at h; cases h
 | ok v r1=>
  obtain ⟨a1,a2,a3⟩:=ex0_is hg h1
  simp only [h1] at h
  cases h2 : must z [116,104,101,110] r1 with
  | bad e q=>simp only [h2] at h; cases h
  | ok u r2=>
   have m1:=must_sp a3 h2
   simp only [h2] at h
   cases h3 : bd r2 with
   | bad e q=>simp only [h3] at h; cases h
   | ok t r3=>
    obtain ⟨b1,b2,b3⟩:=hb _ _ _ m1.2 h3
    replace b2 : (stmtK t).length + bytes r3≤bytes r2:=b2
    simp only [h3] at h
    split at h
    ·rename_i hs
     have hc:=see_cost b3 hs
     cases h4 : more r3.tail with
     | bad e q=>simp only [h4] at h; cases h
     | ok x r4=>
      obtain ⟨c1,c2,c3⟩:=hm _ _ _ hc.2 h4
      simp only [h4] at h
      cases h
      refine ⟨⟨a1,b1,c1.1,c1.2.1,⟨c1.2.2.1,c1.2.2.2⟩,trivial⟩,?_,c3⟩
      rw [costR] at c2 ⊢
      have e1 : ((if x.2.2.isNil then [] else [101,108,115,101] :: stmtK x.2.2):List (List UInt8)).length=(if x.2.2.isNil then 0 else (stmtK x.2.2).length + 1):=by split <;> rfl
      simp only [stmtK,S.isNil,List.length_cons,List.length_append,List.length_nil,e1] at *
      simp only [Bool.false_eq_true,if_false]
      omega
    ·split at h
     ·rename_i hs
      have hc:=see_cost b3 hs
      cases h4 : bd r3.tail with
      | bad e q=>simp only [h4] at h; cases h
      | ok e2 r4=>
       obtain ⟨c1,c2,c3⟩:=hb _ _ _ hc.2 h4
       replace c2 : (stmtK e2).length + bytes r≤bytes r3.tail:=by simp only [h4] at h; cases h; exact c2
       simp only [h4] at h
       cases h
       refine ⟨⟨a1,b1,c1⟩,?_,c3⟩
       rw [costR]
       simp only [List.length_cons,List.length_nil] at *
       split <;> omega
     ·cases h
      refine ⟨⟨a1,b1,b1.1,trivial⟩,?_,b3⟩
      rw [costR]
      simp only [S.isNil,if_true,List.length_cons,List.length_nil] at *
      omega
theorem stmt_sp {z d:Nat} {bd:Ps S} {rest:Ps (E × S × S)} (hb:Sp bd (BQ d) (fun s=>(stmtK s).length)) (hr:Sp rest (RQ d) costR):Sp1 (stmt z bd rest) (WFS d) (fun s=>(stmtK s).length):=by
 intro ts a r hg h
 rw [stmt] at h
 split at h
 ·rename_i hs
  have hc:=see_cost hg hs
  cases h1 : rest ts.tail with
  | bad e q=>simp only [h1] at h; cases h
  | ok x r1=>
   obtain ⟨a1,a2,a3⟩:=hr _ _ _ hc.2 h1
   simp only [h1] at h
   cases h2 : must z [101,110,100] r1 with
   | bad e q=>simp only [h2] at h; cases h
   | ok u r2=>
    have m1:=must_sp a3 h2
    simp only [h2] at h
    cases h
    refine ⟨⟨a1.1,⟨a1.2.1,a1.2.2⟩,trivial⟩,?_,m1.2⟩
    rw [costR] at a2
    have e1 : ((if x.2.2.isNil then [] else [101,108,115,101] :: stmtK x.2.2):List (List UInt8)).length=(if x.2.2.isNil then 0 else (stmtK x.2.2).length + 1):=by split <;> rfl
    simp only [stmtK,List.length_cons,List.length_append,List.length_nil,e1] at *
    omega
 ·split at h
  ·rename_i hs
   have hc:=see_cost hg hs
   cases h1 : ex0 z ts.tail with
   | bad e q=>simp only [h1] at h; cases h
   | ok v r1=>
    obtain ⟨a1,a2,a3⟩:=ex0_is hc.2 h1
    simp only [h1] at h
    cases h2 : must z [100,111] r1 with
    | bad e q=>simp only [h2] at h; cases h
    | ok u r2=>
     have m1:=must_sp a3 h2
     simp only [h2] at h
     cases h3 : bd r2 with
     | bad e q=>simp only [h3] at h; cases h
     | ok t r3=>
      obtain ⟨b1,b2,b3⟩:=hb _ _ _ m1.2 h3
      simp only [h3] at h
      cases h4 : must z [101,110,100] r3 with
      | bad e q=>simp only [h4] at h; cases h
      | ok u r4=>
       have m2:=must_sp b3 h4
       simp only [h4] at h
       cases h
       refine ⟨⟨a1,b1,trivial⟩,?_,m2.2⟩
       simp only [stmtK,List.length_cons,List.length_append,List.length_nil] at *
       omega
  ·split at h
   ·rename_i hs
    have hc:=see_cost hg hs
    cases h1 : ex0 z ts.tail with
    | bad e q=>simp only [h1] at h; cases h
    | ok v r1=>
     obtain ⟨a1,a2,a3⟩:=ex0_is hc.2 h1
     simp only [h1] at h
     cases h
     refine ⟨⟨a1,trivial⟩,?_,a3⟩
     simp only [stmtK,List.length_cons,List.length_append,List.length_nil] at *
     omega
   ·split at h
    ·rename_i hs
     have hc:=see_cost hg hs
     cases h1 : ex0 z ts.tail with
     | bad e q=>simp only [h1] at h; cases h
     | ok v r1=>
      obtain ⟨a1,a2,a3⟩:=ex0_is hc.2 h1
      simp only [h1] at h
      cases h
      refine ⟨⟨a1,trivial⟩,?_,a3⟩
      simp only [stmtK,List.length_cons,List.length_append,List.length_nil] at *
      omega
    ·exact first_sp z d _ _ _ _ hg h
theorem bodyL_sp {z d:Nat} {st:Ps S} (hs:Sp1 st (WFS d) (fun s=>(stmtK s).length)) : ∀ (f:Nat) (l:S) (ts:List Tok) (a:S) (r:List Tok),Good ts→WFS d l→bodyL z st f l ts = .ok a r→WFS d a∧(stmtK a).length + bytes r≤(stmtK l).length + bytes ts∧Good r
 | 0,_,_,_,_,_,_,h=>by cases h
 | f + 1,l,ts,a,r,hg,hl,h=>by
  rw [bodyL] at h
  split at h
  ·cases h; exact ⟨hl,Nat.le_refl _,hg⟩
  ·cases h1 : st ts with
   | bad e q=>simp only [h1] at h; cases h
   | ok s r1=>
    obtain ⟨a1,a2,a3⟩:=hs _ _ _ hg h1
    replace a2 : (stmtK s).length + bytes r1≤bytes ts + 1:=a2
    simp only [h1] at h
    cases h2 : must z [59] r1 with
    | bad e q=>simp only [h2] at h; cases h
    | ok u r2=>
     have m1:=must_sp a3 h2
     simp only [h2] at h
     obtain ⟨b1,b2,b3⟩:=bodyL_sp hs f _ _ _ _ m1.2 (WFS_app d l s hl a1) h
     rw [stmtK_app,List.length_append] at b2
     simp only [List.length_cons,List.length_nil] at m1
     exact ⟨b1,by omega,b3⟩
theorem bodies_sp (z:Nat) : ∀ d,Sp (bodies z d).1 (BQ d) (fun s=>(stmtK s).length)∧Sp (bodies z d).2 (fun x=>0 < d∧RQ (d - 1) x) costR
 | 0=>⟨fun ts a r _ h=>(by cases h),fun ts a r _ h=>(by cases h)⟩
 | d + 1=>by
  obtain ⟨h1,h2⟩:=bodies_sp z d
  have hr:=restL_sp (z:=z) h1 h2
  refine ⟨fun ts a r hg h=>?_,fun ts a r hg h=>?_⟩
  ·obtain ⟨a1,a2,a3⟩:=bodyL_sp (stmt_sp (z:=z) h1 hr) _ .nil _ _ _ hg trivial h
   exact ⟨⟨Nat.succ_pos _,a1⟩,by simpa [stmtK] using a2,a3⟩
  ·obtain ⟨a1,a2,a3⟩:=hr _ _ _ hg h
   exact ⟨⟨Nat.succ_pos _,a1⟩,a2,a3⟩
theorem body0_sp (z:Nat):Sp (body0 z) (WFS 10) (fun s=>(stmtK s).length):=fun ts a r hg h=>by
 obtain ⟨a1,a2,a3⟩:=(bodies_sp z 11).1 ts a r hg h
 exact ⟨a1.2,a2,a3⟩
structure WFG (g:Glob):Prop where
 name:Nm g.name
 low : 0≤g.len
 high : g.len≤30
structure WFP (x:Proc):Prop where
 name:Nm x.name
 params : ∀ n∈x.params,Nm n
 few : x.params.length≤10
 vars : ∀ n∈x.vars,Nm n
 room : x.vars.length≤10 - x.params.length
 body:WFS 10 x.body
structure WFM (m:Mod):Prop where
 name:Nm m.name
 imports : ∀ n∈m.imports,Nm n
 few : m.imports.length≤6
 vars : ∀ g∈m.vars,WFG g
 fewv : m.vars.length≤10
 procs : ∀ x∈m.procs,WFP x
 fewp : m.procs.length≤10
 body:WFS 10 m.body
def namesK:List (List UInt8)→List (List UInt8)
 | []=>[]
 | [n]=>[n]
 | n :: m :: r=>n :: [44] :: namesK (m :: r)
def starK (b:Bool):List (List UInt8):=if b then [[42]] else []
def globK (g:Glob):List (List UInt8):=[118,97,114] :: g.name :: (starK g.seen ++ [58] :: ((if 0 < g.len then [[97,114,114,97,121],Lib.itoa g.len] else [[105,110,116]]) ++ [[59]]))
def headK (s:List UInt8) (l:List (List UInt8)):List (List UInt8):=if l=[] then [] else s :: (namesK l ++ [[59]])
def procK (x:Proc):List (List UInt8):=[112,114,111,99] :: x.name :: (starK x.seen ++ [40] :: (namesK x.params ++ [41] :: [59] :: (headK [118,97,114] x.vars ++ [98,101,103,105,110] :: (stmtK x.body ++ [[101,110,100],[59]]))))
def modK (m:Mod):List (List UInt8):=[109,111,100,117,108,101] :: m.name :: [59] :: (headK [105,109,112,111,114,116] m.imports ++ (m.vars.flatMap globK ++ (m.procs.flatMap procK ++ [98,101,103,105,110] :: (stmtK m.body ++ [[101,110,100],[46]]))))
theorem namesK_len : ∀ (l:List (List UInt8)),l≠[]→(namesK l).length + 1=2 * l.length
 | [n],_=>rfl
 | n :: m :: r,_=>by have:=namesK_len (m :: r) (by simp); simp only [namesK,List.length_cons] at *; omega
theorem skip_cost {s:List UInt8} {ts:List Tok} (hg:Good ts) (hs : s≠[]) : (starK (see s ts)).length + bytes (skip s ts)≤bytes ts∧Good (skip s ts):=by
 rw [skip]
 cases h : see s ts with
 | false=>simp [starK,hg]
 | true=>
  have:=see_cost hg h
  have : 1≤s.length:=by cases s with | nil=>exact absurd rfl hs | cons _ _=>simp
  simp [starK]
  exact ⟨by omega,(see_cost hg h).2⟩
theorem kindOf_sp (z:Nat):Sp (kindOf z) (fun n=>0≤n∧n≤30) (fun n=>if 0 < n then 2 else 1):=by
 intro ts n r hg h
 rw [kindOf] at h
 split at h
 ·rename_i hs
  have hc:=see_cost hg hs
  cases hn : number z 30 ts.tail with
  | bad e q=>simp only [hn] at h; cases h
  | ok n' r1=>
   obtain ⟨a1,a2,a3⟩:=number_sp _ _ _ hc.2 hn
   replace a2 : 1 + bytes r1≤bytes ts.tail:=a2
   simp only [hn] at h
   split at h
   ·cases h
   ·cases h
    refine ⟨a1,?_,a3⟩
    simp only [List.length_cons,List.length_nil] at hc
    show (if 0 < n then 2 else 1) + _≤_
    split <;> omega
 ·cases hm : must z [105,110,116] ts with
  | bad e q=>simp only [hm] at h; cases h
  | ok u r1=>
   have m1:=must_sp hg hm
   simp only [hm] at h
   cases h
   simp only [List.length_cons,List.length_nil] at m1
   exact ⟨⟨by omega,by omega⟩,by show 1 + _≤_; omega,m1.2⟩
theorem glob_sp (z:Nat) : ∀ ts g r,Good ts→glob z ts = .ok g r→WFG g∧(globK g).length + bytes r≤bytes ts + 1∧Good r:=by
 intro ts g r hg h
 rw [glob] at h
 cases h1 : name z ts with
 | bad e q=>simp only [h1] at h; cases h
 | ok n r1=>
  obtain ⟨a1,a2,a3⟩:=name_sp _ _ _ hg h1
  replace a2 : 1 + bytes r1≤bytes ts:=a2
  simp only [h1] at h
  have hk:=skip_cost (s:=[42]) a3 (by simp)
  cases h2 : must z [58] (skip [42] r1) with
  | bad e q=>simp only [h2] at h; cases h
  | ok u r2=>
   have m1:=must_sp hk.2 h2
   simp only [h2] at h
   cases h3 : kindOf z r2 with
   | bad e q=>simp only [h3] at h; cases h
   | ok k r3=>
    obtain ⟨b1,b2,b3⟩:=kindOf_sp z _ _ _ m1.2 h3
    replace b2 : (if 0 < k then 2 else 1) + bytes r3≤bytes r2:=b2
    simp only [h3] at h
    cases h4 : must z [59] r3 with
    | bad e q=>simp only [h4] at h; cases h
    | ok u r4=>
     have m2:=must_sp b3 h4
     simp only [h4] at h
     cases h
     refine ⟨⟨a1,b1.1,b1.2⟩,?_,m2.2⟩
     have e1 : ((if 0 < k then [[97,114,114,97,121],Lib.itoa k] else [[105,110,116]]):List (List UInt8)).length=if 0 < k then 2 else 1:=by split <;> rfl
     simp only [globK,List.length_cons,List.length_append,List.length_nil,e1] at *
     omega
theorem varsL_sp (z:Nat) : ∀ (f:Nat) (l:List Glob) (ts:List Tok) (a:List Glob) (r:List Tok),Good ts→(∀ g∈l,WFG g)→l.length≤10→varsL z f l ts = .ok a r→(∀ g∈a,WFG g)∧a.length≤10∧(a.flatMap globK).length + bytes r≤(l.flatMap globK).length + bytes ts∧Good r
 | 0,_,_,_,_,_,_,_,h=>by cases h
 | f + 1,l,ts,a,r,hg,hl,hn,h=>by
  rw [varsL] at h
  split at h
  ·rename_i hs
   have hc:=see_cost hg hs
   split at h
   ·cases h
   ·cases h1 : glob z ts.tail with
    | bad e q=>simp only [h1] at h; cases h
    | ok g r1=>
     obtain ⟨a1,a2,a3⟩:=glob_sp z _ _ _ hc.2 h1
     simp only [h1] at h
     obtain ⟨b1,b2,b3,b4⟩:=varsL_sp z f _ _ _ _ a3 (by
      intro x hx
      rcases List.mem_append.mp hx with hx | hx
      ·exact hl x hx
      ·simp at hx; subst hx; exact a1) (by simp; omega) h
     refine ⟨b1,b2,?_,b4⟩
     simp only [List.flatMap_append,List.flatMap_cons,List.flatMap_nil,List.append_nil,List.length_append,List.length_cons,List.length_nil] at *
     omega
  ·cases h; exact ⟨hl,hn,Nat.le_refl _,hg⟩
theorem params_sp (z:Nat) : ∀ ts l r,Good ts→params z ts = .ok l r→(∀ n∈l,Nm n)∧l.length≤10∧(namesK l).length + 1 + bytes r≤bytes ts∧Good r:=by
 intro ts l r hg h
 rw [params] at h
 split at h
 ·rename_i hs
  have hc:=see_cost hg hs
  cases h
  simp only [List.length_cons,List.length_nil] at hc
  exact ⟨by simp,by simp,by simp [namesK]; omega,hc.2⟩
 ·cases h1 : names z 10 ts with
  | bad e q=>simp only [h1] at h; cases h
  | ok l' r1=>
   obtain ⟨a1,a2,a3,a4,a5⟩:=names_sp hg h1
   simp only [h1] at h
   cases h2 : must z [41] r1 with
   | bad e q=>simp only [h2] at h; cases h
   | ok u r2=>
    have m1:=must_sp a5 h2
    simp only [h2] at h
    cases h
    have:=namesK_len l a3
    simp only [List.length_cons,List.length_nil] at m1
    exact ⟨a1,a2,by omega,m1.2⟩
theorem head_sp {z most:Nat} {s:List UInt8} {ts:List Tok} {l:List (List UInt8)} {r:List Tok} (hs : s≠[]) (hg:Good ts) (h : (if see s ts then match names z most ts.tail with
  | .bad e p=>.bad e p
  | .ok l r=>match must z [59] r with
   | .bad e p=>.bad e p
   | .ok _ r2=>.ok l r2
 else R.ok [] ts) = .ok l r) : (∀ n∈l,Nm n)∧l.length≤most∧(headK s l).length + bytes r≤bytes ts∧Good r:=by
 split at h
 ·rename_i h0
  have hc:=see_cost hg h0
  have hl : 1≤s.length:=by cases s with | nil=>exact absurd rfl hs | cons _ _=>simp
  cases h1 : names z most ts.tail with
  | bad e q=>simp only [h1] at h; cases h
  | ok l' r1=>
   obtain ⟨a1,a2,a3,a4,a5⟩:=names_sp hc.2 h1
   simp only [h1] at h
   cases h2 : must z [59] r1 with
   | bad e q=>simp only [h2] at h; cases h
   | ok u r2=>
    have m1:=must_sp a5 h2
    simp only [h2] at h
    cases h
    have:=namesK_len l a3
    refine ⟨a1,a2,?_,m1.2⟩
    rw [headK,if_neg a3]
    simp only [List.length_cons,List.length_append,List.length_nil] at *
    omega
 ·cases h; exact ⟨by simp,by simp,by simp [headK],hg⟩
theorem block_sp (z:Nat) {m:List UInt8} (hm : m.length=1) : ∀ ts b r,Good ts→block z m ts = .ok b r→WFS 10 b∧(stmtK b).length + 3 + bytes r≤bytes ts∧Good r:=by
 intro ts b r hg h
 rw [block] at h
 cases h1 : must z [98,101,103,105,110] ts with
 | bad e q=>simp only [h1] at h; cases h
 | ok u r1=>
  have m1:=must_sp hg h1
  simp only [h1] at h
  cases h2 : body0 z r1 with
  | bad e q=>simp only [h2] at h; cases h
  | ok s r2=>
   obtain ⟨a1,a2,a3⟩:=body0_sp z _ _ _ m1.2 h2
   replace a2 : (stmtK s).length + bytes r2≤bytes r1:=a2
   simp only [h2] at h
   cases h3 : must z [101,110,100] r2 with
   | bad e q=>simp only [h3] at h; cases h
   | ok u r3=>
    have m2:=must_sp a3 h3
    simp only [h3] at h
    cases h4 : must z m r3 with
    | bad e q=>simp only [h4] at h; cases h
    | ok u r4=>
     have m3:=must_sp m2.2 h4
     simp only [h4] at h
     cases h
     simp only [List.length_cons,List.length_nil] at m1 m2 m3
     exact ⟨a1,by omega,m3.2⟩
theorem proc_sp (z:Nat) : ∀ ts x r,Good ts→proc z ts = .ok x r→WFP x∧(procK x).length + bytes r≤bytes ts∧Good r:=by
 intro ts x r hg h
 rw [proc] at h
 cases h1 : must z [112,114,111,99] ts with
 | bad e q=>simp only [h1] at h; cases h
 | ok u r1=>
  have m1:=must_sp hg h1
  simp only [h1] at h
  cases h2 : name z r1 with
  | bad e q=>simp only [h2] at h; cases h
  | ok n r2=>
   obtain ⟨a1,a2,a3⟩:=name_sp _ _ _ m1.2 h2
   replace a2 : 1 + bytes r2≤bytes r1:=a2
   simp only [h2] at h
   have hk:=skip_cost (s:=[42]) a3 (by simp)
   cases h3 : must z [40] (skip [42] r2) with
   | bad e q=>simp only [h3] at h; cases h
   | ok u r3=>
    have m2:=must_sp hk.2 h3
    simp only [h3] at h
    cases h4 : params z r3 with
    | bad e q=>simp only [h4] at h; cases h
    | ok ps r4=>
     obtain ⟨b1,b2,b3,b4⟩:=params_sp z _ _ _ m2.2 h4
     simp only [h4] at h
     cases h5 : must z [59] r4 with
     | bad e q=>simp only [h5] at h; cases h
     | ok u r5=>
      have m3:=must_sp b4 h5
      simp only [h5] at h
      cases h6 : locals z (10 - ps.length) r5 with
      | bad e q=>simp only [h6] at h; cases h
      | ok vs r6=>
       obtain ⟨c1,c2,c3,c4⟩:=head_sp (s:=[118,97,114]) (by simp) m3.2 h6
       simp only [h6] at h
       cases h7 : block z [59] r6 with
       | bad e q=>simp only [h7] at h; cases h
       | ok b r7=>
        obtain ⟨d1,d2,d3⟩:=block_sp z rfl _ _ _ c4 h7
        simp only [h7] at h
        cases h
        refine ⟨⟨a1,b1,b2,c1,c2,d1⟩,?_,d3⟩
        simp only [procK,List.length_cons,List.length_append,List.length_nil] at *
        omega
theorem procsL_sp (z:Nat) : ∀ (f:Nat) (l:List Proc) (ts:List Tok) (a:List Proc) (r:List Tok),Good ts→(∀ g∈l,WFP g)→l.length≤10→procsL z f l ts = .ok a r→(∀ g∈a,WFP g)∧a.length≤10∧(a.flatMap procK).length + bytes r≤(l.flatMap procK).length + bytes ts∧Good r
 | 0,_,_,_,_,_,_,_,h=>by cases h
 | f + 1,l,ts,a,r,hg,hl,hn,h=>by
  rw [procsL] at h
  split at h
  ·split at h
   ·cases h
   ·cases h1 : proc z ts with
    | bad e q=>simp only [h1] at h; cases h
    | ok g r1=>
     obtain ⟨a1,a2,a3⟩:=proc_sp z _ _ _ hg h1
     simp only [h1] at h
     obtain ⟨b1,b2,b3,b4⟩:=procsL_sp z f _ _ _ _ a3 (by
      intro x hx
      rcases List.mem_append.mp hx with hx | hx
      ·exact hl x hx
      ·simp at hx; subst hx; exact a1) (by simp; omega) h
     refine ⟨b1,b2,?_,b4⟩
     simp only [List.flatMap_append,List.flatMap_cons,List.flatMap_nil,List.append_nil,List.length_append] at *
     omega
  ·cases h; exact ⟨hl,hn,Nat.le_refl _,hg⟩
theorem module_sp (z:Nat) : ∀ ts m r,Good ts→module_ z ts = .ok m r→WFM m∧(modK m).length + bytes r≤bytes ts∧Good r:=by
 intro ts m r hg h
 rw [module_] at h
 cases h1 : must z [109,111,100,117,108,101] ts with
 | bad e q=>simp only [h1] at h; cases h
 | ok u r1=>
  have m1:=must_sp hg h1
  simp only [h1] at h
  cases h2 : name z r1 with
  | bad e q=>simp only [h2] at h; cases h
  | ok n r2=>
   obtain ⟨a1,a2,a3⟩:=name_sp _ _ _ m1.2 h2
   replace a2 : 1 + bytes r2≤bytes r1:=a2
   simp only [h2] at h
   cases h3 : must z [59] r2 with
   | bad e q=>simp only [h3] at h; cases h
   | ok u r3=>
    have m2:=must_sp a3 h3
    simp only [h3] at h
    cases h4 : imports z r3 with
    | bad e q=>simp only [h4] at h; cases h
    | ok is r4=>
     obtain ⟨b1,b2,b3,b4⟩:=head_sp (s:=[105,109,112,111,114,116]) (by simp) m2.2 h4
     simp only [h4] at h
     cases h5 : varsL z 11 [] r4 with
     | bad e q=>simp only [h5] at h; cases h
     | ok vs r5=>
      obtain ⟨c1,c2,c3,c4⟩:=varsL_sp z _ _ _ _ _ b4 (by simp) (by simp) h5
      simp only [h5] at h
      cases h6 : procsL z 11 [] r5 with
      | bad e q=>simp only [h6] at h; cases h
      | ok ps r6=>
       obtain ⟨d1,d2,d3,d4⟩:=procsL_sp z _ _ _ _ _ c4 (by simp) (by simp) h6
       simp only [h6] at h
       cases h7 : block z [46] r6 with
       | bad e q=>simp only [h7] at h; cases h
       | ok b r7=>
        obtain ⟨e1,e2,e3⟩:=block_sp z rfl _ _ _ d4 h7
        simp only [h7] at h
        cases h
        refine ⟨⟨a1,b1,b2,c1,c2,d1,d2,e1⟩,?_,e3⟩
        simp only [modK,List.length_cons,List.length_append,List.length_nil,List.flatMap_nil] at *
        omega
theorem parse_sp {l:List UInt8} {m:Mod} (h : parse l = .ok m):WFM m∧(modK m).length≤l.length:=by
 rw [parse] at h
 cases hl : lex l with
 | bad e p=>simp only [hl] at h; cases h
 | ok ts=>
  have h1:=lexL_good _ _ _ _ _ hl
  simp only [hl] at h
  cases hm : module_ l.length ts with
  | bad e p=>simp only [hm] at h; cases h
  | ok m' r=>
   obtain ⟨a1,a2,_⟩:=module_sp _ _ _ _ h1.1 hm
   simp only [hm] at h
   cases r with
   | nil=>cases h; exact ⟨a1,by omega⟩
   | cons t r=>cases h
end Go.Mq.Tree
