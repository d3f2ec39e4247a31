/- Some texts in one. -/
import Derived.Test.YtilhhkokdfajiaaGreatDoorI16
import Derived.Test.YtilhhkokdfajiaaGreatDoorI18
import Derived.Test.YtilhhkokdfajiaaGreatDoorI19
import Derived.Test.YtilhhkokdfajiaaGreatDoorI20
namespace Go.Mq.Check
open Go Go.RowKit Go.Mq Go.Mq.Tree Go.Mq.Sym
theorem getM_plan : ∀ (es:List (List UInt8 × Value)) (n:List UInt8),Check.getM es n=Plan.getM es n
 | [],_=>rfl
 | (k,u) :: r,n=>by rw [Check.getM,Plan.getM,getM_plan r n]
def LessIn (w:World) (b:Nat) (es:List (List UInt8 × Value)) (seen:List UInt8→Option (List Sy)):Prop:=Plan.MapIs w b es ∧ ∀ n,match seen n with
  | none=>Plan.getM es n=none
  | some l=>l.length≤1000 ∧ ∃ u,Plan.getM es n=some u∧SymsAt w (fun x=>b < x∧x < w.heap.size) l u
section
variable {w w':World} {b:Nat} {es:List (List UInt8 × Value)} {seen:List UInt8→Option (List Sy)}
theorem LessIn.kept {S:List Nat} (h:LessIn w b es seen) (hc:Chg S w w') (hS : ∀ x∈S,w.heap.size≤x):LessIn w' b es seen:=by
 obtain ⟨h1,h2⟩:=h
 have hl:=h1.lt
 refine ⟨h1.kept hc (fun hx=>by have:=hS _ hx; omega),fun n=>?_⟩
 have:=h2 n
 cases hs : seen n with
 | none=>rw [hs] at this; exact this
 | some l=>
  rw [hs] at this
  obtain ⟨h5,u,h6,h7⟩:=this
  exact ⟨h5,u,h6,(h7.kept hc (fun x hx hn=>by have:=hS x hx; omega)).mono fun x hx=>⟨hx.1,by have:=hc.size; omega⟩⟩
theorem LessIn.made (w:World):LessIn (w.alloc (.map #[] 0)) w.heap.size [] (fun _=>none):=⟨Plan.MapIs.made w,fun _=>rfl⟩
theorem LessIn.seenIn (h:LessIn w b es seen):SeenIn w b (fun x=>b < x∧x < w.heap.size) seen:=by
 obtain ⟨⟨arr,clock,ha,he,_⟩,h2⟩:=h
 refine ⟨es,⟨arr,clock,ha,he⟩,fun n=>?_⟩
 have:=h2 n
 cases hs : seen n with
 | none=>rw [hs] at this; rw [getM_plan]; exact this
 | some l=>rw [hs] at this; rw [getM_plan]; exact this
theorem LessIn.congr {seen':List UInt8→Option (List Sy)} (h:LessIn w b es seen) (he : ∀ n,seen' n=seen n):LessIn w b es seen':=⟨h.1,fun n=>by rw [he n]; exact h.2 n⟩
end
end Go.Mq.Check
namespace Go.Proofs.YtilhhkokdfajiaaGreatDoor
open Go Go.RowKit Go.Mq Go.Mq.Tree Go.Mq.Sym Go.Mq.Check
set_option maxRecDepth 100000
set_option maxHeartbeats 4000000
theorem less_put {w:World} {b:Nat} {es:List (List UInt8 × Value)} {seen:List UInt8→Option (List Sy)} (h:LessIn w b es seen) (n:List UInt8) (l:List Sy) (u:Value) (hl : l.length≤1000) (hu:SymsAt w (fun x=>b < x∧x < w.heap.size) l u) :
  ∃ w',(Instr.mapUpdate 34 (.map (some b)) (str n) u).run Tryz.prog w = .ok () w'∧LessIn w' b (Plan.putM es n u) (fun x=>if x=n then some l else seen x)∧Chg [b] w w':=by
 obtain ⟨h1,h2⟩:=h
 obtain ⟨w',hr,hm,hc⟩:=Plan.run_putM (P:=Tryz.prog) Tryz.underlying34 Tryz.underlying9 h1 n u
 have hz:=hc.size
 refine ⟨w',hr,⟨hm,fun x=>?_⟩,hc⟩
 rw [Plan.getM_put]
 by_cases hx : x=n
 ·subst hx
  simp only [if_pos]
  exact ⟨hl,u,rfl,(hu.kept hc (fun y hy hn=>by simp at hy; omega)).mono fun y hy=>⟨hy.1,by omega⟩⟩
 ·simp only [if_neg hx,if_neg (Ne.symm hx)]
  have:=h2 x
  cases hs : seen x with
  | none=>rw [hs] at this; exact this
  | some l=>
   rw [hs] at this
   obtain ⟨h3,v,h4,h5⟩:=this
   exact ⟨h3,v,h4,(h5.kept hc (fun y hy hn=>by simp at hy; omega)).mono fun y hy=>⟨hy.1,by omega⟩⟩
theorem fun1 : ∀ (cs:Array Value) (w:World),(callFunc 12 cs).run Tryz.prog w = .ok (.enter 12 cs) w:=fun _ _=>by kernel_rfl
theorem fun2 : ∀ (cs:Array Value) (w:World),(callFunc 14 cs).run Tryz.prog w = .ok (.enter 14 cs) w:=fun _ _=>by kernel_rfl
theorem unused_any (names:List (List UInt8)) (hl : names.length≤1000) (F:Nat→Prop) (a:Option Addr) (c:Nat) (bu:Nat) (x:Sy) (w:World) (hb : w.cell? ⟨bu,0,none⟩=some (.slice a names.length c)) (hn:NamesAt w F names (.slice a names.length c)) :
  Calls Tryz.prog 12 (#[(.agg #[str x.name,.int .i64 x.len,.int .i64 x.args] : Value)] ++ #[ptr bu]) w (fun e w'=>e = .returned (.bool (!decide (x.name∈names)))∧Chg [] w w'):=by
 obtain ⟨w0,hw0⟩ : ∃ y,w.alloc (.cells #[str x.name,.int .i64 x.len,.int .i64 x.args] 41)=y:=⟨_,rfl⟩
 have hb0:=Blk.new w #[str x.name,.int .i64 x.len,.int .i64 x.args] 41
 rw [hw0] at hb0
 have hc0:Chg [] w w0:=by rw [← hw0]; exact (Chg.refl _ _).alloc _
 have HCT:=Lib.hid (contains_in names hl x.name F _ w0 (hn.kept hc0 (by simp)))
 have x0:=hb0.cell 0 _ rfl
 have u0:=hc0.cellSome hb (by simp)
 have HC0:=Lib.hid hc0
 clear hb hn hb0 hc0
 go_enter Tryz.func12,Tryz.ntmps12
 go_wp2_with fail
 refine HCT.out.mono ?_; rintro _ w1 ⟨rfl,hw⟩
 have HC1:=Lib.hid (show Chg [] w w1 by rw [hw]; exact HC0.out)
 clear hw
 go_wp2_with fail
 go_ret
 exact ⟨rfl,HC1.out⟩
theorem gone_any (l:List Sy) (y:Sy) (hy : l[0]?=some y) (F:Nat→Prop) (a:Option Addr) (c:Nat) (bl:Nat) (x:Sy) (w:World) (hb : w.cell? ⟨bl,0,none⟩=some (.slice a l.length c)) (hr:Row w F a (l.flatMap Sy.cells)) :
  Calls Tryz.prog 14 (#[(.agg #[str x.name,.int .i64 x.len,.int .i64 x.args] : Value)] ++ #[ptr bl]) w (fun e w'=>e = .returned (.bool (x.name == y.name))∧Chg [] w w'):=by
 have hl0 : 0 < l.length:=(List.getElem?_eq_some_iff.1 hy).1
 obtain ⟨w0,hw0⟩ : ∃ y,w.alloc (.cells #[str x.name,.int .i64 x.len,.int .i64 x.args] 41)=y:=⟨_,rfl⟩
 have hb0:=Blk.new w #[str x.name,.int .i64 x.len,.int .i64 x.args] 41
 rw [hw0] at hb0
 have hc0:Chg [] w w0:=by rw [← hw0]; exact (Chg.refl _ _).alloc _
 obtain ⟨bb,off,rfl,d0,d1,d2⟩:=sy_cells3 (hr.kept hc0 (by simp)) hy
 have x0:=hb0.cell 0 _ rfl
 have u0:=hc0.cellSome hb (by simp)
 have HC0:=Lib.hid hc0
 rw [Nat.zero_mul,Nat.add_zero] at d0
 clear hb hr hb0 hc0 hy
 go_enter Tryz.func14,Tryz.ntmps14
 go_wp2_with fail
 go_region
 all_goals (try go_wp2_with fail)
 all_goals go_ret
 all_goals exact ⟨rfl,HC0.out.drew⟩
theorem cut_any (cs:Array Value) (fid:FuncId) (hF : ∀ (args:Array Value) (w:World),(callFunc fid args).run Tryz.prog w = .ok (.enter fid args) w) (l:List Sy) (hl : l.length≤1000) (f:Sy→Bool) (v:Value) (w:World) (h : w.ownsRow 0 41 3 v l.length (l.flatMap Sy.cells))
  (hf : ∀ x∈l,∀ w',Chg (blk v) w w'→Calls Tryz.prog fid (#[(.agg #[str x.name,.int .i64 x.len,.int .i64 x.args] : Value)] ++ cs) w' (fun e w''=>e = .returned (.bool (f x))∧Chg [] w' w'')) :
  Calls Tryz.prog 10 #[v,.func (.func fid) #[] cs] w (fun e w'=>∃ v',e = .returned v'∧SymsAt w' (fun y=>y∈blk v) (l.filter fun x=>!f x) v'∧Chg (blk v) w w'):=by
 have h' : w.ownsRow 0 41 3 v (l.map Sy.cells).length (l.map Sy.cells).flatten:=by rw [List.length_map,← List.flatMap_def]; exact h
 rcases rows_of_owns h' (fun r hr=>cells3_len r hr) with ⟨rfl,hrs⟩ | ⟨g,c,rfl,hc,hrb⟩
 ·have hl0 : l=[]:=by simpa using hrs
  subst hl0
  have HIX:=Lib.hid (index_sym cs fid hF [] (by simp) f none 0 (fun _=>True) w (Row.nil _ _ _) (Nat.le_refl _) (fun x hx=>by cases hx))
  clear h h' hf hrs
  change Calls _ _ #[.slice none 0 0,_] _ _
  go_enter Tryz.func10,Tryz.ntmps10
  go_wp2_with fail
  refine HIX.out.mono ?_; rintro e w1 ⟨h1,hc1⟩
  have HC1:=Lib.hid hc1
  clear hc1
  rcases h1 with ⟨rfl,_⟩ | ⟨k,x,_,hx,_⟩
  ·go_wp2_with fail
   go_ret
   exact ⟨_,rfl,⟨none,0,rfl,Nat.le_refl _,Row.nil _ _ _,fun _=>rfl⟩,HC1.out.weak⟩
  ·simp at hx
 ·have hlm : (l.map Sy.cells).length=l.length:=List.length_map ..
  rw [hlm] at hc ⊢
  have hfl:=List.length_filter_le (fun x=>!f x) l
  refine (delete_sym cs fid hF l hl f g c w hrb hc (fun x hx w' hc'=>hf x hx w' (by simpa [blk,hlm] using hc'))).mono ?_
  rintro e w' ⟨rfl,hr,hch⟩
  refine ⟨_,rfl,⟨some ⟨g,0,none⟩,c,rfl,by omega,?_,fun h=>by cases h⟩,by simpa [blk] using hch⟩
  have:=hr.row (F:=fun y=>y∈blk (Value.slice (some ⟨g,0,none⟩) l.length c)) (by omega) (fun r hr=>cells3_len r hr) (by simp [blk])
  rwa [← List.flatMap_def] at this
end Go.Proofs.YtilhhkokdfajiaaGreatDoor
