/- Some texts in one. -/
import Derived.Test.YtojkkgghndeimaaGreatDoorF2
import Derived.Test.YtojkkgghndeimaaGreatDoorF14
import Derived.Test.YtojkkgghndeimaaGreatDoorF15
namespace Go.Mq.Ref
open Go Go.RowKit Go.Mq Go.Mq.Tree
def outM:Res→Mod
 | .ok m=>m
 | .bad _ _=>⟨[],[],[],[],.nil⟩
def outE:Res→Int
 | .ok _=>0
 | .bad e _=>e
def outP:Res→Int
 | .ok _=>-1
 | .bad _ p=>p
def ErrIs (w:World) (v:Value) (en p:Int):Prop:=(v = .nilIface∧en=0∧p = -1) ∨ ∃ b,v = .iface 167 (ptr b)∧Blk w b #[num en,num p] 168
theorem none_at (w:World) (F:Nat→Prop):ModAt w F ⟨[],[],[],[],.nil⟩ (.agg #[str [],nils,nils,nils,nils]):=by
 exact ⟨nils,nils,nils,nils,rfl,NamesAt.nil,⟨none,0,rfl,Nat.le_refl _,Row.nil _ _ _⟩,⟨none,0,[],rfl,Nat.le_refl _,Row.nil _ _ _,rfl⟩,⟨none,0,[],rfl,Nat.le_refl _,Row.nil _ _ _,rfl⟩⟩
theorem rout {w w':World} {r:Res} {e:Ending} (h:RParseOut w r e w'):Chg [] w w' ∧ ∃ v,e = .returned (.tuple #[v,.agg #[num (outE r),num (outP r)]])∧ModAt w' (New w w') (outM r) v:=by
 cases r with
 | ok m=>exact h
 | bad en p=>exact ⟨h.1,_,h.2,none_at _ _⟩
theorem tout {w w':World} {r:Res} {e:Ending} (h:ParseOut w r e w'):Chg [] w w' ∧ ∃ v ev,e = .returned (.tuple #[v,ev])∧ErrIs w' ev (outE r) (outP r)∧ModAt w' (New w w') (outM r) v:=by
 cases r with
 | ok m=>obtain ⟨h1,v,h2,h3⟩:=h; exact ⟨h1,v,_,h2,.inl ⟨rfl,rfl,rfl⟩,h3⟩
 | bad en p=>obtain ⟨h1,b,h2,_,h3⟩:=h; exact ⟨h1,_,_,h2,.inr ⟨b,rfl,h3⟩,none_at _ _⟩
end Go.Mq.Ref
namespace Go.Proofs.YtojkkgghndeimaaGreatDoor
open Go Go.RowKit Go.Mq Go.Mq.Tree Go.Mq.Ref
set_option maxRecDepth 100000
theorem place_nil (w:World):Calls Tryz.prog 52 #[.nilIface] w fun e w'=>e = .returned (.tuple #[.int .i64 0,.int .i64 (-1)])∧w'=w:=by
 go_enter Tryz.func52,Tryz.ntmps52
 go_wp2_with fail
 refine (tell_nil _).mono ?_; rintro _ _ ⟨rfl,rfl⟩
 go_wp2_with fail
 refine wp_loop_rounds 1 ?_
 rw [rounds_succ]
 go_wp2_with fail
 go_ret2
 exact ⟨rfl,rfl⟩
theorem place_at (n p:Int) (b:Nat) (w:World) (hg:ErrLaid w) (hb:Blk w b #[num n,num p] 168):Calls Tryz.prog 52 #[.iface 167 (ptr b)] w fun e w'=>e = .returned (.tuple #[.int .i64 n,.int .i64 p])∧Chg [] w w':=by
 have HG:=Lib.hid hg; have HB:=Lib.hid hb; clear hg hb
 have hA : ∀ v w,(Instr.typeAssert (.iface 167 v) 38 167 true).run Tryz.prog w = .ok (.tuple #[v,.bool true]) w:=fun v w=>by kernel_rfl
 go_enter Tryz.func52,Tryz.ntmps52
 go_wp2_with fail
 refine (tell_at n b _ HG.out (HB.out.cell 0 _ rfl)).mono ?_; rintro _ w' ⟨rfl,hc⟩
 have hB:=HB.out.kept hc (by simp)
 have c1:=hB.cell 1 _ rfl
 have HC:=Lib.hid hc; clear hc hB
 go_wp2_with fail
 refine wp_loop_rounds 1 ?_
 rw [rounds_succ]
 go_wp2_with fail
 go_region
 all_goals
  try go_wp2_with fail
  go_ret2
  exact ⟨rfl,HC.out.drew⟩
theorem place_is {w:World} {v:Value} {en p:Int} (hg:ErrLaid w) (h:ErrIs w v en p):Calls Tryz.prog 52 #[v] w fun e w'=>e = .returned (.tuple #[.int .i64 en,.int .i64 p])∧Chg [] w w':=by
 rcases h with ⟨rfl,rfl,rfl⟩ | ⟨b,rfl,hb⟩
 ·refine (place_nil w).mono ?_; rintro _ _ ⟨rfl,rfl⟩; exact ⟨rfl,Chg.refl _ _⟩
 ·exact place_at en p b w hg hb
theorem is_same {w:World} {v:Value} {en p:Int} (hg:ErrLaid w) (h:ErrIs w v en p):Calls Tryz.prog 11 #[v,.agg #[num en,num p]] w fun e w'=>e = .returned (.bool true)∧Chg [] w w':=by
 obtain ⟨w0,hw0⟩ : ∃ x,x=w.alloc (.cells #[num en,num p] 34):=⟨_,rfl⟩
 have hc0:Chg [] w w0:=hw0 ▸ (Chg.refl _ _).alloc _
 have hb0:Blk w0 w.heap.size #[num en,num p] 34:=hw0 ▸ Blk.new w _ _
 have hp:=place_is (w:=w0) (v:=v) (en:=en) (p:=p) (hg.kept hc0 (by simp)) (by
  rcases h with h | ⟨b,h,hb⟩
  ·exact .inl h
  ·exact .inr ⟨b,h,hb.kept hc0 (by simp)⟩)
 have HP:=Lib.hid hp; have HB:=Lib.hid hb0; have HC0:=Lib.hid hc0
 clear hp hb0 hc0 hg h
 go_enter Tryz.func11,Tryz.ntmps11
 go_wp2_with fail
 rw [← hw0]
 refine HP.out.mono ?_; rintro _ w' ⟨rfl,hc⟩
 have hB:=HB.out.kept hc (by simp)
 have c0:=hB.cell 0 _ rfl
 have c1:=hB.cell 1 _ rfl
 have HC:=Lib.hid (HC0.out.then hc); clear hc hw0
 go_wp2_with fail
 go_ret
 exact ⟨rfl,HC.out⟩
end Go.Proofs.YtojkkgghndeimaaGreatDoor
