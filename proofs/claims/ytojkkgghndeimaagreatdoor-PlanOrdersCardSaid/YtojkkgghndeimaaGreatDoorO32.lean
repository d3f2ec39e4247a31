/- Some texts in one. -/
import Derived.Test.YtojkkgghndeimaaGreatDoorO3
import Derived.Test.YtojkkgghndeimaaGreatDoorO9
import Derived.Test.YtojkkgghndeimaaGreatDoorO31
namespace Go.Mq.Ref
open Go Go.RowKit Go.Mq Go.Mq.Tree
def outM:Res→Mod
 | .ok m=>m
 | .bad _ _=>⟨[],[],[],[],.nil⟩
def outE:Res→Int
 | .ok _=>0
 | .bad e _=>e
def outP:Res→Int
 | .ok _=>-1
 | .bad _ p=>p
theorem none_at (w:World) (F:Nat→Prop):ModAt w F ⟨[],[],[],[],.nil⟩ (.agg #[str [],nils,nils,nils,nils]):=by
 exact ⟨nils,nils,nils,nils,rfl,NamesAt.nil,⟨none,0,rfl,Nat.le_refl _,Row.nil _ _ _⟩,⟨none,0,[],rfl,Nat.le_refl _,Row.nil _ _ _,rfl⟩,⟨none,0,[],rfl,Nat.le_refl _,Row.nil _ _ _,rfl⟩⟩
theorem rout {w w':World} {r:Res} {e:Ending} (h:RParseOut w r e w'):Chg [] w w' ∧ ∃ v,e = .returned (.tuple #[v,.agg #[num (outE r),num (outP r)]])∧ModAt w' (New w w') (outM r) v:=by
 cases r with
 | ok m=>exact h
 | bad en p=>exact ⟨h.1,_,h.2,none_at _ _⟩
end Go.Mq.Ref
namespace Go.Proofs.YtojkkgghndeimaaGreatDoor
open Go Go.RowKit Go.Mq Go.Mq.Tree Go.Mq.Ref
set_option maxRecDepth 100000
theorem place_nil (w:World):Calls Tryz.prog 52 #[.nilIface] w fun e w'=>e = .returned (.tuple #[.int .i64 0,.int .i64 (-1)])∧w'=w:=by
 go_enter Tryz.func52,Tryz.ntmps52
 go_wp2_with fail
 refine (tell_nil _).mono ?_; rintro _ _ ⟨rfl,rfl⟩
 go_wp2_with fail
 refine wp_loop_rounds 1 ?_
 rw [rounds_succ]
 go_wp2_with fail
 go_ret2
 exact ⟨rfl,rfl⟩
end Go.Proofs.YtojkkgghndeimaaGreatDoor
