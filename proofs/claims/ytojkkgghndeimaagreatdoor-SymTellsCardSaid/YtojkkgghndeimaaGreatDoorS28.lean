/- Some texts in one. -/
import Derived.Test.YtojkkgghndeimaaGreatDoorS24
import Derived.Test.YtojkkgghndeimaaGreatDoorS26
import Derived.Test.YtojkkgghndeimaaGreatDoorS27
namespace Go.Proofs.YtojkkgghndeimaaGreatDoor
open Go Go.RowKit Go.Mq Go.Mq.Tree Go.Mq.Ref Go.Mq.Sym
set_option maxRecDepth 100000
set_option maxHeartbeats 4000000
theorem sameSyms_any {F G:Nat→Prop} {w:World} {l:List Sy} {v v':Value} (h:SymsAt w F l v) (h':SymsAt w G l v') (hl : l.length≤1000000):Calls Tryz.prog 26 #[v,v'] w (Yes w):=by
 obtain ⟨a,c,rfl,hac,hrow,_⟩:=h; obtain ⟨a',c',rfl,hac',hrow',_⟩:=h'
 have H:=Lib.hid hrow; have H':=Lib.hid hrow'
 clear hrow hrow'
 go_enter Tryz.func26,Tryz.ntmps26
 go_wp2_with fail
 go_loopw [5] (fun i wr=>∃ k:Nat,k≤l.length∧i = .int .i64 k∧Chg [] w wr) (fun i _=>l.length - (intOf i).toNat)
 case atStart=>exact ⟨0,Nat.zero_le _,rfl,Chg.refl _ _⟩
 case round=>
  obtain ⟨k,hk,rfl,hc⟩:=hrel
  by_cases hlt : k < l.length
  ·obtain ⟨x,hx⟩ : ∃ x,l[k]?=some x:=⟨l[k],List.getElem?_eq_getElem hlt⟩
   obtain ⟨b,o,rfl,c0,c1,c2⟩:=sy_cells3 (H.out.kept hc (by simp)) hx
   obtain ⟨b',o',rfl,d0,d1,d2⟩:=sy_cells3 (H'.out.kept hc (by simp)) hx
   have HC:=Lib.hid hc
   clear hx hc
   go_wp2_with fail
   go_region
   all_goals (try go_wp2)
   go_roundw
   case rel=>exact ⟨k + 1,by omega,by go_num,HC.out.drew⟩
   case measure=>simp [intOf]; omega
  ·have HC:=Lib.hid hc; clear hc
   go_wp2_with fail
   go_ret
   exact ⟨rfl,HC.out⟩
end Go.Proofs.YtojkkgghndeimaaGreatDoor
