/- Some texts in one. -/
import Derived.Test.YtojkkgghndeimaaGreatDoorO1
import Derived.Test.YtojkkgghndeimaaGreatDoorO6
import Derived.Test.YtojkkgghndeimaaGreatDoorO9
namespace Go.Mq.Tree
open Go Go.RowKit Go.Mq
theorem map_flat (l:List (List UInt8)) : l.map str=l.flatMap fun x=>[str x]:=by
 induction l with
 | nil=>rfl
 | cons x r ih=>rw [List.map_cons,ih]; rfl
abbrev Yes (w:World) (e:Ending) (w':World):Prop:=e = .returned (.bool true)∧Chg [] w w'
theorem Row.part {w:World} {F:Nat→Prop} {a:Option Addr} {α:Type} {f : α→List Value} {n:Nat} (hf : ∀ x,(f x).length=n) {l:List α} (h:Row w F a (l.flatMap f)) {k:Nat} (hk : k < l.length) (hn : 0 < n) :
  ∃ b off,a=some ⟨b,off,none⟩ ∧ ∀ (j:Nat) (v:Value),(f l[k])[j]?=some v→w.cell? ⟨b,off + k * n + j,none⟩=some v:=by
 have hlen : ∀ l:List α,(l.flatMap f).length=l.length * n:=by
  intro l
  induction l with
  | nil=>simp
  | cons x r ih=>simp [ih,hf,Nat.succ_mul,Nat.add_comm]
 have hget : ∀ (l:List α) (k:Nat) (hk : k < l.length) (j:Nat) (v:Value),(f l[k])[j]?=some v→(l.flatMap f)[k * n + j]?=some v:=by
  intro l
  induction l with
  | nil=>intro k hk; cases hk
  | cons x r ih=>
   intro k hk j v hv
   have hj : j < n:=by rw [← hf ((x :: r)[k])]; exact (List.getElem?_eq_some_iff.1 hv).1
   cases k with
   | zero=>simp only [Nat.zero_mul,Nat.zero_add,List.flatMap_cons]; rw [List.getElem?_append_left (by rw [hf]; exact hj)]; exact hv
   | succ k=>
    have:=ih k (by simpa using hk) j v (by simpa using hv)
    rw [List.flatMap_cons,List.getElem?_append_right (by rw [hf,Nat.succ_mul]; omega),hf,show (k + 1) * n + j - n=k * n + j by rw [Nat.succ_mul]; omega]
    exact this
 obtain ⟨b,off,rfl,hc⟩:=h.at_ (by rw [hlen]; exact Nat.mul_pos (by omega) hn)
 exact ⟨b,off,rfl,fun j v hv=>by rw [Nat.add_assoc]; exact hc _ v (hget l k hk j v hv)⟩
end Go.Mq.Tree
namespace Go.Proofs.YtojkkgghndeimaaGreatDoor
open Go Go.RowKit Go.Mq Go.Mq.Tree
set_option maxRecDepth 100000
set_option maxHeartbeats 4000000
theorem sameTexts_any {F G:Nat→Prop} {w:World} {l:List (List UInt8)} {v v':Value} (h:NamesAt w F l v) (h':NamesAt w G l v') (hl : l.length≤1000000):Calls Tryz.prog 22 #[v,v'] w (Yes w):=by
 obtain ⟨a,c,rfl,hac,hrow⟩:=h; obtain ⟨a',c',rfl,hac',hrow'⟩:=h'
 rw [map_flat] at hrow hrow'
 have H:=Lib.hid hrow; have H':=Lib.hid hrow'
 clear hrow hrow'
 go_enter Tryz.func22,Tryz.ntmps22
 go_wp2_with fail
 go_loopw [5] (fun i wr=>∃ k:Nat,k≤l.length∧i = .int .i64 k∧Chg [] w wr) (fun i _=>l.length - (intOf i).toNat)
 case atStart=>exact ⟨0,Nat.zero_le _,rfl,Chg.refl _ _⟩
 case round=>
  obtain ⟨k,hk,rfl,hc⟩:=hrel
  by_cases hlt : k < l.length
  ·obtain ⟨b,o,rfl,hcell⟩:=H.out.part (n:=1) (fun _=>rfl) hlt (by omega)
   obtain ⟨b',o',rfl,hcell'⟩:=H'.out.part (n:=1) (fun _=>rfl) hlt (by omega)
   obtain ⟨x,hx⟩ : ∃ x,x=l[k]:=⟨_,rfl⟩
   have c0:=hc.cellSome (hcell 0 (str x) (by rw [hx]; rfl)) (by simp)
   have c1:=hc.cellSome (hcell' 0 (str x) (by rw [hx]; rfl)) (by simp)
   simp only [Nat.mul_one,Nat.add_zero] at c0 c1
   have HC:=Lib.hid hc
   clear hcell hcell' hx hc
   go_wp2_with fail
   go_region
   all_goals (try go_wp2)
   go_roundw
   case rel=>exact ⟨k + 1,by omega,by go_num,HC.out.drew⟩
   case measure=>simp [intOf]; omega
  ·have HC:=Lib.hid hc; clear hc
   go_wp2_with fail
   go_ret
   exact ⟨rfl,HC.out⟩
end Go.Proofs.YtojkkgghndeimaaGreatDoor
