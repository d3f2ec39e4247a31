/- What Check defers. -/
import Derived.Test.YtoeblajmelbbmaaGreatDoorCheckW7
import Derived.Defers
import Derived.Recover
namespace Go.Mq.Check
open Go Go.RowKit Go.Mq Go.Mq.Tree Go.Mq.Sym
/-- What Check hands back. -/
def CheckOut (w : World) (o : Out) (e : Ending) (w' : World) : Prop := Chg [] w w' ∧ match o with
  | .fine => e = .returned .nilIface
  | .plain n => e = .returned (.iface 52 (.int .i64 n))
  | .at_ en p => ∃ b, e = .returned (.iface 84 (ptr b)) ∧ w.heap.size ≤ b ∧ Blk w' b #[.int .i64 en, .int .i64 p] 86
end Go.Mq.Check
namespace Go.Proofs.YtoeblajmelbbmaaGreatDoor
open Go Go.RowKit Go.Mq Go.Mq.Tree Go.Mq.Sym Go.Mq.Check
set_option maxRecDepth 100000
set_option maxHeartbeats 8000000
theorem ccatch_idle (be : Nat) (w : World) : CallsD Tryz.prog 21 #[ptr be] .returning w fun e u' w' =>
      e = .returned (.tuple #[]) ∧ u' = .returning ∧ w' = w := by
  refine callsD_of_wpS Tryz.func21 rfl fun c₀ cs hu => ?_
  rw [show (#[ptr be] ++ Array.replicate (Tryz.f21.ntmps - (#[ptr be] : Array Value).size) undef : Array Value) = #[ptr be, undef, undef, undef, undef, undef, undef, undef, undef, undef, undef, undef, undef, undef, undef, undef, undef] from rfl]
  apply wpS_seq
  apply wpS_region
  simp [wpOpsS, go_sem, recoverD, hu, Exit.thenS]
  refine wpS_of_wp ?_
  go_wp2_with fail
  exact ⟨rfl, .returning, by cases c₀; simp_all, .tuple #[], results_none rfl _ _ _, rfl, rfl, rfl⟩
theorem ccatch_thrown (be b : Nat) (e0 : Value) (w : World) (he : Blk w be #[e0] 31) :
    CallsD Tryz.prog 21 #[ptr be] (.panicking [{ v := .iface 69 (.agg #[.iface 84 (ptr b)]), recovered := false }]) w fun e u' w' =>
      e = .returned (.tuple #[]) ∧ u' = .panicking [{ v := .iface 69 (.agg #[.iface 84 (ptr b)]), recovered := true }] ∧ Chg [be] w w' ∧ Blk w' be #[.iface 84 (ptr b)] 31 := by
  have hta : ∀ w, (Instr.typeAssert (.iface 69 (.agg #[.iface 84 (ptr b)])) 20 69 true).run Tryz.prog w = .ok (.tuple #[.agg #[.iface 84 (ptr b)], .bool true]) w := fun _ => rfl
  refine callsD_of_wpS Tryz.func21 rfl fun c₀ cs hu => ?_
  rw [show (#[ptr be] ++ Array.replicate (Tryz.f21.ntmps - (#[ptr be] : Array Value).size) undef : Array Value) = #[ptr be, undef, undef, undef, undef, undef, undef, undef, undef, undef, undef, undef, undef, undef, undef, undef, undef] from rfl]
  apply wpS_seq
  apply wpS_region
  simp [wpOpsS, go_sem, recoverD, hu, Exit.thenS]
  refine wpS_of_wp ?_
  have he' := he.kept ((Chg.refl [] w).alloc (.cells #[.iface 84 (ptr b)] 69)) (by simp)
  have hx' := Blk.new w #[.iface 84 (ptr b)] 69
  have hc' : Chg [be] w (w.alloc (.cells #[.iface 84 (ptr b)] 69)) := (Chg.refl _ w).alloc _
  obtain ⟨w1, hw1⟩ : ∃ x, w.alloc (.cells #[.iface 84 (ptr b)] 69) = x := ⟨_, rfl⟩
  rw [hw1] at he' hx' hc'
  have g0 := he'.frozen 0; have e0' := he'.cell 0 _ rfl
  have x0 := hx'.cell 0 _ rfl
  have hcE : Chg [be] w1 (w1.setCell ⟨be, 0, none⟩ (.iface 84 (ptr b))) := Chg.set1 _ _ _ _
  have HE := Lib.hid (show Blk (w1.setCell ⟨be, 0, none⟩ (.iface 84 (ptr b))) be #[.iface 84 (ptr b)] 31 by simpa using he'.set 0 (.iface 84 (ptr b)))
  have HC := Lib.hid (hc'.then hcE)
  clear he he' hx' hc' hcE
  go_wp2_with fail
  refine ⟨rfl, .panicking [{ v := .iface 69 (.agg #[.iface 84 (ptr b)]), recovered := true }], rfl, .tuple #[], results_none rfl _ _ _, rfl, rfl, ?_⟩
  exact ⟨HC.out, HE.out⟩
theorem cresults (tmps : Array Value) (be : Nat) (ev : Value) (w : World) (h4 : tmps[4]?.getD undef = ptr be) (he : Blk w be #[ev] 31) :
    (results Tryz.f8 tmps).run Tryz.prog w = .ok ev w := by
  have e0 := he.cell 0 _ rfl
  simp [results, Tryz.results8, h4, go_sem, e0]
theorem cleave_idle (tmps : Array Value) (be : Nat) (ev : Value) (w : World) (R : Ending → World → Prop) (h4 : tmps[4]?.getD undef = ptr be) (he : Blk w be #[ev] 31)
    (hR : R (.returned ev) w) : Leaves Tryz.prog Tryz.f8 tmps R [{ target := .fn (.func 21) #[ptr be], args := #[] }] .returning w := by
  refine leaves_cons (f := 21) (args := #[ptr be]) (by simp) (by simp [go_sem]) ?_
  refine (ccatch_idle be w).mono ?_
  rintro e u' w'' ⟨rfl, rfl, rfl⟩
  exact ⟨_, cresults tmps be ev w'' h4 he, hR⟩
theorem cleave_thrown (tmps : Array Value) (be b : Nat) (ev : Value) (w : World) (R : Ending → World → Prop) (h4 : tmps[4]?.getD undef = ptr be) (he : Blk w be #[ev] 31)
    (hR : ∀ w', Chg [be] w w' → R (.returned (.iface 84 (ptr b))) w') : Leaves Tryz.prog Tryz.f8 tmps R [{ target := .fn (.func 21) #[ptr be], args := #[] }] (.panicking [{ v := .iface 69 (.agg #[.iface 84 (ptr b)]), recovered := false }]) w := by
  refine leaves_cons (f := 21) (args := #[ptr be]) (by simp) (by simp [go_sem]) ?_
  refine (ccatch_thrown be b ev w he).mono ?_
  rintro e u' w'' ⟨rfl, rfl, hc, he'⟩
  exact ⟨_, cresults tmps be _ w'' h4 he', hR w'' hc⟩
end Go.Proofs.YtoeblajmelbbmaaGreatDoor
