/- What Parse defers. -/
import Derived.Test.YtgnfhognbpifiaaGreatDoorTreeW17
import Derived.Test.YtgnfhognbpifiaaGreatDoorTreeW20
import Derived.Defers
import Derived.Recover
namespace Go.Proofs.YtgnfhognbpifiaaGreatDoor
open Go Go.RowKit Go.Mq Go.Mq.Tree
set_option maxRecDepth 100000
set_option maxHeartbeats 8000000
theorem catch_idle (bm be : Nat) (w : World) : CallsD Tryz.prog 33 #[ptr bm, ptr be] .returning w fun e u' w' =>
      e = .returned (.tuple #[]) ∧ u' = .returning ∧ w' = w := by
  refine callsD_of_wpS Tryz.func33 rfl fun c₀ cs hu => ?_
  rw [show (#[ptr bm, ptr be] ++ Array.replicate (Tryz.f33.ntmps - (#[ptr bm, ptr be] : Array Value).size) undef : Array Value) = #[ptr bm, ptr be, undef, undef, undef, undef, undef, undef, undef, undef, undef, undef, undef, undef, undef, undef, undef, undef, undef] from rfl]
  apply wpS_seq
  apply wpS_region
  simp [wpOpsS, go_sem, recoverD, hu, Exit.thenS]
  refine wpS_of_wp ?_
  go_wp2_with fail
  exact ⟨rfl, .returning, by cases c₀; simp_all, .tuple #[], results_none rfl _ _ _, rfl, rfl, rfl⟩
theorem catch_thrown (bm be b : Nat) (c0 c1 c2 c3 c4 e0 : Value) (w : World) (hm : Blk w bm #[c0, c1, c2, c3, c4] 37) (he : Blk w be #[e0] 28) (hne : bm ≠ be) :
    CallsD Tryz.prog 33 #[ptr bm, ptr be] (.panicking [{ v := .iface 66 (.agg #[.iface 124 (ptr b)]), recovered := false }]) w fun e u' w' =>
      e = .returned (.tuple #[]) ∧ u' = .panicking [{ v := .iface 66 (.agg #[.iface 124 (ptr b)]), recovered := true }] ∧ Chg [bm, be] w w' ∧
      Blk w' bm #[str [], nils, nils, nils, nils] 37 ∧ Blk w' be #[.iface 124 (ptr b)] 28 := by
  have hta : ∀ w, (Instr.typeAssert (.iface 66 (.agg #[.iface 124 (ptr b)])) 20 66 true).run Tryz.prog w = .ok (.tuple #[.agg #[.iface 124 (ptr b)], .bool true]) w := fun _ => rfl
  refine callsD_of_wpS Tryz.func33 rfl fun c₀ cs hu => ?_
  rw [show (#[ptr bm, ptr be] ++ Array.replicate (Tryz.f33.ntmps - (#[ptr bm, ptr be] : Array Value).size) undef : Array Value) = #[ptr bm, ptr be, undef, undef, undef, undef, undef, undef, undef, undef, undef, undef, undef, undef, undef, undef, undef, undef, undef] from rfl]
  apply wpS_seq
  apply wpS_region
  simp [wpOpsS, go_sem, recoverD, hu, Exit.thenS]
  refine wpS_of_wp ?_
  go_wp2_with fail
  have hlm := hm.lt
  have hle := he.lt
  have hm' := hm.kept ((Chg.refl [] w).alloc (.cells #[.iface 124 (ptr b)] 66)) (by simp)
  have he' := he.kept ((Chg.refl [] w).alloc (.cells #[.iface 124 (ptr b)] 66)) (by simp)
  have hx' := Blk.new w #[.iface 124 (ptr b)] 66
  have hc' : Chg [bm, be] w (w.alloc (.cells #[.iface 124 (ptr b)] 66)) := (Chg.refl _ w).alloc _
  have hnx : w.heap.size ≠ bm := by omega
  have hny : w.heap.size ≠ be := by omega
  generalize w.alloc (.cells #[.iface 124 (ptr b)] 66) = w1 at *
  have f0 := hm'.frozen 0; have f1 := hm'.frozen 1; have f2 := hm'.frozen 2; have f3 := hm'.frozen 3; have f4 := hm'.frozen 4
  have d0 := hm'.cell 0 _ rfl; have d1 := hm'.cell 1 _ rfl; have d2 := hm'.cell 2 _ rfl; have d3 := hm'.cell 3 _ rfl; have d4 := hm'.cell 4 _ rfl
  have g0 := he'.frozen 0; have e0' := he'.cell 0 _ rfl
  have x0 := hx'.cell 0 _ rfl
  have HM := Lib.hid hm'; have HE := Lib.hid he'; have HC := Lib.hid hc'
  clear hm he hm' he' hx' hc' hta
  go_region
  obtain ⟨wF, hwF, hcF, hbF⟩ := set5 (str []) nils nils nils nils HM.out
  have heF := HE.out.kept hcF (by simp; exact Ne.symm hne)
  have hcE : Chg [be] wF (wF.setCell ⟨be, 0, none⟩ (.iface 124 (ptr b))) := Chg.set1 _ _ _ _
  refine ⟨rfl, .panicking [{ v := .iface 66 (.agg #[.iface 124 (ptr b)]), recovered := true }], rfl, .tuple #[], results_none rfl _ _ _, rfl, rfl, ?_⟩
  rw [hwF]
  refine ⟨((HC.out.then (hcF.mono (fun x hx => .inl (by simp at hx; simp [hx])))).then (hcE.mono (fun x hx => .inl (by simp at hx; simp [hx])))).drew, ?_, ?_⟩
  · exact (hbF.kept hcE (by simpa using hne)).kept (Chg.refl [] _).drew (by simp)
  · have := (heF.set 0 (.iface 124 (ptr b))).kept (Chg.refl [] _).drew (by simp)
    simpa using this
end Go.Proofs.YtgnfhognbpifiaaGreatDoor
