/- api.Tell, plain.Place and marquetrylaw.bare, of no error and of an Errno. -/
import Derived.Test.YtjgfclhempjinaaGreatDoorApi
namespace Go.Proofs.YtjgfclhempjinaaGreatDoor
open Go Go.RowKit Go.Extern.Stop Go.Stop Go.Extern Go.Mq
set_option maxRecDepth 100000

/-- What errors.As asks for: the type 'error', laid. -/
def ErrLaid (w : World) : Prop := w.cell? ⟨1, 0, none⟩ = some (.iface 143 (.agg #[.pointer (some ⟨4, 28, none⟩)]))
theorem ErrLaid.kept {S : List Nat} {w w' : World} (h : ErrLaid w) (hc : Chg S w w') (hn : 1 ∉ S) : ErrLaid w' := hc.cellSome h hn

theorem tell_nil (w : World) : Calls Tryz.prog 70 #[.nilIface] w fun e w' => e = .returned (.int .i64 0) ∧ w' = w := by
  go_enter Tryz.func70, Tryz.ntmps70
  go_wp2_with fail
  go_ret
  exact ⟨rfl, rfl⟩

/-- errors.As at an Errno, in few words. -/
theorem as_errno (n : Int) (t : Addr) (old : Value) (w : World) (hg : ErrLaid w) (ht0 : w.cell? t = some old) (hf0 : w.frozen? t = false) :
    Calls Tryz.prog 77 #[.iface 24 (.int .i64 n), .iface 121 (.pointer (some t))] w fun ev w' => ev = .returned (.bool true) ∧ w'.cell? t = some (.int .i64 n) ∧ Chg [t.block] w w' := by
  refine (as_hit n t old w hg ht0 hf0).mono ?_
  rintro _ w' ⟨rfl, hw⟩
  have hc : Chg [] w ((((w.alloc (.cells #[.pointer (some t)] 121)).alloc (.cells #[.pointer (some ⟨4, 121, none⟩), .pointer (some ⟨w.heap.size, 0, none⟩), .int .u64 150] 126)).alloc (.cells #[.pointer (some ⟨4, 121, none⟩), .pointer (some ⟨w.heap.size, 0, none⟩), .int .u64 150] 126)).alloc (.cells #[.int .i64 n] 24)) := ((((Chg.refl [] w).alloc _).alloc _).alloc _).alloc _
  refine ⟨rfl, ?_, ?_⟩
  · rw [hw, World.cell?_setCell_same _ _ _ (hc.cellSome ht0 (by simp))]
  · rw [hw]
    exact Chg.setCell (hc.mono (by simp)) _ (.inl (by simp)) _

theorem tell_errno (n : Int) (w : World) (hg : ErrLaid w) : Calls Tryz.prog 70 #[.iface 24 (.int .i64 n)] w fun e w' => e = .returned (.int .i64 n) ∧ Chg [] w w' := by
  have HG := Lib.hid hg; clear hg
  go_enter Tryz.func70, Tryz.ntmps70
  go_wp2_with fail
  have hg1 : ErrLaid (w.alloc (.cells #[.int .i64 0] 24)) := HG.out.kept ((Chg.refl [] w).alloc _) (by simp)
  refine (as_errno n ⟨w.heap.size, 0, none⟩ (.int .i64 0) _ hg1 (by simp) (by simp)).mono ?_
  rintro _ w' ⟨rfl, hcell, hc⟩
  have hc : Chg [] w w' := (((Chg.refl [] w).alloc (.cells #[.int .i64 0] 24)).trans hc (by simp))
  have HC := Lib.hid hc; clear hc hg1
  go_wp2_with fail
  go_ret
  exact ⟨rfl, HC.out⟩

theorem place_nil (w : World) : Calls Tryz.prog 54 #[.nilIface] w fun e w' => e = .returned (.tuple #[.int .i64 0, .int .i64 (-1)]) ∧ w' = w := by
  go_enter Tryz.func54, Tryz.ntmps54
  go_wp2_with fail
  refine (tell_nil _).mono ?_; rintro _ _ ⟨rfl, rfl⟩
  go_wp2_with fail
  refine wp_loop_rounds 1 ?_
  rw [rounds_succ]
  go_wp2_with fail
  go_ret2
  exact ⟨rfl, rfl⟩

theorem place_errno (n : Int) (w : World) (hg : ErrLaid w) : Calls Tryz.prog 54 #[.iface 24 (.int .i64 n)] w fun e w' => e = .returned (.tuple #[.int .i64 n, .int .i64 (-1)]) ∧ Chg [] w w' := by
  have HG := Lib.hid hg; clear hg
  have hU : ∀ v w, (Instr.typeAssert (.iface 24 v) 28 113 true).run Tryz.prog w = .ok (.tuple #[.nilIface, .bool false]) w := fun v w => run_typeAssert_lacksB (z := .nilIface) Tryz.underlying113 (by kernel_rfl) (by kernel_rfl) v 28 w
  have hA : ∀ v w, (Instr.typeAssert (.iface 24 v) 28 110 true).run Tryz.prog w = .ok (.tuple #[.pointer none, .bool false]) w := fun v w => by kernel_rfl
  go_enter Tryz.func54, Tryz.ntmps54
  go_wp2_with fail
  refine (tell_errno _ _ HG.out).mono ?_; rintro _ w' ⟨rfl, hc⟩
  have HC := Lib.hid hc; clear hc
  go_wp2_with fail
  refine wp_loop_rounds 1 ?_
  rw [rounds_succ]
  go_wp2_with fail
  go_ret2
  exact ⟨rfl, HC.out⟩

/-- An error that is none (0), or an Errno. -/
def errV (n : Int) : Value := if n = 0 then .nilIface else .iface 24 (.int .i64 n)

/-- A cell that holds a struct of two numbers comes back. -/
theorem refBare_any (k : Int) (w : World) : Calls Tryz.prog 24 #[.int .i64 k] w fun e w' => e = .returned (.agg #[.int .i64 k, .int .i64 (-1)]) ∧ Chg [] w w' := by
  go_enter Tryz.func24, Tryz.ntmps24
  go_wp2_with fail
  refine bodyPost_ret (v := .agg #[.int .i64 k, .int .i64 (-1)]) (by simp [results, Tryz.results24, go_sem]) rfl ⟨rfl, (Chg.refl [] w).alloc _⟩

/-- An error of a place in few words: what 'is' makes of it. -/
theorem is_any (e k at_ : Int) (n p : Int) (v : Value) (w : World) (hp : Calls Tryz.prog 54 #[v] (w.alloc (.cells #[.int .i64 k, .int .i64 at_] 69)) fun e w' => e = .returned (.tuple #[.int .i64 n, .int .i64 p]) ∧ Chg [] (w.alloc (.cells #[.int .i64 k, .int .i64 at_] 69)) w') :
    Calls Tryz.prog 23 #[v, .agg #[.int .i64 k, .int .i64 at_]] w fun e w' => e = .returned (.bool (decide (n = k) && decide (p = at_))) ∧ Chg [] w w' := by
  have HP := Lib.hid hp; clear hp
  by_cases h1 : n = k
  all_goals by_cases h2 : p = at_
  all_goals
    go_enter Tryz.func23, Tryz.ntmps23
    go_wp2_with fail
    refine HP.out.mono ?_; rintro _ w' ⟨rfl, hc⟩
    have c0 : w'.cell? ⟨w.heap.size, 0, none⟩ = some (.int .i64 k) := hc.cellSome (by simp) (by simp)
    have c1 : w'.cell? ⟨w.heap.size, 1, none⟩ = some (.int .i64 at_) := hc.cellSome (by simp) (by simp)
    have hc2 : Chg [] w w' := ((Chg.refl [] w).alloc _).then hc
    have HC := Lib.hid hc2; clear hc hc2
    go_wp2_with fail
    go_ret
    refine ⟨?_, HC.out⟩
    simp [h1, h2]

theorem place_any (n : Int) (w : World) (hg : ErrLaid w) : Calls Tryz.prog 54 #[errV n] w fun e w' => e = .returned (.tuple #[.int .i64 n, .int .i64 (-1)]) ∧ Chg [] w w' := by
  unfold errV
  by_cases hn : n = 0
  · rw [if_pos hn, hn]
    refine (place_nil w).mono ?_; rintro _ _ ⟨rfl, rfl⟩; exact ⟨rfl, Chg.refl _ _⟩
  · rw [if_neg hn]
    exact place_errno n w hg

theorem bare_any (n k : Int) (w : World) (hg : ErrLaid w) : Calls Tryz.prog 7 #[errV n, .int .i64 k] w fun e w' => e = .returned (.bool (decide (n = k))) ∧ Chg [] w w' := by
  have HG := Lib.hid hg; clear hg
  generalize hv : errV n = v
  have HV := Lib.hid hv; clear hv
  go_enter Tryz.func7, Tryz.ntmps7
  go_wp2_with fail
  refine (refBare_any k w).mono ?_; rintro _ w1 ⟨rfl, hc⟩
  have HC := Lib.hid hc; clear hc
  go_wp2_with fail
  refine (is_any 0 k (-1) n (-1) v w1 ?_).mono ?_
  · rw [← HV.out]
    exact place_any n _ ((HG.out.kept HC.out (by simp)).kept ((Chg.refl [] w1).alloc _) (by simp))
  rintro _ w2 ⟨rfl, hc2⟩
  have HC2 := Lib.hid (HC.out.then hc2); clear hc2
  go_wp2_with fail
  go_ret
  refine ⟨?_, HC2.out⟩
  simp
end Go.Proofs.YtjgfclhempjinaaGreatDoor
