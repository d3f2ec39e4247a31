/- api.Tell, plain.Place and marquetrylaw.bare, of no error and of an Errno. -/
import Derived.Test.YtgnfhognbpifiaaGreatDoorApi
namespace Go.Proofs.YtgnfhognbpifiaaGreatDoor
open Go Go.RowKit Go.Extern.Stop Go.Stop Go.Extern Go.Mq
set_option maxRecDepth 100000

/-- What errors.As asks for: the type 'error', laid. -/
def ErrLaid (w : World) : Prop := w.cell? ⟨0, 0, none⟩ = some (.iface 135 (.agg #[.pointer (some ⟨9, 28, none⟩)]))
theorem ErrLaid.kept {S : List Nat} {w w' : World} (h : ErrLaid w) (hc : Chg S w w') (hn : 0 ∉ S) : ErrLaid w' := hc.cellSome h hn

theorem tell_nil (w : World) : Calls Tryz.prog 11 #[.nilIface] w fun e w' => e = .returned (.int .i64 0) ∧ w' = w := by
  go_enter Tryz.func11, Tryz.ntmps11
  go_wp2_with fail
  go_ret
  exact ⟨rfl, rfl⟩

/-- errors.As at an Errno, in few words. -/
theorem as_errno (n : Int) (t : Addr) (old : Value) (w : World) (hg : ErrLaid w) (ht0 : w.cell? t = some old) (hf0 : w.frozen? t = false) :
    Calls Tryz.prog 25 #[.iface 39 (.int .i64 n), .iface 56 (.pointer (some t))] w fun ev w' => ev = .returned (.bool true) ∧ w'.cell? t = some (.int .i64 n) ∧ Chg [t.block] w w' := by
  refine (as_hit n t old w hg ht0 hf0).mono ?_
  rintro _ w' ⟨rfl, hw⟩
  have hc : Chg [] w ((((w.alloc (.cells #[.pointer (some t)] 56)).alloc (.cells #[.pointer (some ⟨9, 56, none⟩), .pointer (some ⟨w.heap.size, 0, none⟩), .int .u64 150] 81)).alloc (.cells #[.pointer (some ⟨9, 56, none⟩), .pointer (some ⟨w.heap.size, 0, none⟩), .int .u64 150] 81)).alloc (.cells #[.int .i64 n] 39)) := ((((Chg.refl [] w).alloc _).alloc _).alloc _).alloc _
  refine ⟨rfl, ?_, ?_⟩
  · rw [hw, World.cell?_setCell_same _ _ _ (hc.cellSome ht0 (by simp))]
  · rw [hw]
    exact Chg.setCell (hc.mono (by simp)) _ (.inl (by simp)) _

theorem tell_errno (n : Int) (w : World) (hg : ErrLaid w) : Calls Tryz.prog 11 #[.iface 39 (.int .i64 n)] w fun e w' => e = .returned (.int .i64 n) ∧ Chg [] w w' := by
  have HG := Lib.hid hg; clear hg
  go_enter Tryz.func11, Tryz.ntmps11
  go_wp2_with fail
  have hg1 : ErrLaid (w.alloc (.cells #[.int .i64 0] 39)) := HG.out.kept ((Chg.refl [] w).alloc _) (by simp)
  refine (as_errno n ⟨w.heap.size, 0, none⟩ (.int .i64 0) _ hg1 (by simp) (by simp)).mono ?_
  rintro _ w' ⟨rfl, hcell, hc⟩
  have hc : Chg [] w w' := (((Chg.refl [] w).alloc (.cells #[.int .i64 0] 39)).trans hc (by simp))
  have HC := Lib.hid hc; clear hc hg1
  go_wp2_with fail
  go_ret
  exact ⟨rfl, HC.out⟩

end Go.Proofs.YtgnfhognbpifiaaGreatDoor
