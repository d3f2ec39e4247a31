/- Two lists of names, one behind the other one. -/
import Derived.Test.YtoeblajmelbbmaaGreatDoorCheckW6
import Derived.Lib.AppendZerosOnto
namespace Go.Mq.Check
open Go Go.RowKit Go.Mq Go.Mq.Tree Go.Mq.Sym
section
variable {P : Program} {ops : Array Oper} {o : Oper} {rest : List Oper} {a : Act} {w : World} {Q : Exit → Act → World → Prop}
/-- An append whose outcome is known. -/
theorem wpL_append_run (hgd : o.guard = none) (s x : Operand) (t u : TypeId) (ho : o.op = .call { callee := .builtin .append, args := #[s, x], argTypes := #[t, u] })
    (v y v' : Value) (w' : World) (hs : a.eval s = v) (hx : a.eval x = y) (hr : (Builtin.append_ #[t, u] o.type #[v, y]).run P w = .ok v' w')
    (h : wpList P ops Q rest (a.put o.dst v') w') : wpList P ops Q (o :: rest) a w := by
  refine wpList_plain hgd fun K hK => ?_
  unfold Oper.wp execOp
  simp only [ho, resolve, invoke, builtin, Sem.run_bind, Sem.run_pure, Result.andThen_ok, List.map_toArray, List.map_cons, List.map_nil, hs, hx, hr]
  exact hK _ _ h
end
end Go.Mq.Check
namespace Go.Proofs.YtoeblajmelbbmaaGreatDoor
open Go Go.RowKit Go.Mq Go.Mq.Tree Go.Mq.Sym Go.Mq.Check
set_option maxRecDepth 100000
set_option maxHeartbeats 2000000
theorem infoStrC : (Tryz.prog.info? 9).map (fun i => (i.zero, i.size, i.bytes)) = some (some (.string ⟨#[]⟩), 1, 16) := by kernel_rfl
theorem grow_any (n : Nat) (hn : n ≤ 1000) (w : World) : Calls Tryz.prog 42 #[nils, .int .i64 n] w (fun e w' => ∃ v, e = .returned v ∧ w'.ownsRow 0 9 1 v 0 [] ∧ From w.heap.size v ∧ Chg [] w w') := by
  rcases Nat.eq_zero_or_pos n with rfl | h0
  · go_enter Tryz.func42, Tryz.ntmps42
    go_wp2_with fail
    go_ret
    exact ⟨_, rfl, World.ownsRow_nil _ _ _ _, From.nil _, Chg.refl _ _⟩
  · obtain ⟨i, hi, hz, hsize, hby⟩ := info_parts infoStrC
    obtain ⟨cap, hcap⟩ : ∃ c, c = grownCap w n 0 9 := ⟨_, rfl⟩
    obtain ⟨w2, hw2⟩ : ∃ x, x = w.drew.alloc (.cells (([] : List Value).toArray ++ Builtin.zeroCells (Value.string ⟨#[]⟩).cells n ++ Builtin.zeroCells (Value.string ⟨#[]⟩).cells (cap - n)) 9) := ⟨_, rfl⟩
    have hap : (Builtin.append_ #[22, 3] 22 #[.slice none 0 0, .int .i64 n]).run Tryz.prog w = .ok (.slice (some ⟨w.heap.size, 0, none⟩) n cap) w2 := by
      have h := Lib.run_append_grow_zeros (P := Tryz.prog) w 22 3 22 9 i (.string ⟨#[]⟩) .i64 .i64 Tryz.underlying22 Tryz.underlying3 hi hz none 0 0 [] (by rw [hsize]; simp [Builtin.firstCells, loadCells, loadCellsFrom]) n h0 (by rw [hsize]; omega) (by omega) (by omega) (by rw [hby]; omega) (by rw [hby]; exact growslice_fits (by omega) (by omega))
      simp only [Nat.zero_add] at h
      rw [hw2, hcap]
      exact h
    have hge : n ≤ cap := by rw [hcap]; exact grownCap_ge w n 0 _
    have hle : cap ≤ maxLen := by rw [hcap]; exact grownCap_le_maxLen w n 0 _ (by unfold maxLen; omega)
    have hown : w2.ownsRow 0 9 1 (.slice (some ⟨w.heap.size, 0, none⟩) 0 cap) 0 [] := ⟨rfl, .inr ⟨w.heap.size, cap, _, rfl, Nat.zero_le _, by rw [hw2]; exact heap_alloc_new w.drew _, Nat.zero_le _, hle, by
      have hz1 : (Value.string ⟨#[]⟩).cells.size = 1 := rfl
      simp only [Array.size_append, size_zeroCells, hz1]
      simp; omega, by simp⟩⟩
    have HO := Lib.hid hown; have HAP := Lib.hid hap
    have HC := Lib.hid (show Chg [] w w2 by rw [hw2]; exact ((Chg.refl [] w).drew).alloc _)
    have HF := Lib.hid (show From w.heap.size (.slice (some ⟨w.heap.size, 0, none⟩) 0 cap) from fun g hg => by simp [blk] at hg; omega)
    have hcm : cap ≤ 9223372036854775807 := by unfold maxLen at hle; omega
    clear hown hap hw2 hi hz hsize hby hcap hle
    go_enter Tryz.func42, Tryz.ntmps42
    go_wp2_with (at_builtin; go_must (refine wpL_append_run rfl _ _ 22 3 rfl _ _ _ w2 rfl rfl HAP.out ?_))
    go_wp2_with fail
    go_ret
    exact ⟨_, rfl, HO.out, HF.out, HC.out⟩
theorem strs_one (l : List (List UInt8)) : ∀ u ∈ l.map str, u.oneCell' = true := by
  intro u hu
  obtain ⟨x, _, rfl⟩ := List.mem_map.1 hu
  rfl
theorem concat_any (l1 l2 : List (List UInt8)) (h1 : l1.length ≤ 100) (h2 : l2.length ≤ 100) (bk k1 k2 : Nat) (a1 a2 : Option Addr) (F : Nat → Prop) (w : World) (d0 : w.cell? ⟨bk, 0, none⟩ = some (.slice a1 l1.length k1)) (d1 : w.cell? ⟨bk, 1, none⟩ = some (.slice a2 l2.length k2)) (hl1 : NamesAt w F l1 (.slice a1 l1.length k1)) (hl2 : NamesAt w F l2 (.slice a2 l2.length k2)) :
    Calls Tryz.prog 24 #[.slice (some ⟨bk, 0, none⟩) 2 2] w (fun e w' => ∃ v, e = .returned v ∧ NamesAt w' (New w w') (l1 ++ l2) v ∧ Chg [] w w') := by
  obtain ⟨_, _, he, _, hr1⟩ := hl1
  cases he
  obtain ⟨_, _, he, _, hr2⟩ := hl2
  cases he
  have HR1 := Lib.hid hr1; have HR2 := Lib.hid hr2
  have HG := Lib.hid (grow_any (l1.length + l2.length) (by omega) w)
  have D0 := Lib.hid d0; have D1 := Lib.hid d1
  clear hr1 hr2
  go_enter Tryz.func24, Tryz.ntmps24
  go_wp2_with fail
  refine wp_loop_rounds 3 ?_
  rw [rounds_succ]
  go_wp2_with fail
  rw [rounds_succ]
  go_wp2_with fail
  rw [rounds_succ]
  go_wp2_with fail
  refine HG.out.mono ?_; rintro _ w2 ⟨gv, rfl, hown, hf, hc⟩
  obtain ⟨ga, gc, rfl⟩ := slice_of_owns hown
  have HO := Lib.hid hown; have HF := Lib.hid hf; have HC := Lib.hid hc
  clear d0 d1
  have d0 := hc.cellSome D0.out (by simp)
  have HAT1 := Lib.hid ((HR1.out.kept hc (by simp)).at_)
  clear hown hf hc
  go_wp2_with fail
  refine wp_loop_rounds 3 ?_
  rw [rounds_succ]
  go_wp2_with (at_builtin; go_must (refine wpL_append_any rfl _ _ 22 rfl 9 _ 1 16 infoStrC Tryz.underlying22 rfl (by decide) _ 0 [] rfl HO.out a1 l1.length k1 (l1.map str) rfl (by simp) HAT1.out (strs_one l1) (by omega) (by unfold maxLen; omega) ?_))
  intro v3 w3 hown3 hc3 hm3
  obtain ⟨ga3, gc3, rfl⟩ := slice_of_owns hown3
  have hcw3 : Chg [] w w3 := HC.out.trans hc3 (fun x hx => .inr (by have := HF.out x hx; omega))
  have HF3 := Lib.hid (show From w.heap.size (.slice ga3 l1.length gc3) from HF.out.moved hm3 HC.out.size)
  have HO3 := Lib.hid hown3; have HC3 := Lib.hid hcw3
  have HAT2 := Lib.hid ((HR2.out.kept hcw3 (by simp)).at_)
  have hs3 := hcw3.size
  clear d0
  have d1 := hcw3.cellSome D1.out (by simp)
  clear hown3 hc3 hm3 hcw3
  go_wp2_with fail
  rw [rounds_succ]
  go_wp2_with (at_builtin; go_must (refine wpL_append_any rfl _ _ 22 rfl 9 _ 1 16 infoStrC Tryz.underlying22 rfl (by decide) _ l1.length (l1.map str) rfl HO3.out a2 l2.length k2 (l2.map str) rfl (by simp) HAT2.out (strs_one l2) (by omega) (by unfold maxLen; omega) ?_))
  intro v4 w4 hown4 hc4 hm4
  have hcw4 : Chg [] w w4 := HC3.out.trans hc4 (fun x hx => .inr (by have := HF3.out x hx; omega))
  have hf4 : From w.heap.size v4 := HF3.out.moved hm4 hs3
  have HNM := Lib.hid (show NamesAt w4 (New w w4) (l1 ++ l2) v4 by
    obtain ⟨a, c, rfl, hac, hrow⟩ := Row.of_owns hown4 (F := New w w4) (fun g hg => ⟨hf4 g hg, owns_lt hown4 g hg⟩)
    refine ⟨a, c, by simp, by simpa using hac, ?_⟩
    rw [List.map_append]
    simpa using hrow)
  have HC4 := Lib.hid hcw4
  clear hown4 hc4 hm4 hcw4 hf4
  go_wp2_with fail
  rw [rounds_succ]
  go_wp2_with fail
  go_ret
  exact ⟨_, rfl, HNM.out, HC4.out⟩
end Go.Proofs.YtoeblajmelbbmaaGreatDoor
