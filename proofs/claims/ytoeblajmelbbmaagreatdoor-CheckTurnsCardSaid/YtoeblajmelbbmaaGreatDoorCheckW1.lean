/- Package check's small functions: what throws, what came once, what a list holds. -/
import Derived.Test.YtoeblajmelbbmaaGreatDoorCheckMem
namespace Go.Mq.Check
open Go Go.RowKit Go.Mq Go.Mq.Tree Go.Mq.Sym
theorem getD_had {es : List (List UInt8 × Value)} {had : List (List UInt8)} {n : List UInt8} (h : ∀ n, getM es n = if n ∈ had then some (.bool true) else none) : (getM es n).getD (.bool false) = .bool (decide (n ∈ had)) := by
  rw [h]
  by_cases hn : n ∈ had <;> simp [hn]
end Go.Mq.Check
namespace Go.Proofs.YtoeblajmelbbmaaGreatDoor
open Go Go.RowKit Go.Mq Go.Mq.Tree Go.Mq.Sym Go.Mq.Check
set_option maxRecDepth 100000
set_option maxHeartbeats 2000000
theorem zero_bool (w : World) : (zeroValue 4).run Tryz.prog w = .ok (.bool false) w := by kernel_rfl
theorem zero_syms (w : World) : (zeroValue 45).run Tryz.prog w = .ok nils w := by kernel_rfl
theorem cfail_any (en p : Nat) (w : World) : Calls Tryz.prog 41 #[.int .i64 en, .int .i64 p] w (Looked [] w (some (en, p))) := by
  go_enter Tryz.func41, Tryz.ntmps41
  go_wp2_with fail
  exact ⟨rfl, (Chg.refl _ _).alloc _, w.heap.size, rfl, Nat.le_refl _, Blk.new _ _ _⟩
theorem once_any (had : List (List UInt8)) (n : List UInt8) (p b : Nat) (w : World) (h : HadIs w b had) :
    Calls Tryz.prog 23 #[.map (some b), str n, .int .i64 p] w (fun e w' => if n ∈ had then Looked [b] w (some (9, p)) e w' else e = .returned (.tuple #[]) ∧ Chg [b] w w' ∧ HadIs w' b (n :: had)) := by
  obtain ⟨es, hm, hes⟩ := h
  have hl := run_getM (P := Tryz.prog) Tryz.underlying72 Tryz.underlying9 (zero_bool w) hm n
  rw [getD_had hes] at hl
  by_cases hn : n ∈ had
  · rw [show decide (n ∈ had) = true by simpa using hn] at hl
    simp only [if_pos hn]
    have HF := Lib.hid (cfail_any 9 p w)
    clear hm hes hn
    go_enter Tryz.func23, Tryz.ntmps23
    go_wp2_with fail
    refine HF.out.mono ?_
    rintro _ w1 ⟨hc, b1, rfl, hlt, hb⟩
    have HC := Lib.hid hc; have HB := Lib.hid hb
    clear hc hb
    go_wp2_with fail
    exact ⟨rfl, HC.out.mono (by simp), b1, rfl, hlt, HB.out⟩
  · rw [show decide (n ∈ had) = false by simpa using hn] at hl
    simp only [if_neg hn]
    obtain ⟨w', hu, hm', hc'⟩ := run_putM (P := Tryz.prog) Tryz.underlying72 Tryz.underlying9 hm n (.bool true)
    have HM := Lib.hid (show HadIs w' b (n :: had) from ⟨_, hm', fun x => by
      rw [getM_put, hes]
      by_cases hx : n = x
      · subst hx; simp
      · rw [if_neg hx]; simp [Ne.symm hx]⟩)
    have HC := Lib.hid hc'
    clear hm hes hn hm' hc'
    go_enter Tryz.func23, Tryz.ntmps23
    go_wp2_with fail
    refine bodyPost_end (results_none rfl _ _ _) rfl ?_
    exact ⟨rfl, HC.out, HM.out⟩
theorem indexs_in (l : List (List UInt8)) (hl : l.length ≤ 1000) (n : List UInt8) (F : Nat → Prop) (v : Value) (w : World) (h : NamesAt w F l v) :
    Calls Tryz.prog 40 #[v, str n] w (fun e w' => ∃ r : Int, e = .returned (.int .i64 r) ∧ -1 ≤ r ∧ r ≤ 1000 ∧ decide (0 ≤ r) = decide (n ∈ l) ∧ w' = w) := by
  obtain ⟨a, c, rfl, hac, hrow⟩ := h
  have HROW := Lib.hid hrow
  clear hrow
  go_enter Tryz.func40, Tryz.ntmps40
  go_wp2_with fail
  go_loopw [5, 8] (fun _ i wr => ∃ k : Nat, i = .int .i64 k ∧ k ≤ l.length ∧ w = wr ∧ ∀ (i : Nat) (x : List UInt8), i < k → l[i]? = some x → x ≠ n) (fun _ i _ => l.length - (intOf i).toNat)
  case atStart => exact ⟨0, rfl, Nat.zero_le _, rfl, fun i x hi => by omega⟩
  case round =>
    obtain ⟨k, rfl, hk, rfl, hno⟩ := hrel
    have HNO := Lib.hid hno
    clear hno
    by_cases hlt : k < l.length
    · obtain ⟨x, hs⟩ : ∃ x, l[k]? = some x := ⟨l[k], List.getElem?_eq_getElem hlt⟩
      obtain ⟨b, o, rfl, d0⟩ := names_cell HROW.out hs
      have HS := Lib.hid hs
      clear hs
      cases hq : (n == x) with
      | true =>
        have HIN := Lib.hid (show n ∈ l by
          have : n = x := by simpa using hq
          rw [this]; exact List.mem_of_getElem? HS.out)
        go_wp2_with fail
        go_ret
        exact ⟨k, rfl, by omega, by omega, by simp [HIN.out], rfl⟩
      | false =>
        have HN := Lib.hid (show x ≠ n by intro h; subst h; simp at hq)
        go_wp2_with fail
        refine ⟨⟨k + 1, by go_num, by omega, by first | rfl | trivial, fun i y hi hx => ?_⟩, by simp [intOf]; omega⟩
        by_cases he : i < k
        · exact HNO.out i y he hx
        · have : i = k := by omega
          subst this
          rw [HS.out] at hx
          cases hx
          exact HN.out
    · have hall : n ∉ l := fun hn => by
        obtain ⟨i, hi⟩ := List.getElem?_of_mem hn
        exact HNO.out i n (by have := (List.getElem?_eq_some_iff.1 hi).1; omega) hi rfl
      have HA := Lib.hid hall
      clear hall
      go_wp2_with fail
      go_ret
      exact ⟨-1, rfl, by omega, by omega, by simp [HA.out], rfl⟩
theorem contains_in (l : List (List UInt8)) (hl : l.length ≤ 1000) (n : List UInt8) (F : Nat → Prop) (v : Value) (w : World) (h : NamesAt w F l v) :
    Calls Tryz.prog 22 #[v, str n] w (fun e w' => e = .returned (.bool (decide (n ∈ l))) ∧ w' = w) := by
  have HI := Lib.hid (indexs_in l hl n F v w h)
  clear h
  go_enter Tryz.func22, Tryz.ntmps22
  go_wp2_with fail
  refine HI.out.mono ?_; rintro _ w1 ⟨r, rfl, h0, h1, hq, hw⟩
  have HQ := Lib.hid hq; have HW := Lib.hid hw
  clear hq hw
  go_wp2_with fail
  go_ret
  exact ⟨by rw [← HQ.out]; simp, HW.out⟩
theorem isg_any (g : Glob) (n : List UInt8) (be b0 : Nat) (c0 c1 c2 c3 c5 c6 c7 c8 : Value) (w : World) (hx : w.cell? ⟨b0, 0, none⟩ = some (ptr be)) (hb : Blk w be #[c0, c1, c2, c3, str n, c5, c6, c7, c8] 125) :
    Calls Tryz.prog 79 #[.agg #[str g.name, .int .i64 g.pos, .int .i64 g.len, .bool g.seen], ptr b0] w (fun e w' => e = .returned (.bool (g.name == n)) ∧ Chg [] w w') := by
  have hx' := ((Chg.refl [] w).alloc (.cells #[str g.name, .int .i64 g.pos, .int .i64 g.len, .bool g.seen] 42)).cellSome hx (by simp)
  have d4 := ((Chg.refl [] w).alloc (.cells #[str g.name, .int .i64 g.pos, .int .i64 g.len, .bool g.seen] 42)).cellSome (hb.cell 4 _ rfl) (by simp)
  have n0 : b0 ≠ w.heap.size := by have := lt_of_cell hx; simp at this; omega
  have n1 : be ≠ w.heap.size := by have := hb.lt; omega
  have z := Blk.new w #[str g.name, .int .i64 g.pos, .int .i64 g.len, .bool g.seen] 42
  have z0 := z.cell 0 _ rfl
  clear hx hb z
  go_enter Tryz.func79, Tryz.ntmps79
  go_wp2_with fail
  go_region
  all_goals (try go_wp2_with fail)
  all_goals go_ret
  all_goals exact ⟨rfl, ((Chg.refl _ _).alloc _).drew⟩
end Go.Proofs.YtoeblajmelbbmaaGreatDoor
