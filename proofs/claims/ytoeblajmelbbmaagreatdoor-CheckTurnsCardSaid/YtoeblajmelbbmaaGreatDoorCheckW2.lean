/- What a name stands for: where it is in a list. -/
import Derived.Test.YtoeblajmelbbmaaGreatDoorCheckW1
namespace Go.Mq.Check
open Go Go.RowKit Go.Mq Go.Mq.Tree Go.Mq.Sym
theorem split_at {α : Type} {l : List α} {k : Nat} {x : α} (h : l[k]? = some x) : l = l.take k ++ x :: l.drop (k + 1) ∧ (l.take k).length = k := by
  obtain ⟨hk, he⟩ := List.getElem?_eq_some_iff.1 h
  refine ⟨?_, by simp; omega⟩
  rw [← he, ← List.drop_eq_getElem_cons hk, List.take_append_drop]
theorem flat4 : ∀ l : List Glob, (l.flatMap Glob.cells).length = l.length * 4
  | [] => rfl
  | x :: r => by rw [List.flatMap_cons, List.length_append, flat4 r]; simp [Glob.cells]; omega
theorem glob_cells {w : World} {F : Nat → Prop} {a : Option Addr} {l : List Glob} (h : Row w F a (l.flatMap Glob.cells)) {k : Nat} {g : Glob} (hk : l[k]? = some g) :
    ∃ bb off, a = some ⟨bb, off, none⟩ ∧ w.cell? ⟨bb, off + k * 4, none⟩ = some (str g.name) ∧ w.cell? ⟨bb, off + k * 4 + 1, none⟩ = some (.int .i64 g.pos) ∧ w.cell? ⟨bb, off + k * 4 + 2, none⟩ = some (.int .i64 g.len) ∧ w.cell? ⟨bb, off + k * 4 + 3, none⟩ = some (.bool g.seen) := by
  obtain ⟨h1, h2⟩ := split_at hk
  rw [h1, List.flatMap_append, List.flatMap_cons] at h
  exact cells4S (cs' := (l.drop (k + 1)).flatMap Glob.cells) h (by rw [flat4, h2])
theorem prsL_at : ∀ {l : List Proc} {cs : List Value} {k : Nat} {x : Proc}, PrsL l cs → l[k]? = some x → ∃ cs1 c cs', cs = cs1 ++ (c ++ cs') ∧ cs1.length = k * 6 ∧ PrL x c
  | [], _, _, _, _, hk => by simp at hk
  | y :: r, _, 0, x, h, hk => by
    obtain ⟨c1, c2, rfl, h1, h2⟩ := h
    simp at hk; subst hk
    exact ⟨[], c1, c2, rfl, rfl, h1⟩
  | y :: r, _, k + 1, x, h, hk => by
    obtain ⟨c1, c2, rfl, ⟨_, _, _, _, _, _, _, _, _, rfl⟩, h2⟩ := h
    obtain ⟨cs1, c, cs', rfl, hl, hp⟩ := prsL_at h2 (by simpa using hk)
    exact ⟨_ ++ cs1, c, cs', by rw [List.append_assoc], by simp [hl]; omega, hp⟩
theorem proc_cells {w : World} {F : Nat → Prop} {l : List Proc} {v : Value} (h : ProcsL w F l v) {k : Nat} {x : Proc} (hk : l[k]? = some x) :
    ∃ (bb off c : Nat) (pos : Int) (a1 : Option Addr) (k1 : Nat) (a2 : Option Addr) (n2 k2 : Nat) (a3 : Option Addr) (n3 k3 : Nat), v = .slice (some ⟨bb, off, none⟩) l.length c ∧ l.length ≤ c ∧ w.cell? ⟨bb, off + k * 6, none⟩ = some (str x.name) ∧ w.cell? ⟨bb, off + k * 6 + 1, none⟩ = some (.int .i64 pos) ∧
      w.cell? ⟨bb, off + k * 6 + 2, none⟩ = some (.bool x.seen) ∧ w.cell? ⟨bb, off + k * 6 + 3, none⟩ = some (.slice a1 x.params.length k1) ∧ w.cell? ⟨bb, off + k * 6 + 4, none⟩ = some (.slice a2 n2 k2) ∧ w.cell? ⟨bb, off + k * 6 + 5, none⟩ = some (.slice a3 n3 k3) := by
  obtain ⟨a, c, cs, rfl, hlc, hrow, hps⟩ := h
  obtain ⟨cs1, d, cs', rfl, hl, pos, a1, k1, a2, n2, k2, a3, n3, k3, rfl⟩ := prsL_at hps hk
  obtain ⟨bb, off, rfl, d0, d1, d2, d3, d4, d5⟩ := cells6S (cs' := cs') hrow hl
  exact ⟨bb, off, c, pos, a1, k1, a2, n2, k2, a3, n3, k3, rfl, hlc, d0, d1, d2, d3, d4, d5⟩
theorem find_at {α : Type} {f : α → Bool} {l : List α} {k : Nat} {x : α} (hk : l[k]? = some x) (hx : f x = true) (hb : ∀ (i : Nat) (y : α), i < k → l[i]? = some y → f y = false) : l.find? f = some x := by
  obtain ⟨h1, h2⟩ := split_at hk
  rw [h1, List.find?_append]
  have : (l.take k).find? f = none := List.find?_eq_none.2 fun y hy => by
    obtain ⟨i, hi⟩ := List.getElem?_of_mem hy
    have hik : i < k := by have := (List.getElem?_eq_some_iff.1 hi).1; omega
    rw [List.getElem?_take_of_lt hik] at hi
    rw [hb i y hik hi]; simp
  rw [this]
  simp [hx]
theorem find_no {α : Type} {f : α → Bool} {l : List α} (hb : ∀ (i : Nat) (y : α), l[i]? = some y → f y = false) : l.find? f = none := List.find?_eq_none.2 fun y hy => by
  obtain ⟨i, hi⟩ := List.getElem?_of_mem hy
  rw [hb i y hi]; simp
/-- Where the first one is, as IndexFunc tells it. -/
def At1 {α : Type} (l : List α) (f : α → Bool) (e : Ending) : Prop := match l.find? f with
  | none => e = .returned (.int .i64 (-1))
  | some x => ∃ k : Nat, l[k]? = some x ∧ e = .returned (.int .i64 k)
/-- What find hands back, or throws. -/
def FoundAt (w : World) (g : Got) (e : Ending) (w' : World) : Prop := match g with
  | .is s => Chg [] w w' ∧ e = .returned (.agg #[str s.name, .int .i64 s.len, .int .i64 s.args])
  | .bad en p => Looked [] w (some (en, p)) e w'
end Go.Mq.Check
namespace Go.Proofs.YtoeblajmelbbmaaGreatDoor
open Go Go.RowKit Go.Mq Go.Mq.Tree Go.Mq.Sym Go.Mq.Check
set_option maxRecDepth 100000
set_option maxHeartbeats 2000000
theorem isp_any (x : Proc) (n : List UInt8) (pos : Int) (a1 : Option Addr) (k1 : Nat) (a2 : Option Addr) (n2 k2 : Nat) (a3 : Option Addr) (n3 k3 : Nat) (be b0 : Nat) (c0 c1 c2 c3 c5 c6 c7 c8 : Value) (w : World) (hx : w.cell? ⟨b0, 0, none⟩ = some (ptr be)) (hb : Blk w be #[c0, c1, c2, c3, str n, c5, c6, c7, c8] 125) :
    Calls Tryz.prog 81 #[.agg #[str x.name, .int .i64 pos, .bool x.seen, .slice a1 x.params.length k1, .slice a2 n2 k2, .slice a3 n3 k3], ptr b0] w (fun e w' => e = .returned (.bool (x.name == n)) ∧ Chg [] w w') := by
  have hx' := ((Chg.refl [] w).alloc (.cells #[str x.name, .int .i64 pos, .bool x.seen, .slice a1 x.params.length k1, .slice a2 n2 k2, .slice a3 n3 k3] 39)).cellSome hx (by simp)
  have d4 := ((Chg.refl [] w).alloc (.cells #[str x.name, .int .i64 pos, .bool x.seen, .slice a1 x.params.length k1, .slice a2 n2 k2, .slice a3 n3 k3] 39)).cellSome (hb.cell 4 _ rfl) (by simp)
  have n0 : b0 ≠ w.heap.size := by have := lt_of_cell hx; simp at this; omega
  have n1 : be ≠ w.heap.size := by have := hb.lt; omega
  have z := Blk.new w #[str x.name, .int .i64 pos, .bool x.seen, .slice a1 x.params.length k1, .slice a2 n2 k2, .slice a3 n3 k3] 39
  have z0 := z.cell 0 _ rfl
  clear hx hb z
  go_enter Tryz.func81, Tryz.ntmps81
  go_wp2_with fail
  go_region
  all_goals (try go_wp2_with fail)
  all_goals go_ret
  all_goals exact ⟨rfl, ((Chg.refl _ _).alloc _).drew⟩
theorem indexg_any (l : List Glob) (hl : l.length ≤ 1000) (n : List UInt8) (be b0 : Nat) (c0 c1 c2 c3 c5 c6 c7 c8 : Value) (F : Nat → Prop) (v : Value) (w : World) (h : GlobsAt w F l v) (hx : w.cell? ⟨b0, 0, none⟩ = some (ptr be)) (hb : Blk w be #[c0, c1, c2, c3, str n, c5, c6, c7, c8] 125) :
    Calls Tryz.prog 78 #[v, .func (.func 79) #[] #[ptr b0]] w (fun e w' => At1 l (fun g => g.name == n) e ∧ Chg [] w w') := by
  obtain ⟨a, c, rfl, hac, hrow⟩ := h
  have HROW := Lib.hid hrow; have HX := Lib.hid hx; have HB := Lib.hid hb
  clear hrow hx hb
  go_enter Tryz.func78, Tryz.ntmps78
  go_wp2_with fail
  go_loopw [5, 8] (fun _ i wr => ∃ k : Nat, i = .int .i64 k ∧ k ≤ l.length ∧ Chg [] w wr ∧ ∀ (i : Nat) (x : Glob), i < k → l[i]? = some x → (x.name == n) = false) (fun _ i _ => l.length - (intOf i).toNat)
  case atStart => exact ⟨0, rfl, Nat.zero_le _, Chg.refl _ _, fun i x hi => by omega⟩
  case round =>
    obtain ⟨k, rfl, hk, hc, hno⟩ := hrel
    have HNO := Lib.hid hno; have HC := Lib.hid hc
    clear hno hc
    by_cases hlt : k < l.length
    · obtain ⟨s, hs⟩ : ∃ s, l[k]? = some s := ⟨l[k], List.getElem?_eq_getElem hlt⟩
      obtain ⟨bb, off, rfl, d0, d1, d2, d3⟩ := glob_cells (HROW.out.kept HC.out (by simp)) hs
      have HS := Lib.hid hs
      have HI := Lib.hid (isg_any s n be b0 c0 c1 c2 c3 c5 c6 c7 c8 wr (HC.out.cellSome HX.out (by simp)) (HB.out.kept HC.out (by simp)))
      clear hs
      cases hq : (s.name == n) with
      | true =>
        rw [hq] at HI
        have HR := Lib.hid (show l.find? (fun g => g.name == n) = some s from find_at HS.out hq HNO.out)
        clear hq
        go_wp2_with fail
        refine HI.out.mono ?_; rintro _ w2 ⟨rfl, hq⟩
        have HQ := Lib.hid (HC.out.then hq); clear hq
        go_wp2_with fail
        go_ret
        refine ⟨?_, HQ.out⟩
        rw [At1, HR.out]
        exact ⟨k, HS.out, rfl⟩
      | false =>
        rw [hq] at HI
        have HN := Lib.hid hq
        clear hq
        go_wp2_with fail
        refine HI.out.mono ?_; rintro _ w2 ⟨rfl, hq⟩
        have HQ := Lib.hid (HC.out.then hq); clear hq
        go_wp2_with fail
        refine ⟨⟨k + 1, by go_num, by omega, HQ.out, fun i x hi hx => ?_⟩, by simp [intOf]; omega⟩
        by_cases he : i < k
        · exact HNO.out i x he hx
        · have : i = k := by omega
          subst this
          rw [HS.out] at hx
          cases hx
          exact HN.out
    · have HR := Lib.hid (show l.find? (fun g => g.name == n) = none from find_no fun i x hx => HNO.out i x (by have := (List.getElem?_eq_some_iff.1 hx).1; omega) hx)
      go_wp2_with fail
      go_ret
      exact ⟨by rw [At1, HR.out] <;> rfl, HC.out⟩
theorem indexp_any (l : List Proc) (hl : l.length ≤ 1000) (n : List UInt8) (be b0 : Nat) (c0 c1 c2 c3 c5 c6 c7 c8 : Value) (F : Nat → Prop) (v : Value) (w : World) (h : ProcsL w F l v) (hx : w.cell? ⟨b0, 0, none⟩ = some (ptr be)) (hb : Blk w be #[c0, c1, c2, c3, str n, c5, c6, c7, c8] 125) :
    Calls Tryz.prog 80 #[v, .func (.func 81) #[] #[ptr b0]] w (fun e w' => At1 l (fun g => g.name == n) e ∧ Chg [] w w') := by
  have HPR := Lib.hid h
  obtain ⟨a, c, cs, rfl, hac, hrow, hps⟩ := h
  have HX := Lib.hid hx; have HB := Lib.hid hb
  clear hrow hx hb hps
  go_enter Tryz.func80, Tryz.ntmps80
  go_wp2_with fail
  go_loopw [5, 8] (fun _ i wr => ∃ k : Nat, i = .int .i64 k ∧ k ≤ l.length ∧ Chg [] w wr ∧ ∀ (i : Nat) (x : Proc), i < k → l[i]? = some x → (x.name == n) = false) (fun _ i _ => l.length - (intOf i).toNat)
  case atStart => exact ⟨0, rfl, Nat.zero_le _, Chg.refl _ _, fun i x hi => by omega⟩
  case round =>
    obtain ⟨k, rfl, hk, hc, hno⟩ := hrel
    have HNO := Lib.hid hno; have HC := Lib.hid hc
    clear hno hc
    by_cases hlt : k < l.length
    · obtain ⟨s, hs⟩ : ∃ s, l[k]? = some s := ⟨l[k], List.getElem?_eq_getElem hlt⟩
      obtain ⟨bb, off, cc, pos, a1, k1, a2, n2, k2, a3, n3, k3, hv, _, d0, d1, d2, d3, d4, d5⟩ := proc_cells (HPR.out.kept HC.out (by simp)) hs
      simp only [Value.slice.injEq, true_and] at hv
      obtain ⟨rfl, rfl⟩ := hv
      have HS := Lib.hid hs
      have HI := Lib.hid (isp_any s n pos a1 k1 a2 n2 k2 a3 n3 k3 be b0 c0 c1 c2 c3 c5 c6 c7 c8 wr (HC.out.cellSome HX.out (by simp)) (HB.out.kept HC.out (by simp)))
      clear hs
      cases hq : (s.name == n) with
      | true =>
        rw [hq] at HI
        have HR := Lib.hid (show l.find? (fun g => g.name == n) = some s from find_at HS.out hq HNO.out)
        clear hq
        go_wp2_with fail
        refine HI.out.mono ?_; rintro _ w2 ⟨rfl, hq⟩
        have HQ := Lib.hid (HC.out.then hq); clear hq
        go_wp2_with fail
        go_ret
        refine ⟨?_, HQ.out⟩
        rw [At1, HR.out]
        exact ⟨k, HS.out, rfl⟩
      | false =>
        rw [hq] at HI
        have HN := Lib.hid hq
        clear hq
        go_wp2_with fail
        refine HI.out.mono ?_; rintro _ w2 ⟨rfl, hq⟩
        have HQ := Lib.hid (HC.out.then hq); clear hq
        go_wp2_with fail
        refine ⟨⟨k + 1, by go_num, by omega, HQ.out, fun i x hi hx => ?_⟩, by simp [intOf]; omega⟩
        by_cases he : i < k
        · exact HNO.out i x he hx
        · have : i = k := by omega
          subst this
          rw [HS.out] at hx
          cases hx
          exact HN.out
    · have HR := Lib.hid (show l.find? (fun g => g.name == n) = none from find_no fun i x hx => HNO.out i x (by have := (List.getElem?_eq_some_iff.1 hx).1; omega) hx)
      go_wp2_with fail
      go_ret
      exact ⟨by rw [At1, HR.out] <;> rfl, HC.out⟩
end Go.Proofs.YtoeblajmelbbmaaGreatDoor
