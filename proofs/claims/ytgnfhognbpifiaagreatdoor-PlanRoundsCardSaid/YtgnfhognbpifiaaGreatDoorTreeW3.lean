/- The parser's name. -/
import Derived.Test.YtgnfhognbpifiaaGreatDoorTreeW2
namespace Go.Mq.Tree
open Go Go.RowKit Go.Mq
theorem Ended.relay {α β : Type} {w w1 w2 : World} {B bp bt z en p : Nat} {V : World → α → Value → Prop} {V' : World → β → Value → Prop} {e : Ending} (hc : Chg [bp] w w1) (h : Ended w1 B bp bt z (.bad en p : R α) V e w2) : Ended w B bp bt z (.bad en p : R β) V' e w2 := by
  obtain ⟨hc2, b, he, hb, hB⟩ := h
  exact ⟨hc.then hc2, b, he, Nat.le_trans hc.size hb, hB⟩
theorem Ended.thrown {α : Type} {w w2 : World} {B bp bt z en p : Nat} {V : World → α → Value → Prop} {e : Ending} (h : Ended w B bp bt z (.bad en p : R α) V e w2) : ∃ b, e = .panicked [{ v := .iface 66 (.agg #[.iface 124 (ptr b)]), recovered := false }] := by
  obtain ⟨_, b, he, _⟩ := h
  exact ⟨b, he⟩
end Go.Mq.Tree
namespace Go.Proofs.YtgnfhognbpifiaaGreatDoor
open Go Go.RowKit Go.Mq Go.Mq.Tree
set_option maxRecDepth 100000
set_option maxHeartbeats 2000000
/-- The fields of the token, laid anew. -/
theorem tok_new {w w1 : World} {k t p : Value} {ty : TypeId} (hc : Chg [] (w.alloc (.cells #[k, t, p] ty)) w1) : w1.cell? ⟨w.heap.size, 0, none⟩ = some k ∧ w1.cell? ⟨w.heap.size, 1, none⟩ = some t ∧ w1.cell? ⟨w.heap.size, 2, none⟩ = some p ∧ Chg [] w w1 := by
  have hb := Blk.new w #[k, t, p] ty
  exact ⟨hc.cellSome (hb.cell 0 _ rfl) (by simp), hc.cellSome (hb.cell 1 _ rfl) (by simp), hc.cellSome (hb.cell 2 _ rfl) (by simp), ((Chg.refl [] w).alloc _).then hc⟩

theorem name_any (w : World) (B bp bt z : Nat) (ts : List Tok) (h : Par w B bp bt z ts) :
    Calls Tryz.prog 63 #[ptr bp] w (Ended w B bp bt z (name z ts) (fun _ n v => v = str n)) := by
  have H := Lib.hid h
  cases ts with
  | nil =>
    obtain ⟨off, c, c0, c1, c2, hl⟩ := par_nil h
    have c1' : w.cell? ⟨bt, off + 1, none⟩ = some (str []) := by
      obtain ⟨off', c', hb', hl', hc'⟩ := h.at_
      have e := (hb'.cell 0 _ rfl).symm.trans c0
      simp at e
      rw [← e.1]
      exact hc' 1 _ rfl
    clear h
    go_enter Tryz.func63, Tryz.ntmps63
    go_wp2_with fail
    have hc := (Chg.refl [bp] w).alloc (.cells #[.int .i64 4, str [], .int .i64 z] 76)
    refine (fail_any 3 _ B bp bt z [] (H.out.kept ((Chg.refl [] w).alloc _) (by simp) (by simp) (by simp))).mono ?_; intro e w2 he
    have HE := Lib.hid he
    obtain ⟨b, rfl⟩ := he.thrown
    have HC := Lib.hid hc; clear hc he
    go_wp2_with fail
    exact ⟨rfl, HE.out.relay HC.out⟩
  | cons t r =>
    obtain ⟨off, c, hb, c0, c1, c2, c3, hl, hcs⟩ := par_cons h
    have hf := hb.frozen 0
    have HT := Lib.hid (par_tail h hb hl hcs)
    have hP := h.kept ((Chg.refl [] w).alloc (.cells #[.int .i64 t.kind.num, str t.text, .int .i64 t.pos] 76)) (by simp) (by simp) (by simp)
    have HP := Lib.hid hP
    have hne := h.ne
    have hbp : bp < w.heap.size := hb.lt
    have HB := Lib.hid (And.intro hb hl)
    have HK := Lib.hid (kept_any t.text)
    have HS := Lib.hid hcs
    clear hb hl hcs hP
    cases hkd : decide (t.kind = .word) with
    | false =>
      have hk : ((t.kind.num : Int) != 1) = true := by cases hq : t.kind <;> simp_all [Kind.num]
      have HR := Lib.hid (show name z (t :: r) = .bad 3 t.pos by rw [name, if_pos (.inl (of_decide_eq_false hkd))])
      clear h hkd
      go_enter Tryz.func63, Tryz.ntmps63
      go_wp2_with fail
      refine (fail_any 3 _ B bp bt z (t :: r) HP.out).mono ?_; intro e w2 he
      have HE := Lib.hid he
      obtain ⟨b, rfl⟩ := he.thrown
      clear he
      go_wp2_with fail
      refine ⟨rfl, ?_⟩
      rw [HR.out]
      exact HE.out.relay ((Chg.refl _ _).alloc _)
    | true =>
      have hk : ((t.kind.num : Int) != 1) = false := by cases hq : t.kind <;> simp_all [Kind.num]
      have HW := Lib.hid (of_decide_eq_true hkd)
      clear h hkd
      cases hkp : kept t.text with
      | true =>
        have HR := Lib.hid (show name z (t :: r) = .bad 3 t.pos by rw [name, if_pos (.inr hkp)])
        have HKP := Lib.hid hkp
        clear hkp
        go_enter Tryz.func63, Tryz.ntmps63
        go_wp2_with fail
        refine (HK.out _).mono ?_; rintro _ w1 ⟨rfl, hc⟩
        rw [HKP.out]
        have HC := Lib.hid hc; clear hc
        go_wp2_with fail
        refine (fail_any 3 _ B bp bt z (t :: r) (HP.out.kept HC.out (by simp) (by simp) (by simp))).mono ?_; intro e w2 he
        have HE := Lib.hid he
        obtain ⟨b, rfl⟩ := he.thrown
        clear he
        go_wp2_with fail
        refine ⟨rfl, ?_⟩
        rw [HR.out]
        exact HE.out.relay (((Chg.refl [bp] w).alloc _).then HC.out.weak)
      | false =>
        cases hln : decide (10 < t.text.length) with
        | true =>
          have hln' : decide ((10 : Int) < (t.text.length : Int)) = true := by have := of_decide_eq_true hln; exact decide_eq_true (by omega)
          have HR := Lib.hid (show name z (t :: r) = .bad 4 t.pos by rw [name, if_neg (by simp [HW.out, hkp]), if_pos (of_decide_eq_true hln)])
          have HKP := Lib.hid hkp
          clear hkp hln
          go_enter Tryz.func63, Tryz.ntmps63
          go_wp2_with fail
          refine (HK.out _).mono ?_; rintro _ w1 ⟨rfl, hc⟩
          rw [HKP.out]
          have HC := Lib.hid hc
          obtain ⟨d0, d1, d2, hc0⟩ := tok_new hc
          clear hc
          have HC0 := Lib.hid hc0; clear hc0
          go_wp2_with fail
          refine (fail_any 4 _ B bp bt z (t :: r) (HP.out.kept HC.out (by simp) (by simp) (by simp))).mono ?_; intro e w2 he
          have HE := Lib.hid he
          obtain ⟨b, rfl⟩ := he.thrown
          clear he
          go_wp2_with fail
          refine ⟨rfl, ?_⟩
          rw [HR.out]
          exact HE.out.relay (((Chg.refl [bp] w).alloc _).then HC.out.weak)
        | false =>
          have hln' : decide ((10 : Int) < (t.text.length : Int)) = false := by have := of_decide_eq_false hln; exact decide_eq_false (by omega)
          have HR := Lib.hid (show name z (t :: r) = .ok t.text r by rw [name, if_neg (by simp [HW.out, hkp]), if_neg (of_decide_eq_false hln)])
          have HKP := Lib.hid hkp
          have hnb : w.heap.size ≠ bp := by omega
          have hl := HB.out.2
          clear hkp hln
          go_enter Tryz.func63, Tryz.ntmps63
          go_wp2_with fail
          refine (HK.out _).mono ?_; rintro _ w1 ⟨rfl, hc⟩
          rw [HKP.out]
          obtain ⟨d0, d1, d2, hc0⟩ := tok_new hc
          clear hc
          have hb1 := HB.out.1.kept hc0 (by simp)
          have e0 := hb1.cell 0 _ rfl
          have ef := hb1.frozen 0
          have hp1 := H.out.kept hc0 (by simp) (by simp) (by simp)
          have HT1 := Lib.hid (par_tail hp1 hb1 HB.out.2 (fun i v hi => hc0.cellSome (HS.out i v hi) (by simp)))
          have HC0 := Lib.hid hc0; clear hc0 hp1 hb1
          go_wp2_with fail
          go_ret
          rw [HR.out]
          exact ⟨HC0.out.weak.then HT1.out.2, _, rfl, rfl, HT1.out.1⟩
end Go.Proofs.YtgnfhognbpifiaaGreatDoor
