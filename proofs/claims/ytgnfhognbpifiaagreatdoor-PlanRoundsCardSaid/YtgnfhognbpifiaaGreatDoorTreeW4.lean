/- The parser's number. -/
import Derived.Test.YtgnfhognbpifiaaGreatDoorTreeW3
import Derived.Test.YtgnfhognbpifiaaGreatDoorShelf
namespace Go.Proofs.YtgnfhognbpifiaaGreatDoor
open Go Go.RowKit Go.Mq Go.Mq.Tree
set_option maxRecDepth 100000
set_option maxHeartbeats 2000000
/-- What ParseInt hands back of these digits. -/
def IntOf (t : List UInt8) (e : Ending) : Prop := match Lib.parseIntB 64 t with
  | .ok v => e = .returned (.tuple #[.int .i64 v, .nilIface])
  | _ => ∃ n T b, e = .returned (.tuple #[.int .i64 n, .iface T (.pointer (some ⟨b, 0, none⟩))])
theorem parseInt_any (t : List UInt8) (w : World) (B : Nat) (hL : Laid w B) (ht : t.length ≤ 1099511627776) :
    Calls Tryz.prog 99 #[str t, .int .i64 10, .int .i64 64] w (fun e w' => Chg [] w w' ∧ IntOf t e) := by
  have hd : (bs t).data.toList = t := rfl
  have hz : (bs t).size = t.length := rfl
  unfold IntOf
  rcases hp : Lib.parseIntB 64 t with v | _ | _
  · skip
    refine (Any.strconv_ParseInt_10_at64_ok Tryz.lays174 (bs t) (by omega) v (by rw [hd]; exact hp) w).mono ?_
    rintro e w' ⟨rfl, rfl | ⟨s, rfl⟩⟩
    · exact ⟨Chg.refl _ _, rfl⟩
    · exact ⟨Chg.of_below (Lib.bytesWorld_below _ _ _), rfl⟩
  · skip
    obtain ⟨ev, h1, h2⟩ := hL.syn
    refine (Any.strconv_ParseInt_10_at64_syntax Tryz.lays174 (bs t) (by omega) (by rw [hd]; exact hp) ev w h1 h2).mono ?_
    rintro e w' ⟨N, rfl, _, _, hb⟩
    exact ⟨Chg.of_below hb, _, _, _, rfl⟩
  · skip
    obtain ⟨ev, h1, h2⟩ := hL.range
    refine (Any.strconv_ParseInt_10_at64_range Tryz.lays174 (bs t) (by omega) (by rw [hd]; exact hp) ev w h1 h2).mono ?_
    rintro e w' ⟨N, rfl, _, _, hb⟩
    exact ⟨Chg.of_below hb, _, _, _, rfl⟩

theorem number_any (most : Int) (w : World) (B bp bt z : Nat) (ts : List Tok) (h : Par w B bp bt z ts) :
    Calls Tryz.prog 91 #[ptr bp, .int .i64 most] w (Ended w B bp bt z (number z most ts) (fun _ n v => v = .int .i64 n)) := by
  have H := Lib.hid h
  cases ts with
  | nil =>
    obtain ⟨off, c, c0, c1, c2, hl⟩ := par_nil h
    have c1' : w.cell? ⟨bt, off + 1, none⟩ = some (str []) := by
      obtain ⟨off', c', hb', hl', hc'⟩ := h.at_
      have e := (hb'.cell 0 _ rfl).symm.trans c0
      simp at e
      rw [← e.1]
      exact hc' 1 _ rfl
    clear h
    go_enter Tryz.func91, Tryz.ntmps91
    go_wp2_with fail
    have hc := (Chg.refl [bp] w).alloc (.cells #[.int .i64 4, str [], .int .i64 z] 76)
    refine (fail_any 3 _ B bp bt z [] (H.out.kept ((Chg.refl [] w).alloc _) (by simp) (by simp) (by simp))).mono ?_; intro e w2 he
    have HE := Lib.hid he
    obtain ⟨b, rfl⟩ := he.thrown
    have HC := Lib.hid hc; clear hc he
    go_wp2_with fail
    exact ⟨rfl, HE.out.relay HC.out⟩
  | cons t r =>
    obtain ⟨off, c, hb, c0, c1, c2, c3, hl, hcs⟩ := par_cons h
    have hf := hb.frozen 0
    have hP := h.kept ((Chg.refl [] w).alloc (.cells #[.int .i64 t.kind.num, str t.text, .int .i64 t.pos] 76)) (by simp) (by simp) (by simp)
    have HP := Lib.hid hP
    have hne := h.ne
    have hbp : bp < w.heap.size := hb.lt
    have HB := Lib.hid (And.intro hb hl)
    have HI := Lib.hid (parseInt_any t.text _ B hP.laid (h.short t (by simp)))
    have HS := Lib.hid hcs
    clear hb hl hcs hP
    cases hkd : decide (t.kind = .number) with
    | false =>
      have hk : ((t.kind.num : Int) != 2) = true := by cases hq : t.kind <;> simp_all [Kind.num]
      have HR := Lib.hid (show number z most (t :: r) = .bad 3 t.pos by rw [number, if_pos (of_decide_eq_false hkd)])
      clear h hkd
      go_enter Tryz.func91, Tryz.ntmps91
      go_wp2_with fail
      refine (fail_any 3 _ B bp bt z (t :: r) HP.out).mono ?_; intro e w2 he
      have HE := Lib.hid he
      obtain ⟨b, rfl⟩ := he.thrown
      clear he
      go_wp2_with fail
      refine ⟨rfl, ?_⟩
      rw [HR.out]
      exact HE.out.relay ((Chg.refl _ _).alloc _)
    | true =>
      have hk : ((t.kind.num : Int) != 2) = false := by cases hq : t.kind <;> simp_all [Kind.num]
      have HW := Lib.hid (of_decide_eq_true hkd)
      clear h hkd
      rcases hpi : Lib.parseIntB 64 t.text with v | _ | _
      · skip
        have HV : Hid (∀ e, IntOf t.text e → e = .returned (.tuple #[.int .i64 v, .nilIface])) := Lib.hid (fun e he => by rw [IntOf, hpi] at he; exact he)
        cases hmost : decide (most < v) with
        | true =>
          have HR := Lib.hid (show number z most (t :: r) = .bad 4 t.pos by rw [number, if_neg (by simp [HW.out]), hpi]; exact if_pos (of_decide_eq_true hmost))
          clear hpi
          go_enter Tryz.func91, Tryz.ntmps91
          go_wp2_with fail
          refine HI.out.mono ?_; intro e w1 he
          obtain rfl := HV.out e he.2
          have HC := Lib.hid he.1; clear he
          go_wp2_with fail
          refine (fail_any 4 _ B bp bt z (t :: r) (HP.out.kept HC.out (by simp) (by simp) (by simp))).mono ?_; intro e w2 he
          have HE := Lib.hid he
          obtain ⟨b, rfl⟩ := he.thrown
          clear he
          go_wp2_with fail
          refine ⟨rfl, ?_⟩
          rw [HR.out]
          exact HE.out.relay (((Chg.refl [bp] w).alloc _).then HC.out.weak)
        | false =>
          have HR := Lib.hid (show number z most (t :: r) = .ok v r by rw [number, if_neg (by simp [HW.out]), hpi]; exact if_neg (of_decide_eq_false hmost))
          have hl := HB.out.2
          clear hpi
          go_enter Tryz.func91, Tryz.ntmps91
          go_wp2_with fail
          refine HI.out.mono ?_; intro e w1 he
          obtain rfl := HV.out e he.2
          obtain ⟨d0, d1, d2, hc0⟩ := tok_new he.1
          clear he
          have hb1 := HB.out.1.kept hc0 (by simp)
          have e0 := hb1.cell 0 _ rfl
          have ef := hb1.frozen 0
          have hp1 := H.out.kept hc0 (by simp) (by simp) (by simp)
          have HT1 := Lib.hid (par_tail hp1 hb1 HB.out.2 (fun i v hi => hc0.cellSome (HS.out i v hi) (by simp)))
          have HC0 := Lib.hid hc0; clear hc0 hp1 hb1
          go_wp2_with fail
          go_ret
          rw [HR.out]
          exact ⟨HC0.out.weak.then HT1.out.2, _, rfl, rfl, HT1.out.1⟩
      ·   skip
          have HV : Hid (∀ e, IntOf t.text e → ∃ n T b, e = .returned (.tuple #[.int .i64 n, .iface T (.pointer (some ⟨b, 0, none⟩))])) := Lib.hid (fun e he => by rw [IntOf, hpi] at he; exact he)
          have HR := Lib.hid (show number z most (t :: r) = .bad 4 t.pos by rw [number, if_neg (by simp [HW.out]), hpi])
          clear hpi
          go_enter Tryz.func91, Tryz.ntmps91
          go_wp2_with fail
          refine HI.out.mono ?_; intro e w1 he
          obtain ⟨nn, T, bb, rfl⟩ := HV.out e he.2
          have HC := Lib.hid he.1; clear he
          go_wp2_with fail
          refine (fail_any 4 _ B bp bt z (t :: r) (HP.out.kept HC.out (by simp) (by simp) (by simp))).mono ?_; intro e w2 he
          have HE := Lib.hid he
          obtain ⟨b, rfl⟩ := he.thrown
          clear he
          go_wp2_with fail
          refine ⟨rfl, ?_⟩
          rw [HR.out]
          exact HE.out.relay (((Chg.refl [bp] w).alloc _).then HC.out.weak)
      ·   skip
          have HV : Hid (∀ e, IntOf t.text e → ∃ n T b, e = .returned (.tuple #[.int .i64 n, .iface T (.pointer (some ⟨b, 0, none⟩))])) := Lib.hid (fun e he => by rw [IntOf, hpi] at he; exact he)
          have HR := Lib.hid (show number z most (t :: r) = .bad 4 t.pos by rw [number, if_neg (by simp [HW.out]), hpi])
          clear hpi
          go_enter Tryz.func91, Tryz.ntmps91
          go_wp2_with fail
          refine HI.out.mono ?_; intro e w1 he
          obtain ⟨nn, T, bb, rfl⟩ := HV.out e he.2
          have HC := Lib.hid he.1; clear he
          go_wp2_with fail
          refine (fail_any 4 _ B bp bt z (t :: r) (HP.out.kept HC.out (by simp) (by simp) (by simp))).mono ?_; intro e w2 he
          have HE := Lib.hid he
          obtain ⟨b, rfl⟩ := he.thrown
          clear he
          go_wp2_with fail
          refine ⟨rfl, ?_⟩
          rw [HR.out]
          exact HE.out.relay (((Chg.refl [bp] w).alloc _).then HC.out.weak)
end Go.Proofs.YtgnfhognbpifiaaGreatDoor
