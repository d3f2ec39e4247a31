/- What others see, sorted: slices.SortStableFunc at no more than twenty. -/
import Derived.Test.YtoeblajmelbbmaaDoorSymW1
namespace Go.Mq.Sym
open Go Go.RowKit Go.Mq Go.Mq.Tree
/-- A row of its own that holds these. -/
theorem SyBlk.of_owns {w : World} {v : Value} {l : List Sy} (h : w.ownsRow 0 44 3 v l.length (l.flatMap Sy.cells)) : (v = .slice none 0 0 ∧ l = []) ∨ ∃ g c, v = .slice (some ⟨g, 0, none⟩) l.length c ∧ l.length ≤ c ∧ SyBlk w g l := by
  rcases h.2 with ⟨rfl, h0⟩ | ⟨g, cap, cur, rfl, _, hg, hnc, _, hcs, htake⟩
  · exact .inl ⟨rfl, List.eq_nil_of_length_eq_zero h0⟩
  · refine .inr ⟨g, cap, rfl, hnc, cur, hg, by rw [hcs]; omega, fun k s hk => ?_⟩
    have hkl : k < l.length := (List.getElem?_eq_some_iff.1 hk).1
    have key : ∀ i, i < 3 → cur[k * 3 + i]? = s.cells[i]? := fun i hi => by
      have h1 : (l.flatMap Sy.cells)[k * 3 + i]? = s.cells[i]? := by
        clear htake hcs hnc hg h
        induction l generalizing k with
        | nil => simp at hkl
        | cons x r ih =>
          rw [List.flatMap_cons]
          cases k with
          | zero =>
            simp at hk
            subst hk
            rw [List.getElem?_append_left (by simp [Sy.cells]; omega)]
            simp
          | succ k =>
            rw [List.getElem?_append_right (by simp [Sy.cells]; omega), show (k + 1) * 3 + i - x.cells.length = k * 3 + i by simp [Sy.cells]; omega]
            exact ih k (by simpa using hk) (by simpa using hkl)
      rw [← htake, List.getElem?_take] at h1
      rw [if_pos (by omega)] at h1
      rw [← h1]
      simp
    exact ⟨key 0 (by omega), key 1 (by omega), key 2 (by omega)⟩
end Go.Mq.Sym
namespace Go.Proofs.YtoeblajmelbbmaaDoor
open Go Go.RowKit Go.Mq Go.Mq.Tree Go.Mq.Sym
set_option maxRecDepth 100000
set_option maxHeartbeats 2000000
theorem insert_none (a : Option Addr) (n m c : Nat) (hm : m ≤ 20) (w : World) : Calls Tryd.prog 53 #[.slice a n c, .int .i64 m, .int .i64 m, .func (.func 23) #[] #[]] w (fun e w' => e = .returned (.tuple #[]) ∧ w' = w) := by
  go_enter Tryd.func53, Tryd.ntmps53
  go_wp2_with fail
  go_loopw [8, 9] (fun i _ wr => i = .int .i64 (m + 1) ∧ w = wr) (fun _ _ _ => 0)
  case atStart => exact ⟨rfl, rfl⟩
  case round =>
    obtain ⟨rfl, rfl⟩ := hrel
    go_wp2_with fail
    exact bodyPost_end (results_none rfl _ _ _) rfl ⟨rfl, rfl⟩
theorem stable_any (g : Nat) (l : List Sy) (c : Nat) (hl : l.length ≤ 20) (w : World) (h : SyBlk w g l) :
    Calls Tryd.prog 39 #[.slice (some ⟨g, 0, none⟩) l.length c, .int .i64 l.length, .func (.func 23) #[] #[]] w (fun e w' => e = .returned (.tuple #[]) ∧ SyBlk w' g (insSort l) ∧ Chg [g] w w') := by
  have HI := Lib.hid (insert_any g l c hl w h)
  clear h
  by_cases h20 : l.length = 20
  · have HN := Lib.hid (fun w' => insert_none (some ⟨g, 0, none⟩) l.length l.length c hl w')
    rw [h20] at HI HN ⊢
    change Calls _ _ #[.slice (some ⟨g, 0, none⟩) 20 c, .int .i64 (20 : Int), _] _ _
    go_enter Tryd.func39, Tryd.ntmps39
    go_wp2_with fail
    go_loopw [7, 8] (fun a b wr => ∃ q m : Nat, q ≤ 20 ∧ a = .int .i64 q ∧ b = .int .i64 m ∧ m = q + 20 ∧ (q = 0 ∨ q = 20) ∧ (q = 0 → w = wr) ∧ (q = 20 → SyBlk wr g (insSort l) ∧ Chg [g] w wr)) (fun _ b _ => 40 - (intOf b).toNat)
    case atStart => exact ⟨0, 20, by omega, rfl, rfl, rfl, .inl rfl, fun _ => rfl, fun h => by omega⟩
    case round =>
      obtain ⟨q, m, _, rfl, rfl, rfl, hq, hq0, hq1⟩ := hrel
      rcases hq with rfl | rfl
      · have hw0 := hq0 rfl
        subst hw0
        clear hq0 hq1
        go_wp2_with fail
        refine HI.out.mono ?_; rintro _ w1 ⟨rfl, hb, hc⟩
        have HB := Lib.hid hb; have HC := Lib.hid hc
        clear hb hc
        go_wp2_with fail
        exact ⟨⟨20, 40, by omega, by go_num, by go_num, rfl, .inr rfl, fun h => by omega, fun _ => ⟨HB.out, HC.out⟩⟩, by simp [intOf]⟩
      · obtain ⟨hb, hc⟩ := hq1 rfl
        have HB := Lib.hid hb; have HC := Lib.hid hc
        clear hb hc hq0 hq1
        go_wp2_with fail
        refine (HN.out _).mono ?_; rintro _ _ ⟨rfl, hw⟩; have hw := hw.symm; subst hw
        go_wp2_with fail
        go_loopw [6, 7, 8, 9] (fun s _ _ _ ws => s = .int .i64 20 ∧ wr = ws) (fun _ _ _ _ _ => 0)
        case atStart => exact ⟨rfl, rfl⟩
        case round =>
          obtain ⟨rfl, rfl⟩ := hrel
          go_wp2_with fail
          exact bodyPost_end (results_none rfl _ _ _) rfl ⟨rfl, HB.out, HC.out⟩
  · go_enter Tryd.func39, Tryd.ntmps39
    go_wp2_with fail
    go_loopw [7, 8] (fun a b wr => a = .int .i64 0 ∧ b = .int .i64 20 ∧ w = wr) (fun _ b _ => 40 - (intOf b).toNat)
    case atStart => exact ⟨rfl, rfl, rfl⟩
    case round =>
      obtain ⟨rfl, rfl, rfl⟩ := hrel
      have hlt : ¬ 20 ≤ l.length := by omega
      go_wp2_with fail
      refine HI.out.mono ?_; rintro _ w1 ⟨rfl, hb, hc⟩
      have HB := Lib.hid hb; have HC := Lib.hid hc
      clear hb hc
      go_wp2_with fail
      go_loopw [6, 7, 8, 9] (fun s _ _ _ ws => s = .int .i64 20 ∧ w1 = ws) (fun _ _ _ _ _ => 0)
      case atStart => exact ⟨rfl, rfl⟩
      case round =>
        obtain ⟨rfl, rfl⟩ := hrel
        have hlt2 : ¬ 20 < l.length := by omega
        go_wp2_with fail
        exact bodyPost_end (results_none rfl _ _ _) rfl ⟨rfl, HB.out, HC.out⟩
theorem stable_nil (w : World) : Calls Tryd.prog 39 #[.slice none 0 0, .int .i64 0, .func (.func 23) #[] #[]] w (fun e w' => e = .returned (.tuple #[]) ∧ w' = w) := by
  have HN := Lib.hid (insert_none none 0 0 0 (by omega) w)
  go_enter Tryd.func39, Tryd.ntmps39
  go_wp2_with fail
  go_loopw [7, 8] (fun a b wr => a = .int .i64 0 ∧ b = .int .i64 20 ∧ w = wr) (fun _ b _ => 40 - (intOf b).toNat)
  case atStart => exact ⟨rfl, rfl, rfl⟩
  case round =>
    obtain ⟨rfl, rfl, rfl⟩ := hrel
    go_wp2_with fail
    refine HN.out.mono ?_; rintro _ _ ⟨rfl, hw⟩; have hw := hw.symm; subst hw
    go_wp2_with fail
    go_loopw [6, 7, 8, 9] (fun s _ _ _ ws => s = .int .i64 20 ∧ w = ws) (fun _ _ _ _ _ => 0)
    case atStart => exact ⟨rfl, rfl⟩
    case round =>
      obtain ⟨rfl, rfl⟩ := hrel
      go_wp2_with fail
      exact bodyPost_end (results_none rfl _ _ _) rfl ⟨rfl, rfl⟩
theorem sort_any (g : Nat) (l : List Sy) (c : Nat) (hl : l.length ≤ 20) (w : World) (h : SyBlk w g l) :
    Calls Tryd.prog 22 #[.slice (some ⟨g, 0, none⟩) l.length c, .func (.func 23) #[] #[]] w (fun e w' => e = .returned (.tuple #[]) ∧ SyBlk w' g (insSort l) ∧ Chg [g] w w') := by
  have HI := Lib.hid (stable_any g l c hl w h)
  clear h
  go_enter Tryd.func22, Tryd.ntmps22
  go_wp2_with fail
  refine HI.out.mono ?_; rintro _ w1 ⟨rfl, hb, hc⟩
  have HB := Lib.hid hb; have HC := Lib.hid hc
  clear hb hc
  go_wp2_with fail
  exact bodyPost_end (results_none rfl _ _ _) rfl ⟨rfl, HB.out, HC.out⟩
theorem sort_nil (w : World) : Calls Tryd.prog 22 #[.slice none 0 0, .func (.func 23) #[] #[]] w (fun e w' => e = .returned (.tuple #[]) ∧ w' = w) := by
  have HI := Lib.hid (stable_nil w)
  go_enter Tryd.func22, Tryd.ntmps22
  go_wp2_with fail
  refine HI.out.mono ?_; rintro _ _ ⟨rfl, hw⟩; have hw := hw.symm; subst hw
  go_wp2_with fail
  exact bodyPost_end (results_none rfl _ _ _) rfl ⟨rfl, rfl⟩
end Go.Proofs.YtoeblajmelbbmaaDoor
