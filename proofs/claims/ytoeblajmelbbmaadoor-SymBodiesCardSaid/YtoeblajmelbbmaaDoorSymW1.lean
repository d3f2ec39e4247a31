/- The order of what others see: compared, and sorted by insertion. -/
import Derived.Test.YtoeblajmelbbmaaDoorSymMem
import Derived.Test.YtoeblajmelbbmaaDoorShelf2
import Derived.Test.YtoeblajmelbbmaaDoorRegion3
namespace Go.Proofs.YtoeblajmelbbmaaDoor
open Go Go.RowKit Go.Mq Go.Mq.Tree Go.Mq.Sym
set_option maxRecDepth 100000
set_option maxHeartbeats 2000000
theorem cmp_any (x y : Sy) (w : World) : Calls Tryd.prog 23 #[.agg #[str x.name, .int .i64 x.len, .int .i64 x.args], .agg #[str y.name, .int .i64 y.len, .int .i64 y.args]] w (fun e w' => e = .returned (.int .i64 (Lib.compareBytes x.name y.name)) ∧ Chg [] w w') := by
  have HC := Lib.hid (fun w' => Any.strings_Compare Tryd.lays106 (bs x.name) (bs y.name) w')
  go_enter Tryd.func23, Tryd.ntmps23
  go_wp2_with fail
  refine (HC.out _).mono ?_; rintro _ _ ⟨rfl, rfl⟩
  go_wp2_with fail
  go_ret
  exact ⟨rfl, ((Chg.refl _ _).alloc _).alloc _⟩
theorem cmp_vals (x y : Sy) : -1 ≤ Lib.compareBytes x.name y.name ∧ Lib.compareBytes x.name y.name ≤ 1 := by
  have key : ∀ a b : List UInt8, -1 ≤ Lib.compareBytes a b ∧ Lib.compareBytes a b ≤ 1 := by
    intro a
    induction a with
    | nil => intro b; cases b <;> simp [Lib.compareBytes]
    | cons c a ih =>
      intro b
      cases b with
      | nil => simp [Lib.compareBytes]
      | cons d b =>
        simp only [Lib.compareBytes]
        split
        · omega
        · split
          · omega
          · exact ih b
  exact key x.name y.name
theorem insert_any (g : Nat) (l : List Sy) (c : Nat) (hl : l.length ≤ 20) (w : World) (h : SyBlk w g l) :
    Calls Tryd.prog 53 #[.slice (some ⟨g, 0, none⟩) l.length c, .int .i64 0, .int .i64 l.length, .func (.func 23) #[] #[]] w (fun e w' => e = .returned (.tuple #[]) ∧ SyBlk w' g (insSort l) ∧ Chg [g] w w') := by
  have H := Lib.hid h
  clear h
  go_enter Tryd.func53, Tryd.ntmps53
  go_wp2_with fail
  go_loopw [8, 9] (fun i _ wr => ∃ (n : Nat) (l1 : List Sy), i = .int .i64 n ∧ 1 ≤ n ∧ n ≤ 21 ∧ SyBlk wr g l1 ∧ l1.length = l.length ∧ sortFrom n l.length l1 = insSort l ∧ Chg [g] w wr) (fun i _ _ => 21 - (intOf i).toNat)
  case atStart => exact ⟨1, l, rfl, by omega, by omega, H.out, rfl, rfl, Chg.refl _ _⟩
  case round =>
    obtain ⟨n, l1, rfl, hn1, hn2, hb, hll, hs, hc⟩ := hrel
    have HB := Lib.hid hb; have HS := Lib.hid hs; have HC := Lib.hid hc
    clear hb hs hc
    by_cases hlt : n < l.length
    · go_wp2_with fail
      go_loopw [9] (fun j ws => ∃ (k : Nat) (l2 : List Sy), j = .int .i64 k ∧ k ≤ n ∧ SyBlk ws g l2 ∧ l2.length = l.length ∧ sinkS k l2 = sinkS n l1 ∧ Chg [g] w ws) (fun j _ => (intOf j).toNat)
      case atStart => exact ⟨n, l1, rfl, Nat.le_refl _, HB.out, hll, rfl, HC.out⟩
      case round =>
        obtain ⟨k, l2, rfl, hkn, hb, hl2, hs, hc⟩ := hrel
        have HB2 := Lib.hid hb; have HS2 := Lib.hid hs; have HC2 := Lib.hid hc
        clear hb hs hc
        by_cases hk0 : 0 < k
        · obtain ⟨k, rfl⟩ : ∃ k', k = k' + 1 := ⟨k - 1, by omega⟩
          obtain ⟨x, hx⟩ : ∃ x, l2[k + 1]? = some x := ⟨l2[k + 1]'(by omega), List.getElem?_eq_getElem (by omega)⟩
          obtain ⟨y, hy⟩ : ∃ y, l2[k]? = some y := ⟨l2[k]'(by omega), List.getElem?_eq_getElem (by omega)⟩
          obtain ⟨x0, x1, x2⟩ := HB2.out.cells hx
          obtain ⟨y0, y1, y2⟩ := HB2.out.cells hy
          have HX := Lib.hid hx; have HY := Lib.hid hy
          have HZ := Lib.hid (Zone.of (X := []) (w0 := wr.drew) (off := k * 3) (b := g) y0 (by simp))
          have HLT := Lib.hid (show g < wr.drew.heap.size from HB2.out.lt)
          clear hx hy
          go_wp2_with fail
          refine wp_region_C [] rfl (by kernel_rfl) ?_
          have hS : Chg [] wr.drew wr.drew := Chg.refl _ _
          repeat
            (with_reducible show wpX _ _ _ _ _ _ _ _
             first
               | refine wpX_nil ?_
               | refine wpX_skip rfl ?_
               | refine wpX_mv rfl rfl (by kernel_rfl) (fun _ _ => ?_)
               | refine wpX_ldC rfl rfl rfl (by exact HZ.out) (by assumption) (fun _ _ => ?_)
               | refine wpX_ef' rfl rfl rfl (fun _ _ => ?_)
             go_wp2_with fail)
          have hcv := cmp_vals x y
          have hCM := cmp_any x y wr.drew
          have HLTS := Lib.hid (show ltS x y = decide (Lib.compareBytes x.name y.name < 0) from rfl)
          obtain ⟨z, hz⟩ : ∃ z, z = Lib.compareBytes x.name y.name := ⟨_, rfl⟩
          rw [← hz] at hCM hcv HLTS
          clear hz
          refine hCM.mono ?_; rintro _ wk ⟨rfl, hw⟩
          have hS := hS.then hw
          have hb3 := (HB2.out.kept (Chg.refl [] _).drew (by simp)).kept hw (by simp)
          have HB3 := Lib.hid hb3
          have HC3 := Lib.hid ((HC2.out.drew).then hw.weak)
          obtain ⟨x0, x1, x2⟩ := hb3.cells HX.out
          obtain ⟨y0, y1, y2⟩ := hb3.cells HY.out
          have f0 := hb3.frozen (k * 3); have f1 := hb3.frozen (k * 3 + 1); have f2 := hb3.frozen (k * 3 + 2)
          have f3 := hb3.frozen ((k + 1) * 3); have f4 := hb3.frozen ((k + 1) * 3 + 1); have f5 := hb3.frozen ((k + 1) * 3 + 2)
          clear hw hb3 hCM
          by_cases hlz : z < 0
          · go_wp2_with fail
            refine And.intro hS ?_
            repeat
              (with_reducible show wpX _ _ _ _ _ _ _ _
               first
                 | refine wpX_nil ?_
                 | refine wpX_skip rfl ?_
                 | refine wpX_mv rfl rfl (by kernel_rfl) (fun _ _ => ?_)
                 | refine wpX_ldC rfl rfl rfl (by exact HZ.out) (by assumption) (fun _ _ => ?_)
                 | refine wpX_ef' rfl rfl rfl (fun _ _ => ?_)
               go_wp2_with fail)
            clear hS
            go_region
            obtain ⟨hput, hpc⟩ := HB3.out.swap (k + 1) k (by omega) (by omega) y x
            have HPUT := Lib.hid (hput.kept (Chg.refl [] _).drew (by simp))
            have HCP := Lib.hid (HC3.out.then hpc).drew
            have HSK := Lib.hid (show sinkS (k + 1) l2 = sinkS k ((l2.set (k + 1) y).set k x) by
              have e1 : l2.getD (k + 1) Sy.none = x := by rw [List.getD_eq_getElem?_getD, HX.out]; rfl
              have e2 : l2.getD k Sy.none = y := by rw [List.getD_eq_getElem?_getD, HY.out]; rfl
              rw [sinkS, e1, e2, HLTS.out, if_pos (by simpa using hlz)])
            clear hput hpc x0 x1 x2 y0 y1 y2 f0 f1 f2 f3 f4 f5
            go_wp2_with fail
            exact ⟨⟨k, (l2.set (k + 1) y).set k x, by go_num, by omega, HPUT.out, by simp; omega, by rw [← HSK.out, HS2.out], HCP.out⟩, by simp [intOf]⟩
          · go_wp2_with fail
            refine And.intro hS ?_
            repeat
              (with_reducible show wpX _ _ _ _ _ _ _ _
               first
                 | refine wpX_nil ?_
                 | refine wpX_skip rfl ?_
                 | refine wpX_mv rfl rfl (by kernel_rfl) (fun _ _ => ?_)
                 | refine wpX_ldC rfl rfl rfl (by exact HZ.out) (by assumption) (fun _ _ => ?_)
                 | refine wpX_ef' rfl rfl rfl (fun _ _ => ?_)
               go_wp2_with fail)
            have HSK := Lib.hid (show sinkS (k + 1) l2 = l2 by
              have e1 : l2.getD (k + 1) Sy.none = x := by rw [List.getD_eq_getElem?_getD, HX.out]; rfl
              have e2 : l2.getD k Sy.none = y := by rw [List.getD_eq_getElem?_getD, HY.out]; rfl
              rw [sinkS, e1, e2, HLTS.out, if_neg (by simp; omega)])
            refine ⟨⟨n + 1, l2, by go_num, by omega, by omega, HB3.out, hl2, ?_, HC3.out⟩, by simp [intOf]; omega⟩
            rw [← HSK.out, HS2.out, ← sortFrom_step hlt, HS.out]
        · have hk00 : k = 0 := by omega
          subst hk00
          go_wp2_with fail
          refine wp_region_C [] rfl (by kernel_rfl) ?_
          have hS : Chg [] wr.drew wr.drew := Chg.refl _ _
          repeat
            (with_reducible show wpX _ _ _ _ _ _ _ _
             first
               | refine wpX_nil ?_
               | refine wpX_skip rfl ?_
               | refine wpX_mv rfl rfl (by kernel_rfl) (fun _ _ => ?_)
               | refine wpX_ldC rfl rfl rfl (by exact absurd rfl (by assumption)) (by assumption) (fun _ _ => ?_)
               | refine wpX_ef' rfl rfl rfl (fun _ _ => ?_)
             go_wp2_with fail)
          have HBD := Lib.hid (HB2.out.kept (Chg.refl [] _).drew (by simp))
          refine ⟨⟨n + 1, l2, by go_num, by omega, by omega, HBD.out, hl2, ?_, HC2.out.drew⟩, by simp [intOf]; omega⟩
          have e := HS2.out
          rw [sinkS] at e
          rw [e, ← sortFrom_step hlt, HS.out]
    · go_wp2_with fail
      refine bodyPost_end (results_none rfl _ _ _) rfl ⟨rfl, ?_, HC.out⟩
      have e := HS.out
      rw [sortFrom_end (by omega)] at e
      rw [← e]
      exact HB.out
end Go.Proofs.YtoeblajmelbbmaaDoor
