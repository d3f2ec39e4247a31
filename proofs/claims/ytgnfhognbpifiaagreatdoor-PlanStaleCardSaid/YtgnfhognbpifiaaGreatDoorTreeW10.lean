/- The parser's one. -/
import Derived.Test.YtgnfhognbpifiaaGreatDoorTreeW9
namespace Go.Mq.Tree
open Go Go.RowKit Go.Mq
def isNum : List Tok → Bool
  | [] => false
  | t :: _ => decide (t.kind = .number)
theorem one_eq (z d : Nat) (ts : List Tok) : one z (d + 1) ts = if see [45] ts then (match one z d ts.tail with
      | .bad e p => .bad e p
      | .ok x r => .ok (.un (hd z ts) [45] x) r)
    else if see [110, 111, 116] ts then (match one z d ts.tail with
      | .bad e p => .bad e p
      | .ok x r => .ok (.un (hd z ts) [110, 111, 116] x) r)
    else if see [40] ts then (match expr z (one z d) 5 ts.tail with
      | .bad e p => .bad e p
      | .ok x r => match must z [41] r with
        | .bad e p => .bad e p
        | .ok _ r2 => .ok x r2)
    else if isNum ts then (match number z 9223372036854775807 ts with
      | .bad e p => .bad e p
      | .ok n r => .ok (.num (hd z ts) n) r)
    else named z (expr z (one z d) 5) ts := by
  cases ts with
  | nil => rfl
  | cons t r =>
    rw [one]
    simp only [isNum, decide_eq_true_eq]
    rfl
theorem number_len {z : Nat} {most : Int} {ts r : List Tok} {n : Int} (h : number z most ts = .ok n r) : r.length + 1 = ts.length := by
  cases ts with
  | nil => cases h
  | cons t l =>
    rw [number] at h
    split at h
    · cases h
    · split at h
      · split at h
        · cases h
        · cases h; rfl
      · cases h
theorem one_eats (z : Nat) : ∀ d, Eats (one z d) := by
  intro d
  induction d with
  | zero => intro ts a r h; cases h
  | succ d ih =>
    intro ts a r h
    rw [one_eq] at h
    split at h
    · rename_i hs
      have g1 := see_tail hs
      cases h1 : one z d ts.tail with
      | bad e p => rw [h1] at h; cases h
      | ok x r2 => rw [h1] at h; cases h; have := ih _ _ _ h1; omega
    · split at h
      · rename_i hs
        have g1 := see_tail hs
        cases h1 : one z d ts.tail with
        | bad e p => rw [h1] at h; cases h
        | ok x r2 => rw [h1] at h; cases h; have := ih _ _ _ h1; omega
      · split at h
        · rename_i hs
          have g1 := see_tail hs
          cases h1 : expr z (one z d) 5 ts.tail with
          | bad e p => rw [h1] at h; cases h
          | ok x r2 =>
            rw [h1] at h
            have g2 := expr_eats ih 5 _ _ _ h1
            cases h2 : must z [41] r2 with
            | bad e p => simp only [h2] at h; cases h
            | ok u r3 => simp only [h2] at h; have g3 := must_len h2; cases h; omega
        · split at h
          · cases h1 : number z 9223372036854775807 ts with
            | bad e p => rw [h1] at h; cases h
            | ok n r2 => rw [h1] at h; cases h; have := number_len h1; omega
          · exact named_eats (expr_eats ih 5) _ _ _ h
end Go.Mq.Tree
namespace Go.Proofs.YtgnfhognbpifiaaGreatDoor
open Go Go.RowKit Go.Mq Go.Mq.Tree
set_option maxRecDepth 100000
set_option maxHeartbeats 8000000
theorem par_head {w : World} {B bp bt z : Nat} {ts : List Tok} (h : Par w B bp bt z ts) : ∃ off c n kv tv, w.cell? ⟨bp, 0, none⟩ = some (.slice (some ⟨bt, off, none⟩) (n + 1) c) ∧ w.cell? ⟨bt, off, none⟩ = some (.int .i64 kv) ∧ w.cell? ⟨bt, off + 1, none⟩ = some (str tv) ∧ w.cell? ⟨bt, off + 2, none⟩ = some (.int .i64 (hd z ts)) ∧ (kv == 2) = isNum ts := by
  cases ts with
  | nil =>
    obtain ⟨off, c, hb, hl, hc⟩ := h.at_
    exact ⟨off, c, 0, 4, [], hb.cell 0 _ rfl, hc 0 _ rfl, hc 1 _ rfl, hc 2 _ rfl, rfl⟩
  | cons t r =>
    obtain ⟨off, c, _, c0, c1, c2, c3, _⟩ := par_cons h
    exact ⟨off, c, r.length + 1, t.kind.num, t.text, c0, c1, c2, c3, by cases hk : t.kind <;> simp [isNum, hk, Kind.num]⟩
theorem one_zero : OneOK 11 0 := by
  intro w B bp bt z ts h
  have HF := Lib.hid (fail_any 4 w B bp bt z ts h)
  clear h
  go_enter Tryz.func107, Tryz.ntmps107
  go_wp2_with fail
  refine HF.out.mono ?_; intro e w2 he
  have HE := Lib.hid he
  obtain ⟨b, rfl⟩ := he.thrown
  clear he
  go_wp2_with fail
  exact ⟨rfl, HE.out.relay (Chg.refl _ _)⟩
theorem one_step (deep d : Nat) (hdp : deep + (d + 1) = 11) (hO : OneOK (deep + 1) d) : OneOK deep (d + 1) := by
  have heats : ∀ z, Eats (expr z (one z d) 5) := fun z => expr_eats (one_eats z d) 5
  have hE : ExOK 0 (deep + 1) (fun z => expr z (one z d) 5) := expr_level (deep + 1) d hO (fun z => (one_eats z d).mono) (by omega) 5 (Nat.le_refl _)
  intro w B bp bt z ts h
  have HEX := Lib.hid (ex_next hE)
  have HO : Hid (∀ (w : World) (B bp bt z : Nat) (ts : List Tok), Par w B bp bt z ts → Calls Tryz.prog 107 #[ptr bp, .int .i64 ((deep : Int) + 1)] w (Ended w B bp bt z (one z d ts) (EV w))) := Lib.hid (fun w B bp bt z ts hp => by
    have := hO w B bp bt z ts hp
    simpa using this)
  have HNA := Lib.hid (named_any deep (by omega) (fun z => expr z (one z d) 5) hE heats)
  have H := Lib.hid h
  obtain ⟨off, c, nn, kv, tv, c0, c1, c2, c3, hk⟩ := par_head h
  have HK := Lib.hid hk
  have hbp := h.bp_lt
  have hwr := wrap_next (deep := deep) (by omega)
  have hxb : w.heap.size ≠ bp := by omega
  have hd10 : decide ((10 : Int) < (deep : Int)) = false := decide_eq_false (by omega)
  have hp1 := h.kept ((Chg.refl [] w).alloc (.cells #[.int .i64 kv, str tv, .int .i64 (hd z ts)] 76)) (by simp) (by simp) (by simp)
  have hb1 := Blk.new w #[.int .i64 kv, str tv, .int .i64 (hd z ts)] 76
  have hc1 : Chg [bp] w (w.alloc (.cells #[.int .i64 kv, str tv, .int .i64 (hd z ts)] 76)) := (Chg.refl _ _).alloc _
  have HP1 := Lib.hid hp1; have HB1 := Lib.hid hb1; have HC1 := Lib.hid hc1
  have HT1 := Lib.hid (take_any [45] _ B bp bt z ts hp1)
  clear h hE hO heats hk hp1 hb1 hc1
  go_enter Tryz.func107, Tryz.ntmps107
  go_wp2_with fail
  generalize w.alloc (.cells #[.int .i64 kv, str tv, .int .i64 (hd z ts)] 76) = w1 at *
  cases hm : see [45] ts with
  | true =>
    have HI := Lib.hid hm
    clear hm
    refine HT1.out.mono ?_; rintro _ w2 ⟨rfl, hp2, hc2, _⟩
    rw [HI.out]
    rw [skip, HI.out, if_pos rfl] at hp2
    have hwc2 : Chg [bp] w w2.drew := (HC1.out.then hc2).drew
    have hb2 := (HB1.out.kept hc2 (by simpa using hxb)).kept (Chg.refl [] w2).drew (by simp)
    have e2d : w2.drew.cell? ⟨w.heap.size, 2, none⟩ = some (.int .i64 (hd z ts)) := hb2.cell 2 _ rfl
    have HWC2 := Lib.hid hwc2; have HB2 := Lib.hid hb2
    have HON := Lib.hid (HO.out w2.drew B bp bt z ts.tail (hp2.kept (Chg.refl [] w2).drew (by simp) (by simp) (by simp)))
    clear hp2 hc2 hwc2 hb2
    cases hx : one z d ts.tail with
    | bad en p =>
      have HRR := Lib.hid (show one z (d + 1) ts = .bad en p by rw [one_eq, if_pos HI.out, hx])
      rw [hx] at HON
      clear hx
      go_wp2_with fail
      refine wp_region_dead 5 [true, true, true, true, true] rfl (by kernel_rfl) (by kernel_rfl) rfl ?_
      repeat
        (with_reducible show wpX _ _ _ _ _ _ _ _
         first
           | refine wpX_nil ?_
           | refine wpX_skip rfl ?_
           | refine wpX_mv rfl rfl (by kernel_rfl) (fun _ _ => ?_)
           | refine wpX_ldD rfl rfl rfl (by exact ⟨_, _, e2d⟩) (fun _ _ => ?_)
         go_wp2_with fail)
      refine HON.out.mono ?_; intro e w6 he
      have HEE := Lib.hid he
      obtain ⟨b, rfl⟩ := he.thrown
      clear he
      intro a' ha
      refine ⟨ha, ?_⟩
      rw [HRR.out]
      exact HEE.out.relay HWC2.out
    | ok x r6 =>
      have HRR := Lib.hid (show one z (d + 1) ts = .ok (.un (hd z ts) [45] x) r6 by rw [one_eq, if_pos HI.out, hx])
      rw [hx] at HON
      clear hx
      go_wp2_with fail
      refine wp_region_C [bp] rfl (by kernel_rfl) ?_
      have hS : Chg [bp] w2.drew w2.drew := Chg.refl _ _
      repeat
        (with_reducible show wpX _ _ _ _ _ _ _ _
         first
           | refine wpX_nil ?_
           | refine wpX_skip rfl ?_
           | refine wpX_mv rfl rfl (by kernel_rfl) (fun _ _ => ?_)
           | refine wpX_ldC rfl rfl rfl (by exact Zone.of e2d (by simpa using hxb)) (by assumption) (fun _ _ => ?_)
           | refine wpX_ef' rfl rfl rfl (fun _ _ => ?_)
         go_wp2_with fail)
      refine HON.out.mono ?_; rintro e w6 ⟨hc6, v6, rfl, hv6, hp6⟩
      obtain ⟨b6, rfl⟩ := hv6.ptr
      have HC6 := Lib.hid hc6; have HV6 := Lib.hid hv6; have HP6 := Lib.hid hp6
      have hS2 := hc6
      clear hc6 hv6 hp6
      go_wp2_with fail
      refine And.intro (by assumption : Chg _ _ _) ?_
      repeat
        (with_reducible show wpX _ _ _ _ _ _ _ _
         first
           | refine wpX_nil ?_
           | refine wpX_skip rfl ?_
           | refine wpX_mv rfl rfl (by kernel_rfl) (fun _ _ => ?_)
           | refine wpX_ldC rfl rfl rfl (by exact Zone.of e2d (by simpa using hxb)) (by assumption) (fun _ _ => ?_)
           | refine wpX_ef' rfl rfl rfl (fun _ _ => ?_)
         go_wp2_with fail)
      refine And.intro (Chg.alloc (by assumption : Chg _ _ _) _) ?_
      repeat
        (with_reducible show wpX _ _ _ _ _ _ _ _
         first
           | refine wpX_nil ?_
           | refine wpX_skip rfl ?_
           | refine wpX_mv rfl rfl (by kernel_rfl) (fun _ _ => ?_)
           | refine wpX_ldC rfl rfl rfl (by exact Zone.of e2d (by simpa using hxb)) (by assumption) (fun _ _ => ?_)
           | refine wpX_ef' rfl rfl rfl (fun _ _ => ?_)
         go_wp2_with fail)
      go_ret
      rw [HRR.out]
      have hca := (Chg.refl [bp] w6).alloc (.cells #[.int .i64 4, .int .i64 (hd z ts), .int .i64 0, str [], str [], str [45], ptr b6, nilp, nils] 94)
      refine ⟨(HWC2.out.then HC6.out).then hca, _, rfl, ⟨w6.heap.size, ptr b6, rfl, ⟨Nat.le_trans HWC2.out.size HC6.out.size, by simp⟩, Blk.new _ _ _, (EAt.later HV6.out HWC2.out.size).grown hbp hca⟩, HP6.out.kept ((Chg.refl [] w6).alloc _) (by simp) (by simp) (by simp)⟩
  | false =>
    have HI1 := Lib.hid hm
    clear hm
    refine HT1.out.mono ?_; rintro _ w2 ⟨rfl, _, _, hw⟩
    rw [HI1.out]
    have hw' := (hw HI1.out).symm; subst hw'; clear hw
    have HT2 := Lib.hid (take_any [110, 111, 116] _ B bp bt z ts HP1.out)
    cases hm : see [110, 111, 116] ts with
    | true =>
      have HI := Lib.hid hm
      clear hm
      go_wp2_with fail
      refine HT2.out.mono ?_; rintro _ w2 ⟨rfl, hp2, hc2, _⟩
      rw [HI.out]
      rw [skip, HI.out, if_pos rfl] at hp2
      have hwc2 : Chg [bp] w w2.drew := (HC1.out.then hc2).drew
      have hb2 := (HB1.out.kept hc2 (by simpa using hxb)).kept (Chg.refl [] w2).drew (by simp)
      have e2d : w2.drew.cell? ⟨w.heap.size, 2, none⟩ = some (.int .i64 (hd z ts)) := hb2.cell 2 _ rfl
      have HWC2 := Lib.hid hwc2; have HB2 := Lib.hid hb2
      have HON := Lib.hid (HO.out w2.drew B bp bt z ts.tail (hp2.kept (Chg.refl [] w2).drew (by simp) (by simp) (by simp)))
      clear hp2 hc2 hwc2 hb2
      cases hx : one z d ts.tail with
      | bad en p =>
        have HRR := Lib.hid (show one z (d + 1) ts = .bad en p by rw [one_eq, if_neg (by rw [HI1.out]; simp), if_pos HI.out, hx])
        rw [hx] at HON
        clear hx
        go_wp2_with fail
        refine wp_region_dead 5 [true, true, true, true, true] rfl (by kernel_rfl) (by kernel_rfl) rfl ?_
        repeat
          (with_reducible show wpX _ _ _ _ _ _ _ _
           first
             | refine wpX_nil ?_
             | refine wpX_skip rfl ?_
             | refine wpX_mv rfl rfl (by kernel_rfl) (fun _ _ => ?_)
             | refine wpX_ldD rfl rfl rfl (by exact ⟨_, _, e2d⟩) (fun _ _ => ?_)
           go_wp2_with fail)
        refine HON.out.mono ?_; intro e w6 he
        have HEE := Lib.hid he
        obtain ⟨b, rfl⟩ := he.thrown
        clear he
        intro a' ha
        refine ⟨ha, ?_⟩
        rw [HRR.out]
        exact HEE.out.relay HWC2.out
      | ok x r6 =>
        have HRR := Lib.hid (show one z (d + 1) ts = .ok (.un (hd z ts) [110, 111, 116] x) r6 by rw [one_eq, if_neg (by rw [HI1.out]; simp), if_pos HI.out, hx])
        rw [hx] at HON
        clear hx
        go_wp2_with fail
        refine wp_region_C [bp] rfl (by kernel_rfl) ?_
        have hS : Chg [bp] w2.drew w2.drew := Chg.refl _ _
        repeat
          (with_reducible show wpX _ _ _ _ _ _ _ _
           first
             | refine wpX_nil ?_
             | refine wpX_skip rfl ?_
             | refine wpX_mv rfl rfl (by kernel_rfl) (fun _ _ => ?_)
             | refine wpX_ldC rfl rfl rfl (by exact Zone.of e2d (by simpa using hxb)) (by assumption) (fun _ _ => ?_)
             | refine wpX_ef' rfl rfl rfl (fun _ _ => ?_)
           go_wp2_with fail)
        refine HON.out.mono ?_; rintro e w6 ⟨hc6, v6, rfl, hv6, hp6⟩
        obtain ⟨b6, rfl⟩ := hv6.ptr
        have HC6 := Lib.hid hc6; have HV6 := Lib.hid hv6; have HP6 := Lib.hid hp6
        have hS2 := hc6
        clear hc6 hv6 hp6
        go_wp2_with fail
        refine And.intro (by assumption : Chg _ _ _) ?_
        repeat
          (with_reducible show wpX _ _ _ _ _ _ _ _
           first
             | refine wpX_nil ?_
             | refine wpX_skip rfl ?_
             | refine wpX_mv rfl rfl (by kernel_rfl) (fun _ _ => ?_)
             | refine wpX_ldC rfl rfl rfl (by exact Zone.of e2d (by simpa using hxb)) (by assumption) (fun _ _ => ?_)
             | refine wpX_ef' rfl rfl rfl (fun _ _ => ?_)
           go_wp2_with fail)
        refine And.intro (Chg.alloc (by assumption : Chg _ _ _) _) ?_
        repeat
          (with_reducible show wpX _ _ _ _ _ _ _ _
           first
             | refine wpX_nil ?_
             | refine wpX_skip rfl ?_
             | refine wpX_mv rfl rfl (by kernel_rfl) (fun _ _ => ?_)
             | refine wpX_ldC rfl rfl rfl (by exact Zone.of e2d (by simpa using hxb)) (by assumption) (fun _ _ => ?_)
             | refine wpX_ef' rfl rfl rfl (fun _ _ => ?_)
           go_wp2_with fail)
        go_ret
        rw [HRR.out]
        have hca := (Chg.refl [bp] w6).alloc (.cells #[.int .i64 4, .int .i64 (hd z ts), .int .i64 0, str [], str [], str [110, 111, 116], ptr b6, nilp, nils] 94)
        refine ⟨(HWC2.out.then HC6.out).then hca, _, rfl, ⟨w6.heap.size, ptr b6, rfl, ⟨Nat.le_trans HWC2.out.size HC6.out.size, by simp⟩, Blk.new _ _ _, (EAt.later HV6.out HWC2.out.size).grown hbp hca⟩, HP6.out.kept ((Chg.refl [] w6).alloc _) (by simp) (by simp) (by simp)⟩
    | false =>
      have HI2 := Lib.hid hm
      clear hm
      go_wp2_with fail
      refine HT2.out.mono ?_; rintro _ w2 ⟨rfl, _, _, hw⟩
      rw [HI2.out]
      have hw' := (hw HI2.out).symm; subst hw'; clear hw
      have HT3 := Lib.hid (take_any [40] _ B bp bt z ts HP1.out)
      cases hm : see [40] ts with
      | true =>
        have HI := Lib.hid hm
        clear hm
        go_wp2_with fail
        refine HT3.out.mono ?_; rintro _ w2 ⟨rfl, hp2, hc2, _⟩
        rw [HI.out]
        rw [skip, HI.out, if_pos rfl] at hp2
        have HWC2 := Lib.hid (HC1.out.then hc2)
        have HE2 := Lib.hid (HEX.out w2 B bp bt z ts.tail hp2)
        clear hp2 hc2
        cases hx : expr z (one z d) 5 ts.tail with
        | bad en p =>
          have HRR := Lib.hid (show one z (d + 1) ts = .bad en p by rw [one_eq, if_neg (by rw [HI1.out]; simp), if_neg (by rw [HI2.out]; simp), if_pos HI.out, hx])
          rw [hx] at HE2
          clear hx
          go_wp2_with fail
          refine HE2.out.mono ?_; intro e w6 he
          have HEE := Lib.hid he
          obtain ⟨b, rfl⟩ := he.thrown
          clear he
          go_wp2_with fail
          refine ⟨rfl, ?_⟩
          rw [HRR.out]
          exact HEE.out.relay HWC2.out
        | ok x r6 =>
          have HX := Lib.hid hx
          rw [HX.out] at HE2
          clear hx
          go_wp2_with fail
          refine HE2.out.mono ?_; rintro e w6 ⟨hc6, v6, rfl, hv6, hp6⟩
          have HWC6 := Lib.hid (HWC2.out.then hc6)
          have HV6 := Lib.hid (EAt.later hv6 HWC2.out.size)
          have HMU := Lib.hid (must_any [41] w6 B bp bt z r6 hp6)
          clear hc6 hv6 hp6
          go_wp2_with fail
          cases h8 : see [41] r6 with
          | false =>
            have HRR := Lib.hid (show one z (d + 1) ts = .bad 3 (hd z r6) by rw [one_eq, if_neg (by rw [HI1.out]; simp), if_neg (by rw [HI2.out]; simp), if_pos HI.out, HX.out]; simp [must, h8])
            rw [must, h8, if_neg (by simp)] at HMU
            clear h8
            refine HMU.out.mono ?_; intro e w8 he
            have HEE := Lib.hid he
            obtain ⟨b, rfl⟩ := he.thrown
            clear he
            go_wp2_with fail
            refine ⟨rfl, ?_⟩
            rw [HRR.out]
            exact HEE.out.relay HWC6.out
          | true =>
            have HRR := Lib.hid (show one z (d + 1) ts = .ok x r6.tail by rw [one_eq, if_neg (by rw [HI1.out]; simp), if_neg (by rw [HI2.out]; simp), if_pos HI.out, HX.out]; simp [must, h8])
            rw [must, h8, if_pos rfl] at HMU
            clear h8
            refine HMU.out.mono ?_; rintro e w8 ⟨hc8, _, rfl, rfl, hp8⟩
            have HC8 := Lib.hid hc8; have HP8 := Lib.hid hp8
            clear hc8 hp8
            go_wp2_with fail
            go_ret
            rw [HRR.out]
            exact ⟨HWC6.out.then HC8.out, _, rfl, HV6.out.grown hbp HC8.out, HP8.out⟩
      | false =>
        have HI3 := Lib.hid hm
        clear hm
        go_wp2_with fail
        refine HT3.out.mono ?_; rintro _ w2 ⟨rfl, _, _, hw⟩
        rw [HI3.out]
        have hw' := (hw HI3.out).symm; subst hw'; clear hw
        have e0 : w1.cell? ⟨w.heap.size, 0, none⟩ = some (.int .i64 kv) := HB1.out.cell 0 _ rfl
        cases hn : isNum ts with
        | true =>
          have HI := Lib.hid hn
          have hk2 : (kv == 2) = true := by rw [HK.out]; exact hn
          have e2d : w1.drew.cell? ⟨w.heap.size, 2, none⟩ = some (.int .i64 (hd z ts)) := HB1.out.cell 2 _ rfl
          have HWC2 := Lib.hid (HC1.out.drew)
          have HON := Lib.hid (number_any 9223372036854775807 w1.drew B bp bt z ts (HP1.out.kept (Chg.refl [] w1).drew (by simp) (by simp) (by simp)))
          clear hn
          cases hx : number z 9223372036854775807 ts with
          | bad en p =>
            have HRR := Lib.hid (show one z (d + 1) ts = .bad en p by rw [one_eq, if_neg (by rw [HI1.out]; simp), if_neg (by rw [HI2.out]; simp), if_neg (by rw [HI3.out]; simp), if_pos HI.out, hx])
            rw [hx] at HON
            clear hx
            go_wp2_with fail
            refine wp_region_dead 3 [true, true, true] rfl (by kernel_rfl) (by kernel_rfl) rfl ?_
            repeat
              (with_reducible show wpX _ _ _ _ _ _ _ _
               first
                 | refine wpX_nil ?_
                 | refine wpX_skip rfl ?_
                 | refine wpX_mv rfl rfl (by kernel_rfl) (fun _ _ => ?_)
                 | refine wpX_ldD rfl rfl rfl (by exact ⟨_, _, e2d⟩) (fun _ _ => ?_)
               go_wp2_with fail)
            refine HON.out.mono ?_; intro e w6 he
            have HEE := Lib.hid he
            obtain ⟨b, rfl⟩ := he.thrown
            clear he
            intro a' ha
            refine ⟨ha, ?_⟩
            rw [HRR.out]
            exact HEE.out.relay HWC2.out
          | ok x r6 =>
            have HRR := Lib.hid (show one z (d + 1) ts = .ok (.num (hd z ts) x) r6 by rw [one_eq, if_neg (by rw [HI1.out]; simp), if_neg (by rw [HI2.out]; simp), if_neg (by rw [HI3.out]; simp), if_pos HI.out, hx])
            rw [hx] at HON
            clear hx
            go_wp2_with fail
            refine wp_region_C [bp] rfl (by kernel_rfl) ?_
            have hS : Chg [bp] w1.drew w1.drew := Chg.refl _ _
            repeat
              (with_reducible show wpX _ _ _ _ _ _ _ _
               first
                 | refine wpX_nil ?_
                 | refine wpX_skip rfl ?_
                 | refine wpX_mv rfl rfl (by kernel_rfl) (fun _ _ => ?_)
                 | refine wpX_ldC rfl rfl rfl (by exact Zone.of e2d (by simpa using hxb)) (by assumption) (fun _ _ => ?_)
                 | refine wpX_ef' rfl rfl rfl (fun _ _ => ?_)
               go_wp2_with fail)
            refine HON.out.mono ?_; rintro e w6 ⟨hc6, _, rfl, rfl, hp6⟩
            have HC6 := Lib.hid hc6; have HP6 := Lib.hid hp6
            have hS2 := hc6
            clear hc6 hp6
            go_wp2_with fail
            refine And.intro (by assumption : Chg _ _ _) ?_
            repeat
              (with_reducible show wpX _ _ _ _ _ _ _ _
               first
                 | refine wpX_nil ?_
                 | refine wpX_skip rfl ?_
                 | refine wpX_mv rfl rfl (by kernel_rfl) (fun _ _ => ?_)
                 | refine wpX_ldC rfl rfl rfl (by exact Zone.of e2d (by simpa using hxb)) (by assumption) (fun _ _ => ?_)
                 | refine wpX_ef' rfl rfl rfl (fun _ _ => ?_)
               go_wp2_with fail)
            refine And.intro (Chg.alloc (by assumption : Chg _ _ _) _) ?_
            repeat
              (with_reducible show wpX _ _ _ _ _ _ _ _
               first
                 | refine wpX_nil ?_
                 | refine wpX_skip rfl ?_
                 | refine wpX_mv rfl rfl (by kernel_rfl) (fun _ _ => ?_)
                 | refine wpX_ldC rfl rfl rfl (by exact Zone.of e2d (by simpa using hxb)) (by assumption) (fun _ _ => ?_)
                 | refine wpX_ef' rfl rfl rfl (fun _ _ => ?_)
               go_wp2_with fail)
            go_ret
            rw [HRR.out]
            have hca := (Chg.refl [bp] w6).alloc (.cells #[.int .i64 1, .int .i64 (hd z ts), .int .i64 x, str [], str [], str [], nilp, nilp, nils] 94)
            refine ⟨(HWC2.out.then HC6.out).then hca, _, rfl, ⟨w6.heap.size, rfl, ⟨Nat.le_trans HWC2.out.size HC6.out.size, by simp⟩, Blk.new _ _ _⟩, HP6.out.kept ((Chg.refl [] w6).alloc _) (by simp) (by simp) (by simp)⟩
        | false =>
          have HI := Lib.hid hn
          have hk2 : (kv == 2) = false := by rw [HK.out]; exact hn
          have HNN := Lib.hid (HNA.out w1 B bp bt z ts HP1.out)
          have HRR := Lib.hid (show one z (d + 1) ts = named z (expr z (one z d) 5) ts by rw [one_eq, if_neg (by rw [HI1.out]; simp), if_neg (by rw [HI2.out]; simp), if_neg (by rw [HI3.out]; simp), if_neg (by rw [HI.out]; simp)])
          clear hn
          cases hx : named z (expr z (one z d) 5) ts with
          | bad en p =>
            rw [hx] at HRR
            rw [hx] at HNN
            clear hx
            go_wp2_with fail
            refine HNN.out.mono ?_; intro e w6 he
            have HEE := Lib.hid he
            obtain ⟨b, rfl⟩ := he.thrown
            clear he
            go_wp2_with fail
            refine ⟨rfl, ?_⟩
            rw [HRR.out]
            exact HEE.out.relay HC1.out
          | ok x r6 =>
            rw [hx] at HRR
            rw [hx] at HNN
            clear hx
            go_wp2_with fail
            refine HNN.out.mono ?_; rintro e w6 ⟨hc6, v6, rfl, hv6, hp6⟩
            have HC6 := Lib.hid hc6; have HV6 := Lib.hid hv6; have HP6 := Lib.hid hp6
            clear hc6 hv6 hp6
            go_wp2_with fail
            go_ret
            rw [HRR.out]
            exact ⟨HC1.out.then HC6.out, _, rfl, EAt.later HV6.out HC1.out.size, HP6.out⟩
theorem one_any : ∀ d deep, deep + d = 11 → OneOK deep d := by
  intro d
  induction d with
  | zero => intro deep h; rw [show deep = 11 by omega]; exact one_zero
  | succ d ih => exact fun deep h => one_step deep d h (ih (deep + 1) (by omega))
/-- A whole expression, so deep. -/
theorem ex_any (deep d : Nat) (h : deep + d = 11) : ExOK 0 deep (fun z => expr z (one z d) 5) := expr_level deep d (one_any d deep h) (fun z => (one_eats z d).mono) (by omega) 5 (Nat.le_refl _)
end Go.Proofs.YtgnfhognbpifiaaGreatDoor
