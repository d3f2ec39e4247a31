/- The parser's vars. -/
import Derived.Test.YtgnfhognbpifiaaGreatDoorTreeW14
namespace Go.Proofs.YtgnfhognbpifiaaGreatDoor
open Go Go.RowKit Go.Mq Go.Mq.Tree
set_option maxRecDepth 100000
set_option maxHeartbeats 8000000
theorem infoGlob : (Tryz.prog.info? 105).map (fun i => (i.zero, i.size, i.bytes)) = some (some (.agg #[.string ⟨#[]⟩, .int .i64 0, .int .i64 0, .bool false]), 4, 40) := by kernel_rfl
theorem vars_any (w : World) (B bp bt z : Nat) (ts : List Tok) (h : Par w B bp bt z ts) :
    Calls Tryz.prog 66 #[ptr bp] w (Ended w B bp bt z (varsL z 11 [] ts) (fun w' l v => GlobsAt w' (New w w') l v)) := by
  have H := Lib.hid h
  have hB := h.laid.le
  have hbp := h.bp_lt
  have hbt := h.bt_lt
  clear h
  go_enter Tryz.func66, Tryz.ntmps66
  go_wp2_with fail
  go_loopw [3] (fun l wr => ∃ (f : Nat) (acc : List Glob) (ts' : List Tok), varsL z 11 [] ts = varsL z f acc ts' ∧ f + acc.length = 11 ∧ acc.length ≤ 10 ∧
      Par wr B bp bt z ts' ∧ wr.ownsRow 0 105 4 l acc.length (acc.flatMap Glob.cells) ∧ From w.heap.size l ∧ Chg [bp] w wr) (fun l _ => 11 - lenOf l)
  case atStart => exact ⟨11, [], ts, rfl, rfl, Nat.zero_le _, H.out, World.ownsRow_nil _ _ _ _, From.nil _, Chg.refl _ _⟩
  case round =>
    obtain ⟨f, acc, ts', hr, hf, ha, hp, ho, hF, hC⟩ := hrel
    have HR := Lib.hid hr; have HP := Lib.hid hp; have HO := Lib.hid ho; have HF := Lib.hid hF; have HC := Lib.hid hC
    obtain ⟨sa, sc, hs⟩ := slice_of_owns ho
    have hsz := hC.size
    clear hr hp ho hF hC
    subst hs
    obtain ⟨f, rfl⟩ : ∃ f', f = f' + 1 := ⟨f - 1, by omega⟩
    have HT := Lib.hid (take_any [118, 97, 114] wr B bp bt z ts' HP.out)
    cases hk : see [118, 97, 114] ts' with
    | false =>
      have HRR := Lib.hid (show varsL z 11 [] ts = .ok acc ts' by rw [HR.out, varsL, if_neg (by rw [hk]; simp)])
      have HI := Lib.hid hk
      clear hk
      go_wp2_with fail
      refine HT.out.mono ?_; rintro _ w1 ⟨rfl, _, _, hw⟩
      rw [HI.out]
      have hw' := (hw HI.out).symm; subst hw'; clear hw
      go_wp2_with fail
      go_ret
      rw [HRR.out]
      obtain ⟨a, c, he, hac, hrow⟩ := Row.of_owns HO.out (new_owns HO.out HF.out)
      cases he
      exact ⟨HC.out, _, rfl, ⟨_, _, rfl, hac, hrow⟩, HP.out⟩
    | true =>
      obtain ⟨t1, ht1⟩ : ∃ t1, t1 = ts'.tail := ⟨_, rfl⟩
      have HI := Lib.hid hk
      cases he : decide (acc.length = 10) with
      | true =>
        have he1 : ((acc.length : Int) == 10) = true := by have := of_decide_eq_true he; simp [this]
        have HRR := Lib.hid (show varsL z 11 [] ts = .bad 4 (hd z t1) by rw [HR.out, varsL, if_pos hk, if_pos (of_decide_eq_true he), ht1])
        clear he hk
        go_wp2_with fail
        refine HT.out.mono ?_; rintro _ w1 ⟨rfl, hp1, hc1, _⟩
        rw [HI.out]
        rw [skip, HI.out, if_pos rfl, ← ht1] at hp1
        have HC1 := Lib.hid hc1; have HP1 := Lib.hid hp1
        clear hp1 hc1
        go_wp2_with fail
        refine (fail_any 4 _ B bp bt z t1 HP1.out).mono ?_; intro e w2 he
        have HE := Lib.hid he
        obtain ⟨b, rfl⟩ := he.thrown
        clear he
        go_wp2_with fail
        refine ⟨rfl, ?_⟩
        rw [HRR.out]
        exact HE.out.relay (HC.out.then HC1.out)
      | false =>
        have he1 : ((acc.length : Int) == 10) = false := by have := of_decide_eq_false he; simp; omega
        have hne := of_decide_eq_false he
        have HG : Hid (∀ q, glob z t1 = q → varsL z 11 [] ts = match q with | .bad e p => .bad e p | .ok g r => varsL z f (acc ++ [g]) r) := Lib.hid (fun q hq => by rw [HR.out, varsL, if_pos hk, if_neg hne, ← ht1, hq]; cases q <;> rfl)
        clear he hk
        go_wp2_with fail
        refine HT.out.mono ?_; rintro _ w1 ⟨rfl, hp1, hc1, _⟩
        rw [HI.out]
        rw [skip, HI.out, if_pos rfl, ← ht1] at hp1
        obtain ⟨off, c, nn, c0, c2⟩ := par_at hp1
        have hG : wr.heap.size ≤ w1.heap.size := hc1.size
        have hgp : w1.heap.size ≠ bp := by omega
        have hgt : w1.heap.size ≠ bt := by omega
        obtain ⟨w2, hw2⟩ : ∃ w2, w2 = w1.alloc (.cells #[str [], .int .i64 (hd z t1), .int .i64 0, .bool false] 105) := ⟨_, rfl⟩
        have HC2 : Hid (Chg [bp] wr w2) := Lib.hid (by rw [hw2]; exact hc1.alloc _)
        have HP2 : Hid (Par w2 B bp bt z t1) := Lib.hid (by rw [hw2]; exact hp1.kept ((Chg.refl [] w1).alloc _) (by simp) (by simp) (by simp))
        have HB2 : Hid (Blk w2 w1.heap.size #[str [], .int .i64 (hd z t1), .int .i64 0, .bool false] 105) := Lib.hid (by rw [hw2]; exact Blk.new _ _ _)
        have HN := Lib.hid (name_any w2 B bp bt z t1 HP2.out)
        clear hp1 hc1 ht1
        cases hx : name z t1 with
        | bad en q =>
          have HRR := Lib.hid (show varsL z 11 [] ts = .bad en q by rw [HG.out _ (show glob z t1 = .bad en q by rw [glob]; simp only [hx])])
          rw [hx] at HN
          clear hx
          go_wp2_with fail
          try rw [← hw2]
          refine HN.out.mono ?_; intro e w9 he
          have HEE := Lib.hid he
          obtain ⟨b9, rfl⟩ := he.thrown
          clear he
          go_wp2_with fail
          refine ⟨rfl, ?_⟩
          rw [HRR.out]
          exact HEE.out.relay (HC.out.then HC2.out)
        | ok aK rK =>
          obtain ⟨n, rfl⟩ : ∃ n, n = aK := ⟨aK, rfl⟩
          obtain ⟨r1, rfl⟩ : ∃ r1, r1 = rK := ⟨rK, rfl⟩
          have HX1 := Lib.hid hx
          rw [hx] at HN
          clear hx
          go_wp2_with fail
          try rw [← hw2]
          refine HN.out.mono ?_; rintro _ w3 ⟨hc3, _, rfl, rfl, hp3⟩
          have hb3 := HB2.out.kept hc3 (by simp; omega)
          have f0 := hb3.frozen 0; have e0 := hb3.cell 0 _ rfl
          obtain ⟨w3b, hw3⟩ : ∃ w3b, w3b = w3.setCell ⟨w1.heap.size, 0, none⟩ (str n) := ⟨_, rfl⟩
          have HB3 : Hid (Blk w3b w1.heap.size #[str n, .int .i64 (hd z t1), .int .i64 0, .bool false] 105) := Lib.hid (by rw [hw3]; simpa using hb3.set 0 (str n))
          have HP3 : Hid (Par w3b B bp bt z r1) := Lib.hid (by rw [hw3]; exact hp3.kept (Chg.set1 w3 w1.heap.size 0 (str n)) (fun x hx => by simp at hx; omega) (by simp; omega) (by simp; omega))
          have HC3 : Hid (Chg [bp] wr w3b) := Lib.hid (by rw [hw3]; exact (HC2.out.then hc3).trans (Chg.set1 w3 w1.heap.size 0 (str n)) (fun x hx => .inr (by simp at hx; omega)))
          have HTS := Lib.hid (take_any [42] w3b B bp bt z r1 HP3.out)
          clear hb3 hc3 hp3
          go_wp2_with fail
          rw [← hw3]
          clear f0 e0 hw3
          refine HTS.out.mono ?_; rintro _ w4 ⟨rfl, hp4, hc4, _⟩
          have hb4 := HB3.out.kept hc4 (by simp; omega)
          have f3 := hb4.frozen 3; have e3 := hb4.cell 3 _ rfl
          obtain ⟨w4b, hw4⟩ : ∃ w4b, w4b = w4.setCell ⟨w1.heap.size, 3, none⟩ (.bool (see [42] r1)) := ⟨_, rfl⟩
          have HB4a : Hid (Blk w4b w1.heap.size #[str n, .int .i64 (hd z t1), .int .i64 0, .bool (see [42] r1)] 105) := Lib.hid (by rw [hw4]; simpa using hb4.set 3 (.bool (see [42] r1)))
          have HP4a : Hid (Par w4b B bp bt z (skip [42] r1)) := Lib.hid (by rw [hw4]; exact hp4.kept (Chg.set1 w4 w1.heap.size 3 (.bool (see [42] r1))) (fun x hx => by simp at hx; omega) (by simp; omega) (by simp; omega))
          have HC4a : Hid (Chg [bp] wr w4b) := Lib.hid (by rw [hw4]; exact (HC3.out.then hc4).trans (Chg.set1 w4 w1.heap.size 3 (.bool (see [42] r1))) (fun x hx => .inr (by simp at hx; omega)))
          have HMC := Lib.hid (must_any [58] w4b B bp bt z (skip [42] r1) HP4a.out)
          clear hb4 hc4 hp4

          cases hx : must z [58] (skip [42] r1) with
          | bad en q =>
            have HRR := Lib.hid (show varsL z 11 [] ts = .bad en q by rw [HG.out _ (show glob z t1 = .bad en q by rw [glob]; simp only [HX1.out, hx])])
            rw [hx] at HMC
            clear hx
            go_wp2_with fail
            rw [← hw4]
            refine HMC.out.mono ?_; intro e w9 he
            have HEE := Lib.hid he
            obtain ⟨b9, rfl⟩ := he.thrown
            clear he
            go_wp2_with fail
            refine ⟨rfl, ?_⟩
            rw [HRR.out]
            exact HEE.out.relay (HC.out.then HC4a.out)
          | ok aK rK =>
            obtain ⟨r2, rfl⟩ : ∃ r2, r2 = rK := ⟨rK, rfl⟩
            have HX2 := Lib.hid hx
            rw [hx] at HMC
            clear hx
            go_wp2_with fail
            rw [← hw4]
            clear f3 e3 hw4
            refine HMC.out.mono ?_; rintro _ w5 ⟨hc5, _, rfl, rfl, hp5⟩
            have HB4 := Lib.hid (HB4a.out.kept hc5 (by simp; omega)); have HC4 := Lib.hid (HC4a.out.then hc5); have HP4 := Lib.hid hp5
            clear hc5 hp5
            have HT5 := Lib.hid (take_any [97, 114, 114, 97, 121] w5 B bp bt z r2 HP4.out)
            cases hk : see [97, 114, 114, 97, 121] r2 with
            | true =>
              have HI5 := Lib.hid hk
              clear hk
              go_wp2_with fail
              refine HT5.out.mono ?_; rintro _ w5 ⟨rfl, hp5, hc5, _⟩
              rw [HI5.out]
              rw [skip, HI5.out, if_pos rfl] at hp5
              have HC5 := Lib.hid (HC4.out.then hc5); have HP5 := Lib.hid hp5; have HB5 := Lib.hid (HB4.out.kept hc5 (by simp; omega))
              clear hp5 hc5
              have HN := Lib.hid (number_any 30 w5 B bp bt z r2.tail HP5.out)

              cases hx : number z 30 r2.tail with
              | bad en q =>
                have HRR := Lib.hid (show varsL z 11 [] ts = .bad en q by rw [HG.out _ (show glob z t1 = .bad en q by rw [glob]; simp only [HX1.out, HX2.out, kindOf, HI5.out, if_true, hx])])
                rw [hx] at HN
                clear hx
                go_wp2_with fail
                refine HN.out.mono ?_; intro e w9 he
                have HEE := Lib.hid he
                obtain ⟨b9, rfl⟩ := he.thrown
                clear he
                go_wp2_with fail
                refine ⟨rfl, ?_⟩
                rw [HRR.out]
                exact HEE.out.relay (HC.out.then HC5.out)
              | ok aK rK =>
                obtain ⟨m, rfl⟩ : ∃ m, m = aK := ⟨aK, rfl⟩
                obtain ⟨r3, rfl⟩ : ∃ r3, r3 = rK := ⟨rK, rfl⟩
                have HXN := Lib.hid hx
                rw [hx] at HN
                clear hx
                have hb5 := HB5.out
                cases hz : decide (m = 0) with
                | true =>
                  have hz1 : (m == 0) = true := by have := of_decide_eq_true hz; simp [this]
                  have HRR := Lib.hid (HG.out _ (show glob z t1 = .bad 2 (hd z r3) by rw [glob]; simp only [HX1.out, HX2.out, kindOf, HI5.out, if_true, HXN.out, of_decide_eq_true hz]))
                  clear hz
                  go_wp2_with fail
                  refine HN.out.mono ?_; rintro _ w6 ⟨hc6, _, rfl, rfl, hp6⟩
                  have hb6 := hb5.kept hc6 (by simp; omega)
                  have f2 := hb6.frozen 2; have e2 := hb6.cell 2 _ rfl
                  have HP6 := Lib.hid (hp6.kept (Chg.set1 w6 w1.heap.size 2 (.int .i64 m)) (fun x hx => by simp at hx; omega) (by simp; omega) (by simp; omega))
                  have HC6 := Lib.hid ((HC5.out.then hc6).trans (Chg.set1 w6 w1.heap.size 2 (.int .i64 m)) (fun x hx => .inr (by simp at hx; omega)))
                  clear hb5 hb6 hc6 hp6
                  go_wp2_with fail
                  refine (fail_any 2 _ B bp bt z r3 HP6.out).mono ?_; intro e w9 he
                  have HEE := Lib.hid he
                  obtain ⟨b9, rfl⟩ := he.thrown
                  clear he
                  go_wp2_with fail
                  refine ⟨rfl, ?_⟩
                  rw [HRR.out]
                  exact HEE.out.relay (HC.out.then HC6.out)
                | false =>
                  have hz1 : (m == 0) = false := by have := of_decide_eq_false hz; simp [this]
                  have HK3 := Lib.hid (show kindOf z r2 = .ok m r3 by simp only [kindOf, HI5.out, if_true, HXN.out, if_neg (of_decide_eq_false hz)])
                  clear hz
                  go_wp2_with fail
                  refine HN.out.mono ?_; rintro _ w6 ⟨hc6, _, rfl, rfl, hp6⟩
                  have hb6 := hb5.kept hc6 (by simp; omega)
                  have f2 := hb6.frozen 2; have e2 := hb6.cell 2 _ rfl
                  have HB6 : Hid (Blk (w6.setCell ⟨w1.heap.size, 2, none⟩ (.int .i64 m)) w1.heap.size #[str n, .int .i64 (hd z t1), .int .i64 m, .bool (see [42] r1)] 105) := Lib.hid (by simpa using hb6.set 2 (.int .i64 m))
                  have HP6 := Lib.hid (hp6.kept (Chg.set1 w6 w1.heap.size 2 (.int .i64 m)) (fun x hx => by simp at hx; omega) (by simp; omega) (by simp; omega))
                  have HC6 := Lib.hid ((HC5.out.then hc6).trans (Chg.set1 w6 w1.heap.size 2 (.int .i64 m)) (fun x hx => .inr (by simp at hx; omega)))
                  clear hb5 hb6 hc6 hp6
                  go_wp2_with fail
                  have HMU4 := Lib.hid (must_any [59] _ B bp bt z r3 HP6.out)

                  cases hx : must z [59] r3 with
                  | bad en q =>
                    have HRR := Lib.hid (show varsL z 11 [] ts = .bad en q by rw [HG.out _ (show glob z t1 = .bad en q by rw [glob]; simp only [HX1.out, HX2.out, HK3.out, hx])])
                    rw [hx] at HMU4
                    clear hx
                    go_wp2_with fail
                    refine HMU4.out.mono ?_; intro e w9 he
                    have HEE := Lib.hid he
                    obtain ⟨b9, rfl⟩ := he.thrown
                    clear he
                    go_wp2_with fail
                    refine ⟨rfl, ?_⟩
                    rw [HRR.out]
                    exact HEE.out.relay (HC.out.then HC6.out)
                  | ok aK rK =>
                    have HRR := Lib.hid (HG.out _ (show glob z t1 = .ok ⟨n, hd z t1, m, see [42] r1⟩ rK by rw [glob]; simp only [HX1.out, HX2.out, HK3.out, hx]))
                    rw [hx] at HMU4
                    clear hx
                    go_wp2_with fail
                    refine HMU4.out.mono ?_; rintro _ w7 ⟨hc7, _, rfl, rfl, hp7⟩
                    have hb7 := HB6.out.kept hc7 (by simp; omega)
                    have d0 := hb7.cell 0 _ rfl; have d1 := hb7.cell 1 _ rfl; have d2 := hb7.cell 2 _ rfl; have d3 := hb7.cell 3 _ rfl
                    have HC7 := Lib.hid (HC6.out.then hc7); have HP7 := Lib.hid hp7
                    have ho7 := owns_kept HO.out HC7.out (fun g hg hm => by have := HF.out g hg; simp at hm; omega)
                    have HO7 := Lib.hid (owns_kept ho7 ((Chg.refl [] w7).alloc (.cells #[str n, .int .i64 (hd z t1), .int .i64 m, .bool (see [42] r1)] 105)) (by simp))
                    clear hc7 hp7 ho7 hb7
                    go_wp2_with (at_builtin; go_must (refine wpL_append rfl _ _ 33 rfl 105 _ 4 40 infoGlob Tryz.underlying33 rfl (by decide) _ _ _ rfl HO7.out ⟨w7.heap.size, 0, none⟩ 1 1 [str n, .int .i64 (hd z t1), .int .i64 m, .bool (see [42] r1)] rfl rfl (cells_new _ _ _) (by simp [Value.oneCell']) ?_ ?_ ?_))
                    · omega
                    · unfold maxLen; omega
                    · intro v' w' hown' hch' hmv'
                      have HO' := Lib.hid hown'; clear hown'
                      obtain ⟨hp8, hc8, hf8⟩ := grow_step hB hbp hbt HC.out HC7.out HP7.out HF.out hch' hmv'
                      have HP8 := Lib.hid hp8; have HC8 := Lib.hid hc8; have HF8 := Lib.hid hf8
                      clear hch' hmv' hp8 hc8 hf8
                      go_wp2_with fail
                      have hl8 : lenOf v' = acc.length + 1 := lenOf_owns HO'.out
                      refine ⟨⟨f, acc ++ [⟨n, hd z t1, m, see [42] r1⟩], rK, HRR.out, by simp; omega, by simp; omega, HP8.out, by simpa [Glob.cells] using HO'.out, HF8.out, HC8.out⟩, ?_⟩
                      rw [hl8]; simp only [lenOf]; omega
            | false =>
              have HI5 := Lib.hid hk
              clear hk
              go_wp2_with fail
              refine HT5.out.mono ?_; rintro _ w5 ⟨rfl, _, _, hw⟩
              rw [HI5.out]
              have hw' := (hw HI5.out).symm; subst hw'; clear hw
              have HMI := Lib.hid (must_any [105, 110, 116] _ B bp bt z r2 HP4.out)

              cases hx : must z [105, 110, 116] r2 with
              | bad en q =>
                have HRR := Lib.hid (show varsL z 11 [] ts = .bad en q by rw [HG.out _ (show glob z t1 = .bad en q by rw [glob]; simp only [HX1.out, HX2.out, kindOf, HI5.out, Bool.false_eq_true, if_false, hx])])
                rw [hx] at HMI
                clear hx
                go_wp2_with fail
                refine HMI.out.mono ?_; intro e w9 he
                have HEE := Lib.hid he
                obtain ⟨b9, rfl⟩ := he.thrown
                clear he
                go_wp2_with fail
                refine ⟨rfl, ?_⟩
                rw [HRR.out]
                exact HEE.out.relay (HC.out.then HC4.out)
              | ok aK rK =>
                obtain ⟨r3, rfl⟩ : ∃ r3, r3 = rK := ⟨rK, rfl⟩
                have HK3 := Lib.hid (show kindOf z r2 = .ok 0 r3 by simp only [kindOf, HI5.out, Bool.false_eq_true, if_false, hx])
                rw [hx] at HMI
                clear hx
                go_wp2_with fail
                refine HMI.out.mono ?_; rintro _ w6 ⟨hc6, _, rfl, rfl, hp6⟩
                have HB6 := Lib.hid (HB4.out.kept hc6 (by simp; omega)); have HC6 := Lib.hid (HC4.out.then hc6); have HP6 := Lib.hid hp6
                clear hc6 hp6

                have HMU4 := Lib.hid (must_any [59] w6 B bp bt z r3 HP6.out)

                cases hx : must z [59] r3 with
                | bad en q =>
                  have HRR := Lib.hid (show varsL z 11 [] ts = .bad en q by rw [HG.out _ (show glob z t1 = .bad en q by rw [glob]; simp only [HX1.out, HX2.out, HK3.out, hx])])
                  rw [hx] at HMU4
                  clear hx
                  go_wp2_with fail
                  refine HMU4.out.mono ?_; intro e w9 he
                  have HEE := Lib.hid he
                  obtain ⟨b9, rfl⟩ := he.thrown
                  clear he
                  go_wp2_with fail
                  refine ⟨rfl, ?_⟩
                  rw [HRR.out]
                  exact HEE.out.relay (HC.out.then HC6.out)
                | ok aK rK =>
                  have HRR := Lib.hid (HG.out _ (show glob z t1 = .ok ⟨n, hd z t1, 0, see [42] r1⟩ rK by rw [glob]; simp only [HX1.out, HX2.out, HK3.out, hx]))
                  rw [hx] at HMU4
                  clear hx
                  go_wp2_with fail
                  refine HMU4.out.mono ?_; rintro _ w7 ⟨hc7, _, rfl, rfl, hp7⟩
                  have hb7 := HB6.out.kept hc7 (by simp; omega)
                  have d0 := hb7.cell 0 _ rfl; have d1 := hb7.cell 1 _ rfl; have d2 := hb7.cell 2 _ rfl; have d3 := hb7.cell 3 _ rfl
                  have HC7 := Lib.hid (HC6.out.then hc7); have HP7 := Lib.hid hp7
                  have ho7 := owns_kept HO.out HC7.out (fun g hg hm => by have := HF.out g hg; simp at hm; omega)
                  have HO7 := Lib.hid (owns_kept ho7 ((Chg.refl [] w7).alloc (.cells #[str n, .int .i64 (hd z t1), .int .i64 0, .bool (see [42] r1)] 105)) (by simp))
                  clear hc7 hp7 ho7 hb7
                  go_wp2_with (at_builtin; go_must (refine wpL_append rfl _ _ 33 rfl 105 _ 4 40 infoGlob Tryz.underlying33 rfl (by decide) _ _ _ rfl HO7.out ⟨w7.heap.size, 0, none⟩ 1 1 [str n, .int .i64 (hd z t1), .int .i64 0, .bool (see [42] r1)] rfl rfl (cells_new _ _ _) (by simp [Value.oneCell']) ?_ ?_ ?_))
                  · omega
                  · unfold maxLen; omega
                  · intro v' w' hown' hch' hmv'
                    have HO' := Lib.hid hown'; clear hown'
                    obtain ⟨hp8, hc8, hf8⟩ := grow_step hB hbp hbt HC.out HC7.out HP7.out HF.out hch' hmv'
                    have HP8 := Lib.hid hp8; have HC8 := Lib.hid hc8; have HF8 := Lib.hid hf8
                    clear hch' hmv' hp8 hc8 hf8
                    go_wp2_with fail
                    have hl8 : lenOf v' = acc.length + 1 := lenOf_owns HO'.out
                    refine ⟨⟨f, acc ++ [⟨n, hd z t1, 0, see [42] r1⟩], rK, HRR.out, by simp; omega, by simp; omega, HP8.out, by simpa [Glob.cells] using HO'.out, HF8.out, HC8.out⟩, ?_⟩
                    rw [hl8]; simp only [lenOf]; omega
end Go.Proofs.YtgnfhognbpifiaaGreatDoor
