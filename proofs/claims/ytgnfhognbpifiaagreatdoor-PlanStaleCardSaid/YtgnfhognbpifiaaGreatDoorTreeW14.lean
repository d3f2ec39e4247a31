/- The parser's body, over what stmt does; then all bodies. -/
import Derived.Test.YtgnfhognbpifiaaGreatDoorTreeLen
namespace Go.Proofs.YtgnfhognbpifiaaGreatDoor
open Go Go.RowKit Go.Mq Go.Mq.Tree
set_option maxRecDepth 100000
set_option maxHeartbeats 8000000
theorem infoStmt : (Tryz.prog.info? 97).map (fun i => (i.zero, i.size, i.bytes)) = some (some (.agg #[.int .i64 0, .int .i64 0, .string ⟨#[]⟩, .pointer none, .pointer none, .slice none 0 0, .slice none 0 0]), 7, 96) := by kernel_rfl
theorem body_of (deep : Nat) (hdp : deep ≤ 10) (st : Nat → Ps S) (hS : StmtOK deep st) (hm : ∀ z, Mono (st z)) (hl : ∀ z ts s r, st z ts = .ok s r → s.len = 1) (w : World) (B bp bt z : Nat) (ts : List Tok) (h : Par w B bp bt z ts) :
    Calls Tryz.prog 69 #[ptr bp, .int .i64 deep] w (Ended w B bp bt z (bodyL z (st z) (ts.length + 1) .nil ts) (fun w' s v => SlAt w' (New w w') s v)) := by
  have HS := Lib.hid hS
  have H := Lib.hid h
  have hB := h.laid.le
  have hbp := h.bp_lt
  have hbt := h.bt_lt
  have hfew := h.few
  have HM := Lib.hid (hm z)
  have HL := Lib.hid (hl z)
  have hdec : decide ((10 : Int) < (deep : Int)) = false := by simp; omega
  clear h hS hm hl
  go_enter Tryz.func69, Tryz.ntmps69
  go_wp2_with fail
  clear hdec
  go_loopw [5] (fun l wr => ∃ (f : Nat) (acc : S) (cs : List Value) (ts' : List Tok), bodyL z (st z) (ts.length + 1) .nil ts = bodyL z (st z) f acc ts' ∧ ts'.length < f ∧ acc.len + ts'.length ≤ 600 ∧
      Par wr B bp bt z ts' ∧ wr.ownsRow 0 97 7 l acc.len cs ∧ SAt wr (Off w wr l) acc cs ∧ From w.heap.size l ∧ Chg [bp] w wr) (fun _ wr => cntOf wr bp)
  case atStart => exact ⟨ts.length + 1, .nil, [], ts, rfl, by omega, by simpa [S.len] using hfew, H.out, World.ownsRow_nil _ _ _ _, rfl, From.nil _, Chg.refl _ _⟩
  case round =>
    obtain ⟨f, acc, cs, ts', hr, hf, hlen, hp, ho, hes, hF, hC⟩ := hrel
    have HR := Lib.hid hr; have HP := Lib.hid hp; have HO := Lib.hid ho; have HES := Lib.hid hes; have HF := Lib.hid hF; have HC := Lib.hid hC
    obtain ⟨sa, sc, hs⟩ := slice_of_owns ho
    clear hr hp ho hes hF hC
    subst hs
    obtain ⟨f, rfl⟩ : ∃ f', f = f' + 1 := ⟨f - 1, by omega⟩
    have HA := Lib.hid (see_any [101, 110, 100] wr B bp bt z ts' HP.out)
    have HB := Lib.hid (see_any [101, 108, 115, 101] wr B bp bt z ts' HP.out)
    have HD := Lib.hid (see_any [101, 108, 115, 105, 102] wr B bp bt z ts' HP.out)
    have HEND : Hid ((see [101, 110, 100] ts' || see [101, 108, 115, 101] ts' || see [101, 108, 115, 105, 102] ts') = true → Ended w B bp bt z (bodyL z (st z) (ts.length + 1) .nil ts) (fun w' s v => SlAt w' (New w w') s v) (.returned (.slice sa acc.len sc)) wr) := Lib.hid (fun hsee => by
      rw [HR.out, bodyL, if_pos hsee]
      refine ⟨HC.out, _, rfl, ?_, HP.out⟩
      obtain ⟨a, c, he, hac, hrow⟩ := Row.of_owns HO.out (new_owns HO.out HF.out)
      cases he
      exact ⟨_, _, _, rfl, hac, hrow, (framed_S acc cs).done HES.out⟩)
    cases ha : see [101, 110, 100] ts' with
    | true =>
      rw [ha] at HA HEND
      clear ha
      go_wp2_with fail
      refine HA.out.mono ?_; rintro _ _ ⟨rfl, hw⟩; have hw := hw.symm; subst hw
      go_wp2_with fail
      go_ret
      exact HEND.out (by simp)
    | false =>
      rw [ha] at HA HEND
      cases hb : see [101, 108, 115, 101] ts' with
      | true =>
        rw [hb] at HB HEND
        clear ha hb
        go_wp2_with fail
        refine HA.out.mono ?_; rintro _ _ ⟨rfl, hw⟩; have hw := hw.symm; subst hw
        go_wp2_with fail
        refine HB.out.mono ?_; rintro _ _ ⟨rfl, hw⟩; have hw := hw.symm; subst hw
        go_wp2_with fail
        go_ret
        exact HEND.out (by simp)
      | false =>
        rw [hb] at HB HEND
        cases hd' : see [101, 108, 115, 105, 102] ts' with
        | true =>
          rw [hd'] at HD HEND
          clear ha hb hd'
          go_wp2_with fail
          refine HA.out.mono ?_; rintro _ _ ⟨rfl, hw⟩; have hw := hw.symm; subst hw
          go_wp2_with fail
          refine HB.out.mono ?_; rintro _ _ ⟨rfl, hw⟩; have hw := hw.symm; subst hw
          go_wp2_with fail
          refine HD.out.mono ?_; rintro _ _ ⟨rfl, hw⟩; have hw := hw.symm; subst hw
          go_wp2_with fail
          go_ret
          exact HEND.out (by simp)
        | false =>
          rw [hd'] at HD
          have HRR : Hid (∀ q, st z ts' = q → bodyL z (st z) (ts.length + 1) .nil ts = match q with | .bad e p => .bad e p | .ok s r => (match must z [59] r with | .bad e p => .bad e p | .ok _ r2 => bodyL z (st z) f (acc.app s) r2)) := Lib.hid (fun q hq => by rw [HR.out, bodyL, ha, hb, hd', if_neg (by simp), hq]; cases q <;> rfl)
          clear ha hb hd' HEND
          have HX := Lib.hid (HS.out wr B bp bt z ts' HP.out)
          cases hx : st z ts' with
          | bad en p =>
            have HE := Lib.hid (HRR.out _ hx)
            rw [hx] at HX
            clear hx
            go_wp2_with fail
            refine HA.out.mono ?_; rintro _ _ ⟨rfl, hw⟩; have hw := hw.symm; subst hw
            go_wp2_with fail
            refine HB.out.mono ?_; rintro _ _ ⟨rfl, hw⟩; have hw := hw.symm; subst hw
            go_wp2_with fail
            refine HD.out.mono ?_; rintro _ _ ⟨rfl, hw⟩; have hw := hw.symm; subst hw
            go_wp2_with fail
            refine HX.out.mono ?_; intro e w2 he
            have HEE := Lib.hid he
            obtain ⟨b, rfl⟩ := he.thrown
            clear he
            go_wp2_with fail
            refine ⟨rfl, ?_⟩
            rw [HE.out]
            exact HEE.out.relay HC.out
          | ok s r =>
            have hxl := HM.out _ _ _ hx
            have hs1 := HL.out _ _ _ hx
            have HE := Lib.hid (HRR.out _ hx)
            rw [hx] at HX
            clear hx
            go_wp2_with fail
            refine HA.out.mono ?_; rintro _ _ ⟨rfl, hw⟩; have hw := hw.symm; subst hw
            go_wp2_with fail
            refine HB.out.mono ?_; rintro _ _ ⟨rfl, hw⟩; have hw := hw.symm; subst hw
            go_wp2_with fail
            refine HD.out.mono ?_; rintro _ _ ⟨rfl, hw⟩; have hw := hw.symm; subst hw
            go_wp2_with fail
            refine HX.out.mono ?_; rintro _ w4 ⟨hc4, _, rfl, ⟨cx, rfl, hcl, hsx⟩, hp4⟩
            have HSX := Lib.hid hsx
            obtain ⟨k9, q9, n9, i9, v9, a9, l9, m9, b9, j9, o9, rfl⟩ := hsx.shape hs1
            have HC4 := Lib.hid hc4; have HP4 := Lib.hid hp4
            have ho4 := owns_kept HO.out hc4 (fun g hg hm => by have := HF.out g hg; simp at hm; omega)
            have ho5 := owns_kept ho4 ((Chg.refl [] w4).alloc (.cells #[.int .i64 k9, .int .i64 q9, str n9, .pointer i9, .pointer v9, .slice a9 l9 m9, .slice b9 j9 o9] 97)) (by simp)
            have HO4 := Lib.hid ho5
            have hal : acc.len ≤ 600 := by omega
            clear hc4 hp4 ho4 ho5 hcl hsx
            go_wp2_with (at_builtin; go_must (refine wpL_append rfl _ _ 35 rfl 97 _ 7 96 infoStmt Tryz.underlying35 rfl (by decide) _ _ _ rfl HO4.out ⟨w4.heap.size, 0, none⟩ 1 1 [.int .i64 k9, .int .i64 q9, str n9, .pointer i9, .pointer v9, .slice a9 l9 m9, .slice b9 j9 o9] rfl rfl (cells_new _ _ _) (by simp [Value.oneCell']) ?_ ?_ ?_))
            · omega
            · unfold maxLen; omega
            · intro v' w' hown' hch' hmv'
              have HO' := Lib.hid hown'; clear hown'
              obtain ⟨hp5, hc5, hf5⟩ := grow_step hB hbp hbt HC.out HC4.out HP4.out HF.out hch' hmv'
              have hlw : ∀ g ∈ blk _, g < wr.heap.size := fun g hg => owns_lt HO.out g hg
              have hes4 := (framed_S acc cs).call HES.out HC4.out hbp
              have hx4 := (framed_S s _).fresh HSX.out hlw HC.out.size
              have hes5 := (framed_S acc cs).app hes4 hch' hmv'
              have hx5 := (framed_S s _).app hx4 hch' hmv'
              have HES5 := Lib.hid (SAt.append hx5 hes5)
              have HP5 := Lib.hid hp5; have HC5 := Lib.hid hc5; have HF5 := Lib.hid hf5
              have hal5 : (acc.app s).len = acc.len + 1 := by rw [S.app_len, hs1]
              have HMU := Lib.hid (must_any [59] w' B bp bt z r hp5)
              clear hch' hmv' hp5 hc5 hf5 hes4 hx4 hes5 hx5 hlw
              cases hmu : must z [59] r with
              | bad en p =>
                have HEB := Lib.hid (show bodyL z (st z) (ts.length + 1) .nil ts = .bad en p by rw [HE.out]; simp only [hmu])
                rw [hmu] at HMU
                clear hmu
                go_wp2_with fail
                refine HMU.out.mono ?_; intro e w6 he
                have HEE := Lib.hid he
                obtain ⟨b, rfl⟩ := he.thrown
                clear he
                go_wp2_with fail
                refine ⟨rfl, ?_⟩
                rw [HEB.out]
                exact HEE.out.relay HC5.out
              | ok u r2 =>
                have hml := must_len hmu
                have HEO := Lib.hid (show bodyL z (st z) (ts.length + 1) .nil ts = bodyL z (st z) f (acc.app s) r2 by rw [HE.out]; simp only [hmu])
                rw [hmu] at HMU
                clear hmu
                go_wp2_with fail
                refine HMU.out.mono ?_; rintro _ w6 ⟨hc6, _, rfl, rfl, hp6⟩
                have HC6 := Lib.hid hc6; have HP6 := Lib.hid hp6
                clear hc6 hp6
                go_wp2_with fail
                have ho6 := owns_kept HO'.out HC6.out (fun g hg hm => by have := HF5.out g hg; simp at hm; omega)
                refine ⟨⟨f, acc.app s, _, r2, HEO.out, by omega, by rw [hal5]; omega, HP6.out, by rw [hal5]; exact ho6, (framed_S _ _).call HES5.out HC6.out hbp, HF5.out, HC5.out.then HC6.out⟩, ?_⟩
                rw [HP6.out.cnt, HP.out.cnt]
                omega
theorem body_deep (w : World) (B bp bt z : Nat) (ts : List Tok) (h : Par w B bp bt z ts) :
    Calls Tryz.prog 69 #[ptr bp, .int .i64 (11 : Nat)] w (Ended w B bp bt z (.bad 4 (hd z ts) : R S) (fun w' s v => SlAt w' (New w w') s v)) := by
  have HF := Lib.hid (fail_any 4 w B bp bt z ts h)
  clear h
  go_enter Tryz.func69, Tryz.ntmps69
  go_wp2_with fail
  refine HF.out.mono ?_; intro e w6 he
  have HEE := Lib.hid he
  obtain ⟨b, rfl⟩ := he.thrown
  clear he
  go_wp2_with fail
  refine ⟨rfl, ?_⟩
  exact HEE.out.relay (Chg.refl _ _)
/-- Bodies, and what stands behind if, at each depth. -/
theorem bodies_any : ∀ d deep, deep + d = 11 → BodyOK deep d ∧ (0 < d → RestOK deep d) := by
  intro d
  induction d with
  | zero =>
    intro deep h
    obtain rfl : deep = 11 := by omega
    exact ⟨fun w B bp bt z ts hp => body_deep w B bp bt z ts hp, fun h => by omega⟩
  | succ d ih =>
    intro deep h
    have hB := (ih (deep + 1) (by omega)).1
    have hR : RestOK (deep + 1) d ∨ d = 0 := by
      rcases Nat.eq_zero_or_pos d with h0 | h0
      · exact .inr h0
      · exact .inl ((ih (deep + 1) (by omega)).2 h0)
    have hRR := rest_step deep d (by omega) hB hR
    refine ⟨?_, fun _ => hRR⟩
    have hS := stmt_step deep d (by omega) hB hRR
    exact fun w B bp bt z ts hp => body_of deep (by omega) _ hS (fun z => stmt_mono (bodies_mono z d).1 (bodies_mono z (d + 1)).2) (fun z ts s r hx => stmt_len hx) w B bp bt z ts hp
theorem body0_any (w : World) (B bp bt z : Nat) (ts : List Tok) (h : Par w B bp bt z ts) :
    Calls Tryz.prog 69 #[ptr bp, .int .i64 0] w (Ended w B bp bt z (body0 z ts) (fun w' s v => SlAt w' (New w w') s v)) :=
  (bodies_any 11 0 rfl).1 w B bp bt z ts h
end Go.Proofs.YtgnfhognbpifiaaGreatDoor
