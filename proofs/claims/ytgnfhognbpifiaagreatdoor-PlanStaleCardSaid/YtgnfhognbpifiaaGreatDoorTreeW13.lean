/- The parser's stmt, over what body and rest do. -/
import Derived.Test.YtgnfhognbpifiaaGreatDoorTreeW12
namespace Go.Mq.Tree
open Go Go.RowKit Go.Mq
/-- Blocks that are new but for the first two. -/
abbrev New2 (w w' : World) : Nat → Prop := fun b => w.heap.size + 2 ≤ b ∧ b < w'.heap.size
theorem EndedS.relayE {α β : Type} {w w1 w2 : World} {B bp bx bt z en p : Nat} {V : World → α → Prop} {V' : World → β → Value → Prop} {e : Ending} (h : EndedS w1 B bp bx bt z (.bad en p : R α) V e w2) (hc : Chg [bp] w w1) (hx : w.heap.size ≤ bx) : Ended w B bp bt z (.bad en p : R β) V' e w2 := by
  obtain ⟨hc2, b, he, hb, hB⟩ := h
  exact ⟨hc.trans hc2 (fun x hm => by simp at hm; rcases hm with rfl | rfl; exact .inl (by simp); exact .inr hx), b, he, Nat.le_trans hc.size hb, hB⟩
theorem first_len {z p : Nat} {ts r : List Tok} {s : S} (h : first z p ts = .ok s r) : s.len = 1 := by
  rw [first] at h
  repeat' (split at h)
  all_goals first | (cases h; rfl) | cases h | (rename_i h2; split at h2; all_goals first | cases h2 | (cases h; rfl))
theorem S.len_nil {s : S} (h : s.len = 0) : s = .nil := by
  cases s <;> first | rfl | (simp [S.len] at h)
theorem OptAt.ptr {w : World} {F : Nat → Prop} {i : Option E} {u : Value} (h : OptAt w F i u) : ∃ b, u = .pointer b := by
  cases i with
  | none => exact ⟨_, h⟩
  | some x => obtain ⟨b, rfl⟩ := EAt.ptr h; exact ⟨_, rfl⟩
/-- One statement's cells. -/
theorem SAt.shape {w : World} {F : Nat → Prop} {s : S} {cs : List Value} (h : SAt w F s cs) (hl : s.len = 1) : ∃ (k p : Int) (n : List UInt8) (i v : Option Addr) (a1 : Option Addr) (l1 c1 : Nat) (a2 : Option Addr) (l2 c2 : Nat),
    cs = [.int .i64 k, .int .i64 p, str n, .pointer i, .pointer v, .slice a1 l1 c1, .slice a2 l2 c2] := by
  cases s with
  | nil => cases hl
  | set p n i v r =>
    obtain ⟨ui, uv, cs', rfl, h2, h3, h4⟩ := h
    obtain rfl := S.len_nil (s := r) (by simp [S.len] at hl; exact hl)
    obtain rfl : cs' = [] := h4
    obtain ⟨b, rfl⟩ := h2.ptr; obtain ⟨c, rfl⟩ := h3.ptr
    exact ⟨_, _, _, _, _, _, _, _, _, _, _, rfl⟩
  | ifs p v t e r =>
    obtain ⟨uv, a1, c1, ts, a2, c2, es, cs', rfl, h2, h3, h4, h5, h6, h7, h8, h9⟩ := h
    obtain rfl := S.len_nil (s := r) (by simp [S.len] at hl; exact hl)
    obtain rfl : cs' = [] := h9
    obtain ⟨c, rfl⟩ := h2.ptr
    exact ⟨_, _, _, _, _, _, _, _, _, _, _, rfl⟩
  | whil p v t r =>
    obtain ⟨uv, a1, c1, ts, cs', rfl, h2, h3, h4, h5, h6⟩ := h
    obtain rfl := S.len_nil (s := r) (by simp [S.len] at hl; exact hl)
    obtain rfl : cs' = [] := h6
    obtain ⟨c, rfl⟩ := h2.ptr
    exact ⟨_, _, _, _, _, _, _, _, _, _, _, rfl⟩
  | ret p v r =>
    obtain ⟨uv, cs', rfl, h2, h3⟩ := h
    obtain rfl := S.len_nil (s := r) (by simp [S.len] at hl; exact hl)
    obtain rfl : cs' = [] := h3
    obtain ⟨c, rfl⟩ := h2.ptr
    exact ⟨_, _, _, _, _, _, _, _, _, _, _, rfl⟩
  | wri p v r =>
    obtain ⟨uv, cs', rfl, h2, h3⟩ := h
    obtain rfl := S.len_nil (s := r) (by simp [S.len] at hl; exact hl)
    obtain rfl : cs' = [] := h3
    obtain ⟨c, rfl⟩ := h2.ptr
    exact ⟨_, _, _, _, _, _, _, _, _, _, _, rfl⟩
  | call p v r =>
    obtain ⟨uv, cs', rfl, h2, h3⟩ := h
    obtain rfl := S.len_nil (s := r) (by simp [S.len] at hl; exact hl)
    obtain rfl : cs' = [] := h3
    obtain ⟨c, rfl⟩ := h2.ptr
    exact ⟨_, _, _, _, _, _, _, _, _, _, _, rfl⟩
end Go.Mq.Tree
namespace Go.Proofs.YtgnfhognbpifiaaGreatDoor
open Go Go.RowKit Go.Mq Go.Mq.Tree
set_option maxRecDepth 100000
set_option maxHeartbeats 16000000
/-- What a statement's call hands back. -/
abbrev SV (w : World) : World → S → Value → Prop := fun w' s v => ∃ cs, v = .agg cs.toArray ∧ cs.length = 7 ∧ SAt w' (New w w') s cs
def StmtOK (deep : Nat) (st : Nat → Ps S) : Prop := ∀ (w : World) (B bp bt z : Nat) (ts : List Tok), Par w B bp bt z ts → Calls Tryz.prog 92 #[ptr bp, .int .i64 deep] w (Ended w B bp bt z (st z ts) (SV w))
theorem set7 {w : World} {b : Nat} (v0 v1 v2 v3 v4 v5 v6 : Value) {u0 u1 u2 u3 u4 u5 u6 : Value} {t : TypeId} (h : Blk w b #[u0, u1, u2, u3, u4, u5, u6] t) : ∃ wF, (((((((w.setCell ⟨b, 0, none⟩ v0).setCell ⟨b, 1, none⟩ v1).setCell ⟨b, 2, none⟩ v2).setCell ⟨b, 3, none⟩ v3).setCell ⟨b, 4, none⟩ v4).setCell ⟨b, 5, none⟩ v5).setCell ⟨b, 6, none⟩ v6) = wF ∧ Chg [b] w wF ∧ Blk wF b #[v0, v1, v2, v3, v4, v5, v6] t :=
  ⟨_, rfl, ((((((Chg.set1 _ _ _ _).then (Chg.set1 _ _ _ _)).then (Chg.set1 _ _ _ _)).then (Chg.set1 _ _ _ _)).then (Chg.set1 _ _ _ _)).then (Chg.set1 _ _ _ _)).then (Chg.set1 _ _ _ _), by
    have := ((((((h.set 0 v0).set 1 v1).set 2 v2).set 3 v3).set 4 v4).set 5 v5).set 6 v6
    simpa using this⟩
theorem stmt_step (deep d : Nat) (hdp : deep ≤ 10) (hB : BodyOK (deep + 1) d) (hR : RestOK deep (d + 1)) : StmtOK deep (fun z => stmt z (bodies z d).1 (bodies z (d + 1)).2) := by
  intro w B bp bt z ts h
  have HBO := Lib.hid (body_next hB)
  have HRO := Lib.hid hR
  have hbp := h.bp_lt
  have hbt := h.bt_lt
  have hB0 := h.laid.le
  have hwr := wrap_next (deep := deep) (by omega)
  obtain ⟨off, c, nn, c0, c2⟩ := par_at h
  have hw1 : (w.alloc (.cells (sCells 0) 97)).heap.size = w.heap.size + 1 := by simp
  have HC1 := Lib.hid (show Chg [bp] w ((w.alloc (.cells (sCells 0) 97)).alloc (.cells (sCells (hd z ts)) 97)) from ((Chg.refl _ _).alloc _).alloc _)
  have HP1 := Lib.hid (h.kept (((Chg.refl [] w).alloc (.cells (sCells 0) 97)).alloc (.cells (sCells (hd z ts)) 97)) (by simp) (by simp) (by simp))
  have hB1 := Blk.new (w.alloc (.cells (sCells 0) 97)) (sCells (hd z ts)) 97
  rw [hw1] at hB1
  have HB1 := Lib.hid hB1
  have HR1 := Lib.hid ((Blk.new w (sCells 0) 97).kept ((Chg.refl [] _).alloc (.cells (sCells (hd z ts)) 97)) (by simp))
  clear h hB hR hB1 hw1
  go_enter Tryz.func92, Tryz.ntmps92
  go_wp2_with fail
  clear c0 c2
  obtain ⟨w1, hw1⟩ : ∃ w1, w1 = (w.alloc (.cells (sCells 0) 97)).alloc (.cells (sCells (hd z ts)) 97) := ⟨_, rfl⟩
  rw [← hw1] at HC1 HP1 HB1 HR1
  change Calls _ _ _ ((w.alloc (.cells (sCells 0) 97)).alloc (.cells (sCells (hd z ts)) 97)) _
  rw [← hw1]
  clear hw1
  have HT := Lib.hid (take_any [105, 102] w1 B bp bt z ts HP1.out)
  cases hk : see [105, 102] ts with
  | true =>
    have HI_if := Lib.hid hk
    clear hk
    refine HT.out.mono ?_; rintro _ w2 ⟨rfl, hp2, hc2, _⟩
    rw [HI_if.out]
    rw [skip, HI_if.out, if_pos rfl] at hp2
    have HP2 := Lib.hid hp2; have HC2 := Lib.hid hc2
    have HWC2 := Lib.hid (HC1.out.then hc2)
    have HB2 := Lib.hid (HB1.out.kept hc2 (by simp; omega)); have HR2 := Lib.hid (HR1.out.kept hc2 (by simp; omega))
    have HS2 := Lib.hid (show w.heap.size + 2 ≤ w2.heap.size by have := hc2.size; have := HB1.out.lt; omega)
    clear hp2 hc2
    have HR := Lib.hid (HRO.out (hd z ts) w2 B bp (w.heap.size + 1) bt z ts.tail HP2.out HB2.out (by omega) (by omega) (by omega))

    cases hx : (bodies z (d + 1)).2 ts.tail with
    | bad en q =>
      have HRR := Lib.hid (show stmt z (bodies z d).1 (bodies z (d + 1)).2 ts = .bad en q by rw [stmt, if_pos HI_if.out]; simp only [hx])
      rw [hx] at HR
      clear hx
      go_wp2_with fail
      refine HR.out.mono ?_; intro e w9 he
      have HEE := Lib.hid he
      obtain ⟨b9, rfl⟩ := he.thrown
      clear he
      go_wp2_with fail
      refine ⟨rfl, ?_⟩
      rw [HRR.out]
      exact HEE.out.relayE (HWC2.out) (by omega)
    | ok aK rK =>
      have HX := Lib.hid hx
      rw [hx] at HR
      clear hx
      obtain ⟨x3, rfl⟩ : ∃ x3, x3 = aK := ⟨aK, rfl⟩
      obtain ⟨r3, rfl⟩ : ∃ r3, r3 = rK := ⟨rK, rfl⟩
      go_wp2_with fail
      refine HR.out.mono ?_; rintro e w3 ⟨hc3, rfl, ⟨cs, hb3, hs3⟩, hp3⟩
      have HB3 := Lib.hid hb3; have HS3 := Lib.hid hs3
      have HWC3 := Lib.hid (show Chg [bp] w w3 from HWC2.out.trans hc3 (fun x hx => by simp at hx; rcases hx with rfl | rfl; exact .inl (by simp); exact .inr (by omega)))
      have HR3 := Lib.hid (HR2.out.kept hc3 (by simp; omega))
      have HMU := Lib.hid (must_any [101, 110, 100] w3 B bp bt z r3 hp3)
      clear hc3 hb3 hs3 hp3

      cases hx : must z [101, 110, 100] r3 with
      | bad en q =>
        have HRR := Lib.hid (show stmt z (bodies z d).1 (bodies z (d + 1)).2 ts = .bad en q by rw [stmt, if_pos HI_if.out]; simp only [HX.out]; simp only [hx])
        rw [hx] at HMU
        clear hx
        go_wp2_with fail
        refine HMU.out.mono ?_; intro e w9 he
        have HEE := Lib.hid he
        obtain ⟨b9, rfl⟩ := he.thrown
        clear he
        go_wp2_with fail
        refine ⟨rfl, ?_⟩
        rw [HRR.out]
        exact HEE.out.relay (HWC3.out)
      | ok aK rK =>
        have HRR := Lib.hid (show stmt z (bodies z d).1 (bodies z (d + 1)).2 ts = .ok (.ifs (hd z ts) x3.1 x3.2.1 x3.2.2 .nil) rK by rw [stmt, if_pos HI_if.out]; simp only [HX.out, hx])
        rw [hx] at HMU
        clear hx
        go_wp2_with fail
        refine HMU.out.mono ?_; rintro e wE ⟨hcE, _, rfl, rfl, hpE⟩
        have HCE := Lib.hid (HWC3.out.then hcE); have HPE := Lib.hid hpE
        have hbE := HB3.out.kept hcE (by simp; omega); have hrE := HR3.out.kept hcE (by simp; omega)
        have hsE : SAt wE (New2 w wE) (.ifs (hd z ts) x3.1 x3.2.1 x3.2.2 .nil) cs := (((HS3.out.mono (G := New2 w w3) (fun x hx => ⟨by have := hx.1; have := HS2.out; omega, hx.2⟩)).kept hcE (fun x hx hn => by simp at hx; have := hn.1; omega))).mono (fun x hx => ⟨hx.1, Nat.lt_of_lt_of_le hx.2 hcE.size⟩)
        have hlE : S.len (.ifs (hd z ts) x3.1 x3.2.1 x3.2.2 .nil) = 1 := rfl
        clear hcE hpE

        have HBE := Lib.hid hbE; have HSE := Lib.hid hsE; have HRE := Lib.hid hrE
        obtain ⟨k9, q9, n9, i9, v9, a9, l9, m9, b9, j9, o9, rfl⟩ := hsE.shape hlE
        have d0 := HBE.out.cell 0 _ rfl; have d1 := HBE.out.cell 1 _ rfl; have d2 := HBE.out.cell 2 _ rfl; have d3 := HBE.out.cell 3 _ rfl; have d4 := HBE.out.cell 4 _ rfl; have d5 := HBE.out.cell 5 _ rfl; have d6 := HBE.out.cell 6 _ rfl
        have e0 := HRE.out.cell 0 _ rfl; have e1 := HRE.out.cell 1 _ rfl; have e2 := HRE.out.cell 2 _ rfl; have e3 := HRE.out.cell 3 _ rfl; have e4 := HRE.out.cell 4 _ rfl; have e5 := HRE.out.cell 5 _ rfl; have e6 := HRE.out.cell 6 _ rfl
        have f0 := HRE.out.frozen 0; have f1 := HRE.out.frozen 1; have f2 := HRE.out.frozen 2; have f3 := HRE.out.frozen 3; have f4 := HRE.out.frozen 4; have f5 := HRE.out.frozen 5; have f6 := HRE.out.frozen 6
        clear hsE hbE hrE
        go_wp2_with fail
        obtain ⟨wF, hwF, hcF, hbF⟩ := set7 (.int .i64 k9) (.int .i64 q9) (str n9) (.pointer i9) (.pointer v9) (.slice a9 l9 m9) (.slice b9 j9 o9) HRE.out
        rw [hwF]
        clear hwF
        have g0 := hbF.cell 0 (.int .i64 k9) rfl; have g1 := hbF.cell 1 (.int .i64 q9) rfl; have g2 := hbF.cell 2 (str n9) rfl; have g3 := hbF.cell 3 (.pointer i9) rfl; have g4 := hbF.cell 4 (.pointer v9) rfl; have g5 := hbF.cell 5 (.slice a9 l9 m9) rfl; have g6 := hbF.cell 6 (.slice b9 j9 o9) rfl
        refine bodyPost_ret (v := .agg #[(.int .i64 k9), (.int .i64 q9), (str n9), (.pointer i9), (.pointer v9), (.slice a9 l9 m9), (.slice b9 j9 o9)]) (by simp [results, Tryz.results92, go_sem, g0, g1, g2, g3, g4, g5, g6]) rfl ?_
        rw [HRR.out]
        have hkF : ∀ x ∈ [w.heap.size], ¬ New2 w wE x := fun x hx hn => by simp at hx; have := hn.1; omega
        exact ⟨HCE.out.trans hcF (fun x hx => .inr (by simp at hx; omega)), _, rfl, ⟨_, rfl, rfl, (HSE.out.kept hcF hkF).mono (fun x hx => ⟨by have := hx.1; omega, Nat.lt_of_lt_of_le hx.2 hcF.size⟩)⟩, HPE.out.kept hcF (fun x hx => by simp at hx; omega) (by simp; omega) (by simp; omega)⟩
  | false =>
    have HI_if := Lib.hid hk
    clear hk
    refine HT.out.mono ?_; rintro _ w2 ⟨rfl, _, _, hw⟩
    rw [HI_if.out]
    have hw' := (hw HI_if.out).symm; subst hw'; clear hw
    have HT := Lib.hid (take_any [119, 104, 105, 108, 101] w1 B bp bt z ts HP1.out)
    cases hk : see [119, 104, 105, 108, 101] ts with
    | true =>
      have HI_while := Lib.hid hk
      clear hk
      go_wp2_with fail
      refine HT.out.mono ?_; rintro _ w2 ⟨rfl, hp2, hc2, _⟩
      rw [HI_while.out]
      rw [skip, HI_while.out, if_pos rfl] at hp2
      have HP2 := Lib.hid hp2; have HC2 := Lib.hid hc2
      have HWC2 := Lib.hid (HC1.out.then hc2)
      have HB2 := Lib.hid (HB1.out.kept hc2 (by simp; omega)); have HR2 := Lib.hid (HR1.out.kept hc2 (by simp; omega))
      have HS2 := Lib.hid (show w.heap.size + 2 ≤ w2.heap.size by have := hc2.size; have := HB1.out.lt; omega)
      clear hp2 hc2
      have HE := Lib.hid (ex0_any w2 B bp bt z ts.tail HP2.out)

      cases hx : ex0 z ts.tail with
      | bad en q =>
        have HRR := Lib.hid (show stmt z (bodies z d).1 (bodies z (d + 1)).2 ts = .bad en q by rw [stmt, if_neg (by rw [HI_if.out]; simp), if_pos HI_while.out]; simp only [hx])
        rw [hx] at HE
        clear hx
        go_wp2_with fail
        refine HE.out.mono ?_; intro e w9 he
        have HEE := Lib.hid he
        obtain ⟨b9, rfl⟩ := he.thrown
        clear he
        go_wp2_with fail
        refine ⟨rfl, ?_⟩
        rw [HRR.out]
        exact HEE.out.relay (HWC2.out)
      | ok aK rK =>
        have HX := Lib.hid hx
        rw [hx] at HE
        clear hx
        obtain ⟨v, rfl⟩ : ∃ v, v = aK := ⟨aK, rfl⟩
        obtain ⟨r3, rfl⟩ : ∃ r3, r3 = rK := ⟨rK, rfl⟩
        go_wp2_with fail
        refine HE.out.mono ?_; rintro e w3 ⟨hc3, v3, rfl, hv3, hp3⟩
        obtain ⟨b3, rfl⟩ := hv3.ptr
        have hb3 := HB2.out.kept hc3 (by simp; omega)
        have f0 := hb3.frozen 0; have f4 := hb3.frozen 4; have e0 := hb3.cell 0 _ rfl; have e4 := hb3.cell 4 _ rfl
        have hb4 := (hb3.set 0 (.int .i64 3)).set 4 (ptr b3)
        have hc4 : Chg [w.heap.size + 1] w3 ((w3.setCell ⟨w.heap.size + 1, 0, none⟩ (.int .i64 3)).setCell ⟨w.heap.size + 1, 4, none⟩ (ptr b3)) := (Chg.set1 _ _ _ _).then (Chg.set1 _ _ _ _)
        have hr4 := (HR2.out.kept hc3 (by simp; omega)).kept hc4 (by simp)
        have HP4 := Lib.hid (hp3.kept hc4 (fun x hx => by simp at hx; omega) (by simp; omega) (by simp; omega))
        have HWC4 := Lib.hid (show Chg [bp] w _ from (HWC2.out.then hc3).trans hc4 (fun x hx => .inr (by simp at hx; omega)))
        have hv4 : EAt ((w3.setCell ⟨w.heap.size + 1, 0, none⟩ (.int .i64 3)).setCell ⟨w.heap.size + 1, 4, none⟩ (ptr b3)) (New2 w _) v [ptr b3] := ((hv3.mono (G := New2 w w3) (fun x hx => ⟨by have := hx.1; have := HS2.out; omega, hx.2⟩)).kept hc4 (fun x hx hn => by simp at hx; have := hn.1; omega)).mono (fun x hx => ⟨hx.1, Nat.lt_of_lt_of_le hx.2 hc4.size⟩)
        have HB4 := Lib.hid hb4; have HR4 := Lib.hid hr4; have HV4 := Lib.hid hv4
        have HS4 := Lib.hid (show w.heap.size + 2 ≤ ((w3.setCell ⟨w.heap.size + 1, 0, none⟩ (.int .i64 3)).setCell ⟨w.heap.size + 1, 4, none⟩ (ptr b3)).heap.size from Nat.le_trans HS2.out (Nat.le_trans hc3.size hc4.size))
        clear hc3 hv3 hp3 hb3 hb4 hr4 hc4 hv4
        go_wp2_with fail
        clear f0 f4 e0 e4
        generalize (w3.setCell ⟨w.heap.size + 1, 0, none⟩ (.int .i64 3)).setCell ⟨w.heap.size + 1, 4, none⟩ (ptr b3) = w4 at *
        have HMU := Lib.hid (must_any [100, 111] w4 B bp bt z r3 HP4.out)

        cases hx : must z [100, 111] r3 with
        | bad en q =>
          have HRR := Lib.hid (show stmt z (bodies z d).1 (bodies z (d + 1)).2 ts = .bad en q by rw [stmt, if_neg (by rw [HI_if.out]; simp), if_pos HI_while.out]; simp only [HX.out]; simp only [hx])
          rw [hx] at HMU
          clear hx
          go_wp2_with fail
          refine HMU.out.mono ?_; intro e w9 he
          have HEE := Lib.hid he
          obtain ⟨b9, rfl⟩ := he.thrown
          clear he
          go_wp2_with fail
          refine ⟨rfl, ?_⟩
          rw [HRR.out]
          exact HEE.out.relay (HWC4.out)
        | ok aK rK =>
          have HX5 := Lib.hid hx
          rw [hx] at HMU
          clear hx
          obtain ⟨r5, rfl⟩ : ∃ r5, r5 = rK := ⟨rK, rfl⟩
          go_wp2_with fail
          refine HMU.out.mono ?_; rintro e w5 ⟨hc5, _, rfl, rfl, hp5⟩
          have HC5 := Lib.hid hc5
          have HBD := Lib.hid (HBO.out w5 B bp bt z r5 hp5)
          clear hc5 hp5

          cases hx : (bodies z d).1 r5 with
          | bad en q =>
            have HRR := Lib.hid (show stmt z (bodies z d).1 (bodies z (d + 1)).2 ts = .bad en q by rw [stmt, if_neg (by rw [HI_if.out]; simp), if_pos HI_while.out]; simp only [HX.out, HX5.out]; simp only [hx])
            rw [hx] at HBD
            clear hx
            go_wp2_with fail
            refine HBD.out.mono ?_; intro e w9 he
            have HEE := Lib.hid he
            obtain ⟨b9, rfl⟩ := he.thrown
            clear he
            go_wp2_with fail
            refine ⟨rfl, ?_⟩
            rw [HRR.out]
            exact HEE.out.relay (HWC4.out.then HC5.out)
          | ok aK rK =>
            have HX6 := Lib.hid hx
            rw [hx] at HBD
            clear hx
            obtain ⟨t, rfl⟩ : ∃ t, t = aK := ⟨aK, rfl⟩
            obtain ⟨r6, rfl⟩ : ∃ r6, r6 = rK := ⟨rK, rfl⟩
            go_wp2_with fail
            refine HBD.out.mono ?_; rintro e w6 ⟨hc6, v6, rfl, ⟨a6, k6, cs6, rfl, hl6, hr6, hs6⟩, hp6⟩
            have hb6 := (HB4.out.kept HC5.out (by simp; omega)).kept hc6 (by simp; omega)
            have f5 := hb6.frozen 5; have e5 := hb6.cell 5 _ rfl
            have hb7 := hb6.set 5 (.slice a6 t.len k6)
            have hc7 : Chg [w.heap.size + 1] w6 (w6.setCell ⟨w.heap.size + 1, 5, none⟩ (.slice a6 t.len k6)) := Chg.set1 _ _ _ _
            have hk46 : Chg [bp] w4 w6 := HC5.out.then hc6
            have hr7 := (HR4.out.kept hk46 (by simp; omega)).kept hc7 (by simp)
            have HP7 := Lib.hid (hp6.kept hc7 (fun x hx => by simp at hx; omega) (by simp; omega) (by simp; omega))
            have HWC7 := Lib.hid (show Chg [bp] w _ from (HWC4.out.then hk46).trans hc7 (fun x hx => .inr (by simp at hx; omega)))
            have hv6 : EAt w6 (New2 w w6) v [ptr b3] := (HV4.out.kept hk46 (fun x hx hn => by simp at hx; have := hn.1; omega)).mono (fun x hx => ⟨hx.1, Nat.lt_of_lt_of_le hx.2 hk46.size⟩)
            have hn6 : ∀ x, New w5 w6 x → New2 w w6 x := fun x hx => ⟨Nat.le_trans HS4.out (Nat.le_trans HC5.out.size hx.1), hx.2⟩
            have hk7 : ∀ x ∈ [w.heap.size + 1], ¬ New2 w w6 x := fun x hx hn => by simp at hx; have := hn.1; omega
            have hg7 : ∀ x, New2 w w6 x → New2 w (w6.setCell ⟨w.heap.size + 1, 5, none⟩ (.slice a6 t.len k6)) x := fun x hx => ⟨hx.1, Nat.lt_of_lt_of_le hx.2 hc7.size⟩
            have HV7 := Lib.hid (And.intro ((hv6.kept hc7 hk7).mono hg7) (And.intro (((hr6.mono hn6).kept hc7 hk7).mono hg7) (((hs6.mono hn6).kept hc7 hk7).mono hg7)))
            have HL6 := Lib.hid hl6; have HB7 := Lib.hid hb7; have HR7 := Lib.hid hr7
            clear hc6 hl6 hr6 hs6 hp6 hb6 hb7 hc7 hk46 hr7 hv6 hn6 hk7 hg7
            go_wp2_with fail
            clear f5 e5
            generalize w6.setCell ⟨w.heap.size + 1, 5, none⟩ (.slice a6 t.len k6) = w7 at *
            have HMU2 := Lib.hid (must_any [101, 110, 100] w7 B bp bt z r6 HP7.out)

            cases hx : must z [101, 110, 100] r6 with
            | bad en q =>
              have HRR := Lib.hid (show stmt z (bodies z d).1 (bodies z (d + 1)).2 ts = .bad en q by rw [stmt, if_neg (by rw [HI_if.out]; simp), if_pos HI_while.out]; simp only [HX.out, HX5.out, HX6.out]; simp only [hx])
              rw [hx] at HMU2
              clear hx
              go_wp2_with fail
              refine HMU2.out.mono ?_; intro e w9 he
              have HEE := Lib.hid he
              obtain ⟨b9, rfl⟩ := he.thrown
              clear he
              go_wp2_with fail
              refine ⟨rfl, ?_⟩
              rw [HRR.out]
              exact HEE.out.relay (HWC7.out)
            | ok aK rK =>
              have HRR := Lib.hid (show stmt z (bodies z d).1 (bodies z (d + 1)).2 ts = .ok (.whil (hd z ts) v t .nil) rK by rw [stmt, if_neg (by rw [HI_if.out]; simp), if_pos HI_while.out]; simp only [HX.out, HX5.out, HX6.out, hx])
              rw [hx] at HMU2
              clear hx
              go_wp2_with fail
              refine HMU2.out.mono ?_; rintro e wE ⟨hcE, _, rfl, rfl, hpE⟩
              have HCE := Lib.hid (HWC7.out.then hcE); have HPE := Lib.hid hpE
              have hk : ∀ x ∈ [bp], ¬ New2 w w7 x := fun x hx hn => by simp at hx; have := hn.1; omega
              have hg : ∀ x, New2 w w7 x → New2 w wE x := fun x hx => ⟨hx.1, Nat.lt_of_lt_of_le hx.2 hcE.size⟩
              obtain ⟨cs, hcs⟩ : ∃ cs, cs = [.int .i64 3, .int .i64 (hd z ts), str [], nilp, ptr b3, .slice a6 t.len k6, nils] := ⟨_, rfl⟩
              have hbE : Blk wE (w.heap.size + 1) cs.toArray 97 := by rw [hcs]; simpa using HB7.out.kept hcE (by simp; omega)
              have hrE := HR7.out.kept hcE (by simp; omega)
              have hsE : SAt wE (New2 w wE) (.whil (hd z ts) v t .nil) cs := ⟨ptr b3, a6, k6, cs6, [], hcs, (HV7.out.1.kept hcE hk).mono hg, HL6.out, (HV7.out.2.1.kept hcE hk).mono hg, (HV7.out.2.2.kept hcE hk).mono hg, rfl⟩
              have hlE : S.len (.whil (hd z ts) v t .nil) = 1 := rfl
              clear hcE hpE hcs hk hg

              have HBE := Lib.hid hbE; have HSE := Lib.hid hsE; have HRE := Lib.hid hrE
              obtain ⟨k9, q9, n9, i9, v9, a9, l9, m9, b9, j9, o9, rfl⟩ := hsE.shape hlE
              have d0 := HBE.out.cell 0 _ rfl; have d1 := HBE.out.cell 1 _ rfl; have d2 := HBE.out.cell 2 _ rfl; have d3 := HBE.out.cell 3 _ rfl; have d4 := HBE.out.cell 4 _ rfl; have d5 := HBE.out.cell 5 _ rfl; have d6 := HBE.out.cell 6 _ rfl
              have e0 := HRE.out.cell 0 _ rfl; have e1 := HRE.out.cell 1 _ rfl; have e2 := HRE.out.cell 2 _ rfl; have e3 := HRE.out.cell 3 _ rfl; have e4 := HRE.out.cell 4 _ rfl; have e5 := HRE.out.cell 5 _ rfl; have e6 := HRE.out.cell 6 _ rfl
              have f0 := HRE.out.frozen 0; have f1 := HRE.out.frozen 1; have f2 := HRE.out.frozen 2; have f3 := HRE.out.frozen 3; have f4 := HRE.out.frozen 4; have f5 := HRE.out.frozen 5; have f6 := HRE.out.frozen 6
              clear hsE hbE hrE
              go_wp2_with fail
              obtain ⟨wF, hwF, hcF, hbF⟩ := set7 (.int .i64 k9) (.int .i64 q9) (str n9) (.pointer i9) (.pointer v9) (.slice a9 l9 m9) (.slice b9 j9 o9) HRE.out
              rw [hwF]
              clear hwF
              have g0 := hbF.cell 0 (.int .i64 k9) rfl; have g1 := hbF.cell 1 (.int .i64 q9) rfl; have g2 := hbF.cell 2 (str n9) rfl; have g3 := hbF.cell 3 (.pointer i9) rfl; have g4 := hbF.cell 4 (.pointer v9) rfl; have g5 := hbF.cell 5 (.slice a9 l9 m9) rfl; have g6 := hbF.cell 6 (.slice b9 j9 o9) rfl
              refine bodyPost_ret (v := .agg #[(.int .i64 k9), (.int .i64 q9), (str n9), (.pointer i9), (.pointer v9), (.slice a9 l9 m9), (.slice b9 j9 o9)]) (by simp [results, Tryz.results92, go_sem, g0, g1, g2, g3, g4, g5, g6]) rfl ?_
              rw [HRR.out]
              have hkF : ∀ x ∈ [w.heap.size], ¬ New2 w wE x := fun x hx hn => by simp at hx; have := hn.1; omega
              exact ⟨HCE.out.trans hcF (fun x hx => .inr (by simp at hx; omega)), _, rfl, ⟨_, rfl, rfl, (HSE.out.kept hcF hkF).mono (fun x hx => ⟨by have := hx.1; omega, Nat.lt_of_lt_of_le hx.2 hcF.size⟩)⟩, HPE.out.kept hcF (fun x hx => by simp at hx; omega) (by simp; omega) (by simp; omega)⟩
    | false =>
      have HI_while := Lib.hid hk
      clear hk
      go_wp2_with fail
      refine HT.out.mono ?_; rintro _ w2 ⟨rfl, _, _, hw⟩
      rw [HI_while.out]
      have hw' := (hw HI_while.out).symm; subst hw'; clear hw
      have HT := Lib.hid (take_any [114, 101, 116, 117, 114, 110] w1 B bp bt z ts HP1.out)
      cases hk : see [114, 101, 116, 117, 114, 110] ts with
      | true =>
        have HI_return := Lib.hid hk
        clear hk
        go_wp2_with fail
        refine HT.out.mono ?_; rintro _ w2 ⟨rfl, hp2, hc2, _⟩
        rw [HI_return.out]
        rw [skip, HI_return.out, if_pos rfl] at hp2
        have HP2 := Lib.hid hp2; have HC2 := Lib.hid hc2
        have HWC2 := Lib.hid (HC1.out.then hc2)
        have HB2 := Lib.hid (HB1.out.kept hc2 (by simp; omega)); have HR2 := Lib.hid (HR1.out.kept hc2 (by simp; omega))
        have HS2 := Lib.hid (show w.heap.size + 2 ≤ w2.heap.size by have := hc2.size; have := HB1.out.lt; omega)
        clear hp2 hc2
        have HE := Lib.hid (ex0_any w2 B bp bt z ts.tail HP2.out)

        cases hx : ex0 z ts.tail with
        | bad en q =>
          have HRR := Lib.hid (show stmt z (bodies z d).1 (bodies z (d + 1)).2 ts = .bad en q by rw [stmt, if_neg (by rw [HI_if.out]; simp), if_neg (by rw [HI_while.out]; simp), if_pos HI_return.out]; simp only [hx])
          rw [hx] at HE
          clear hx
          go_wp2_with fail
          refine HE.out.mono ?_; intro e w9 he
          have HEE := Lib.hid he
          obtain ⟨b9, rfl⟩ := he.thrown
          clear he
          go_wp2_with fail
          refine ⟨rfl, ?_⟩
          rw [HRR.out]
          exact HEE.out.relay (HWC2.out)
        | ok aK rK =>
          have HRR := Lib.hid (show stmt z (bodies z d).1 (bodies z (d + 1)).2 ts = .ok (.ret (hd z ts) aK .nil) rK by rw [stmt, if_neg (by rw [HI_if.out]; simp), if_neg (by rw [HI_while.out]; simp), if_pos HI_return.out]; simp only [hx])
          rw [hx] at HE
          clear hx
          go_wp2_with fail
          refine HE.out.mono ?_; rintro e w3 ⟨hc3, v3, rfl, hv3, hp3⟩
          obtain ⟨b3, rfl⟩ := hv3.ptr
          have HC3 := Lib.hid hc3
          have hb3 := HB2.out.kept hc3 (by simp; omega)
          have f0 := hb3.frozen 0; have f4 := hb3.frozen 4; have e0 := hb3.cell 0 _ rfl; have e4 := hb3.cell 4 _ rfl
          have d1 := hb3.cell 1 _ rfl; have d2 := hb3.cell 2 _ rfl; have d3 := hb3.cell 3 _ rfl; have d5 := hb3.cell 5 _ rfl; have d6 := hb3.cell 6 _ rfl
          have hr3 := HR2.out.kept hc3 (by simp; omega)
          have r0 := hr3.cell 0 _ rfl; have r1 := hr3.cell 1 _ rfl; have r2 := hr3.cell 2 _ rfl; have r3 := hr3.cell 3 _ rfl; have r4 := hr3.cell 4 _ rfl; have r5 := hr3.cell 5 _ rfl; have r6 := hr3.cell 6 _ rfl
          have q0 := hr3.frozen 0; have q1 := hr3.frozen 1; have q2 := hr3.frozen 2; have q3 := hr3.frozen 3; have q4 := hr3.frozen 4; have q5 := hr3.frozen 5; have q6 := hr3.frozen 6
          have hb4 := (hb3.set 0 (.int .i64 4)).set 4 (ptr b3)
          have hc4 : Chg [w.heap.size + 1] w3 ((w3.setCell ⟨w.heap.size + 1, 0, none⟩ (.int .i64 4)).setCell ⟨w.heap.size + 1, 4, none⟩ (ptr b3)) := (Chg.set1 _ _ _ _).then (Chg.set1 _ _ _ _)
          have hr4 := (HR2.out.kept hc3 (by simp; omega)).kept hc4 (by simp)
          have HPE := Lib.hid (hp3.kept hc4 (fun x hx => by simp at hx; omega) (by simp; omega) (by simp; omega))
          have HCE := Lib.hid (show Chg [bp] w _ from (HWC2.out.then hc3).trans hc4 (fun x hx => .inr (by simp at hx; omega)))
          have hv4 : EAt ((w3.setCell ⟨w.heap.size + 1, 0, none⟩ (.int .i64 4)).setCell ⟨w.heap.size + 1, 4, none⟩ (ptr b3)) (New2 w _) aK [ptr b3] := ((hv3.mono (G := New2 w w3) (fun x hx => ⟨by have := hx.1; have := HS2.out; omega, hx.2⟩)).kept hc4 (fun x hx hn => by simp at hx; have := hn.1; omega)).mono (fun x hx => ⟨hx.1, Nat.lt_of_lt_of_le hx.2 hc4.size⟩)
          have HB4 := Lib.hid hb4; have HR4 := Lib.hid hr4; have HV4 := Lib.hid hv4
          clear hc3 hv3 hp3 hb3 hb4 hr4 hc4 hv4 hr3
          go_wp2_with fail
          clear f0 f4 e0 e4 d1 d2 d3 d5 d6 r0 r1 r2 r3 r4 r5 r6 q0 q1 q2 q3 q4 q5 q6
          generalize (w3.setCell ⟨w.heap.size + 1, 0, none⟩ (.int .i64 4)).setCell ⟨w.heap.size + 1, 4, none⟩ (ptr b3) = wE at *
          have HRE := HR4
          have HSE := Lib.hid (show SAt wE (New2 w wE) (.ret (hd z ts) aK .nil) [.int .i64 4, .int .i64 (hd z ts), str [], nilp, ptr b3, nils, nils] from ⟨_, [], rfl, HV4.out, rfl⟩)
          obtain ⟨wF, hwF, hcF, hbF⟩ := set7 (.int .i64 4) (.int .i64 (hd z ts)) (str []) (nilp) (ptr b3) (nils) (nils) HRE.out
          rw [hwF]
          clear hwF
          have g0 := hbF.cell 0 (.int .i64 4) rfl; have g1 := hbF.cell 1 (.int .i64 (hd z ts)) rfl; have g2 := hbF.cell 2 (str []) rfl; have g3 := hbF.cell 3 (nilp) rfl; have g4 := hbF.cell 4 (ptr b3) rfl; have g5 := hbF.cell 5 (nils) rfl; have g6 := hbF.cell 6 (nils) rfl
          refine bodyPost_ret (v := .agg #[(.int .i64 4), (.int .i64 (hd z ts)), (str []), (nilp), (ptr b3), (nils), (nils)]) (by simp [results, Tryz.results92, go_sem, g0, g1, g2, g3, g4, g5, g6]) rfl ?_
          rw [HRR.out]
          have hkF : ∀ x ∈ [w.heap.size], ¬ New2 w wE x := fun x hx hn => by simp at hx; have := hn.1; omega
          exact ⟨HCE.out.trans hcF (fun x hx => .inr (by simp at hx; omega)), _, rfl, ⟨_, rfl, rfl, (HSE.out.kept hcF hkF).mono (fun x hx => ⟨by have := hx.1; omega, Nat.lt_of_lt_of_le hx.2 hcF.size⟩)⟩, HPE.out.kept hcF (fun x hx => by simp at hx; omega) (by simp; omega) (by simp; omega)⟩
      | false =>
        have HI_return := Lib.hid hk
        clear hk
        go_wp2_with fail
        refine HT.out.mono ?_; rintro _ w2 ⟨rfl, _, _, hw⟩
        rw [HI_return.out]
        have hw' := (hw HI_return.out).symm; subst hw'; clear hw
        have HT := Lib.hid (take_any [119, 114, 105, 116, 101] w1 B bp bt z ts HP1.out)
        cases hk : see [119, 114, 105, 116, 101] ts with
        | true =>
          have HI_write := Lib.hid hk
          clear hk
          go_wp2_with fail
          refine HT.out.mono ?_; rintro _ w2 ⟨rfl, hp2, hc2, _⟩
          rw [HI_write.out]
          rw [skip, HI_write.out, if_pos rfl] at hp2
          have HP2 := Lib.hid hp2; have HC2 := Lib.hid hc2
          have HWC2 := Lib.hid (HC1.out.then hc2)
          have HB2 := Lib.hid (HB1.out.kept hc2 (by simp; omega)); have HR2 := Lib.hid (HR1.out.kept hc2 (by simp; omega))
          have HS2 := Lib.hid (show w.heap.size + 2 ≤ w2.heap.size by have := hc2.size; have := HB1.out.lt; omega)
          clear hp2 hc2
          have HE := Lib.hid (ex0_any w2 B bp bt z ts.tail HP2.out)

          cases hx : ex0 z ts.tail with
          | bad en q =>
            have HRR := Lib.hid (show stmt z (bodies z d).1 (bodies z (d + 1)).2 ts = .bad en q by rw [stmt, if_neg (by rw [HI_if.out]; simp), if_neg (by rw [HI_while.out]; simp), if_neg (by rw [HI_return.out]; simp), if_pos HI_write.out]; simp only [hx])
            rw [hx] at HE
            clear hx
            go_wp2_with fail
            refine HE.out.mono ?_; intro e w9 he
            have HEE := Lib.hid he
            obtain ⟨b9, rfl⟩ := he.thrown
            clear he
            go_wp2_with fail
            refine ⟨rfl, ?_⟩
            rw [HRR.out]
            exact HEE.out.relay (HWC2.out)
          | ok aK rK =>
            have HRR := Lib.hid (show stmt z (bodies z d).1 (bodies z (d + 1)).2 ts = .ok (.wri (hd z ts) aK .nil) rK by rw [stmt, if_neg (by rw [HI_if.out]; simp), if_neg (by rw [HI_while.out]; simp), if_neg (by rw [HI_return.out]; simp), if_pos HI_write.out]; simp only [hx])
            rw [hx] at HE
            clear hx
            go_wp2_with fail
            refine HE.out.mono ?_; rintro e w3 ⟨hc3, v3, rfl, hv3, hp3⟩
            obtain ⟨b3, rfl⟩ := hv3.ptr
            have HC3 := Lib.hid hc3
            have hb3 := HB2.out.kept hc3 (by simp; omega)
            have f0 := hb3.frozen 0; have f4 := hb3.frozen 4; have e0 := hb3.cell 0 _ rfl; have e4 := hb3.cell 4 _ rfl
            have d1 := hb3.cell 1 _ rfl; have d2 := hb3.cell 2 _ rfl; have d3 := hb3.cell 3 _ rfl; have d5 := hb3.cell 5 _ rfl; have d6 := hb3.cell 6 _ rfl
            have hr3 := HR2.out.kept hc3 (by simp; omega)
            have r0 := hr3.cell 0 _ rfl; have r1 := hr3.cell 1 _ rfl; have r2 := hr3.cell 2 _ rfl; have r3 := hr3.cell 3 _ rfl; have r4 := hr3.cell 4 _ rfl; have r5 := hr3.cell 5 _ rfl; have r6 := hr3.cell 6 _ rfl
            have q0 := hr3.frozen 0; have q1 := hr3.frozen 1; have q2 := hr3.frozen 2; have q3 := hr3.frozen 3; have q4 := hr3.frozen 4; have q5 := hr3.frozen 5; have q6 := hr3.frozen 6
            have hb4 := (hb3.set 0 (.int .i64 5)).set 4 (ptr b3)
            have hc4 : Chg [w.heap.size + 1] w3 ((w3.setCell ⟨w.heap.size + 1, 0, none⟩ (.int .i64 5)).setCell ⟨w.heap.size + 1, 4, none⟩ (ptr b3)) := (Chg.set1 _ _ _ _).then (Chg.set1 _ _ _ _)
            have hr4 := (HR2.out.kept hc3 (by simp; omega)).kept hc4 (by simp)
            have HPE := Lib.hid (hp3.kept hc4 (fun x hx => by simp at hx; omega) (by simp; omega) (by simp; omega))
            have HCE := Lib.hid (show Chg [bp] w _ from (HWC2.out.then hc3).trans hc4 (fun x hx => .inr (by simp at hx; omega)))
            have hv4 : EAt ((w3.setCell ⟨w.heap.size + 1, 0, none⟩ (.int .i64 5)).setCell ⟨w.heap.size + 1, 4, none⟩ (ptr b3)) (New2 w _) aK [ptr b3] := ((hv3.mono (G := New2 w w3) (fun x hx => ⟨by have := hx.1; have := HS2.out; omega, hx.2⟩)).kept hc4 (fun x hx hn => by simp at hx; have := hn.1; omega)).mono (fun x hx => ⟨hx.1, Nat.lt_of_lt_of_le hx.2 hc4.size⟩)
            have HB4 := Lib.hid hb4; have HR4 := Lib.hid hr4; have HV4 := Lib.hid hv4
            clear hc3 hv3 hp3 hb3 hb4 hr4 hc4 hv4 hr3
            go_wp2_with fail
            clear f0 f4 e0 e4 d1 d2 d3 d5 d6 r0 r1 r2 r3 r4 r5 r6 q0 q1 q2 q3 q4 q5 q6
            generalize (w3.setCell ⟨w.heap.size + 1, 0, none⟩ (.int .i64 5)).setCell ⟨w.heap.size + 1, 4, none⟩ (ptr b3) = wE at *
            have HRE := HR4
            have HSE := Lib.hid (show SAt wE (New2 w wE) (.wri (hd z ts) aK .nil) [.int .i64 5, .int .i64 (hd z ts), str [], nilp, ptr b3, nils, nils] from ⟨_, [], rfl, HV4.out, rfl⟩)
            obtain ⟨wF, hwF, hcF, hbF⟩ := set7 (.int .i64 5) (.int .i64 (hd z ts)) (str []) (nilp) (ptr b3) (nils) (nils) HRE.out
            rw [hwF]
            clear hwF
            have g0 := hbF.cell 0 (.int .i64 5) rfl; have g1 := hbF.cell 1 (.int .i64 (hd z ts)) rfl; have g2 := hbF.cell 2 (str []) rfl; have g3 := hbF.cell 3 (nilp) rfl; have g4 := hbF.cell 4 (ptr b3) rfl; have g5 := hbF.cell 5 (nils) rfl; have g6 := hbF.cell 6 (nils) rfl
            refine bodyPost_ret (v := .agg #[(.int .i64 5), (.int .i64 (hd z ts)), (str []), (nilp), (ptr b3), (nils), (nils)]) (by simp [results, Tryz.results92, go_sem, g0, g1, g2, g3, g4, g5, g6]) rfl ?_
            rw [HRR.out]
            have hkF : ∀ x ∈ [w.heap.size], ¬ New2 w wE x := fun x hx hn => by simp at hx; have := hn.1; omega
            exact ⟨HCE.out.trans hcF (fun x hx => .inr (by simp at hx; omega)), _, rfl, ⟨_, rfl, rfl, (HSE.out.kept hcF hkF).mono (fun x hx => ⟨by have := hx.1; omega, Nat.lt_of_lt_of_le hx.2 hcF.size⟩)⟩, HPE.out.kept hcF (fun x hx => by simp at hx; omega) (by simp; omega) (by simp; omega)⟩
        | false =>
          have HI_write := Lib.hid hk
          clear hk
          go_wp2_with fail
          refine HT.out.mono ?_; rintro _ w2 ⟨rfl, _, _, hw⟩
          rw [HI_write.out]
          have hw' := (hw HI_write.out).symm; subst hw'; clear hw
          have HF := Lib.hid (first_any (hd z ts) w1 B bp (w.heap.size + 1) bt z ts HP1.out HB1.out (by omega) (by omega) (by omega))

          cases hx : first z (hd z ts) ts with
          | bad en q =>
            have HRR := Lib.hid (show stmt z (bodies z d).1 (bodies z (d + 1)).2 ts = .bad en q by rw [stmt, if_neg (by rw [HI_if.out]; simp), if_neg (by rw [HI_while.out]; simp), if_neg (by rw [HI_return.out]; simp), if_neg (by rw [HI_write.out]; simp)]; simp only [hx])
            rw [hx] at HF
            clear hx
            go_wp2_with fail
            refine HF.out.mono ?_; intro e w9 he
            have HEE := Lib.hid he
            obtain ⟨b9, rfl⟩ := he.thrown
            clear he
            go_wp2_with fail
            refine ⟨rfl, ?_⟩
            rw [HRR.out]
            exact HEE.out.relayE (HC1.out) (by omega)
          | ok aK rK =>
            have hlE := first_len hx
            have HRR := Lib.hid (show stmt z (bodies z d).1 (bodies z (d + 1)).2 ts = .ok aK rK by rw [stmt, if_neg (by rw [HI_if.out]; simp), if_neg (by rw [HI_while.out]; simp), if_neg (by rw [HI_return.out]; simp), if_neg (by rw [HI_write.out]; simp)]; simp only [hx])
            rw [hx] at HF
            clear hx
            go_wp2_with fail
            refine HF.out.mono ?_; rintro e wE ⟨hcE, rfl, ⟨cs, hbE, hsE0⟩, hpE⟩
            have hsE : SAt wE (New2 w wE) aK cs := hsE0.mono (fun x hx => ⟨by have := hx.1; have := HB1.out.lt; omega, hx.2⟩)
            have hrE := HR1.out.kept hcE (by simp; omega)
            have HCE := Lib.hid (show Chg [bp] w wE from HC1.out.trans hcE (fun x hx => by simp at hx; rcases hx with rfl | rfl; exact .inl (by simp); exact .inr (by omega)))
            have HPE := Lib.hid hpE
            clear hcE hpE hsE0

            have HBE := Lib.hid hbE; have HSE := Lib.hid hsE; have HRE := Lib.hid hrE
            obtain ⟨k9, q9, n9, i9, v9, a9, l9, m9, b9, j9, o9, rfl⟩ := hsE.shape hlE
            have d0 := HBE.out.cell 0 _ rfl; have d1 := HBE.out.cell 1 _ rfl; have d2 := HBE.out.cell 2 _ rfl; have d3 := HBE.out.cell 3 _ rfl; have d4 := HBE.out.cell 4 _ rfl; have d5 := HBE.out.cell 5 _ rfl; have d6 := HBE.out.cell 6 _ rfl
            have e0 := HRE.out.cell 0 _ rfl; have e1 := HRE.out.cell 1 _ rfl; have e2 := HRE.out.cell 2 _ rfl; have e3 := HRE.out.cell 3 _ rfl; have e4 := HRE.out.cell 4 _ rfl; have e5 := HRE.out.cell 5 _ rfl; have e6 := HRE.out.cell 6 _ rfl
            have f0 := HRE.out.frozen 0; have f1 := HRE.out.frozen 1; have f2 := HRE.out.frozen 2; have f3 := HRE.out.frozen 3; have f4 := HRE.out.frozen 4; have f5 := HRE.out.frozen 5; have f6 := HRE.out.frozen 6
            clear hsE hbE hrE
            go_wp2_with fail
            obtain ⟨wF, hwF, hcF, hbF⟩ := set7 (.int .i64 k9) (.int .i64 q9) (str n9) (.pointer i9) (.pointer v9) (.slice a9 l9 m9) (.slice b9 j9 o9) HRE.out
            rw [hwF]
            clear hwF
            have g0 := hbF.cell 0 (.int .i64 k9) rfl; have g1 := hbF.cell 1 (.int .i64 q9) rfl; have g2 := hbF.cell 2 (str n9) rfl; have g3 := hbF.cell 3 (.pointer i9) rfl; have g4 := hbF.cell 4 (.pointer v9) rfl; have g5 := hbF.cell 5 (.slice a9 l9 m9) rfl; have g6 := hbF.cell 6 (.slice b9 j9 o9) rfl
            refine bodyPost_ret (v := .agg #[(.int .i64 k9), (.int .i64 q9), (str n9), (.pointer i9), (.pointer v9), (.slice a9 l9 m9), (.slice b9 j9 o9)]) (by simp [results, Tryz.results92, go_sem, g0, g1, g2, g3, g4, g5, g6]) rfl ?_
            rw [HRR.out]
            have hkF : ∀ x ∈ [w.heap.size], ¬ New2 w wE x := fun x hx hn => by simp at hx; have := hn.1; omega
            exact ⟨HCE.out.trans hcF (fun x hx => .inr (by simp at hx; omega)), _, rfl, ⟨_, rfl, rfl, (HSE.out.kept hcF hkF).mono (fun x hx => ⟨by have := hx.1; omega, Nat.lt_of_lt_of_le hx.2 hcF.size⟩)⟩, HPE.out.kept hcF (fun x hx => by simp at hx; omega) (by simp; omega) (by simp; omega)⟩
end Go.Proofs.YtgnfhognbpifiaaGreatDoor
