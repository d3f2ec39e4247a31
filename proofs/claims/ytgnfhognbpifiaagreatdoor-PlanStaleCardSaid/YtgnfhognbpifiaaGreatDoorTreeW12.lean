/- The parser's rest, over what body does. -/
import Derived.Test.YtgnfhognbpifiaaGreatDoorTreeW11
namespace Go.Mq.Tree
open Go Go.RowKit Go.Mq
theorem EndedS.relayN {α β : Type} {w w1 w2 : World} {B bp bs' bx bt z en p : Nat} {V : World → α → Prop} {V' : World → β → Prop} {e : Ending} (h : EndedS w1 B bp bx bt z (.bad en p : R α) V e w2) (hc : Chg [bp, bs'] w w1) (hx : w.heap.size ≤ bx) : EndedS w B bp bs' bt z (.bad en p : R β) V' e w2 := by
  obtain ⟨hc2, b, he, hb, hB⟩ := h
  exact ⟨hc.trans hc2 (fun x hm => by simp at hm; rcases hm with rfl | rfl; exact .inl (by simp); exact .inr hx), b, he, Nat.le_trans hc.size hb, hB⟩
theorem bodies_rest (z d : Nat) (ts : List Tok) : (bodies z (d + 1)).2 ts = restL z (bodies z d).1 (bodies z d).2 ts := rfl
end Go.Mq.Tree
namespace Go.Proofs.YtgnfhognbpifiaaGreatDoor
open Go Go.RowKit Go.Mq Go.Mq.Tree
set_option maxRecDepth 100000
set_option maxHeartbeats 8000000
def BodyOK (deep d : Nat) : Prop := ∀ (w : World) (B bp bt z : Nat) (ts : List Tok), Par w B bp bt z ts → Calls Tryz.prog 69 #[ptr bp, .int .i64 deep] w (Ended w B bp bt z ((bodies z d).1 ts) (fun w' s v => SlAt w' (New w w') s v))
def RestOK (deep d : Nat) : Prop := ∀ (p : Nat) (w : World) (B bp bs' bt z : Nat) (ts : List Tok), Par w B bp bt z ts → Blk w bs' (sCells p) 97 → B ≤ bs' → bs' ≠ bp → bs' ≠ bt →
    Calls Tryz.prog 100 #[ptr bp, ptr bs', .int .i64 deep] w (EndedS w B bp bs' bt z ((bodies z d).2 ts) (fun w' x => SBlk w' (New w w') bs' (.ifs p x.1 x.2.1 x.2.2 .nil)))
theorem body_next {deep d : Nat} (h : BodyOK (deep + 1) d) : ∀ (w : World) (B bp bt z : Nat) (ts : List Tok), Par w B bp bt z ts → Calls Tryz.prog 69 #[ptr bp, .int .i64 ((deep : Int) + 1)] w (Ended w B bp bt z ((bodies z d).1 ts) (fun w' s v => SlAt w' (New w w') s v)) := fun w B bp bt z ts hp => by
  have := h w B bp bt z ts hp
  simpa using this
theorem rest_next {deep d : Nat} (h : RestOK (deep + 1) d) : ∀ (p : Nat) (w : World) (B bp bs' bt z : Nat) (ts : List Tok), Par w B bp bt z ts → Blk w bs' (sCells p) 97 → B ≤ bs' → bs' ≠ bp → bs' ≠ bt →
    Calls Tryz.prog 100 #[ptr bp, ptr bs', .int .i64 ((deep : Int) + 1)] w (EndedS w B bp bs' bt z ((bodies z d).2 ts) (fun w' x => SBlk w' (New w w') bs' (.ifs p x.1 x.2.1 x.2.2 .nil))) := fun p w B bp bs' bt z ts hp h1 h2 h3 h4 => by
  have := h p w B bp bs' bt z ts hp h1 h2 h3 h4
  simpa using this
theorem rest_step (deep d : Nat) (hdp : deep ≤ 10) (hB : BodyOK (deep + 1) d) (hR : RestOK (deep + 1) d ∨ d = 0) : RestOK deep (d + 1) := by
  intro p w B bp bs' bt z ts h hbs hB' hne hnt
  have HBO := Lib.hid (body_next hB)
  have HRN := Lib.hid hR
  have hbp := h.bp_lt
  have hbt := h.bt_lt
  have hbl := hbs.lt
  have hB0 := h.laid.le
  have HBS := Lib.hid hbs
  have HE := Lib.hid (ex0_any w B bp bt z ts h)
  have hwr := wrap_next (deep := deep) (by omega)
  clear h hbs hB hR
  go_enter Tryz.func100, Tryz.ntmps100
  cases hx : ex0 z ts with
  | bad en q =>
    have HRR := Lib.hid (show (bodies z (d + 1)).2 ts = .bad en q by rw [bodies_rest, restL]; simp only [hx])
    rw [hx] at HE
    clear hx
    go_wp2_with fail
    refine HE.out.mono ?_; intro e w9 he
    have HEE := Lib.hid he
    obtain ⟨b9, rfl⟩ := he.thrown
    clear he
    go_wp2_with fail
    refine ⟨rfl, ?_⟩
    rw [HRR.out]
    exact HEE.out.relayS (Chg.refl _ _)
  | ok aK rK =>
    have HX1 := Lib.hid hx
    rw [HX1.out] at HE
    clear hx
    obtain ⟨v, rfl⟩ : ∃ v, v = aK := ⟨aK, rfl⟩
    obtain ⟨r, rfl⟩ : ∃ r, r = rK := ⟨rK, rfl⟩
    go_wp2_with fail
    refine HE.out.mono ?_; rintro e w1 ⟨hc1, v1, rfl, hv1, hp1⟩
    obtain ⟨b1, rfl⟩ := hv1.ptr
    have hb1 := HBS.out.kept hc1 (by simpa using hne)
    have f0 := hb1.frozen 0; have f4 := hb1.frozen 4; have e0 := hb1.cell 0 _ rfl; have e4 := hb1.cell 4 _ rfl
    have hb2 := (hb1.set 0 (.int .i64 2)).set 4 (ptr b1)
    have hc2 : Chg [bs'] w1 ((w1.setCell ⟨bs', 0, none⟩ (.int .i64 2)).setCell ⟨bs', 4, none⟩ (ptr b1)) := (Chg.set1 _ _ _ _).then (Chg.set1 _ _ _ _)
    have HC1 := Lib.hid hc1
    have HV2 := Lib.hid (show EAt ((w1.setCell ⟨bs', 0, none⟩ (.int .i64 2)).setCell ⟨bs', 4, none⟩ (ptr b1)) (New w _) v [ptr b1] from (hv1.kept hc2 (fun x hx hn => by simp at hx; have := hn.1; omega)).mono (fun x hx => ⟨hx.1, Nat.lt_of_lt_of_le hx.2 hc2.size⟩))
    have HP2 := Lib.hid (hp1.kept hc2 (fun x hx => by simp at hx; omega) (by simpa using Ne.symm hne) (by simpa using Ne.symm hnt))
    have HB2 := Lib.hid (by simpa using hb2 : Blk ((w1.setCell ⟨bs', 0, none⟩ (.int .i64 2)).setCell ⟨bs', 4, none⟩ (ptr b1)) bs' #[.int .i64 2, .int .i64 p, str [], nilp, ptr b1, nils, nils] 97)
    have HC2 := Lib.hid hc2
    clear hc1 hv1 hp1 hb1 hb2 hc2
    go_wp2_with fail
    generalize (w1.setCell ⟨bs', 0, none⟩ (.int .i64 2)).setCell ⟨bs', 4, none⟩ (ptr b1) = w2 at *
    have HMU := Lib.hid (must_any [116, 104, 101, 110] w2 B bp bt z r HP2.out)

    cases hx : must z [116, 104, 101, 110] r with
    | bad en q =>
      have HRR := Lib.hid (show (bodies z (d + 1)).2 ts = .bad en q by rw [bodies_rest, restL]; simp only [HX1.out, hx])
      rw [hx] at HMU
      clear hx
      go_wp2_with fail
      refine HMU.out.mono ?_; intro e w9 he
      have HEE := Lib.hid he
      obtain ⟨b9, rfl⟩ := he.thrown
      clear he
      go_wp2_with fail
      refine ⟨rfl, ?_⟩
      rw [HRR.out]
      exact HEE.out.relayS ((s1 HC1.out).then (s2 HC2.out))
    | ok aK rK =>
      have HX2 := Lib.hid hx
      rw [HX2.out] at HMU
      clear hx
      obtain ⟨r2, rfl⟩ : ∃ r2, r2 = rK := ⟨rK, rfl⟩
      go_wp2_with fail
      refine HMU.out.mono ?_; rintro e w3 ⟨hc3, _, rfl, rfl, hp3⟩
      have HC3 := Lib.hid hc3
      have HBD := Lib.hid (HBO.out w3 B bp bt z r2 hp3)
      clear hc3 hp3

      cases hx : (bodies z d).1 r2 with
      | bad en q =>
        have HRR := Lib.hid (show (bodies z (d + 1)).2 ts = .bad en q by rw [bodies_rest, restL]; simp only [HX1.out, HX2.out, hx])
        rw [hx] at HBD
        clear hx
        go_wp2_with fail
        refine HBD.out.mono ?_; intro e w9 he
        have HEE := Lib.hid he
        obtain ⟨b9, rfl⟩ := he.thrown
        clear he
        go_wp2_with fail
        refine ⟨rfl, ?_⟩
        rw [HRR.out]
        exact HEE.out.relayS (((s1 HC1.out).then (s2 HC2.out)).then (s1 HC3.out))
      | ok aK rK =>
        have HX3 := Lib.hid hx
        rw [HX3.out] at HBD
        clear hx
        obtain ⟨t, rfl⟩ : ∃ t, t = aK := ⟨aK, rfl⟩
        obtain ⟨r3, rfl⟩ : ∃ r3, r3 = rK := ⟨rK, rfl⟩
        go_wp2_with fail
        refine HBD.out.mono ?_; rintro e w4 ⟨hc4, v4, rfl, ⟨a4, k4, cs4, rfl, hl4, hr4, hs4⟩, hp4⟩
        have hb4 := (HB2.out.kept HC3.out (by simpa using hne)).kept hc4 (by simpa using hne)
        have f5 := hb4.frozen 5; have e5 := hb4.cell 5 _ rfl
        have hb5 := hb4.set 5 (.slice a4 t.len k4)
        have hc5 : Chg [bs'] w4 (w4.setCell ⟨bs', 5, none⟩ (.slice a4 t.len k4)) := Chg.set1 _ _ _ _
        have HL4 := Lib.hid hl4
        have hwc4 : Chg [bp, bs'] w w4 := ((((s1 HC1.out).then (s2 HC2.out)).then (s1 HC3.out)).then (s1 hc4))
        have hv4 : EAt w4 (New w w4) v [ptr b1] := (HV2.out.grown hbp (HC3.out.then hc4))
        have hsz : w.heap.size ≤ w3.heap.size := (((s1 HC1.out).then (s2 HC2.out)).then (s1 HC3.out)).size
        have hn4 : ∀ x, New w3 w4 x → New w w4 x := fun x hx => ⟨Nat.le_trans hsz hx.1, hx.2⟩
        have hk5 : ∀ x ∈ [bs'], ¬ New w w4 x := fun x hx hn => by simp at hx; have := hn.1; omega
        have hg5 : ∀ x, New w w4 x → New w (w4.setCell ⟨bs', 5, none⟩ (.slice a4 t.len k4)) x := fun x hx => ⟨hx.1, Nat.lt_of_lt_of_le hx.2 hc5.size⟩
        have HV5 := Lib.hid (show EAt (w4.setCell ⟨bs', 5, none⟩ (.slice a4 t.len k4)) (New w _) v [ptr b1] ∧ Row (w4.setCell ⟨bs', 5, none⟩ (.slice a4 t.len k4)) (New w _) a4 cs4 ∧ SAt (w4.setCell ⟨bs', 5, none⟩ (.slice a4 t.len k4)) (New w _) t cs4 from ⟨(hv4.kept hc5 hk5).mono hg5, ((hr4.mono hn4).kept hc5 hk5).mono hg5, ((hs4.mono hn4).kept hc5 hk5).mono hg5⟩)
        have HP5 := Lib.hid (hp4.kept hc5 (fun x hx => by simp at hx; omega) (by simpa using Ne.symm hne) (by simpa using Ne.symm hnt))
        have HB5 := Lib.hid (by simpa using hb5 : Blk (w4.setCell ⟨bs', 5, none⟩ (.slice a4 t.len k4)) bs' [.int .i64 2, .int .i64 p, str [], nilp, ptr b1, .slice a4 t.len k4, nils].toArray 97)
        have WC5 := Lib.hid (hwc4.then (s2 hc5))
        clear hc4 hl4 hr4 hs4 hp4 hb4 hb5 hc5 hwc4 hv4 hsz hn4 hk5 hg5
        have HS5 := Lib.hid WC5.out.size
        go_wp2_with fail
        generalize w4.setCell ⟨bs', 5, none⟩ (.slice a4 t.len k4) = w5 at *
        have HSE := Lib.hid (see_any [101, 108, 115, 105, 102] w5 B bp bt z r3 HP5.out)
        refine HSE.out.mono ?_; rintro _ w6 ⟨rfl, hw6⟩
        have hw6' := hw6.symm; subst hw6'; clear hw6
        cases h4 : see [101, 108, 115, 105, 102] r3 with
        | true =>
          have HI4 := Lib.hid h4
          clear h4
          rcases HRN.out with hrn | rfl
          · have HRN2 := Lib.hid (rest_next hrn)
            clear hrn
            obtain ⟨off, c, nn, c0, c2⟩ := par_at HP5.out
            have hp6 := HP5.out.kept ((Chg.refl [] w5).alloc (.cells (sCells (hd z r3)) 97)) (by simp) (by simp) (by simp)
            have hb6 := Blk.new w5 (sCells (hd z r3)) 97
            have hc6 : Chg [bp] w5 (w5.alloc (.cells (sCells (hd z r3)) 97)) := (Chg.refl _ _).alloc _
            have HB6 := Lib.hid hb6; have HC6 := Lib.hid hc6
            have HMU2 := Lib.hid (must_any [101, 108, 115, 105, 102] _ B bp bt z r3 hp6)
            rw [must, HI4.out, if_pos rfl] at HMU2
            have hbpl : bp < w5.heap.size := Nat.lt_of_lt_of_le hbp HS5.out
            have hbtl : bt < w5.heap.size := Nat.lt_of_lt_of_le hbt HS5.out
            have hbl5 : bs' < w5.heap.size := Nat.lt_of_lt_of_le hbl HS5.out
            have hS5 := HS5.out
            clear hp6 hb6 hc6
            go_wp2_with fail
            refine HMU2.out.mono ?_; rintro e w7 ⟨hc7, _, rfl, rfl, hp7⟩
            have HC67 := Lib.hid (HC6.out.then hc7)
            have hb7 := HB6.out.kept hc7 (by simp; omega)
            have HB7 := Lib.hid hb7
            have HM := Lib.hid (HRN2.out (hd z r3) w7 B bp w5.heap.size bt z r3.tail hp7 hb7 (by omega) (by omega) (by omega))
            clear hc7 hb7 hp7 c0 c2
            cases hx : (bodies z d).2 r3.tail with
            | bad en q =>
              have HRR := Lib.hid (show (bodies z (d + 1)).2 ts = .bad en q by rw [bodies_rest, restL]; simp only [HX1.out, HX2.out, HX3.out]; rw [if_pos HI4.out]; simp only [hx])
              rw [hx] at HM
              clear hx
              go_wp2_with fail
              refine HM.out.mono ?_; intro e w9 he
              have HEE := Lib.hid he
              obtain ⟨b9, rfl⟩ := he.thrown
              clear he
              go_wp2_with fail
              refine ⟨rfl, ?_⟩
              rw [HRR.out]
              exact HEE.out.relayN (WC5.out.then (s1 HC67.out)) (by omega)
            | ok aK rK =>
              have HX7 := Lib.hid hx
              rw [HX7.out] at HM
              clear hx
              have HRR := Lib.hid (show (bodies z (d + 1)).2 ts = .ok (v, t, .ifs (hd z r3) aK.1 aK.2.1 aK.2.2 .nil) rK by rw [bodies_rest, restL]; simp only [HX1.out, HX2.out, HX3.out]; rw [if_pos HI4.out, HX7.out])
              go_wp2_with fail
              refine HM.out.mono ?_; rintro e w8 ⟨hc8, rfl, ⟨cs8, hb8, hs8⟩, hp8⟩
              have HSS := Lib.hid hs8
              obtain ⟨u8, a8, k8, ts8, a9, k9, es8, cs9, rfl, _, _, _, _, _, _, _, hnil⟩ := hs8
              obtain rfl : cs9 = [] := hnil
              have d0 := hb8.cell 0 _ rfl; have d1 := hb8.cell 1 _ rfl; have d2 := hb8.cell 2 _ rfl; have d3 := hb8.cell 3 _ rfl; have d4 := hb8.cell 4 _ rfl; have d5 := hb8.cell 5 _ rfl; have d6 := hb8.cell 6 _ rfl
              have HC8 := Lib.hid hc8; have HP8 := Lib.hid hp8
              have hb8' := (HB5.out.kept HC67.out (by simpa using hne)).kept hc8 (by simp; omega)
              have f6 := hb8'.frozen 6; have e6 := hb8'.cell 6 _ rfl
              have HB8 := Lib.hid hb8'
              have hlt8 := hb8'.lt
              clear hc8 hp8 hb8 hb8'
              go_wp2_with fail
              refine bodyPost_end (results_none rfl _ _ _) rfl ?_
              rw [HRR.out]
              have hz8 : (w8.setCell ⟨bs', 6, none⟩ (.slice (some ⟨w8.heap.size, 0, none⟩) 1 1)).heap.size = w8.heap.size := by simp [World.setCell]
              have hb9 := (HB8.out.set 6 (.slice (some ⟨w8.heap.size, 0, none⟩) 1 1)).kept ((Chg.refl [] _).alloc (.cells #[.int .i64 2, .int .i64 (hd z r3), str [], nilp, u8, .slice a8 aK.2.1.len k8, .slice a9 aK.2.2.len k9] 97)) (by simp)
              have hbn := Blk.new (w8.setCell ⟨bs', 6, none⟩ (.slice (some ⟨w8.heap.size, 0, none⟩) 1 1)) #[.int .i64 2, .int .i64 (hd z r3), str [], nilp, u8, .slice a8 aK.2.1.len k8, .slice a9 aK.2.2.len k9] 97
              have hc9 : Chg [bs'] w8 ((w8.setCell ⟨bs', 6, none⟩ (.slice (some ⟨w8.heap.size, 0, none⟩) 1 1)).alloc (.cells #[.int .i64 2, .int .i64 (hd z r3), str [], nilp, u8, .slice a8 aK.2.1.len k8, .slice a9 aK.2.2.len k9] 97)) := (Chg.set1 _ _ _ _).alloc _
              rw [hz8] at hbn
              clear f6 e6 d0 d1 d2 d3 d4 d5 d6
              generalize (w8.setCell ⟨bs', 6, none⟩ (.slice (some ⟨w8.heap.size, 0, none⟩) 1 1)).alloc (.cells #[.int .i64 2, .int .i64 (hd z r3), str [], nilp, u8, .slice a8 aK.2.1.len k8, .slice a9 aK.2.2.len k9] 97) = w9 at *
              have hk : Chg [bp, w5.heap.size] w5 w8 := (HC67.out.mono (fun x hx => .inl (by simp at hx; simp [hx]))).then HC8.out
              have hcW : Chg [bp, bs'] w w9 := (WC5.out.trans hk (fun x hx => by simp at hx; rcases hx with rfl | rfl; exact .inl (by simp); exact .inr HS5.out)).then (s2 hc9)
              have hbk : ∀ x ∈ [bp, w5.heap.size], ¬ New w w5 x := fun x hx hn => by simp at hx; have := hn.1; have := hn.2; omega
              have hs59 : w5.heap.size ≤ w9.heap.size := Nat.le_trans hk.size hc9.size
              have hg5 : ∀ x, New w w5 x → New w w8 x := fun x hx => ⟨hx.1, Nat.lt_of_lt_of_le hx.2 hk.size⟩
              have hk9 : ∀ x ∈ [bs'], ¬ New w w8 x := fun x hx hn => by simp at hx; have := hn.1; omega
              have hg9 : ∀ x, New w w8 x → New w w9 x := fun x hx => ⟨hx.1, Nat.lt_of_lt_of_le hx.2 hc9.size⟩
              have hs7 : w.heap.size ≤ w7.heap.size := Nat.le_trans HS5.out HC67.out.size
              have hs8' : SAt w8 (New w w8) _ _ := HSS.out.mono (fun x hx => ⟨Nat.le_trans hs7 hx.1, hx.2⟩)
              have hb9' : Blk w9 bs' [.int .i64 2, .int .i64 p, str [], nilp, ptr b1, .slice a4 t.len k4, .slice (some ⟨w8.heap.size, 0, none⟩) 1 1].toArray 97 := by simpa using hb9
              refine ⟨hcW, rfl, ⟨_, hb9', ptr b1, a4, k4, cs4, some ⟨w8.heap.size, 0, none⟩, 1, _, [], rfl, ?_, HL4.out, ?_, ?_, Nat.le_refl _, ?_, (hs8'.kept hc9 hk9).mono hg9, rfl⟩, HP8.out.kept hc9 (fun x hx => by simp at hx; omega) (by simpa using Ne.symm hne) (by simpa using Ne.symm hnt)⟩
              · exact (((HV5.out.1.kept hk hbk).mono hg5).kept hc9 hk9).mono hg9
              · exact (((HV5.out.2.1.kept hk hbk).mono hg5).kept hc9 hk9).mono hg9
              · exact (((HV5.out.2.2.kept hk hbk).mono hg5).kept hc9 hk9).mono hg9
              · refine ⟨fun _ => ⟨w8.heap.size, 0, rfl, fun i x hx => ?_⟩, fun _ q hq => ?_⟩
                · rw [Nat.zero_add]; exact hbn.cell i x (by simpa using hx)
                · cases hq; exact ⟨Nat.le_trans hs7 HC8.out.size, hbn.lt⟩
          · have := HX3.out
            cases this
        | false =>
          have HI4 := Lib.hid h4
          clear h4
          have HT5 := Lib.hid (take_any [101, 108, 115, 101] w5 B bp bt z r3 HP5.out)
          cases h5 : see [101, 108, 115, 101] r3 with
          | true =>
            have HI5 := Lib.hid h5
            clear h5
            go_wp2_with fail
            refine HT5.out.mono ?_; rintro _ w6 ⟨rfl, hp6, hc6, _⟩
            rw [HI5.out]
            rw [skip, HI5.out, if_pos rfl] at hp6
            have HC6 := Lib.hid hc6
            have HBD2 := Lib.hid (HBO.out w6 B bp bt z r3.tail hp6)
            clear hp6 hc6
            cases hx : (bodies z d).1 r3.tail with
            | bad en q =>
              have HRR := Lib.hid (show (bodies z (d + 1)).2 ts = .bad en q by rw [bodies_rest, restL]; simp only [HX1.out, HX2.out, HX3.out]; rw [if_neg (by rw [HI4.out]; simp), if_pos HI5.out]; simp only [hx])
              rw [hx] at HBD2
              clear hx
              go_wp2_with fail
              refine HBD2.out.mono ?_; intro e w9 he
              have HEE := Lib.hid he
              obtain ⟨b9, rfl⟩ := he.thrown
              clear he
              go_wp2_with fail
              refine ⟨rfl, ?_⟩
              rw [HRR.out]
              exact HEE.out.relayS (WC5.out.then (s1 HC6.out))
            | ok aK rK =>
              have HX6 := Lib.hid hx
              rw [HX6.out] at HBD2
              clear hx
              have HRR := Lib.hid (show (bodies z (d + 1)).2 ts = .ok (v, t, aK) rK by rw [bodies_rest, restL]; simp only [HX1.out, HX2.out, HX3.out]; rw [if_neg (by rw [HI4.out]; simp), if_pos HI5.out, HX6.out])
              go_wp2_with fail
              refine HBD2.out.mono ?_; rintro e w7 ⟨hc7, v7, rfl, ⟨a7, k7, cs7, rfl, hl7, hr7, hs7⟩, hp7⟩
              have HC7 := Lib.hid hc7; have HP7 := Lib.hid hp7; have HV7 := Lib.hid (And.intro hl7 (And.intro hr7 hs7))
              have hb7 := HB5.out.kept (HC6.out.then hc7) (by simpa using hne)
              have f6 := hb7.frozen 6; have e6 := hb7.cell 6 _ rfl
              have hb8 := hb7.set 6 (.slice a7 aK.len k7)
              have hc8 : Chg [bs'] w7 (w7.setCell ⟨bs', 6, none⟩ (.slice a7 aK.len k7)) := Chg.set1 _ _ _ _
              have HB8 := Lib.hid hb8; have HC8 := Lib.hid hc8
              clear hc7 hp7 hl7 hr7 hs7 hb7 hb8 hc8
              go_wp2_with fail
              refine bodyPost_end (results_none rfl _ _ _) rfl ?_
              rw [HRR.out]
              have hk57 : Chg [bp] w5 w7 := HC6.out.then HC7.out
              have hbn : ∀ x ∈ [bp], ¬ New w w5 x := fun x hx hn => by simp at hx; have := hn.1; omega
              have hgrow : ∀ x, New w w5 x → New w w7 x := fun x hx => ⟨hx.1, Nat.lt_of_lt_of_le hx.2 hk57.size⟩
              have hsz6 : w.heap.size ≤ w6.heap.size := Nat.le_trans HS5.out HC6.out.size
              have hk8 : ∀ x ∈ [bs'], ¬ New w w7 x := fun x hx hn => by simp at hx; have := hn.1; omega
              have hg8 : ∀ x, New w w7 x → New w (w7.setCell ⟨bs', 6, none⟩ (.slice a7 aK.len k7)) x := fun x hx => ⟨hx.1, Nat.lt_of_lt_of_le hx.2 HC8.out.size⟩
              obtain ⟨hl7, hr7, hs7⟩ := HV7.out
              have hN7 : ∀ x, New w6 w7 x → New w w7 x := fun x hx => ⟨Nat.le_trans hsz6 hx.1, hx.2⟩
              refine ⟨(WC5.out.then (s1 hk57)).then (s2 HC8.out), rfl, ⟨_, by simpa using HB8.out, ptr b1, a4, k4, cs4, a7, k7, cs7, [], rfl, ?_, HL4.out, ?_, ?_, hl7, ?_, ?_, rfl⟩, HP7.out.kept HC8.out (fun x hx => by simp at hx; omega) (by simpa using Ne.symm hne) (by simpa using Ne.symm hnt)⟩
              · exact (((HV5.out.1.kept hk57 hbn).mono hgrow).kept HC8.out hk8).mono hg8
              · exact (((HV5.out.2.1.kept hk57 hbn).mono hgrow).kept HC8.out hk8).mono hg8
              · exact (((HV5.out.2.2.kept hk57 hbn).mono hgrow).kept HC8.out hk8).mono hg8
              · exact ((hr7.mono hN7).kept HC8.out hk8).mono hg8
              · exact ((hs7.mono hN7).kept HC8.out hk8).mono hg8
          | false =>
            have HI5 := Lib.hid h5
            clear h5
            have HRR := Lib.hid (show (bodies z (d + 1)).2 ts = .ok (v, t, .nil) r3 by rw [bodies_rest, restL]; simp only [HX1.out, HX2.out, HX3.out]; rw [if_neg (by rw [HI4.out]; simp), if_neg (by rw [HI5.out]; simp)])
            go_wp2_with fail
            refine HT5.out.mono ?_; rintro _ w6 ⟨rfl, _, _, hw⟩
            rw [HI5.out]
            have hw' := (hw HI5.out).symm; subst hw'; clear hw
            go_wp2_with fail
            refine bodyPost_end (results_none rfl _ _ _) rfl ?_
            rw [HRR.out]
            exact ⟨WC5.out, rfl, ⟨_, HB5.out, ptr b1, a4, k4, cs4, none, 0, [], [], rfl, HV5.out.1, HL4.out, HV5.out.2.1, HV5.out.2.2, Nat.le_refl _, Row.nil _ _ _, rfl, rfl⟩, HP5.out⟩
end Go.Proofs.YtgnfhognbpifiaaGreatDoor
