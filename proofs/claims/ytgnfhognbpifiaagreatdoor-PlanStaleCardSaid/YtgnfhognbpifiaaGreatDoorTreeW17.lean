/- The parser's module. -/
import Derived.Test.YtgnfhognbpifiaaGreatDoorTreeW16
namespace Go.Mq.Tree
open Go Go.RowKit Go.Mq
theorem framed_Globs (l : List Glob) (v : Value) : Framed (fun w F => GlobsAt w F l v) := ⟨fun hF h => h.mono hF, fun hc hS h => h.kept hc hS⟩
theorem framed_Procs (l : List Proc) (v : Value) : Framed (fun w F => ProcsAt w F l v) := ⟨fun hF h => h.mono hF, fun hc hS h => h.kept hc hS⟩
theorem framed_Pr (x : Proc) (cs : List Value) : Framed (fun w F => PrAt w F x cs) := ⟨fun hF h => h.mono hF, fun hc hS h => h.kept hc hS⟩
theorem Mk.loop {T : TypeId} {w wk w' : World} {B bp bt z : Nat} {tk t' : List Tok} {zs cs cs' : Array Value} {Q : World → (Nat → Prop) → Prop} (h : Mk T w wk B bp bt z tk zs cs Q) (hc : Chg [bp, w.heap.size + 1] wk w') (hp : Par w' B bp bt z t') (hb : Blk w' (w.heap.size + 1) cs' T) : Mk T w w' B bp bt z t' zs cs' Q :=
  ⟨h.fr, h.hbp, h.hbt, h.chg.trans hc (fun x hx => by simp at hx; rcases hx with rfl | rfl; exact .inl (by simp); exact .inr (by omega)), hp, hb, h.res.kept hc (by have := h.hbp; simp; omega), Nat.le_trans h.sz hc.size,
    h.fr.mono (fun x hx => ⟨hx.1, Nat.lt_of_lt_of_le hx.2 hc.size⟩) (h.fr.kept hc (fun x hx hn => by have := h.hbp; simp at hx; have := hn.1; omega) h.q)⟩
theorem set5 {w : World} {b : Nat} (v0 v1 v2 v3 v4 : Value) {u0 u1 u2 u3 u4 : Value} {t : TypeId} (h : Blk w b #[u0, u1, u2, u3, u4] t) : ∃ wF, (((((w.setCell ⟨b, 0, none⟩ v0).setCell ⟨b, 1, none⟩ v1).setCell ⟨b, 2, none⟩ v2).setCell ⟨b, 3, none⟩ v3).setCell ⟨b, 4, none⟩ v4) = wF ∧ Chg [b] w wF ∧ Blk wF b #[v0, v1, v2, v3, v4] t :=
  ⟨_, rfl, ((((Chg.set1 _ _ _ _).then (Chg.set1 _ _ _ _)).then (Chg.set1 _ _ _ _)).then (Chg.set1 _ _ _ _)).then (Chg.set1 _ _ _ _), by
    have := ((((h.set 0 v0).set 1 v1).set 2 v2).set 3 v3).set 4 v4
    simpa using this⟩
end Go.Mq.Tree
namespace Go.Proofs.YtgnfhognbpifiaaGreatDoor
open Go Go.RowKit Go.Mq Go.Mq.Tree
set_option maxRecDepth 100000
set_option maxHeartbeats 16000000
theorem infoProc : (Tryz.prog.info? 99).map (fun i => (i.zero, i.size, i.bytes)) = some (some (.agg #[.string ⟨#[]⟩, .int .i64 0, .bool false, .slice none 0 0, .slice none 0 0, .slice none 0 0]), 6, 104) := by kernel_rfl
theorem module_any (w : World) (B bp bt z : Nat) (ts : List Tok) (h : Par w B bp bt z ts) : Calls Tryz.prog 35 #[ptr bp] w (Ended w B bp bt z (module_ z ts) (fun w' m v => ModAt w' (New w w') m v)) := by
  have hbp := h.bp_lt
  have hbt := h.bt_lt
  have hB0 := h.laid.le
  have hBp := h.bpB
  have hw1 : (w.alloc (.cells #[str [], nils, nils, nils, nils] 37)).heap.size = w.heap.size + 1 := by simp
  obtain ⟨w0, hw0⟩ : ∃ w0, w0 = (w.alloc (.cells #[str [], nils, nils, nils, nils] 37)).alloc (.cells #[str [], nils, nils, nils, nils] 37) := ⟨_, rfl⟩
  have hb0 := Blk.new (w.alloc (.cells #[str [], nils, nils, nils, nils] 37)) #[str [], nils, nils, nils, nils] 37
  rw [hw1, ← hw0] at hb0
  have H0 : Hid (Mk 37 w w0 B bp bt z ts #[str [], nils, nils, nils, nils] #[str [], nils, nils, nils, nils] (fun _ _ => True)) := Lib.hid (by
    refine ⟨framed_true, hbp, hbt, ?_, ?_, hb0, ?_, ?_, trivial⟩
    · rw [hw0]; exact ((Chg.refl _ _).alloc _).alloc _
    · rw [hw0]; exact h.kept (((Chg.refl [] w).alloc _).alloc _) (by simp) (by simp) (by simp)
    · rw [hw0]; exact (Blk.new w _ 37).kept ((Chg.refl [] _).alloc _) (by simp)
    · rw [hw0]; simp)
  clear h hb0 hw1
  go_enter Tryz.func35, Tryz.ntmps35
  go_wp2_with fail
  change Calls _ _ _ ((w.alloc (.cells #[str [], nils, nils, nils, nils] 37)).alloc (.cells #[str [], nils, nils, nils, nils] 37)) _
  rw [← hw0]
  clear hw0
  have K1 := Lib.hid (must_any [109, 111, 100, 117, 108, 101] _ B bp bt z ts H0.out.par)
  cases hx : must z [109, 111, 100, 117, 108, 101] ts with
  | bad en q =>
    have HRR := Lib.hid (show module_ z ts = .bad en q by rw [module_]; simp only [hx])
    rw [hx] at K1
    clear hx
    go_wp2_with fail
    refine K1.out.mono ?_; intro e w9 he
    have HEE := Lib.hid he
    obtain ⟨b9, rfl⟩ := he.thrown
    clear he
    go_wp2_with fail
    refine ⟨rfl, ?_⟩
    rw [HRR.out]
    exact HEE.out.relay (H0.out.chg)
  | ok aK rK =>
    have HXK1 := Lib.hid hx
    rw [hx] at K1
    clear hx
    go_wp2_with fail
    obtain ⟨r1, rfl⟩ : ∃ r1, r1 = rK := ⟨rK, rfl⟩
    refine K1.out.mono ?_; rintro _ w1 ⟨hc, _, rfl, rfl, hp⟩
    have H1 := Lib.hid (H0.out.step hc hp)
    clear hc hp
    have KNm := Lib.hid (name_any w1 B bp bt z r1 H1.out.par)
    cases hx : name z r1 with
    | bad en q =>
      have HRR := Lib.hid (show module_ z ts = .bad en q by rw [module_]; simp only [HXK1.out, hx])
      rw [hx] at KNm
      clear hx
      go_wp2_with fail
      refine KNm.out.mono ?_; intro e w9 he
      have HEE := Lib.hid he
      obtain ⟨b9, rfl⟩ := he.thrown
      clear he
      go_wp2_with fail
      refine ⟨rfl, ?_⟩
      rw [HRR.out]
      exact HEE.out.relay (H1.out.chg)
    | ok aK rK =>
      have HXKNm := Lib.hid hx
      rw [hx] at KNm
      clear hx
      go_wp2_with fail
      obtain ⟨n, rfl⟩ : ∃ n, n = aK := ⟨aK, rfl⟩
      obtain ⟨r2, rfl⟩ : ∃ r2, r2 = rK := ⟨rK, rfl⟩
      refine KNm.out.mono ?_; rintro _ w2 ⟨hc, _, rfl, rfl, hp⟩
      have H2a := Lib.hid (H1.out.step hc hp)
      clear hc hp
      have hb2 := H2a.out.blk
      have f0 := hb2.frozen 0; have e0 := hb2.cell 0 _ rfl
      obtain ⟨w2b, hw2⟩ : ∃ w2b, w2b = w2.setCell ⟨w.heap.size + 1, 0, none⟩ (str n) := ⟨_, rfl⟩
      have H2 := Lib.hid (H2a.out.store 0 (str n))
      simp only [Array.setIfInBounds] at H2
      rw [← hw2] at H2
      clear hb2
      have K3 := Lib.hid (must_any [59] _ B bp bt z r2 H2.out.par)
      cases hx : must z [59] r2 with
      | bad en q =>
        have HRR := Lib.hid (show module_ z ts = .bad en q by rw [module_]; simp only [HXK1.out, HXKNm.out, hx])
        rw [hx] at K3
        clear hx
        go_wp2_with fail
        rw [← hw2]
        refine K3.out.mono ?_; intro e w9 he
        have HEE := Lib.hid he
        obtain ⟨b9, rfl⟩ := he.thrown
        clear he
        go_wp2_with fail
        refine ⟨rfl, ?_⟩
        rw [HRR.out]
        exact HEE.out.relay (H2.out.chg)
      | ok aK rK =>
        have HXK3 := Lib.hid hx
        rw [hx] at K3
        clear hx
        go_wp2_with fail
        rw [← hw2]
        obtain ⟨r3, rfl⟩ : ∃ r3, r3 = rK := ⟨rK, rfl⟩
        refine K3.out.mono ?_; rintro _ w3 ⟨hc, _, rfl, rfl, hp⟩
        have H3 := Lib.hid (H2.out.step hc hp)
        clear hc hp
        clear f0 e0 hw2
        have KT1 := Lib.hid (take_any [105, 109, 112, 111, 114, 116] w3 B bp bt z r3 H3.out.par)
        cases hk : see [105, 109, 112, 111, 114, 116] r3 with
        | true =>
          have HI1 := Lib.hid hk
          clear hk
          go_wp2_with fail
          refine KT1.out.mono ?_; rintro _ w4 ⟨rfl, hp, hc, _⟩
          rw [HI1.out]
          rw [skip, HI1.out, if_pos rfl] at hp
          have H4 := Lib.hid (H3.out.step hc hp)
          clear hc hp
          have KP := Lib.hid (names_any 6 (by omega) w4 B bp bt z r3.tail H4.out.par)
          cases hx : names z 6 r3.tail with
          | bad en q =>
            have HRR := Lib.hid (show module_ z ts = .bad en q by rw [module_]; simp only [HXK1.out, HXKNm.out, HXK3.out, imports, HI1.out, if_true, hx])
            rw [hx] at KP
            clear hx
            go_wp2_with fail
            refine KP.out.mono ?_; intro e w9 he
            have HEE := Lib.hid he
            obtain ⟨b9, rfl⟩ := he.thrown
            clear he
            go_wp2_with fail
            refine ⟨rfl, ?_⟩
            rw [HRR.out]
            exact HEE.out.relay (H4.out.chg)
          | ok aK rK =>
            have HXKP := Lib.hid hx
            rw [hx] at KP
            clear hx
            go_wp2_with fail
            obtain ⟨ims, rfl⟩ : ∃ ims, ims = aK := ⟨aK, rfl⟩
            obtain ⟨r5a, rfl⟩ : ∃ r5a, r5a = rK := ⟨rK, rfl⟩
            refine KP.out.mono ?_; rintro _ w5 ⟨hc, _, rfl, hv, hp⟩
            obtain ⟨a3, c3, rfl, hac3, hv'⟩ := hv
            have H5a := Lib.hid (H4.out.call hc hp (framed_Names ims (.slice a3 ims.length c3)) ⟨_, _, rfl, hac3, hv'⟩)
            clear hc hp hv'
            have hb5 := H5a.out.blk
            have f1 := hb5.frozen 1; have e1 := hb5.cell 1 _ rfl
            obtain ⟨w5b, hw5⟩ : ∃ w5b, w5b = w5.setCell ⟨w.heap.size + 1, 1, none⟩ (.slice a3 ims.length c3) := ⟨_, rfl⟩
            have H5 := Lib.hid (H5a.out.store 1 (.slice a3 ims.length c3))
            simp only [Array.setIfInBounds] at H5
            rw [← hw5] at H5
            clear hb5
            have K6 := Lib.hid (must_any [59] _ B bp bt z r5a H5.out.par)
            cases hx : must z [59] r5a with
            | bad en q =>
              have HRR := Lib.hid (show module_ z ts = .bad en q by rw [module_]; simp only [HXK1.out, HXKNm.out, HXK3.out, imports, HI1.out, if_true, HXKP.out, hx])
              rw [hx] at K6
              clear hx
              go_wp2_with fail
              rw [← hw5]
              refine K6.out.mono ?_; intro e w9 he
              have HEE := Lib.hid he
              obtain ⟨b9, rfl⟩ := he.thrown
              clear he
              go_wp2_with fail
              refine ⟨rfl, ?_⟩
              rw [HRR.out]
              exact HEE.out.relay (H5.out.chg)
            | ok aK rK =>
              have HXK6 := Lib.hid hx
              rw [hx] at K6
              clear hx
              go_wp2_with fail
              rw [← hw5]
              obtain ⟨r6, rfl⟩ : ∃ r6, r6 = rK := ⟨rK, rfl⟩
              refine K6.out.mono ?_; rintro _ w6 ⟨hc, _, rfl, rfl, hp⟩
              have H6 := Lib.hid (H5.out.step hc hp)
              clear hc hp
              clear f1 e1 hw5
              have HIM := Lib.hid (show imports z r3 = .ok ims r6 by simp only [imports, HI1.out, if_true, HXKP.out, HXK6.out])
              obtain ⟨r4, hr4⟩ : ∃ r4, r4 = r6 := ⟨_, rfl⟩
              subst hr4
              have KV := Lib.hid (vars_any w6 B bp bt z r4 H6.out.par)
              cases hx : varsL z 11 [] r4 with
              | bad en q =>
                have HRR := Lib.hid (show module_ z ts = .bad en q by rw [module_]; simp only [HXK1.out, HXKNm.out, HXK3.out, HIM.out, hx])
                rw [hx] at KV
                clear hx
                go_wp2_with fail
                refine KV.out.mono ?_; intro e w9 he
                have HEE := Lib.hid he
                obtain ⟨b9, rfl⟩ := he.thrown
                clear he
                go_wp2_with fail
                refine ⟨rfl, ?_⟩
                rw [HRR.out]
                exact HEE.out.relay (H6.out.chg)
              | ok aK rK =>
                have HXKV := Lib.hid hx
                rw [hx] at KV
                clear hx
                go_wp2_with fail
                obtain ⟨gs, rfl⟩ : ∃ gs, gs = aK := ⟨aK, rfl⟩
                obtain ⟨r5, rfl⟩ : ∃ r5, r5 = rK := ⟨rK, rfl⟩
                refine KV.out.mono ?_; rintro _ w7 ⟨hc, _, rfl, hv, hp⟩
                obtain ⟨a7, c7, rfl, hv'⟩ := hv
                have H7a := Lib.hid (H6.out.call hc hp (framed_Globs gs (.slice a7 gs.length c7)) ⟨_, _, rfl, hv'⟩)
                clear hc hp hv'
                have hb7 := H7a.out.blk
                have f2 := hb7.frozen 2; have e2 := hb7.cell 2 _ rfl
                obtain ⟨w8, hw8⟩ : ∃ w8, w8 = w7.setCell ⟨w.heap.size + 1, 2, none⟩ (.slice a7 gs.length c7) := ⟨_, rfl⟩
                have H8 := Lib.hid (H7a.out.store 2 (.slice a7 gs.length c7))
                simp only [Array.setIfInBounds] at H8
                rw [← hw8] at H8
                clear hb7
                go_wp2_with fail
                rw [← hw8]
                clear f2 e2 hw8
                go_loopw [] (fun wr => ∃ (f : Nat) (acc : List Proc) (cs : List Value) (l : Value) (ts' : List Tok), procsL z 11 [] r5 = procsL z f acc ts' ∧ f + acc.length = 11 ∧ acc.length ≤ 10 ∧ Chg [bp, w.heap.size + 1] w8 wr ∧ Par wr B bp bt z ts' ∧
                    Blk wr (w.heap.size + 1) #[str n, (.slice a3 ims.length c3), (.slice a7 gs.length c7), l, nils] 37 ∧ wr.ownsRow 0 99 6 l acc.length cs ∧ PrsAt wr (Off w8 wr l) acc cs ∧ From w8.heap.size l) (fun wr => 11 - lenOf ((wr.cell? ⟨w.heap.size + 1, 3, none⟩).getD nilp))
                case atStart => exact ⟨11, [], [], nils, r5, rfl, rfl, Nat.zero_le _, Chg.refl _ _, H8.out.par, H8.out.blk, World.ownsRow_nil _ _ _ _, rfl, From.nil _⟩
                case round =>
                  obtain ⟨f, acc, cs, l, ts', hr, hf, ha, hC, hp, hb, ho, hes, hF⟩ := hrel
                  have HR := Lib.hid hr; have HP := Lib.hid hp; have HO := Lib.hid ho; have HES := Lib.hid hes; have HF := Lib.hid hF; have HC := Lib.hid hC; have HB := Lib.hid hb
                  obtain ⟨sa, sc, hs⟩ := slice_of_owns ho
                  have hsz := hC.size
                  have hs8 := H8.out.sz
                  have hbl := hb.lt
                  have HW := Lib.hid (show Chg [bp] w wr from H8.out.chg.trans hC (fun x hx => by simp at hx; rcases hx with rfl | rfl; exact .inl (by simp); exact .inr (by omega)))
                  clear hr hp ho hes hF hC hb
                  subst hs
                  obtain ⟨f, rfl⟩ : ∃ f', f = f' + 1 := ⟨f - 1, by omega⟩
                  have KSe := Lib.hid (see_any [112, 114, 111, 99] wr B bp bt z ts' HP.out)
                  cases hk : see [112, 114, 111, 99] ts' with
                  | false =>
                    rw [hk] at KSe
                    have HPL0 := Lib.hid (show procsL z 11 [] r5 = .ok acc ts' by rw [HR.out, procsL, if_neg (by rw [hk]; simp)])
                    clear hk
                    go_wp2_with fail
                    refine KSe.out.mono ?_; rintro _ _ ⟨rfl, hw⟩; have hw := hw.symm; subst hw
                    obtain ⟨r6, hr6⟩ : ∃ r6, r6 = ts' := ⟨_, rfl⟩
                    subst hr6
                    have HPL := HPL0
                    have H9 := Lib.hid ((H8.out.loop HC.out HP.out HB.out).add (framed_Procs acc (.slice sa acc.length sc)) (by
                      obtain ⟨a, c, he, hac, hrow⟩ := Row.of_owns HO.out (new_owns HO.out HF.out)
                      cases he
                      refine ProcsAt.mono (F := New w8 wr) (fun x hx => ⟨Nat.le_trans hs8 hx.1, hx.2⟩) ⟨_, _, _, rfl, hac, hrow, (framed_Prs acc cs).done HES.out⟩))
                    clear HES HO HR HPL0
                    go_wp2_with fail
                    have K18 := Lib.hid (must_any [98, 101, 103, 105, 110] _ B bp bt z r6 H9.out.par)
                    cases hx : must z [98, 101, 103, 105, 110] r6 with
                    | bad en q =>
                      have HRR := Lib.hid (show module_ z ts = .bad en q by rw [module_]; simp only [HXK1.out, HXKNm.out, HXK3.out, HIM.out, HXKV.out, HPL.out, block, hx])
                      rw [hx] at K18
                      clear hx
                      go_wp2_with fail
                      refine K18.out.mono ?_; intro e w9 he
                      have HEE := Lib.hid he
                      obtain ⟨b9, rfl⟩ := he.thrown
                      clear he
                      go_wp2_with fail
                      refine ⟨rfl, ?_⟩
                      rw [HRR.out]
                      exact HEE.out.relay (H9.out.chg)
                    | ok aK rK =>
                      have HXK18 := Lib.hid hx
                      rw [hx] at K18
                      clear hx
                      go_wp2_with fail
                      obtain ⟨r18, rfl⟩ : ∃ r18, r18 = rK := ⟨rK, rfl⟩
                      refine K18.out.mono ?_; rintro _ w18 ⟨hc, _, rfl, rfl, hp⟩
                      have H18 := Lib.hid (H9.out.step hc hp)
                      clear hc hp
                      have KB := Lib.hid (body0_any w18 B bp bt z r18 H18.out.par)
                      cases hx : body0 z r18 with
                      | bad en q =>
                        have HRR := Lib.hid (show module_ z ts = .bad en q by rw [module_]; simp only [HXK1.out, HXKNm.out, HXK3.out, HIM.out, HXKV.out, HPL.out, block, HXK18.out, hx])
                        rw [hx] at KB
                        clear hx
                        go_wp2_with fail
                        refine KB.out.mono ?_; intro e w9 he
                        have HEE := Lib.hid he
                        obtain ⟨b9, rfl⟩ := he.thrown
                        clear he
                        go_wp2_with fail
                        refine ⟨rfl, ?_⟩
                        rw [HRR.out]
                        exact HEE.out.relay (H18.out.chg)
                      | ok aK rK =>
                        have HXKB := Lib.hid hx
                        rw [hx] at KB
                        clear hx
                        go_wp2_with fail
                        obtain ⟨b, rfl⟩ : ∃ b, b = aK := ⟨aK, rfl⟩
                        obtain ⟨r19, rfl⟩ : ∃ r19, r19 = rK := ⟨rK, rfl⟩
                        refine KB.out.mono ?_; rintro _ w19 ⟨hc, _, rfl, hv, hp⟩
                        obtain ⟨a5, c5, cs5, rfl, hv'⟩ := hv
                        have H19a := Lib.hid (H18.out.call hc hp (framed_Sl b (.slice a5 b.len c5)) ⟨_, _, _, rfl, hv'⟩)
                        clear hc hp hv'
                        have hb19 := H19a.out.blk
                        have f4 := hb19.frozen 4; have e4 := hb19.cell 4 _ rfl
                        obtain ⟨w19b, hw19⟩ : ∃ w19b, w19b = w19.setCell ⟨w.heap.size + 1, 4, none⟩ (.slice a5 b.len c5) := ⟨_, rfl⟩
                        have H19 := Lib.hid (H19a.out.store 4 (.slice a5 b.len c5))
                        simp only [Array.setIfInBounds] at H19
                        rw [← hw19] at H19
                        clear hb19
                        have K20 := Lib.hid (must_any [101, 110, 100] _ B bp bt z r19 H19.out.par)
                        cases hx : must z [101, 110, 100] r19 with
                        | bad en q =>
                          have HRR := Lib.hid (show module_ z ts = .bad en q by rw [module_]; simp only [HXK1.out, HXKNm.out, HXK3.out, HIM.out, HXKV.out, HPL.out, block, HXK18.out, HXKB.out, hx])
                          rw [hx] at K20
                          clear hx
                          go_wp2_with fail
                          rw [← hw19]
                          refine K20.out.mono ?_; intro e w9 he
                          have HEE := Lib.hid he
                          obtain ⟨b9, rfl⟩ := he.thrown
                          clear he
                          go_wp2_with fail
                          refine ⟨rfl, ?_⟩
                          rw [HRR.out]
                          exact HEE.out.relay (H19.out.chg)
                        | ok aK rK =>
                          have HXK20 := Lib.hid hx
                          rw [hx] at K20
                          clear hx
                          go_wp2_with fail
                          rw [← hw19]
                          obtain ⟨r20, rfl⟩ : ∃ r20, r20 = rK := ⟨rK, rfl⟩
                          refine K20.out.mono ?_; rintro _ w20 ⟨hc, _, rfl, rfl, hp⟩
                          have H20 := Lib.hid (H19.out.step hc hp)
                          clear hc hp
                          clear f4 e4 hw19
                          have K21 := Lib.hid (must_any [46] _ B bp bt z r20 H20.out.par)
                          cases hx : must z [46] r20 with
                          | bad en q =>
                            have HRR := Lib.hid (show module_ z ts = .bad en q by rw [module_]; simp only [HXK1.out, HXKNm.out, HXK3.out, HIM.out, HXKV.out, HPL.out, block, HXK18.out, HXKB.out, HXK20.out, hx])
                            rw [hx] at K21
                            clear hx
                            go_wp2_with fail
                            refine K21.out.mono ?_; intro e w9 he
                            have HEE := Lib.hid he
                            obtain ⟨b9, rfl⟩ := he.thrown
                            clear he
                            go_wp2_with fail
                            refine ⟨rfl, ?_⟩
                            rw [HRR.out]
                            exact HEE.out.relay (H20.out.chg)
                          | ok aK rK =>
                            have HXK21 := Lib.hid hx
                            rw [hx] at K21
                            clear hx
                            go_wp2_with fail
                            obtain ⟨r21, rfl⟩ : ∃ r21, r21 = rK := ⟨rK, rfl⟩
                            refine K21.out.mono ?_; rintro _ w21 ⟨hc, _, rfl, rfl, hp⟩
                            have H21 := Lib.hid (H20.out.step hc hp)
                            clear hc hp
                            have HRR := Lib.hid (show module_ z ts = .ok ⟨n, ims, gs, acc, b⟩ r21 by rw [module_]; simp only [HXK1.out, HXKNm.out, HXK3.out, HIM.out, HXKV.out, HPL.out, block, HXK18.out, HXKB.out, HXK20.out, HXK21.out])
                            have HD := Lib.hid (H21.out)
                            have hbE := H21.out.blk; have hrE := H21.out.res
                            have d0 := hbE.cell 0 _ rfl; have d1 := hbE.cell 1 _ rfl; have d2 := hbE.cell 2 _ rfl; have d3 := hbE.cell 3 _ rfl; have d4 := hbE.cell 4 _ rfl
                            have e0 := hrE.cell 0 _ rfl; have e1 := hrE.cell 1 _ rfl; have e2 := hrE.cell 2 _ rfl; have e3 := hrE.cell 3 _ rfl; have e4 := hrE.cell 4 _ rfl
                            have f0 := hrE.frozen 0; have f1 := hrE.frozen 1; have f2 := hrE.frozen 2; have f3 := hrE.frozen 3; have f4 := hrE.frozen 4
                            clear hbE hrE
                            go_wp2_with fail
                            obtain ⟨wF, hwF, hcF, hbF⟩ := set5 (str n) ((.slice a3 ims.length c3)) ((.slice a7 gs.length c7)) (.slice sa acc.length sc) (.slice a5 b.len c5) HD.out.res
                            rw [hwF]
                            clear hwF
                            have g0 := hbF.cell 0 (str n) rfl; have g1 := hbF.cell 1 ((.slice a3 ims.length c3)) rfl; have g2 := hbF.cell 2 ((.slice a7 gs.length c7)) rfl; have g3 := hbF.cell 3 (.slice sa acc.length sc) rfl; have g4 := hbF.cell 4 (.slice a5 b.len c5) rfl
                            refine bodyPost_ret (v := .agg #[str n, (.slice a3 ims.length c3), (.slice a7 gs.length c7), .slice sa acc.length sc, .slice a5 b.len c5]) (by simp [results, Tryz.results35, go_sem, g0, g1, g2, g3, g4]) rfl ?_
                            rw [HRR.out]
                            have hq := HD.out.fin hcF
                            exact ⟨HD.out.chg.trans hcF (fun x hx => .inr (by simp at hx; omega)), _, rfl, ⟨_, _, _, _, rfl, hq.1.1.1.2, hq.1.1.2, hq.1.2, hq.2⟩, HD.out.par.kept hcF (fun x hx => by simp at hx; omega) (by simp; omega) (by simp; omega)⟩
                  | true =>
                    rw [hk] at KSe
                    have d3 := HB.out.cell 3 _ rfl
                    cases he : decide (acc.length = 10) with
                    | true =>
                      have he1 : ((acc.length : Int) == 10) = true := by have := of_decide_eq_true he; simp [this]
                      have HPL := Lib.hid (show procsL z 11 [] r5 = .bad 4 (hd z ts') by rw [HR.out, procsL, if_pos hk, if_pos (of_decide_eq_true he)])
                      have HRR := Lib.hid (show module_ z ts = .bad 4 (hd z ts') by rw [module_]; simp only [HXK1.out, HXKNm.out, HXK3.out, HIM.out, HXKV.out, HPL.out])
                      clear he hk
                      go_wp2_with fail
                      refine KSe.out.mono ?_; rintro _ _ ⟨rfl, hw⟩; have hw := hw.symm; subst hw
                      go_wp2_with fail
                      refine (fail_any 4 _ B bp bt z ts' HP.out).mono ?_; intro e w2 he
                      have HE := Lib.hid he
                      obtain ⟨b, rfl⟩ := he.thrown
                      clear he
                      go_wp2_with fail
                      refine ⟨rfl, ?_⟩
                      rw [HRR.out]
                      exact HE.out.relay HW.out
                    | false =>
                      have he1 : ((acc.length : Int) == 10) = false := by have := of_decide_eq_false he; simp; omega
                      have hne := of_decide_eq_false he
                      have HG : Hid (∀ q, proc z ts' = q → procsL z 11 [] r5 = match q with | .bad e p => .bad e p | .ok g r => procsL z f (acc ++ [g]) r) := Lib.hid (fun q hq => by rw [HR.out, procsL, if_pos hk, if_neg hne, hq]; cases q <;> rfl)
                      have hPD : Par wr.drew B bp bt z ts' := HP.out.kept (Chg.refl [] wr).drew (by simp) (by simp) (by simp)
                      have HX := Lib.hid (proc_any wr.drew B bp bt z ts' hPD)
                      have d3d : wr.drew.cell? ⟨w.heap.size + 1, 3, none⟩ = some (.slice sa acc.length sc) := d3
                      clear he hk hPD
                      cases hx : proc z ts' with
                      | bad en q =>
                        have HPL := Lib.hid (HG.out _ hx)
                        have HRR := Lib.hid (show module_ z ts = .bad en q by rw [module_]; simp only [HXK1.out, HXKNm.out, HXK3.out, HIM.out, HXKV.out, HPL.out])
                        rw [hx] at HX
                        clear hx
                        go_wp2_with fail
                        refine KSe.out.mono ?_; rintro _ _ ⟨rfl, hw⟩; have hw := hw.symm; subst hw
                        go_wp2_with fail
                        refine wp_region_dead 3 [true, true, true] rfl (by kernel_rfl) (by kernel_rfl) rfl ?_
                        repeat
                          (with_reducible show wpX _ _ _ _ _ _ _ _
                           first
                             | refine wpX_nil ?_
                             | refine wpX_skip rfl ?_
                             | refine wpX_mv rfl rfl (by kernel_rfl) (fun _ _ => ?_)
                             | refine wpX_ldD rfl rfl rfl (by exact ⟨_, _, d3d⟩) (fun _ _ => ?_)
                           go_wp2_with fail)
                        refine HX.out.mono ?_; intro e w6 he
                        have HEE := Lib.hid he
                        obtain ⟨b, rfl⟩ := he.thrown
                        clear he
                        intro a' ha
                        refine ⟨ha, ?_⟩
                        rw [HRR.out]
                        exact HEE.out.relay HW.out.drew
                      | ok x r =>
                        have HPL := Lib.hid (HG.out _ hx)
                        rw [hx] at HX
                        clear hx
                        have hxb : (w.heap.size + 1) ∉ bp :: blk (.slice sa acc.length sc) := by
                          simp only [List.mem_cons, not_or]
                          exact ⟨by omega, fun hm => by have := HF.out _ hm; omega⟩
                        have HXB := Lib.hid hxb
                        have HZ := Lib.hid (Zone.of (X := bp :: blk (.slice sa acc.length sc)) d3d hxb)
                        clear hxb
                        go_wp2_with fail
                        refine KSe.out.mono ?_; rintro _ _ ⟨rfl, hw⟩; have hw := hw.symm; subst hw
                        go_wp2_with fail
                        refine wp_region_T (bp :: blk (.slice sa acc.length sc)) rfl (by kernel_rfl) rfl ?_
                        have hS : Chg (bp :: blk (.slice sa acc.length sc)) wr.drew wr.drew := Chg.refl _ _
                        repeat
                          (with_reducible show wpX _ _ _ _ _ _ _ _
                           first
                             | refine wpX_nil ?_
                             | refine wpX_skip rfl ?_
                             | refine wpX_mv rfl rfl (by kernel_rfl) (fun _ _ => ?_)
                             | refine wpX_ldC rfl rfl rfl (by exact HZ.out) (by assumption) (fun _ _ => ?_)
                             | refine wpX_ef' rfl rfl rfl (fun _ _ => ?_)
                           go_wp2_with fail)
                        refine HX.out.mono ?_; rintro _ w6 ⟨hc6, _, rfl, ⟨cx, rfl, hx6⟩, hp6⟩
                        have HX6 := Lib.hid hx6
                        obtain ⟨vp, vv, vb, rfl, h1, h2, h3⟩ := hx6
                        obtain ⟨x1, y1, rfl, _, _⟩ := h1
                        obtain ⟨x2, y2, rfl, _, _⟩ := h2
                        obtain ⟨x3, y3, _, rfl, _, _⟩ := h3
                        have hS : Chg (bp :: blk (.slice sa acc.length sc)) wr.drew w6 := hc6.mono (fun x hx => .inl (by simp at hx; simp [hx]))
                        have HC6 := Lib.hid hc6; have HP6 := Lib.hid hp6
                        clear hc6 hp6
                        go_wp2_with fail
                        refine And.intro hS ?_
                        repeat
                          (with_reducible show wpX _ _ _ _ _ _ _ _
                           first
                             | refine wpX_nil ?_
                             | refine wpX_skip rfl ?_
                             | refine wpX_mv rfl rfl (by kernel_rfl) (fun _ _ => ?_)
                             | refine wpX_ldC rfl rfl rfl (by exact HZ.out) (by assumption) (fun _ _ => ?_)
                             | refine wpX_ef' rfl rfl rfl (fun _ _ => ?_)
                           go_wp2_with fail)
                        refine And.intro (hS.alloc _) ?_
                        repeat
                          (with_reducible show wpX _ _ _ _ _ _ _ _
                           first
                             | refine wpX_nil ?_
                             | refine wpX_skip rfl ?_
                             | refine wpX_mv rfl rfl (by kernel_rfl) (fun _ _ => ?_)
                             | refine wpX_ldC rfl rfl rfl (by exact HZ.out) (by assumption) (fun _ _ => ?_)
                             | refine wpX_ef' rfl rfl rfl (fun _ _ => ?_)
                           go_wp2_with fail)
                        have how := owns_kept (w := wr.drew) (owns_kept HO.out (Chg.refl [] wr).drew (by simp)) (HC6.out.alloc (.cells #[str x.name, .int .i64 x.pos, .bool x.seen, .slice x1 x.params.length y1, .slice x2 x.vars.length y2, .slice x3 x.body.len y3] 99)) (fun g hg hm => by have := HF.out g hg; simp at hm; omega)
                        refine wpX_append _ _ 34 rfl rfl rfl 99 _ 6 104 infoProc Tryz.underlying34 rfl (by decide) (.slice sa acc.length sc) acc.length _ rfl how ⟨w6.heap.size, 0, none⟩ 1 1 [str x.name, .int .i64 x.pos, .bool x.seen, .slice x1 x.params.length y1, .slice x2 x.vars.length y2, .slice x3 x.body.len y3] rfl rfl (cells_new _ _ _) (by simp [Value.oneCell']) (by omega) (by unfold maxLen; omega) ?_
                        intro v' w7 hown' hch' hmv'
                        obtain ⟨a', c', rfl⟩ := slice_of_owns hown'
                        obtain ⟨v', hv'⟩ : ∃ v', v' = Value.slice a' (acc.length + 1) c' := ⟨_, rfl⟩
                        rw [← hv'] at hown' hmv'
                        have hc7 : Chg (bp :: blk (.slice sa acc.length sc)) wr.drew w7 := (hS.alloc _).then (hch'.mono (fun x hx => .inl (by simp [hx])))
                        have hb7 : Blk w7 (w.heap.size + 1) _ _ := HB.out.kept (Chg.trans (S := bp :: blk (.slice sa acc.length sc)) (⟨rfl, rfl, rfl, Nat.le_refl _, fun _ _ _ => rfl⟩ : Chg _ wr wr.drew) hc7 (fun x hx => .inl hx)) HXB.out
                        have hcell7 := hb7.cell 3 _ rfl
                        have hfz7 := hb7.frozen 3
                        have hsz6 := HC6.out.size
                        have hsz7 : w6.heap.size ≤ w7.heap.size := Nat.le_trans (by simp) hch'.size
                        have hswd : wr.drew.heap.size = wr.heap.size := rfl
                        have hes6 := (framed_Prs acc cs).call HES.out ((⟨rfl, rfl, rfl, Nat.le_refl _, fun _ _ _ => rfl⟩ : Chg [bp] wr wr.drew).then HC6.out) (by omega)
                        have hlw : ∀ g ∈ blk (.slice sa acc.length sc), g < wr.drew.heap.size := fun g hg => owns_lt HO.out g hg
                        have hx6' := (framed_Pr x _).fresh (w := w8) (l := .slice sa acc.length sc) HX6.out hlw (by omega)
                        have hes7 := (framed_Prs acc cs).app hes6 hch' hmv'
                        have hx7 := (framed_Pr x _).app hx6' hch' hmv'
                        have HES7 := Lib.hid (PrsAt.snoc hes7 hx7)
                        have hF7 : From w8.heap.size v' := HF.out.moved hmv' (by simp; omega)
                        have HF7 := Lib.hid hF7
                        have hp7 : Par w7 B bp bt z r := (HP6.out.kept ((Chg.refl [] w6).alloc _) (by simp) (by simp) (by simp)).kept hch' (fun g hg => by have := HF.out g hg; omega) (fun hm => by have := HF.out _ hm; omega) (fun hm => by have := HF.out _ hm; omega)
                        have HP7 := Lib.hid hp7
                        have HO7 := Lib.hid hown'
                        have HB7 := Lib.hid hb7
                        have HC7 := Lib.hid hc7
                        have hl7 : lenOf v' = acc.length + 1 := lenOf_owns hown'
                        have HL7 := Lib.hid hl7
                        clear hown' hch' hmv' hb7 hS how hes6 hlw hx6' hes7 hx7 hF7 hp7 hl7 hc7
                        refine And.intro HC7.out ?_
                        repeat
                          (with_reducible show wpX _ _ _ _ _ _ _ _
                           first
                             | refine wpX_nil ?_
                             | refine wpX_skip rfl ?_
                             | refine wpX_mv rfl rfl (by kernel_rfl) (fun _ _ => ?_)
                             | refine wpX_ldC rfl rfl rfl (by exact HZ.out) (by assumption) (fun _ _ => ?_)
                             | refine wpX_ef' rfl rfl rfl (fun _ _ => ?_)
                           go_wp2_with fail)
                        refine stepX_ef rfl rfl (fun _ _ => ?_)
                        change Oper.wp _ (Oper.mk _ _ _ _ _ _) _ _ _ _
                        go_wp2_with fail
                        rw [← hv']
                        have hcs : Chg [w.heap.size + 1] w7 (w7.setCell ⟨w.heap.size + 1, 3, none⟩ v') := Chg.set1 _ _ _ _
                        have hbs : Blk (w7.setCell ⟨w.heap.size + 1, 3, none⟩ v') (w.heap.size + 1) #[str n, (.slice a3 ims.length c3), (.slice a7 gs.length c7), v', nils] 37 := HB7.out.set 3 v'
                        have hwr7 : Chg [bp, w.heap.size + 1] w8 w7 := (HC.out.trans (⟨rfl, rfl, rfl, Nat.le_refl _, fun _ _ _ => rfl⟩ : Chg [bp] wr wr.drew) (fun x hx => .inl (by simp at hx; simp [hx]))).trans HC7.out (fun x hx => by
                          rcases List.mem_cons.1 hx with rfl | hx
                          · exact .inl (by simp)
                          · exact .inr (HF.out x hx))
                        go_roundw
                        case rel =>
                          refine ⟨f, acc ++ [x], _, v', r, HPL.out, by simp; omega, by simp; omega, hwr7.trans hcs (fun x hx => .inl (by simp at hx; simp [hx])), HP7.out.kept hcs (fun x hx => by simp at hx; omega) (by simp; omega) (by simp; omega), hbs, ?_, (framed_Prs _ _).call HES7.out hcs (by omega), HF7.out⟩
                          simpa using owns_kept HO7.out hcs (fun g hg hm => by have := HF7.out g hg; simp at hm; omega)
                        case measure =>
                          have g3 := hbs.cell 3 _ rfl
                          rw [g3, HB.out.cell 3 _ rfl]
                          show 11 - lenOf v' < 11 - lenOf (.slice sa acc.length sc)
                          rw [HL7.out]
                          simp only [lenOf]
                          omega
        | false =>
          have HI1 := Lib.hid hk
          clear hk
          go_wp2_with fail
          refine KT1.out.mono ?_; rintro _ w4 ⟨rfl, _, _, hw⟩
          rw [HI1.out]
          have hw' := (hw HI1.out).symm; subst hw'; clear hw
          have H6 := Lib.hid (H3.out.add (framed_Names [] nils) NamesAt.nil)
          have HIM := Lib.hid (show imports z r3 = .ok [] r3 by simp only [imports, HI1.out, Bool.false_eq_true, if_false])
          have KV := Lib.hid (vars_any w3 B bp bt z r3 H6.out.par)
          cases hx : varsL z 11 [] r3 with
          | bad en q =>
            have HRR := Lib.hid (show module_ z ts = .bad en q by rw [module_]; simp only [HXK1.out, HXKNm.out, HXK3.out, HIM.out, hx])
            rw [hx] at KV
            clear hx
            go_wp2_with fail
            refine KV.out.mono ?_; intro e w9 he
            have HEE := Lib.hid he
            obtain ⟨b9, rfl⟩ := he.thrown
            clear he
            go_wp2_with fail
            refine ⟨rfl, ?_⟩
            rw [HRR.out]
            exact HEE.out.relay (H6.out.chg)
          | ok aK rK =>
            have HXKV := Lib.hid hx
            rw [hx] at KV
            clear hx
            go_wp2_with fail
            obtain ⟨gs, rfl⟩ : ∃ gs, gs = aK := ⟨aK, rfl⟩
            obtain ⟨r5, rfl⟩ : ∃ r5, r5 = rK := ⟨rK, rfl⟩
            refine KV.out.mono ?_; rintro _ w7 ⟨hc, _, rfl, hv, hp⟩
            obtain ⟨a7, c7, rfl, hv'⟩ := hv
            have H7a := Lib.hid (H6.out.call hc hp (framed_Globs gs (.slice a7 gs.length c7)) ⟨_, _, rfl, hv'⟩)
            clear hc hp hv'
            have hb7 := H7a.out.blk
            have f2 := hb7.frozen 2; have e2 := hb7.cell 2 _ rfl
            obtain ⟨w8, hw8⟩ : ∃ w8, w8 = w7.setCell ⟨w.heap.size + 1, 2, none⟩ (.slice a7 gs.length c7) := ⟨_, rfl⟩
            have H8 := Lib.hid (H7a.out.store 2 (.slice a7 gs.length c7))
            simp only [Array.setIfInBounds] at H8
            rw [← hw8] at H8
            clear hb7
            go_wp2_with fail
            rw [← hw8]
            clear f2 e2 hw8
            go_loopw [] (fun wr => ∃ (f : Nat) (acc : List Proc) (cs : List Value) (l : Value) (ts' : List Tok), procsL z 11 [] r5 = procsL z f acc ts' ∧ f + acc.length = 11 ∧ acc.length ≤ 10 ∧ Chg [bp, w.heap.size + 1] w8 wr ∧ Par wr B bp bt z ts' ∧
                Blk wr (w.heap.size + 1) #[str n, nils, (.slice a7 gs.length c7), l, nils] 37 ∧ wr.ownsRow 0 99 6 l acc.length cs ∧ PrsAt wr (Off w8 wr l) acc cs ∧ From w8.heap.size l) (fun wr => 11 - lenOf ((wr.cell? ⟨w.heap.size + 1, 3, none⟩).getD nilp))
            case atStart => exact ⟨11, [], [], nils, r5, rfl, rfl, Nat.zero_le _, Chg.refl _ _, H8.out.par, H8.out.blk, World.ownsRow_nil _ _ _ _, rfl, From.nil _⟩
            case round =>
              obtain ⟨f, acc, cs, l, ts', hr, hf, ha, hC, hp, hb, ho, hes, hF⟩ := hrel
              have HR := Lib.hid hr; have HP := Lib.hid hp; have HO := Lib.hid ho; have HES := Lib.hid hes; have HF := Lib.hid hF; have HC := Lib.hid hC; have HB := Lib.hid hb
              obtain ⟨sa, sc, hs⟩ := slice_of_owns ho
              have hsz := hC.size
              have hs8 := H8.out.sz
              have hbl := hb.lt
              have HW := Lib.hid (show Chg [bp] w wr from H8.out.chg.trans hC (fun x hx => by simp at hx; rcases hx with rfl | rfl; exact .inl (by simp); exact .inr (by omega)))
              clear hr hp ho hes hF hC hb
              subst hs
              obtain ⟨f, rfl⟩ : ∃ f', f = f' + 1 := ⟨f - 1, by omega⟩
              have KSe := Lib.hid (see_any [112, 114, 111, 99] wr B bp bt z ts' HP.out)
              cases hk : see [112, 114, 111, 99] ts' with
              | false =>
                rw [hk] at KSe
                have HPL0 := Lib.hid (show procsL z 11 [] r5 = .ok acc ts' by rw [HR.out, procsL, if_neg (by rw [hk]; simp)])
                clear hk
                go_wp2_with fail
                refine KSe.out.mono ?_; rintro _ _ ⟨rfl, hw⟩; have hw := hw.symm; subst hw
                obtain ⟨r6, hr6⟩ : ∃ r6, r6 = ts' := ⟨_, rfl⟩
                subst hr6
                have HPL := HPL0
                have H9 := Lib.hid ((H8.out.loop HC.out HP.out HB.out).add (framed_Procs acc (.slice sa acc.length sc)) (by
                  obtain ⟨a, c, he, hac, hrow⟩ := Row.of_owns HO.out (new_owns HO.out HF.out)
                  cases he
                  refine ProcsAt.mono (F := New w8 wr) (fun x hx => ⟨Nat.le_trans hs8 hx.1, hx.2⟩) ⟨_, _, _, rfl, hac, hrow, (framed_Prs acc cs).done HES.out⟩))
                clear HES HO HR HPL0
                go_wp2_with fail
                have K18 := Lib.hid (must_any [98, 101, 103, 105, 110] _ B bp bt z r6 H9.out.par)
                cases hx : must z [98, 101, 103, 105, 110] r6 with
                | bad en q =>
                  have HRR := Lib.hid (show module_ z ts = .bad en q by rw [module_]; simp only [HXK1.out, HXKNm.out, HXK3.out, HIM.out, HXKV.out, HPL.out, block, hx])
                  rw [hx] at K18
                  clear hx
                  go_wp2_with fail
                  refine K18.out.mono ?_; intro e w9 he
                  have HEE := Lib.hid he
                  obtain ⟨b9, rfl⟩ := he.thrown
                  clear he
                  go_wp2_with fail
                  refine ⟨rfl, ?_⟩
                  rw [HRR.out]
                  exact HEE.out.relay (H9.out.chg)
                | ok aK rK =>
                  have HXK18 := Lib.hid hx
                  rw [hx] at K18
                  clear hx
                  go_wp2_with fail
                  obtain ⟨r18, rfl⟩ : ∃ r18, r18 = rK := ⟨rK, rfl⟩
                  refine K18.out.mono ?_; rintro _ w18 ⟨hc, _, rfl, rfl, hp⟩
                  have H18 := Lib.hid (H9.out.step hc hp)
                  clear hc hp
                  have KB := Lib.hid (body0_any w18 B bp bt z r18 H18.out.par)
                  cases hx : body0 z r18 with
                  | bad en q =>
                    have HRR := Lib.hid (show module_ z ts = .bad en q by rw [module_]; simp only [HXK1.out, HXKNm.out, HXK3.out, HIM.out, HXKV.out, HPL.out, block, HXK18.out, hx])
                    rw [hx] at KB
                    clear hx
                    go_wp2_with fail
                    refine KB.out.mono ?_; intro e w9 he
                    have HEE := Lib.hid he
                    obtain ⟨b9, rfl⟩ := he.thrown
                    clear he
                    go_wp2_with fail
                    refine ⟨rfl, ?_⟩
                    rw [HRR.out]
                    exact HEE.out.relay (H18.out.chg)
                  | ok aK rK =>
                    have HXKB := Lib.hid hx
                    rw [hx] at KB
                    clear hx
                    go_wp2_with fail
                    obtain ⟨b, rfl⟩ : ∃ b, b = aK := ⟨aK, rfl⟩
                    obtain ⟨r19, rfl⟩ : ∃ r19, r19 = rK := ⟨rK, rfl⟩
                    refine KB.out.mono ?_; rintro _ w19 ⟨hc, _, rfl, hv, hp⟩
                    obtain ⟨a5, c5, cs5, rfl, hv'⟩ := hv
                    have H19a := Lib.hid (H18.out.call hc hp (framed_Sl b (.slice a5 b.len c5)) ⟨_, _, _, rfl, hv'⟩)
                    clear hc hp hv'
                    have hb19 := H19a.out.blk
                    have f4 := hb19.frozen 4; have e4 := hb19.cell 4 _ rfl
                    obtain ⟨w19b, hw19⟩ : ∃ w19b, w19b = w19.setCell ⟨w.heap.size + 1, 4, none⟩ (.slice a5 b.len c5) := ⟨_, rfl⟩
                    have H19 := Lib.hid (H19a.out.store 4 (.slice a5 b.len c5))
                    simp only [Array.setIfInBounds] at H19
                    rw [← hw19] at H19
                    clear hb19
                    have K20 := Lib.hid (must_any [101, 110, 100] _ B bp bt z r19 H19.out.par)
                    cases hx : must z [101, 110, 100] r19 with
                    | bad en q =>
                      have HRR := Lib.hid (show module_ z ts = .bad en q by rw [module_]; simp only [HXK1.out, HXKNm.out, HXK3.out, HIM.out, HXKV.out, HPL.out, block, HXK18.out, HXKB.out, hx])
                      rw [hx] at K20
                      clear hx
                      go_wp2_with fail
                      rw [← hw19]
                      refine K20.out.mono ?_; intro e w9 he
                      have HEE := Lib.hid he
                      obtain ⟨b9, rfl⟩ := he.thrown
                      clear he
                      go_wp2_with fail
                      refine ⟨rfl, ?_⟩
                      rw [HRR.out]
                      exact HEE.out.relay (H19.out.chg)
                    | ok aK rK =>
                      have HXK20 := Lib.hid hx
                      rw [hx] at K20
                      clear hx
                      go_wp2_with fail
                      rw [← hw19]
                      obtain ⟨r20, rfl⟩ : ∃ r20, r20 = rK := ⟨rK, rfl⟩
                      refine K20.out.mono ?_; rintro _ w20 ⟨hc, _, rfl, rfl, hp⟩
                      have H20 := Lib.hid (H19.out.step hc hp)
                      clear hc hp
                      clear f4 e4 hw19
                      have K21 := Lib.hid (must_any [46] _ B bp bt z r20 H20.out.par)
                      cases hx : must z [46] r20 with
                      | bad en q =>
                        have HRR := Lib.hid (show module_ z ts = .bad en q by rw [module_]; simp only [HXK1.out, HXKNm.out, HXK3.out, HIM.out, HXKV.out, HPL.out, block, HXK18.out, HXKB.out, HXK20.out, hx])
                        rw [hx] at K21
                        clear hx
                        go_wp2_with fail
                        refine K21.out.mono ?_; intro e w9 he
                        have HEE := Lib.hid he
                        obtain ⟨b9, rfl⟩ := he.thrown
                        clear he
                        go_wp2_with fail
                        refine ⟨rfl, ?_⟩
                        rw [HRR.out]
                        exact HEE.out.relay (H20.out.chg)
                      | ok aK rK =>
                        have HXK21 := Lib.hid hx
                        rw [hx] at K21
                        clear hx
                        go_wp2_with fail
                        obtain ⟨r21, rfl⟩ : ∃ r21, r21 = rK := ⟨rK, rfl⟩
                        refine K21.out.mono ?_; rintro _ w21 ⟨hc, _, rfl, rfl, hp⟩
                        have H21 := Lib.hid (H20.out.step hc hp)
                        clear hc hp
                        have HRR := Lib.hid (show module_ z ts = .ok ⟨n, ([] : List (List UInt8)), gs, acc, b⟩ r21 by rw [module_]; simp only [HXK1.out, HXKNm.out, HXK3.out, HIM.out, HXKV.out, HPL.out, block, HXK18.out, HXKB.out, HXK20.out, HXK21.out])
                        have HD := Lib.hid (H21.out)
                        have hbE := H21.out.blk; have hrE := H21.out.res
                        have d0 := hbE.cell 0 _ rfl; have d1 := hbE.cell 1 _ rfl; have d2 := hbE.cell 2 _ rfl; have d3 := hbE.cell 3 _ rfl; have d4 := hbE.cell 4 _ rfl
                        have e0 := hrE.cell 0 _ rfl; have e1 := hrE.cell 1 _ rfl; have e2 := hrE.cell 2 _ rfl; have e3 := hrE.cell 3 _ rfl; have e4 := hrE.cell 4 _ rfl
                        have f0 := hrE.frozen 0; have f1 := hrE.frozen 1; have f2 := hrE.frozen 2; have f3 := hrE.frozen 3; have f4 := hrE.frozen 4
                        clear hbE hrE
                        go_wp2_with fail
                        obtain ⟨wF, hwF, hcF, hbF⟩ := set5 (str n) (nils) ((.slice a7 gs.length c7)) (.slice sa acc.length sc) (.slice a5 b.len c5) HD.out.res
                        rw [hwF]
                        clear hwF
                        have g0 := hbF.cell 0 (str n) rfl; have g1 := hbF.cell 1 (nils) rfl; have g2 := hbF.cell 2 ((.slice a7 gs.length c7)) rfl; have g3 := hbF.cell 3 (.slice sa acc.length sc) rfl; have g4 := hbF.cell 4 (.slice a5 b.len c5) rfl
                        refine bodyPost_ret (v := .agg #[str n, nils, (.slice a7 gs.length c7), .slice sa acc.length sc, .slice a5 b.len c5]) (by simp [results, Tryz.results35, go_sem, g0, g1, g2, g3, g4]) rfl ?_
                        rw [HRR.out]
                        have hq := HD.out.fin hcF
                        exact ⟨HD.out.chg.trans hcF (fun x hx => .inr (by simp at hx; omega)), _, rfl, ⟨_, _, _, _, rfl, hq.1.1.1.2, hq.1.1.2, hq.1.2, hq.2⟩, HD.out.par.kept hcF (fun x hx => by simp at hx; omega) (by simp; omega) (by simp; omega)⟩
              | true =>
                rw [hk] at KSe
                have d3 := HB.out.cell 3 _ rfl
                cases he : decide (acc.length = 10) with
                | true =>
                  have he1 : ((acc.length : Int) == 10) = true := by have := of_decide_eq_true he; simp [this]
                  have HPL := Lib.hid (show procsL z 11 [] r5 = .bad 4 (hd z ts') by rw [HR.out, procsL, if_pos hk, if_pos (of_decide_eq_true he)])
                  have HRR := Lib.hid (show module_ z ts = .bad 4 (hd z ts') by rw [module_]; simp only [HXK1.out, HXKNm.out, HXK3.out, HIM.out, HXKV.out, HPL.out])
                  clear he hk
                  go_wp2_with fail
                  refine KSe.out.mono ?_; rintro _ _ ⟨rfl, hw⟩; have hw := hw.symm; subst hw
                  go_wp2_with fail
                  refine (fail_any 4 _ B bp bt z ts' HP.out).mono ?_; intro e w2 he
                  have HE := Lib.hid he
                  obtain ⟨b, rfl⟩ := he.thrown
                  clear he
                  go_wp2_with fail
                  refine ⟨rfl, ?_⟩
                  rw [HRR.out]
                  exact HE.out.relay HW.out
                | false =>
                  have he1 : ((acc.length : Int) == 10) = false := by have := of_decide_eq_false he; simp; omega
                  have hne := of_decide_eq_false he
                  have HG : Hid (∀ q, proc z ts' = q → procsL z 11 [] r5 = match q with | .bad e p => .bad e p | .ok g r => procsL z f (acc ++ [g]) r) := Lib.hid (fun q hq => by rw [HR.out, procsL, if_pos hk, if_neg hne, hq]; cases q <;> rfl)
                  have hPD : Par wr.drew B bp bt z ts' := HP.out.kept (Chg.refl [] wr).drew (by simp) (by simp) (by simp)
                  have HX := Lib.hid (proc_any wr.drew B bp bt z ts' hPD)
                  have d3d : wr.drew.cell? ⟨w.heap.size + 1, 3, none⟩ = some (.slice sa acc.length sc) := d3
                  clear he hk hPD
                  cases hx : proc z ts' with
                  | bad en q =>
                    have HPL := Lib.hid (HG.out _ hx)
                    have HRR := Lib.hid (show module_ z ts = .bad en q by rw [module_]; simp only [HXK1.out, HXKNm.out, HXK3.out, HIM.out, HXKV.out, HPL.out])
                    rw [hx] at HX
                    clear hx
                    go_wp2_with fail
                    refine KSe.out.mono ?_; rintro _ _ ⟨rfl, hw⟩; have hw := hw.symm; subst hw
                    go_wp2_with fail
                    refine wp_region_dead 3 [true, true, true] rfl (by kernel_rfl) (by kernel_rfl) rfl ?_
                    repeat
                      (with_reducible show wpX _ _ _ _ _ _ _ _
                       first
                         | refine wpX_nil ?_
                         | refine wpX_skip rfl ?_
                         | refine wpX_mv rfl rfl (by kernel_rfl) (fun _ _ => ?_)
                         | refine wpX_ldD rfl rfl rfl (by exact ⟨_, _, d3d⟩) (fun _ _ => ?_)
                       go_wp2_with fail)
                    refine HX.out.mono ?_; intro e w6 he
                    have HEE := Lib.hid he
                    obtain ⟨b, rfl⟩ := he.thrown
                    clear he
                    intro a' ha
                    refine ⟨ha, ?_⟩
                    rw [HRR.out]
                    exact HEE.out.relay HW.out.drew
                  | ok x r =>
                    have HPL := Lib.hid (HG.out _ hx)
                    rw [hx] at HX
                    clear hx
                    have hxb : (w.heap.size + 1) ∉ bp :: blk (.slice sa acc.length sc) := by
                      simp only [List.mem_cons, not_or]
                      exact ⟨by omega, fun hm => by have := HF.out _ hm; omega⟩
                    have HXB := Lib.hid hxb
                    have HZ := Lib.hid (Zone.of (X := bp :: blk (.slice sa acc.length sc)) d3d hxb)
                    clear hxb
                    go_wp2_with fail
                    refine KSe.out.mono ?_; rintro _ _ ⟨rfl, hw⟩; have hw := hw.symm; subst hw
                    go_wp2_with fail
                    refine wp_region_T (bp :: blk (.slice sa acc.length sc)) rfl (by kernel_rfl) rfl ?_
                    have hS : Chg (bp :: blk (.slice sa acc.length sc)) wr.drew wr.drew := Chg.refl _ _
                    repeat
                      (with_reducible show wpX _ _ _ _ _ _ _ _
                       first
                         | refine wpX_nil ?_
                         | refine wpX_skip rfl ?_
                         | refine wpX_mv rfl rfl (by kernel_rfl) (fun _ _ => ?_)
                         | refine wpX_ldC rfl rfl rfl (by exact HZ.out) (by assumption) (fun _ _ => ?_)
                         | refine wpX_ef' rfl rfl rfl (fun _ _ => ?_)
                       go_wp2_with fail)
                    refine HX.out.mono ?_; rintro _ w6 ⟨hc6, _, rfl, ⟨cx, rfl, hx6⟩, hp6⟩
                    have HX6 := Lib.hid hx6
                    obtain ⟨vp, vv, vb, rfl, h1, h2, h3⟩ := hx6
                    obtain ⟨x1, y1, rfl, _, _⟩ := h1
                    obtain ⟨x2, y2, rfl, _, _⟩ := h2
                    obtain ⟨x3, y3, _, rfl, _, _⟩ := h3
                    have hS : Chg (bp :: blk (.slice sa acc.length sc)) wr.drew w6 := hc6.mono (fun x hx => .inl (by simp at hx; simp [hx]))
                    have HC6 := Lib.hid hc6; have HP6 := Lib.hid hp6
                    clear hc6 hp6
                    go_wp2_with fail
                    refine And.intro hS ?_
                    repeat
                      (with_reducible show wpX _ _ _ _ _ _ _ _
                       first
                         | refine wpX_nil ?_
                         | refine wpX_skip rfl ?_
                         | refine wpX_mv rfl rfl (by kernel_rfl) (fun _ _ => ?_)
                         | refine wpX_ldC rfl rfl rfl (by exact HZ.out) (by assumption) (fun _ _ => ?_)
                         | refine wpX_ef' rfl rfl rfl (fun _ _ => ?_)
                       go_wp2_with fail)
                    refine And.intro (hS.alloc _) ?_
                    repeat
                      (with_reducible show wpX _ _ _ _ _ _ _ _
                       first
                         | refine wpX_nil ?_
                         | refine wpX_skip rfl ?_
                         | refine wpX_mv rfl rfl (by kernel_rfl) (fun _ _ => ?_)
                         | refine wpX_ldC rfl rfl rfl (by exact HZ.out) (by assumption) (fun _ _ => ?_)
                         | refine wpX_ef' rfl rfl rfl (fun _ _ => ?_)
                       go_wp2_with fail)
                    have how := owns_kept (w := wr.drew) (owns_kept HO.out (Chg.refl [] wr).drew (by simp)) (HC6.out.alloc (.cells #[str x.name, .int .i64 x.pos, .bool x.seen, .slice x1 x.params.length y1, .slice x2 x.vars.length y2, .slice x3 x.body.len y3] 99)) (fun g hg hm => by have := HF.out g hg; simp at hm; omega)
                    refine wpX_append _ _ 34 rfl rfl rfl 99 _ 6 104 infoProc Tryz.underlying34 rfl (by decide) (.slice sa acc.length sc) acc.length _ rfl how ⟨w6.heap.size, 0, none⟩ 1 1 [str x.name, .int .i64 x.pos, .bool x.seen, .slice x1 x.params.length y1, .slice x2 x.vars.length y2, .slice x3 x.body.len y3] rfl rfl (cells_new _ _ _) (by simp [Value.oneCell']) (by omega) (by unfold maxLen; omega) ?_
                    intro v' w7 hown' hch' hmv'
                    obtain ⟨a', c', rfl⟩ := slice_of_owns hown'
                    obtain ⟨v', hv'⟩ : ∃ v', v' = Value.slice a' (acc.length + 1) c' := ⟨_, rfl⟩
                    rw [← hv'] at hown' hmv'
                    have hc7 : Chg (bp :: blk (.slice sa acc.length sc)) wr.drew w7 := (hS.alloc _).then (hch'.mono (fun x hx => .inl (by simp [hx])))
                    have hb7 : Blk w7 (w.heap.size + 1) _ _ := HB.out.kept (Chg.trans (S := bp :: blk (.slice sa acc.length sc)) (⟨rfl, rfl, rfl, Nat.le_refl _, fun _ _ _ => rfl⟩ : Chg _ wr wr.drew) hc7 (fun x hx => .inl hx)) HXB.out
                    have hcell7 := hb7.cell 3 _ rfl
                    have hfz7 := hb7.frozen 3
                    have hsz6 := HC6.out.size
                    have hsz7 : w6.heap.size ≤ w7.heap.size := Nat.le_trans (by simp) hch'.size
                    have hswd : wr.drew.heap.size = wr.heap.size := rfl
                    have hes6 := (framed_Prs acc cs).call HES.out ((⟨rfl, rfl, rfl, Nat.le_refl _, fun _ _ _ => rfl⟩ : Chg [bp] wr wr.drew).then HC6.out) (by omega)
                    have hlw : ∀ g ∈ blk (.slice sa acc.length sc), g < wr.drew.heap.size := fun g hg => owns_lt HO.out g hg
                    have hx6' := (framed_Pr x _).fresh (w := w8) (l := .slice sa acc.length sc) HX6.out hlw (by omega)
                    have hes7 := (framed_Prs acc cs).app hes6 hch' hmv'
                    have hx7 := (framed_Pr x _).app hx6' hch' hmv'
                    have HES7 := Lib.hid (PrsAt.snoc hes7 hx7)
                    have hF7 : From w8.heap.size v' := HF.out.moved hmv' (by simp; omega)
                    have HF7 := Lib.hid hF7
                    have hp7 : Par w7 B bp bt z r := (HP6.out.kept ((Chg.refl [] w6).alloc _) (by simp) (by simp) (by simp)).kept hch' (fun g hg => by have := HF.out g hg; omega) (fun hm => by have := HF.out _ hm; omega) (fun hm => by have := HF.out _ hm; omega)
                    have HP7 := Lib.hid hp7
                    have HO7 := Lib.hid hown'
                    have HB7 := Lib.hid hb7
                    have HC7 := Lib.hid hc7
                    have hl7 : lenOf v' = acc.length + 1 := lenOf_owns hown'
                    have HL7 := Lib.hid hl7
                    clear hown' hch' hmv' hb7 hS how hes6 hlw hx6' hes7 hx7 hF7 hp7 hl7 hc7
                    refine And.intro HC7.out ?_
                    repeat
                      (with_reducible show wpX _ _ _ _ _ _ _ _
                       first
                         | refine wpX_nil ?_
                         | refine wpX_skip rfl ?_
                         | refine wpX_mv rfl rfl (by kernel_rfl) (fun _ _ => ?_)
                         | refine wpX_ldC rfl rfl rfl (by exact HZ.out) (by assumption) (fun _ _ => ?_)
                         | refine wpX_ef' rfl rfl rfl (fun _ _ => ?_)
                       go_wp2_with fail)
                    refine stepX_ef rfl rfl (fun _ _ => ?_)
                    change Oper.wp _ (Oper.mk _ _ _ _ _ _) _ _ _ _
                    go_wp2_with fail
                    rw [← hv']
                    have hcs : Chg [w.heap.size + 1] w7 (w7.setCell ⟨w.heap.size + 1, 3, none⟩ v') := Chg.set1 _ _ _ _
                    have hbs : Blk (w7.setCell ⟨w.heap.size + 1, 3, none⟩ v') (w.heap.size + 1) #[str n, nils, (.slice a7 gs.length c7), v', nils] 37 := HB7.out.set 3 v'
                    have hwr7 : Chg [bp, w.heap.size + 1] w8 w7 := (HC.out.trans (⟨rfl, rfl, rfl, Nat.le_refl _, fun _ _ _ => rfl⟩ : Chg [bp] wr wr.drew) (fun x hx => .inl (by simp at hx; simp [hx]))).trans HC7.out (fun x hx => by
                      rcases List.mem_cons.1 hx with rfl | hx
                      · exact .inl (by simp)
                      · exact .inr (HF.out x hx))
                    go_roundw
                    case rel =>
                      refine ⟨f, acc ++ [x], _, v', r, HPL.out, by simp; omega, by simp; omega, hwr7.trans hcs (fun x hx => .inl (by simp at hx; simp [hx])), HP7.out.kept hcs (fun x hx => by simp at hx; omega) (by simp; omega) (by simp; omega), hbs, ?_, (framed_Prs _ _).call HES7.out hcs (by omega), HF7.out⟩
                      simpa using owns_kept HO7.out hcs (fun g hg hm => by have := HF7.out g hg; simp at hm; omega)
                    case measure =>
                      have g3 := hbs.cell 3 _ rfl
                      rw [g3, HB.out.cell 3 _ rfl]
                      show 11 - lenOf v' < 11 - lenOf (.slice sa acc.length sc)
                      rw [HL7.out]
                      simp only [lenOf]
                      omega
end Go.Proofs.YtgnfhognbpifiaaGreatDoor
