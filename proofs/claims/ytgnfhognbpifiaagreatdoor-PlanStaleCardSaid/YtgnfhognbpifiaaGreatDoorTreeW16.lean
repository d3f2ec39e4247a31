/- The parser's proc. -/
import Derived.Test.YtgnfhognbpifiaaGreatDoorTreeW15
namespace Go.Mq.Tree
open Go Go.RowKit Go.Mq
theorem framed_Names (l : List (List UInt8)) (v : Value) : Framed (fun w F => NamesAt w F l v) := ⟨fun hF h => h.mono hF, fun hc hS h => h.kept hc hS⟩
theorem framed_Sl (s : S) (v : Value) : Framed (fun w F => SlAt w F s v) := ⟨fun hF h => h.mono hF, fun hc hS h => h.kept hc hS⟩
theorem framed_true : Framed (fun _ _ => True) := ⟨fun _ h => h, fun _ _ h => h⟩
theorem Framed.and {Q Q' : World → (Nat → Prop) → Prop} (h : Framed Q) (h' : Framed Q') : Framed (fun w F => Q w F ∧ Q' w F) := ⟨fun hF x => ⟨h.mono hF x.1, h'.mono hF x.2⟩, fun hc hS x => ⟨h.kept hc hS x.1, h'.kept hc hS x.2⟩⟩
/-- While a part is made: its block lies behind the result's; what hangs on it is in new blocks. -/
structure Mk (T : TypeId) (w wk : World) (B bp bt z : Nat) (tk : List Tok) (zs cs : Array Value) (Q : World → (Nat → Prop) → Prop) : Prop where
  fr : Framed Q
  hbp : bp < w.heap.size
  hbt : bt < w.heap.size
  chg : Chg [bp] w wk
  par : Par wk B bp bt z tk
  blk : Blk wk (w.heap.size + 1) cs T
  res : Blk wk w.heap.size zs T
  sz : w.heap.size + 2 ≤ wk.heap.size
  q : Q wk (New2 w wk)
section
variable {T : TypeId} {w wk w' : World} {B bp bt z : Nat} {tk t' : List Tok} {zs cs : Array Value} {Q Q' : World → (Nat → Prop) → Prop}
theorem Mk.step (h : Mk T w wk B bp bt z tk zs cs Q) (hc : Chg [bp] wk w') (hp : Par w' B bp bt z t') : Mk T w w' B bp bt z t' zs cs Q :=
  ⟨h.fr, h.hbp, h.hbt, h.chg.then hc, hp, h.blk.kept hc (by have := h.hbp; simp; omega), h.res.kept hc (by have := h.hbp; simp; omega), Nat.le_trans h.sz hc.size,
    h.fr.mono (fun x hx => ⟨hx.1, Nat.lt_of_lt_of_le hx.2 hc.size⟩) (h.fr.kept hc (fun x hx hn => by have := h.hbp; simp at hx; have := hn.1; omega) h.q)⟩
theorem Mk.add (h : Mk T w wk B bp bt z tk zs cs Q) (hf : Framed Q') (hq : Q' wk (New2 w wk)) : Mk T w wk B bp bt z tk zs cs (fun w F => Q w F ∧ Q' w F) :=
  ⟨h.fr.and hf, h.hbp, h.hbt, h.chg, h.par, h.blk, h.res, h.sz, h.q, hq⟩
theorem Mk.call (h : Mk T w wk B bp bt z tk zs cs Q) (hc : Chg [bp] wk w') (hp : Par w' B bp bt z t') (hf : Framed Q') (hq : Q' w' (New wk w')) : Mk T w w' B bp bt z t' zs cs (fun w F => Q w F ∧ Q' w F) :=
  (h.step hc hp).add hf (hf.mono (fun _ hx => ⟨Nat.le_trans h.sz hx.1, hx.2⟩) hq)
theorem Mk.store (h : Mk T w wk B bp bt z tk zs cs Q) (i : Nat) (v : Value) : Mk T w (wk.setCell ⟨w.heap.size + 1, i, none⟩ v) B bp bt z tk zs (cs.setIfInBounds i v) Q := by
  have hc : Chg [w.heap.size + 1] wk (wk.setCell ⟨w.heap.size + 1, i, none⟩ v) := Chg.set1 _ _ _ _
  have h1 := h.hbp; have h2 := h.hbt; have h3 := h.par.laid.le; have h4 := h.par.bpB
  exact ⟨h.fr, h1, h2, h.chg.trans hc (fun x hx => .inr (by simp at hx; omega)), h.par.kept hc (fun x hx => by simp at hx; omega) (by simp; omega) (by simp; omega), h.blk.set i v, h.res.kept hc (by simp), Nat.le_trans h.sz hc.size,
    h.fr.mono (fun x hx => ⟨hx.1, Nat.lt_of_lt_of_le hx.2 hc.size⟩) (h.fr.kept hc (fun x hx hn => by simp at hx; have := hn.1; omega) h.q)⟩
theorem Mk.fin (h : Mk T w wk B bp bt z tk zs cs Q) (hc : Chg [w.heap.size] wk w') : Q w' (New w w') :=
  h.fr.mono (fun x hx => ⟨by have := hx.1; omega, Nat.lt_of_lt_of_le hx.2 hc.size⟩) (h.fr.kept hc (fun x hx hn => by simp at hx; have := hn.1; omega) h.q)
end
theorem namesL_most {z most : Nat} : ∀ f l (ts : List Tok) a r, l.length ≤ most → namesL z most f l ts = .ok a r → a.length ≤ most := by
  intro f
  induction f with
  | zero => intro l ts a r _ h; cases h
  | succ f ih =>
    intro l ts a r hl h
    rw [namesL] at h
    split at h
    · cases h
    · rename_i hne
      cases hn : name z ts with
      | bad e q => simp only [hn] at h; cases h
      | ok n r1 =>
        simp only [hn] at h
        split at h
        · exact ih _ _ _ _ (by simp; omega) h
        · cases h; simp; omega
theorem names_most {z most : Nat} {ts r : List Tok} {l : List (List UInt8)} (h : names z most ts = .ok l r) : l.length ≤ most := namesL_most _ _ _ _ _ (Nat.zero_le _) h
theorem sub_wrap {k : Nat} (h : k ≤ 10) : IntKind.i64.wrap (10 - (k : Int)) = ((10 - k : Nat) : Int) := by
  simp only [IntKind.wrap, IntKind.bits, IntKind.signed]; simp; omega
theorem set6 {w : World} {b : Nat} (v0 v1 v2 v3 v4 v5 : Value) {u0 u1 u2 u3 u4 u5 : Value} {t : TypeId} (h : Blk w b #[u0, u1, u2, u3, u4, u5] t) : ∃ wF, ((((((w.setCell ⟨b, 0, none⟩ v0).setCell ⟨b, 1, none⟩ v1).setCell ⟨b, 2, none⟩ v2).setCell ⟨b, 3, none⟩ v3).setCell ⟨b, 4, none⟩ v4).setCell ⟨b, 5, none⟩ v5) = wF ∧ Chg [b] w wF ∧ Blk wF b #[v0, v1, v2, v3, v4, v5] t :=
  ⟨_, rfl, (((((Chg.set1 _ _ _ _).then (Chg.set1 _ _ _ _)).then (Chg.set1 _ _ _ _)).then (Chg.set1 _ _ _ _)).then (Chg.set1 _ _ _ _)).then (Chg.set1 _ _ _ _), by
    have := (((((h.set 0 v0).set 1 v1).set 2 v2).set 3 v3).set 4 v4).set 5 v5
    simpa using this⟩
end Go.Mq.Tree
namespace Go.Proofs.YtgnfhognbpifiaaGreatDoor
open Go Go.RowKit Go.Mq Go.Mq.Tree
set_option maxRecDepth 100000
set_option maxHeartbeats 16000000
abbrev PV (w : World) : World → Proc → Value → Prop := fun w' x v => ∃ cs, v = .agg cs.toArray ∧ PrAt w' (New w w') x cs
theorem proc_any (w : World) (B bp bt z : Nat) (ts : List Tok) (h : Par w B bp bt z ts) : Calls Tryz.prog 68 #[ptr bp] w (Ended w B bp bt z (proc z ts) (PV w)) := by
  have hbp := h.bp_lt
  have hbt := h.bt_lt
  have hB0 := h.laid.le
  have hBp := h.bpB
  obtain ⟨off, c, nn, c0, c2⟩ := par_at h
  have hw1 : (w.alloc (.cells #[str [], .int .i64 0, .bool false, nils, nils, nils] 99)).heap.size = w.heap.size + 1 := by simp
  obtain ⟨w0, hw0⟩ : ∃ w0, w0 = (w.alloc (.cells #[str [], .int .i64 0, .bool false, nils, nils, nils] 99)).alloc (.cells #[str [], .int .i64 (hd z ts), .bool false, nils, nils, nils] 99) := ⟨_, rfl⟩
  have hb0 := Blk.new (w.alloc (.cells #[str [], .int .i64 0, .bool false, nils, nils, nils] 99)) #[str [], .int .i64 (hd z ts), .bool false, nils, nils, nils] 99
  rw [hw1, ← hw0] at hb0
  have H0 : Hid (Mk 99 w w0 B bp bt z ts #[str [], .int .i64 0, .bool false, nils, nils, nils] #[str [], .int .i64 (hd z ts), .bool false, nils, nils, nils] (fun _ _ => True)) := Lib.hid (by
    refine ⟨framed_true, hbp, hbt, ?_, ?_, hb0, ?_, ?_, trivial⟩
    · rw [hw0]; exact ((Chg.refl _ _).alloc _).alloc _
    · rw [hw0]; exact h.kept (((Chg.refl [] w).alloc _).alloc _) (by simp) (by simp) (by simp)
    · rw [hw0]; exact (Blk.new w _ 99).kept ((Chg.refl [] _).alloc _) (by simp)
    · rw [hw0]; simp)
  clear h hb0 hw1
  go_enter Tryz.func68, Tryz.ntmps68
  go_wp2_with fail
  clear c0 c2
  change Calls _ _ _ ((w.alloc (.cells #[str [], .int .i64 0, .bool false, nils, nils, nils] 99)).alloc (.cells #[str [], .int .i64 (hd z ts), .bool false, nils, nils, nils] 99)) _
  rw [← hw0]
  clear hw0
  have K1 := Lib.hid (must_any [112, 114, 111, 99] _ B bp bt z ts H0.out.par)
  cases hx : must z [112, 114, 111, 99] ts with
  | bad en q =>
    have HRR := Lib.hid (show proc z ts = .bad en q by rw [proc]; simp only [hx])
    rw [hx] at K1
    clear hx
    go_wp2_with fail
    refine K1.out.mono ?_; intro e w9 he
    have HEE := Lib.hid he
    obtain ⟨b9, rfl⟩ := he.thrown
    clear he
    go_wp2_with fail
    refine ⟨rfl, ?_⟩
    rw [HRR.out]
    exact HEE.out.relay (H0.out.chg)
  | ok aK rK =>
    have HXK1 := Lib.hid hx
    rw [hx] at K1
    clear hx
    go_wp2_with fail
    obtain ⟨r1, rfl⟩ : ∃ r1, r1 = rK := ⟨rK, rfl⟩
    refine K1.out.mono ?_; rintro _ w1 ⟨hc, _, rfl, rfl, hp⟩
    have H1 := Lib.hid (H0.out.step hc hp)
    clear hc hp
    have KNm := Lib.hid (name_any w1 B bp bt z r1 H1.out.par)
    cases hx : name z r1 with
    | bad en q =>
      have HRR := Lib.hid (show proc z ts = .bad en q by rw [proc]; simp only [HXK1.out, hx])
      rw [hx] at KNm
      clear hx
      go_wp2_with fail
      refine KNm.out.mono ?_; intro e w9 he
      have HEE := Lib.hid he
      obtain ⟨b9, rfl⟩ := he.thrown
      clear he
      go_wp2_with fail
      refine ⟨rfl, ?_⟩
      rw [HRR.out]
      exact HEE.out.relay (H1.out.chg)
    | ok aK rK =>
      have HXKNm := Lib.hid hx
      rw [hx] at KNm
      clear hx
      go_wp2_with fail
      obtain ⟨n, rfl⟩ : ∃ n, n = aK := ⟨aK, rfl⟩
      obtain ⟨r2, rfl⟩ : ∃ r2, r2 = rK := ⟨rK, rfl⟩
      refine KNm.out.mono ?_; rintro _ w2 ⟨hc, _, rfl, rfl, hp⟩
      have H2 := Lib.hid (H1.out.step hc hp)
      clear hc hp
      have KS := Lib.hid (take_any [42] w2 B bp bt z r2 H2.out.par)
      go_wp2_with fail
      refine KS.out.mono ?_; rintro _ w3 ⟨rfl, hp, hc, _⟩
      have H3a := Lib.hid (H2.out.step hc hp)
      clear hc hp
      have hb3 := H3a.out.blk
      have f0 := hb3.frozen 0; have e0 := hb3.cell 0 _ rfl; have f2 := hb3.frozen 2; have e2 := hb3.cell 2 _ rfl
      obtain ⟨w3b, hw3⟩ : ∃ w3b, w3b = (w3.setCell ⟨w.heap.size + 1, 0, none⟩ (str n)).setCell ⟨w.heap.size + 1, 2, none⟩ (.bool (see [42] r2)) := ⟨_, rfl⟩
      have H3 := Lib.hid ((H3a.out.store 0 (str n)).store 2 (.bool (see [42] r2)))
      simp only [Array.setIfInBounds] at H3
      rw [← hw3] at H3
      clear hb3
      have K4 := Lib.hid (must_any [40] _ B bp bt z (skip [42] r2) H3.out.par)
      cases hx : must z [40] (skip [42] r2) with
      | bad en q =>
        have HRR := Lib.hid (show proc z ts = .bad en q by rw [proc]; simp only [HXK1.out, HXKNm.out, hx])
        rw [hx] at K4
        clear hx
        go_wp2_with fail
        rw [← hw3]
        refine K4.out.mono ?_; intro e w9 he
        have HEE := Lib.hid he
        obtain ⟨b9, rfl⟩ := he.thrown
        clear he
        go_wp2_with fail
        refine ⟨rfl, ?_⟩
        rw [HRR.out]
        exact HEE.out.relay (H3.out.chg)
      | ok aK rK =>
        have HXK4 := Lib.hid hx
        rw [hx] at K4
        clear hx
        go_wp2_with fail
        rw [← hw3]
        obtain ⟨r4, rfl⟩ : ∃ r4, r4 = rK := ⟨rK, rfl⟩
        refine K4.out.mono ?_; rintro _ w4 ⟨hc, _, rfl, rfl, hp⟩
        have H4 := Lib.hid (H3.out.step hc hp)
        clear hc hp
        obtain ⟨r3, hr3⟩ : ∃ r3, r3 = r4 := ⟨_, rfl⟩
        subst hr3
        clear f0 e0 f2 e2 hw3
        have KT1 := Lib.hid (take_any [41] w4 B bp bt z r3 H4.out.par)
        cases hk : see [41] r3 with
        | true =>
          have HI1 := Lib.hid hk
          clear hk
          go_wp2_with fail
          refine KT1.out.mono ?_; rintro _ w5 ⟨rfl, hp, hc, _⟩
          rw [HI1.out]
          rw [skip, HI1.out, if_pos rfl] at hp
          have H5 := Lib.hid ((H4.out.step hc hp).add (framed_Names [] nils) NamesAt.nil)
          clear hc hp
          obtain ⟨r4, hr4⟩ : ∃ r4, r4 = r3.tail := ⟨_, rfl⟩
          have HP5 := Lib.hid (show params z r3 = .ok [] r4 by rw [params, if_pos HI1.out, hr4])
          rw [← hr4] at H5
          clear hr4
          have hps : ([] : List (List UInt8)).length ≤ 10 := by simp
          have K15 := Lib.hid (must_any [59] _ B bp bt z r4 H5.out.par)
          cases hx : must z [59] r4 with
          | bad en q =>
            have HRR := Lib.hid (show proc z ts = .bad en q by rw [proc]; simp only [HXK1.out, HXKNm.out, HXK4.out, HP5.out, hx])
            rw [hx] at K15
            clear hx
            go_wp2_with fail
            refine K15.out.mono ?_; intro e w9 he
            have HEE := Lib.hid he
            obtain ⟨b9, rfl⟩ := he.thrown
            clear he
            go_wp2_with fail
            refine ⟨rfl, ?_⟩
            rw [HRR.out]
            exact HEE.out.relay (H5.out.chg)
          | ok aK rK =>
            have HXK15 := Lib.hid hx
            rw [hx] at K15
            clear hx
            go_wp2_with fail
            obtain ⟨r15, rfl⟩ : ∃ r15, r15 = rK := ⟨rK, rfl⟩
            refine K15.out.mono ?_; rintro _ w15 ⟨hc, _, rfl, rfl, hp⟩
            have H15 := Lib.hid (H5.out.step hc hp)
            clear hc hp
            have KT := Lib.hid (take_any [118, 97, 114] w15 B bp bt z r15 H15.out.par)
            have h3 := H15.out.blk.cell 3 _ rfl
            cases hk : see [118, 97, 114] r15 with
            | true =>
              have HIv := Lib.hid hk
              clear hk
              go_wp2_with fail
              refine KT.out.mono ?_; rintro _ w16 ⟨rfl, hp, hc, _⟩
              rw [HIv.out]
              rw [skip, HIv.out, if_pos rfl] at hp
              have H16a := Lib.hid (H15.out.step hc hp)
              clear hc hp h3
              have h3 := H16a.out.blk.cell 3 _ rfl
              have hsub := sub_wrap hps
              have KN := Lib.hid (names_any (10 - ([] : List (List UInt8)).length) (by omega) w16 B bp bt z r15.tail H16a.out.par)
              cases hx : names z (10 - ([] : List (List UInt8)).length) r15.tail with
              | bad en q =>
                have HRR := Lib.hid (show proc z ts = .bad en q by rw [proc]; simp only [HXK1.out, HXKNm.out, HXK4.out, HP5.out, HXK15.out, locals, HIv.out, if_true, hx])
                rw [hx] at KN
                clear hx
                go_wp2_with fail
                refine KN.out.mono ?_; intro e w9 he
                have HEE := Lib.hid he
                obtain ⟨b9, rfl⟩ := he.thrown
                clear he
                go_wp2_with fail
                refine ⟨rfl, ?_⟩
                rw [HRR.out]
                exact HEE.out.relay (H16a.out.chg)
              | ok aK rK =>
                have HXKN := Lib.hid hx
                rw [hx] at KN
                clear hx
                go_wp2_with fail
                obtain ⟨vs, rfl⟩ : ∃ vs, vs = aK := ⟨aK, rfl⟩
                obtain ⟨r16, rfl⟩ : ∃ r16, r16 = rK := ⟨rK, rfl⟩
                refine KN.out.mono ?_; rintro _ w17 ⟨hc, _, rfl, hv, hp⟩
                obtain ⟨a4, c4, rfl, hv'⟩ := hv
                have H17a := Lib.hid (H16a.out.call hc hp (framed_Names vs (.slice a4 vs.length c4)) ⟨_, _, rfl, hv'⟩)
                clear hc hp hv'
                have hb17 := H17a.out.blk
                have f4 := hb17.frozen 4; have e4 := hb17.cell 4 _ rfl
                obtain ⟨w17b, hw17⟩ : ∃ w17b, w17b = w17.setCell ⟨w.heap.size + 1, 4, none⟩ (.slice a4 vs.length c4) := ⟨_, rfl⟩
                have H17b := Lib.hid (H17a.out.store 4 (.slice a4 vs.length c4))
                simp only [Array.setIfInBounds] at H17b
                rw [← hw17] at H17b
                clear hb17
                have K17 := Lib.hid (must_any [59] _ B bp bt z r16 H17b.out.par)
                cases hx : must z [59] r16 with
                | bad en q =>
                  have HRR := Lib.hid (show proc z ts = .bad en q by rw [proc]; simp only [HXK1.out, HXKNm.out, HXK4.out, HP5.out, HXK15.out, locals, HIv.out, if_true, HXKN.out, hx])
                  rw [hx] at K17
                  clear hx
                  go_wp2_with fail
                  rw [← hw17]
                  refine K17.out.mono ?_; intro e w9 he
                  have HEE := Lib.hid he
                  obtain ⟨b9, rfl⟩ := he.thrown
                  clear he
                  go_wp2_with fail
                  refine ⟨rfl, ?_⟩
                  rw [HRR.out]
                  exact HEE.out.relay (H17b.out.chg)
                | ok aK rK =>
                  have HXK17 := Lib.hid hx
                  rw [hx] at K17
                  clear hx
                  go_wp2_with fail
                  rw [← hw17]
                  obtain ⟨r17, rfl⟩ : ∃ r17, r17 = rK := ⟨rK, rfl⟩
                  refine K17.out.mono ?_; rintro _ w17 ⟨hc, _, rfl, rfl, hp⟩
                  have H17 := Lib.hid (H17b.out.step hc hp)
                  clear hc hp
                  clear f4 e4 hw17
                  obtain ⟨r6, hr6⟩ : ∃ r6, r6 = r17 := ⟨_, rfl⟩
                  subst hr6
                  have K18 := Lib.hid (must_any [98, 101, 103, 105, 110] _ B bp bt z r6 H17.out.par)
                  cases hx : must z [98, 101, 103, 105, 110] r6 with
                  | bad en q =>
                    have HRR := Lib.hid (show proc z ts = .bad en q by rw [proc]; simp only [HXK1.out, HXKNm.out, HXK4.out, HP5.out, HXK15.out, locals, HIv.out, if_true, HXKN.out, HXK17.out, block, hx])
                    rw [hx] at K18
                    clear hx
                    go_wp2_with fail
                    refine K18.out.mono ?_; intro e w9 he
                    have HEE := Lib.hid he
                    obtain ⟨b9, rfl⟩ := he.thrown
                    clear he
                    go_wp2_with fail
                    refine ⟨rfl, ?_⟩
                    rw [HRR.out]
                    exact HEE.out.relay (H17.out.chg)
                  | ok aK rK =>
                    have HXK18 := Lib.hid hx
                    rw [hx] at K18
                    clear hx
                    go_wp2_with fail
                    obtain ⟨r18, rfl⟩ : ∃ r18, r18 = rK := ⟨rK, rfl⟩
                    refine K18.out.mono ?_; rintro _ w18 ⟨hc, _, rfl, rfl, hp⟩
                    have H18 := Lib.hid (H17.out.step hc hp)
                    clear hc hp
                    have KB := Lib.hid (body0_any w18 B bp bt z r18 H18.out.par)
                    cases hx : body0 z r18 with
                    | bad en q =>
                      have HRR := Lib.hid (show proc z ts = .bad en q by rw [proc]; simp only [HXK1.out, HXKNm.out, HXK4.out, HP5.out, HXK15.out, locals, HIv.out, if_true, HXKN.out, HXK17.out, block, HXK18.out, hx])
                      rw [hx] at KB
                      clear hx
                      go_wp2_with fail
                      refine KB.out.mono ?_; intro e w9 he
                      have HEE := Lib.hid he
                      obtain ⟨b9, rfl⟩ := he.thrown
                      clear he
                      go_wp2_with fail
                      refine ⟨rfl, ?_⟩
                      rw [HRR.out]
                      exact HEE.out.relay (H18.out.chg)
                    | ok aK rK =>
                      have HXKB := Lib.hid hx
                      rw [hx] at KB
                      clear hx
                      go_wp2_with fail
                      obtain ⟨b, rfl⟩ : ∃ b, b = aK := ⟨aK, rfl⟩
                      obtain ⟨r19, rfl⟩ : ∃ r19, r19 = rK := ⟨rK, rfl⟩
                      refine KB.out.mono ?_; rintro _ w19 ⟨hc, _, rfl, hv, hp⟩
                      obtain ⟨a5, c5, cs5, rfl, hv'⟩ := hv
                      have H19a := Lib.hid (H18.out.call hc hp (framed_Sl b (.slice a5 b.len c5)) ⟨_, _, _, rfl, hv'⟩)
                      clear hc hp hv'
                      have hb19 := H19a.out.blk
                      have f5 := hb19.frozen 5; have e5 := hb19.cell 5 _ rfl
                      obtain ⟨w19b, hw19⟩ : ∃ w19b, w19b = w19.setCell ⟨w.heap.size + 1, 5, none⟩ (.slice a5 b.len c5) := ⟨_, rfl⟩
                      have H19 := Lib.hid (H19a.out.store 5 (.slice a5 b.len c5))
                      simp only [Array.setIfInBounds] at H19
                      rw [← hw19] at H19
                      clear hb19
                      have K20 := Lib.hid (must_any [101, 110, 100] _ B bp bt z r19 H19.out.par)
                      cases hx : must z [101, 110, 100] r19 with
                      | bad en q =>
                        have HRR := Lib.hid (show proc z ts = .bad en q by rw [proc]; simp only [HXK1.out, HXKNm.out, HXK4.out, HP5.out, HXK15.out, locals, HIv.out, if_true, HXKN.out, HXK17.out, block, HXK18.out, HXKB.out, hx])
                        rw [hx] at K20
                        clear hx
                        go_wp2_with fail
                        rw [← hw19]
                        refine K20.out.mono ?_; intro e w9 he
                        have HEE := Lib.hid he
                        obtain ⟨b9, rfl⟩ := he.thrown
                        clear he
                        go_wp2_with fail
                        refine ⟨rfl, ?_⟩
                        rw [HRR.out]
                        exact HEE.out.relay (H19.out.chg)
                      | ok aK rK =>
                        have HXK20 := Lib.hid hx
                        rw [hx] at K20
                        clear hx
                        go_wp2_with fail
                        rw [← hw19]
                        obtain ⟨r20, rfl⟩ : ∃ r20, r20 = rK := ⟨rK, rfl⟩
                        refine K20.out.mono ?_; rintro _ w20 ⟨hc, _, rfl, rfl, hp⟩
                        have H20 := Lib.hid (H19.out.step hc hp)
                        clear hc hp
                        clear f5 e5 hw19
                        have K21 := Lib.hid (must_any [59] _ B bp bt z r20 H20.out.par)
                        cases hx : must z [59] r20 with
                        | bad en q =>
                          have HRR := Lib.hid (show proc z ts = .bad en q by rw [proc]; simp only [HXK1.out, HXKNm.out, HXK4.out, HP5.out, HXK15.out, locals, HIv.out, if_true, HXKN.out, HXK17.out, block, HXK18.out, HXKB.out, HXK20.out, hx])
                          rw [hx] at K21
                          clear hx
                          go_wp2_with fail
                          refine K21.out.mono ?_; intro e w9 he
                          have HEE := Lib.hid he
                          obtain ⟨b9, rfl⟩ := he.thrown
                          clear he
                          go_wp2_with fail
                          refine ⟨rfl, ?_⟩
                          rw [HRR.out]
                          exact HEE.out.relay (H20.out.chg)
                        | ok aK rK =>
                          have HXK21 := Lib.hid hx
                          rw [hx] at K21
                          clear hx
                          go_wp2_with fail
                          obtain ⟨r21, rfl⟩ : ∃ r21, r21 = rK := ⟨rK, rfl⟩
                          refine K21.out.mono ?_; rintro _ w21 ⟨hc, _, rfl, rfl, hp⟩
                          have H21 := Lib.hid (H20.out.step hc hp)
                          clear hc hp
                          have HRR := Lib.hid (show proc z ts = .ok ⟨n, hd z ts, see [42] r2, ([] : List (List UInt8)), vs, b⟩ r21 by rw [proc]; simp only [HXK1.out, HXKNm.out, HXK4.out, HP5.out, HXK15.out, locals, HIv.out, if_true, HXKN.out, HXK17.out, block, HXK18.out, HXKB.out, HXK20.out, HXK21.out])
                          have HD := Lib.hid (H21.out)
                          have hbE := H21.out.blk; have hrE := H21.out.res
                          have d0 := hbE.cell 0 _ rfl; have d1 := hbE.cell 1 _ rfl; have d2 := hbE.cell 2 _ rfl; have d3 := hbE.cell 3 _ rfl; have d4 := hbE.cell 4 _ rfl; have d5 := hbE.cell 5 _ rfl
                          have e0 := hrE.cell 0 _ rfl; have e1 := hrE.cell 1 _ rfl; have e2 := hrE.cell 2 _ rfl; have e3 := hrE.cell 3 _ rfl; have e4 := hrE.cell 4 _ rfl; have e5 := hrE.cell 5 _ rfl
                          have f0 := hrE.frozen 0; have f1 := hrE.frozen 1; have f2 := hrE.frozen 2; have f3 := hrE.frozen 3; have f4 := hrE.frozen 4; have f5 := hrE.frozen 5
                          clear hbE hrE
                          go_wp2_with fail
                          obtain ⟨wF, hwF, hcF, hbF⟩ := set6 (str n) (.int .i64 (hd z ts)) (.bool (see [42] r2)) (nils) ((.slice a4 vs.length c4)) ((.slice a5 b.len c5)) HD.out.res
                          rw [hwF]
                          clear hwF
                          have g0 := hbF.cell 0 (str n) rfl; have g1 := hbF.cell 1 (.int .i64 (hd z ts)) rfl; have g2 := hbF.cell 2 (.bool (see [42] r2)) rfl; have g3 := hbF.cell 3 (nils) rfl; have g4 := hbF.cell 4 ((.slice a4 vs.length c4)) rfl; have g5 := hbF.cell 5 ((.slice a5 b.len c5)) rfl
                          refine bodyPost_ret (v := .agg #[str n, .int .i64 (hd z ts), .bool (see [42] r2), nils, (.slice a4 vs.length c4), (.slice a5 b.len c5)]) (by simp [results, Tryz.results68, go_sem, g0, g1, g2, g3, g4, g5]) rfl ?_
                          rw [HRR.out]
                          have hq := HD.out.fin hcF
                          exact ⟨HD.out.chg.trans hcF (fun x hx => .inr (by simp at hx; omega)), _, rfl, ⟨_, rfl, _, _, _, rfl, hq.1.1.2, hq.1.2, hq.2⟩, HD.out.par.kept hcF (fun x hx => by simp at hx; omega) (by simp; omega) (by simp; omega)⟩
            | false =>
              have HIv := Lib.hid hk
              clear hk
              go_wp2_with fail
              refine KT.out.mono ?_; rintro _ w16 ⟨rfl, _, _, hw⟩
              rw [HIv.out]
              have hw' := (hw HIv.out).symm; subst hw'; clear hw h3
              obtain ⟨r6, hr6⟩ : ∃ r6, r6 = r15 := ⟨_, rfl⟩
              subst hr6
              have H16 := Lib.hid (H15.out.add (framed_Names [] nils) NamesAt.nil)
              have K18 := Lib.hid (must_any [98, 101, 103, 105, 110] _ B bp bt z r6 H16.out.par)
              cases hx : must z [98, 101, 103, 105, 110] r6 with
              | bad en q =>
                have HRR := Lib.hid (show proc z ts = .bad en q by rw [proc]; simp only [HXK1.out, HXKNm.out, HXK4.out, HP5.out, HXK15.out, locals, HIv.out, Bool.false_eq_true, if_false, block, hx])
                rw [hx] at K18
                clear hx
                go_wp2_with fail
                refine K18.out.mono ?_; intro e w9 he
                have HEE := Lib.hid he
                obtain ⟨b9, rfl⟩ := he.thrown
                clear he
                go_wp2_with fail
                refine ⟨rfl, ?_⟩
                rw [HRR.out]
                exact HEE.out.relay (H16.out.chg)
              | ok aK rK =>
                have HXK18 := Lib.hid hx
                rw [hx] at K18
                clear hx
                go_wp2_with fail
                obtain ⟨r18, rfl⟩ : ∃ r18, r18 = rK := ⟨rK, rfl⟩
                refine K18.out.mono ?_; rintro _ w18 ⟨hc, _, rfl, rfl, hp⟩
                have H18 := Lib.hid (H16.out.step hc hp)
                clear hc hp
                have KB := Lib.hid (body0_any w18 B bp bt z r18 H18.out.par)
                cases hx : body0 z r18 with
                | bad en q =>
                  have HRR := Lib.hid (show proc z ts = .bad en q by rw [proc]; simp only [HXK1.out, HXKNm.out, HXK4.out, HP5.out, HXK15.out, locals, HIv.out, Bool.false_eq_true, if_false, block, HXK18.out, hx])
                  rw [hx] at KB
                  clear hx
                  go_wp2_with fail
                  refine KB.out.mono ?_; intro e w9 he
                  have HEE := Lib.hid he
                  obtain ⟨b9, rfl⟩ := he.thrown
                  clear he
                  go_wp2_with fail
                  refine ⟨rfl, ?_⟩
                  rw [HRR.out]
                  exact HEE.out.relay (H18.out.chg)
                | ok aK rK =>
                  have HXKB := Lib.hid hx
                  rw [hx] at KB
                  clear hx
                  go_wp2_with fail
                  obtain ⟨b, rfl⟩ : ∃ b, b = aK := ⟨aK, rfl⟩
                  obtain ⟨r19, rfl⟩ : ∃ r19, r19 = rK := ⟨rK, rfl⟩
                  refine KB.out.mono ?_; rintro _ w19 ⟨hc, _, rfl, hv, hp⟩
                  obtain ⟨a5, c5, cs5, rfl, hv'⟩ := hv
                  have H19a := Lib.hid (H18.out.call hc hp (framed_Sl b (.slice a5 b.len c5)) ⟨_, _, _, rfl, hv'⟩)
                  clear hc hp hv'
                  have hb19 := H19a.out.blk
                  have f5 := hb19.frozen 5; have e5 := hb19.cell 5 _ rfl
                  obtain ⟨w19b, hw19⟩ : ∃ w19b, w19b = w19.setCell ⟨w.heap.size + 1, 5, none⟩ (.slice a5 b.len c5) := ⟨_, rfl⟩
                  have H19 := Lib.hid (H19a.out.store 5 (.slice a5 b.len c5))
                  simp only [Array.setIfInBounds] at H19
                  rw [← hw19] at H19
                  clear hb19
                  have K20 := Lib.hid (must_any [101, 110, 100] _ B bp bt z r19 H19.out.par)
                  cases hx : must z [101, 110, 100] r19 with
                  | bad en q =>
                    have HRR := Lib.hid (show proc z ts = .bad en q by rw [proc]; simp only [HXK1.out, HXKNm.out, HXK4.out, HP5.out, HXK15.out, locals, HIv.out, Bool.false_eq_true, if_false, block, HXK18.out, HXKB.out, hx])
                    rw [hx] at K20
                    clear hx
                    go_wp2_with fail
                    rw [← hw19]
                    refine K20.out.mono ?_; intro e w9 he
                    have HEE := Lib.hid he
                    obtain ⟨b9, rfl⟩ := he.thrown
                    clear he
                    go_wp2_with fail
                    refine ⟨rfl, ?_⟩
                    rw [HRR.out]
                    exact HEE.out.relay (H19.out.chg)
                  | ok aK rK =>
                    have HXK20 := Lib.hid hx
                    rw [hx] at K20
                    clear hx
                    go_wp2_with fail
                    rw [← hw19]
                    obtain ⟨r20, rfl⟩ : ∃ r20, r20 = rK := ⟨rK, rfl⟩
                    refine K20.out.mono ?_; rintro _ w20 ⟨hc, _, rfl, rfl, hp⟩
                    have H20 := Lib.hid (H19.out.step hc hp)
                    clear hc hp
                    clear f5 e5 hw19
                    have K21 := Lib.hid (must_any [59] _ B bp bt z r20 H20.out.par)
                    cases hx : must z [59] r20 with
                    | bad en q =>
                      have HRR := Lib.hid (show proc z ts = .bad en q by rw [proc]; simp only [HXK1.out, HXKNm.out, HXK4.out, HP5.out, HXK15.out, locals, HIv.out, Bool.false_eq_true, if_false, block, HXK18.out, HXKB.out, HXK20.out, hx])
                      rw [hx] at K21
                      clear hx
                      go_wp2_with fail
                      refine K21.out.mono ?_; intro e w9 he
                      have HEE := Lib.hid he
                      obtain ⟨b9, rfl⟩ := he.thrown
                      clear he
                      go_wp2_with fail
                      refine ⟨rfl, ?_⟩
                      rw [HRR.out]
                      exact HEE.out.relay (H20.out.chg)
                    | ok aK rK =>
                      have HXK21 := Lib.hid hx
                      rw [hx] at K21
                      clear hx
                      go_wp2_with fail
                      obtain ⟨r21, rfl⟩ : ∃ r21, r21 = rK := ⟨rK, rfl⟩
                      refine K21.out.mono ?_; rintro _ w21 ⟨hc, _, rfl, rfl, hp⟩
                      have H21 := Lib.hid (H20.out.step hc hp)
                      clear hc hp
                      have HRR := Lib.hid (show proc z ts = .ok ⟨n, hd z ts, see [42] r2, ([] : List (List UInt8)), ([] : List (List UInt8)), b⟩ r21 by rw [proc]; simp only [HXK1.out, HXKNm.out, HXK4.out, HP5.out, HXK15.out, locals, HIv.out, Bool.false_eq_true, if_false, block, HXK18.out, HXKB.out, HXK20.out, HXK21.out])
                      have HD := Lib.hid (H21.out)
                      have hbE := H21.out.blk; have hrE := H21.out.res
                      have d0 := hbE.cell 0 _ rfl; have d1 := hbE.cell 1 _ rfl; have d2 := hbE.cell 2 _ rfl; have d3 := hbE.cell 3 _ rfl; have d4 := hbE.cell 4 _ rfl; have d5 := hbE.cell 5 _ rfl
                      have e0 := hrE.cell 0 _ rfl; have e1 := hrE.cell 1 _ rfl; have e2 := hrE.cell 2 _ rfl; have e3 := hrE.cell 3 _ rfl; have e4 := hrE.cell 4 _ rfl; have e5 := hrE.cell 5 _ rfl
                      have f0 := hrE.frozen 0; have f1 := hrE.frozen 1; have f2 := hrE.frozen 2; have f3 := hrE.frozen 3; have f4 := hrE.frozen 4; have f5 := hrE.frozen 5
                      clear hbE hrE
                      go_wp2_with fail
                      obtain ⟨wF, hwF, hcF, hbF⟩ := set6 (str n) (.int .i64 (hd z ts)) (.bool (see [42] r2)) (nils) (nils) ((.slice a5 b.len c5)) HD.out.res
                      rw [hwF]
                      clear hwF
                      have g0 := hbF.cell 0 (str n) rfl; have g1 := hbF.cell 1 (.int .i64 (hd z ts)) rfl; have g2 := hbF.cell 2 (.bool (see [42] r2)) rfl; have g3 := hbF.cell 3 (nils) rfl; have g4 := hbF.cell 4 (nils) rfl; have g5 := hbF.cell 5 ((.slice a5 b.len c5)) rfl
                      refine bodyPost_ret (v := .agg #[str n, .int .i64 (hd z ts), .bool (see [42] r2), nils, nils, (.slice a5 b.len c5)]) (by simp [results, Tryz.results68, go_sem, g0, g1, g2, g3, g4, g5]) rfl ?_
                      rw [HRR.out]
                      have hq := HD.out.fin hcF
                      exact ⟨HD.out.chg.trans hcF (fun x hx => .inr (by simp at hx; omega)), _, rfl, ⟨_, rfl, _, _, _, rfl, hq.1.1.2, hq.1.2, hq.2⟩, HD.out.par.kept hcF (fun x hx => by simp at hx; omega) (by simp; omega) (by simp; omega)⟩
        | false =>
          have HI1 := Lib.hid hk
          clear hk
          go_wp2_with fail
          refine KT1.out.mono ?_; rintro _ w5 ⟨rfl, _, _, hw⟩
          rw [HI1.out]
          have hw' := (hw HI1.out).symm; subst hw'; clear hw
          have KP := Lib.hid (names_any 10 (by omega) w4 B bp bt z r3 H4.out.par)
          cases hx : names z 10 r3 with
          | bad en q =>
            have HRR := Lib.hid (show proc z ts = .bad en q by rw [proc]; simp only [HXK1.out, HXKNm.out, HXK4.out, params, HI1.out, Bool.false_eq_true, if_false, hx])
            rw [hx] at KP
            clear hx
            go_wp2_with fail
            refine KP.out.mono ?_; intro e w9 he
            have HEE := Lib.hid he
            obtain ⟨b9, rfl⟩ := he.thrown
            clear he
            go_wp2_with fail
            refine ⟨rfl, ?_⟩
            rw [HRR.out]
            exact HEE.out.relay (H4.out.chg)
          | ok aK rK =>
            have HXKP := Lib.hid hx
            rw [hx] at KP
            clear hx
            go_wp2_with fail
            obtain ⟨ps, rfl⟩ : ∃ ps, ps = aK := ⟨aK, rfl⟩
            obtain ⟨r5, rfl⟩ : ∃ r5, r5 = rK := ⟨rK, rfl⟩
            have hps : ps.length ≤ 10 := names_most HXKP.out
            refine KP.out.mono ?_; rintro _ w6 ⟨hc, _, rfl, hv, hp⟩
            obtain ⟨a3, c3, rfl, hac3, hv'⟩ := hv
            have H6a := Lib.hid (H4.out.call hc hp (framed_Names ps (.slice a3 ps.length c3)) ⟨_, _, rfl, hac3, hv'⟩)
            clear hc hp hv'
            have hb6 := H6a.out.blk
            have f3 := hb6.frozen 3; have e3 := hb6.cell 3 _ rfl
            obtain ⟨w6b, hw6⟩ : ∃ w6b, w6b = w6.setCell ⟨w.heap.size + 1, 3, none⟩ (.slice a3 ps.length c3) := ⟨_, rfl⟩
            have H6 := Lib.hid (H6a.out.store 3 (.slice a3 ps.length c3))
            simp only [Array.setIfInBounds] at H6
            rw [← hw6] at H6
            clear hb6
            have K7 := Lib.hid (must_any [41] _ B bp bt z r5 H6.out.par)
            cases hx : must z [41] r5 with
            | bad en q =>
              have HRR := Lib.hid (show proc z ts = .bad en q by rw [proc]; simp only [HXK1.out, HXKNm.out, HXK4.out, params, HI1.out, Bool.false_eq_true, if_false, HXKP.out, hx])
              rw [hx] at K7
              clear hx
              go_wp2_with fail
              rw [← hw6]
              refine K7.out.mono ?_; intro e w9 he
              have HEE := Lib.hid he
              obtain ⟨b9, rfl⟩ := he.thrown
              clear he
              go_wp2_with fail
              refine ⟨rfl, ?_⟩
              rw [HRR.out]
              exact HEE.out.relay (H6.out.chg)
            | ok aK rK =>
              have HXK7 := Lib.hid hx
              rw [hx] at K7
              clear hx
              go_wp2_with fail
              rw [← hw6]
              obtain ⟨r7, rfl⟩ : ∃ r7, r7 = rK := ⟨rK, rfl⟩
              refine K7.out.mono ?_; rintro _ w7 ⟨hc, _, rfl, rfl, hp⟩
              have H7 := Lib.hid (H6.out.step hc hp)
              clear hc hp
              clear f3 e3 hw6
              obtain ⟨r4, hr4⟩ : ∃ r4, r4 = r7 := ⟨_, rfl⟩
              subst hr4
              have HP5 := Lib.hid (show params z r3 = .ok ps r4 by simp only [params, HI1.out, Bool.false_eq_true, if_false, HXKP.out, HXK7.out])
              have K15 := Lib.hid (must_any [59] _ B bp bt z r4 H7.out.par)
              cases hx : must z [59] r4 with
              | bad en q =>
                have HRR := Lib.hid (show proc z ts = .bad en q by rw [proc]; simp only [HXK1.out, HXKNm.out, HXK4.out, HP5.out, hx])
                rw [hx] at K15
                clear hx
                go_wp2_with fail
                refine K15.out.mono ?_; intro e w9 he
                have HEE := Lib.hid he
                obtain ⟨b9, rfl⟩ := he.thrown
                clear he
                go_wp2_with fail
                refine ⟨rfl, ?_⟩
                rw [HRR.out]
                exact HEE.out.relay (H7.out.chg)
              | ok aK rK =>
                have HXK15 := Lib.hid hx
                rw [hx] at K15
                clear hx
                go_wp2_with fail
                obtain ⟨r15, rfl⟩ : ∃ r15, r15 = rK := ⟨rK, rfl⟩
                refine K15.out.mono ?_; rintro _ w15 ⟨hc, _, rfl, rfl, hp⟩
                have H15 := Lib.hid (H7.out.step hc hp)
                clear hc hp
                have KT := Lib.hid (take_any [118, 97, 114] w15 B bp bt z r15 H15.out.par)
                have h3 := H15.out.blk.cell 3 _ rfl
                cases hk : see [118, 97, 114] r15 with
                | true =>
                  have HIv := Lib.hid hk
                  clear hk
                  go_wp2_with fail
                  refine KT.out.mono ?_; rintro _ w16 ⟨rfl, hp, hc, _⟩
                  rw [HIv.out]
                  rw [skip, HIv.out, if_pos rfl] at hp
                  have H16a := Lib.hid (H15.out.step hc hp)
                  clear hc hp h3
                  have h3 := H16a.out.blk.cell 3 _ rfl
                  have hsub := sub_wrap hps
                  have KN := Lib.hid (names_any (10 - ps.length) (by omega) w16 B bp bt z r15.tail H16a.out.par)
                  cases hx : names z (10 - ps.length) r15.tail with
                  | bad en q =>
                    have HRR := Lib.hid (show proc z ts = .bad en q by rw [proc]; simp only [HXK1.out, HXKNm.out, HXK4.out, HP5.out, HXK15.out, locals, HIv.out, if_true, hx])
                    rw [hx] at KN
                    clear hx
                    go_wp2_with fail
                    refine KN.out.mono ?_; intro e w9 he
                    have HEE := Lib.hid he
                    obtain ⟨b9, rfl⟩ := he.thrown
                    clear he
                    go_wp2_with fail
                    refine ⟨rfl, ?_⟩
                    rw [HRR.out]
                    exact HEE.out.relay (H16a.out.chg)
                  | ok aK rK =>
                    have HXKN := Lib.hid hx
                    rw [hx] at KN
                    clear hx
                    go_wp2_with fail
                    obtain ⟨vs, rfl⟩ : ∃ vs, vs = aK := ⟨aK, rfl⟩
                    obtain ⟨r16, rfl⟩ : ∃ r16, r16 = rK := ⟨rK, rfl⟩
                    refine KN.out.mono ?_; rintro _ w17 ⟨hc, _, rfl, hv, hp⟩
                    obtain ⟨a4, c4, rfl, hv'⟩ := hv
                    have H17a := Lib.hid (H16a.out.call hc hp (framed_Names vs (.slice a4 vs.length c4)) ⟨_, _, rfl, hv'⟩)
                    clear hc hp hv'
                    have hb17 := H17a.out.blk
                    have f4 := hb17.frozen 4; have e4 := hb17.cell 4 _ rfl
                    obtain ⟨w17b, hw17⟩ : ∃ w17b, w17b = w17.setCell ⟨w.heap.size + 1, 4, none⟩ (.slice a4 vs.length c4) := ⟨_, rfl⟩
                    have H17b := Lib.hid (H17a.out.store 4 (.slice a4 vs.length c4))
                    simp only [Array.setIfInBounds] at H17b
                    rw [← hw17] at H17b
                    clear hb17
                    have K17 := Lib.hid (must_any [59] _ B bp bt z r16 H17b.out.par)
                    cases hx : must z [59] r16 with
                    | bad en q =>
                      have HRR := Lib.hid (show proc z ts = .bad en q by rw [proc]; simp only [HXK1.out, HXKNm.out, HXK4.out, HP5.out, HXK15.out, locals, HIv.out, if_true, HXKN.out, hx])
                      rw [hx] at K17
                      clear hx
                      go_wp2_with fail
                      rw [← hw17]
                      refine K17.out.mono ?_; intro e w9 he
                      have HEE := Lib.hid he
                      obtain ⟨b9, rfl⟩ := he.thrown
                      clear he
                      go_wp2_with fail
                      refine ⟨rfl, ?_⟩
                      rw [HRR.out]
                      exact HEE.out.relay (H17b.out.chg)
                    | ok aK rK =>
                      have HXK17 := Lib.hid hx
                      rw [hx] at K17
                      clear hx
                      go_wp2_with fail
                      rw [← hw17]
                      obtain ⟨r17, rfl⟩ : ∃ r17, r17 = rK := ⟨rK, rfl⟩
                      refine K17.out.mono ?_; rintro _ w17 ⟨hc, _, rfl, rfl, hp⟩
                      have H17 := Lib.hid (H17b.out.step hc hp)
                      clear hc hp
                      clear f4 e4 hw17
                      obtain ⟨r6, hr6⟩ : ∃ r6, r6 = r17 := ⟨_, rfl⟩
                      subst hr6
                      have K18 := Lib.hid (must_any [98, 101, 103, 105, 110] _ B bp bt z r6 H17.out.par)
                      cases hx : must z [98, 101, 103, 105, 110] r6 with
                      | bad en q =>
                        have HRR := Lib.hid (show proc z ts = .bad en q by rw [proc]; simp only [HXK1.out, HXKNm.out, HXK4.out, HP5.out, HXK15.out, locals, HIv.out, if_true, HXKN.out, HXK17.out, block, hx])
                        rw [hx] at K18
                        clear hx
                        go_wp2_with fail
                        refine K18.out.mono ?_; intro e w9 he
                        have HEE := Lib.hid he
                        obtain ⟨b9, rfl⟩ := he.thrown
                        clear he
                        go_wp2_with fail
                        refine ⟨rfl, ?_⟩
                        rw [HRR.out]
                        exact HEE.out.relay (H17.out.chg)
                      | ok aK rK =>
                        have HXK18 := Lib.hid hx
                        rw [hx] at K18
                        clear hx
                        go_wp2_with fail
                        obtain ⟨r18, rfl⟩ : ∃ r18, r18 = rK := ⟨rK, rfl⟩
                        refine K18.out.mono ?_; rintro _ w18 ⟨hc, _, rfl, rfl, hp⟩
                        have H18 := Lib.hid (H17.out.step hc hp)
                        clear hc hp
                        have KB := Lib.hid (body0_any w18 B bp bt z r18 H18.out.par)
                        cases hx : body0 z r18 with
                        | bad en q =>
                          have HRR := Lib.hid (show proc z ts = .bad en q by rw [proc]; simp only [HXK1.out, HXKNm.out, HXK4.out, HP5.out, HXK15.out, locals, HIv.out, if_true, HXKN.out, HXK17.out, block, HXK18.out, hx])
                          rw [hx] at KB
                          clear hx
                          go_wp2_with fail
                          refine KB.out.mono ?_; intro e w9 he
                          have HEE := Lib.hid he
                          obtain ⟨b9, rfl⟩ := he.thrown
                          clear he
                          go_wp2_with fail
                          refine ⟨rfl, ?_⟩
                          rw [HRR.out]
                          exact HEE.out.relay (H18.out.chg)
                        | ok aK rK =>
                          have HXKB := Lib.hid hx
                          rw [hx] at KB
                          clear hx
                          go_wp2_with fail
                          obtain ⟨b, rfl⟩ : ∃ b, b = aK := ⟨aK, rfl⟩
                          obtain ⟨r19, rfl⟩ : ∃ r19, r19 = rK := ⟨rK, rfl⟩
                          refine KB.out.mono ?_; rintro _ w19 ⟨hc, _, rfl, hv, hp⟩
                          obtain ⟨a5, c5, cs5, rfl, hv'⟩ := hv
                          have H19a := Lib.hid (H18.out.call hc hp (framed_Sl b (.slice a5 b.len c5)) ⟨_, _, _, rfl, hv'⟩)
                          clear hc hp hv'
                          have hb19 := H19a.out.blk
                          have f5 := hb19.frozen 5; have e5 := hb19.cell 5 _ rfl
                          obtain ⟨w19b, hw19⟩ : ∃ w19b, w19b = w19.setCell ⟨w.heap.size + 1, 5, none⟩ (.slice a5 b.len c5) := ⟨_, rfl⟩
                          have H19 := Lib.hid (H19a.out.store 5 (.slice a5 b.len c5))
                          simp only [Array.setIfInBounds] at H19
                          rw [← hw19] at H19
                          clear hb19
                          have K20 := Lib.hid (must_any [101, 110, 100] _ B bp bt z r19 H19.out.par)
                          cases hx : must z [101, 110, 100] r19 with
                          | bad en q =>
                            have HRR := Lib.hid (show proc z ts = .bad en q by rw [proc]; simp only [HXK1.out, HXKNm.out, HXK4.out, HP5.out, HXK15.out, locals, HIv.out, if_true, HXKN.out, HXK17.out, block, HXK18.out, HXKB.out, hx])
                            rw [hx] at K20
                            clear hx
                            go_wp2_with fail
                            rw [← hw19]
                            refine K20.out.mono ?_; intro e w9 he
                            have HEE := Lib.hid he
                            obtain ⟨b9, rfl⟩ := he.thrown
                            clear he
                            go_wp2_with fail
                            refine ⟨rfl, ?_⟩
                            rw [HRR.out]
                            exact HEE.out.relay (H19.out.chg)
                          | ok aK rK =>
                            have HXK20 := Lib.hid hx
                            rw [hx] at K20
                            clear hx
                            go_wp2_with fail
                            rw [← hw19]
                            obtain ⟨r20, rfl⟩ : ∃ r20, r20 = rK := ⟨rK, rfl⟩
                            refine K20.out.mono ?_; rintro _ w20 ⟨hc, _, rfl, rfl, hp⟩
                            have H20 := Lib.hid (H19.out.step hc hp)
                            clear hc hp
                            clear f5 e5 hw19
                            have K21 := Lib.hid (must_any [59] _ B bp bt z r20 H20.out.par)
                            cases hx : must z [59] r20 with
                            | bad en q =>
                              have HRR := Lib.hid (show proc z ts = .bad en q by rw [proc]; simp only [HXK1.out, HXKNm.out, HXK4.out, HP5.out, HXK15.out, locals, HIv.out, if_true, HXKN.out, HXK17.out, block, HXK18.out, HXKB.out, HXK20.out, hx])
                              rw [hx] at K21
                              clear hx
                              go_wp2_with fail
                              refine K21.out.mono ?_; intro e w9 he
                              have HEE := Lib.hid he
                              obtain ⟨b9, rfl⟩ := he.thrown
                              clear he
                              go_wp2_with fail
                              refine ⟨rfl, ?_⟩
                              rw [HRR.out]
                              exact HEE.out.relay (H20.out.chg)
                            | ok aK rK =>
                              have HXK21 := Lib.hid hx
                              rw [hx] at K21
                              clear hx
                              go_wp2_with fail
                              obtain ⟨r21, rfl⟩ : ∃ r21, r21 = rK := ⟨rK, rfl⟩
                              refine K21.out.mono ?_; rintro _ w21 ⟨hc, _, rfl, rfl, hp⟩
                              have H21 := Lib.hid (H20.out.step hc hp)
                              clear hc hp
                              have HRR := Lib.hid (show proc z ts = .ok ⟨n, hd z ts, see [42] r2, ps, vs, b⟩ r21 by rw [proc]; simp only [HXK1.out, HXKNm.out, HXK4.out, HP5.out, HXK15.out, locals, HIv.out, if_true, HXKN.out, HXK17.out, block, HXK18.out, HXKB.out, HXK20.out, HXK21.out])
                              have HD := Lib.hid (H21.out)
                              have hbE := H21.out.blk; have hrE := H21.out.res
                              have d0 := hbE.cell 0 _ rfl; have d1 := hbE.cell 1 _ rfl; have d2 := hbE.cell 2 _ rfl; have d3 := hbE.cell 3 _ rfl; have d4 := hbE.cell 4 _ rfl; have d5 := hbE.cell 5 _ rfl
                              have e0 := hrE.cell 0 _ rfl; have e1 := hrE.cell 1 _ rfl; have e2 := hrE.cell 2 _ rfl; have e3 := hrE.cell 3 _ rfl; have e4 := hrE.cell 4 _ rfl; have e5 := hrE.cell 5 _ rfl
                              have f0 := hrE.frozen 0; have f1 := hrE.frozen 1; have f2 := hrE.frozen 2; have f3 := hrE.frozen 3; have f4 := hrE.frozen 4; have f5 := hrE.frozen 5
                              clear hbE hrE
                              go_wp2_with fail
                              obtain ⟨wF, hwF, hcF, hbF⟩ := set6 (str n) (.int .i64 (hd z ts)) (.bool (see [42] r2)) ((.slice a3 ps.length c3)) ((.slice a4 vs.length c4)) ((.slice a5 b.len c5)) HD.out.res
                              rw [hwF]
                              clear hwF
                              have g0 := hbF.cell 0 (str n) rfl; have g1 := hbF.cell 1 (.int .i64 (hd z ts)) rfl; have g2 := hbF.cell 2 (.bool (see [42] r2)) rfl; have g3 := hbF.cell 3 ((.slice a3 ps.length c3)) rfl; have g4 := hbF.cell 4 ((.slice a4 vs.length c4)) rfl; have g5 := hbF.cell 5 ((.slice a5 b.len c5)) rfl
                              refine bodyPost_ret (v := .agg #[str n, .int .i64 (hd z ts), .bool (see [42] r2), (.slice a3 ps.length c3), (.slice a4 vs.length c4), (.slice a5 b.len c5)]) (by simp [results, Tryz.results68, go_sem, g0, g1, g2, g3, g4, g5]) rfl ?_
                              rw [HRR.out]
                              have hq := HD.out.fin hcF
                              exact ⟨HD.out.chg.trans hcF (fun x hx => .inr (by simp at hx; omega)), _, rfl, ⟨_, rfl, _, _, _, rfl, hq.1.1.2, hq.1.2, hq.2⟩, HD.out.par.kept hcF (fun x hx => by simp at hx; omega) (by simp; omega) (by simp; omega)⟩
                | false =>
                  have HIv := Lib.hid hk
                  clear hk
                  go_wp2_with fail
                  refine KT.out.mono ?_; rintro _ w16 ⟨rfl, _, _, hw⟩
                  rw [HIv.out]
                  have hw' := (hw HIv.out).symm; subst hw'; clear hw h3
                  obtain ⟨r6, hr6⟩ : ∃ r6, r6 = r15 := ⟨_, rfl⟩
                  subst hr6
                  have H16 := Lib.hid (H15.out.add (framed_Names [] nils) NamesAt.nil)
                  have K18 := Lib.hid (must_any [98, 101, 103, 105, 110] _ B bp bt z r6 H16.out.par)
                  cases hx : must z [98, 101, 103, 105, 110] r6 with
                  | bad en q =>
                    have HRR := Lib.hid (show proc z ts = .bad en q by rw [proc]; simp only [HXK1.out, HXKNm.out, HXK4.out, HP5.out, HXK15.out, locals, HIv.out, Bool.false_eq_true, if_false, block, hx])
                    rw [hx] at K18
                    clear hx
                    go_wp2_with fail
                    refine K18.out.mono ?_; intro e w9 he
                    have HEE := Lib.hid he
                    obtain ⟨b9, rfl⟩ := he.thrown
                    clear he
                    go_wp2_with fail
                    refine ⟨rfl, ?_⟩
                    rw [HRR.out]
                    exact HEE.out.relay (H16.out.chg)
                  | ok aK rK =>
                    have HXK18 := Lib.hid hx
                    rw [hx] at K18
                    clear hx
                    go_wp2_with fail
                    obtain ⟨r18, rfl⟩ : ∃ r18, r18 = rK := ⟨rK, rfl⟩
                    refine K18.out.mono ?_; rintro _ w18 ⟨hc, _, rfl, rfl, hp⟩
                    have H18 := Lib.hid (H16.out.step hc hp)
                    clear hc hp
                    have KB := Lib.hid (body0_any w18 B bp bt z r18 H18.out.par)
                    cases hx : body0 z r18 with
                    | bad en q =>
                      have HRR := Lib.hid (show proc z ts = .bad en q by rw [proc]; simp only [HXK1.out, HXKNm.out, HXK4.out, HP5.out, HXK15.out, locals, HIv.out, Bool.false_eq_true, if_false, block, HXK18.out, hx])
                      rw [hx] at KB
                      clear hx
                      go_wp2_with fail
                      refine KB.out.mono ?_; intro e w9 he
                      have HEE := Lib.hid he
                      obtain ⟨b9, rfl⟩ := he.thrown
                      clear he
                      go_wp2_with fail
                      refine ⟨rfl, ?_⟩
                      rw [HRR.out]
                      exact HEE.out.relay (H18.out.chg)
                    | ok aK rK =>
                      have HXKB := Lib.hid hx
                      rw [hx] at KB
                      clear hx
                      go_wp2_with fail
                      obtain ⟨b, rfl⟩ : ∃ b, b = aK := ⟨aK, rfl⟩
                      obtain ⟨r19, rfl⟩ : ∃ r19, r19 = rK := ⟨rK, rfl⟩
                      refine KB.out.mono ?_; rintro _ w19 ⟨hc, _, rfl, hv, hp⟩
                      obtain ⟨a5, c5, cs5, rfl, hv'⟩ := hv
                      have H19a := Lib.hid (H18.out.call hc hp (framed_Sl b (.slice a5 b.len c5)) ⟨_, _, _, rfl, hv'⟩)
                      clear hc hp hv'
                      have hb19 := H19a.out.blk
                      have f5 := hb19.frozen 5; have e5 := hb19.cell 5 _ rfl
                      obtain ⟨w19b, hw19⟩ : ∃ w19b, w19b = w19.setCell ⟨w.heap.size + 1, 5, none⟩ (.slice a5 b.len c5) := ⟨_, rfl⟩
                      have H19 := Lib.hid (H19a.out.store 5 (.slice a5 b.len c5))
                      simp only [Array.setIfInBounds] at H19
                      rw [← hw19] at H19
                      clear hb19
                      have K20 := Lib.hid (must_any [101, 110, 100] _ B bp bt z r19 H19.out.par)
                      cases hx : must z [101, 110, 100] r19 with
                      | bad en q =>
                        have HRR := Lib.hid (show proc z ts = .bad en q by rw [proc]; simp only [HXK1.out, HXKNm.out, HXK4.out, HP5.out, HXK15.out, locals, HIv.out, Bool.false_eq_true, if_false, block, HXK18.out, HXKB.out, hx])
                        rw [hx] at K20
                        clear hx
                        go_wp2_with fail
                        rw [← hw19]
                        refine K20.out.mono ?_; intro e w9 he
                        have HEE := Lib.hid he
                        obtain ⟨b9, rfl⟩ := he.thrown
                        clear he
                        go_wp2_with fail
                        refine ⟨rfl, ?_⟩
                        rw [HRR.out]
                        exact HEE.out.relay (H19.out.chg)
                      | ok aK rK =>
                        have HXK20 := Lib.hid hx
                        rw [hx] at K20
                        clear hx
                        go_wp2_with fail
                        rw [← hw19]
                        obtain ⟨r20, rfl⟩ : ∃ r20, r20 = rK := ⟨rK, rfl⟩
                        refine K20.out.mono ?_; rintro _ w20 ⟨hc, _, rfl, rfl, hp⟩
                        have H20 := Lib.hid (H19.out.step hc hp)
                        clear hc hp
                        clear f5 e5 hw19
                        have K21 := Lib.hid (must_any [59] _ B bp bt z r20 H20.out.par)
                        cases hx : must z [59] r20 with
                        | bad en q =>
                          have HRR := Lib.hid (show proc z ts = .bad en q by rw [proc]; simp only [HXK1.out, HXKNm.out, HXK4.out, HP5.out, HXK15.out, locals, HIv.out, Bool.false_eq_true, if_false, block, HXK18.out, HXKB.out, HXK20.out, hx])
                          rw [hx] at K21
                          clear hx
                          go_wp2_with fail
                          refine K21.out.mono ?_; intro e w9 he
                          have HEE := Lib.hid he
                          obtain ⟨b9, rfl⟩ := he.thrown
                          clear he
                          go_wp2_with fail
                          refine ⟨rfl, ?_⟩
                          rw [HRR.out]
                          exact HEE.out.relay (H20.out.chg)
                        | ok aK rK =>
                          have HXK21 := Lib.hid hx
                          rw [hx] at K21
                          clear hx
                          go_wp2_with fail
                          obtain ⟨r21, rfl⟩ : ∃ r21, r21 = rK := ⟨rK, rfl⟩
                          refine K21.out.mono ?_; rintro _ w21 ⟨hc, _, rfl, rfl, hp⟩
                          have H21 := Lib.hid (H20.out.step hc hp)
                          clear hc hp
                          have HRR := Lib.hid (show proc z ts = .ok ⟨n, hd z ts, see [42] r2, ps, ([] : List (List UInt8)), b⟩ r21 by rw [proc]; simp only [HXK1.out, HXKNm.out, HXK4.out, HP5.out, HXK15.out, locals, HIv.out, Bool.false_eq_true, if_false, block, HXK18.out, HXKB.out, HXK20.out, HXK21.out])
                          have HD := Lib.hid (H21.out)
                          have hbE := H21.out.blk; have hrE := H21.out.res
                          have d0 := hbE.cell 0 _ rfl; have d1 := hbE.cell 1 _ rfl; have d2 := hbE.cell 2 _ rfl; have d3 := hbE.cell 3 _ rfl; have d4 := hbE.cell 4 _ rfl; have d5 := hbE.cell 5 _ rfl
                          have e0 := hrE.cell 0 _ rfl; have e1 := hrE.cell 1 _ rfl; have e2 := hrE.cell 2 _ rfl; have e3 := hrE.cell 3 _ rfl; have e4 := hrE.cell 4 _ rfl; have e5 := hrE.cell 5 _ rfl
                          have f0 := hrE.frozen 0; have f1 := hrE.frozen 1; have f2 := hrE.frozen 2; have f3 := hrE.frozen 3; have f4 := hrE.frozen 4; have f5 := hrE.frozen 5
                          clear hbE hrE
                          go_wp2_with fail
                          obtain ⟨wF, hwF, hcF, hbF⟩ := set6 (str n) (.int .i64 (hd z ts)) (.bool (see [42] r2)) ((.slice a3 ps.length c3)) (nils) ((.slice a5 b.len c5)) HD.out.res
                          rw [hwF]
                          clear hwF
                          have g0 := hbF.cell 0 (str n) rfl; have g1 := hbF.cell 1 (.int .i64 (hd z ts)) rfl; have g2 := hbF.cell 2 (.bool (see [42] r2)) rfl; have g3 := hbF.cell 3 ((.slice a3 ps.length c3)) rfl; have g4 := hbF.cell 4 (nils) rfl; have g5 := hbF.cell 5 ((.slice a5 b.len c5)) rfl
                          refine bodyPost_ret (v := .agg #[str n, .int .i64 (hd z ts), .bool (see [42] r2), (.slice a3 ps.length c3), nils, (.slice a5 b.len c5)]) (by simp [results, Tryz.results68, go_sem, g0, g1, g2, g3, g4, g5]) rfl ?_
                          rw [HRR.out]
                          have hq := HD.out.fin hcF
                          exact ⟨HD.out.chg.trans hcF (fun x hx => .inr (by simp at hx; omega)), _, rfl, ⟨_, rfl, _, _, _, rfl, hq.1.1.2, hq.1.2, hq.2⟩, HD.out.par.kept hcF (fun x hx => by simp at hx; omega) (by simp; omega) (by simp; omega)⟩
end Go.Proofs.YtgnfhognbpifiaaGreatDoor
