/- The reader of obj: fail, number, many, text, texts, flag. -/
import Derived.Test.YtjgfclhempjinaaGreatDoorProg
import Derived.Test.YtjgfclhempjinaaGreatDoorObjRead
namespace Go.Proofs.YtjgfclhempjinaaGreatDoor
open Go Go.RowKit Go.Mq Go.Mq.Obj

/-- The reader at block b stands at st. -/
def Rdr (w : World) (b : Nat) (st : St) : Prop := Blk w b #[.string (bs st.str), .bool st.bad] 87

/-- What a call of the reader's leaves. -/
def Red (w : World) (b : Nat) (v : Value) (st : St) (e : Ending) (w' : World) : Prop := e = .returned v ∧ Rdr w' b st ∧ Chg [b] w w'

theorem fail_any (b : Nat) (st : St) (w : World) (h : Rdr w b st) : Calls Tryz.prog 69 #[.pointer (some ⟨b, 0, none⟩)] w (Red w b (.int .i64 0) none) := by
  have h0 := h.cell 0 _ rfl
  have h1 := h.cell 1 _ rfl
  have f0 := h.frozen 0
  have f1 := h.frozen 1
  have H := Lib.hid h; clear h
  go_enter Tryz.func69, Tryz.ntmps69
  go_wp2
  go_ret
  exact ⟨rfl, (H.out.set 1 _).set 0 _, (Chg.set1 _ _ _ _).then (Chg.set1 _ _ _ _)⟩

theorem number_stop {w w1 : World} {b : Nat} {st : St} {l : List UInt8} (HL : l = st.str) (h : rdv 0 0 l = none) (h1 : Rdr w1 b none) (h2 : Chg [b] w w1) :
    Red w b (.int .i64 (pNum st).1) (pNum st).2 (.returned (.int .i64 0)) w1 := by
  subst HL
  rw [pNum_none h]
  exact ⟨rfl, h1, h2⟩

theorem number_goes {w : World} {b : Nat} {st : St} {l : List UInt8} {s : ByteArray} {k m m' r : Nat} {c : UInt8} (H : Rdr w b st) (HL : l = st.str) (HS : s = bs l) (hk : k < 10) (HC : s[k]? = some c)
    (HR : rdv 0 0 l = rdv k m (l.drop k)) (hb : ¬ ((k = 9 ∧ 1 < c.toNat) ∨ (0 < k ∧ c.toNat = 0))) (hs : c.toNat < 128) (hm' : m' = m + c.toNat % 128 * 128 ^ k) (hlt : m' < 18446744073709551616) (hr : r = m' % 2) :
    Red w b (.int .i64 (pNum st).1) (pNum st).2 (.returned (.int .i64 (bits .xor .i64 (wrap64 ((m' : Int) / 2)) (-(r : Int))))) (w.setCell ⟨b, 0, none⟩ (.string (s.extract (k + 1) s.size))) := by
  rw [unzig_val hlt hr]
  have hc : l[k]? = some c := by rw [← bs_get, ← HS]; exact HC
  have hp := pNum_some (st := st) (by rw [← HL, HR]; exact rdv_last hc hk hb hs)
  rw [hp, hm']
  have hbad := not_bad HL hc
  have e : s.extract (k + 1) s.size = bs (l.drop (k + 1)) := by
    rw [HS, bs_extract, bs_size]; congr 2; exact List.take_of_length_le (by simp)
  refine ⟨rfl, ?_, Chg.set1 _ _ _ _⟩
  have := Blk.set H 0 (.string (s.extract (k + 1) s.size))
  rw [hbad, e] at this
  rw [e]
  exact this

set_option maxHeartbeats 1600000 in
set_option maxRecDepth 100000 in
theorem number2_any (b : Nat) (st : St) (w : World) (h : Rdr w b st) (hl : st.str.length ≤ 1099511627776) :
    Calls Tryz.prog 48 #[.pointer (some ⟨b, 0, none⟩)] w (Red w b (.int .i64 (pNum st).1) (pNum st).2) := by
  have h0 := h.cell 0 (.string (bs st.str)) rfl
  have f0 := h.frozen 0
  have hF := fail_any b st w h
  have H := Lib.hid h; clear h
  have HF := Lib.hid hF; clear hF
  obtain ⟨l, hll⟩ : ∃ l, l = st.str := ⟨_, rfl⟩
  rw [← hll] at h0 hl
  have HL := Lib.hid hll; clear hll
  obtain ⟨s, hs⟩ : ∃ s, s = bs l := ⟨_, rfl⟩
  have hsl : s.size = l.length := by rw [hs]; rfl
  rw [← hs] at h0
  have HS := Lib.hid hs; clear hs
  rw [← hsl] at hl
  have HSL := Lib.hid hsl; clear hsl
  go_enter Tryz.func48, Tryz.ntmps48
  go_wp2_with fail
  all_goals
    go_loop [3, 4, 5, 12] (fun u _ _ i => ∃ k m : Nat, k ≤ 10 ∧ k ≤ s.size ∧ i = .int .i64 k ∧ u = .int .u64 m ∧ m < 128 ^ k ∧ rdv 0 0 l = rdv k m (l.drop k)) (fun _ _ _ i => 10 - (intOf i).toNat)
    case atStart => exact ⟨0, 0, by omega, by omega, rfl, rfl, by simp, by simp⟩
    case round =>
      obtain ⟨k, m, hk, hks, rfl, rfl, hm, hr⟩ := hrel
      have HM := Lib.hid hm; clear hm
      have HR := Lib.hid hr; clear hr
      by_cases hlt : k < 10 ∧ k < s.size
      · obtain ⟨hlt1, hlt2⟩ := hlt
        obtain ⟨c, hc⟩ : ∃ c : UInt8, s[k]? = some c := ⟨s[k], by simp [hlt2]⟩
        have hidx := run_index_str Tryz.underlying9 hc
        have HC := Lib.hid hc; clear hc
        obtain ⟨n, hn⟩ : ∃ n : Nat, n = c.toNat := ⟨_, rfl⟩
        have hn8 : n < 256 := by rw [hn]; exact c.toNat_lt
        rw [← hn] at hidx
        have HN := Lib.hid hn; clear hn
        have hmb := pow_mono (k := k) (by omega)
        obtain ⟨x, hand, hx, hx2⟩ := and_127 hn8
        obtain ⟨y, hsh, hy2⟩ := shl_7 x k
        obtain ⟨m', hor, hm2⟩ := or_u64 (m := m) (y := y) (by have := HM.out; omega) (by rw [hy2]; omega)
        have hmy : m' < 18446744073709551616 := by rw [hm2]; exact Nat.or_lt_two_pow (n := 64) (by have := HM.out; omega) (by rw [hy2]; omega)
        obtain ⟨r, hr1, hr2, hr3⟩ := and_1 hmy
        have HM2 := Lib.hid (show m' = m ||| (n % 128 * 128 ^ k % 18446744073709551616) by rw [hm2, hy2, hx2])
        have HR3 := Lib.hid hr3
        have HMY := Lib.hid hmy
        clear hx2 hy2 hm2 hr3 hmb hmy
        by_cases hbad : (k = 9 ∧ 1 < n) ∨ (0 < k ∧ n = 0)
        · have HB := Lib.hid hbad
          have hb2 : (((k : Int) == 9) = true ∧ 1 < n) ∨ (0 < k ∧ ((k : Int) == 9) = false ∧ ((n : Int) == 0) = true) ∨ (0 < k ∧ ((k : Int) == 9) = true ∧ n ≤ 1 ∧ ((n : Int) == 0) = true) := by simp; omega
          clear hbad
          rcases hb2 with ⟨g1, g2⟩ | ⟨g1, g2, g3⟩ | ⟨g0, g1, g2, g3⟩
          all_goals
            go_wp2_with fail
            refine HF.out.mono ?_
            rintro e w1 ⟨rfl, h1, h2⟩
            have H1 := Lib.hid h1; have H2 := Lib.hid h2
            clear h1 h2
            go_wp2
            go_ret
            refine number_stop HL.out ?_ H1.out H2.out
            rw [HR.out]
            exact rdv_bad (c := c) (by rw [← bs_get, ← HS.out]; exact HC.out) hlt1 (by rw [← HN.out]; exact HB.out)
        · have HB := Lib.hid hbad
          by_cases hsm : n < 128
          · have hb2 : (0 < k ∧ ((k : Int) == 9) = true ∧ n ≤ 1 ∧ ((n : Int) == 0) = false) ∨ (0 < k ∧ ((k : Int) == 9) = false ∧ ((n : Int) == 0) = false) ∨ (k ≤ 0 ∧ ((k : Int) == 9) = false) := by simp; omega
            clear hbad
            rcases hb2 with ⟨g0, g1, g2, g3⟩ | ⟨g1, g2, g3⟩ | ⟨g1, g2⟩
            all_goals
              go_wp2_with fail
              go_ret
              have hg := grow_u hlt1 HM.out hn8 HB.out
              exact number_goes H.out HL.out HS.out hlt1 HC.out HR.out (by rw [← HN.out]; exact HB.out) (by rw [← HN.out]; exact hsm) (by rw [HM2.out, ← HN.out]; exact hg.1) HMY.out HR3.out
          · have hb2 : (0 < k ∧ ((k : Int) == 9) = false ∧ ((n : Int) == 0) = false) ∨ (k ≤ 0 ∧ ((k : Int) == 9) = false) := by simp; omega
            clear hbad
            rcases hb2 with ⟨g1, g2, g3⟩ | ⟨g1, g2⟩
            all_goals
              go_wp2_with fail
              go_round
              case rel =>
                have hg := grow_u hlt1 HM.out hn8 HB.out
                refine ⟨k + 1, m', by omega, by omega, by go_num, rfl, by rw [HM2.out, hg.1]; exact hg.2.2, ?_⟩
                rw [HR.out, HM2.out, hg.1, HN.out]
                exact rdv_more (by rw [← bs_get, ← HS.out]; exact HC.out) hlt1 (by rw [← HN.out]; exact HB.out) (by rw [← HN.out]; exact hsm)
              case measure => simp [intOf]; omega
      · have HE := Lib.hid hlt
        have hlt' : 10 ≤ k ∨ s.size ≤ k := by omega
        clear hlt
        rcases hlt' with hlt' | hlt'
        all_goals go_wp2_with fail
        all_goals
          refine HF.out.mono ?_
          rintro e w1 ⟨rfl, h1, h2⟩
          have H1 := Lib.hid h1; have H2 := Lib.hid h2
          clear h1 h2
          go_wp2
          go_ret
          refine number_stop HL.out ?_ H1.out H2.out
          rw [HR.out]
          exact rdv_end (by rw [← HSL.out]; exact HE.out)

theorem pNum_len {st : St} : (pNum st).2.str.length ≤ st.str.length := by
  unfold pNum
  split
  · rename_i u t h
    have : ∀ (l : List UInt8) (i u v : Nat) (t : List UInt8), rdv i u l = some (v, t) → t.length ≤ l.length := by
      intro l
      induction l with
      | nil => intro i u v t h; simp [rdv] at h
      | cons c l ih =>
        intro i u v t h
        rw [rdv] at h
        split at h
        · simp at h
        · split at h
          · simp at h
          · split at h
            · simp at h; simp [h.2]
            · have := ih _ _ _ _ h; simp; omega
    exact this _ _ _ _ _ h
  · simp [St.str]

set_option maxRecDepth 100000 in
theorem many_any (b : Nat) (st : St) (w : World) (h : Rdr w b st) (hl : st.str.length ≤ 1099511627776) :
    Calls Tryz.prog 47 #[.pointer (some ⟨b, 0, none⟩)] w (Red w b (.int .i64 (pMany st).1) (pMany st).2) := by
  have hN := number2_any b st w h hl
  have HN := Lib.hid hN
  obtain ⟨n, hn⟩ : ∃ n, n = (pNum st).1 := ⟨_, rfl⟩
  obtain ⟨st', hst⟩ : ∃ st', st' = (pNum st).2 := ⟨_, rfl⟩
  have hln : st'.str.length ≤ 1099511627776 := by rw [hst]; exact Nat.le_trans pNum_len hl
  rw [← hn, ← hst] at HN
  have HP := Lib.hid (show pMany st = if n < 0 ∨ (st'.str.length : Int) < n then (0, none) else (n.toNat, st') by rw [pMany, hn, hst])
  clear hN h hn hst hl
  go_enter Tryz.func47, Tryz.ntmps47
  go_wp2_with fail
  refine HN.out.mono ?_
  rintro e w1 ⟨rfl, h1, h2⟩
  have h0 := h1.cell 0 (.string (bs st'.str)) rfl
  have hF := fail_any b st' w1 h1
  have HF := Lib.hid hF
  have H1 := Lib.hid h1; have H2 := Lib.hid h2
  have hsz : (bs st'.str).size = st'.str.length := rfl
  obtain ⟨s, hs⟩ : ∃ s, s = bs st'.str := ⟨_, rfl⟩
  rw [← hs] at h0 hsz
  have HS := Lib.hid hs
  have HZ := Lib.hid hsz
  rw [← hsz] at hln
  clear hs hsz hF h1 h2
  by_cases hneg : n < 0
  · go_wp2_with fail
    refine HF.out.mono ?_
    rintro e w2 ⟨rfl, h1, h2⟩
    have H3 := Lib.hid h1; have H4 := Lib.hid h2
    clear h1 h2
    go_wp2
    go_ret
    rw [HP.out, if_pos (.inl hneg)]
    exact ⟨rfl, H3.out, H2.out.then H4.out⟩
  · by_cases hbig : (s.size : Int) < n
    · go_wp2_with fail
      refine HF.out.mono ?_
      rintro e w2 ⟨rfl, h1, h2⟩
      have H3 := Lib.hid h1; have H4 := Lib.hid h2
      clear h1 h2
      go_wp2
      go_ret
      rw [HP.out, if_pos (.inr (by rw [← HZ.out]; exact hbig))]
      exact ⟨rfl, H3.out, H2.out.then H4.out⟩
    · go_wp2_with fail
      go_ret
      rw [HP.out, if_neg (by have := HZ.out; omega)]
      refine ⟨?_, H1.out, H2.out⟩
      show Ending.returned (.int .i64 n) = .returned (.int .i64 (n.toNat : Int))
      rw [Int.toNat_of_nonneg (by omega)]

theorem pMany_le {st : St} : (pMany st).1 ≤ (pMany st).2.str.length ∧ (pMany st).2.str.length ≤ st.str.length := by
  have h := pNum_len (st := st)
  unfold pMany
  split
  rename_i n st' he
  rw [he] at h
  simp only at h
  split
  · simp [St.str]
  · simp only; omega

end Go.Proofs.YtjgfclhempjinaaGreatDoor
