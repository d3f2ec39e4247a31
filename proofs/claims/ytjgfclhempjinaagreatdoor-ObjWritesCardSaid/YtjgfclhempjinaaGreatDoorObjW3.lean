/- The reader of obj: text, flag, texts. -/
import Derived.Test.YtjgfclhempjinaaGreatDoorObjW2
namespace Go.Proofs.YtjgfclhempjinaaGreatDoor
open Go Go.RowKit Go.Mq Go.Mq.Obj

set_option maxRecDepth 100000 in
theorem rtext_any (b : Nat) (st : St) (w : World) (h : Rdr w b st) (hl : st.str.length ≤ 1099511627776) :
    Calls Tryz.prog 46 #[.pointer (some ⟨b, 0, none⟩)] w (Red w b (.string (bs (pText st).1)) (pText st).2) := by
  have hN := many_any b st w h hl
  have HN := Lib.hid hN
  have hle := pMany_le (st := st)
  obtain ⟨n, hn⟩ : ∃ n, n = (pMany st).1 := ⟨_, rfl⟩
  obtain ⟨st', hst⟩ : ∃ st', st' = (pMany st).2 := ⟨_, rfl⟩
  have HP := Lib.hid (show pText st = (st'.str.take n, st'.map (List.drop n)) by rw [pText, hn, hst])
  rw [← hn, ← hst] at HN hle
  clear hN h hn hst
  obtain ⟨hle1, hle2⟩ := hle
  go_enter Tryz.func46, Tryz.ntmps46
  go_wp2_with fail
  refine HN.out.mono ?_
  rintro e w1 ⟨rfl, h1, h2⟩
  have h0 := h1.cell 0 (.string (bs st'.str)) rfl
  have f0 := h1.frozen 0
  have H1 := Lib.hid h1; have H2 := Lib.hid h2
  have hsz : (bs st'.str).size = st'.str.length := rfl
  obtain ⟨s, hs⟩ : ∃ s, s = bs st'.str := ⟨_, rfl⟩
  rw [← hs] at h0 hsz
  have HS := Lib.hid hs
  rw [← hsz] at hle1 hle2
  clear hs hsz h1 h2
  go_wp2
  go_ret
  rw [HP.out]
  have e1 : s.extract 0 n = bs (st'.str.take n) := by rw [HS.out, bs_extract]; simp
  have e2 : s.extract n s.size = bs (st'.str.drop n) := by rw [HS.out, bs_extract, bs_size]; congr 2; exact List.take_of_length_le (by simp)
  refine ⟨by show Ending.returned (.string (s.extract 0 n)) = _; rw [e1], ?_, H2.out.then (Chg.set1 _ _ _ _)⟩
  have hB := Blk.set H1.out 0 (.string (s.extract n s.size))
  rw [e2] at hB
  rw [e2]
  cases st' with
  | some l => exact hB
  | none => simpa [St.str, Rdr] using hB

set_option maxRecDepth 100000 in
theorem rflag_any (b : Nat) (st : St) (w : World) (h : Rdr w b st) (hl : st.str.length ≤ 1099511627776) :
    Calls Tryz.prog 50 #[.pointer (some ⟨b, 0, none⟩)] w (Red w b (.bool (pFlag st).1) (pFlag st).2) := by
  have h0 := h.cell 0 (.string (bs st.str)) rfl
  have f0 := h.frozen 0
  have hF := fail_any b st w h
  have H := Lib.hid h; clear h
  have HF := Lib.hid hF; clear hF
  have HL := Lib.hid (show st.str = st.str from rfl)
  rcases hst : st.str with _ | ⟨c, t⟩
  · have HST := Lib.hid hst
    rw [hst] at h0
    clear hst hl HL
    go_enter Tryz.func50, Tryz.ntmps50
    go_wp2_with fail
    refine HF.out.mono ?_
    rintro e w2 ⟨rfl, h1, h2⟩
    have H3 := Lib.hid h1; have H4 := Lib.hid h2
    clear h1 h2
    go_wp2
    go_ret
    have e : pFlag st = (false, none) := by simp [pFlag, HST.out]
    rw [e]
    exact ⟨rfl, H3.out, H4.out⟩
  · have HST := Lib.hid hst
    have hb : st.bad = false := not_bad (l := c :: t) (k := 0) (c := c) hst.symm rfl
    rw [hst] at h0 hl
    obtain ⟨s, hs⟩ : ∃ s, s = bs (c :: t) := ⟨_, rfl⟩
    have hidx : ∀ w, (Instr.index 9 (.string s) (.int .i64 0)).run Tryz.prog w = .ok (.int .u8 c.toNat) w := run_index_str (P := Tryz.prog) Tryz.underlying9 (s := s) (k := 0) (c := c) (by rw [hs, bs_get]; rfl)
    have hne : s.toList.isEmpty = false := by rw [hs]; simp
    have hsz : 1 ≤ s.size := by rw [hs, bs_size]; simp
    have hsz2 : s.size ≤ 1099511627776 := by rw [hs, bs_size]; exact hl
    rw [← hs] at h0
    have HS := Lib.hid hs
    have HB := Lib.hid hb
    obtain ⟨n, hn⟩ : ∃ n : Nat, n = c.toNat := ⟨_, rfl⟩
    have hn8 : n < 256 := by rw [hn]; exact c.toNat_lt
    rw [← hn] at hidx
    have HN := Lib.hid hn; clear hn
    clear hst hs hb HL hl
    by_cases hbig : 1 < n
    · go_enter Tryz.func50, Tryz.ntmps50
      go_wp2_with fail
      refine HF.out.mono ?_
      rintro e w2 ⟨rfl, h1, h2⟩
      have H3 := Lib.hid h1; have H4 := Lib.hid h2
      clear h1 h2
      go_wp2
      go_ret
      have e : pFlag st = (false, none) := by simp [pFlag, HST.out, ← HN.out, hbig]
      rw [e]
      exact ⟨rfl, H3.out, H4.out⟩
    · go_enter Tryz.func50, Tryz.ntmps50
      go_wp2_with fail
      go_ret
      have e : pFlag st = (n == 1, some t) := by simp only [pFlag, HST.out, ← HN.out]; rw [if_neg hbig]
      rw [e]
      have e2 : s.extract 1 s.size = bs t := by rw [HS.out, bs_extract, bs_size]; simp
      have hB := Blk.set H.out 0 (.string (s.extract 1 s.size))
      rw [HB.out, e2] at hB
      refine ⟨?_, by rw [e2]; exact hB, Chg.set1 _ _ _ _⟩
      show Ending.returned (.bool ((n : Int) == 1)) = .returned (.bool (n == 1))
      have e3 : ((n : Int) == 1) = (n == 1) := by rw [Bool.eq_iff_iff]; simp; omega
      rw [e3]

theorem infoStr : (Tryz.prog.info? 9).map (fun i => (i.zero, i.size, i.bytes)) = some (some (.string ⟨#[]⟩), 1, 16) := by kernel_rfl

/-- A slice of texts, owned. -/
def OwnT (w : World) (v : Value) (l : List (List UInt8)) : Prop := w.ownsRow 0 9 1 v l.length (l.map fun x => .string (bs x))

def RedT (w : World) (b : Nat) (l : List (List UInt8)) (st : St) (e : Ending) (w' : World) : Prop :=
  ∃ v, e = .returned v ∧ OwnT w' v l ∧ From w.heap.size v ∧ Rdr w' b st ∧ Chg [b] w w'

theorem rep_len {α : Type} {p : St → α × St} (hp : ∀ st, (p st).2.str.length ≤ st.str.length) (n : Nat) (st : St) : (rep p n st).2.str.length ≤ st.str.length := by
  induction n with
  | zero => exact Nat.le_refl _
  | succ n ih => simp only [rep]; exact Nat.le_trans (hp _) ih
theorem rep_count {α : Type} (p : St → α × St) (n : Nat) (st : St) : (rep p n st).1.length = n := by
  induction n with
  | zero => rfl
  | succ n ih => simp [rep, ih]
theorem pText_len (st : St) : (pText st).2.str.length ≤ st.str.length := by
  have h := pMany_le (st := st)
  unfold pText
  split
  rename_i n st' he
  rw [he] at h
  cases st' with
  | none => simp [St.str]
  | some l => simp [St.str] at h ⊢; omega

set_option maxRecDepth 100000 in
theorem rtexts_any (b : Nat) (st : St) (w : World) (h : Rdr w b st) (hl : st.str.length ≤ 1099511627776) :
    Calls Tryz.prog 49 #[.pointer (some ⟨b, 0, none⟩)] w (RedT w b (pTexts st).1 (pTexts st).2) := by
  have hN := many_any b st w h hl
  have HN := Lib.hid hN
  have hle := pMany_le (st := st)
  obtain ⟨n, hn⟩ : ∃ n, n = (pMany st).1 := ⟨_, rfl⟩
  obtain ⟨st', hst⟩ : ∃ st', st' = (pMany st).2 := ⟨_, rfl⟩
  have HP := Lib.hid (show pTexts st = rep pText n st' by rw [pTexts, hn, hst])
  rw [← hn, ← hst] at HN hle
  have hw := h.lt
  obtain ⟨hle1, hle2⟩ := hle
  have hls : st'.str.length ≤ 1099511627776 := by omega
  have hn9 : n ≤ 1099511627776 := by omega
  have HLS := Lib.hid hls
  clear hN h hn hst hle1 hle2 hls hl
  go_enter Tryz.func49, Tryz.ntmps49
  go_wp2_with fail
  refine HN.out.mono ?_
  rintro e w1 ⟨rfl, h1, h2⟩
  have H1 := Lib.hid h1; have H2 := Lib.hid h2
  clear h1 h2
  go_wp2_with fail
  go_loopw [3, 6] (fun v i wr => ∃ k : Nat, k ≤ n ∧ i = .int .i64 k ∧ OwnT wr v (rep pText k st').1 ∧ From w.heap.size v ∧ Rdr wr b (rep pText k st').2 ∧ Chg [b] w wr) (fun _ i _ => n - (intOf i).toNat)
  case atStart => exact ⟨0, Nat.zero_le _, rfl, World.ownsRow_nil _ _ _ _, From.nil _, H1.out, H2.out⟩
  case round =>
    obtain ⟨k, hk, rfl, ho, hf, hr, hc⟩ := hrel
    have HO := Lib.hid ho; have HF := Lib.hid hf; have HR := Lib.hid hr; have HC := Lib.hid hc
    clear ho hf hr hc
    by_cases hlt : k < n
    · have hT := rtext_any b _ wr HR.out (Nat.le_trans (rep_len pText_len k st') HLS.out)
      have HT := Lib.hid hT; clear hT
      go_wp2_with fail
      refine HT.out.mono ?_
      rintro e w2 ⟨rfl, h1, h2⟩
      have H3 := Lib.hid h1; have H4 := Lib.hid h2
      clear h1 h2
      have ho2 := owns_kept (HO.out) (H4.out.alloc (.cells #[.string (bs (pText (rep pText k st').2).1)] 9)) (fun g hg hm => by
        have h5 := HF.out g hg; simp at hm; omega)
      have HO2 := Lib.hid ho2; clear ho2
      go_wp2_with (at_builtin; go_must (refine wpL_append rfl _ _ 42 rfl 9 _ 1 16 infoStr Tryz.underlying42 rfl (by decide) _ _ _ rfl HO2.out ⟨w2.heap.size, 0, none⟩ 1 1 [_] rfl rfl (cell_new1 _ _ _) (by simp [Value.oneCell']) ?_ ?_ ?_))
      · rw [rep_count]; omega
      · rw [rep_count]; unfold maxLen; omega
      · intro v' w' hown' hch' hmv'
        have HO' := Lib.hid hown'; clear hown'
        have HC' := Lib.hid hch'; clear hch'
        have HM' := Lib.hid hmv'; clear hmv'
        go_wp2
        go_roundw
        case rel =>
          refine ⟨k + 1, by omega, by go_num, ?_, ?_, ?_, ?_⟩
          · have h5 := HO'.out
            rw [rep_count] at h5
            unfold OwnT
            rw [rep_count]
            simpa [rep] using h5
          · exact HF.out.moved (HM'.out) (by have := HC.out.size; have := H4.out.size; simp; omega) |> fun h => h
          · have h5 := (H3.out.kept ((Chg.refl [] w2).alloc _) (by simp)).kept HC'.out (fun hm => by have := HF.out b hm; omega)
            exact h5
          · exact (HC.out.then (H4.out.alloc _)).trans HC'.out (fun x hx => .inr (HF.out x hx))
        case measure => simp [intOf]; omega
    · have hkn : k = n := by omega
      have HKN := Lib.hid hkn; clear hkn
      go_wp2
      go_ret
      rw [HP.out, ← HKN.out]
      exact ⟨_, rfl, HO.out, HF.out, HR.out, HC.out⟩
end Go.Proofs.YtjgfclhempjinaaGreatDoor
