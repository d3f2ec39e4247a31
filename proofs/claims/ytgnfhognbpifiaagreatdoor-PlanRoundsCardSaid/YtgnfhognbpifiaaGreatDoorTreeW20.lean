/- A text's tokens. -/
import Derived.Test.YtgnfhognbpifiaaGreatDoorTreeW19
import Derived.Test.YtgnfhognbpifiaaGreatDoorTreeW5
namespace Go.Mq.Tree
open Go Go.RowKit Go.Mq
theorem howN_le (f : UInt8 → Bool) : ∀ l : List UInt8, howN f l ≤ l.length := by
  intro l
  induction l with
  | nil => exact Nat.le_refl _
  | cons c t ih => rw [howN]; split <;> simp <;> omega
theorem nextK_le (l : List UInt8) : (nextK l).2 ≤ l.length := by
  cases l with
  | nil => exact Nat.le_refl _
  | cons c t =>
    rw [nextK]
    split
    · exact howN_le _ _
    · split
      · exact howN_le _ _
      · cases h : marks.find? (fun m => m.isPrefixOf (c :: t)) with
        | none => simp
        | some m =>
          have := List.find?_some h
          have := (List.isPrefixOf_iff_prefix.1 this).length_le
          simpa using this
theorem gap_eq (c : UInt8) : gap c = (((c.toNat : Int) == 32) || ((c.toNat : Int) == 10)) := by
  have h1 : (c == 32) = ((c.toNat : Int) == 32) := by
    by_cases h : c = 32
    · subst h; rfl
    · have : c.toNat ≠ 32 := fun h2 => h (UInt8.toNat_inj.1 (by rw [h2]; rfl))
      rw [beq_eq_false_iff_ne.2 h]
      symm
      simp; omega
  have h2 : (c == 10) = ((c.toNat : Int) == 10) := by
    by_cases h : c = 10
    · subst h; rfl
    · have : c.toNat ≠ 10 := fun h2 => h (UInt8.toNat_inj.1 (by rw [h2]; rfl))
      rw [beq_eq_false_iff_ne.2 h]
      symm
      simp; omega
  rw [gap, h1, h2]
/-- What is read so far, ahead of what comes. -/
def LexR.ahead (acc : List Tok) : LexR → LexR
  | .ok ts => .ok (acc ++ ts)
  | .bad e p => .bad e p
theorem LexR.ahead_bad (acc : List Tok) (e p : Nat) : (LexR.bad e p).ahead acc = .bad e p := rfl
theorem lexL_nil (f i k : Nat) : lexL f i k [] = .ok [] := by cases f <;> rfl
theorem lexL_gap {f i k : Nat} {c : UInt8} {t : List UInt8} (h : gap c = true) : lexL (f + 1) i k (c :: t) = lexL f (i + 1) k t := by simp only [lexL, h, if_true]
theorem lexL_none {f i k : Nat} {c : UInt8} {t : List UInt8} (h : gap c = false) (h2 : (nextK (c :: t)).2 = 0) : lexL (f + 1) i k (c :: t) = .bad 3 i := by simp [lexL, h, h2]
theorem lexL_many {f i : Nat} {c : UInt8} {t : List UInt8} (h : gap c = false) (h2 : (nextK (c :: t)).2 ≠ 0) : lexL (f + 1) i 600 (c :: t) = .bad 4 i := by simp [lexL, h, h2]
theorem lexL_tok {f i k : Nat} {c : UInt8} {t : List UInt8} (h : gap c = false) (h2 : (nextK (c :: t)).2 ≠ 0) (h3 : k ≠ 600) (acc : List Tok) :
    (lexL (f + 1) i k (c :: t)).ahead acc = (lexL f (i + (nextK (c :: t)).2) (k + 1) ((c :: t).drop (nextK (c :: t)).2)).ahead (acc ++ [⟨(nextK (c :: t)).1, (c :: t).take (nextK (c :: t)).2, i⟩]) := by
  simp only [lexL, h, h2, h3, if_false, Bool.false_eq_true]
  cases lexL f (i + (nextK (c :: t)).2) (k + 1) ((c :: t).drop (nextK (c :: t)).2) with
  | ok ts => simp [LexR.ahead]
  | bad e p => rfl
/-- What the tokens' reader hands back. -/
def LexOut (w : World) (z : Nat) (r : LexR) (e : Ending) (w' : World) : Prop := Chg [] w w' ∧ match r with
  | .ok ts => ∃ a c, e = .returned (.tuple #[.slice a (ts.length + 1) c, .nilIface]) ∧ ts.length + 1 ≤ c ∧ Row w' (New w w') a (toksCells z ts) ∧ ts.length ≤ 600 ∧ ∀ t ∈ ts, t.text.length ≤ 1099511627776
  | .bad en p => ∃ b, e = .returned (.tuple #[nils, .iface 124 (ptr b)]) ∧ w.heap.size ≤ b ∧ Blk w' b #[.int .i64 en, .int .i64 p] 126
theorem toksCells_eq (z : Nat) : ∀ ts : List Tok, toksCells z ts = ts.flatMap Tok.cells ++ [.int .i64 4, str [], .int .i64 z] := by
  intro ts
  induction ts with
  | nil => rfl
  | cons t r ih => rw [toksCells, ih, List.flatMap_cons, List.append_assoc]
end Go.Mq.Tree
namespace Go.Proofs.YtgnfhognbpifiaaGreatDoor
open Go Go.RowKit Go.Mq Go.Mq.Tree
set_option maxRecDepth 100000
set_option maxHeartbeats 8000000
theorem infoTok : (Tryz.prog.info? 76).map (fun i => (i.zero, i.size, i.bytes)) = some (some (.agg #[.int .i64 0, .string ⟨#[]⟩, .int .i64 0]), 3, 32) := by kernel_rfl
theorem tokens_any (l : List UInt8) (hl : l.length ≤ 1099511627776) (w : World) (B : Nat) (hL : Laid w B) : Calls Tryz.prog 34 #[str l] w (LexOut w l.length (lex l)) := by
  obtain ⟨s, hs⟩ : ∃ s, s = bs l := ⟨_, rfl⟩
  have hsz : s.size = l.length := by rw [hs]; rfl
  have HS := Lib.hid hs
  have HL := Lib.hid hL
  show Calls Tryz.prog 34 #[.string (bs l)] w _
  rw [← hs]
  clear hs hL
  go_enter Tryz.func34, Tryz.ntmps34
  go_wp2_with fail
  go_loopw [4, 5, 6, 7] (fun lv iv _ _ wr => ∃ (f i : Nat) (acc : List Tok), iv = .int .i64 i ∧ i ≤ l.length ∧ lex l = (lexL f i acc.length (l.drop i)).ahead acc ∧ l.length - i ≤ f ∧ acc.length ≤ 600 ∧ (∀ t ∈ acc, t.text.length ≤ 1099511627776) ∧
      wr.ownsRow 0 76 3 lv acc.length (acc.flatMap Tok.cells) ∧ From w.heap.size lv ∧ Chg [] w wr) (fun _ iv _ _ _ => l.length - (intOf iv).toNat)
  case atStart => exact ⟨l.length, 0, [], rfl, Nat.zero_le _, by rw [List.drop_zero, lex]; cases lexL l.length 0 0 l <;> rfl, Nat.sub_le _ _, Nat.zero_le _, fun _ h => (by cases h), World.ownsRow_nil _ _ _ _, From.nil _, Chg.refl _ _⟩
  case round =>
    obtain ⟨f, i, acc, rfl, hi, hr, hf, ha, hsh, ho, hF, hC⟩ := hrel
    have HR := Lib.hid hr; have HSH := Lib.hid hsh; have HO := Lib.hid ho; have HF := Lib.hid hF; have HC := Lib.hid hC
    obtain ⟨sa, sc, hsl⟩ := slice_of_owns ho
    have hsw := hC.size
    clear hr hsh ho hF hC
    subst hsl
    by_cases hlt : i < l.length
    · have hdec : decide ((i : Int) < (s.size : Int)) = true := by simp; omega
      obtain ⟨c, hcc⟩ : ∃ c, l[i]? = some c := ⟨l[i], List.getElem?_eq_getElem hlt⟩
      have hdrop : l.drop i = c :: l.drop (i + 1) := by
        rw [List.drop_eq_getElem_cons hlt]
        congr 1
        rw [List.getElem?_eq_getElem hlt] at hcc
        exact Option.some.inj hcc
      obtain ⟨f, rfl⟩ : ∃ f', f = f' + 1 := ⟨f - 1, by omega⟩
      have hidx := run_index_str (P := Tryz.prog) Tryz.underlying9 (show s[i]? = some c by rw [HS.out, bs_get]; exact hcc)
      have HD := Lib.hid hdrop
      have HBE := Lib.hid (gap_eq c)
      obtain ⟨n0, hn0⟩ : ∃ n : Nat, n = c.toNat := ⟨_, rfl⟩
      rw [← hn0] at hidx HBE
      clear hn0 hcc hdrop
      cases hb : gap c with
      | true =>
        have HRR := Lib.hid (show lex l = (lexL f (i + 1) acc.length (l.drop (i + 1))).ahead acc by rw [HR.out, HD.out, lexL_gap hb])
        rw [hb] at HBE
        clear hb
        cases h1 : ((n0 : Int) == 32) with
        | true =>
          clear HBE
          go_wp2_with fail
          exact ⟨⟨f, i + 1, acc, by go_num, by omega, HRR.out, by omega, ha, HSH.out, HO.out, HF.out, HC.out⟩, by simp [intOf]; omega⟩
        | false =>
          have h2 : ((n0 : Int) == 10) = true := by have := HBE.out; rw [h1] at this; simpa using this.symm
          clear HBE
          go_wp2_with fail
          exact ⟨⟨f, i + 1, acc, by go_num, by omega, HRR.out, by omega, ha, HSH.out, HO.out, HF.out, HC.out⟩, by simp [intOf]; omega⟩
      | false =>
        have hbe := HBE.out
        rw [hb] at hbe
        obtain ⟨h1, h2⟩ := Bool.or_eq_false_iff.1 hbe.symm
        clear hbe
        clear HBE
        have hE1 : s.extract i l.length = bs (c :: l.drop (i + 1)) := by rw [HS.out, bs_extract, ← HD.out]; congr 2; exact List.take_of_length_le (by simp)
        have hlen : (c :: l.drop (i + 1)).length = l.length - i := by rw [← HD.out]; simp
        have HNX := Lib.hid (next_any c (l.drop (i + 1)) (by rw [hlen]; omega) wr B (HL.out.kept HC.out (by simp)))
        have HLT : Hid (nextK (c :: l.drop (i + 1)) = nextK (c :: l.drop (i + 1))) := Lib.hid rfl
        have hnl := nextK_le (c :: l.drop (i + 1))
        rw [hlen] at hnl
        obtain ⟨kd, hkd⟩ : ∃ kd : Nat, kd = (nextK (c :: l.drop (i + 1))).1.num := ⟨_, rfl⟩
        obtain ⟨n, hn⟩ : ∃ n, n = (nextK (c :: l.drop (i + 1))).2 := ⟨_, rfl⟩
        have HKD := Lib.hid hkd; have HN := Lib.hid hn
        rw [← hkd, ← hn] at HNX
        rw [← hn] at hnl
        have HNX : Hid (Calls Tryz.prog 61 #[.string (s.extract i l.length)] wr (fun e w' => e = .returned (.tuple #[.int .i64 kd, .int .i64 n]) ∧ w' = wr)) := Lib.hid (by rw [hE1]; exact HNX.out)
        have HB := Lib.hid hb
        have HNZ : Hid (n = 0 → lex l = .bad 3 i) := Lib.hid (fun h0 => by rw [HR.out, HD.out, lexL_none hb (by rw [← hn, h0])]; rfl)
        have HNM : Hid (n ≠ 0 → acc.length = 600 → lex l = .bad 4 i) := Lib.hid (fun h0 h6 => by rw [HR.out, HD.out, h6, lexL_many hb (by rw [← hn]; exact h0)]; rfl)
        have HNT : Hid (∀ tx, s.extract i (i + n) = bs tx → n ≠ 0 → acc.length ≠ 600 → lex l = (lexL f (i + n) (acc.length + 1) (l.drop (i + n))).ahead (acc ++ [⟨(nextK (c :: l.drop (i + 1))).1, tx, i⟩])) := Lib.hid (fun tx htx h0 h6 => by
          rw [HR.out, HD.out, lexL_tok hb (by rw [← hn]; exact h0) h6, ← hn, ← HD.out, List.drop_drop]
          have htx' : tx = (l.drop i).take n := by
            rw [HS.out, bs_extract, Nat.add_sub_cancel_left] at htx
            have h9 := ByteArray.mk.inj htx
            exact (by simpa using congrArg Array.toList h9.symm)
          rw [htx'])
        clear hkd hn hb hE1 HLT
        by_cases h0 : n = 0
        · have hz : ((n : Int) == 0) = true := by simp [h0]
          have HRR := Lib.hid (HNZ.out h0)
          clear h0
          go_wp2_with fail
          refine HNX.out.mono ?_; rintro _ w2 ⟨rfl, hw⟩
          have hw := hw.symm; subst hw
          go_wp2_with fail
          go_ret2
          rw [HRR.out]
          exact ⟨HC.out.alloc _, _, rfl, hsw, Blk.new _ _ _⟩
        · have hz : ((n : Int) == 0) = false := by simp [h0]
          by_cases h6 : acc.length = 600
          · have h6' : ((acc.length : Int) == 600) = true := by simp [h6]
            have HRR := Lib.hid (HNM.out h0 h6)
            clear h0 h6
            go_wp2_with fail
            refine HNX.out.mono ?_; rintro _ w2 ⟨rfl, hw⟩
            have hw := hw.symm; subst hw
            go_wp2_with fail
            go_ret2
            rw [HRR.out]
            exact ⟨HC.out.alloc _, _, rfl, hsw, Blk.new _ _ _⟩
          · have h6' : ((acc.length : Int) == 600) = false := by simp; omega
            have HTX := Lib.hid (HNT.out ((l.drop i).take n) (by rw [HS.out, bs_extract, Nat.add_sub_cancel_left]) h0 h6)
            have HEX := Lib.hid (show s.extract i (i + n) = bs ((l.drop i).take n) by rw [HS.out, bs_extract, Nat.add_sub_cancel_left])
            have htl : ((l.drop i).take n).length ≤ 1099511627776 := by simp; omega
            have HO2 := Lib.hid (owns_kept HO.out ((Chg.refl [] wr).alloc (.cells #[.int .i64 kd, .string (s.extract i (i + n)), .int .i64 i] 76)) (by simp))
            go_wp2_with fail
            refine HNX.out.mono ?_; rintro _ w2 ⟨rfl, hw⟩
            have hw := hw.symm; subst hw
            go_wp2_with (at_builtin; go_must (refine wpL_append rfl _ _ 68 rfl 76 _ 3 32 infoTok Tryz.underlying68 rfl (by decide) _ _ _ rfl HO2.out ⟨wr.heap.size, 0, none⟩ 1 1 [.int .i64 kd, .string (s.extract i (i + n)), .int .i64 i] rfl rfl (cells_new _ _ _) (by simp [Value.oneCell']) ?_ ?_ ?_))
            · omega
            · unfold maxLen; omega
            · intro v' w' hown' hch' hmv'
              have HO' := Lib.hid hown'
              have HF' := Lib.hid (HF.out.moved hmv' (by simp; omega))
              have HC' := Lib.hid ((HC.out.alloc (.cells #[.int .i64 kd, .string (s.extract i (i + n)), .int .i64 i] 76)).trans hch' (fun x hx => .inr (HF.out x hx)))
              clear hown' hch' hmv'
              go_wp2_with fail
              refine ⟨⟨f, i + n, acc ++ [⟨(nextK (c :: l.drop (i + 1))).1, (l.drop i).take n, i⟩], by go_num, by omega, by simpa using HTX.out, by omega, by simp; omega, ?_, ?_, HF'.out, HC'.out⟩, by simp [intOf]; omega⟩
              · intro t ht
                rcases List.mem_append.1 ht with h | h
                · exact HSH.out t h
                · simp at h; rw [h]; exact htl
              · have := HO'.out
                rw [HEX.out, HKD.out] at this
                simpa [Tok.cells] using this
    · have hdec : decide ((i : Int) < (s.size : Int)) = false := by simp; omega
      have HRR := Lib.hid (show lex l = .ok acc by rw [HR.out, List.drop_eq_nil_of_le (by omega), lexL_nil]; simp [LexR.ahead])
      have HO2 := Lib.hid (owns_kept HO.out ((Chg.refl [] wr).alloc (.cells #[.int .i64 4, str [], .int .i64 l.length] 76)) (by simp))
      go_wp2_with (at_builtin; go_must (refine wpL_append rfl _ _ 68 rfl 76 _ 3 32 infoTok Tryz.underlying68 rfl (by decide) _ _ _ rfl HO2.out ⟨wr.heap.size, 0, none⟩ 1 1 [.int .i64 4, str [], .int .i64 l.length] rfl rfl (cells_new _ _ _) (by simp [Value.oneCell']) ?_ ?_ ?_))
      · omega
      · unfold maxLen; omega
      · intro v' w' hown' hch' hmv'
        have HO' := Lib.hid hown'
        have hF' := HF.out.moved hmv' (by simp; omega)
        have HF' := Lib.hid hF'
        have HC' := Lib.hid ((HC.out.alloc (.cells #[.int .i64 4, str [], .int .i64 l.length] 76)).trans hch' (fun x hx => .inr (HF.out x hx)))
        clear hown' hch' hmv' hF'
        go_wp2_with fail
        go_ret2
        rw [HRR.out]
        obtain ⟨a, k, rfl, hk, hrow⟩ := Row.of_owns HO'.out (new_owns HO'.out HF'.out)
        refine ⟨HC'.out, a, k, rfl, hk, ?_, ha, HSH.out⟩
        rw [toksCells_eq]
        exact hrow
end Go.Proofs.YtgnfhognbpifiaaGreatDoor
