/- obj.Parse (laid by gen_w11.py). -/
import Derived.Test.YtjgfclhempjinaaGreatDoorObjParse
import Derived.Test.YtjgfclhempjinaaGreatDoorObjW9
namespace Go.Proofs.YtjgfclhempjinaaGreatDoor
open Go Go.RowKit Go.Mq Go.Mq.Obj

set_option maxHeartbeats 16000000 in
set_option maxRecDepth 100000 in
theorem parse_any (l : List UInt8) (w : World) (hl : l.length ≤ 1099511627776) :
    Calls Tryz.prog 13 #[.string (bs l)] w (Parsed l w) := by
  have hr0 : Rdr (w.alloc (.cells #[.string (bs l), .bool false] 87)) w.heap.size (some l) := Blk.new w _ _
  have hT := rtext_any w.heap.size (some l) _ hr0 hl
  obtain ⟨nm, hnm⟩ : ∃ nm, (pText (some l)).1 = nm := ⟨_, rfl⟩
  obtain ⟨S1, hS1⟩ : ∃ S, (pText (some l)).2 = S := ⟨_, rfl⟩
  have hSL1 : S1.str.length ≤ 1099511627776 := by rw [← hS1]; exact Nat.le_trans (pText_len (some l)) hl
  rw [hnm, hS1] at hT
  have HLL := Lib.hid hl
  have HT := Lib.hid hT; have HNM := Lib.hid hnm; have HS1 := Lib.hid hS1; have HSL1 := Lib.hid hSL1; clear hT hr0 hnm hS1 hSL1
  go_enter Tryz.func13, Tryz.ntmps13
  go_wp2_with fail
  refine HT.out.mono ?_; rintro _ w1 ⟨rfl, hr, hc⟩
  have hc1 := ((Chg.refl [] w).alloc (.cells #[.string (bs l), .bool false] 87)).trans hc (fun x hx => .inr (by simp at hx; omega))
  have hlt1 := hr.lt
  have hr1 : Rdr (w1.alloc (.cells #[str nm, .slice none 0 0, .slice none 0 0, .slice none 0 0, .slice none 0 0, .slice none 0 0, .slice none 0 0] 45)) w.heap.size S1 := hr.kept ((Chg.refl [] w1).alloc _) (by simp)
  have hM := many_any w.heap.size S1 _ hr1 HSL1.out
  obtain ⟨N1, hN1⟩ : ∃ N, (pMany S1).1 = N := ⟨_, rfl⟩
  obtain ⟨T1, hT1⟩ : ∃ T, (pMany S1).2 = T := ⟨_, rfl⟩
  rw [hN1, hT1] at hM
  have hNL : N1 ≤ 1099511627776 := by rw [← hN1]; exact Nat.le_trans pMany_le.1 (Nat.le_trans pMany_le.2 HSL1.out)
  have hTL : T1.str.length ≤ 1099511627776 := by rw [← hT1]; exact Nat.le_trans pMany_le.2 HSL1.out
  have HM := Lib.hid hM; have HC1 := Lib.hid hc1; have HLT1 := Lib.hid hlt1; have HN1 := Lib.hid hN1; have HT1 := Lib.hid hT1; have HTL := Lib.hid hTL
  clear hM hr1 hr hc hc1 hl hlt1 hN1 hT1 hTL
  go_wp2_with fail
  refine HM.out.mono ?_; rintro _ W1 ⟨rfl, hr, hc⟩
  have hwo := (Blk.new w1 #[str nm, .slice none 0 0, .slice none 0 0, .slice none 0 0, .slice none 0 0, .slice none 0 0, .slice none 0 0] 45).kept hc (by simp; have := HLT1.out; omega)
  have hcw := (HC1.out.alloc (.cells #[str nm, .slice none 0 0, .slice none 0 0, .slice none 0 0, .slice none 0 0, .slice none 0 0, .slice none 0 0] 45)).trans hc (fun x hx => .inr (by simp at hx; omega))
  obtain ⟨br, hbr⟩ : ∃ br, w.heap.size = br := ⟨_, rfl⟩
  obtain ⟨bo, hbo⟩ : ∃ bo, w1.heap.size = bo := ⟨_, rfl⟩
  have hne : br ≠ bo := by have := HLT1.out; omega
  have HNE := Lib.hid hne
  rw [hbr] at hr
  rw [hbo] at hwo
  have HLO : Hid (w.heap.size ≤ br ∧ w.heap.size ≤ bo) := Lib.hid ⟨by omega, by have := HC1.out.size; omega⟩
  have HR := Lib.hid hr; have HO := Lib.hid hwo; have HCW := Lib.hid hcw
  have HBRW := Lib.hid hr.lt
  have HBOW := Lib.hid hwo.lt
  have HBR := Lib.hid hbr; have HBO := Lib.hid hbo
  clear hr hwo hc hcw hne
  go_wp2_with fail
  clear hbr hbo
  go_loopw [15] (fun i wr => ∃ (k : Nat) (v : Value), k ≤ N1 ∧ i = .int .i64 k ∧ wr.ownsRow 0 52 3 v k ((rep pSym k T1).1.flatMap SymD.cells) ∧ From W1.heap.size v ∧ Blk wr bo #[str nm, v, .slice none 0 0, .slice none 0 0, .slice none 0 0, .slice none 0 0, .slice none 0 0] 45 ∧ Rdr wr br (rep pSym k T1).2 ∧ Chg [br, bo] W1 wr) (fun i _ => N1 - (intOf i).toNat)
  case atStart => exact ⟨0, .slice none 0 0, Nat.zero_le _, rfl, World.ownsRow_nil _ _ _ _, From.nil _, HO.out, HR.out, Chg.refl _ _⟩
  case round =>
  obtain ⟨k, v, hk, rfl, ho, hf, hb, hr, hc⟩ := hrel
  by_cases hlt : k < N1
  · have HRS := Lib.hid HR

    have hnv1 : br ∉ blk v := hf.notin HBRW.out
    have hnv2 : bo ∉ blk v := hf.notin HBOW.out
    have hz : wr.drew.cell? ⟨bo, 1, none⟩ = some v := hb.cell 1 v rfl
    have hbz : bo ∉ br :: blk v := by simp only [List.mem_cons, not_or]; exact ⟨fun he => HNE.out he.symm, hnv2⟩
    have HZ := Lib.hid (Zone.of (X := br :: blk v) hz hbz)
    have HBZ := Lib.hid hbz
    obtain ⟨st, hst⟩ : ∃ st, (rep pSym k T1).2 = st := ⟨_, rfl⟩
    rw [hst] at hr
    have hsl : st.str.length ≤ 1099511627776 := by rw [← hst]; exact Nat.le_trans (rep_len pSym_len _ _) HTL.out
    have hT := rtext_any br st wr.drew hr hsl
    have HT := Lib.hid hT; have HST := Lib.hid hst; have HSL := Lib.hid hsl; have HOV := Lib.hid ho; have HF := Lib.hid hf; have HB := Lib.hid hb; have HC := Lib.hid hc

    have HNV1 := Lib.hid hnv1; have HNV2 := Lib.hid hnv2
    clear hT hst hsl ho hf hb hr hc hnv1 hnv2 hbz
    go_wp2_with fail
    refine wp_region_T (br :: blk v) rfl (by kernel_rfl) rfl ?_
    have hS : Chg (br :: blk v) wr.drew wr.drew := Chg.refl _ _
    repeat
      (with_reducible show wpX _ _ _ _ _ _ _ _
       first
         | refine wpX_nil ?_
         | refine wpX_skip rfl ?_
         | refine wpX_mv rfl rfl (by kernel_rfl) (fun _ _ => ?_)
         | refine wpX_ldC rfl rfl rfl (by exact HZ.out) (by assumption) (fun _ _ => ?_)
         | refine wpX_ef' rfl rfl rfl (fun _ _ => ?_)
       go_wp2_with fail)
    refine HT.out.mono ?_; rintro _ w3 ⟨rfl, hr, hcb⟩
    have hS : Chg (br :: blk v) wr.drew w3 := hcb.mono (fun x hx => .inl (by simp at hx; simp [hx]))
    have HCB := Lib.hid hcb; have HR1 := Lib.hid hr
    have hsl : (pText st).2.str.length ≤ 1099511627776 := Nat.le_trans (pText_len _) HSL.out
    have HSL := Lib.hid hsl
    have hT := number2_any br (pText st).2 w3 HR1.out HSL.out
    have HT := Lib.hid hT; clear hT
    clear hcb hr hsl
    go_wp2_with fail
    refine And.intro hS ?_
    repeat
      (with_reducible show wpX _ _ _ _ _ _ _ _
       first
         | refine wpX_nil ?_
         | refine wpX_skip rfl ?_
         | refine wpX_mv rfl rfl (by kernel_rfl) (fun _ _ => ?_)
         | refine wpX_ldC rfl rfl rfl (by exact HZ.out) (by assumption) (fun _ _ => ?_)
         | refine wpX_ef' rfl rfl rfl (fun _ _ => ?_)
       go_wp2_with fail)
    refine HT.out.mono ?_; rintro _ w4 ⟨rfl, hr, hcb⟩
    have hcb := HCB.out.then hcb
    have hS : Chg (br :: blk v) wr.drew w4 := hcb.mono (fun x hx => .inl (by simp at hx; simp [hx]))
    have HCB := Lib.hid hcb; have HR1 := Lib.hid hr
    have hsl : (pNum (pText st).2).2.str.length ≤ 1099511627776 := Nat.le_trans (pNum_len) HSL.out
    have HSL := Lib.hid hsl
    have hT := number2_any br (pNum (pText st).2).2 w4 HR1.out HSL.out
    have HT := Lib.hid hT; clear hT
    clear hcb hr hsl
    go_wp2_with fail
    refine And.intro hS ?_
    repeat
      (with_reducible show wpX _ _ _ _ _ _ _ _
       first
         | refine wpX_nil ?_
         | refine wpX_skip rfl ?_
         | refine wpX_mv rfl rfl (by kernel_rfl) (fun _ _ => ?_)
         | refine wpX_ldC rfl rfl rfl (by exact HZ.out) (by assumption) (fun _ _ => ?_)
         | refine wpX_ef' rfl rfl rfl (fun _ _ => ?_)
       go_wp2_with fail)
    refine HT.out.mono ?_; rintro _ w5 ⟨rfl, hr, hcb⟩
    have hcb := HCB.out.then hcb
    have hS : Chg (br :: blk v) wr.drew w5 := hcb.mono (fun x hx => .inl (by simp at hx; simp [hx]))
    have HCB := Lib.hid hcb; have HR1 := Lib.hid hr
    clear hcb hr
    go_wp2_with fail
    refine And.intro hS ?_
    repeat
      (with_reducible show wpX _ _ _ _ _ _ _ _
       first
         | refine wpX_nil ?_
         | refine wpX_skip rfl ?_
         | refine wpX_mv rfl rfl (by kernel_rfl) (fun _ _ => ?_)
         | refine wpX_ldC rfl rfl rfl (by exact HZ.out) (by assumption) (fun _ _ => ?_)
         | refine wpX_ef' rfl rfl rfl (fun _ _ => ?_)
       go_wp2_with fail)
    refine And.intro (hS.alloc _) ?_
    repeat
      (with_reducible show wpX _ _ _ _ _ _ _ _
       first
         | refine wpX_nil ?_
         | refine wpX_skip rfl ?_
         | refine wpX_mv rfl rfl (by kernel_rfl) (fun _ _ => ?_)
         | refine wpX_ldC rfl rfl rfl (by exact HZ.out) (by assumption) (fun _ _ => ?_)
         | refine wpX_ef' rfl rfl rfl (fun _ _ => ?_)
       go_wp2_with fail)
    have how := owns_kept (w := wr.drew) HOV.out ((HCB.out.alloc (.cells #[str (pText st).1, .int .i64 (pNum (pText st).2).1, .int .i64 (pNum (pNum (pText st).2).2).1] 52))) (fun g hg hm => HNV1.out (by rw [List.mem_singleton] at hm; rw [← hm]; exact hg))
    refine wpX_append _ _ 38 rfl rfl rfl 52 (.agg #[.string ⟨#[]⟩, .int .i64 0, .int .i64 0]) 3 32 infoSym Tryz.underlying38 rfl (by decide) v k _ rfl how ⟨w5.heap.size, 0, none⟩ 1 1 [str (pText st).1, .int .i64 (pNum (pText st).2).1, .int .i64 (pNum (pNum (pText st).2).2).1] rfl rfl (cells_new _ _ _) (by simp [Value.oneCell']) (by omega) (by unfold maxLen; omega) ?_
    intro v' w6 hown' hch' hmv'
    obtain ⟨a', c', rfl, _, _⟩ := own_at (by omega) hown'
    have hnext := loop_next (i := 1) HC.out HCB.out HR1.out HB.out HF.out HBRW.out HBOW.out HNE.out hown' hch' hmv'
    have hc6 : Chg (br :: blk v) wr.drew w6 := (hS.alloc _).then (hch'.mono (fun x hx => .inl (by simp [hx])))
    have hb6 := HB.out.kept (Chg.trans (S := br :: blk v) (⟨rfl, rfl, rfl, Nat.le_refl _, fun _ _ _ => rfl⟩ : Chg _ wr wr.drew) hc6 (fun x hx => .inl hx)) HBZ.out
    have hcell6 := hb6.cell 1 v rfl
    have hfz6 := hb6.frozen 1
    have HNEXT := Lib.hid hnext
    have HC6 := Lib.hid hc6
    clear hnext hown' hch' hmv' hb6 hS how hc6
    refine And.intro HC6.out ?_
    repeat
      (with_reducible show wpX _ _ _ _ _ _ _ _
       first
         | refine wpX_nil ?_
         | refine wpX_skip rfl ?_
         | refine wpX_mv rfl rfl (by kernel_rfl) (fun _ _ => ?_)
         | refine wpX_ldC rfl rfl rfl (by exact HZ.out) (by assumption) (fun _ _ => ?_)
         | refine wpX_ef' rfl rfl rfl (fun _ _ => ?_)
       go_wp2_with fail)
    refine stepX_ef rfl rfl (fun _ _ => ?_)
    change Oper.wp _ (Oper.mk _ _ _ _ _ _) _ _ _ _
    go_wp2_with fail
    go_roundw
    case rel =>
      obtain ⟨n1, n2, n3, n4, n5, _⟩ := HNEXT.out
      refine ⟨k + 1, _, by omega, by go_num, ?_, n2, n3, ?_, n5⟩
      · rw [rep_succ1, HST.out, List.flatMap_append]
        exact n1
      · rw [rep_succ2, HST.out]
        exact n4
    case measure => simp [intOf]; omega
  · have hkn : k = N1 := by omega
    rw [hkn] at ho hr
    obtain ⟨v1, rfl⟩ : ∃ x, x = v := ⟨_, rfl⟩
    obtain ⟨L1, hL⟩ : ∃ L, (rep pSym N1 T1).1 = L := ⟨_, rfl⟩
    obtain ⟨S2, hS⟩ : ∃ S, (rep pSym N1 T1).2 = S := ⟨_, rfl⟩
    have HLN1 := Lib.hid (show L1.length = N1 by rw [← hL, rep_count])
    have HSLN : S2.str.length ≤ 1099511627776 := by rw [← hS]; exact Nat.le_trans (rep_len pSym_len _ _) HTL.out
    have HSL2 := Lib.hid HSLN
    rw [hL] at ho
    rw [hS] at hr
    have HL1 := Lib.hid hL; have HS2 := Lib.hid hS
    obtain ⟨wr1, rfl⟩ : ∃ x, x = wr := ⟨_, rfl⟩
  
    have HOV1 := Lib.hid ho; have HB1 := Lib.hid hb; have HRD1 := Lib.hid hr; have HC1 := Lib.hid hc
  
    have HNV1 := Lib.hid (show br ∉ blk v1 ∧ bo ∉ blk v1 from ⟨hf.notin HBRW.out, hf.notin HBOW.out⟩)
    have hltb := owns_lt ho
    have HLB1 := Lib.hid hltb
    have HZ0 := Lib.hid (show br < wr1.heap.size ∧ bo < wr1.heap.size from ⟨hr.lt, hb.lt⟩)
    clear hL hS HSLN ho hf hb hr hc hltb
    clear hkn
    have hM := many_any br S2 wr1 HRD1.out HSL2.out
    obtain ⟨N2, hN⟩ : ∃ N, (pMany S2).1 = N := ⟨_, rfl⟩
    obtain ⟨T2, hT⟩ : ∃ T, (pMany S2).2 = T := ⟨_, rfl⟩
    rw [hN, hT] at hM
    have hNL2 : N2 ≤ 1099511627776 := by rw [← hN]; exact Nat.le_trans pMany_le.1 (Nat.le_trans pMany_le.2 HSL2.out)
    have hTL : T2.str.length ≤ 1099511627776 := by rw [← hT]; exact Nat.le_trans pMany_le.2 HSL2.out
    have HM := Lib.hid hM; have HN2 := Lib.hid hN; have HT2 := Lib.hid hT; have HTL := Lib.hid hTL
    clear hM hN hT hTL
    go_wp2_with fail
    refine HM.out.mono ?_; rintro _ W2 ⟨rfl, hr, hc⟩
    have hb := HB1.out.kept hc (by simpa using HNE.out.symm)
    have HR := Lib.hid hr; have HO := Lib.hid hb
    have HBRW := Lib.hid hr.lt
    have HBOW := Lib.hid hb.lt
    have HD2 := Lib.hid hc
    have HBRW2 := Lib.hid hr.lt
    have HBOW2 := Lib.hid hb.lt
    clear hr hb hc
    go_wp2_with fail
    go_loopw [36] (fun i wr => ∃ (k : Nat) (v : Value) (ms : List UseM), k ≤ N2 ∧ i = .int .i64 k ∧ wr.ownsRow 0 56 3 v k (ms.flatMap UseM.cells) ∧ From W2.heap.size v ∧ Blk wr bo #[str nm, v1, v, .slice none 0 0, .slice none 0 0, .slice none 0 0, .slice none 0 0] 45 ∧ Rdr wr br (rep pUse k T2).2 ∧ Chg [br, bo] W2 wr ∧ ms.map (·.u) = (rep pUse k T2).1 ∧ UsesIn W2.heap.size wr v ms) (fun i _ => N2 - (intOf i).toNat)
    case atStart => exact ⟨0, .slice none 0 0, [], Nat.zero_le _, rfl, World.ownsRow_nil _ _ _ _, From.nil _, HO.out, HR.out, Chg.refl _ _, rfl, fun _ h => by cases h⟩
    case round =>
    obtain ⟨k, v, ms, hk, rfl, ho, hf, hb, hr, hc, hms, hin⟩ := hrel
    by_cases hlt : k < N2
    · have HRS := Lib.hid HR
  
      have hnv1 : br ∉ blk v := hf.notin HBRW.out
      have hnv2 : bo ∉ blk v := hf.notin HBOW.out
      have hz : wr.drew.cell? ⟨bo, 2, none⟩ = some v := hb.cell 2 v rfl
      have hbz : bo ∉ br :: blk v := by simp only [List.mem_cons, not_or]; exact ⟨fun he => HNE.out he.symm, hnv2⟩
      have HZ := Lib.hid (Zone.of (X := br :: blk v) hz hbz)
      have HBZ := Lib.hid hbz
      obtain ⟨st, hst⟩ : ∃ st, (rep pUse k T2).2 = st := ⟨_, rfl⟩
      rw [hst] at hr
      have hsl : st.str.length ≤ 1099511627776 := by rw [← hst]; exact Nat.le_trans (rep_len pUse_len _ _) HTL.out
      have hT := rtext_any br st wr.drew hr hsl
      have HT := Lib.hid hT; have HST := Lib.hid hst; have HSL := Lib.hid hsl; have HOV := Lib.hid ho; have HF := Lib.hid hf; have HB := Lib.hid hb; have HC := Lib.hid hc
      have HMS := Lib.hid hms; have HIN := Lib.hid hin; clear hms hin
      have HNV1 := Lib.hid hnv1; have HNV2 := Lib.hid hnv2
      clear hT hst hsl ho hf hb hr hc hnv1 hnv2 hbz
      go_wp2_with fail
      refine wp_region_T (br :: blk v) rfl (by kernel_rfl) rfl ?_
      have hS : Chg (br :: blk v) wr.drew wr.drew := Chg.refl _ _
      repeat
        (with_reducible show wpX _ _ _ _ _ _ _ _
         first
           | refine wpX_nil ?_
           | refine wpX_skip rfl ?_
           | refine wpX_mv rfl rfl (by kernel_rfl) (fun _ _ => ?_)
           | refine wpX_ldC rfl rfl rfl (by exact HZ.out) (by assumption) (fun _ _ => ?_)
           | refine wpX_ef' rfl rfl rfl (fun _ _ => ?_)
         go_wp2_with fail)
      refine HT.out.mono ?_; rintro _ w3 ⟨rfl, hr, hcb⟩
      have hS : Chg (br :: blk v) wr.drew w3 := hcb.mono (fun x hx => .inl (by simp at hx; simp [hx]))
      have HCB := Lib.hid hcb; have HR1 := Lib.hid hr
      have hsl : (pText st).2.str.length ≤ 1099511627776 := Nat.le_trans (pText_len _) HSL.out
      have HSL := Lib.hid hsl
      have hT := rtext_any br (pText st).2 w3 HR1.out HSL.out
      have HT := Lib.hid hT; clear hT
      clear hcb hr hsl
      go_wp2_with fail
      refine And.intro hS ?_
      repeat
        (with_reducible show wpX _ _ _ _ _ _ _ _
         first
           | refine wpX_nil ?_
           | refine wpX_skip rfl ?_
           | refine wpX_mv rfl rfl (by kernel_rfl) (fun _ _ => ?_)
           | refine wpX_ldC rfl rfl rfl (by exact HZ.out) (by assumption) (fun _ _ => ?_)
           | refine wpX_ef' rfl rfl rfl (fun _ _ => ?_)
         go_wp2_with fail)
      refine HT.out.mono ?_; rintro _ w4 ⟨rfl, hr, hcb⟩
      have hcb := HCB.out.then hcb
      have hS : Chg (br :: blk v) wr.drew w4 := hcb.mono (fun x hx => .inl (by simp at hx; simp [hx]))
      have HCB := Lib.hid hcb; have HR1 := Lib.hid hr
      have hsl : (pText (pText st).2).2.str.length ≤ 1099511627776 := Nat.le_trans (pText_len _) HSL.out
      have HSL := Lib.hid hsl
      have hT := rtexts_any br (pText (pText st).2).2 w4 HR1.out HSL.out
      have HT := Lib.hid hT; clear hT
      clear hcb hr hsl
      go_wp2_with fail
      refine And.intro hS ?_
      repeat
        (with_reducible show wpX _ _ _ _ _ _ _ _
         first
           | refine wpX_nil ?_
           | refine wpX_skip rfl ?_
           | refine wpX_mv rfl rfl (by kernel_rfl) (fun _ _ => ?_)
           | refine wpX_ldC rfl rfl rfl (by exact HZ.out) (by assumption) (fun _ _ => ?_)
           | refine wpX_ef' rfl rfl rfl (fun _ _ => ?_)
         go_wp2_with fail)
      refine HT.out.mono ?_; rintro _ w5 ⟨v3, rfl, hov, hfv, hr, hcb⟩
      obtain ⟨a3, c3, rfl, hat3, hbl3⟩ := own_at (by omega) hov
      have HAT3 := Lib.hid hat3; have HBL3 := Lib.hid (show ∀ p, a3 = some p → w4.heap.size ≤ p.block ∧ p.block < w5.heap.size from fun p hp => ⟨hfv _ (hbl3 p hp), owns_lt hov _ (hbl3 p hp)⟩)
      have HS4 := Lib.hid HCB.out.size
      clear hov hfv hat3 hbl3
      have hcb := HCB.out.then hcb
      have hS : Chg (br :: blk v) wr.drew w5 := hcb.mono (fun x hx => .inl (by simp at hx; simp [hx]))
      have HCB := Lib.hid hcb; have HR1 := Lib.hid hr
      clear hcb hr
      go_wp2_with fail
      refine And.intro hS ?_
      repeat
        (with_reducible show wpX _ _ _ _ _ _ _ _
         first
           | refine wpX_nil ?_
           | refine wpX_skip rfl ?_
           | refine wpX_mv rfl rfl (by kernel_rfl) (fun _ _ => ?_)
           | refine wpX_ldC rfl rfl rfl (by exact HZ.out) (by assumption) (fun _ _ => ?_)
           | refine wpX_ef' rfl rfl rfl (fun _ _ => ?_)
         go_wp2_with fail)
      refine And.intro (hS.alloc _) ?_
      repeat
        (with_reducible show wpX _ _ _ _ _ _ _ _
         first
           | refine wpX_nil ?_
           | refine wpX_skip rfl ?_
           | refine wpX_mv rfl rfl (by kernel_rfl) (fun _ _ => ?_)
           | refine wpX_ldC rfl rfl rfl (by exact HZ.out) (by assumption) (fun _ _ => ?_)
           | refine wpX_ef' rfl rfl rfl (fun _ _ => ?_)
         go_wp2_with fail)
      have how := owns_kept (w := wr.drew) HOV.out ((HCB.out.alloc (.cells #[str (pText st).1, str (pText (pText st).2).1, (.slice a3 (pTexts (pText (pText st).2).2).1.length c3)] 56))) (fun g hg hm => HNV1.out (by rw [List.mem_singleton] at hm; rw [← hm]; exact hg))
      refine wpX_append _ _ 39 rfl rfl rfl 56 (.agg #[.string ⟨#[]⟩, .string ⟨#[]⟩, .slice none 0 0]) 3 56 infoUse Tryz.underlying39 rfl (by decide) v k _ rfl how ⟨w5.heap.size, 0, none⟩ 1 1 [str (pText st).1, str (pText (pText st).2).1, (.slice a3 (pTexts (pText (pText st).2).2).1.length c3)] rfl rfl (cells_new _ _ _) (by simp [Value.oneCell']) (by omega) (by unfold maxLen; omega) ?_
      intro v' w6 hown' hch' hmv'
      obtain ⟨a', c', rfl, _, _⟩ := own_at (by omega) hown'
      have hnext := loop_next (i := 2) HC.out HCB.out HR1.out HB.out HF.out HBRW.out HBOW.out HNE.out hown' hch' hmv'
      have hc6 : Chg (br :: blk v) wr.drew w6 := (hS.alloc _).then (hch'.mono (fun x hx => .inl (by simp [hx])))
      have hb6 := HB.out.kept (Chg.trans (S := br :: blk v) (⟨rfl, rfl, rfl, Nat.le_refl _, fun _ _ _ => rfl⟩ : Chg _ wr wr.drew) hc6 (fun x hx => .inl hx)) HBZ.out
      have huse := use_next (i := 2) (m := ⟨(pUse st).1, a3, c3⟩) HC.out HCB.out HR1.out HB.out HF.out HBRW.out HBOW.out HNE.out hown' hch' hmv' HOV.out HS4.out HIN.out HAT3.out HBL3.out
      have HUSE := Lib.hid huse; clear huse
      have hcell6 := hb6.cell 2 v rfl
      have hfz6 := hb6.frozen 2
      have HNEXT := Lib.hid hnext
      have HC6 := Lib.hid hc6
      clear hnext hown' hch' hmv' hb6 hS how hc6
      refine And.intro HC6.out ?_
      repeat
        (with_reducible show wpX _ _ _ _ _ _ _ _
         first
           | refine wpX_nil ?_
           | refine wpX_skip rfl ?_
           | refine wpX_mv rfl rfl (by kernel_rfl) (fun _ _ => ?_)
           | refine wpX_ldC rfl rfl rfl (by exact HZ.out) (by assumption) (fun _ _ => ?_)
           | refine wpX_ef' rfl rfl rfl (fun _ _ => ?_)
         go_wp2_with fail)
      refine stepX_ef rfl rfl (fun _ _ => ?_)
      change Oper.wp _ (Oper.mk _ _ _ _ _ _) _ _ _ _
      go_wp2_with fail
      go_roundw
      case rel =>
        obtain ⟨n1, n2, n3, n4, n5, _⟩ := HNEXT.out
        refine ⟨k + 1, _, ms ++ [⟨(pUse st).1, a3, c3⟩], by omega, by go_num, ?_, n2, n3, ?_, n5, ?_, HUSE.out⟩
        · rw [List.flatMap_append]
          exact n1
        · rw [rep_succ2, HST.out]
          exact n4
        · rw [rep_succ1, HST.out, List.map_append, HMS.out]
          rfl
      case measure => simp [intOf]; omega
    · have hkn : k = N2 := by omega
      rw [hkn] at ho hr hms
      obtain ⟨v2, rfl⟩ : ∃ x, x = v := ⟨_, rfl⟩
      obtain ⟨L2, hL⟩ : ∃ L, (rep pUse N2 T2).1 = L := ⟨_, rfl⟩
      obtain ⟨S3, hS⟩ : ∃ S, (rep pUse N2 T2).2 = S := ⟨_, rfl⟩
      have HLN2 := Lib.hid (show L2.length = N2 by rw [← hL, rep_count])
      have HSLN : S3.str.length ≤ 1099511627776 := by rw [← hS]; exact Nat.le_trans (rep_len pUse_len _ _) HTL.out
      have HSL3 := Lib.hid HSLN
      rw [hL] at hms
      rw [hS] at hr
      have HL2 := Lib.hid hL; have HS3 := Lib.hid hS
      obtain ⟨wr2, rfl⟩ : ∃ x, x = wr := ⟨_, rfl⟩
      obtain ⟨ms2, rfl⟩ : ∃ x, x = ms := ⟨_, rfl⟩
      have HOV2 := Lib.hid ho; have HB2 := Lib.hid hb; have HRD2 := Lib.hid hr; have HC2 := Lib.hid hc
      have HMS := Lib.hid hms; have HIN := Lib.hid hin; clear hms hin
      have HNV2 := Lib.hid (show br ∉ blk v2 ∧ bo ∉ blk v2 from ⟨hf.notin HBRW.out, hf.notin HBOW.out⟩)
      have hltb := owns_lt ho
      have HLB2 := Lib.hid hltb
      have HZ0 := Lib.hid (show br < wr2.heap.size ∧ bo < wr2.heap.size from ⟨hr.lt, hb.lt⟩)
      clear hL hS HSLN ho hf hb hr hc hltb
      clear hkn
      have hM := many_any br S3 wr2 HRD2.out HSL3.out
      obtain ⟨N3, hN⟩ : ∃ N, (pMany S3).1 = N := ⟨_, rfl⟩
      obtain ⟨T3, hT⟩ : ∃ T, (pMany S3).2 = T := ⟨_, rfl⟩
      rw [hN, hT] at hM
      have hNL3 : N3 ≤ 1099511627776 := by rw [← hN]; exact Nat.le_trans pMany_le.1 (Nat.le_trans pMany_le.2 HSL3.out)
      have hTL : T3.str.length ≤ 1099511627776 := by rw [← hT]; exact Nat.le_trans pMany_le.2 HSL3.out
      have HM := Lib.hid hM; have HN3 := Lib.hid hN; have HT3 := Lib.hid hT; have HTL := Lib.hid hTL
      clear hM hN hT hTL
      go_wp2_with fail
      refine HM.out.mono ?_; rintro _ W3 ⟨rfl, hr, hc⟩
      have hb := HB2.out.kept hc (by simpa using HNE.out.symm)
      have HR := Lib.hid hr; have HO := Lib.hid hb
      have HBRW := Lib.hid hr.lt
      have HBOW := Lib.hid hb.lt
      have HD3 := Lib.hid hc
      have HBRW3 := Lib.hid hr.lt
      have HBOW3 := Lib.hid hb.lt
      clear hr hb hc
      go_wp2_with fail
      go_loopw [57] (fun i wr => ∃ (k : Nat) (v : Value), k ≤ N3 ∧ i = .int .i64 k ∧ wr.ownsRow 0 54 4 v k ((rep pGlob k T3).1.flatMap GlobD.cells) ∧ From W3.heap.size v ∧ Blk wr bo #[str nm, v1, v2, v, .slice none 0 0, .slice none 0 0, .slice none 0 0] 45 ∧ Rdr wr br (rep pGlob k T3).2 ∧ Chg [br, bo] W3 wr) (fun i _ => N3 - (intOf i).toNat)
      case atStart => exact ⟨0, .slice none 0 0, Nat.zero_le _, rfl, World.ownsRow_nil _ _ _ _, From.nil _, HO.out, HR.out, Chg.refl _ _⟩
      case round =>
      obtain ⟨k, v, hk, rfl, ho, hf, hb, hr, hc⟩ := hrel
      by_cases hlt : k < N3
      · have HRS := Lib.hid HR
    
        have hnv1 : br ∉ blk v := hf.notin HBRW.out
        have hnv2 : bo ∉ blk v := hf.notin HBOW.out
        have hz : wr.drew.cell? ⟨bo, 3, none⟩ = some v := hb.cell 3 v rfl
        have hbz : bo ∉ br :: blk v := by simp only [List.mem_cons, not_or]; exact ⟨fun he => HNE.out he.symm, hnv2⟩
        have HZ := Lib.hid (Zone.of (X := br :: blk v) hz hbz)
        have HBZ := Lib.hid hbz
        obtain ⟨st, hst⟩ : ∃ st, (rep pGlob k T3).2 = st := ⟨_, rfl⟩
        rw [hst] at hr
        have hsl : st.str.length ≤ 1099511627776 := by rw [← hst]; exact Nat.le_trans (rep_len pGlob_len _ _) HTL.out
        have hT := rtext_any br st wr.drew hr hsl
        have HT := Lib.hid hT; have HST := Lib.hid hst; have HSL := Lib.hid hsl; have HOV := Lib.hid ho; have HF := Lib.hid hf; have HB := Lib.hid hb; have HC := Lib.hid hc
    
        have HNV1 := Lib.hid hnv1; have HNV2 := Lib.hid hnv2
        clear hT hst hsl ho hf hb hr hc hnv1 hnv2 hbz
        go_wp2_with fail
        refine wp_region_T (br :: blk v) rfl (by kernel_rfl) rfl ?_
        have hS : Chg (br :: blk v) wr.drew wr.drew := Chg.refl _ _
        repeat
          (with_reducible show wpX _ _ _ _ _ _ _ _
           first
             | refine wpX_nil ?_
             | refine wpX_skip rfl ?_
             | refine wpX_mv rfl rfl (by kernel_rfl) (fun _ _ => ?_)
             | refine wpX_ldC rfl rfl rfl (by exact HZ.out) (by assumption) (fun _ _ => ?_)
             | refine wpX_ef' rfl rfl rfl (fun _ _ => ?_)
           go_wp2_with fail)
        refine HT.out.mono ?_; rintro _ w3 ⟨rfl, hr, hcb⟩
        have hS : Chg (br :: blk v) wr.drew w3 := hcb.mono (fun x hx => .inl (by simp at hx; simp [hx]))
        have HCB := Lib.hid hcb; have HR1 := Lib.hid hr
        have hsl : (pText st).2.str.length ≤ 1099511627776 := Nat.le_trans (pText_len _) HSL.out
        have HSL := Lib.hid hsl
        have hT := number2_any br (pText st).2 w3 HR1.out HSL.out
        have HT := Lib.hid hT; clear hT
        clear hcb hr hsl
        go_wp2_with fail
        refine And.intro hS ?_
        repeat
          (with_reducible show wpX _ _ _ _ _ _ _ _
           first
             | refine wpX_nil ?_
             | refine wpX_skip rfl ?_
             | refine wpX_mv rfl rfl (by kernel_rfl) (fun _ _ => ?_)
             | refine wpX_ldC rfl rfl rfl (by exact HZ.out) (by assumption) (fun _ _ => ?_)
             | refine wpX_ef' rfl rfl rfl (fun _ _ => ?_)
           go_wp2_with fail)
        refine HT.out.mono ?_; rintro _ w4 ⟨rfl, hr, hcb⟩
        have hcb := HCB.out.then hcb
        have hS : Chg (br :: blk v) wr.drew w4 := hcb.mono (fun x hx => .inl (by simp at hx; simp [hx]))
        have HCB := Lib.hid hcb; have HR1 := Lib.hid hr
        have hsl : (pNum (pText st).2).2.str.length ≤ 1099511627776 := Nat.le_trans (pNum_len) HSL.out
        have HSL := Lib.hid hsl
        have hT := rflag_any br (pNum (pText st).2).2 w4 HR1.out HSL.out
        have HT := Lib.hid hT; clear hT
        clear hcb hr hsl
        go_wp2_with fail
        refine And.intro hS ?_
        repeat
          (with_reducible show wpX _ _ _ _ _ _ _ _
           first
             | refine wpX_nil ?_
             | refine wpX_skip rfl ?_
             | refine wpX_mv rfl rfl (by kernel_rfl) (fun _ _ => ?_)
             | refine wpX_ldC rfl rfl rfl (by exact HZ.out) (by assumption) (fun _ _ => ?_)
             | refine wpX_ef' rfl rfl rfl (fun _ _ => ?_)
           go_wp2_with fail)
        refine HT.out.mono ?_; rintro _ w5 ⟨rfl, hr, hcb⟩
        have hcb := HCB.out.then hcb
        have hS : Chg (br :: blk v) wr.drew w5 := hcb.mono (fun x hx => .inl (by simp at hx; simp [hx]))
        have HCB := Lib.hid hcb; have HR1 := Lib.hid hr
        clear hcb hr
        go_wp2_with fail
        refine And.intro hS ?_
        repeat
          (with_reducible show wpX _ _ _ _ _ _ _ _
           first
             | refine wpX_nil ?_
             | refine wpX_skip rfl ?_
             | refine wpX_mv rfl rfl (by kernel_rfl) (fun _ _ => ?_)
             | refine wpX_ldC rfl rfl rfl (by exact HZ.out) (by assumption) (fun _ _ => ?_)
             | refine wpX_ef' rfl rfl rfl (fun _ _ => ?_)
           go_wp2_with fail)
        refine And.intro (hS.alloc _) ?_
        repeat
          (with_reducible show wpX _ _ _ _ _ _ _ _
           first
             | refine wpX_nil ?_
             | refine wpX_skip rfl ?_
             | refine wpX_mv rfl rfl (by kernel_rfl) (fun _ _ => ?_)
             | refine wpX_ldC rfl rfl rfl (by exact HZ.out) (by assumption) (fun _ _ => ?_)
             | refine wpX_ef' rfl rfl rfl (fun _ _ => ?_)
           go_wp2_with fail)
        have how := owns_kept (w := wr.drew) HOV.out ((HCB.out.alloc (.cells #[str (pText st).1, .int .i64 0, .int .i64 (pNum (pText st).2).1, .bool (pFlag (pNum (pText st).2).2).1] 54))) (fun g hg hm => HNV1.out (by rw [List.mem_singleton] at hm; rw [← hm]; exact hg))
        refine wpX_append _ _ 40 rfl rfl rfl 54 (.agg #[.string ⟨#[]⟩, .int .i64 0, .int .i64 0, .bool false]) 4 40 infoGlob Tryz.underlying40 rfl (by decide) v k _ rfl how ⟨w5.heap.size, 0, none⟩ 1 1 [str (pText st).1, .int .i64 0, .int .i64 (pNum (pText st).2).1, .bool (pFlag (pNum (pText st).2).2).1] rfl rfl (cells_new _ _ _) (by simp [Value.oneCell']) (by omega) (by unfold maxLen; omega) ?_
        intro v' w6 hown' hch' hmv'
        obtain ⟨a', c', rfl, _, _⟩ := own_at (by omega) hown'
        have hnext := loop_next (i := 3) HC.out HCB.out HR1.out HB.out HF.out HBRW.out HBOW.out HNE.out hown' hch' hmv'
        have hc6 : Chg (br :: blk v) wr.drew w6 := (hS.alloc _).then (hch'.mono (fun x hx => .inl (by simp [hx])))
        have hb6 := HB.out.kept (Chg.trans (S := br :: blk v) (⟨rfl, rfl, rfl, Nat.le_refl _, fun _ _ _ => rfl⟩ : Chg _ wr wr.drew) hc6 (fun x hx => .inl hx)) HBZ.out
        have hcell6 := hb6.cell 3 v rfl
        have hfz6 := hb6.frozen 3
        have HNEXT := Lib.hid hnext
        have HC6 := Lib.hid hc6
        clear hnext hown' hch' hmv' hb6 hS how hc6
        refine And.intro HC6.out ?_
        repeat
          (with_reducible show wpX _ _ _ _ _ _ _ _
           first
             | refine wpX_nil ?_
             | refine wpX_skip rfl ?_
             | refine wpX_mv rfl rfl (by kernel_rfl) (fun _ _ => ?_)
             | refine wpX_ldC rfl rfl rfl (by exact HZ.out) (by assumption) (fun _ _ => ?_)
             | refine wpX_ef' rfl rfl rfl (fun _ _ => ?_)
           go_wp2_with fail)
        refine stepX_ef rfl rfl (fun _ _ => ?_)
        change Oper.wp _ (Oper.mk _ _ _ _ _ _) _ _ _ _
        go_wp2_with fail
        go_roundw
        case rel =>
          obtain ⟨n1, n2, n3, n4, n5, _⟩ := HNEXT.out
          refine ⟨k + 1, _, by omega, by go_num, ?_, n2, n3, ?_, n5⟩
          · rw [rep_succ1, HST.out, List.flatMap_append]
            exact n1
          · rw [rep_succ2, HST.out]
            exact n4
        case measure => simp [intOf]; omega
      · have hkn : k = N3 := by omega
        rw [hkn] at ho hr
        obtain ⟨v3, rfl⟩ : ∃ x, x = v := ⟨_, rfl⟩
        obtain ⟨L3, hL⟩ : ∃ L, (rep pGlob N3 T3).1 = L := ⟨_, rfl⟩
        obtain ⟨S4, hS⟩ : ∃ S, (rep pGlob N3 T3).2 = S := ⟨_, rfl⟩
        have HLN3 := Lib.hid (show L3.length = N3 by rw [← hL, rep_count])
        have HSLN : S4.str.length ≤ 1099511627776 := by rw [← hS]; exact Nat.le_trans (rep_len pGlob_len _ _) HTL.out
        have HSL4 := Lib.hid HSLN
        rw [hL] at ho
        rw [hS] at hr
        have HL3 := Lib.hid hL; have HS4 := Lib.hid hS
        obtain ⟨wr3, rfl⟩ : ∃ x, x = wr := ⟨_, rfl⟩
      
        have HOV3 := Lib.hid ho; have HB3 := Lib.hid hb; have HRD3 := Lib.hid hr; have HC3 := Lib.hid hc
      
        have HNV3 := Lib.hid (show br ∉ blk v3 ∧ bo ∉ blk v3 from ⟨hf.notin HBRW.out, hf.notin HBOW.out⟩)
        have hltb := owns_lt ho
        have HLB3 := Lib.hid hltb
        have HZ0 := Lib.hid (show br < wr3.heap.size ∧ bo < wr3.heap.size from ⟨hr.lt, hb.lt⟩)
        clear hL hS HSLN ho hf hb hr hc hltb
        clear hkn
        have hT := rtexts_any br S4 wr3 HRD3.out HSL4.out
        obtain ⟨L9, hL⟩ : ∃ N, (pTexts S4).1 = N := ⟨_, rfl⟩
        obtain ⟨T4, hS⟩ : ∃ T, (pTexts S4).2 = T := ⟨_, rfl⟩
        rw [hL, hS] at hT
        have hNL4 : L9.length ≤ 1099511627776 := by rw [← hL, pTexts_eq]; exact Nat.le_trans (pList_le pText S4) HSL4.out
        have hTL : T4.str.length ≤ 1099511627776 := by rw [← hS]; exact Nat.le_trans (pTexts_len _) HSL4.out
        have HT := Lib.hid hT; have HL9 := Lib.hid hL; have HT4 := Lib.hid hS; have HTL := Lib.hid hTL
        clear hT hL hS hTL
        go_wp2_with fail
        refine HT.out.mono ?_; rintro _ w9 ⟨v9, rfl, hov, hfv, hr, hc⟩
        have hb := HB3.out.kept hc (by simpa using HNE.out.symm)
        have hnv9 : br ∉ blk v9 ∧ bo ∉ blk v9 := ⟨hfv.notin HZ0.out.1, hfv.notin HZ0.out.2⟩
        obtain ⟨N4, hN4⟩ : ∃ n, L9.length = n := ⟨_, rfl⟩
        have hov : w9.ownsRow 0 9 1 v9 N4 (L9.map fun x => .string (bs x)) := by have h := hov; unfold OwnT at h; rwa [hN4] at h
        rw [hN4] at hNL4
        obtain ⟨a5, c5, rfl, hat5, hbl5⟩ := own_at (by omega) hov
        have hcell9 := hb.cell 5 _ rfl
        have hfz9 := hb.frozen 5
        have hb9 := hb.set 5 (.slice a5 N4 c5)
        have hc9 := Chg.set1 w9 bo 5 (.slice a5 N4 c5)
        have hov9 := owns_kept hov hc9 (fun g hg hm => by rw [List.mem_singleton] at hm; subst hm; exact hnv9.2 hg)
        have hr9 : Rdr _ br T4 := hr.kept hc9 (by simpa using HNE.out)
        have hd9 : Chg [br, bo] wr3 _ := (hc.mono (fun x hx => .inl (by simp at hx; simp [hx]))).then (hc9.mono (fun x hx => .inl (by simp at hx; simp [hx])))
        obtain ⟨W4, hW4⟩ : ∃ W, w9.setCell ⟨bo, 5, none⟩ (.slice a5 N4 c5) = W := ⟨_, rfl⟩
        rw [hW4] at hb9 hov9 hr9 hd9
        have HR := Lib.hid hr9; have HO := Lib.hid hb9; have HOV9 := Lib.hid hov9; have HD4 := Lib.hid hd9; have HNV9 := Lib.hid hnv9
        have HBRW := Lib.hid hr9.lt
        have HBOW := Lib.hid hb9.lt
        have HLB9 := Lib.hid (owns_lt hov9)
        have HW4 := Lib.hid hW4
        have HN4 := Lib.hid hN4
        clear hc9 hov hfv hr hc hnv9 hb hb9 hov9 hr9 hd9 hat5 hbl5 hW4 hN4
        go_wp2_with fail
        rw [HW4.out]
        go_loopw [86] (fun i wr => ∃ (k : Nat) (v : Value), k ≤ N4 ∧ i = .int .i64 k ∧ wr.ownsRow 0 47 3 v k ((rep pEnt k T4).1.flatMap EntD.cells) ∧ From W4.heap.size v ∧ Blk wr bo #[str nm, v1, v2, v3, v, .slice a5 N4 c5, .slice none 0 0] 45 ∧ Rdr wr br (rep pEnt k T4).2 ∧ Chg [br, bo] W4 wr) (fun i _ => N4 - (intOf i).toNat)
        case atStart => exact ⟨0, .slice none 0 0, Nat.zero_le _, rfl, World.ownsRow_nil _ _ _ _, From.nil _, HO.out, HR.out, Chg.refl _ _⟩
        case round =>
        obtain ⟨k, v, hk, rfl, ho, hf, hb, hr, hc⟩ := hrel
        by_cases hlt : k < N4
        · have HRS := Lib.hid HR
      
          have hnv1 : br ∉ blk v := hf.notin HBRW.out
          have hnv2 : bo ∉ blk v := hf.notin HBOW.out
          have hz : wr.drew.cell? ⟨bo, 4, none⟩ = some v := hb.cell 4 v rfl
          have hbz : bo ∉ br :: blk v := by simp only [List.mem_cons, not_or]; exact ⟨fun he => HNE.out he.symm, hnv2⟩
          have HZ := Lib.hid (Zone.of (X := br :: blk v) hz hbz)
          have HBZ := Lib.hid hbz
          obtain ⟨st, hst⟩ : ∃ st, (rep pEnt k T4).2 = st := ⟨_, rfl⟩
          rw [hst] at hr
          have hsl : st.str.length ≤ 1099511627776 := by rw [← hst]; exact Nat.le_trans (rep_len pEnt_len _ _) HTL.out
          have hT := number2_any br st wr.drew hr hsl
          have HT := Lib.hid hT; have HST := Lib.hid hst; have HSL := Lib.hid hsl; have HOV := Lib.hid ho; have HF := Lib.hid hf; have HB := Lib.hid hb; have HC := Lib.hid hc
      
          have HNV1 := Lib.hid hnv1; have HNV2 := Lib.hid hnv2
          clear hT hst hsl ho hf hb hr hc hnv1 hnv2 hbz
          go_wp2_with fail
          refine wp_region_T (br :: blk v) rfl (by kernel_rfl) rfl ?_
          have hS : Chg (br :: blk v) wr.drew wr.drew := Chg.refl _ _
          repeat
            (with_reducible show wpX _ _ _ _ _ _ _ _
             first
               | refine wpX_nil ?_
               | refine wpX_skip rfl ?_
               | refine wpX_mv rfl rfl (by kernel_rfl) (fun _ _ => ?_)
               | refine wpX_ldC rfl rfl rfl (by exact HZ.out) (by assumption) (fun _ _ => ?_)
               | refine wpX_ef' rfl rfl rfl (fun _ _ => ?_)
             go_wp2_with fail)
          refine HT.out.mono ?_; rintro _ w3 ⟨rfl, hr, hcb⟩
          have hS : Chg (br :: blk v) wr.drew w3 := hcb.mono (fun x hx => .inl (by simp at hx; simp [hx]))
          have HCB := Lib.hid hcb; have HR1 := Lib.hid hr
          have hsl : (pNum st).2.str.length ≤ 1099511627776 := Nat.le_trans (pNum_len) HSL.out
          have HSL := Lib.hid hsl
          have hT := number2_any br (pNum st).2 w3 HR1.out HSL.out
          have HT := Lib.hid hT; clear hT
          clear hcb hr hsl
          go_wp2_with fail
          refine And.intro hS ?_
          repeat
            (with_reducible show wpX _ _ _ _ _ _ _ _
             first
               | refine wpX_nil ?_
               | refine wpX_skip rfl ?_
               | refine wpX_mv rfl rfl (by kernel_rfl) (fun _ _ => ?_)
               | refine wpX_ldC rfl rfl rfl (by exact HZ.out) (by assumption) (fun _ _ => ?_)
               | refine wpX_ef' rfl rfl rfl (fun _ _ => ?_)
             go_wp2_with fail)
          refine HT.out.mono ?_; rintro _ w4 ⟨rfl, hr, hcb⟩
          have hcb := HCB.out.then hcb
          have hS : Chg (br :: blk v) wr.drew w4 := hcb.mono (fun x hx => .inl (by simp at hx; simp [hx]))
          have HCB := Lib.hid hcb; have HR1 := Lib.hid hr
          have hsl : (pNum (pNum st).2).2.str.length ≤ 1099511627776 := Nat.le_trans (pNum_len) HSL.out
          have HSL := Lib.hid hsl
          have hT := number2_any br (pNum (pNum st).2).2 w4 HR1.out HSL.out
          have HT := Lib.hid hT; clear hT
          clear hcb hr hsl
          go_wp2_with fail
          refine And.intro hS ?_
          repeat
            (with_reducible show wpX _ _ _ _ _ _ _ _
             first
               | refine wpX_nil ?_
               | refine wpX_skip rfl ?_
               | refine wpX_mv rfl rfl (by kernel_rfl) (fun _ _ => ?_)
               | refine wpX_ldC rfl rfl rfl (by exact HZ.out) (by assumption) (fun _ _ => ?_)
               | refine wpX_ef' rfl rfl rfl (fun _ _ => ?_)
             go_wp2_with fail)
          refine HT.out.mono ?_; rintro _ w5 ⟨rfl, hr, hcb⟩
          have hcb := HCB.out.then hcb
          have hS : Chg (br :: blk v) wr.drew w5 := hcb.mono (fun x hx => .inl (by simp at hx; simp [hx]))
          have HCB := Lib.hid hcb; have HR1 := Lib.hid hr
          clear hcb hr
          go_wp2_with fail
          refine And.intro hS ?_
          repeat
            (with_reducible show wpX _ _ _ _ _ _ _ _
             first
               | refine wpX_nil ?_
               | refine wpX_skip rfl ?_
               | refine wpX_mv rfl rfl (by kernel_rfl) (fun _ _ => ?_)
               | refine wpX_ldC rfl rfl rfl (by exact HZ.out) (by assumption) (fun _ _ => ?_)
               | refine wpX_ef' rfl rfl rfl (fun _ _ => ?_)
             go_wp2_with fail)
          refine And.intro (hS.alloc _) ?_
          repeat
            (with_reducible show wpX _ _ _ _ _ _ _ _
             first
               | refine wpX_nil ?_
               | refine wpX_skip rfl ?_
               | refine wpX_mv rfl rfl (by kernel_rfl) (fun _ _ => ?_)
               | refine wpX_ldC rfl rfl rfl (by exact HZ.out) (by assumption) (fun _ _ => ?_)
               | refine wpX_ef' rfl rfl rfl (fun _ _ => ?_)
             go_wp2_with fail)
          have how := owns_kept (w := wr.drew) HOV.out ((HCB.out.alloc (.cells #[.int .i64 (pNum st).1, .int .i64 (pNum (pNum st).2).1, .int .i64 (pNum (pNum (pNum st).2).2).1] 47))) (fun g hg hm => HNV1.out (by rw [List.mem_singleton] at hm; rw [← hm]; exact hg))
          refine wpX_append _ _ 41 rfl rfl rfl 47 (.agg #[.int .i64 0, .int .i64 0, .int .i64 0]) 3 24 infoEnt Tryz.underlying41 rfl (by decide) v k _ rfl how ⟨w5.heap.size, 0, none⟩ 1 1 [.int .i64 (pNum st).1, .int .i64 (pNum (pNum st).2).1, .int .i64 (pNum (pNum (pNum st).2).2).1] rfl rfl (cells_new _ _ _) (by simp [Value.oneCell']) (by omega) (by unfold maxLen; omega) ?_
          intro v' w6 hown' hch' hmv'
          obtain ⟨a', c', rfl, _, _⟩ := own_at (by omega) hown'
          have hnext := loop_next (i := 4) HC.out HCB.out HR1.out HB.out HF.out HBRW.out HBOW.out HNE.out hown' hch' hmv'
          have hc6 : Chg (br :: blk v) wr.drew w6 := (hS.alloc _).then (hch'.mono (fun x hx => .inl (by simp [hx])))
          have hb6 := HB.out.kept (Chg.trans (S := br :: blk v) (⟨rfl, rfl, rfl, Nat.le_refl _, fun _ _ _ => rfl⟩ : Chg _ wr wr.drew) hc6 (fun x hx => .inl hx)) HBZ.out
          have hcell6 := hb6.cell 4 v rfl
          have hfz6 := hb6.frozen 4
          have HNEXT := Lib.hid hnext
          have HC6 := Lib.hid hc6
          clear hnext hown' hch' hmv' hb6 hS how hc6
          refine And.intro HC6.out ?_
          repeat
            (with_reducible show wpX _ _ _ _ _ _ _ _
             first
               | refine wpX_nil ?_
               | refine wpX_skip rfl ?_
               | refine wpX_mv rfl rfl (by kernel_rfl) (fun _ _ => ?_)
               | refine wpX_ldC rfl rfl rfl (by exact HZ.out) (by assumption) (fun _ _ => ?_)
               | refine wpX_ef' rfl rfl rfl (fun _ _ => ?_)
             go_wp2_with fail)
          refine stepX_ef rfl rfl (fun _ _ => ?_)
          change Oper.wp _ (Oper.mk _ _ _ _ _ _) _ _ _ _
          go_wp2_with fail
          go_roundw
          case rel =>
            obtain ⟨n1, n2, n3, n4, n5, _⟩ := HNEXT.out
            refine ⟨k + 1, _, by omega, by go_num, ?_, n2, n3, ?_, n5⟩
            · rw [rep_succ1, HST.out, List.flatMap_append]
              exact n1
            · rw [rep_succ2, HST.out]
              exact n4
          case measure => simp [intOf]; omega
        · have hkn : k = N4 := by omega
          rw [hkn] at ho hr
          obtain ⟨v4, rfl⟩ : ∃ x, x = v := ⟨_, rfl⟩
          obtain ⟨L4, hL⟩ : ∃ L, (rep pEnt N4 T4).1 = L := ⟨_, rfl⟩
          obtain ⟨S5, hS⟩ : ∃ S, (rep pEnt N4 T4).2 = S := ⟨_, rfl⟩
          have HLN4 := Lib.hid (show L4.length = N4 by rw [← hL, rep_count])
          have HSLN : S5.str.length ≤ 1099511627776 := by rw [← hS]; exact Nat.le_trans (rep_len pEnt_len _ _) HTL.out
          have HSL5 := Lib.hid HSLN
          rw [hL] at ho
          rw [hS] at hr
          have HL4 := Lib.hid hL; have HS5 := Lib.hid hS
          obtain ⟨wr4, rfl⟩ : ∃ x, x = wr := ⟨_, rfl⟩
        
          have HOV4 := Lib.hid ho; have HB4 := Lib.hid hb; have HRD4 := Lib.hid hr; have HC4 := Lib.hid hc
        
          have HNV4 := Lib.hid (show br ∉ blk v4 ∧ bo ∉ blk v4 from ⟨hf.notin HBRW.out, hf.notin HBOW.out⟩)
          have hltb := owns_lt ho
          have HLB4 := Lib.hid hltb
          have HZ0 := Lib.hid (show br < wr4.heap.size ∧ bo < wr4.heap.size from ⟨hr.lt, hb.lt⟩)
          clear hL hS HSLN ho hf hb hr hc hltb
          clear hkn
          have hM := many_any br S5 wr4 HRD4.out HSL5.out
          obtain ⟨N5, hN⟩ : ∃ N, (pMany S5).1 = N := ⟨_, rfl⟩
          obtain ⟨T5, hT⟩ : ∃ T, (pMany S5).2 = T := ⟨_, rfl⟩
          rw [hN, hT] at hM
          have hNL5 : N5 ≤ 1099511627776 := by rw [← hN]; exact Nat.le_trans pMany_le.1 (Nat.le_trans pMany_le.2 HSL5.out)
          have hTL : T5.str.length ≤ 1099511627776 := by rw [← hT]; exact Nat.le_trans pMany_le.2 HSL5.out
          have HM := Lib.hid hM; have HN5 := Lib.hid hN; have HT5 := Lib.hid hT; have HTL := Lib.hid hTL
          clear hM hN hT hTL
          go_wp2_with fail
          refine HM.out.mono ?_; rintro _ W5 ⟨rfl, hr, hc⟩
          have hb := HB4.out.kept hc (by simpa using HNE.out.symm)
          have HR := Lib.hid hr; have HO := Lib.hid hb
          have HBRW := Lib.hid hr.lt
          have HBOW := Lib.hid hb.lt
          have HD5 := Lib.hid hc
          have HBRW5 := Lib.hid hr.lt
          have HBOW5 := Lib.hid hb.lt
          clear hr hb hc
          go_wp2_with fail
          go_loopw [107] (fun i wr => ∃ (k : Nat) (v : Value), k ≤ N5 ∧ i = .int .i64 k ∧ wr.ownsRow 0 49 3 v k ((rep pInst k T5).1.flatMap InstD.cells) ∧ From W5.heap.size v ∧ Blk wr bo #[str nm, v1, v2, v3, v4, .slice a5 N4 c5, v] 45 ∧ Rdr wr br (rep pInst k T5).2 ∧ Chg [br, bo] W5 wr) (fun i _ => N5 - (intOf i).toNat)
          case atStart => exact ⟨0, .slice none 0 0, Nat.zero_le _, rfl, World.ownsRow_nil _ _ _ _, From.nil _, HO.out, HR.out, Chg.refl _ _⟩
          case round =>
          obtain ⟨k, v, hk, rfl, ho, hf, hb, hr, hc⟩ := hrel
          by_cases hlt : k < N5
          · have HRS := Lib.hid HR
        
            have hnv1 : br ∉ blk v := hf.notin HBRW.out
            have hnv2 : bo ∉ blk v := hf.notin HBOW.out
            have hz : wr.drew.cell? ⟨bo, 6, none⟩ = some v := hb.cell 6 v rfl
            have hbz : bo ∉ br :: blk v := by simp only [List.mem_cons, not_or]; exact ⟨fun he => HNE.out he.symm, hnv2⟩
            have HZ := Lib.hid (Zone.of (X := br :: blk v) hz hbz)
            have HBZ := Lib.hid hbz
            obtain ⟨st, hst⟩ : ∃ st, (rep pInst k T5).2 = st := ⟨_, rfl⟩
            rw [hst] at hr
            have hsl : st.str.length ≤ 1099511627776 := by rw [← hst]; exact Nat.le_trans (rep_len pInst_len _ _) HTL.out
            have hT := number2_any br st wr.drew hr hsl
            have HT := Lib.hid hT; have HST := Lib.hid hst; have HSL := Lib.hid hsl; have HOV := Lib.hid ho; have HF := Lib.hid hf; have HB := Lib.hid hb; have HC := Lib.hid hc
        
            have HNV1 := Lib.hid hnv1; have HNV2 := Lib.hid hnv2
            clear hT hst hsl ho hf hb hr hc hnv1 hnv2 hbz
            go_wp2_with fail
            refine wp_region_T (br :: blk v) rfl (by kernel_rfl) rfl ?_
            have hS : Chg (br :: blk v) wr.drew wr.drew := Chg.refl _ _
            repeat
              (with_reducible show wpX _ _ _ _ _ _ _ _
               first
                 | refine wpX_nil ?_
                 | refine wpX_skip rfl ?_
                 | refine wpX_mv rfl rfl (by kernel_rfl) (fun _ _ => ?_)
                 | refine wpX_ldC rfl rfl rfl (by exact HZ.out) (by assumption) (fun _ _ => ?_)
                 | refine wpX_ef' rfl rfl rfl (fun _ _ => ?_)
               go_wp2_with fail)
            refine HT.out.mono ?_; rintro _ w3 ⟨rfl, hr, hcb⟩
            have hS : Chg (br :: blk v) wr.drew w3 := hcb.mono (fun x hx => .inl (by simp at hx; simp [hx]))
            have HCB := Lib.hid hcb; have HR1 := Lib.hid hr
            have hsl : (pNum st).2.str.length ≤ 1099511627776 := Nat.le_trans (pNum_len) HSL.out
            have HSL := Lib.hid hsl
            have hT := number2_any br (pNum st).2 w3 HR1.out HSL.out
            have HT := Lib.hid hT; clear hT
            clear hcb hr hsl
            go_wp2_with fail
            refine And.intro hS ?_
            repeat
              (with_reducible show wpX _ _ _ _ _ _ _ _
               first
                 | refine wpX_nil ?_
                 | refine wpX_skip rfl ?_
                 | refine wpX_mv rfl rfl (by kernel_rfl) (fun _ _ => ?_)
                 | refine wpX_ldC rfl rfl rfl (by exact HZ.out) (by assumption) (fun _ _ => ?_)
                 | refine wpX_ef' rfl rfl rfl (fun _ _ => ?_)
               go_wp2_with fail)
            refine HT.out.mono ?_; rintro _ w4 ⟨rfl, hr, hcb⟩
            have hcb := HCB.out.then hcb
            have hS : Chg (br :: blk v) wr.drew w4 := hcb.mono (fun x hx => .inl (by simp at hx; simp [hx]))
            have HCB := Lib.hid hcb; have HR1 := Lib.hid hr
            have hsl : (pNum (pNum st).2).2.str.length ≤ 1099511627776 := Nat.le_trans (pNum_len) HSL.out
            have HSL := Lib.hid hsl
            have hT := number2_any br (pNum (pNum st).2).2 w4 HR1.out HSL.out
            have HT := Lib.hid hT; clear hT
            clear hcb hr hsl
            go_wp2_with fail
            refine And.intro hS ?_
            repeat
              (with_reducible show wpX _ _ _ _ _ _ _ _
               first
                 | refine wpX_nil ?_
                 | refine wpX_skip rfl ?_
                 | refine wpX_mv rfl rfl (by kernel_rfl) (fun _ _ => ?_)
                 | refine wpX_ldC rfl rfl rfl (by exact HZ.out) (by assumption) (fun _ _ => ?_)
                 | refine wpX_ef' rfl rfl rfl (fun _ _ => ?_)
               go_wp2_with fail)
            refine HT.out.mono ?_; rintro _ w5 ⟨rfl, hr, hcb⟩
            have hcb := HCB.out.then hcb
            have hS : Chg (br :: blk v) wr.drew w5 := hcb.mono (fun x hx => .inl (by simp at hx; simp [hx]))
            have HCB := Lib.hid hcb; have HR1 := Lib.hid hr
            clear hcb hr
            go_wp2_with fail
            refine And.intro hS ?_
            repeat
              (with_reducible show wpX _ _ _ _ _ _ _ _
               first
                 | refine wpX_nil ?_
                 | refine wpX_skip rfl ?_
                 | refine wpX_mv rfl rfl (by kernel_rfl) (fun _ _ => ?_)
                 | refine wpX_ldC rfl rfl rfl (by exact HZ.out) (by assumption) (fun _ _ => ?_)
                 | refine wpX_ef' rfl rfl rfl (fun _ _ => ?_)
               go_wp2_with fail)
            refine And.intro (hS.alloc _) ?_
            repeat
              (with_reducible show wpX _ _ _ _ _ _ _ _
               first
                 | refine wpX_nil ?_
                 | refine wpX_skip rfl ?_
                 | refine wpX_mv rfl rfl (by kernel_rfl) (fun _ _ => ?_)
                 | refine wpX_ldC rfl rfl rfl (by exact HZ.out) (by assumption) (fun _ _ => ?_)
                 | refine wpX_ef' rfl rfl rfl (fun _ _ => ?_)
               go_wp2_with fail)
            have how := owns_kept (w := wr.drew) HOV.out ((HCB.out.alloc (.cells #[.int .i64 (pNum st).1, .int .i64 (pNum (pNum st).2).1, .int .i64 (pNum (pNum (pNum st).2).2).1] 49))) (fun g hg hm => HNV1.out (by rw [List.mem_singleton] at hm; rw [← hm]; exact hg))
            refine wpX_append _ _ 43 rfl rfl rfl 49 (.agg #[.int .i64 0, .int .i64 0, .int .i64 0]) 3 24 infoInst Tryz.underlying43 rfl (by decide) v k _ rfl how ⟨w5.heap.size, 0, none⟩ 1 1 [.int .i64 (pNum st).1, .int .i64 (pNum (pNum st).2).1, .int .i64 (pNum (pNum (pNum st).2).2).1] rfl rfl (cells_new _ _ _) (by simp [Value.oneCell']) (by omega) (by unfold maxLen; omega) ?_
            intro v' w6 hown' hch' hmv'
            obtain ⟨a', c', rfl, _, _⟩ := own_at (by omega) hown'
            have hnext := loop_next (i := 6) HC.out HCB.out HR1.out HB.out HF.out HBRW.out HBOW.out HNE.out hown' hch' hmv'
            have hc6 : Chg (br :: blk v) wr.drew w6 := (hS.alloc _).then (hch'.mono (fun x hx => .inl (by simp [hx])))
            have hb6 := HB.out.kept (Chg.trans (S := br :: blk v) (⟨rfl, rfl, rfl, Nat.le_refl _, fun _ _ _ => rfl⟩ : Chg _ wr wr.drew) hc6 (fun x hx => .inl hx)) HBZ.out
            have hcell6 := hb6.cell 6 v rfl
            have hfz6 := hb6.frozen 6
            have HNEXT := Lib.hid hnext
            have HC6 := Lib.hid hc6
            clear hnext hown' hch' hmv' hb6 hS how hc6
            refine And.intro HC6.out ?_
            repeat
              (with_reducible show wpX _ _ _ _ _ _ _ _
               first
                 | refine wpX_nil ?_
                 | refine wpX_skip rfl ?_
                 | refine wpX_mv rfl rfl (by kernel_rfl) (fun _ _ => ?_)
                 | refine wpX_ldC rfl rfl rfl (by exact HZ.out) (by assumption) (fun _ _ => ?_)
                 | refine wpX_ef' rfl rfl rfl (fun _ _ => ?_)
               go_wp2_with fail)
            refine stepX_ef rfl rfl (fun _ _ => ?_)
            change Oper.wp _ (Oper.mk _ _ _ _ _ _) _ _ _ _
            go_wp2_with fail
            go_roundw
            case rel =>
              obtain ⟨n1, n2, n3, n4, n5, _⟩ := HNEXT.out
              refine ⟨k + 1, _, by omega, by go_num, ?_, n2, n3, ?_, n5⟩
              · rw [rep_succ1, HST.out, List.flatMap_append]
                exact n1
              · rw [rep_succ2, HST.out]
                exact n4
            case measure => simp [intOf]; omega
          · have hkn : k = N5 := by omega
            rw [hkn] at ho hr
            obtain ⟨v5, rfl⟩ : ∃ x, x = v := ⟨_, rfl⟩
            obtain ⟨L5, hL⟩ : ∃ L, (rep pInst N5 T5).1 = L := ⟨_, rfl⟩
            obtain ⟨S6, hS⟩ : ∃ S, (rep pInst N5 T5).2 = S := ⟨_, rfl⟩
            have HLN5 := Lib.hid (show L5.length = N5 by rw [← hL, rep_count])
            have HSLN : S6.str.length ≤ 1099511627776 := by rw [← hS]; exact Nat.le_trans (rep_len pInst_len _ _) HTL.out
            have HSL6 := Lib.hid HSLN
            rw [hL] at ho
            rw [hS] at hr
            have HL5 := Lib.hid hL; have HS6 := Lib.hid hS
            obtain ⟨wr5, rfl⟩ : ∃ x, x = wr := ⟨_, rfl⟩
          
            have HOV5 := Lib.hid ho; have HB5 := Lib.hid hb; have HRD5 := Lib.hid hr; have HC5 := Lib.hid hc
          
            have HNV5 := Lib.hid (show br ∉ blk v5 ∧ bo ∉ blk v5 from ⟨hf.notin HBRW.out, hf.notin HBOW.out⟩)
            have hltb := owns_lt ho
            have HLB5 := Lib.hid hltb
            have HZ0 := Lib.hid (show br < wr5.heap.size ∧ bo < wr5.heap.size from ⟨hr.lt, hb.lt⟩)
            clear hL hS HSLN ho hf hb hr hc hltb
            clear hkn
            have w2l : ∀ {a b : World}, Chg [br] a b → Chg [br, bo] a b := fun h => h.mono (fun x hx => .inl (by simp at hx; simp [hx]))
            have C4 : Chg [br, bo] wr4 wr5 := (w2l HD5.out).then HC5.out
            have C9 : Chg [br, bo] W4 wr5 := HC4.out.then C4
            have C3 : Chg [br, bo] wr3 wr5 := HD4.out.then C9
            have C2 : Chg [br, bo] wr2 wr5 := ((w2l HD3.out).then HC3.out).then C3
            have C1 : Chg [br, bo] wr1 wr5 := ((w2l HD2.out).then HC2.out).then C2
            have C0 : Chg [] w wr5 := HCW.out.trans (HC1.out.then C1) (fun x hx => by
              have := HLO.out
              simp only [List.mem_cons, List.not_mem_nil, or_false] at hx
              rcases hx with rfl | rfl
              · exact .inr this.1
              · exact .inr this.2)
            have ni : ∀ {v : Value}, (br ∉ blk v ∧ bo ∉ blk v) → ∀ g ∈ blk v, g ∉ [br, bo] := fun h g hg hm => by
              simp only [List.mem_cons, List.not_mem_nil, or_false] at hm
              rcases hm with rfl | rfl
              · exact h.1 hg
              · exact h.2 hg
            have o1 := owns_kept HOV1.out C1 (ni HNV1.out)
            have o2 := owns_kept HOV2.out C2 (ni HNV2.out)
            have o3 := owns_kept HOV3.out C3 (ni HNV3.out)
            have o4 := owns_kept HOV4.out C4 (ni HNV4.out)
            have o9 := owns_kept HOV9.out C9 (ni HNV9.out)
            have o5 := HOV5.out
            have hmsl : ms2.length = N2 := by rw [← HLN2.out, ← HMS.out, List.length_map]
            rw [← HLN1.out] at o1
            rw [← hmsl] at o2
            rw [← HLN3.out] at o3
            rw [← HLN4.out] at o4
            rw [← HN4.out] at o9
            rw [← HLN5.out] at o5
            have hb5 := HB5.out
            rw [← HN4.out] at hb5
            obtain ⟨M, hat⟩ := obj_at hb5 o1 o2 (uses_lift HIN.out C2 (fun x hx => by
              simp only [List.mem_cons, List.not_mem_nil, or_false] at hx
              rcases hx with rfl | rfl
              · exact HBRW2.out
              · exact HBOW2.out)) o3 o4 o9 o5
            obtain ⟨hpo, hs7⟩ := pObj_is HNM.out HS1.out (list_eq HN1.out HT1.out HL1.out HS2.out) (list_eq HN2.out HT2.out HL2.out HS3.out) (list_eq HN3.out HT3.out HL3.out HS4.out) HL9.out HT4.out HN4.out HL4.out HS5.out (list_eq HN5.out HT5.out HL5.out HS6.out)
            rw [HMS.out, ← hpo] at hat
            have hsm := pObj_small l HLL.out
            have hR := right_any _ _ _ _ _ wr5 hat hsm
            have hpa := parsed_is hs7
            have hrd := HRD5.out
            have HC := Lib.hid C0; have HAT := Lib.hid hat; have HR := Lib.hid hR; have HPA := Lib.hid hpa
            clear C4 C9 C3 C2 C1 C0 ni w2l o1 o2 o3 o4 o5 o9 hmsl hb5 hat hpo hs7 hsm hR hpa
            clear HOV1 HOV2 HOV3 HOV4 HOV5 HOV9 HB1 HB2 HB3 HB4 HB5 HRD1 HRD2 HRD3 HRD4 HRD5
            cases S6 with
            | none =>
              have h1 : wr5.cell? ⟨br, 1, none⟩ = some (.bool true) := hrd.cell 1 _ rfl
              clear hrd
              go_wp2_with fail
              go_ret2
              exact ⟨HC.out, .inr ⟨by rw [HPA.out]; rfl, rfl⟩⟩
            | some s6 =>
              have h1 : wr5.cell? ⟨br, 1, none⟩ = some (.bool false) := hrd.cell 1 _ rfl
              cases s6 with
              | cons c t =>
                have h0 : wr5.cell? ⟨br, 0, none⟩ = some (.string (bs (c :: t))) := hrd.cell 0 _ rfl
                obtain ⟨sx, hsx⟩ : ∃ s, s = bs (c :: t) := ⟨_, rfl⟩
                have hne : sx.toList.isEmpty = false := by rw [hsx]; simp
                rw [← hsx] at h0
                clear hrd hsx
                go_wp2_with fail
                go_ret2
                exact ⟨HC.out, .inr ⟨by rw [HPA.out]; rfl, rfl⟩⟩
              | nil =>
                have h0 : wr5.cell? ⟨br, 0, none⟩ = some (.string ⟨#[]⟩) := hrd.cell 0 _ rfl
                clear hrd
                go_wp2_with fail
                refine HR.out.mono ?_; rintro _ wz ⟨rfl, hcz⟩
                have HCZ := Lib.hid hcz; clear hcz h0 h1
                cases hr : right (pObj l)
                all_goals
                  have HRR := Lib.hid hr
                  clear hr
                  go_wp2_with fail
                  go_ret2
                · exact ⟨HC.out.then HCZ.out, .inr ⟨by rw [HPA.out, HRR.out]; rfl, rfl⟩⟩
                · exact ⟨HC.out.then HCZ.out, .inl ⟨by rw [HPA.out, HRR.out]; rfl, bo, M, rfl, objAt_higher (HAT.out.kept HCZ.out (by simp)) HCZ.out.size⟩⟩
end Go.Proofs.YtjgfclhempjinaaGreatDoor
