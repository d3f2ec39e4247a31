/- Some texts in one. -/
import Derived.Test.YtgnfhognbpifiaaGreatDoorTreeMem
import Derived.Test.YtgnfhognbpifiaaGreatDoorShelf
import Derived.Shelf.Strings.Prefix
import Derived.Test.YtgnfhognbpifiaaGreatDoorTreeA
import Derived.Test.YtgnfhognbpifiaaGreatDoorTreeW17
import Derived.Defers
import Derived.Recover
/- Letters, digits, and how many of them stand at a text's beginning. -/
namespace Go.Proofs.YtgnfhognbpifiaaGreatDoor
open Go Go.RowKit Go.Mq Go.Mq.Tree
set_option maxRecDepth 100000
set_option maxHeartbeats 4000000
theorem letter_any (c : UInt8) (w : World) : Calls Tryz.prog 85 #[.int .u8 c.toNat] w (fun e w' => e = .returned (.bool (letter c)) ∧ w' = w) := by
  obtain ⟨n, hn⟩ : ∃ n : Nat, n = c.toNat := ⟨_, rfl⟩
  have HL := Lib.hid (show letter c = (decide (97 ≤ n) && decide (n ≤ 122)) by rw [letter, hn])
  rw [← hn]
  clear hn
  cases h1 : decide (97 ≤ n) with
  | false =>
    have h1' : decide ((97 : Int) ≤ (n : Int)) = false := by have := of_decide_eq_false h1; simp; omega
    rw [h1] at HL
    clear h1
    go_enter Tryz.func85, Tryz.ntmps85
    go_wp2_with fail
    go_ret
    rw [HL.out]
    exact ⟨rfl, rfl⟩
  | true =>
    have h1' : decide ((97 : Int) ≤ (n : Int)) = true := by have := of_decide_eq_true h1; simp; omega
    have h2' : decide ((n : Int) ≤ 122) = decide (n ≤ 122) := by by_cases h : n ≤ 122 <;> simp [h] <;> omega
    rw [h1] at HL
    clear h1
    go_enter Tryz.func85, Tryz.ntmps85
    go_wp2_with fail
    go_ret
    rw [HL.out, ← h2']
    exact ⟨rfl, rfl⟩
theorem digit_any (c : UInt8) (w : World) : Calls Tryz.prog 88 #[.int .u8 c.toNat] w (fun e w' => e = .returned (.bool (digit c)) ∧ w' = w) := by
  obtain ⟨n, hn⟩ : ∃ n : Nat, n = c.toNat := ⟨_, rfl⟩
  have HL := Lib.hid (show digit c = (decide (48 ≤ n) && decide (n ≤ 57)) by rw [digit, hn])
  rw [← hn]
  clear hn
  cases h1 : decide (48 ≤ n) with
  | false =>
    have h1' : decide ((48 : Int) ≤ (n : Int)) = false := by have := of_decide_eq_false h1; simp; omega
    rw [h1] at HL
    clear h1
    go_enter Tryz.func88, Tryz.ntmps88
    go_wp2_with fail
    go_ret
    rw [HL.out]
    exact ⟨rfl, rfl⟩
  | true =>
    have h1' : decide ((48 : Int) ≤ (n : Int)) = true := by have := of_decide_eq_true h1; simp; omega
    have h2' : decide ((n : Int) ≤ 57) = decide (n ≤ 57) := by by_cases h : n ≤ 57 <;> simp [h] <;> omega
    rw [h1] at HL
    clear h1
    go_enter Tryz.func88, Tryz.ntmps88
    go_wp2_with fail
    go_ret
    rw [HL.out, ← h2']
    exact ⟨rfl, rfl⟩
theorem alnum_any (c : UInt8) (w : World) : Calls Tryz.prog 87 #[.int .u8 c.toNat] w (fun e w' => e = .returned (.bool (letter c || digit c)) ∧ w' = w) := by
  have HL := Lib.hid (letter_any c w)
  have HD := Lib.hid (digit_any c w)
  obtain ⟨n, hn⟩ : ∃ n : Nat, n = c.toNat := ⟨_, rfl⟩
  rw [← hn] at HL HD
  rw [← hn]
  clear hn
  cases h1 : letter c with
  | true =>
    rw [h1] at HL
    clear h1
    go_enter Tryz.func87, Tryz.ntmps87
    go_wp2_with fail
    refine HL.out.mono ?_; rintro _ w2 ⟨rfl, hw⟩
    have hw := hw.symm; subst hw
    go_wp2_with fail
    go_ret
    exact ⟨rfl, rfl⟩
  | false =>
    rw [h1] at HL
    clear h1
    go_enter Tryz.func87, Tryz.ntmps87
    go_wp2_with fail
    refine HL.out.mono ?_; rintro _ w2 ⟨rfl, hw⟩
    have hw := hw.symm; subst hw
    go_wp2_with fail
    refine HD.out.mono ?_; rintro _ w2 ⟨rfl, hw⟩
    have hw := hw.symm; subst hw
    go_wp2_with fail
    go_ret
    exact ⟨rfl, rfl⟩
theorem howN_drop (f : UInt8 → Bool) : ∀ (l : List UInt8) (k : Nat), k ≤ l.length → (∀ j, j < k → ∀ c, l[j]? = some c → f c = true) → howN f l = k + howN f (l.drop k) := by
  intro l
  induction l with
  | nil => intro k hk _; simp at hk; subst hk; simp
  | cons c t ih =>
    intro k hk h
    cases k with
    | zero => simp
    | succ k =>
      have hc := h 0 (by omega) c rfl
      rw [howN, if_pos hc, List.drop_succ_cons, ih k (by simpa using hk) (fun j hj c' hc' => h (j + 1) (by omega) c' (by simpa using hc'))]
      omega
theorem run_any (f : UInt8 → Bool) (F : FuncId) (hF : ∀ (cs : Array Value) (w : World), (callFunc F cs).run Tryz.prog w = .ok (.enter F cs) w) (w : World) (hc : ∀ c : UInt8, Calls Tryz.prog F #[.int .u8 c.toNat] w (fun e w' => e = .returned (.bool (f c)) ∧ w' = w))
    (l : List UInt8) (hl : l.length ≤ 1099511627776) : Calls Tryz.prog 86 #[str l, .func (.func F) #[] #[]] w (fun e w' => e = .returned (.int .i64 (howN f l)) ∧ w' = w) := by
  have HC := Lib.hid hc
  obtain ⟨s, hs⟩ : ∃ s, s = bs l := ⟨_, rfl⟩
  have hsz : s.size = l.length := by rw [hs]; rfl
  have HS := Lib.hid hs
  show Calls Tryz.prog 86 #[.string (bs l), .func (.func F) #[] #[]] w _
  rw [← hs]
  clear hc hs
  go_enter Tryz.func86, Tryz.ntmps86
  go_wp2_with fail
  go_loopw [5] (fun v wr => ∃ k : Nat, v = .int .i64 k ∧ k ≤ l.length ∧ wr = w ∧ howN f l = k + howN f (l.drop k)) (fun v _ => l.length - (intOf v).toNat)
  case atStart => exact ⟨0, rfl, Nat.zero_le _, rfl, by simp⟩
  case round =>
    obtain ⟨k, rfl, hk, rfl, hr⟩ := hrel
    have HR := Lib.hid hr; clear hr
    by_cases hlt : k < l.length
    · have hdec : decide ((k : Int) < (s.size : Int)) = true := by simp; omega
      obtain ⟨c, hcc⟩ : ∃ c, l[k]? = some c := ⟨l[k], List.getElem?_eq_getElem hlt⟩
      have hdrop : l.drop k = c :: l.drop (k + 1) := by
        rw [List.drop_eq_getElem_cons hlt]
        congr 1
        rw [List.getElem?_eq_getElem hlt] at hcc
        exact Option.some.inj hcc
      have hidx := run_index_str (P := Tryz.prog) Tryz.underlying9 (show s[k]? = some c by rw [HS.out, bs_get]; exact hcc)
      have HCL := Lib.hid (HC.out c)
      obtain ⟨n, hn⟩ : ∃ n : Nat, n = c.toNat := ⟨_, rfl⟩
      rw [← hn] at hidx HCL
      clear hn hcc
      cases hf : f c with
      | true =>
        have HRR := Lib.hid (show howN f l = (k + 1) + howN f (l.drop (k + 1)) by rw [HR.out, hdrop, howN, if_pos hf]; omega)
        rw [hf] at HCL
        clear hf hdrop
        go_wp2_with fail
        refine HCL.out.mono ?_; rintro _ w2 ⟨rfl, hw⟩
        have hw := hw.symm; subst hw
        go_wp2_with fail
        exact ⟨⟨k + 1, by go_num, by omega, by first | rfl | trivial, HRR.out⟩, by simp [intOf]; omega⟩
      | false =>
        have HRR := Lib.hid (show howN f l = k by rw [HR.out, hdrop, howN, if_neg (by rw [hf]; simp)]; rfl)
        rw [hf] at HCL
        clear hf hdrop
        go_wp2_with fail
        refine HCL.out.mono ?_; rintro _ w2 ⟨rfl, hw⟩
        have hw := hw.symm; subst hw
        go_wp2_with fail
        go_ret
        rw [HRR.out]
        exact ⟨rfl, rfl⟩
    · have hdec : decide ((k : Int) < (s.size : Int)) = false := by simp; omega
      have HRR := Lib.hid (show howN f l = k by rw [HR.out, List.drop_eq_nil_of_le (by omega)]; rfl)
      go_wp2_with fail
      go_ret
      rw [HRR.out]
      exact ⟨rfl, rfl⟩
theorem marks_index (k : Nat) (hk : k < 18) (w : World) : (Instr.index 160 (.agg #[str [58, 61], str [60, 61], str [62, 61], str [35], str [61], str [60], str [62], str [43], str [45], str [42], str [40], str [41], str [91], str [93], str [44], str [59], str [58], str [46]]) (.int .i64 k)).run Tryz.prog w = .ok (str (marks.getD k [])) w := by
  match k, hk with
  | 0, _ => rfl
  | 1, _ => rfl
  | 2, _ => rfl
  | 3, _ => rfl
  | 4, _ => rfl
  | 5, _ => rfl
  | 6, _ => rfl
  | 7, _ => rfl
  | 8, _ => rfl
  | 9, _ => rfl
  | 10, _ => rfl
  | 11, _ => rfl
  | 12, _ => rfl
  | 13, _ => rfl
  | 14, _ => rfl
  | 15, _ => rfl
  | 16, _ => rfl
  | 17, _ => rfl
  | n + 18, h => omega
end Go.Proofs.YtgnfhognbpifiaaGreatDoor
/- What stands at a text's beginning. -/
namespace Go.Mq.Tree
open Go Go.RowKit Go.Mq
theorem prefix_eq (m l : List UInt8) : Lib.hasPrefix l m = m.isPrefixOf l := rfl
theorem nextK_letter {c : UInt8} {t : List UInt8} (h : letter c = true) : nextK (c :: t) = (.word, howN (fun c => letter c || digit c) (c :: t)) := by rw [nextK, if_pos h]
theorem nextK_digit {c : UInt8} {t : List UInt8} (h : letter c = false) (h2 : digit c = true) : nextK (c :: t) = (.number, howN digit (c :: t)) := by rw [nextK, if_neg (by simp [h]), if_pos h2]
theorem nextK_mark {c : UInt8} {t : List UInt8} (h : letter c = false) (h2 : digit c = false) {m : List UInt8} (hm : marks.find? (fun m => m.isPrefixOf (c :: t)) = some m) : nextK (c :: t) = (.mark, m.length) := by
  rw [nextK, if_neg (by simp [h]), if_neg (by simp [h2]), hm]; rfl
theorem nextK_none {c : UInt8} {t : List UInt8} (h : letter c = false) (h2 : digit c = false) (hm : marks.find? (fun m => m.isPrefixOf (c :: t)) = none) : nextK (c :: t) = (.mark, 0) := by
  rw [nextK, if_neg (by simp [h]), if_neg (by simp [h2]), hm]; rfl
end Go.Mq.Tree
namespace Go.Proofs.YtgnfhognbpifiaaGreatDoor
open Go Go.RowKit Go.Mq Go.Mq.Tree
set_option maxRecDepth 100000
set_option maxHeartbeats 4000000
theorem enters35 : ∀ (cs : Array Value) (w : World), (callFunc 87 cs).run Tryz.prog w = .ok (.enter 87 cs) w := fun cs w => by kernel_rfl
theorem enters36 : ∀ (cs : Array Value) (w : World), (callFunc 88 cs).run Tryz.prog w = .ok (.enter 88 cs) w := fun cs w => by kernel_rfl
theorem next_any (c : UInt8) (t : List UInt8) (hl : (c :: t).length ≤ 1099511627776) (w : World) (B : Nat) (hL : Laid w B) :
    Calls Tryz.prog 61 #[str (c :: t)] w (fun e w' => e = .returned (.tuple #[.int .i64 (nextK (c :: t)).1.num, .int .i64 (nextK (c :: t)).2]) ∧ w' = w) := by
  have HLE := Lib.hid (letter_any c w)
  have HDI := Lib.hid (digit_any c w)
  have HRW := Lib.hid (run_any (fun c => letter c || digit c) 87 enters35 w (fun c => alnum_any c w) (c :: t) hl)
  have HRD := Lib.hid (run_any digit 88 enters36 w (fun c => digit_any c w) (c :: t) hl)
  obtain ⟨s, hs⟩ : ∃ s, s = bs (c :: t) := ⟨_, rfl⟩
  have hidx := run_index_str (P := Tryz.prog) Tryz.underlying9 (k := 0) (c := c) (show s[0]? = some c by rw [hs, bs_get]; rfl)
  have hidx : ∀ w, (Instr.index 9 (.string s) (.int .i64 0)).run Tryz.prog w = .ok (.int .u8 c.toNat) w := hidx
  have hsz : s.size = t.length + 1 := by rw [hs]; rfl
  have HS := Lib.hid hs
  show Calls Tryz.prog 61 #[.string (bs (c :: t))] w _
  have HRW : Hid (Calls Tryz.prog 86 #[.string s, .func (.func 87) #[] #[]] w (fun e w' => e = .returned (.int .i64 (howN (fun c => letter c || digit c) (c :: t))) ∧ w' = w)) := by rw [hs]; exact HRW
  have HRD : Hid (Calls Tryz.prog 86 #[.string s, .func (.func 88) #[] #[]] w (fun e w' => e = .returned (.int .i64 (howN digit (c :: t))) ∧ w' = w)) := by rw [hs]; exact HRD
  rw [← hs]
  clear hs
  obtain ⟨n, hn⟩ : ∃ n : Nat, n = c.toNat := ⟨_, rfl⟩
  rw [← hn] at hidx HLE HDI
  clear hn
  cases h1 : letter c with
  | true =>
    have HRR := Lib.hid (nextK_letter (t := t) h1)
    rw [h1] at HLE
    clear h1
    go_enter Tryz.func61, Tryz.ntmps61
    go_wp2_with fail
    refine HLE.out.mono ?_; rintro _ w2 ⟨rfl, hw⟩
    have hw := hw.symm; subst hw
    go_wp2_with fail
    refine HRW.out.mono ?_; rintro _ w2 ⟨rfl, hw⟩
    have hw := hw.symm; subst hw
    go_wp2_with fail
    go_ret2
    rw [HRR.out]
    exact ⟨rfl, rfl⟩
  | false =>
    rw [h1] at HLE
    cases h2 : digit c with
    | true =>
      have HRR := Lib.hid (nextK_digit (t := t) h1 h2)
      rw [h2] at HDI
      clear h1 h2
      go_enter Tryz.func61, Tryz.ntmps61
      go_wp2_with fail
      refine HLE.out.mono ?_; rintro _ w2 ⟨rfl, hw⟩
      have hw := hw.symm; subst hw
      go_wp2_with fail
      refine HDI.out.mono ?_; rintro _ w2 ⟨rfl, hw⟩
      have hw := hw.symm; subst hw
      go_wp2_with fail
      refine HRD.out.mono ?_; rintro _ w2 ⟨rfl, hw⟩
      have hw := hw.symm; subst hw
      go_wp2_with fail
      go_ret2
      rw [HRR.out]
      exact ⟨rfl, rfl⟩
    | false =>
      have HM : Hid (∀ m, marks.find? (fun m => m.isPrefixOf (c :: t)) = some m → nextK (c :: t) = (.mark, m.length)) := Lib.hid (fun m hm => nextK_mark h1 h2 hm)
      have HN : Hid (marks.find? (fun m => m.isPrefixOf (c :: t)) = none → nextK (c :: t) = (.mark, 0)) := Lib.hid (fun hm => nextK_none h1 h2 hm)
      rw [h2] at HDI
      clear h1 h2
      have d0 := hL.marks 0 _ rfl
      have d1 := hL.marks 1 _ rfl
      have d2 := hL.marks 2 _ rfl
      have d3 := hL.marks 3 _ rfl
      have d4 := hL.marks 4 _ rfl
      have d5 := hL.marks 5 _ rfl
      have d6 := hL.marks 6 _ rfl
      have d7 := hL.marks 7 _ rfl
      have d8 := hL.marks 8 _ rfl
      have d9 := hL.marks 9 _ rfl
      have d10 := hL.marks 10 _ rfl
      have d11 := hL.marks 11 _ rfl
      have d12 := hL.marks 12 _ rfl
      have d13 := hL.marks 13 _ rfl
      have d14 := hL.marks 14 _ rfl
      have d15 := hL.marks 15 _ rfl
      have d16 := hL.marks 16 _ rfl
      have d17 := hL.marks 17 _ rfl
      have hml : marks.length = 18 := rfl
      go_enter Tryz.func61, Tryz.ntmps61
      go_wp2_with fail
      refine HLE.out.mono ?_; rintro _ w2 ⟨rfl, hw⟩
      have hw := hw.symm; subst hw
      go_wp2_with fail
      refine HDI.out.mono ?_; rintro _ w2 ⟨rfl, hw⟩
      have hw := hw.symm; subst hw
      go_wp2_with fail
      clear d0 d1 d2 d3 d4 d5 d6 d7 d8 d9 d10 d11 d12 d13 d14 d15 d16 d17
      go_loopw [5, 19] (fun _ i wr => ∃ k : Nat, k ≤ 18 ∧ i = .int .i64 k ∧ wr = w ∧ marks.find? (fun m => m.isPrefixOf (c :: t)) = (marks.drop k).find? (fun m => m.isPrefixOf (c :: t))) (fun _ i _ => 20 - (intOf i).toNat)
      case atStart => exact ⟨0, Nat.zero_le _, rfl, rfl, rfl⟩
      case round =>
        obtain ⟨k, hk, rfl, rfl, hr⟩ := hrel
        have HR := Lib.hid hr; clear hr
        by_cases hlt : k < 18
        · have hmi := marks_index k hlt
          have HX := Lib.hid (Any.strings_HasPrefix Tryz.lays99 s (bs (marks.getD k [])) wr)
          have hm : marks[k]? = some (marks.getD k []) := by rw [List.getD_eq_getElem?_getD, List.getElem?_eq_getElem (by omega)]; rfl
          have hdr : marks.drop k = marks.getD k [] :: marks.drop (k + 1) := by
            rw [List.drop_eq_getElem_cons (by omega)]
            congr 1
            rw [List.getElem?_eq_getElem (by omega)] at hm
            exact Option.some.inj hm
          have HDR := Lib.hid hdr
          have hml9 : (marks.getD k []).length ≤ 2 := by
            have : ∀ m ∈ marks, m.length ≤ 2 := by decide
            exact this _ (List.mem_of_getElem? hm)
          obtain ⟨m, hmm⟩ : ∃ m, m = marks.getD k [] := ⟨_, rfl⟩
          rw [← hmm] at hmi HX HDR hml9
          have HX : Hid (Calls Tryz.prog 89 #[.string s, str m] wr (fun e w' => e = .returned (.bool (m.isPrefixOf (c :: t))) ∧ w' = wr)) := Lib.hid (by
            have := HX.out
            rw [HS.out, prefix_eq] at this
            rw [HS.out]
            exact this)
          clear hm hdr hmm
          cases hp : m.isPrefixOf (c :: t) with
          | true =>
            have HRR := Lib.hid (HM.out m (by rw [HR.out, HDR.out, List.find?_cons, hp]))
            rw [hp] at HX
            clear hp
            go_wp2_with fail
            refine HX.out.mono ?_; rintro _ w2 ⟨rfl, hw⟩
            have hw := hw.symm; subst hw
            go_wp2_with fail
            go_ret2
            rw [HRR.out]
            exact ⟨rfl, rfl⟩
          | false =>
            have HRR := Lib.hid (show marks.find? (fun m => m.isPrefixOf (c :: t)) = (marks.drop (k + 1)).find? (fun m => m.isPrefixOf (c :: t)) by rw [HR.out, HDR.out, List.find?_cons, hp])
            rw [hp] at HX
            clear hp
            go_wp2_with fail
            refine HX.out.mono ?_; rintro _ w2 ⟨rfl, hw⟩
            have hw := hw.symm; subst hw
            go_wp2_with fail
            exact ⟨⟨k + 1, by omega, by go_num, by first | rfl | trivial, HRR.out⟩, by simp [intOf]; omega⟩
        · have hge : k = 18 := by omega
          have HRR := Lib.hid (HN.out (by rw [HR.out, hge]; rfl))
          go_wp2_with fail
          go_ret2
          rw [HRR.out]
          exact ⟨rfl, rfl⟩
end Go.Proofs.YtgnfhognbpifiaaGreatDoor
/- A text's tokens. -/
namespace Go.Mq.Tree
open Go Go.RowKit Go.Mq
theorem howN_le (f : UInt8 → Bool) : ∀ l : List UInt8, howN f l ≤ l.length := by
  intro l
  induction l with
  | nil => exact Nat.le_refl _
  | cons c t ih => rw [howN]; split <;> simp <;> omega
theorem nextK_le (l : List UInt8) : (nextK l).2 ≤ l.length := by
  cases l with
  | nil => exact Nat.le_refl _
  | cons c t =>
    rw [nextK]
    split
    · exact howN_le _ _
    · split
      · exact howN_le _ _
      · cases h : marks.find? (fun m => m.isPrefixOf (c :: t)) with
        | none => simp
        | some m =>
          have := List.find?_some h
          have := (List.isPrefixOf_iff_prefix.1 this).length_le
          simpa using this
theorem gap_eq (c : UInt8) : gap c = (((c.toNat : Int) == 32) || ((c.toNat : Int) == 10)) := by
  have h1 : (c == 32) = ((c.toNat : Int) == 32) := by
    by_cases h : c = 32
    · subst h; rfl
    · have : c.toNat ≠ 32 := fun h2 => h (UInt8.toNat_inj.1 (by rw [h2]; rfl))
      rw [beq_eq_false_iff_ne.2 h]
      symm
      simp; omega
  have h2 : (c == 10) = ((c.toNat : Int) == 10) := by
    by_cases h : c = 10
    · subst h; rfl
    · have : c.toNat ≠ 10 := fun h2 => h (UInt8.toNat_inj.1 (by rw [h2]; rfl))
      rw [beq_eq_false_iff_ne.2 h]
      symm
      simp; omega
  rw [gap, h1, h2]
/-- What is read so far, ahead of what comes. -/
def LexR.ahead (acc : List Tok) : LexR → LexR
  | .ok ts => .ok (acc ++ ts)
  | .bad e p => .bad e p
theorem LexR.ahead_bad (acc : List Tok) (e p : Nat) : (LexR.bad e p).ahead acc = .bad e p := rfl
theorem lexL_nil (f i k : Nat) : lexL f i k [] = .ok [] := by cases f <;> rfl
theorem lexL_gap {f i k : Nat} {c : UInt8} {t : List UInt8} (h : gap c = true) : lexL (f + 1) i k (c :: t) = lexL f (i + 1) k t := by simp only [lexL, h, if_true]
theorem lexL_none {f i k : Nat} {c : UInt8} {t : List UInt8} (h : gap c = false) (h2 : (nextK (c :: t)).2 = 0) : lexL (f + 1) i k (c :: t) = .bad 3 i := by simp [lexL, h, h2]
theorem lexL_many {f i : Nat} {c : UInt8} {t : List UInt8} (h : gap c = false) (h2 : (nextK (c :: t)).2 ≠ 0) : lexL (f + 1) i 600 (c :: t) = .bad 4 i := by simp [lexL, h, h2]
theorem lexL_tok {f i k : Nat} {c : UInt8} {t : List UInt8} (h : gap c = false) (h2 : (nextK (c :: t)).2 ≠ 0) (h3 : k ≠ 600) (acc : List Tok) :
    (lexL (f + 1) i k (c :: t)).ahead acc = (lexL f (i + (nextK (c :: t)).2) (k + 1) ((c :: t).drop (nextK (c :: t)).2)).ahead (acc ++ [⟨(nextK (c :: t)).1, (c :: t).take (nextK (c :: t)).2, i⟩]) := by
  simp only [lexL, h, h2, h3, if_false, Bool.false_eq_true]
  cases lexL f (i + (nextK (c :: t)).2) (k + 1) ((c :: t).drop (nextK (c :: t)).2) with
  | ok ts => simp [LexR.ahead]
  | bad e p => rfl
/-- What the tokens' reader hands back. -/
def LexOut (w : World) (z : Nat) (r : LexR) (e : Ending) (w' : World) : Prop := Chg [] w w' ∧ match r with
  | .ok ts => ∃ a c, e = .returned (.tuple #[.slice a (ts.length + 1) c, .nilIface]) ∧ ts.length + 1 ≤ c ∧ Row w' (New w w') a (toksCells z ts) ∧ ts.length ≤ 600 ∧ ∀ t ∈ ts, t.text.length ≤ 1099511627776
  | .bad en p => ∃ b, e = .returned (.tuple #[nils, .iface 124 (ptr b)]) ∧ w.heap.size ≤ b ∧ Blk w' b #[.int .i64 en, .int .i64 p] 126
theorem toksCells_eq (z : Nat) : ∀ ts : List Tok, toksCells z ts = ts.flatMap Tok.cells ++ [.int .i64 4, str [], .int .i64 z] := by
  intro ts
  induction ts with
  | nil => rfl
  | cons t r ih => rw [toksCells, ih, List.flatMap_cons, List.append_assoc]
end Go.Mq.Tree
namespace Go.Proofs.YtgnfhognbpifiaaGreatDoor
open Go Go.RowKit Go.Mq Go.Mq.Tree
set_option maxRecDepth 100000
set_option maxHeartbeats 8000000
theorem infoTok : (Tryz.prog.info? 76).map (fun i => (i.zero, i.size, i.bytes)) = some (some (.agg #[.int .i64 0, .string ⟨#[]⟩, .int .i64 0]), 3, 32) := by kernel_rfl
theorem tokens_any (l : List UInt8) (hl : l.length ≤ 1099511627776) (w : World) (B : Nat) (hL : Laid w B) : Calls Tryz.prog 34 #[str l] w (LexOut w l.length (lex l)) := by
  obtain ⟨s, hs⟩ : ∃ s, s = bs l := ⟨_, rfl⟩
  have hsz : s.size = l.length := by rw [hs]; rfl
  have HS := Lib.hid hs
  have HL := Lib.hid hL
  show Calls Tryz.prog 34 #[.string (bs l)] w _
  rw [← hs]
  clear hs hL
  go_enter Tryz.func34, Tryz.ntmps34
  go_wp2_with fail
  go_loopw [4, 5, 6, 7] (fun lv iv _ _ wr => ∃ (f i : Nat) (acc : List Tok), iv = .int .i64 i ∧ i ≤ l.length ∧ lex l = (lexL f i acc.length (l.drop i)).ahead acc ∧ l.length - i ≤ f ∧ acc.length ≤ 600 ∧ (∀ t ∈ acc, t.text.length ≤ 1099511627776) ∧
      wr.ownsRow 0 76 3 lv acc.length (acc.flatMap Tok.cells) ∧ From w.heap.size lv ∧ Chg [] w wr) (fun _ iv _ _ _ => l.length - (intOf iv).toNat)
  case atStart => exact ⟨l.length, 0, [], rfl, Nat.zero_le _, by rw [List.drop_zero, lex]; cases lexL l.length 0 0 l <;> rfl, Nat.sub_le _ _, Nat.zero_le _, fun _ h => (by cases h), World.ownsRow_nil _ _ _ _, From.nil _, Chg.refl _ _⟩
  case round =>
    obtain ⟨f, i, acc, rfl, hi, hr, hf, ha, hsh, ho, hF, hC⟩ := hrel
    have HR := Lib.hid hr; have HSH := Lib.hid hsh; have HO := Lib.hid ho; have HF := Lib.hid hF; have HC := Lib.hid hC
    obtain ⟨sa, sc, hsl⟩ := slice_of_owns ho
    have hsw := hC.size
    clear hr hsh ho hF hC
    subst hsl
    by_cases hlt : i < l.length
    · have hdec : decide ((i : Int) < (s.size : Int)) = true := by simp; omega
      obtain ⟨c, hcc⟩ : ∃ c, l[i]? = some c := ⟨l[i], List.getElem?_eq_getElem hlt⟩
      have hdrop : l.drop i = c :: l.drop (i + 1) := by
        rw [List.drop_eq_getElem_cons hlt]
        congr 1
        rw [List.getElem?_eq_getElem hlt] at hcc
        exact Option.some.inj hcc
      obtain ⟨f, rfl⟩ : ∃ f', f = f' + 1 := ⟨f - 1, by omega⟩
      have hidx := run_index_str (P := Tryz.prog) Tryz.underlying9 (show s[i]? = some c by rw [HS.out, bs_get]; exact hcc)
      have HD := Lib.hid hdrop
      have HBE := Lib.hid (gap_eq c)
      obtain ⟨n0, hn0⟩ : ∃ n : Nat, n = c.toNat := ⟨_, rfl⟩
      rw [← hn0] at hidx HBE
      clear hn0 hcc hdrop
      cases hb : gap c with
      | true =>
        have HRR := Lib.hid (show lex l = (lexL f (i + 1) acc.length (l.drop (i + 1))).ahead acc by rw [HR.out, HD.out, lexL_gap hb])
        rw [hb] at HBE
        clear hb
        cases h1 : ((n0 : Int) == 32) with
        | true =>
          clear HBE
          go_wp2_with fail
          exact ⟨⟨f, i + 1, acc, by go_num, by omega, HRR.out, by omega, ha, HSH.out, HO.out, HF.out, HC.out⟩, by simp [intOf]; omega⟩
        | false =>
          have h2 : ((n0 : Int) == 10) = true := by have := HBE.out; rw [h1] at this; simpa using this.symm
          clear HBE
          go_wp2_with fail
          exact ⟨⟨f, i + 1, acc, by go_num, by omega, HRR.out, by omega, ha, HSH.out, HO.out, HF.out, HC.out⟩, by simp [intOf]; omega⟩
      | false =>
        have hbe := HBE.out
        rw [hb] at hbe
        obtain ⟨h1, h2⟩ := Bool.or_eq_false_iff.1 hbe.symm
        clear hbe
        clear HBE
        have hE1 : s.extract i l.length = bs (c :: l.drop (i + 1)) := by rw [HS.out, bs_extract, ← HD.out]; congr 2; exact List.take_of_length_le (by simp)
        have hlen : (c :: l.drop (i + 1)).length = l.length - i := by rw [← HD.out]; simp
        have HNX := Lib.hid (next_any c (l.drop (i + 1)) (by rw [hlen]; omega) wr B (HL.out.kept HC.out (by simp)))
        have HLT : Hid (nextK (c :: l.drop (i + 1)) = nextK (c :: l.drop (i + 1))) := Lib.hid rfl
        have hnl := nextK_le (c :: l.drop (i + 1))
        rw [hlen] at hnl
        obtain ⟨kd, hkd⟩ : ∃ kd : Nat, kd = (nextK (c :: l.drop (i + 1))).1.num := ⟨_, rfl⟩
        obtain ⟨n, hn⟩ : ∃ n, n = (nextK (c :: l.drop (i + 1))).2 := ⟨_, rfl⟩
        have HKD := Lib.hid hkd; have HN := Lib.hid hn
        rw [← hkd, ← hn] at HNX
        rw [← hn] at hnl
        have HNX : Hid (Calls Tryz.prog 61 #[.string (s.extract i l.length)] wr (fun e w' => e = .returned (.tuple #[.int .i64 kd, .int .i64 n]) ∧ w' = wr)) := Lib.hid (by rw [hE1]; exact HNX.out)
        have HB := Lib.hid hb
        have HNZ : Hid (n = 0 → lex l = .bad 3 i) := Lib.hid (fun h0 => by rw [HR.out, HD.out, lexL_none hb (by rw [← hn, h0])]; rfl)
        have HNM : Hid (n ≠ 0 → acc.length = 600 → lex l = .bad 4 i) := Lib.hid (fun h0 h6 => by rw [HR.out, HD.out, h6, lexL_many hb (by rw [← hn]; exact h0)]; rfl)
        have HNT : Hid (∀ tx, s.extract i (i + n) = bs tx → n ≠ 0 → acc.length ≠ 600 → lex l = (lexL f (i + n) (acc.length + 1) (l.drop (i + n))).ahead (acc ++ [⟨(nextK (c :: l.drop (i + 1))).1, tx, i⟩])) := Lib.hid (fun tx htx h0 h6 => by
          rw [HR.out, HD.out, lexL_tok hb (by rw [← hn]; exact h0) h6, ← hn, ← HD.out, List.drop_drop]
          have htx' : tx = (l.drop i).take n := by
            rw [HS.out, bs_extract, Nat.add_sub_cancel_left] at htx
            have h9 := ByteArray.mk.inj htx
            exact (by simpa using congrArg Array.toList h9.symm)
          rw [htx'])
        clear hkd hn hb hE1 HLT
        by_cases h0 : n = 0
        · have hz : ((n : Int) == 0) = true := by simp [h0]
          have HRR := Lib.hid (HNZ.out h0)
          clear h0
          go_wp2_with fail
          refine HNX.out.mono ?_; rintro _ w2 ⟨rfl, hw⟩
          have hw := hw.symm; subst hw
          go_wp2_with fail
          go_ret2
          rw [HRR.out]
          exact ⟨HC.out.alloc _, _, rfl, hsw, Blk.new _ _ _⟩
        · have hz : ((n : Int) == 0) = false := by simp [h0]
          by_cases h6 : acc.length = 600
          · have h6' : ((acc.length : Int) == 600) = true := by simp [h6]
            have HRR := Lib.hid (HNM.out h0 h6)
            clear h0 h6
            go_wp2_with fail
            refine HNX.out.mono ?_; rintro _ w2 ⟨rfl, hw⟩
            have hw := hw.symm; subst hw
            go_wp2_with fail
            go_ret2
            rw [HRR.out]
            exact ⟨HC.out.alloc _, _, rfl, hsw, Blk.new _ _ _⟩
          · have h6' : ((acc.length : Int) == 600) = false := by simp; omega
            have HTX := Lib.hid (HNT.out ((l.drop i).take n) (by rw [HS.out, bs_extract, Nat.add_sub_cancel_left]) h0 h6)
            have HEX := Lib.hid (show s.extract i (i + n) = bs ((l.drop i).take n) by rw [HS.out, bs_extract, Nat.add_sub_cancel_left])
            have htl : ((l.drop i).take n).length ≤ 1099511627776 := by simp; omega
            have HO2 := Lib.hid (owns_kept HO.out ((Chg.refl [] wr).alloc (.cells #[.int .i64 kd, .string (s.extract i (i + n)), .int .i64 i] 76)) (by simp))
            go_wp2_with fail
            refine HNX.out.mono ?_; rintro _ w2 ⟨rfl, hw⟩
            have hw := hw.symm; subst hw
            go_wp2_with (at_builtin; go_must (refine wpL_append rfl _ _ 68 rfl 76 _ 3 32 infoTok Tryz.underlying68 rfl (by decide) _ _ _ rfl HO2.out ⟨wr.heap.size, 0, none⟩ 1 1 [.int .i64 kd, .string (s.extract i (i + n)), .int .i64 i] rfl rfl (cells_new _ _ _) (by simp [Value.oneCell']) ?_ ?_ ?_))
            · omega
            · unfold maxLen; omega
            · intro v' w' hown' hch' hmv'
              have HO' := Lib.hid hown'
              have HF' := Lib.hid (HF.out.moved hmv' (by simp; omega))
              have HC' := Lib.hid ((HC.out.alloc (.cells #[.int .i64 kd, .string (s.extract i (i + n)), .int .i64 i] 76)).trans hch' (fun x hx => .inr (HF.out x hx)))
              clear hown' hch' hmv'
              go_wp2_with fail
              refine ⟨⟨f, i + n, acc ++ [⟨(nextK (c :: l.drop (i + 1))).1, (l.drop i).take n, i⟩], by go_num, by omega, by simpa using HTX.out, by omega, by simp; omega, ?_, ?_, HF'.out, HC'.out⟩, by simp [intOf]; omega⟩
              · intro t ht
                rcases List.mem_append.1 ht with h | h
                · exact HSH.out t h
                · simp at h; rw [h]; exact htl
              · have := HO'.out
                rw [HEX.out, HKD.out] at this
                simpa [Tok.cells] using this
    · have hdec : decide ((i : Int) < (s.size : Int)) = false := by simp; omega
      have HRR := Lib.hid (show lex l = .ok acc by rw [HR.out, List.drop_eq_nil_of_le (by omega), lexL_nil]; simp [LexR.ahead])
      have HO2 := Lib.hid (owns_kept HO.out ((Chg.refl [] wr).alloc (.cells #[.int .i64 4, str [], .int .i64 l.length] 76)) (by simp))
      go_wp2_with (at_builtin; go_must (refine wpL_append rfl _ _ 68 rfl 76 _ 3 32 infoTok Tryz.underlying68 rfl (by decide) _ _ _ rfl HO2.out ⟨wr.heap.size, 0, none⟩ 1 1 [.int .i64 4, str [], .int .i64 l.length] rfl rfl (cells_new _ _ _) (by simp [Value.oneCell']) ?_ ?_ ?_))
      · omega
      · unfold maxLen; omega
      · intro v' w' hown' hch' hmv'
        have HO' := Lib.hid hown'
        have hF' := HF.out.moved hmv' (by simp; omega)
        have HF' := Lib.hid hF'
        have HC' := Lib.hid ((HC.out.alloc (.cells #[.int .i64 4, str [], .int .i64 l.length] 76)).trans hch' (fun x hx => .inr (HF.out x hx)))
        clear hown' hch' hmv' hF'
        go_wp2_with fail
        go_ret2
        rw [HRR.out]
        obtain ⟨a, k, rfl, hk, hrow⟩ := Row.of_owns HO'.out (new_owns HO'.out HF'.out)
        refine ⟨HC'.out, a, k, rfl, hk, ?_, ha, HSH.out⟩
        rw [toksCells_eq]
        exact hrow
end Go.Proofs.YtgnfhognbpifiaaGreatDoor
/- What Parse defers. -/
namespace Go.Proofs.YtgnfhognbpifiaaGreatDoor
open Go Go.RowKit Go.Mq Go.Mq.Tree
set_option maxRecDepth 100000
set_option maxHeartbeats 8000000
theorem catch_idle (bm be : Nat) (w : World) : CallsD Tryz.prog 33 #[ptr bm, ptr be] .returning w fun e u' w' =>
      e = .returned (.tuple #[]) ∧ u' = .returning ∧ w' = w := by
  refine callsD_of_wpS Tryz.func33 rfl fun c₀ cs hu => ?_
  rw [show (#[ptr bm, ptr be] ++ Array.replicate (Tryz.f33.ntmps - (#[ptr bm, ptr be] : Array Value).size) undef : Array Value) = #[ptr bm, ptr be, undef, undef, undef, undef, undef, undef, undef, undef, undef, undef, undef, undef, undef, undef, undef, undef, undef] from rfl]
  apply wpS_seq
  apply wpS_region
  simp [wpOpsS, go_sem, recoverD, hu, Exit.thenS]
  refine wpS_of_wp ?_
  go_wp2_with fail
  exact ⟨rfl, .returning, by cases c₀; simp_all, .tuple #[], results_none rfl _ _ _, rfl, rfl, rfl⟩
theorem catch_thrown (bm be b : Nat) (c0 c1 c2 c3 c4 e0 : Value) (w : World) (hm : Blk w bm #[c0, c1, c2, c3, c4] 37) (he : Blk w be #[e0] 28) (hne : bm ≠ be) :
    CallsD Tryz.prog 33 #[ptr bm, ptr be] (.panicking [{ v := .iface 66 (.agg #[.iface 124 (ptr b)]), recovered := false }]) w fun e u' w' =>
      e = .returned (.tuple #[]) ∧ u' = .panicking [{ v := .iface 66 (.agg #[.iface 124 (ptr b)]), recovered := true }] ∧ Chg [bm, be] w w' ∧
      Blk w' bm #[str [], nils, nils, nils, nils] 37 ∧ Blk w' be #[.iface 124 (ptr b)] 28 := by
  have hta : ∀ w, (Instr.typeAssert (.iface 66 (.agg #[.iface 124 (ptr b)])) 20 66 true).run Tryz.prog w = .ok (.tuple #[.agg #[.iface 124 (ptr b)], .bool true]) w := fun _ => rfl
  refine callsD_of_wpS Tryz.func33 rfl fun c₀ cs hu => ?_
  rw [show (#[ptr bm, ptr be] ++ Array.replicate (Tryz.f33.ntmps - (#[ptr bm, ptr be] : Array Value).size) undef : Array Value) = #[ptr bm, ptr be, undef, undef, undef, undef, undef, undef, undef, undef, undef, undef, undef, undef, undef, undef, undef, undef, undef] from rfl]
  apply wpS_seq
  apply wpS_region
  simp [wpOpsS, go_sem, recoverD, hu, Exit.thenS]
  refine wpS_of_wp ?_
  go_wp2_with fail
  have hlm := hm.lt
  have hle := he.lt
  have hm' := hm.kept ((Chg.refl [] w).alloc (.cells #[.iface 124 (ptr b)] 66)) (by simp)
  have he' := he.kept ((Chg.refl [] w).alloc (.cells #[.iface 124 (ptr b)] 66)) (by simp)
  have hx' := Blk.new w #[.iface 124 (ptr b)] 66
  have hc' : Chg [bm, be] w (w.alloc (.cells #[.iface 124 (ptr b)] 66)) := (Chg.refl _ w).alloc _
  have hnx : w.heap.size ≠ bm := by omega
  have hny : w.heap.size ≠ be := by omega
  generalize w.alloc (.cells #[.iface 124 (ptr b)] 66) = w1 at *
  have f0 := hm'.frozen 0; have f1 := hm'.frozen 1; have f2 := hm'.frozen 2; have f3 := hm'.frozen 3; have f4 := hm'.frozen 4
  have d0 := hm'.cell 0 _ rfl; have d1 := hm'.cell 1 _ rfl; have d2 := hm'.cell 2 _ rfl; have d3 := hm'.cell 3 _ rfl; have d4 := hm'.cell 4 _ rfl
  have g0 := he'.frozen 0; have e0' := he'.cell 0 _ rfl
  have x0 := hx'.cell 0 _ rfl
  have HM := Lib.hid hm'; have HE := Lib.hid he'; have HC := Lib.hid hc'
  clear hm he hm' he' hx' hc' hta
  go_region
  obtain ⟨wF, hwF, hcF, hbF⟩ := set5 (str []) nils nils nils nils HM.out
  have heF := HE.out.kept hcF (by simp; exact Ne.symm hne)
  have hcE : Chg [be] wF (wF.setCell ⟨be, 0, none⟩ (.iface 124 (ptr b))) := Chg.set1 _ _ _ _
  refine ⟨rfl, .panicking [{ v := .iface 66 (.agg #[.iface 124 (ptr b)]), recovered := true }], rfl, .tuple #[], results_none rfl _ _ _, rfl, rfl, ?_⟩
  rw [hwF]
  refine ⟨((HC.out.then (hcF.mono (fun x hx => .inl (by simp at hx; simp [hx])))).then (hcE.mono (fun x hx => .inl (by simp at hx; simp [hx])))).drew, ?_, ?_⟩
  · exact (hbF.kept hcE (by simpa using hne)).kept (Chg.refl [] _).drew (by simp)
  · have := (heF.set 0 (.iface 124 (ptr b))).kept (Chg.refl [] _).drew (by simp)
    simpa using this
end Go.Proofs.YtgnfhognbpifiaaGreatDoor
/- Parse. -/
namespace Go.Mq.Tree
open Go Go.RowKit Go.Mq
/-- What Parse hands back. -/
def ParseOut (w : World) (r : Res) (e : Ending) (w' : World) : Prop := Chg [] w w' ∧ match r with
  | .ok m => ∃ v, e = .returned (.tuple #[v, .nilIface]) ∧ ModAt w' (New w w') m v
  | .bad en p => ∃ b, e = .returned (.tuple #[.agg #[str [], nils, nils, nils, nils], .iface 124 (ptr b)]) ∧ w.heap.size ≤ b ∧ Blk w' b #[.int .i64 en, .int .i64 p] 126
end Go.Mq.Tree
namespace Go.Proofs.YtgnfhognbpifiaaGreatDoor
open Go Go.RowKit Go.Mq Go.Mq.Tree
set_option maxRecDepth 100000
set_option maxHeartbeats 1000000
theorem results_cells (tmps : Array Value) (bm be : Nat) (c0 c1 c2 c3 c4 ev : Value) (w : World) (h2 : tmps[2]?.getD undef = ptr bm) (h3 : tmps[3]?.getD undef = ptr be) (hm : Blk w bm #[c0, c1, c2, c3, c4] 37) (he : Blk w be #[ev] 28) :
    (results Tryz.f19 tmps).run Tryz.prog w = .ok (.tuple #[.agg #[c0, c1, c2, c3, c4], ev]) w := by
  have d0 := hm.cell 0 _ rfl; have d1 := hm.cell 1 _ rfl; have d2 := hm.cell 2 _ rfl; have d3 := hm.cell 3 _ rfl; have d4 := hm.cell 4 _ rfl
  have e0 := he.cell 0 _ rfl
  simp [results, Tryz.results19, h2, h3, go_sem, d0, d1, d2, d3, d4, e0]
theorem leave_idle (tmps : Array Value) (bm be : Nat) (c0 c1 c2 c3 c4 ev : Value) (w : World) (R : Ending → World → Prop) (h2 : tmps[2]?.getD undef = ptr bm) (h3 : tmps[3]?.getD undef = ptr be) (hm : Blk w bm #[c0, c1, c2, c3, c4] 37) (he : Blk w be #[ev] 28)
    (hR : R (.returned (.tuple #[.agg #[c0, c1, c2, c3, c4], ev])) w) : Leaves Tryz.prog Tryz.f19 tmps R [{ target := .fn (.func 33) #[ptr bm, ptr be], args := #[] }] .returning w := by
  refine leaves_cons (f := 33) (args := #[ptr bm, ptr be]) (by simp) (by simp [go_sem]) ?_
  refine (catch_idle bm be w).mono ?_
  rintro e u' w'' ⟨rfl, rfl, rfl⟩
  exact ⟨_, results_cells tmps bm be c0 c1 c2 c3 c4 ev w'' h2 h3 hm he, hR⟩
theorem leave_thrown (tmps : Array Value) (bm be b : Nat) (c0 c1 c2 c3 c4 ev : Value) (w : World) (R : Ending → World → Prop) (h2 : tmps[2]?.getD undef = ptr bm) (h3 : tmps[3]?.getD undef = ptr be) (hm : Blk w bm #[c0, c1, c2, c3, c4] 37) (he : Blk w be #[ev] 28) (hne : bm ≠ be)
    (hR : ∀ w', Chg [bm, be] w w' → R (.returned (.tuple #[.agg #[str [], nils, nils, nils, nils], .iface 124 (ptr b)])) w') : Leaves Tryz.prog Tryz.f19 tmps R [{ target := .fn (.func 33) #[ptr bm, ptr be], args := #[] }] (.panicking [{ v := .iface 66 (.agg #[.iface 124 (ptr b)]), recovered := false }]) w := by
  refine leaves_cons (f := 33) (args := #[ptr bm, ptr be]) (by simp) (by simp [go_sem]) ?_
  refine (catch_thrown bm be b c0 c1 c2 c3 c4 ev w hm he hne).mono ?_
  rintro e u' w'' ⟨rfl, rfl, hc, hm', he'⟩
  exact ⟨_, results_cells tmps bm be _ _ _ _ _ _ w'' h2 h3 hm' he', hR w'' hc⟩
theorem parse_any (l : List UInt8) (hl : l.length ≤ 1099511627776) (w : World) (B : Nat) (hL : Laid w B) : Calls Tryz.prog 19 #[str l] w (ParseOut w (parse l)) := by
  have hmf : ∀ (fn : Fn) (first cap : Array Value) (w : World), (Instr.makeFunc fn first cap).run Tryz.prog w = .ok (.func fn first cap) w := fun _ _ _ _ => rfl
  have hw1 : (w.alloc (.cells #[str [], nils, nils, nils, nils] 37)).heap.size = w.heap.size + 1 := by simp
  obtain ⟨w0, hw0⟩ : ∃ w0, w0 = (w.alloc (.cells #[str [], nils, nils, nils, nils] 37)).alloc (.cells #[.nilIface] 28) := ⟨_, rfl⟩
  have hb0 := Blk.new (w.alloc (.cells #[str [], nils, nils, nils, nils] 37)) #[.nilIface] 28
  have hm0 := (Blk.new w #[str [], nils, nils, nils, nils] 37).kept ((Chg.refl [] _).alloc (.cells #[.nilIface] 28)) (by simp)
  have hc0 : Chg [] w ((w.alloc (.cells #[str [], nils, nils, nils, nils] 37)).alloc (.cells #[.nilIface] 28)) := ((Chg.refl _ _).alloc _).alloc _
  have hs0 : ((w.alloc (.cells #[str [], nils, nils, nils, nils] 37)).alloc (.cells #[.nilIface] 28)).heap.size = w.heap.size + 2 := by simp
  rw [hw1, ← hw0] at hb0
  rw [← hw0] at hm0 hc0 hs0
  have HBE := Lib.hid hb0; have HBM := Lib.hid hm0; have HC0 := Lib.hid hc0
  have hLw : Laid w0 B := hL.kept hc0 (by simp)
  have HL := Lib.hid hLw
  have HTK := Lib.hid (tokens_any l hl w0 B hLw)
  have hB0 := hL.le
  clear hL hLw hb0 hm0 hw1 hc0
  cases hx : lex l with
  | bad en q =>
    have HRR := Lib.hid (show parse l = .bad en q by rw [parse, hx])
    rw [hx] at HTK
    clear hx
    go_enter_defers Tryz.func19, Tryz.ntmps19
    go_wp2_with fail
    try rw [← hw0]
    refine HTK.out.mono ?_; rintro _ w1 ⟨hc1, b, rfl, hbl, hb1⟩
    have hbe := HBE.out.kept hc1 (by simp)
    have hbm := HBM.out.kept hc1 (by simp)
    have d0 := hbe.cell 0 _ rfl
    have f0 := hbe.frozen 0
    clear hw0
    have hcs : Chg [w.heap.size + 1] w1 (w1.setCell ⟨w.heap.size + 1, 0, none⟩ (.iface 124 (ptr b))) := Chg.set1 _ _ _ _
    have hbe2 : Blk (w1.setCell ⟨w.heap.size + 1, 0, none⟩ (.iface 124 (ptr b))) (w.heap.size + 1) #[.iface 124 (ptr b)] 28 := by simpa using hbe.set 0 (.iface 124 (ptr b))
    have hbm2 := hbm.kept hcs (by simp)
    have hb2 := hb1.kept hcs (by simp; omega)
    have hc2 : Chg [] w _ := (HC0.out.then hc1).trans hcs (fun x hx => .inr (by simp at hx; omega))
    have HBE2 := Lib.hid hbe2; have HBM2 := Lib.hid hbm2; have HB2 := Lib.hid hb2; have HC2 := Lib.hid hc2
    clear hc1 hb1 hbe hbm hcs hbe2 hbm2 hb2 hc2
    go_wp2_with fail
    generalize w1.setCell ⟨w.heap.size + 1, 0, none⟩ (.iface 124 (ptr b)) = w2 at *
    have d0 := HBE2.out.cell 0 _ rfl; have f0 := HBE2.out.frozen 0
    have m0 := HBM2.out.cell 0 _ rfl; have m1 := HBM2.out.cell 1 _ rfl; have m2 := HBM2.out.cell 2 _ rfl; have m3 := HBM2.out.cell 3 _ rfl; have m4 := HBM2.out.cell 4 _ rfl
    have k0 := HBM2.out.frozen 0; have k1 := HBM2.out.frozen 1; have k2 := HBM2.out.frozen 2; have k3 := HBM2.out.frozen 3; have k4 := HBM2.out.frozen 4
    go_region
    obtain ⟨wF, hwF, hcF, hbF⟩ := set5 (str []) nils nils nils nils HBM2.out
    have heF := HBE2.out.kept hcF (by simp)
    have hcE : Chg [w.heap.size + 1] wF (wF.setCell ⟨w.heap.size + 1, 0, none⟩ (.iface 124 (ptr b))) := Chg.set1 _ _ _ _
    have hbE := hbF.kept hcE (by simp)
    have heE := heF.set 0 (.iface 124 (ptr b))
    simp only [Array.setIfInBounds, List.size_toArray, List.length_cons, List.length_nil] at heE
    have hb2 := (HB2.out.kept hcF (by simp; omega)).kept hcE (by simp; omega)
    have hcG : Chg [] w (wF.setCell ⟨w.heap.size + 1, 0, none⟩ (.iface 124 (ptr b))) := (HC2.out.trans hcF (fun x hx => .inr (by simp at hx; omega))).trans hcE (fun x hx => .inr (by simp at hx; omega))
    have HFIN := Lib.hid (And.intro hbE (And.intro heE (And.intro hb2 hcG)))
    clear hbE heE hb2 hcG hcE heF hbF hcF d0 f0 m0 m1 m2 m3 m4 k0 k1 k2 k3 k4
    rw [hwF]
    go_wp2_with fail
    obtain ⟨hbE, heE, hb2, hcG⟩ := HFIN.out
    refine leave_idle _ _ _ _ _ _ _ _ _ _ _ rfl rfl (hbE.kept (Chg.refl [] _).drew (by simp)) (heE.kept (Chg.refl [] _).drew (by simp)) ?_
    rw [HRR.out]
    exact ⟨hcG.drew, b, rfl, by omega, hb2.kept (Chg.refl [] _).drew (by simp)⟩
  | ok ts =>
    have HLX := Lib.hid hx
    rw [hx] at HTK
    clear hx
    go_enter_defers Tryz.func19, Tryz.ntmps19
    go_wp2_with fail
    try rw [← hw0]
    refine HTK.out.mono ?_; rintro _ w1 ⟨hc1, a, k, rfl, hk, hrow, hfew, hshort⟩
    obtain ⟨bt, off, rfl, hcell⟩ := hrow.at_ (by rw [toksCells_eq]; simp)
    have hF := hrow.own (by rw [toksCells_eq]; simp) _ rfl
    have hbe := HBE.out.kept hc1 (by simp)
    have hbm := HBM.out.kept hc1 (by simp)
    have d0 := hbe.cell 0 _ rfl
    have f0 := hbe.frozen 0
    clear hw0
    have hcs : Chg [w.heap.size + 1] w1 (w1.setCell ⟨w.heap.size + 1, 0, none⟩ .nilIface) := Chg.set1 _ _ _ _
    have hbe2 : Blk (w1.setCell ⟨w.heap.size + 1, 0, none⟩ .nilIface) (w.heap.size + 1) #[.nilIface] 28 := by simpa using hbe.set 0 .nilIface
    have hbm2 := hbm.kept hcs (by simp)
    have hc2 : Chg [] w _ := (HC0.out.then hc1).trans hcs (fun x hx => .inr (by simp at hx; omega))
    have hs1 := hc1.size
    have hL2 := (HL.out.kept hc1 (by simp)).kept hcs (fun x hx => by simp at hx; omega)
    have hbt0 : w0.heap.size ≤ bt := hF.1
    have hcell2 : ∀ (i : Nat) (v : Value), (toksCells l.length ts)[i]? = some v → (w1.setCell ⟨w.heap.size + 1, 0, none⟩ .nilIface).cell? ⟨bt, off + i, none⟩ = some v := fun i v hv => hcs.cellSome (hcell i v hv) (by simp; omega)
    have hs2 : (w1.setCell ⟨w.heap.size + 1, 0, none⟩ .nilIface).heap.size = w1.heap.size := by simp [World.setCell]
    have hbt1 : bt < w1.heap.size := hF.2
    obtain ⟨w2, hw2⟩ : ∃ w2, w2 = w1.setCell ⟨w.heap.size + 1, 0, none⟩ .nilIface := ⟨_, rfl⟩
    rw [← hw2] at hbe2 hbm2 hc2 hL2 hcell2 hs2
    obtain ⟨w3, hw3⟩ : ∃ w3, w3 = w2.alloc (.cells #[.slice (some ⟨bt, off, none⟩) (ts.length + 1) k] 73) := ⟨_, rfl⟩
    have hc3 : Chg [] w2 w3 := by rw [hw3]; exact (Chg.refl _ _).alloc _
    have hb3 : Blk w3 w1.heap.size #[.slice (some ⟨bt, off, none⟩) (ts.length + 1) k] 73 := by rw [hw3, ← hs2]; exact Blk.new _ _ _
    have hs3 : w3.heap.size = w1.heap.size + 1 := by rw [hw3, ← hs2]; simp
    have hPar : Par w3 B w1.heap.size bt l.length ts := ⟨hL2.kept hc3 (by simp), by omega, by omega, by omega, hfew, hshort, off, k, hb3, hk, fun i v hv => hc3.cellSome (hcell2 i v hv) (by simp)⟩
    have hbe3 := hbe2.kept hc3 (by simp)
    have hbm3 := hbm2.kept hc3 (by simp)
    have hcw3 : Chg [] w w3 := hc2.then hc3
    have HM := Lib.hid (module_any w3 B w1.heap.size bt l.length ts hPar)
    have HBE3 := Lib.hid hbe3; have HBM3 := Lib.hid hbm3; have HC3 := Lib.hid hcw3
    have hn2 : w.heap.size + 2 ≤ w1.heap.size := by omega
    have g0 : w2.cell? ⟨w.heap.size + 1, 0, none⟩ = some .nilIface := hbe2.cell 0 _ rfl
    clear hc1 hrow hcell hF hbe hbm hcs hbe2 hbm2 hc2 hL2 hcell2 hc3 hb3 hPar hbe3 hbm3 hcw3 hfew hshort
    cases hx : module_ l.length ts with
    | bad en q =>
      have HRR := Lib.hid (show parse l = .bad en q by rw [parse, HLX.out]; simp only [hx])
      rw [hx] at HM
      clear hx
      go_wp2_with fail
      rw [← hw2, ← hw3]
      refine HM.out.mono ?_; intro e w9 he
      obtain ⟨b9, rfl⟩ := he.thrown
      have HEE := Lib.hid he
      clear he
      go_wp2_with fail
      obtain ⟨hc9, b, hbe9, hlt9, hb9⟩ := HEE.out
      cases hbe9
      refine leave_thrown _ _ _ _ _ _ _ _ _ _ _ _ rfl rfl (HBM3.out.kept hc9 (by simp; omega)) (HBE3.out.kept hc9 (by simp; omega)) (by omega) (fun w' hc => ?_)
      rw [HRR.out]
      exact ⟨(HC3.out.trans hc9 (fun x hx => .inr (by simp at hx; omega))).trans hc (fun x hx => .inr (by simp at hx; omega)), _, rfl, by omega, hb9.kept hc (by simp; omega)⟩
    | ok m ts' =>
      have HMX := Lib.hid hx
      rw [hx] at HM
      clear hx
      go_wp2_with fail
      rw [← hw2, ← hw3]
      refine HM.out.mono ?_; rintro _ w4 ⟨hc4, _, rfl, ⟨vi, vv, vp, vb, rfl, hmi, hmv, hmp, hmb⟩, hp4⟩
      have hbe4 := HBE3.out.kept hc4 (by simp; omega)
      have hbm4 := HBM3.out.kept hc4 (by simp; omega)
      have d0 := hbm4.cell 0 _ rfl; have d1 := hbm4.cell 1 _ rfl; have d2 := hbm4.cell 2 _ rfl; have d3 := hbm4.cell 3 _ rfl; have d4 := hbm4.cell 4 _ rfl
      have f0 := hbm4.frozen 0; have f1 := hbm4.frozen 1; have f2 := hbm4.frozen 2; have f3 := hbm4.frozen 3; have f4 := hbm4.frozen 4
      have hs4 := hc4.size
      have hcw4 : Chg [] w w4 := HC3.out.trans hc4 (fun x hx => .inr (by simp at hx; omega))
      have HMA := Lib.hid (show ModAt w4 (New w3 w4) m (.agg #[str m.name, vi, vv, vp, vb]) from ⟨vi, vv, vp, vb, rfl, hmi, hmv, hmp, hmb⟩)
      obtain ⟨ai, ci, rfl, _⟩ := hmi
      obtain ⟨av, cv, rfl, _⟩ := hmv
      obtain ⟨ap, cp, _, rfl, _⟩ := hmp
      obtain ⟨ab, cb, _, rfl, _⟩ := hmb
      obtain ⟨wF, hwF, hcF, hbF⟩ := set5 (str m.name) (.slice ai m.imports.length ci) (.slice av m.vars.length cv) (.slice ap m.procs.length cp) (.slice ab m.body.len cb) hbm4
      have hpF := hp4.kept hcF (fun x hx => by simp at hx; omega) (by simp; omega) (by simp; omega)
      have hbeF := hbe4.kept hcF (by simp)
      have HPF := Lib.hid hpF; have HBF := Lib.hid hbF; have HBEF := Lib.hid hbeF; have HCF := Lib.hid hcF; have HCW := Lib.hid hcw4
      have g0 := hbF.cell 0 _ rfl; have g1 := hbF.cell 1 _ rfl; have g2 := hbF.cell 2 _ rfl; have g3 := hbF.cell 3 _ rfl; have g4 := hbF.cell 4 _ rfl
      have k0 := hbF.frozen 0; have k1 := hbF.frozen 1; have k2 := hbF.frozen 2; have k3 := hbF.frozen 3; have k4 := hbF.frozen 4
      have ge := hbeF.cell 0 _ rfl; have ke := hbeF.frozen 0
      clear hc4 hbe4 hbm4 hcF hp4 hbeF hbF hcw4
      cases ts' with
      | nil =>
        have HRR := Lib.hid (show parse l = .ok m by rw [parse, HLX.out]; simp only [HMX.out])
        obtain ⟨o2, c2, p0, p1, _, hl2⟩ := par_nil hpF
        obtain ⟨wG, hwG, hcG, hbG⟩ := set5 (str m.name) (.slice ai m.imports.length ci) (.slice av m.vars.length cv) (.slice ap m.procs.length cp) (.slice ab m.body.len cb) HBF.out
        have hbeG := HBEF.out.kept hcG (by simp)
        have geG := hbeG.cell 0 _ rfl; have keG := hbeG.frozen 0
        obtain ⟨wH, hwH⟩ : ∃ wH, wG.setCell ⟨w.heap.size + 1, 0, none⟩ .nilIface = wH := ⟨_, rfl⟩
        have hcH : Chg [w.heap.size + 1] wG wH := by rw [← hwH]; exact Chg.set1 _ _ _ _
        have hbeH : Blk wH (w.heap.size + 1) #[.nilIface] 28 := by rw [← hwH]; simpa using hbeG.set 0 .nilIface
        have hbmH := hbG.kept hcH (by simp)
        have hcF' := HCF.out.trans hcG (fun x hx => .inl hx)
        have hMH : ModAt wH (New w wH) m (.agg #[str m.name, .slice ai m.imports.length ci, .slice av m.vars.length cv, .slice ap m.procs.length cp, .slice ab m.body.len cb]) := by
          have hsF := hcF'.size; have hsH := hcH.size
          refine ((HMA.out.kept hcF' (fun x hx hn => ?_)).kept hcH (fun x hx hn => ?_)).mono (fun x hx => ⟨by have := hx.1; omega, by have := hx.2; omega⟩)
          · simp at hx; have := hn.1; omega
          · simp at hx; have := hn.1; omega
        have HBMH := Lib.hid hbmH; have HBEH := Lib.hid hbeH; have HMH := Lib.hid hMH
        have HCH := Lib.hid ((HCW.out.trans hcF' (fun x hx => .inr (by simp at hx; omega))).trans hcH (fun x hx => .inr (by simp at hx; omega)))
        clear hpF hcG hbG hbeG hcH hbeH hbmH hcF' hMH
        go_wp2_with fail
        exact leave_idle _ _ _ _ _ _ _ _ _ _ _ rfl rfl HBMH.out HBEH.out (by rw [HRR.out]; exact ⟨HCH.out, _, rfl, HMH.out⟩)
      | cons t r =>
        have HRR := Lib.hid (show parse l = .bad 3 t.pos by rw [parse, HLX.out]; simp only [HMX.out])
        obtain ⟨o2, c2, hpb, p0, p1, p2, p3, hl2, _⟩ := par_cons hpF
        have hkn := kind_ne t.kind
        have HFA := Lib.hid (fail_any 3 wF B w1.heap.size bt l.length (t :: r) hpF)
        clear hpF hpb
        go_wp2_with fail
        refine HFA.out.mono ?_; intro e w9 he
        obtain ⟨b9, rfl⟩ := he.thrown
        have HEE := Lib.hid he
        clear he
        go_wp2_with fail
        obtain ⟨hc9, b, hbe9, hlt9, hb9⟩ := HEE.out
        cases hbe9
        have hsF := HCF.out.size
        refine leave_thrown _ _ _ _ _ _ _ _ _ _ _ _ rfl rfl (HBF.out.kept hc9 (by simp; omega)) (HBEF.out.kept hc9 (by simp; omega)) (by omega) (fun w' hc => ?_)
        rw [HRR.out]
        exact ⟨((HCW.out.trans HCF.out (fun x hx => .inr (by simp at hx; omega))).trans hc9 (fun x hx => .inr (by simp at hx; omega))).trans hc (fun x hx => .inr (by simp at hx; omega)), _, rfl, by omega, hb9.kept hc (by simp; omega)⟩
end Go.Proofs.YtgnfhognbpifiaaGreatDoor
