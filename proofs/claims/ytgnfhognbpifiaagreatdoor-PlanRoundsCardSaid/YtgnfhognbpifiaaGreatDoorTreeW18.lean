/- Letters, digits, and how many of them stand at a text's beginning. -/
import Derived.Test.YtgnfhognbpifiaaGreatDoorTreeMem
import Derived.Test.YtgnfhognbpifiaaGreatDoorShelf
import Derived.Shelf.Strings.Prefix
namespace Go.Proofs.YtgnfhognbpifiaaGreatDoor
open Go Go.RowKit Go.Mq Go.Mq.Tree
set_option maxRecDepth 100000
set_option maxHeartbeats 4000000
theorem letter_any (c : UInt8) (w : World) : Calls Tryz.prog 85 #[.int .u8 c.toNat] w (fun e w' => e = .returned (.bool (letter c)) ∧ w' = w) := by
  obtain ⟨n, hn⟩ : ∃ n : Nat, n = c.toNat := ⟨_, rfl⟩
  have HL := Lib.hid (show letter c = (decide (97 ≤ n) && decide (n ≤ 122)) by rw [letter, hn])
  rw [← hn]
  clear hn
  cases h1 : decide (97 ≤ n) with
  | false =>
    have h1' : decide ((97 : Int) ≤ (n : Int)) = false := by have := of_decide_eq_false h1; simp; omega
    rw [h1] at HL
    clear h1
    go_enter Tryz.func85, Tryz.ntmps85
    go_wp2_with fail
    go_ret
    rw [HL.out]
    exact ⟨rfl, rfl⟩
  | true =>
    have h1' : decide ((97 : Int) ≤ (n : Int)) = true := by have := of_decide_eq_true h1; simp; omega
    have h2' : decide ((n : Int) ≤ 122) = decide (n ≤ 122) := by by_cases h : n ≤ 122 <;> simp [h] <;> omega
    rw [h1] at HL
    clear h1
    go_enter Tryz.func85, Tryz.ntmps85
    go_wp2_with fail
    go_ret
    rw [HL.out, ← h2']
    exact ⟨rfl, rfl⟩
theorem digit_any (c : UInt8) (w : World) : Calls Tryz.prog 88 #[.int .u8 c.toNat] w (fun e w' => e = .returned (.bool (digit c)) ∧ w' = w) := by
  obtain ⟨n, hn⟩ : ∃ n : Nat, n = c.toNat := ⟨_, rfl⟩
  have HL := Lib.hid (show digit c = (decide (48 ≤ n) && decide (n ≤ 57)) by rw [digit, hn])
  rw [← hn]
  clear hn
  cases h1 : decide (48 ≤ n) with
  | false =>
    have h1' : decide ((48 : Int) ≤ (n : Int)) = false := by have := of_decide_eq_false h1; simp; omega
    rw [h1] at HL
    clear h1
    go_enter Tryz.func88, Tryz.ntmps88
    go_wp2_with fail
    go_ret
    rw [HL.out]
    exact ⟨rfl, rfl⟩
  | true =>
    have h1' : decide ((48 : Int) ≤ (n : Int)) = true := by have := of_decide_eq_true h1; simp; omega
    have h2' : decide ((n : Int) ≤ 57) = decide (n ≤ 57) := by by_cases h : n ≤ 57 <;> simp [h] <;> omega
    rw [h1] at HL
    clear h1
    go_enter Tryz.func88, Tryz.ntmps88
    go_wp2_with fail
    go_ret
    rw [HL.out, ← h2']
    exact ⟨rfl, rfl⟩
theorem alnum_any (c : UInt8) (w : World) : Calls Tryz.prog 87 #[.int .u8 c.toNat] w (fun e w' => e = .returned (.bool (letter c || digit c)) ∧ w' = w) := by
  have HL := Lib.hid (letter_any c w)
  have HD := Lib.hid (digit_any c w)
  obtain ⟨n, hn⟩ : ∃ n : Nat, n = c.toNat := ⟨_, rfl⟩
  rw [← hn] at HL HD
  rw [← hn]
  clear hn
  cases h1 : letter c with
  | true =>
    rw [h1] at HL
    clear h1
    go_enter Tryz.func87, Tryz.ntmps87
    go_wp2_with fail
    refine HL.out.mono ?_; rintro _ w2 ⟨rfl, hw⟩
    have hw := hw.symm; subst hw
    go_wp2_with fail
    go_ret
    exact ⟨rfl, rfl⟩
  | false =>
    rw [h1] at HL
    clear h1
    go_enter Tryz.func87, Tryz.ntmps87
    go_wp2_with fail
    refine HL.out.mono ?_; rintro _ w2 ⟨rfl, hw⟩
    have hw := hw.symm; subst hw
    go_wp2_with fail
    refine HD.out.mono ?_; rintro _ w2 ⟨rfl, hw⟩
    have hw := hw.symm; subst hw
    go_wp2_with fail
    go_ret
    exact ⟨rfl, rfl⟩
theorem howN_drop (f : UInt8 → Bool) : ∀ (l : List UInt8) (k : Nat), k ≤ l.length → (∀ j, j < k → ∀ c, l[j]? = some c → f c = true) → howN f l = k + howN f (l.drop k) := by
  intro l
  induction l with
  | nil => intro k hk _; simp at hk; subst hk; simp
  | cons c t ih =>
    intro k hk h
    cases k with
    | zero => simp
    | succ k =>
      have hc := h 0 (by omega) c rfl
      rw [howN, if_pos hc, List.drop_succ_cons, ih k (by simpa using hk) (fun j hj c' hc' => h (j + 1) (by omega) c' (by simpa using hc'))]
      omega
theorem run_any (f : UInt8 → Bool) (F : FuncId) (hF : ∀ (cs : Array Value) (w : World), (callFunc F cs).run Tryz.prog w = .ok (.enter F cs) w) (w : World) (hc : ∀ c : UInt8, Calls Tryz.prog F #[.int .u8 c.toNat] w (fun e w' => e = .returned (.bool (f c)) ∧ w' = w))
    (l : List UInt8) (hl : l.length ≤ 1099511627776) : Calls Tryz.prog 86 #[str l, .func (.func F) #[] #[]] w (fun e w' => e = .returned (.int .i64 (howN f l)) ∧ w' = w) := by
  have HC := Lib.hid hc
  obtain ⟨s, hs⟩ : ∃ s, s = bs l := ⟨_, rfl⟩
  have hsz : s.size = l.length := by rw [hs]; rfl
  have HS := Lib.hid hs
  show Calls Tryz.prog 86 #[.string (bs l), .func (.func F) #[] #[]] w _
  rw [← hs]
  clear hc hs
  go_enter Tryz.func86, Tryz.ntmps86
  go_wp2_with fail
  go_loopw [5] (fun v wr => ∃ k : Nat, v = .int .i64 k ∧ k ≤ l.length ∧ wr = w ∧ howN f l = k + howN f (l.drop k)) (fun v _ => l.length - (intOf v).toNat)
  case atStart => exact ⟨0, rfl, Nat.zero_le _, rfl, by simp⟩
  case round =>
    obtain ⟨k, rfl, hk, rfl, hr⟩ := hrel
    have HR := Lib.hid hr; clear hr
    by_cases hlt : k < l.length
    · have hdec : decide ((k : Int) < (s.size : Int)) = true := by simp; omega
      obtain ⟨c, hcc⟩ : ∃ c, l[k]? = some c := ⟨l[k], List.getElem?_eq_getElem hlt⟩
      have hdrop : l.drop k = c :: l.drop (k + 1) := by
        rw [List.drop_eq_getElem_cons hlt]
        congr 1
        rw [List.getElem?_eq_getElem hlt] at hcc
        exact Option.some.inj hcc
      have hidx := run_index_str (P := Tryz.prog) Tryz.underlying9 (show s[k]? = some c by rw [HS.out, bs_get]; exact hcc)
      have HCL := Lib.hid (HC.out c)
      obtain ⟨n, hn⟩ : ∃ n : Nat, n = c.toNat := ⟨_, rfl⟩
      rw [← hn] at hidx HCL
      clear hn hcc
      cases hf : f c with
      | true =>
        have HRR := Lib.hid (show howN f l = (k + 1) + howN f (l.drop (k + 1)) by rw [HR.out, hdrop, howN, if_pos hf]; omega)
        rw [hf] at HCL
        clear hf hdrop
        go_wp2_with fail
        refine HCL.out.mono ?_; rintro _ w2 ⟨rfl, hw⟩
        have hw := hw.symm; subst hw
        go_wp2_with fail
        exact ⟨⟨k + 1, by go_num, by omega, by first | rfl | trivial, HRR.out⟩, by simp [intOf]; omega⟩
      | false =>
        have HRR := Lib.hid (show howN f l = k by rw [HR.out, hdrop, howN, if_neg (by rw [hf]; simp)]; rfl)
        rw [hf] at HCL
        clear hf hdrop
        go_wp2_with fail
        refine HCL.out.mono ?_; rintro _ w2 ⟨rfl, hw⟩
        have hw := hw.symm; subst hw
        go_wp2_with fail
        go_ret
        rw [HRR.out]
        exact ⟨rfl, rfl⟩
    · have hdec : decide ((k : Int) < (s.size : Int)) = false := by simp; omega
      have HRR := Lib.hid (show howN f l = k by rw [HR.out, List.drop_eq_nil_of_le (by omega)]; rfl)
      go_wp2_with fail
      go_ret
      rw [HRR.out]
      exact ⟨rfl, rfl⟩
theorem marks_index (k : Nat) (hk : k < 18) (w : World) : (Instr.index 160 (.agg #[str [58, 61], str [60, 61], str [62, 61], str [35], str [61], str [60], str [62], str [43], str [45], str [42], str [40], str [41], str [91], str [93], str [44], str [59], str [58], str [46]]) (.int .i64 k)).run Tryz.prog w = .ok (str (marks.getD k [])) w := by
  match k, hk with
  | 0, _ => rfl
  | 1, _ => rfl
  | 2, _ => rfl
  | 3, _ => rfl
  | 4, _ => rfl
  | 5, _ => rfl
  | 6, _ => rfl
  | 7, _ => rfl
  | 8, _ => rfl
  | 9, _ => rfl
  | 10, _ => rfl
  | 11, _ => rfl
  | 12, _ => rfl
  | 13, _ => rfl
  | 14, _ => rfl
  | 15, _ => rfl
  | 16, _ => rfl
  | 17, _ => rfl
  | n + 18, h => omega
end Go.Proofs.YtgnfhognbpifiaaGreatDoor
