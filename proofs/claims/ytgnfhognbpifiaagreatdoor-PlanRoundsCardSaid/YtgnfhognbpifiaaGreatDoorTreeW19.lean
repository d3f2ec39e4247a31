/- What stands at a text's beginning. -/
import Derived.Test.YtgnfhognbpifiaaGreatDoorTreeW18
namespace Go.Mq.Tree
open Go Go.RowKit Go.Mq
theorem prefix_eq (m l : List UInt8) : Lib.hasPrefix l m = m.isPrefixOf l := rfl
theorem nextK_letter {c : UInt8} {t : List UInt8} (h : letter c = true) : nextK (c :: t) = (.word, howN (fun c => letter c || digit c) (c :: t)) := by rw [nextK, if_pos h]
theorem nextK_digit {c : UInt8} {t : List UInt8} (h : letter c = false) (h2 : digit c = true) : nextK (c :: t) = (.number, howN digit (c :: t)) := by rw [nextK, if_neg (by simp [h]), if_pos h2]
theorem nextK_mark {c : UInt8} {t : List UInt8} (h : letter c = false) (h2 : digit c = false) {m : List UInt8} (hm : marks.find? (fun m => m.isPrefixOf (c :: t)) = some m) : nextK (c :: t) = (.mark, m.length) := by
  rw [nextK, if_neg (by simp [h]), if_neg (by simp [h2]), hm]; rfl
theorem nextK_none {c : UInt8} {t : List UInt8} (h : letter c = false) (h2 : digit c = false) (hm : marks.find? (fun m => m.isPrefixOf (c :: t)) = none) : nextK (c :: t) = (.mark, 0) := by
  rw [nextK, if_neg (by simp [h]), if_neg (by simp [h2]), hm]; rfl
end Go.Mq.Tree
namespace Go.Proofs.YtgnfhognbpifiaaGreatDoor
open Go Go.RowKit Go.Mq Go.Mq.Tree
set_option maxRecDepth 100000
set_option maxHeartbeats 4000000
theorem enters35 : ∀ (cs : Array Value) (w : World), (callFunc 87 cs).run Tryz.prog w = .ok (.enter 87 cs) w := fun cs w => by kernel_rfl
theorem enters36 : ∀ (cs : Array Value) (w : World), (callFunc 88 cs).run Tryz.prog w = .ok (.enter 88 cs) w := fun cs w => by kernel_rfl
theorem next_any (c : UInt8) (t : List UInt8) (hl : (c :: t).length ≤ 1099511627776) (w : World) (B : Nat) (hL : Laid w B) :
    Calls Tryz.prog 61 #[str (c :: t)] w (fun e w' => e = .returned (.tuple #[.int .i64 (nextK (c :: t)).1.num, .int .i64 (nextK (c :: t)).2]) ∧ w' = w) := by
  have HLE := Lib.hid (letter_any c w)
  have HDI := Lib.hid (digit_any c w)
  have HRW := Lib.hid (run_any (fun c => letter c || digit c) 87 enters35 w (fun c => alnum_any c w) (c :: t) hl)
  have HRD := Lib.hid (run_any digit 88 enters36 w (fun c => digit_any c w) (c :: t) hl)
  obtain ⟨s, hs⟩ : ∃ s, s = bs (c :: t) := ⟨_, rfl⟩
  have hidx := run_index_str (P := Tryz.prog) Tryz.underlying9 (k := 0) (c := c) (show s[0]? = some c by rw [hs, bs_get]; rfl)
  have hidx : ∀ w, (Instr.index 9 (.string s) (.int .i64 0)).run Tryz.prog w = .ok (.int .u8 c.toNat) w := hidx
  have hsz : s.size = t.length + 1 := by rw [hs]; rfl
  have HS := Lib.hid hs
  show Calls Tryz.prog 61 #[.string (bs (c :: t))] w _
  have HRW : Hid (Calls Tryz.prog 86 #[.string s, .func (.func 87) #[] #[]] w (fun e w' => e = .returned (.int .i64 (howN (fun c => letter c || digit c) (c :: t))) ∧ w' = w)) := by rw [hs]; exact HRW
  have HRD : Hid (Calls Tryz.prog 86 #[.string s, .func (.func 88) #[] #[]] w (fun e w' => e = .returned (.int .i64 (howN digit (c :: t))) ∧ w' = w)) := by rw [hs]; exact HRD
  rw [← hs]
  clear hs
  obtain ⟨n, hn⟩ : ∃ n : Nat, n = c.toNat := ⟨_, rfl⟩
  rw [← hn] at hidx HLE HDI
  clear hn
  cases h1 : letter c with
  | true =>
    have HRR := Lib.hid (nextK_letter (t := t) h1)
    rw [h1] at HLE
    clear h1
    go_enter Tryz.func61, Tryz.ntmps61
    go_wp2_with fail
    refine HLE.out.mono ?_; rintro _ w2 ⟨rfl, hw⟩
    have hw := hw.symm; subst hw
    go_wp2_with fail
    refine HRW.out.mono ?_; rintro _ w2 ⟨rfl, hw⟩
    have hw := hw.symm; subst hw
    go_wp2_with fail
    go_ret2
    rw [HRR.out]
    exact ⟨rfl, rfl⟩
  | false =>
    rw [h1] at HLE
    cases h2 : digit c with
    | true =>
      have HRR := Lib.hid (nextK_digit (t := t) h1 h2)
      rw [h2] at HDI
      clear h1 h2
      go_enter Tryz.func61, Tryz.ntmps61
      go_wp2_with fail
      refine HLE.out.mono ?_; rintro _ w2 ⟨rfl, hw⟩
      have hw := hw.symm; subst hw
      go_wp2_with fail
      refine HDI.out.mono ?_; rintro _ w2 ⟨rfl, hw⟩
      have hw := hw.symm; subst hw
      go_wp2_with fail
      refine HRD.out.mono ?_; rintro _ w2 ⟨rfl, hw⟩
      have hw := hw.symm; subst hw
      go_wp2_with fail
      go_ret2
      rw [HRR.out]
      exact ⟨rfl, rfl⟩
    | false =>
      have HM : Hid (∀ m, marks.find? (fun m => m.isPrefixOf (c :: t)) = some m → nextK (c :: t) = (.mark, m.length)) := Lib.hid (fun m hm => nextK_mark h1 h2 hm)
      have HN : Hid (marks.find? (fun m => m.isPrefixOf (c :: t)) = none → nextK (c :: t) = (.mark, 0)) := Lib.hid (fun hm => nextK_none h1 h2 hm)
      rw [h2] at HDI
      clear h1 h2
      have d0 := hL.marks 0 _ rfl
      have d1 := hL.marks 1 _ rfl
      have d2 := hL.marks 2 _ rfl
      have d3 := hL.marks 3 _ rfl
      have d4 := hL.marks 4 _ rfl
      have d5 := hL.marks 5 _ rfl
      have d6 := hL.marks 6 _ rfl
      have d7 := hL.marks 7 _ rfl
      have d8 := hL.marks 8 _ rfl
      have d9 := hL.marks 9 _ rfl
      have d10 := hL.marks 10 _ rfl
      have d11 := hL.marks 11 _ rfl
      have d12 := hL.marks 12 _ rfl
      have d13 := hL.marks 13 _ rfl
      have d14 := hL.marks 14 _ rfl
      have d15 := hL.marks 15 _ rfl
      have d16 := hL.marks 16 _ rfl
      have d17 := hL.marks 17 _ rfl
      have hml : marks.length = 18 := rfl
      go_enter Tryz.func61, Tryz.ntmps61
      go_wp2_with fail
      refine HLE.out.mono ?_; rintro _ w2 ⟨rfl, hw⟩
      have hw := hw.symm; subst hw
      go_wp2_with fail
      refine HDI.out.mono ?_; rintro _ w2 ⟨rfl, hw⟩
      have hw := hw.symm; subst hw
      go_wp2_with fail
      clear d0 d1 d2 d3 d4 d5 d6 d7 d8 d9 d10 d11 d12 d13 d14 d15 d16 d17
      go_loopw [5, 19] (fun _ i wr => ∃ k : Nat, k ≤ 18 ∧ i = .int .i64 k ∧ wr = w ∧ marks.find? (fun m => m.isPrefixOf (c :: t)) = (marks.drop k).find? (fun m => m.isPrefixOf (c :: t))) (fun _ i _ => 20 - (intOf i).toNat)
      case atStart => exact ⟨0, Nat.zero_le _, rfl, rfl, rfl⟩
      case round =>
        obtain ⟨k, hk, rfl, rfl, hr⟩ := hrel
        have HR := Lib.hid hr; clear hr
        by_cases hlt : k < 18
        · have hmi := marks_index k hlt
          have HX := Lib.hid (Any.strings_HasPrefix Tryz.lays99 s (bs (marks.getD k [])) wr)
          have hm : marks[k]? = some (marks.getD k []) := by rw [List.getD_eq_getElem?_getD, List.getElem?_eq_getElem (by omega)]; rfl
          have hdr : marks.drop k = marks.getD k [] :: marks.drop (k + 1) := by
            rw [List.drop_eq_getElem_cons (by omega)]
            congr 1
            rw [List.getElem?_eq_getElem (by omega)] at hm
            exact Option.some.inj hm
          have HDR := Lib.hid hdr
          have hml9 : (marks.getD k []).length ≤ 2 := by
            have : ∀ m ∈ marks, m.length ≤ 2 := by decide
            exact this _ (List.mem_of_getElem? hm)
          obtain ⟨m, hmm⟩ : ∃ m, m = marks.getD k [] := ⟨_, rfl⟩
          rw [← hmm] at hmi HX HDR hml9
          have HX : Hid (Calls Tryz.prog 89 #[.string s, str m] wr (fun e w' => e = .returned (.bool (m.isPrefixOf (c :: t))) ∧ w' = wr)) := Lib.hid (by
            have := HX.out
            rw [HS.out, prefix_eq] at this
            rw [HS.out]
            exact this)
          clear hm hdr hmm
          cases hp : m.isPrefixOf (c :: t) with
          | true =>
            have HRR := Lib.hid (HM.out m (by rw [HR.out, HDR.out, List.find?_cons, hp]))
            rw [hp] at HX
            clear hp
            go_wp2_with fail
            refine HX.out.mono ?_; rintro _ w2 ⟨rfl, hw⟩
            have hw := hw.symm; subst hw
            go_wp2_with fail
            go_ret2
            rw [HRR.out]
            exact ⟨rfl, rfl⟩
          | false =>
            have HRR := Lib.hid (show marks.find? (fun m => m.isPrefixOf (c :: t)) = (marks.drop (k + 1)).find? (fun m => m.isPrefixOf (c :: t)) by rw [HR.out, HDR.out, List.find?_cons, hp])
            rw [hp] at HX
            clear hp
            go_wp2_with fail
            refine HX.out.mono ?_; rintro _ w2 ⟨rfl, hw⟩
            have hw := hw.symm; subst hw
            go_wp2_with fail
            exact ⟨⟨k + 1, by omega, by go_num, by first | rfl | trivial, HRR.out⟩, by simp [intOf]; omega⟩
        · have hge : k = 18 := by omega
          have HRR := Lib.hid (HN.out (by rw [HR.out, hge]; rfl))
          go_wp2_with fail
          go_ret2
          rw [HRR.out]
          exact ⟨rfl, rfl⟩
end Go.Proofs.YtgnfhognbpifiaaGreatDoor
