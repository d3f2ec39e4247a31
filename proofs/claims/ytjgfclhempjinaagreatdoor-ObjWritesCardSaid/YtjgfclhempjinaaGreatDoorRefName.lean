/- The document's names (marquetryref.Name), and what they have to do with obj's. -/
import Derived.Test.YtjgfclhempjinaaGreatDoorObjW5
import Derived.Test.YtjgfclhempjinaaGreatDoorObjParse
namespace Go.Mq.Obj
open Go Go.RowKit Go.Mq
def lowB (c : UInt8) : Bool := decide (97 ≤ c.toNat) && decide (c.toNat ≤ 122)
def digB (c : UInt8) : Bool := decide (48 ≤ c.toNat) && decide (c.toNat ≤ 57)
/-- What may stand in a name at a place. -/
def nmAt (i : Nat) (c : UInt8) : Bool := lowB c || (!decide (i = 0) && digB c)
theorem u8_all {p : UInt8 → Bool} (h : ∀ n : Fin 256, p (UInt8.ofNat n.val) = true) (c : UInt8) : p c = true := by
  have := h ⟨c.toNat, c.toNat_lt⟩
  simpa using this
theorem lets_low (c : UInt8) : decide (0 ≤ Lib.indexByte lets c) = lowB c := by
  have h : ∀ n : Fin 256, (decide (0 ≤ Lib.indexByte lets (UInt8.ofNat n.val)) == lowB (UInt8.ofNat n.val)) = true := by decide +kernel
  have := u8_all (p := fun c => decide (0 ≤ Lib.indexByte lets c) == lowB c) h c
  exact beq_iff_eq.1 this
theorem letsDigs_is (c : UInt8) : letsDigs.contains c = (lowB c || digB c) := by
  have h : ∀ n : Fin 256, (letsDigs.contains (UInt8.ofNat n.val) == (lowB (UInt8.ofNat n.val) || digB (UInt8.ofNat n.val))) = true := by decide +kernel
  have := u8_all (p := fun c => letsDigs.contains c == (lowB c || digB c)) h c
  exact beq_iff_eq.1 this
theorem dropAll {p : UInt8 → Bool} (l : List UInt8) : l.dropWhile p = [] ↔ ∀ x ∈ l, p x = true := by
  induction l with
  | nil => simp
  | cons y l ih =>
    rw [List.dropWhile_cons]
    by_cases h : p y = true
    · rw [if_pos h, ih]; simp [h]
    · rw [if_neg h]; simp [h]
theorem trim_nil (l cs : List UInt8) : (Lib.trimS l cs).isEmpty = l.all (cs.contains ·) := by
  rw [Bool.eq_iff_iff, List.isEmpty_iff, List.all_eq_true]
  unfold Lib.trimS Lib.trimLeftS Lib.trimRightS
  rw [dropAll]
  cases hr : l.reverse.dropWhile (cs.contains ·) with
  | nil =>
    have h2 := (dropAll _).1 hr
    simp only [List.reverse_nil, List.not_mem_nil, false_implies, implies_true, true_iff]
    exact fun x hx => h2 x (by simpa using hx)
  | cons y t =>
    have hy : cs.contains y = false := by
      have := List.head_dropWhile_not (cs.contains ·) (l := l.reverse) (by rw [hr]; simp)
      simp only [hr, List.head_cons] at this
      exact this
    have hm : y ∈ l := by
      have : y ∈ l.reverse.dropWhile (cs.contains ·) := by rw [hr]; simp
      simpa using (List.dropWhile_sublist _).mem this
    constructor
    · intro h
      have := h y (by simp)
      rw [hy] at this; cases this
    · intro h
      have := h y hm
      rw [hy] at this; cases this
/-- A name, place by place. -/
theorem name_places (l : List UInt8) : nameOK l = (decide (1 ≤ l.length) && decide (l.length ≤ 10) && decide (∀ i, i < l.length → ∀ c, l[i]? = some c → nmAt i c = true)) := by
  cases l with
  | nil => simp [nameOK]
  | cons c t =>
    rw [Bool.eq_iff_iff]
    simp only [nameOK, Bool.and_eq_true, decide_eq_true_eq, trim_nil, List.all_eq_true]
    have e := lets_low c
    constructor
    · rintro ⟨⟨h1, h2⟩, h3⟩
      refine ⟨⟨by simp, h1⟩, fun i hi c' hc => ?_⟩
      have hl : lowB c = true := by rw [← e]; simpa using h2
      cases i with
      | zero => simp at hc; subst hc; simp [nmAt, hl]
      | succ i =>
        have hm := h3 c' (List.mem_of_getElem? hc)
        rw [letsDigs_is] at hm
        simp [nmAt, hm]
    · rintro ⟨⟨_, h1⟩, h⟩
      have h0 := h 0 (by simp) c (by simp)
      simp only [nmAt, decide_true, Bool.not_true, Bool.false_and, Bool.or_false] at h0
      rw [h0] at e
      refine ⟨⟨h1, by simpa using e⟩, fun x hx => ?_⟩
      obtain ⟨i, hi⟩ := List.mem_iff_getElem?.1 hx
      have hii : i < (c :: t).length := (List.getElem?_eq_some_iff.1 hi).1
      have := h i hii x hi
      rw [letsDigs_is]
      simp only [nmAt, Bool.or_eq_true, Bool.and_eq_true] at this ⊢
      rcases this with h | ⟨_, h⟩
      · exact .inl h
      · exact .inr h
end Go.Mq.Obj

namespace Go.Proofs.YtjgfclhempjinaaGreatDoor
open Go Go.RowKit Go.Mq Go.Mq.Obj
set_option maxRecDepth 100000
theorem rlow_any (n : Nat) (w : World) (h : n < 256) : Calls Tryz.prog 34 #[.int .u8 n] w (fun e w' => e = .returned (.bool (decide (97 ≤ n) && decide (n ≤ 122))) ∧ w = w') := by
  by_cases h1 : 97 ≤ n
  all_goals by_cases h2 : n ≤ 122
  all_goals try (exfalso; omega)
  all_goals
    go_enter Tryz.func34, Tryz.ntmps34
    go_wp2_with fail
    go_ret
    refine ⟨?_, rfl⟩
    simp [h1, h2] <;> omega
theorem rdig_any (n : Nat) (w : World) (h : n < 256) : Calls Tryz.prog 35 #[.int .u8 n] w (fun e w' => e = .returned (.bool (decide (48 ≤ n) && decide (n ≤ 57))) ∧ w = w') := by
  by_cases h1 : 48 ≤ n
  all_goals by_cases h2 : n ≤ 57
  all_goals try (exfalso; omega)
  all_goals
    go_enter Tryz.func35, Tryz.ntmps35
    go_wp2_with fail
    go_ret
    refine ⟨?_, rfl⟩
    simp [h1, h2] <;> omega
theorem rin_any (n a b : Int) (w : World) : Calls Tryz.prog 29 #[.int .i64 n, .int .i64 a, .int .i64 b] w (fun e w' => e = .returned (.bool (decide (a ≤ n) && decide (n ≤ b))) ∧ w = w') := by
  by_cases h1 : a ≤ n
  all_goals by_cases h2 : n ≤ b
  all_goals
    go_enter Tryz.func29, Tryz.ntmps29
    go_wp2_with fail
    go_ret
    refine ⟨?_, rfl⟩
    simp [h1, h2] <;> omega
theorem rname_any (l : List UInt8) (w : World) (h : l.length ≤ 9223372036854775807) : Calls Tryz.prog 11 #[.string (bs l)] w (fun e w' => e = .returned (.bool (nameOK l)) ∧ w = w') := by
  have HN := Lib.hid (name_places l)
  obtain ⟨s, hs⟩ : ∃ s, s = bs l := ⟨_, rfl⟩
  have hsz : s.size = l.length := by rw [hs]; rfl
  have hl2 : s.size ≤ 9223372036854775807 := by omega
  rw [← hs]
  have HS := Lib.hid hs; have HZ := Lib.hid hsz
  clear hs hsz h
  go_enter Tryz.func11, Tryz.ntmps11
  go_wp2_with fail
  go_loopw [3, 6] (fun _ i wr => ∃ k : Nat, k ≤ s.size ∧ i = .int .i64 k ∧ (∀ i, i < k → ∀ c, l[i]? = some c → nmAt i c = true) ∧ w = wr) (fun _ i _ => s.size - (intOf i).toNat)
  case atStart => exact ⟨0, Nat.zero_le _, rfl, fun i hi => by omega, rfl⟩
  case round =>
    obtain ⟨k, hk, rfl, hall, hw⟩ := hrel
    subst hw
    have HA := Lib.hid hall; clear hall
    by_cases hlt : k < s.size
    · obtain ⟨c, hc⟩ : ∃ c : UInt8, s[k]? = some c := ⟨s[k], by simp [hlt]⟩
      have hidx := run_index_str Tryz.underlying9 hc
      have hlc : l[k]? = some c := by rw [← bs_get, ← HS.out]; exact hc
      have HC := Lib.hid hlc; clear hc hlc
      obtain ⟨n, hn⟩ : ∃ n : Nat, n = c.toNat := ⟨_, rfl⟩
      have hn8 : n < 256 := by rw [hn]; exact c.toNat_lt
      rw [← hn] at hidx
      have HNN := Lib.hid hn; clear hn
      have hlow := rlow_any n w hn8
      have hdig := rdig_any n w hn8
      have step : nmAt k c = true → ∀ i, i < k + 1 → ∀ c, l[i]? = some c → nmAt i c = true := fun h i hi c' hc' => by
        by_cases hik : i = k
        · subst hik; rw [HC.out] at hc'; cases hc'; exact h
        · exact HA.out i (by omega) c' hc'
      have bad : nmAt k c = false → nameOK l = false := fun h => by
        rw [HN.out]
        have hnot : ¬ ∀ i, i < l.length → ∀ c, l[i]? = some c → nmAt i c = true := fun hh => by
          have := hh k (by rw [← HZ.out]; exact hlt) c HC.out
          rw [h] at this; cases this
        rw [decide_eq_false hnot, Bool.and_false]
      have e : nmAt k c = ((decide (97 ≤ n) && decide (n ≤ 122)) || (!decide (k = 0) && (decide (48 ≤ n) && decide (n ≤ 57)))) := by simp only [nmAt, lowB, digB, HNN.out]
      have HL := Lib.hid hlow; have HD := Lib.hid hdig; have STEP := Lib.hid step; have BAD := Lib.hid bad; have HE := Lib.hid e
      clear hlow hdig step bad e
      by_cases t1 : (97 ≤ n ∧ n ≤ 122)
      · have HT : Hid ((decide (97 ≤ n) && decide (n ≤ 122)) = true) := Lib.hid (by simp [t1])
        have h1 := HL.out
        rw [HT.out] at h1
        have HL := Lib.hid h1; clear h1 t1
        go_wp2_with fail
        refine HL.out.mono ?_; rintro _ _ ⟨rfl, rfl⟩
        go_wp2_with fail
        go_roundw
        case rel => exact ⟨k + 1, by omega, by go_num, STEP.out (by rw [HE.out, HT.out]; rfl), by first | rfl | trivial⟩
        case measure => simp [intOf]; omega
      · have HT : Hid ((decide (97 ≤ n) && decide (n ≤ 122)) = false) := Lib.hid (by simp; omega)
        have h1 := HL.out
        rw [HT.out] at h1
        have HL := Lib.hid h1; clear h1 t1
        by_cases t2 : k = 0
        · have HK := Lib.hid t2
          have hk0 : ((k : Int) == 0) = true := by simp; omega
          clear t2
          go_wp2_with fail
          refine HL.out.mono ?_; rintro _ _ ⟨rfl, rfl⟩
          go_wp2_with fail
          go_ret
          refine ⟨?_, rfl⟩
          rw [BAD.out (by rw [HE.out, HT.out, HK.out]; rfl)]
          rfl
        · have HK := Lib.hid t2
          have hk0 : ((k : Int) == 0) = false := by simp; omega
          have hk1 : (k : Int) ≠ 0 := by omega
          by_cases t3 : (48 ≤ n ∧ n ≤ 57)
          · have HT3 : Hid ((decide (48 ≤ n) && decide (n ≤ 57)) = true) := Lib.hid (by simp [t3])
            have h1 := HD.out
            rw [HT3.out] at h1
            have HD := Lib.hid h1; clear h1 t3 t2
            go_wp2_with fail
            refine HL.out.mono ?_; rintro _ _ ⟨rfl, rfl⟩
            go_wp2_with fail
            refine HD.out.mono ?_; rintro _ _ ⟨rfl, rfl⟩
            go_wp2_with fail
            go_roundw
            case rel => exact ⟨k + 1, by omega, by go_num, STEP.out (by rw [HE.out, HT3.out]; simp [HK.out]), by first | rfl | trivial⟩
            case measure => simp [intOf]; omega
          · have HT3 : Hid ((decide (48 ≤ n) && decide (n ≤ 57)) = false) := Lib.hid (by simp; omega)
            have h1 := HD.out
            rw [HT3.out] at h1
            have HD := Lib.hid h1; clear h1 t3 t2
            go_wp2_with fail
            refine HL.out.mono ?_; rintro _ _ ⟨rfl, rfl⟩
            go_wp2_with fail
            refine HD.out.mono ?_; rintro _ _ ⟨rfl, rfl⟩
            go_wp2_with fail
            go_ret
            refine ⟨?_, rfl⟩
            rw [BAD.out (by rw [HE.out, HT.out, HT3.out]; simp)]
            rfl
    · have hkn : k = s.size := by omega
      have HI := Lib.hid (rin_any (s.size : Int) 1 10 w)
      have HK := Lib.hid hkn
      go_wp2_with fail
      refine HI.out.mono ?_; rintro _ _ ⟨rfl, rfl⟩
      go_wp2_with fail
      go_ret
      refine ⟨?_, rfl⟩
      rw [HN.out]
      have hall : ∀ i, i < l.length → ∀ c, l[i]? = some c → nmAt i c = true := fun i hi => HA.out i (by rw [HK.out, HZ.out]; exact hi)
      rw [decide_eq_true hall, Bool.and_true]
      have e1 : decide ((1 : Int) ≤ (s.size : Int)) = decide (1 ≤ l.length) := by rw [← HZ.out, Bool.eq_iff_iff]; simp; omega
      have e2 : decide ((s.size : Int) ≤ 10) = decide (l.length ≤ 10) := by rw [← HZ.out, Bool.eq_iff_iff]; simp; omega
      rw [← e1, ← e2]
      rfl
end Go.Proofs.YtjgfclhempjinaaGreatDoor
