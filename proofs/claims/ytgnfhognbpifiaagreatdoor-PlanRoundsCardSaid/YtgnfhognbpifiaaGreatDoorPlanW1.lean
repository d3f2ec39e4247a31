/- Lists of names; texts that are short. -/
import Derived.Test.YtgnfhognbpifiaaGreatDoorPlanMem
namespace Go.Mq.Plan
open Go Go.RowKit Go.Mq Go.Mq.Tree
theorem names_cell {w : World} {F : Nat → Prop} {a : Option Addr} {l : List (List UInt8)} (h : Row w F a (l.map str)) {k : Nat} {n : List UInt8} (hk : l[k]? = some n) : ∃ b o, a = some ⟨b, o, none⟩ ∧ w.cell? ⟨b, o + k, none⟩ = some (str n) := by
  obtain ⟨b, o, rfl, hc⟩ := h.at_ (by have := (List.getElem?_eq_some_iff.1 hk).1; simp; omega)
  exact ⟨b, o, rfl, hc k (str n) (by rw [List.getElem?_map, hk]; rfl)⟩
theorem split_at {α : Type} {l : List α} {k : Nat} {x : α} (h : l[k]? = some x) : l = l.take k ++ x :: l.drop (k + 1) ∧ (l.take k).length = k := by
  obtain ⟨hk, he⟩ := List.getElem?_eq_some_iff.1 h
  refine ⟨?_, by simp; omega⟩
  rw [← he, ← List.drop_eq_getElem_cons hk, List.take_append_drop]
theorem find_at {α : Type} {f : α → Bool} {l : List α} {k : Nat} {x : α} (hk : l[k]? = some x) (hx : f x = true) (hb : ∀ (i : Nat) (y : α), i < k → l[i]? = some y → f y = false) : l.find? f = some x := by
  obtain ⟨h1, h2⟩ := split_at hk
  rw [h1, List.find?_append]
  have : (l.take k).find? f = none := List.find?_eq_none.2 fun y hy => by
    obtain ⟨i, hi⟩ := List.getElem?_of_mem hy
    have hik : i < k := by have := (List.getElem?_eq_some_iff.1 hi).1; omega
    rw [List.getElem?_take_of_lt hik] at hi
    rw [hb i y hik hi]; simp
  rw [this]
  simp [hx]
theorem find_no {α : Type} {f : α → Bool} {l : List α} (hb : ∀ (i : Nat) (y : α), l[i]? = some y → f y = false) : l.find? f = none := List.find?_eq_none.2 fun y hy => by
  obtain ⟨i, hi⟩ := List.getElem?_of_mem hy
  rw [hb i y hi]; simp
theorem take_snoc {α : Type} {l : List α} {k : Nat} {x : α} (h : l[k]? = some x) : l.take (k + 1) = l.take k ++ [x] := by
  rw [List.take_add_one, h]; rfl
theorem drop_cons {α : Type} {l : List α} {k : Nat} {x : α} (h : l[k]? = some x) : l.drop k = x :: l.drop (k + 1) := by
  obtain ⟨hk, he⟩ := List.getElem?_eq_some_iff.1 h
  rw [← he, ← List.drop_eq_getElem_cons hk]
theorem names_take {w : World} {F : Nat → Prop} {a : Option Addr} {c : Nat} {l : List (List UInt8)} (h : Row w F a (l.map str)) (hc : l.length ≤ c) {k : Nat} (hk : k ≤ l.length) : NamesAt w F (l.take k) (.slice a k c) := by
  refine ⟨a, c, by rw [List.length_take, Nat.min_eq_left hk], by rw [List.length_take]; omega, fun h0 => ?_, fun h0 p hp => h.own (by simp at h0 ⊢; omega) p hp⟩
  obtain ⟨b, o, ha, hcell⟩ := h.at_ (by simp at h0 ⊢; omega)
  refine ⟨b, o, ha, fun i v hv => hcell i v ?_⟩
  rw [List.getElem?_map] at hv ⊢
  rw [List.getElem?_take] at hv
  split at hv
  · exact hv
  · cases hv
end Go.Mq.Plan
namespace Go.Proofs.YtgnfhognbpifiaaGreatDoor
open Go Go.RowKit Go.Mq Go.Mq.Tree Go.Mq.Plan
set_option maxRecDepth 100000
set_option maxHeartbeats 2000000
theorem zero_bool (w : World) : (zeroValue 4).run Tryz.prog w = .ok (.bool false) w := by kernel_rfl
theorem infoStrC : (Tryz.prog.info? 9).map (fun i => (i.zero, i.size, i.bytes)) = some (some (.string ⟨#[]⟩), 1, 16) := by kernel_rfl
theorem strs_one (l : List (List UInt8)) : ∀ u ∈ l.map str, u.oneCell' = true := by
  intro u hu
  obtain ⟨x, _, rfl⟩ := List.mem_map.1 hu
  rfl
theorem indexs_in (l : List (List UInt8)) (hl : l.length ≤ 1000) (n : List UInt8) (F : Nat → Prop) (v : Value) (w : World) (h : NamesAt w F l v) :
    Calls Tryz.prog 26 #[v, str n] w (fun e w' => ∃ r : Int, e = .returned (.int .i64 r) ∧ -1 ≤ r ∧ r ≤ 1000 ∧ decide (0 ≤ r) = decide (n ∈ l) ∧ w' = w) := by
  obtain ⟨a, c, rfl, hac, hrow⟩ := h
  have HROW := Lib.hid hrow
  clear hrow
  go_enter Tryz.func26, Tryz.ntmps26
  go_wp2_with fail
  go_loopw [5, 8] (fun _ i wr => ∃ k : Nat, i = .int .i64 k ∧ k ≤ l.length ∧ w = wr ∧ ∀ (i : Nat) (x : List UInt8), i < k → l[i]? = some x → x ≠ n) (fun _ i _ => l.length - (intOf i).toNat)
  case atStart => exact ⟨0, rfl, Nat.zero_le _, rfl, fun i x hi => by omega⟩
  case round =>
    obtain ⟨k, rfl, hk, rfl, hno⟩ := hrel
    have HNO := Lib.hid hno
    clear hno
    by_cases hlt : k < l.length
    · obtain ⟨x, hs⟩ : ∃ x, l[k]? = some x := ⟨l[k], List.getElem?_eq_getElem hlt⟩
      obtain ⟨b, o, rfl, d0⟩ := names_cell HROW.out hs
      have HS := Lib.hid hs
      clear hs
      cases hq : (n == x) with
      | true =>
        have HIN := Lib.hid (show n ∈ l by
          have : n = x := by simpa using hq
          rw [this]; exact List.mem_of_getElem? HS.out)
        go_wp2_with fail
        go_ret
        exact ⟨k, rfl, by omega, by omega, by simp [HIN.out], rfl⟩
      | false =>
        have HN := Lib.hid (show x ≠ n by intro h; subst h; simp at hq)
        go_wp2_with fail
        refine ⟨⟨k + 1, by go_num, by omega, by first | rfl | trivial, fun i y hi hx => ?_⟩, by simp [intOf]; omega⟩
        by_cases he : i < k
        · exact HNO.out i y he hx
        · have : i = k := by omega
          subst this
          rw [HS.out] at hx
          cases hx
          exact HN.out
    · have hall : n ∉ l := fun hn => by
        obtain ⟨i, hi⟩ := List.getElem?_of_mem hn
        exact HNO.out i n (by have := (List.getElem?_eq_some_iff.1 hi).1; omega) hi rfl
      have HA := Lib.hid hall
      clear hall
      go_wp2_with fail
      go_ret
      exact ⟨-1, rfl, by omega, by omega, by simp [HA.out], rfl⟩
theorem contains_in (l : List (List UInt8)) (hl : l.length ≤ 1000) (n : List UInt8) (F : Nat → Prop) (v : Value) (w : World) (h : NamesAt w F l v) :
    Calls Tryz.prog 12 #[v, str n] w (fun e w' => e = .returned (.bool (decide (n ∈ l))) ∧ w' = w) := by
  have HI := Lib.hid (indexs_in l hl n F v w h)
  clear h
  go_enter Tryz.func12, Tryz.ntmps12
  go_wp2_with fail
  refine HI.out.mono ?_; rintro _ w1 ⟨r, rfl, h0, h1, hq, hw⟩
  have HQ := Lib.hid hq; have HW := Lib.hid hw
  clear hq hw
  go_wp2_with fail
  go_ret
  exact ⟨by rw [← HQ.out]; simp, HW.out⟩
theorem slong_any (n : List UInt8) (hn : n.length ≤ 9223372036854775807) (w : World) : Calls Tryz.prog 18 #[str n] w (fun e w' => e = .returned (.bool (decide (900 < n.length))) ∧ w' = w) := by
  go_enter Tryz.func18, Tryz.ntmps18
  go_wp2_with fail
  go_ret
  exact ⟨by simp; constructor <;> intro h <;> omega, rfl⟩
theorem sindexf_any (l : List (List UInt8)) (hl : l.length ≤ 1000) (hz : ∀ n ∈ l, n.length ≤ 9223372036854775807) (F : Nat → Prop) (v : Value) (w : World) (h : NamesAt w F l v) :
    Calls Tryz.prog 22 #[v, .func (.func 18) #[] #[]] w (fun e w' => ∃ r : Int, e = .returned (.int .i64 r) ∧ -1 ≤ r ∧ r ≤ 1000 ∧ (0 ≤ r ∨ ∀ n ∈ l, n.length ≤ 900) ∧ Chg [] w w') := by
  obtain ⟨a, c, rfl, hac, hrow⟩ := h
  have HROW := Lib.hid hrow; have HZ := Lib.hid hz
  clear hrow hz
  go_enter Tryz.func22, Tryz.ntmps22
  go_wp2_with fail
  go_loopw [5, 8] (fun _ i wr => ∃ k : Nat, i = .int .i64 k ∧ k ≤ l.length ∧ w = wr ∧ ∀ (i : Nat) (x : List UInt8), i < k → l[i]? = some x → x.length ≤ 900) (fun _ i _ => l.length - (intOf i).toNat)
  case atStart => exact ⟨0, rfl, Nat.zero_le _, rfl, fun i x hi => by omega⟩
  case round =>
    obtain ⟨k, rfl, hk, rfl, hno⟩ := hrel
    have HNO := Lib.hid hno
    clear hno
    by_cases hlt : k < l.length
    · obtain ⟨n, hs⟩ : ∃ n, l[k]? = some n := ⟨l[k], List.getElem?_eq_getElem hlt⟩
      obtain ⟨b, o, rfl, d0⟩ := names_cell HROW.out hs
      have HS := Lib.hid hs
      have HI := Lib.hid (slong_any n (HZ.out n (List.mem_of_getElem? hs)) w)
      clear hs
      cases hq : decide (900 < n.length) with
      | true =>
        rw [hq] at HI
        clear hq
        go_wp2_with fail
        refine HI.out.mono ?_; rintro _ _ ⟨rfl, hw⟩; have hw := hw.symm; subst hw
        go_wp2_with fail
        go_ret
        exact ⟨k, rfl, by omega, by omega, .inl (by omega), Chg.refl _ _⟩
      | false =>
        rw [hq] at HI
        have HN := Lib.hid (show n.length ≤ 900 by simpa using hq)
        clear hq
        go_wp2_with fail
        refine HI.out.mono ?_; rintro _ _ ⟨rfl, hw⟩; have hw := hw.symm; subst hw
        go_wp2_with fail
        refine ⟨⟨k + 1, by go_num, by omega, by first | rfl | trivial, fun i x hi hx => ?_⟩, by simp [intOf]; omega⟩
        by_cases he : i < k
        · exact HNO.out i x he hx
        · have : i = k := by omega
          subst this
          rw [HS.out] at hx
          cases hx
          exact HN.out
    · have hall : ∀ n ∈ l, n.length ≤ 900 := fun n hn => by
        obtain ⟨i, hi⟩ := List.getElem?_of_mem hn
        exact HNO.out i n (by have := (List.getElem?_eq_some_iff.1 hi).1; omega) hi
      have HA := Lib.hid hall
      clear hall
      go_wp2_with fail
      go_ret
      exact ⟨-1, rfl, by omega, by omega, .inr HA.out, Chg.refl _ _⟩
theorem scontainsf_any (l : List (List UInt8)) (hl : l.length ≤ 1000) (hz : ∀ n ∈ l, n.length ≤ 9223372036854775807) (F : Nat → Prop) (v : Value) (w : World) (h : NamesAt w F l v) :
    Calls Tryz.prog 9 #[v, .func (.func 18) #[] #[]] w (fun e w' => ∃ q : Bool, e = .returned (.bool q) ∧ (q = true ∨ ∀ n ∈ l, n.length ≤ 900) ∧ Chg [] w w') := by
  have HI := Lib.hid (sindexf_any l hl hz F v w h)
  clear h hz
  go_enter Tryz.func9, Tryz.ntmps9
  go_wp2_with fail
  refine HI.out.mono ?_; rintro _ w1 ⟨r, rfl, h0, h1, hq, hc⟩
  have HQ := Lib.hid hq; have HC := Lib.hid hc
  clear hq hc
  go_wp2_with fail
  go_ret
  refine ⟨decide (0 ≤ r), rfl, ?_, HC.out⟩
  rcases HQ.out with h | h
  · exact .inl (by simpa using h)
  · exact .inr h
theorem short_any (l : List (List UInt8)) (hl : l.length ≤ 9223372036854775807) (hz : ∀ n ∈ l, n.length ≤ 9223372036854775807) (F : Nat → Prop) (a : Option Addr) (c : Nat) (w : World) (h : NamesAt w F l (.slice a l.length c)) :
    Calls Tryz.prog 5 #[.slice a l.length c] w (fun e w' => ∃ q : Bool, e = .returned (.bool q) ∧ (q = true → l.length ≤ 5 ∧ ∀ n ∈ l, n.length ≤ 900) ∧ Chg [] w w') := by
  by_cases h5 : l.length ≤ 5
  · have HC := Lib.hid (scontainsf_any l (by omega) hz F _ w h)
    clear h hz
    go_enter Tryz.func5, Tryz.ntmps5
    go_wp2_with fail
    refine HC.out.mono ?_; rintro _ w1 ⟨q, rfl, hq, hc⟩
    have HQ := Lib.hid hq; have HC1 := Lib.hid hc
    clear hq hc
    cases q with
    | true =>
      go_wp2_with fail
      go_ret
      exact ⟨false, rfl, (fun h => by cases h), HC1.out⟩
    | false =>
      go_wp2_with fail
      go_ret
      exact ⟨true, rfl, fun _ => ⟨h5, by rcases HQ.out with h | h; · cases h
                                         · exact h⟩, HC1.out⟩
  · clear h hz
    go_enter Tryz.func5, Tryz.ntmps5
    go_wp2_with fail
    go_ret
    exact ⟨rfl, Chg.refl _ _⟩
end Go.Proofs.YtgnfhognbpifiaaGreatDoor
