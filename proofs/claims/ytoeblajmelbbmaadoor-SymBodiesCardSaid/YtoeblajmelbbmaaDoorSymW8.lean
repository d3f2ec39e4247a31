/- Names that are handed in: is one too long, is one of them there; a copy. -/
import Derived.Test.YtoeblajmelbbmaaDoorSymW7
import Derived.Test.YtoeblajmelbbmaaDoorAppendAny
namespace Go.Mq.Sym
open Go Go.RowKit Go.Mq Go.Mq.Tree
theorem names_cell {w : World} {F : Nat → Prop} {a : Option Addr} {l : List (List UInt8)} (h : Row w F a (l.map str)) {k : Nat} {n : List UInt8} (hk : l[k]? = some n) : ∃ b o, a = some ⟨b, o, none⟩ ∧ w.cell? ⟨b, o + k, none⟩ = some (str n) := by
  obtain ⟨b, o, rfl, hc⟩ := h.at_ (by have := (List.getElem?_eq_some_iff.1 hk).1; simp; omega)
  exact ⟨b, o, rfl, hc k (str n) (by rw [List.getElem?_map, hk]; rfl)⟩
theorem flat3 : ∀ l : List Sy, (l.flatMap Sy.cells).length = l.length * 3
  | [] => rfl
  | x :: r => by rw [List.flatMap_cons, List.length_append, flat3 r]; simp [Sy.cells]; omega
end Go.Mq.Sym
namespace Go.Proofs.YtoeblajmelbbmaaDoor
open Go Go.RowKit Go.Mq Go.Mq.Tree Go.Mq.Sym
set_option maxRecDepth 100000
set_option maxHeartbeats 2000000
theorem long_any (n : List UInt8) (hn : n.length ≤ 9223372036854775807) (w : World) : Calls Tryd.prog 10 #[str n] w (fun e w' => e = .returned (.bool (decide (40 < n.length))) ∧ w' = w) := by
  go_enter Tryd.func10, Tryd.ntmps10
  go_wp2_with fail
  go_ret
  exact ⟨by simp; constructor <;> intro h <;> omega, rfl⟩
theorem indexf_any (l : List (List UInt8)) (hl : l.length ≤ 1000) (hz : ∀ n ∈ l, n.length ≤ 9223372036854775807) (F : Nat → Prop) (v : Value) (w : World) (h : NamesAt w F l v) :
    Calls Tryd.prog 25 #[v, .func (.func 10) #[] #[]] w (fun e w' => ∃ r : Int, e = .returned (.int .i64 r) ∧ -1 ≤ r ∧ r ≤ 1000 ∧ (0 ≤ r ∨ ∀ n ∈ l, n.length ≤ 40) ∧ Chg [] w w') := by
  obtain ⟨a, c, rfl, hac, hrow⟩ := h
  have HROW := Lib.hid hrow; have HZ := Lib.hid hz
  clear hrow hz
  go_enter Tryd.func25, Tryd.ntmps25
  go_wp2_with fail
  go_loopw [5, 8] (fun _ i wr => ∃ k : Nat, i = .int .i64 k ∧ k ≤ l.length ∧ w = wr ∧ ∀ (i : Nat) (x : List UInt8), i < k → l[i]? = some x → x.length ≤ 40) (fun _ i _ => l.length - (intOf i).toNat)
  case atStart => exact ⟨0, rfl, Nat.zero_le _, rfl, fun i x hi => by omega⟩
  case round =>
    obtain ⟨k, rfl, hk, rfl, hno⟩ := hrel
    have HNO := Lib.hid hno
    clear hno
    by_cases hlt : k < l.length
    · obtain ⟨n, hs⟩ : ∃ n, l[k]? = some n := ⟨l[k], List.getElem?_eq_getElem hlt⟩
      obtain ⟨b, o, rfl, d0⟩ := names_cell HROW.out hs
      have HS := Lib.hid hs
      have HI := Lib.hid (long_any n (HZ.out n (List.mem_of_getElem? hs)) w)
      clear hs
      cases hq : decide (40 < n.length) with
      | true =>
        rw [hq] at HI
        clear hq
        go_wp2_with fail
        refine HI.out.mono ?_; rintro _ _ ⟨rfl, hw⟩; have hw := hw.symm; subst hw
        go_wp2_with fail
        go_ret
        exact ⟨k, rfl, by omega, by omega, .inl (by omega), Chg.refl _ _⟩
      | false =>
        rw [hq] at HI
        have HN := Lib.hid (show n.length ≤ 40 by simpa using hq)
        clear hq
        go_wp2_with fail
        refine HI.out.mono ?_; rintro _ _ ⟨rfl, hw⟩; have hw := hw.symm; subst hw
        go_wp2_with fail
        refine ⟨⟨k + 1, by go_num, by omega, by first | rfl | trivial, fun i x hi hx => ?_⟩, by simp [intOf]; omega⟩
        by_cases he : i < k
        · exact HNO.out i x he hx
        · have : i = k := by omega
          subst this
          rw [HS.out] at hx
          cases hx
          exact HN.out
    · have hall : ∀ n ∈ l, n.length ≤ 40 := fun n hn => by
        obtain ⟨i, hi⟩ := List.getElem?_of_mem hn
        exact HNO.out i n (by have := (List.getElem?_eq_some_iff.1 hi).1; omega) hi
      have HA := Lib.hid hall
      clear hall
      go_wp2_with fail
      go_ret
      exact ⟨-1, rfl, by omega, by omega, .inr HA.out, Chg.refl _ _⟩
theorem containsf_any (l : List (List UInt8)) (hl : l.length ≤ 1000) (hz : ∀ n ∈ l, n.length ≤ 9223372036854775807) (F : Nat → Prop) (v : Value) (w : World) (h : NamesAt w F l v) :
    Calls Tryd.prog 9 #[v, .func (.func 10) #[] #[]] w (fun e w' => ∃ q : Bool, e = .returned (.bool q) ∧ (q = true ∨ ∀ n ∈ l, n.length ≤ 40) ∧ Chg [] w w') := by
  have HI := Lib.hid (indexf_any l hl hz F v w h)
  clear h hz
  go_enter Tryd.func9, Tryd.ntmps9
  go_wp2_with fail
  refine HI.out.mono ?_; rintro _ w1 ⟨r, rfl, h0, h1, hq, hc⟩
  have HQ := Lib.hid hq; have HC := Lib.hid hc
  clear hq hc
  go_wp2_with fail
  go_ret
  refine ⟨decide (0 ≤ r), rfl, ?_, HC.out⟩
  rcases HQ.out with h | h
  · exact .inl (by simpa using h)
  · exact .inr h
theorem indexs_any (l : List (List UInt8)) (hl : l.length ≤ 1000) (n : List UInt8) (F : Nat → Prop) (v : Value) (w : World) (h : NamesAt w F l v) :
    Calls Tryd.prog 26 #[v, str n] w (fun e w' => ∃ r : Int, e = .returned (.int .i64 r) ∧ -1 ≤ r ∧ r ≤ 1000 ∧ (0 ≤ r ∨ n ∉ l) ∧ w' = w) := by
  obtain ⟨a, c, rfl, hac, hrow⟩ := h
  have HROW := Lib.hid hrow
  clear hrow
  go_enter Tryd.func26, Tryd.ntmps26
  go_wp2_with fail
  go_loopw [5, 8] (fun _ i wr => ∃ k : Nat, i = .int .i64 k ∧ k ≤ l.length ∧ w = wr ∧ ∀ (i : Nat) (x : List UInt8), i < k → l[i]? = some x → x ≠ n) (fun _ i _ => l.length - (intOf i).toNat)
  case atStart => exact ⟨0, rfl, Nat.zero_le _, rfl, fun i x hi => by omega⟩
  case round =>
    obtain ⟨k, rfl, hk, rfl, hno⟩ := hrel
    have HNO := Lib.hid hno
    clear hno
    by_cases hlt : k < l.length
    · obtain ⟨x, hs⟩ : ∃ x, l[k]? = some x := ⟨l[k], List.getElem?_eq_getElem hlt⟩
      obtain ⟨b, o, rfl, d0⟩ := names_cell HROW.out hs
      have HS := Lib.hid hs
      clear hs
      cases hq : (n == x) with
      | true =>
        go_wp2_with fail
        go_ret
        exact ⟨k, rfl, by omega, by omega, .inl (by omega), rfl⟩
      | false =>
        have HN := Lib.hid (show x ≠ n by intro h; subst h; simp at hq)
        go_wp2_with fail
        refine ⟨⟨k + 1, by go_num, by omega, by first | rfl | trivial, fun i y hi hx => ?_⟩, by simp [intOf]; omega⟩
        by_cases he : i < k
        · exact HNO.out i y he hx
        · have : i = k := by omega
          subst this
          rw [HS.out] at hx
          cases hx
          exact HN.out
    · have hall : n ∉ l := fun hn => by
        obtain ⟨i, hi⟩ := List.getElem?_of_mem hn
        exact HNO.out i n (by have := (List.getElem?_eq_some_iff.1 hi).1; omega) hi rfl
      have HA := Lib.hid hall
      clear hall
      go_wp2_with fail
      go_ret
      exact ⟨-1, rfl, by omega, by omega, .inr HA.out, rfl⟩
theorem contains_any (l : List (List UInt8)) (hl : l.length ≤ 1000) (n : List UInt8) (F : Nat → Prop) (v : Value) (w : World) (h : NamesAt w F l v) :
    Calls Tryd.prog 11 #[v, str n] w (fun e w' => ∃ q : Bool, e = .returned (.bool q) ∧ (q = true ∨ n ∉ l) ∧ w' = w) := by
  have HI := Lib.hid (indexs_any l hl n F v w h)
  clear h
  go_enter Tryd.func11, Tryd.ntmps11
  go_wp2_with fail
  refine HI.out.mono ?_; rintro _ w1 ⟨r, rfl, h0, h1, hq, hw⟩
  have HQ := Lib.hid hq; have HW := Lib.hid hw
  clear hq hw
  go_wp2_with fail
  go_ret
  refine ⟨decide (0 ≤ r), rfl, ?_, HW.out⟩
  rcases HQ.out with h | h
  · exact .inl (by simpa using h)
  · exact .inr h
theorem clone_any (l : List Sy) (hl : l.length ≤ 1000) (F : Nat → Prop) (v : Value) (w : World) (h : SymsAt w F l v) :
    Calls Tryd.prog 12 #[v] w (fun e w' => ∃ v', e = .returned v' ∧ w'.ownsRow 0 44 3 v' l.length (l.flatMap Sy.cells) ∧ From w.heap.size v' ∧ Chg [] w w') := by
  obtain ⟨a, c, rfl, hac, hrow, hnil⟩ := h
  have hat := hrow.at_
  cases a with
  | none =>
    have hc0 := hnil rfl
    subst hc0
    have hl0 : l = [] := List.eq_nil_of_length_eq_zero (by omega)
    subst hl0
    clear hrow hat
    have hne : ∀ w, (binOp BinOp.eql 38 (.slice none 0 0) (.slice none 0 0)).run Tryd.prog w = .ok (.bool true) w := fun _ => rfl
    change Calls _ _ #[.slice none 0 0] _ _
    go_enter Tryd.func12, Tryd.ntmps12
    go_wp2_with fail
    go_ret
    exact ⟨_, rfl, World.ownsRow_nil _ _ _ _, From.nil _, Chg.refl _ _⟩
  | some p =>
    have hne : ∀ w, (binOp BinOp.eql 38 (.slice (some p) l.length c) (.slice none 0 0)).run Tryd.prog w = .ok (.bool false) w := fun _ => rfl
    have hown : (w.alloc (.cells #[] 44)).ownsRow 0 44 3 (.slice (some ⟨w.heap.size, 0, none⟩) 0 0) 0 [] := ⟨rfl, .inr ⟨w.heap.size, 0, #[], rfl, Nat.zero_le _, heap_alloc_new w _, Nat.le_refl _, Nat.zero_le _, rfl, rfl⟩⟩
    have HOWN := Lib.hid hown
    have hca : Chg [] w (w.alloc (.cells #[] 44)) := (Chg.refl _ _).alloc _
    have HAT := Lib.hid ((hrow.kept hca (by simp)).at_)
    have HCA := Lib.hid hca
    clear hrow hat hown hca
    go_enter Tryd.func12, Tryd.ntmps12
    go_wp2_with (at_builtin; go_must (refine wpL_append_any rfl _ _ 38 rfl 44 _ 3 32 infoSym Tryd.underlying38 rfl (by decide) _ 0 [] rfl HOWN.out (some p) l.length c (l.flatMap Sy.cells) rfl ?_ HAT.out ?_ ?_ ?_ ?_))
    · exact flat3 l
    · intro u hu
      simp only [List.mem_flatMap, Sy.cells] at hu
      obtain ⟨x, _, hu⟩ := hu
      simp at hu
      rcases hu with rfl | rfl | rfl <;> rfl
    · omega
    · unfold maxLen; omega
    · intro v' w' hown' hch' hmv'
      have HO := Lib.hid (show w'.ownsRow 0 44 3 v' l.length (l.flatMap Sy.cells) by simpa using hown')
      have hf : From w.heap.size v' := fun g hg => by
        rcases hmv' g hg with h1 | h1
        · simp [blk] at h1; omega
        · simp at h1; omega
      have HF := Lib.hid hf
      have HC := Lib.hid (HCA.out.trans hch' (fun x hx => .inr (by simp [blk] at hx; omega)))
      clear hown' hch' hmv' hf
      go_wp2_with fail
      go_ret
      exact ⟨_, rfl, HO.out, HF.out, HC.out⟩
end Go.Proofs.YtoeblajmelbbmaaDoor
