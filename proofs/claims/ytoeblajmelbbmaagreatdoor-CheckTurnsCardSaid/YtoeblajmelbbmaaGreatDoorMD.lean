/- Some texts in one. -/
import Derived.Test.YtoeblajmelbbmaaGreatDoorMC
import Derived.Test.YtoeblajmelbbmaaGreatDoorTreeW22
import Derived.Test.YtoeblajmelbbmaaGreatDoorTreeLaw3
import Derived.Test.YtoeblajmelbbmaaGreatDoorMA
/- What the statements on what others see lean on: how small it is; the fact. -/
namespace Go.Mq.Sym
open Go Go.RowKit Go.Mq Go.Mq.Tree
theorem mem_getD {l : List Sy} {k : Nat} (h : k < l.length) : l.getD k Sy.none ∈ l := by
  rw [List.getD_eq_getElem?_getD, List.getElem?_eq_getElem h]
  exact List.getElem_mem h
theorem mem_sink {x : Sy} : ∀ (k : Nat) (l : List Sy), k < l.length → x ∈ sinkS k l → x ∈ l
  | 0, _, _, h => h
  | k + 1, l, hk, h => by
    rw [sinkS] at h
    split at h
    · have h1 := mem_sink k _ (by simp; omega) h
      rcases List.mem_or_eq_of_mem_set h1 with h2 | h2
      · rcases List.mem_or_eq_of_mem_set h2 with h3 | h3
        · exact h3
        · rw [h3]; exact mem_getD (by omega)
      · rw [h2]; exact mem_getD hk
    · exact h
theorem mem_sortFrom {x : Sy} : ∀ (d i n : Nat) (l : List Sy), n - i ≤ d → n ≤ l.length → x ∈ sortFrom i n l → x ∈ l
  | 0, i, n, l, h, _, hx => by rwa [sortFrom_end (by omega)] at hx
  | d + 1, i, n, l, h, hn, hx => by
    by_cases hi : i < n
    · rw [sortFrom_step hi] at hx
      exact mem_sink i l (by omega) (mem_sortFrom d (i + 1) n _ (by omega) (by rw [sinkS_length]; exact hn) hx)
    · rwa [sortFrom_end (by omega)] at hx
theorem mem_insSort {x : Sy} {l : List Sy} (h : x ∈ insSort l) : x ∈ l := mem_sortFrom _ 1 l.length l (Nat.le_refl _) (Nat.le_refl _) h
theorem seenL_fit {vs : List Glob} {ps : List Proc} (hv : ∀ g ∈ vs, WFG g) (hp : ∀ x ∈ ps, WFP x) : ∀ x ∈ insSort (seenL vs ps), x.fit := by
  intro x hx
  have h := mem_insSort hx
  simp only [seenL, List.mem_append, List.mem_map, List.mem_filter] at h
  rcases h with ⟨g, ⟨hg, _⟩, rfl⟩ | ⟨p, ⟨hg, _⟩, rfl⟩
  · have := hv g hg
    exact ⟨by have := this.name.2.2; show g.name.length ≤ _; omega, this.low, by have := this.high; show g.len ≤ _; omega, by show (-1 : Int) ≤ -1; omega, by show (-1 : Int) ≤ _; omega⟩
  · have := hp p hg
    exact ⟨by have := this.name.2.2; show p.name.length ≤ _; omega, by show (0 : Int) ≤ 0; omega, by show (0 : Int) ≤ _; omega, by show (-1 : Int) ≤ (p.params.length : Int); omega, by have := this.few; show (p.params.length : Int) ≤ _; omega⟩
theorem seenL_len {vs : List Glob} {ps : List Proc} (hv : vs.length ≤ 10) (hp : ps.length ≤ 10) : (insSort (seenL vs ps)).length ≤ 20 := by
  rw [insSort_length, seenL, List.length_append, List.length_map, List.length_map]
  have h1 := List.length_filter_le (fun g : Glob => g.seen) vs
  have h2 := List.length_filter_le (fun g : Proc => g.seen) ps
  omega
abbrev Holds (w : World) (e : Ending) (w' : World) : Prop := e = .returned (.bool true) ∧ Chg [] w w'
end Go.Mq.Sym
/- The fact on what others see. -/
namespace Go.Mq.Sym
open Go Go.RowKit Go.Mq Go.Mq.Tree
theorem mod_parts {w : World} {F : Nat → Prop} {m : Mod} {v : Value} (h : ModAt w F m v) : ∃ (ai : Option Addr) (ci : Nat) (av : Option Addr) (cv : Nat) (ap : Option Addr) (cp : Nat) (ab : Option Addr) (cb : Nat), v = .agg #[str m.name, .slice ai m.imports.length ci, .slice av m.vars.length cv, .slice ap m.procs.length cp, .slice ab m.body.len cb] ∧ GlobsAt w F m.vars (.slice av m.vars.length cv) ∧ ProcsL w F m.procs (.slice ap m.procs.length cp) := by
  obtain ⟨vi, vv, vp, vb, rfl, ⟨ai, ci, rfl, _⟩, ⟨av, cv, rfl, h1, h2⟩, hp, ⟨ab, cb, _, rfl, _⟩⟩ := h
  have hp' := procsL_of hp
  obtain ⟨ap, cp, cs, rfl, h3, h4, h5⟩ := hp'
  exact ⟨ai, ci, av, cv, ap, cp, ab, cb, rfl, ⟨av, cv, rfl, h1, h2⟩, ⟨ap, cp, cs, rfl, h3, h4, h5⟩⟩
end Go.Mq.Sym
/- Names that are handed in: is one too long, is one of them there; a copy. -/
namespace Go.Mq.Sym
open Go Go.RowKit Go.Mq Go.Mq.Tree
theorem names_cell {w : World} {F : Nat → Prop} {a : Option Addr} {l : List (List UInt8)} (h : Row w F a (l.map str)) {k : Nat} {n : List UInt8} (hk : l[k]? = some n) : ∃ b o, a = some ⟨b, o, none⟩ ∧ w.cell? ⟨b, o + k, none⟩ = some (str n) := by
  obtain ⟨b, o, rfl, hc⟩ := h.at_ (by have := (List.getElem?_eq_some_iff.1 hk).1; simp; omega)
  exact ⟨b, o, rfl, hc k (str n) (by rw [List.getElem?_map, hk]; rfl)⟩
theorem flat3 : ∀ l : List Sy, (l.flatMap Sy.cells).length = l.length * 3
  | [] => rfl
  | x :: r => by rw [List.flatMap_cons, List.length_append, flat3 r]; simp [Sy.cells]; omega
end Go.Mq.Sym
namespace Go.Proofs.YtoeblajmelbbmaaGreatDoor
open Go Go.RowKit Go.Mq Go.Mq.Tree Go.Mq.Sym
set_option maxRecDepth 100000
set_option maxHeartbeats 2000000
theorem indexs_any (l : List (List UInt8)) (hl : l.length ≤ 1000) (n : List UInt8) (F : Nat → Prop) (v : Value) (w : World) (h : NamesAt w F l v) :
    Calls Tryz.prog 40 #[v, str n] w (fun e w' => ∃ r : Int, e = .returned (.int .i64 r) ∧ -1 ≤ r ∧ r ≤ 1000 ∧ (0 ≤ r ∨ n ∉ l) ∧ w' = w) := by
  obtain ⟨a, c, rfl, hac, hrow⟩ := h
  have HROW := Lib.hid hrow
  clear hrow
  go_enter Tryz.func40, Tryz.ntmps40
  go_wp2_with fail
  go_loopw [5, 8] (fun _ i wr => ∃ k : Nat, i = .int .i64 k ∧ k ≤ l.length ∧ w = wr ∧ ∀ (i : Nat) (x : List UInt8), i < k → l[i]? = some x → x ≠ n) (fun _ i _ => l.length - (intOf i).toNat)
  case atStart => exact ⟨0, rfl, Nat.zero_le _, rfl, fun i x hi => by omega⟩
  case round =>
    obtain ⟨k, rfl, hk, rfl, hno⟩ := hrel
    have HNO := Lib.hid hno
    clear hno
    by_cases hlt : k < l.length
    · obtain ⟨x, hs⟩ : ∃ x, l[k]? = some x := ⟨l[k], List.getElem?_eq_getElem hlt⟩
      obtain ⟨b, o, rfl, d0⟩ := names_cell HROW.out hs
      have HS := Lib.hid hs
      clear hs
      cases hq : (n == x) with
      | true =>
        go_wp2_with fail
        go_ret
        exact ⟨k, rfl, by omega, by omega, .inl (by omega), rfl⟩
      | false =>
        have HN := Lib.hid (show x ≠ n by intro h; subst h; simp at hq)
        go_wp2_with fail
        refine ⟨⟨k + 1, by go_num, by omega, by first | rfl | trivial, fun i y hi hx => ?_⟩, by simp [intOf]; omega⟩
        by_cases he : i < k
        · exact HNO.out i y he hx
        · have : i = k := by omega
          subst this
          rw [HS.out] at hx
          cases hx
          exact HN.out
    · have hall : n ∉ l := fun hn => by
        obtain ⟨i, hi⟩ := List.getElem?_of_mem hn
        exact HNO.out i n (by have := (List.getElem?_eq_some_iff.1 hi).1; omega) hi rfl
      have HA := Lib.hid hall
      clear hall
      go_wp2_with fail
      go_ret
      exact ⟨-1, rfl, by omega, by omega, .inr HA.out, rfl⟩
theorem contains_any (l : List (List UInt8)) (hl : l.length ≤ 1000) (n : List UInt8) (F : Nat → Prop) (v : Value) (w : World) (h : NamesAt w F l v) :
    Calls Tryz.prog 22 #[v, str n] w (fun e w' => ∃ q : Bool, e = .returned (.bool q) ∧ (q = true ∨ n ∉ l) ∧ w' = w) := by
  have HI := Lib.hid (indexs_any l hl n F v w h)
  clear h
  go_enter Tryz.func22, Tryz.ntmps22
  go_wp2_with fail
  refine HI.out.mono ?_; rintro _ w1 ⟨r, rfl, h0, h1, hq, hw⟩
  have HQ := Lib.hid hq; have HW := Lib.hid hw
  clear hq hw
  go_wp2_with fail
  go_ret
  refine ⟨decide (0 ≤ r), rfl, ?_, HW.out⟩
  rcases HQ.out with h | h
  · exact .inl (by simpa using h)
  · exact .inr h
end Go.Proofs.YtoeblajmelbbmaaGreatDoor
