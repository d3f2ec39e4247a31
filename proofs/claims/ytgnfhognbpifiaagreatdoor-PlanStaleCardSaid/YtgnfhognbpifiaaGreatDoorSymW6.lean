/- What the statements on what others see lean on: how small it is; the fact. -/
import Derived.Test.YtgnfhognbpifiaaGreatDoorSyms
import Derived.Test.YtgnfhognbpifiaaGreatDoorTreeZ
import Derived.Test.YtgnfhognbpifiaaGreatDoorTreeL
namespace Go.Mq.Sym
open Go Go.RowKit Go.Mq Go.Mq.Tree
theorem mem_getD {l : List Sy} {k : Nat} (h : k < l.length) : l.getD k Sy.none ∈ l := by
  rw [List.getD_eq_getElem?_getD, List.getElem?_eq_getElem h]
  exact List.getElem_mem h
theorem mem_sink {x : Sy} : ∀ (k : Nat) (l : List Sy), k < l.length → x ∈ sinkS k l → x ∈ l
  | 0, _, _, h => h
  | k + 1, l, hk, h => by
    rw [sinkS] at h
    split at h
    · have h1 := mem_sink k _ (by simp; omega) h
      rcases List.mem_or_eq_of_mem_set h1 with h2 | h2
      · rcases List.mem_or_eq_of_mem_set h2 with h3 | h3
        · exact h3
        · rw [h3]; exact mem_getD (by omega)
      · rw [h2]; exact mem_getD hk
    · exact h
theorem mem_sortFrom {x : Sy} : ∀ (d i n : Nat) (l : List Sy), n - i ≤ d → n ≤ l.length → x ∈ sortFrom i n l → x ∈ l
  | 0, i, n, l, h, _, hx => by rwa [sortFrom_end (by omega)] at hx
  | d + 1, i, n, l, h, hn, hx => by
    by_cases hi : i < n
    · rw [sortFrom_step hi] at hx
      exact mem_sink i l (by omega) (mem_sortFrom d (i + 1) n _ (by omega) (by rw [sinkS_length]; exact hn) hx)
    · rwa [sortFrom_end (by omega)] at hx
theorem mem_insSort {x : Sy} {l : List Sy} (h : x ∈ insSort l) : x ∈ l := mem_sortFrom _ 1 l.length l (Nat.le_refl _) (Nat.le_refl _) h
theorem seenL_fit {vs : List Glob} {ps : List Proc} (hv : ∀ g ∈ vs, WFG g) (hp : ∀ x ∈ ps, WFP x) : ∀ x ∈ insSort (seenL vs ps), x.fit := by
  intro x hx
  have h := mem_insSort hx
  simp only [seenL, List.mem_append, List.mem_map, List.mem_filter] at h
  rcases h with ⟨g, ⟨hg, _⟩, rfl⟩ | ⟨p, ⟨hg, _⟩, rfl⟩
  · have := hv g hg
    exact ⟨by have := this.name.2.2; show g.name.length ≤ _; omega, this.low, by have := this.high; show g.len ≤ _; omega, by show (-1 : Int) ≤ -1; omega, by show (-1 : Int) ≤ _; omega⟩
  · have := hp p hg
    exact ⟨by have := this.name.2.2; show p.name.length ≤ _; omega, by show (0 : Int) ≤ 0; omega, by show (0 : Int) ≤ _; omega, by show (-1 : Int) ≤ (p.params.length : Int); omega, by have := this.few; show (p.params.length : Int) ≤ _; omega⟩
theorem seenL_len {vs : List Glob} {ps : List Proc} (hv : vs.length ≤ 10) (hp : ps.length ≤ 10) : (insSort (seenL vs ps)).length ≤ 20 := by
  rw [insSort_length, seenL, List.length_append, List.length_map, List.length_map]
  have h1 := List.length_filter_le (fun g : Glob => g.seen) vs
  have h2 := List.length_filter_le (fun g : Proc => g.seen) ps
  omega
abbrev Holds (w : World) (e : Ending) (w' : World) : Prop := e = .returned (.bool true) ∧ Chg [] w w'
end Go.Mq.Sym
