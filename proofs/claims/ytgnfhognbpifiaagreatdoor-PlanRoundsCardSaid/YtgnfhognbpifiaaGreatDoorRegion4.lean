/- Region4: a region that draws its order, by what holds after each set of its operations. No program is named here. -/
import Derived.Test.YtgnfhognbpifiaaGreatDoorRegion3
namespace Go.Mq
open Go Go.RowKit
section
variable {P : Program} {ops : Array Oper} {Q : Exit → Act → World → Prop}
theorem wpOp_of {i : Nat} {o : Oper} {K : Act → World → Prop} {a : Act} {w : World} (ho : ops[i]? = some o) (hg : o.guard = none) (h : o.wp P a w K Q) : wpOp P ops Q i K a w := by
  unfold wpOp
  rw [ho]
  simp only [Region.wanted, hg, if_true]
  exact .inl h
theorem wpAny_inv (I : (Nat → Prop) → Act → World → Prop) (hback : ∀ (j : Nat) (o : Oper), ops[j]? = some o → ∀ e ∈ o.after, Region.binds .any e = true → e.on < j)
    (hend : ∀ D a w, (∀ i, i < ops.size → D i) → I D a w → Q .normal a w)
    (hstep : ∀ D a w i o, ops[i]? = some o → ¬ D i → (∀ e ∈ o.after, Region.binds .any e = true → D e.on) → I D a w → wpOp P ops Q i (fun a' w' => I (fun j => D j ∨ j = i) a' w') a w) :
    ∀ (fuel : Nat) (listed : Array Bool) (a : Act) (w : World), (leftX ops listed).length = fuel → listed.size = ops.size → I (fun i => listed.getD i false = true) a w → wpAny P .any ops Q fuel listed a w := by
  intro fuel
  induction fuel with
  | zero =>
    intro listed a w hl hs hI
    have hnil := List.eq_nil_of_length_eq_zero hl
    refine ⟨?_, hend _ a w (fun i hi => ?_) hI⟩
    · apply List.eq_nil_iff_forall_not_mem.2
      intro j hj
      obtain ⟨h0, o, ho, _⟩ := mem_ready.1 hj
      have : j ∈ leftX ops listed := List.mem_filter.2 ⟨List.mem_range.2 (Array.getElem?_eq_some_iff.1 ho).1, by simpa using h0⟩
      rw [hnil] at this; cases this
    · rcases Bool.eq_false_or_eq_true (listed.getD i true) with h | h
      · have hi2 : i < listed.size := by rw [hs]; exact hi
        simp [hi2] at h ⊢; exact h
      · have : i ∈ leftX ops listed := List.mem_filter.2 ⟨List.mem_range.2 hi, by simpa using h⟩
        rw [hnil] at this; cases this
  | succ fuel ih =>
    intro listed a w hl hs hI
    refine ⟨fun hr => ?_, fun i hi => ?_⟩
    · exfalso
      cases hlx : leftX ops listed with
      | nil => rw [hlx] at hl; simp at hl
      | cons i rest =>
        have hm : i ∈ leftX ops listed := by rw [hlx]; simp
        obtain ⟨hir, hun⟩ := List.mem_filter.1 hm
        have hlt := List.mem_range.1 hir
        have ho : ops[i]? = some ops[i] := Array.getElem?_eq_getElem hlt
        have : i ∈ Region.ready .any ops listed := mem_ready.2 ⟨by simpa using hun, _, ho, fun e he hbe => by
          have hb' := hback i _ ho e he hbe
          rcases Bool.eq_false_or_eq_true (listed.getD e.on true) with ht | hf
          · have hes : e.on < listed.size := by omega
            simp [hes] at ht ⊢; exact ht
          · exfalso
            have hm2 : e.on ∈ leftX ops listed := List.mem_filter.2 ⟨List.mem_range.2 (by omega), by simpa using hf⟩
            rw [hlx] at hm2
            rcases List.mem_cons.1 hm2 with h1 | h1
            · omega
            · have hp : (leftX ops listed).Pairwise (· < ·) := List.Pairwise.filter _ List.pairwise_lt_range
              rw [hlx, List.pairwise_cons] at hp
              have := hp.1 _ h1
              omega⟩
        rw [hr] at this; cases this
    · obtain ⟨h0, oi, hoi, hall⟩ := mem_ready.1 hi
      have hil : i < listed.size := by rw [hs]; exact (Array.getElem?_eq_some_iff.1 hoi).1
      have hm : i ∈ leftX ops listed := List.mem_filter.2 ⟨List.mem_range.2 (Array.getElem?_eq_some_iff.1 hoi).1, by simpa using h0⟩
      obtain ⟨l1, l2, hl12⟩ := List.append_of_mem hm
      have hset := leftX_set hl12
      refine wpOp_mono (fun a' w' h => ih _ a' w' (by rw [hset]; rw [hl12] at hl; simp at hl ⊢; omega) (by simpa using hs) ?_) (hstep _ a w i oi hoi (by simp [hil] at h0 ⊢; exact h0) hall hI)
      have e : (fun j => listed.getD j false = true ∨ j = i) = (fun j => (listed.setIfInBounds i true).getD j false = true) := by
        funext j
        apply propext
        by_cases hj : j = i
        · subst hj; simp [hil]
        · rcases Nat.lt_or_ge j listed.size with h | h
          · simp [h, hj, Ne.symm hj]
          · simp [Nat.not_lt.2 h, hj]
      rw [← e]
      exact h
theorem wp_region_I {id : Nat} {l : List Oper} {a : Act} {w : World} (I : (Nat → Prop) → Act → World → Prop) (hm : P.follows .mixedOrders = true)
    (hback : (l.zipIdx.all fun (o, j) => o.after.all (fun e => !Region.binds .any e || decide (e.on < j))) = true) (h0 : I (fun _ => False) a w.drew)
    (hend : ∀ D a w, (∀ i, i < l.length → D i) → I D a w → Q .normal a w)
    (hstep : ∀ D a w i o, l[i]? = some o → ¬ D i → (∀ e ∈ o.after, Region.binds .any e = true → D e.on) → I D a w → wpOp P l.toArray Q i (fun a' w' => I (fun j => D j ∨ j = i) a' w') a w) :
    (Code.region id l.toArray true).wp P Q a w := by
  refine wp_region_any hm ?_
  have hall : leftX l.toArray (Array.replicate l.toArray.size false) = List.range l.length := by
    unfold leftX
    rw [List.size_toArray]
    apply List.filter_eq_self.2
    intro i hi
    have := List.mem_range.1 hi
    simp [this]
  refine wpAny_inv I (fun j o ho e he hbe => ?_) (fun D a w hD hI => hend D a w (fun i hi => hD i (by simpa using hi)) hI) (fun D a w i o ho => hstep D a w i o (by simpa using ho)) _ _ _ _ (by rw [hall]; simp) (by simp) ?_
  · rw [List.all_eq_true] at hback
    have hj : (o, j) ∈ l.zipIdx := by
      rw [List.mk_mem_zipIdx_iff_getElem?]
      simpa using ho
    have h2 := hback _ hj
    rw [Array.all_eq_true'] at h2
    have h3 := h2 e he
    simpa [hbe] using h3
  · have e : (fun _ : Nat => False) = (fun i => (Array.replicate l.toArray.size false).getD i false = true) := by
      funext i
      apply propext
      constructor
      · exact False.elim
      · intro h
        rcases Nat.lt_or_ge i l.length with hi | hi
        · simp [hi] at h
        · simp [Nat.not_lt.2 hi] at h
    rw [← e]
    exact h0
end
end Go.Mq
