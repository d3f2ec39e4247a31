/- Region: a region that draws its order may be walked in the order of its text, where each of its operations either yields the same in every world of a class S, or is one of a chain of calls (effects). No program is named here. -/
import Derived.OrdersHeld
import Derived.Test.YtgnfhognbpifiaaGreatDoorCore
namespace Go.Mq
open Go Go.RowKit

/-- No way out. -/
def NoExit : Exit → Act → World → Prop := fun _ _ _ => False

section
variable {P : Program} {ops : Array Oper} {S : World → Prop} {R : Act → World → Prop} {E : Oper → Bool} {T : Bool}

/-- What is left of a region, in the order of its text. T: behind the last operation the world need not be of the class any more. -/
def wpXi (P : Program) (ops : Array Oper) (E : Oper → Bool) (T : Bool) (S : World → Prop) (R : Act → World → Prop) : List Nat → Act → World → Prop
  | [], a, w => R a w
  | i :: rest, a, w => match ops[i]? with
    | none => wpXi P ops E T S R rest a w
    | some o => (∃ v, YieldsIf P ops S o v a ∧ wpXi P ops E T S R rest (a.put o.dst v) w) ∨
      (E o = true ∧ Region.wanted o (yielded ops a.tmps) = true ∧ o.wp P a w (fun a' w' => ((T = true → rest ≠ []) → S w') ∧ wpXi P ops E T S R rest a' w') NoExit)

theorem wp_moved {o : Oper} {a a2 : Act} {w : World} {K K2 : Act → World → Prop} (hx : execOp a2.eval o = execOp a.eval o) (_hd : a2.defers = a.defers)
    (hput : ∀ u w', K (a.put o.dst u) w' → K2 (a2.put o.dst u) w')
    (hdf : ∀ d w', K ({ a with defers := d :: a.defers }.put o.dst undef) w' → K2 ({ a2 with defers := d :: a2.defers }.put o.dst undef) w')
    (h : o.wp P a w K NoExit) : o.wp P a2 w K2 NoExit := by
  unfold Oper.wp at *
  rw [hx]
  generalize (execOp a.eval o).run P w = r at *
  cases r with
  | ok n w' =>
    cases n <;> simp only [Oper.upon] at h ⊢
    case value u => exact hput _ _ h
    case skip => exact hput _ _ h
    case defer d => exact hdf _ _ h
    case enter f args =>
      refine Calls.mono h fun e w'' he => ?_
      cases e with
      | returned u => exact hput _ _ he
      | panicked c => exact he
      | outgrown => exact he
    case row row args => exact Rows.mono h fun u w'' he => hput _ _ he
  | halt x w' =>
    cases x <;> simp only [Oper.upon] at h ⊢
    case panic u => exact h

theorem wp_exits {o : Oper} {a : Act} {w : World} {K : Act → World → Prop} {Q : Exit → Act → World → Prop} (h : o.wp P a w K NoExit) : o.wp P a w K Q := by
  unfold Oper.wp at *
  generalize (execOp a.eval o).run P w = r at *
  cases r with
  | ok n w' =>
    cases n <;> simp only [Oper.upon] at h ⊢ <;> first
      | exact h
      | (refine Calls.mono h fun e w'' he => ?_
         cases e with
         | returned u => exact he
         | panicked c => exact he.elim
         | outgrown => obtain ⟨_, _, h⟩ := he; exact h.elim)
  | halt x w' =>
    cases x <;> simp only [Oper.upon] at h ⊢
    case panic u => exact h.elim

/-- Some way through is taken. -/
theorem wp_some {o : Oper} {a : Act} {w : World} {K : Act → World → Prop} (h : o.wp P a w K NoExit) :
    ∃ u w', K (a.put o.dst u) w' ∨ ∃ d, K ({ a with defers := d :: a.defers }.put o.dst undef) w' := by
  unfold Oper.wp at *
  generalize (execOp a.eval o).run P w = r at *
  cases r with
  | ok n w' =>
    cases n <;> simp only [Oper.upon] at h
    case value u => exact ⟨u, w', .inl h⟩
    case skip => exact ⟨undef, w', .inl h⟩
    case defer d => exact ⟨undef, w', .inr ⟨d, h⟩⟩
    case enter f args =>
      obtain ⟨e, w'', fr, hR, _⟩ := h []
      cases e with
      | returned u => exact ⟨u, w'', .inl hR⟩
      | panicked c => exact hR.elim
      | outgrown => obtain ⟨_, _, h⟩ := hR; exact h.elim
    case row row args =>
      obtain ⟨v, w'', hR, _⟩ := h default []
      exact ⟨v, w'', .inl hR⟩
  | halt x w' =>
    cases x <;> simp only [Oper.upon] at h
    case panic u => exact h.elim

theorem YieldsIf.uniq {o : Oper} {a : Act} {v u : Value} {w : World} (hS : S w) (h : YieldsIf P ops S o v a) (k : YieldsIf P ops S o u a) : v = u := by
  rcases h with ⟨h1, h2⟩ | ⟨h1, rfl⟩ <;> rcases k with ⟨k1, k2⟩ | ⟨k1, rfl⟩
  · have := (h2 w hS).symm.trans (k2 w hS)
    cases this; rfl
  · rw [h1] at k1; cases k1
  · rw [h1] at k1; cases k1
  · rfl

/-- With an operation L holds all for which it waits. -/
def ClosedX (ops : Array Oper) (L : Nat → Prop) : Prop := ∀ j y, ops[j]? = some y → L j → ∀ e ∈ y.after, Region.binds .any e = true → L e.on

/-- What is asked of a region's text. -/
structure OkX (ops : Array Oper) (E : Oper → Bool) : Prop where
  sel : ∀ (j : Nat) (o : Oper) cs b, ops[j]? = some o → o.op ≠ .select cs b
  back : ∀ (j : Nat) (o : Oper), ops[j]? = some o → ∀ e ∈ o.after, Region.binds .any e = true → e.on < j
  pair : ∀ (i j : Nat) (x y : Oper), i < j → ops[i]? = some x → ops[j]? = some y → (∃ e ∈ y.after, Region.binds .any e = true ∧ e.on = i) ∨ (x.apart ops y = true ∧ y.apart ops x = true)
  chain : ∀ (i j : Nat) (x y : Oper), i < j → ops[i]? = some x → ops[j]? = some y → E x = true → E y = true → (∀ k z, i < k → k < j → ops[k]? = some z → E z = false) → ∀ L : Nat → Prop, ClosedX ops L → L j → L i

theorem yields_put {x y : Oper} {v u : Value} {a : Act} (hsel : ∀ cs b, y.op ≠ .select cs b) (hap : x.apart ops y = true) : YieldsIf P ops S y v (a.put x.dst u) ↔ YieldsIf P ops S y v a := by
  obtain ⟨h1, _, _⟩ := Oper.apart_spec hap
  constructor
  · exact fun h => h.of_same (execOp_put y hsel a x.dst u h1).symm (wanted_put y a x.dst u h1).symm
  · exact fun h => h.of_same (execOp_put y hsel a x.dst u h1) (wanted_put y a x.dst u h1)

theorem put_swap {x y : Oper} {a : Act} {v u : Value} (hap : x.apart ops y = true) : (a.put x.dst v).put y.dst u = (a.put y.dst u).put x.dst v :=
  Act.put_comm a v u (Oper.apart_spec hap).2.1

theorem hoist (hsel : ∀ (j : Nat) (o : Oper) cs b, ops[j]? = some o → o.op ≠ .select cs b) {j : Nat} {oj : Oper} (hj : ops[j]? = some oj) (l2 : List Nat) (hE : E oj = false) :
    ∀ (l1 : List Nat) (a : Act) (w : World), S w → (∀ i ∈ l1, ∀ oi, ops[i]? = some oi → oi.apart ops oj = true ∧ oj.apart ops oi = true) → wpXi P ops E T S R (l1 ++ j :: l2) a w →
      ∃ v, YieldsIf P ops S oj v a ∧ wpXi P ops E T S R (l1 ++ l2) (a.put oj.dst v) w := by
  intro l1
  induction l1 with
  | nil =>
    intro a w hS _ h
    simp only [List.nil_append, wpXi, hj] at h
    rcases h with h | ⟨h, _⟩
    · exact h
    · rw [hE] at h; cases h
  | cons i l1 ih =>
    intro a w hS hap h
    have hap' : ∀ i ∈ l1, ∀ oi, ops[i]? = some oi → oi.apart ops oj = true ∧ oj.apart ops oi = true := fun k hk => hap k (List.mem_cons_of_mem _ hk)
    simp only [List.cons_append, wpXi] at h ⊢
    cases hi : ops[i]? with
    | none =>
      simp only [hi] at h
      exact ih a w hS hap' h
    | some oi =>
      simp only [hi] at h
      obtain ⟨ap1, ap2⟩ := hap i (List.mem_cons_self ..) oi hi
      have se := fun cs b => hsel j oj cs b hj
      have sei := fun cs b => hsel i oi cs b hi
      rcases h with ⟨vi, hy, h⟩ | ⟨he, hw, h⟩
      · obtain ⟨v, hv, h'⟩ := ih _ w hS hap' h
        have hv' := (yields_put se ap1).1 hv
        refine ⟨v, hv', .inl ⟨vi, (yields_put sei ap2).2 hy, ?_⟩⟩
        rw [put_swap ap2]
        exact h'
      · -- the value that oj has, out of some way through
        have hv : ∃ v, YieldsIf P ops S oj v a := by
          obtain ⟨u, w', h' | ⟨d, h'⟩⟩ := wp_some h
          · obtain ⟨v, hv, _⟩ := ih _ w' (h'.1 (fun _ => by simp)) hap' h'.2
            exact ⟨v, (yields_put se ap1).1 hv⟩
          · obtain ⟨v, hv, _⟩ := ih _ w' (h'.1 (fun _ => by simp)) hap' h'.2
            have := (yields_put se ap1).1 hv
            exact ⟨v, this.of_same rfl rfl⟩
        obtain ⟨v, hv⟩ := hv
        refine ⟨v, hv, .inr ⟨he, ?_, ?_⟩⟩
        · rw [wanted_put oi a oj.dst v (Oper.apart_spec ap2).1]; exact hw
        · refine wp_moved (a := a) (execOp_put oi sei a oj.dst v (Oper.apart_spec ap2).1) (by cases oj.dst <;> rfl) ?_ ?_ h
          · rintro u w' ⟨hS', h'⟩
            have hS' := hS' (fun _ => by simp)
            obtain ⟨v', hv', h''⟩ := ih _ w' hS' hap' h'
            have e := YieldsIf.uniq hS' hv' ((yields_put se ap1).2 hv)
            subst e
            rw [put_swap ap2]
            exact ⟨fun _ => hS', h''⟩
          · rintro d w' ⟨hS', h'⟩
            have hS' := hS' (fun _ => by simp)
            obtain ⟨v', hv', h''⟩ := ih _ w' hS' hap' h'
            have hvd : YieldsIf P ops S oj v { a with defers := d :: a.defers } := hv.of_same rfl rfl
            have e := YieldsIf.uniq hS' hv' ((yields_put se ap1).2 hvd)
            subst e
            rw [Act.put_defers, put_swap ap2]
            exact ⟨fun _ => hS', h''⟩

theorem sink (hsel : ∀ (j : Nat) (o : Oper) cs b, ops[j]? = some o → o.op ≠ .select cs b) {j : Nat} {oj : Oper} (hj : ops[j]? = some oj) (l2 : List Nat) :
    ∀ (l1 : List Nat) (a : Act) (w : World), S w → (T = true → l1 ≠ [] → l2 ≠ []) → (∀ i ∈ l1, ∀ oi, ops[i]? = some oi → E oi = false ∧ oi.apart ops oj = true ∧ oj.apart ops oi = true) → wpXi P ops E T S R (l1 ++ j :: l2) a w →
      (∃ v, YieldsIf P ops S oj v a ∧ wpXi P ops E T S R (l1 ++ l2) (a.put oj.dst v) w) ∨
      (Region.wanted oj (yielded ops a.tmps) = true ∧ oj.wp P a w (fun a' w' => ((T = true → l1 ++ l2 ≠ []) → S w') ∧ wpXi P ops E T S R (l1 ++ l2) a' w') NoExit) := by
  intro l1
  induction l1 with
  | nil =>
    intro a w hS _ _ h
    simp only [List.nil_append, wpXi, hj] at h
    rcases h with h | ⟨_, h⟩
    · exact .inl h
    · exact .inr h
  | cons i l1 ih =>
    intro a w hS hlx hap h
    have hlx' : T = true → l1 ≠ [] → l2 ≠ [] := fun hT _ => hlx hT (by simp)
    have hap' : ∀ i ∈ l1, ∀ oi, ops[i]? = some oi → E oi = false ∧ oi.apart ops oj = true ∧ oj.apart ops oi = true := fun k hk => hap k (List.mem_cons_of_mem _ hk)
    simp only [List.cons_append, wpXi] at h ⊢
    cases hi : ops[i]? with
    | none =>
      simp only [hi] at h
      rcases ih a w hS hlx' hap' h with h | ⟨hw, h⟩
      · exact .inl h
      · exact .inr ⟨hw, Oper.wp_mono (fun a' w' h => ⟨fun _ => h.1 (fun hT => by have := hlx hT (by simp); simp [this]), h.2⟩) h⟩
    | some oi =>
      simp only [hi] at h
      obtain ⟨hEi, ap1, ap2⟩ := hap i (List.mem_cons_self ..) oi hi
      have se := fun cs b => hsel j oj cs b hj
      have sei := fun cs b => hsel i oi cs b hi
      rcases h with ⟨vi, hy, h⟩ | ⟨he, _⟩
      · rcases ih _ w hS hlx' hap' h with ⟨v, hv, h'⟩ | ⟨hw, h'⟩
        · refine .inl ⟨v, (yields_put se ap1).1 hv, .inl ⟨vi, (yields_put sei ap2).2 hy, ?_⟩⟩
          rw [put_swap ap2]
          exact h'
        · refine .inr ⟨?_, ?_⟩
          · rw [wanted_put oj a oi.dst vi (Oper.apart_spec ap1).1] at hw; exact hw
          · refine wp_moved (a := a.put oi.dst vi) (execOp_put oj se a oi.dst vi (Oper.apart_spec ap1).1).symm (by cases oi.dst <;> rfl) ?_ ?_ h'
            · rintro u w' ⟨hS', h''⟩
              refine ⟨fun _ => hS' (fun hT => by have := hlx hT (by simp); simp [this]), .inl ⟨vi, (yields_put sei ap2).2 hy, ?_⟩⟩
              rw [put_swap ap2]
              exact h''
            · rintro d w' ⟨hS', h''⟩
              have hyd : YieldsIf P ops S oi vi { a with defers := d :: a.defers } := hy.of_same rfl rfl
              refine ⟨fun _ => hS' (fun hT => by have := hlx hT (by simp); simp [this]), .inl ⟨vi, (yields_put sei ap2).2 hyd, ?_⟩⟩
              rw [put_swap ap2, ← Act.put_defers]
              exact h''
      · rw [hEi] at he; cases he

/-- The numbers that have not come up. -/
def leftX (ops : Array Oper) (listed : Array Bool) : List Nat := (List.range ops.size).filter fun i => !listed.getD i true

theorem leftX_set {listed : Array Bool} {i : Nat} {l1 l2 : List Nat} (h : leftX ops listed = l1 ++ i :: l2) : leftX ops (listed.setIfInBounds i true) = l1 ++ l2 := by
  have hnd : (leftX ops listed).Nodup := List.Pairwise.filter _ List.nodup_range
  have hmem : i ∈ leftX ops listed := by rw [h]; simp
  have hi : listed.getD i true = false := by
    have := (List.mem_filter.1 hmem).2
    simpa using this
  have hlt : i < listed.size := by
    rcases Nat.lt_or_ge i listed.size with h | h
    · exact h
    · simp [Array.getElem?_eq_none h] at hi
  have e : leftX ops (listed.setIfInBounds i true) = (leftX ops listed).filter (fun k => k != i) := by
    unfold leftX
    rw [List.filter_filter]
    congr 1
    funext k
    by_cases hk : k = i
    · subst hk; simp [hlt]
    · rw [getD_set_ne true (Ne.symm hk)]
      simp [hk]
  rw [e, h, List.filter_append, List.filter_cons]
  rw [h] at hnd
  have h1 : i ∉ l1 := fun hm => by
    have := List.nodup_append.1 hnd
    exact this.2.2 i hm i (by simp) rfl
  have h2 : i ∉ l2 := by
    have := (List.nodup_append.1 hnd).2.1
    exact (List.nodup_cons.1 this).1
  have f1 : l1.filter (fun k => k != i) = l1 := List.filter_eq_self.2 fun k hk => by simp; rintro rfl; exact h1 hk
  have f2 : l2.filter (fun k => k != i) = l2 := List.filter_eq_self.2 fun k hk => by simp; rintro rfl; exact h2 hk
  simp [f1, f2]

theorem leftX_before {listed : Array Bool} {i : Nat} {l1 l2 : List Nat} (h : leftX ops listed = l1 ++ i :: l2) : ∀ k ∈ l1, k < i := by
  intro k hk
  have hs : (leftX ops listed).Pairwise (· < ·) := List.Pairwise.filter _ List.pairwise_lt_range
  rw [h, List.pairwise_append] at hs
  exact hs.2.2 k hk i (by simp)

theorem main_X (hok : OkX ops E) (hT : T = true → ∀ L : Nat → Prop, ClosedX ops L → L (ops.size - 1) → ∀ i < ops.size, L i) {Q : Exit → Act → World → Prop} (hR : ∀ a w, R a w → Q .normal a w) :
    ∀ (fuel : Nat) (listed : Array Bool) (a : Act) (w : World), (leftX ops listed).length = fuel → listed.size = ops.size → ((T = true → leftX ops listed ≠ []) → S w) →
      (∀ i j x y, i < j → ops[i]? = some x → ops[j]? = some y → E x = true → E y = true → listed.getD j true = true → listed.getD i true = true) →
      ClosedX ops (fun j => listed.getD j false = true) →
      wpXi P ops E T S R (leftX ops listed) a w → wpAny P .any ops Q fuel listed a w := by
  intro fuel
  induction fuel with
  | zero =>
    intro listed a w hl _ hS hpre _ h
    have hnil := List.eq_nil_of_length_eq_zero hl
    rw [hnil] at h
    refine ⟨?_, hR _ _ h⟩
    apply List.eq_nil_iff_forall_not_mem.2
    intro j hj
    obtain ⟨h0, o, ho, _⟩ := mem_ready.1 hj
    have : j ∈ leftX ops listed := List.mem_filter.2 ⟨List.mem_range.2 (Array.getElem?_eq_some_iff.1 ho).1, by simpa using h0⟩
    rw [hnil] at this; cases this
  | succ fuel ih =>
    intro listed a w hl hso hS hpre hcl h
    have hS : S w := hS (fun _ he => by rw [he] at hl; simp at hl)
    refine ⟨fun hr => ?_, fun i hi => ?_⟩
    · -- the first that is left may come up
      exfalso
      cases hlx : leftX ops listed with
      | nil => rw [hlx] at hl; simp at hl
      | cons i rest =>
        have hm : i ∈ leftX ops listed := by rw [hlx]; simp
        obtain ⟨hir, hun⟩ := List.mem_filter.1 hm
        have hlt := List.mem_range.1 hir
        have ho : ops[i]? = some ops[i] := Array.getElem?_eq_getElem hlt
        have : i ∈ Region.ready .any ops listed := mem_ready.2 ⟨by simpa using hun, _, ho, fun e he hb => by
          have hb' := hok.back i _ ho e he hb
          rcases Bool.eq_false_or_eq_true (listed.getD e.on true) with ht | hf
          · rcases Nat.lt_or_ge e.on listed.size with hs | hs
            · simp [hs] at ht ⊢; exact ht
            · exfalso
              have hil : i < listed.size := by
                rcases Nat.lt_or_ge i listed.size with h | h
                · exact h
                · have h0 : listed.getD i true = false := by simpa using hun
                  simp [Array.getElem?_eq_none h] at h0
              omega
          · exfalso
            have hm2 : e.on ∈ leftX ops listed := List.mem_filter.2 ⟨List.mem_range.2 (by omega), by simpa using hf⟩
            rw [hlx] at hm2
            rcases List.mem_cons.1 hm2 with h1 | h1
            · omega
            · have hs : (leftX ops listed).Pairwise (· < ·) := List.Pairwise.filter _ List.pairwise_lt_range
              rw [hlx, List.pairwise_cons] at hs
              have := hs.1 _ h1
              omega⟩
        rw [hr] at this; cases this
    · obtain ⟨h0, oi, hoi, hall⟩ := mem_ready.1 hi
      have hm : i ∈ leftX ops listed := List.mem_filter.2 ⟨List.mem_range.2 (Array.getElem?_eq_some_iff.1 hoi).1, by simpa using h0⟩
      obtain ⟨l1, l2, hl12⟩ := List.append_of_mem hm
      have hset := leftX_set hl12
      have hbef := leftX_before hl12
      have hnolist : ∀ k ∈ l1, listed.getD k true = false := fun k hk => by
        have : k ∈ leftX ops listed := by rw [hl12]; simp [hk]
        simpa using (List.mem_filter.1 this).2
      have hsz : ∀ k, listed.getD k true = false → k < listed.size := fun k hk => by
        rcases Nat.lt_or_ge k listed.size with h | h
        · exact h
        · simp [Array.getElem?_eq_none h] at hk
      have hnoedge : ∀ k ∈ l1, ¬ ∃ e ∈ oi.after, Region.binds .any e = true ∧ e.on = k := fun k hk => by
        rintro ⟨e, he, hb, rfl⟩
        have h1 := hall e he hb
        have h2 := hnolist _ hk
        have h3 := hsz _ h2
        simp [h3] at h1 h2
        rw [h1] at h2; cases h2
      have hap : ∀ k ∈ l1, ∀ ok, ops[k]? = some ok → ok.apart ops oi = true ∧ oi.apart ops ok = true := fun k hk ok hko => by
        rcases hok.pair k i ok oi (hbef k hk) hko hoi with h | h
        · exact absurd h (hnoedge k hk)
        · exact h
      have hlen : (leftX ops (listed.setIfInBounds i true)).length = fuel := by
        rw [hset]; rw [hl12] at hl; simp at hl ⊢; omega
      have hisz := hsz i h0
      rw [hl12] at h
      -- effects that are listed are a beginning
      have hEl1 : E oi = true → ∀ k ∈ l1, ∀ ok, ops[k]? = some ok → E ok = false := fun hEi k hk ok hko => by
        cases hEk : E ok with
        | false => rfl
        | true =>
          exfalso
          -- the last effect ahead of i
          have : ∀ n, ∀ k ok, ops[k]? = some ok → E ok = true → k < i → i - k = n → listed.getD k true = false → False := by
            intro n
            induction n using Nat.strongRecOn with
            | _ n ihn =>
              intro k ok hko hEk hki hn hkun
              by_cases hbetween : ∃ m z, k < m ∧ m < i ∧ ops[m]? = some z ∧ E z = true
              · obtain ⟨m, z, h1, h2, h3, h4⟩ := hbetween
                rcases Bool.eq_false_or_eq_true (listed.getD m true) with ht | hf
                · have := hpre k m ok z h1 hko h3 hEk h4 ht
                  rw [hkun] at this; cases this
                · exact ihn (i - m) (by omega) m z h3 h4 h2 rfl hf
              · have hc := hok.chain k i ok oi hki hko hoi hEk hEi (fun m z h1 h2 h3 => by
                  cases hz : E z with
                  | false => rfl
                  | true => exact absurd ⟨m, z, h1, h2, h3, hz⟩ hbetween)
                have hL : ClosedX ops (fun x => x = i ∨ listed.getD x false = true) := by
                  intro j y hy hj e he hb
                  rcases hj with rfl | hj
                  · rw [hoi] at hy; cases hy
                    exact .inr (hall e he hb)
                  · exact .inr (hcl j y hy hj e he hb)
                rcases hc _ hL (.inl rfl) with h1 | h1
                · omega
                · have h3 := hsz _ hkun
                  simp [h3] at h1 hkun
                  rw [h1] at hkun; cases hkun
          exact this _ k ok hko hEk (hbef k hk) rfl (hnolist k hk)
      have hpre' : ∀ p q x y, p < q → ops[p]? = some x → ops[q]? = some y → E x = true → E y = true → (listed.setIfInBounds i true).getD q true = true → (listed.setIfInBounds i true).getD p true = true := by
        intro p q x y hpq hx hy hEx hEy hq
        by_cases hpi : p = i
        · subst hpi; simp [hisz]
        · rw [getD_set_ne true (Ne.symm hpi)]
          by_cases hqi : q = i
          · subst hqi
            rw [hoi] at hy; cases hy
            cases hp : listed.getD p true with
            | true => rfl
            | false =>
              exfalso
              have hpm : p ∈ leftX ops listed := List.mem_filter.2 ⟨List.mem_range.2 (Array.getElem?_eq_some_iff.1 hx).1, by simpa using hp⟩
              rw [hl12] at hpm
              rcases List.mem_append.1 hpm with h1 | h1
              · have := hEl1 hEy p h1 x hx; rw [hEx] at this; cases this
              · rcases List.mem_cons.1 h1 with h1 | h1
                · exact hpi h1
                · have hs : (leftX ops listed).Pairwise (· < ·) := List.Pairwise.filter _ List.pairwise_lt_range
                  rw [hl12, List.pairwise_append] at hs
                  have := (List.pairwise_cons.1 hs.2.1).1 p h1
                  omega
          · rw [getD_set_ne true (Ne.symm hqi)] at hq
            exact hpre p q x y hpq hx hy hEx hEy hq
      have hcl' : ClosedX ops (fun j => (listed.setIfInBounds i true).getD j false = true) := by
        intro j y hy hj e he hb
        by_cases hji : j = i
        · subst hji
          rw [hoi] at hy; cases hy
          exact getD_set_true (hall e he hb)
        · have hj' : listed.getD j false = true := by
            rw [getD_set_ne false (Ne.symm hji)] at hj; exact hj
          exact getD_set_true (hcl j y hy hj' e he hb)
      have goal : ∀ a' w', ((T = true → l1 ++ l2 ≠ []) → S w') → wpXi P ops E T S R (l1 ++ l2) a' w' → wpAny P .any ops Q fuel (listed.setIfInBounds i true) a' w' := fun a' w' hS' h' =>
        ih _ a' w' hlen (by rw [Array.size_setIfInBounds]; exact hso) (by rw [hset]; exact hS') hpre' hcl' (by rw [hset]; exact h')
      cases hEi : E oi with
      | false =>
        obtain ⟨v, hv, h'⟩ := hoist hok.sel hoi l2 hEi l1 a w hS hap h
        exact hv.wpOp hoi hS (goal _ _ (fun _ => hS) h')
      | true =>
        have hlx : T = true → l1 ≠ [] → l2 ≠ [] := fun ht hne hl2 => by
          subst hl2
          have hiS := (Array.getElem?_eq_some_iff.1 hoi).1
          have hend : i = ops.size - 1 := by
            cases hlast : listed.getD (ops.size - 1) true with
            | false =>
              have hm3 : ops.size - 1 ∈ leftX ops listed := List.mem_filter.2 ⟨List.mem_range.2 (by omega), by simpa using hlast⟩
              rw [hl12] at hm3
              rcases List.mem_append.1 hm3 with h1 | h1
              · have := hbef _ h1; omega
              · exact (List.mem_singleton.1 h1).symm
            | true =>
              exfalso
              have h3 := hT ht _ hcl (by
                by_cases hs : ops.size - 1 < listed.size
                · simp [hs] at hlast ⊢; exact hlast
                · omega) i hiS
              simp [hisz] at h3 h0
              rw [h0] at h3; cases h3
          have hL : ClosedX ops (fun x => x = i ∨ listed.getD x false = true) := by
            intro j y hy hj e he hb
            rcases hj with rfl | hj
            · rw [hoi] at hy; cases hy
              exact .inr (hall e he hb)
            · exact .inr (hcl j y hy hj e he hb)
          cases l1 with
          | nil => exact hne rfl
          | cons k l1 =>
            have hki := hbef k (by simp)
            rcases hT ht _ hL (.inl hend.symm) k (by omega) with h1 | h1
            · omega
            · have h2 := hnolist k (by simp)
              have h3 := hsz _ h2
              simp [h3] at h1 h2
              rw [h1] at h2; cases h2
        rcases sink hok.sel hoi l2 l1 a w hS hlx (fun k hk ok hko => ⟨hEl1 hEi k hk ok hko, hap k hk ok hko⟩) h with ⟨v, hv, h'⟩ | ⟨hw, h'⟩
        · exact hv.wpOp hoi hS (goal _ _ (fun _ => hS) h')
        · unfold wpOp
          simp only [hoi]
          rw [if_pos hw]
          exact .inl (Oper.wp_mono (fun a' w' h => goal a' w' h.1 h.2) (wp_exits h'))
end
end Go.Mq
