/- Region5: a region that draws its order, where one of its calls throws. No program is named here. -/
import Derived.Test.YtgnfhognbpifiaaGreatDoorRegion4
namespace Go.Mq
open Go Go.RowKit
section
variable {P : Program} {ops : Array Oper} {Q : Exit → Act → World → Prop} {X : Exit → World → Prop}
theorem wp_dead_moved {o : Oper} {a a2 : Act} {w : World} (hx : execOp a2.eval o = execOp a.eval o) (h : o.wp P a w (fun _ _ => False) (fun e _ w' => X e w')) : o.wp P a2 w (fun _ _ => False) (fun e _ w' => X e w') := by
  unfold Oper.wp at *
  rw [hx]
  generalize (execOp a.eval o).run P w = r at *
  cases r with
  | ok n w' =>
    cases n <;> simp only [Oper.upon] at h ⊢
    case enter f args =>
      refine Calls.mono h fun e w'' he => ?_
      cases e with
      | returned u => exact he
      | panicked c => exact he
      | outgrown => exact he
    case row row args => exact Rows.mono h fun u w'' he => he
  | halt x w' =>
    cases x <;> simp only [Oper.upon] at h ⊢
    case panic u => exact h
theorem wp_dead_exit {o : Oper} {a : Act} {w : World} {K : Act → World → Prop} (hX : ∀ e w', X e w' → ∃ ch, e = .panic ch ∧ ∀ a', a'.defers = a.defers → Q (.panic ch) a' w') (h : o.wp P a w (fun _ _ => False) (fun e _ w' => X e w')) : o.wp P a w K Q := by
  unfold Oper.wp at *
  generalize (execOp a.eval o).run P w = r at *
  cases r with
  | ok n w' =>
    cases n <;> simp only [Oper.upon] at h ⊢
    case enter f args =>
      refine Calls.mono h fun e w'' he => ?_
      cases e with
      | returned u => exact he.elim
      | panicked c => obtain ⟨ch, hch, hq⟩ := hX _ _ he; cases hch; exact hq a rfl
      | outgrown => obtain ⟨_, _, he⟩ := he; obtain ⟨ch, hch, _⟩ := hX _ _ he; cases hch
    case row row args => exact Rows.mono h fun u w'' he => he.elim
  | halt x w' =>
    cases x <;> simp only [Oper.upon] at h ⊢
    case panic u => obtain ⟨ch, hch, hq⟩ := hX _ _ h; cases hch; exact hq a rfl
/-- The call that throws, seen ahead of operations that stand apart from it. -/
theorem dead_call {oc : Oper} {S : World → Prop} {w : World} (hsel : ∀ cs b, oc.op ≠ .select cs b) : ∀ (L : List Nat) (a : Act), (∀ k ∈ L, ∀ ok, ops[k]? = some ok → ok.apart ops oc = true) →
    wpXi P ops (fun _ => false) false S (fun a w => Region.wanted oc (yielded ops a.tmps) = true ∧ oc.wp P a w (fun _ _ => False) (fun e _ w' => X e w')) L a w →
    Region.wanted oc (yielded ops a.tmps) = true ∧ oc.wp P a w (fun _ _ => False) (fun e _ w' => X e w') := by
  intro L
  induction L with
  | nil => exact fun a _ h => h
  | cons k L ih =>
    intro a hap h
    have hap' : ∀ j ∈ L, ∀ oj, ops[j]? = some oj → oj.apart ops oc = true := fun j hj => hap j (List.mem_cons_of_mem _ hj)
    simp only [wpXi] at h
    cases hk : ops[k]? with
    | none => rw [hk] at h; exact ih a hap' h
    | some ok =>
      rw [hk] at h
      rcases h with ⟨v, _, h⟩ | ⟨h, _⟩
      · obtain ⟨h1, h2⟩ := ih _ hap' h
        obtain ⟨g1, _, _⟩ := Oper.apart_spec (hap k (List.mem_cons_self ..) ok hk)
        refine ⟨?_, wp_dead_moved (execOp_put oc hsel a ok.dst v g1).symm h2⟩
        rw [wanted_put oc a ok.dst v g1] at h1
        exact h1
      · cases h
/-- What is asked of a region's text: c: the call that throws; pl: the operations that do not wait for it. -/
structure OkD (ops : Array Oper) (c : Nat) (pl : List Nat) : Prop where
  ok : OkX ops isEff
  sorted : pl.Pairwise (· < ·)
  size : ∀ i ∈ pl, i < ops.size
  free : ∀ i ∈ pl, i ≠ c ∧ ∀ o, ops[i]? = some o → ∀ e ∈ o.after, Region.binds .any e = true → e.on ≠ c
  rest : ∀ i o, ops[i]? = some o → i ∈ pl ∨ i = c ∨ ∃ e ∈ o.after, Region.binds .any e = true ∧ e.on ∉ pl
def okDb (ops : Array Oper) (c : Nat) (pl : List Nat) : Bool :=
  okXb ops && decide (pl.Pairwise (· < ·)) && pl.all (fun i => decide (i < ops.size) && decide (i ≠ c) && match ops[i]? with
    | some o => o.after.all fun e => !Region.binds .any e || decide (e.on ≠ c)
    | none => true) && (List.range ops.size).all fun i => pl.contains i || decide (i = c) || match ops[i]? with
    | some o => o.after.any fun e => Region.binds .any e && !pl.contains e.on
    | none => true
theorem okDb_spec {c : Nat} {pl : List Nat} (h : okDb ops c pl = true) : OkD ops c pl := by
  simp only [okDb, Bool.and_eq_true, decide_eq_true_eq, List.all_eq_true] at h
  obtain ⟨⟨⟨h1, h2⟩, h3⟩, h4⟩ := h
  refine ⟨okXb_spec h1, h2, fun i hi => (h3 i hi).1.1, fun i hi => ⟨(h3 i hi).1.2, fun o ho e he hb => ?_⟩, fun i o ho => ?_⟩
  · have := (h3 i hi).2
    rw [ho] at this
    simp only [Array.all_eq_true_iff_forall_mem] at this
    have := this e he
    simpa [hb] using this
  · have hi := (Array.getElem?_eq_some_iff.1 ho).1
    have := h4 i (List.mem_range.2 hi)
    rw [ho] at this
    simp only [Bool.or_eq_true, decide_eq_true_eq, List.contains_iff_mem] at this
    rcases this with (h | h) | h
    · exact .inl h
    · exact .inr (.inl h)
    · rw [Array.any_eq_true'] at h
      obtain ⟨e, he, h⟩ := h
      simp at h
      exact .inr (.inr ⟨e, he, h.1, h.2⟩)
theorem wp_region_dead0 {id : Nat} {l : List Oper} {a : Act} {w : World} {c : Nat} {oc : Oper} {pl : List Nat} (hm : P.follows .mixedOrders = true) (hback : (l.zipIdx.all fun (o, j) => o.after.all (fun e => !Region.binds .any e || decide (e.on < j))) = true)
    (hok : OkD l.toArray c pl) (hc : l.toArray[c]? = some oc)
    (h : wpXi P l.toArray (fun _ => false) false (fun w' => w' = w.drew) (fun a1 w1 => Region.wanted oc (yielded l.toArray a1.tmps) = true ∧ oc.wp P a1 w1 (fun _ _ => False) (fun e _ w' => ∃ ch, e = .panic ch ∧ ∀ a', a'.defers = a.defers → Q (.panic ch) a' w')) pl a w.drew) :
    (Code.region id l.toArray true).wp P Q a w := by
  refine wp_region_I (fun D a' w' => w' = w.drew ∧ a'.defers = a.defers ∧ (∀ j, D j → j ∈ pl) ∧ ∃ L : List Nat, L.Pairwise (· < ·) ∧ (∀ j, j ∈ L ↔ j ∈ pl ∧ ¬ D j) ∧ wpXi P l.toArray (fun _ => false) false (fun w' => w' = w.drew) (fun a1 w1 => Region.wanted oc (yielded l.toArray a1.tmps) = true ∧ oc.wp P a1 w1 (fun _ _ => False) (fun e _ w' => ∃ ch, e = .panic ch ∧ ∀ a', a'.defers = a.defers → Q (.panic ch) a' w')) L a' w')
    hm hback ⟨rfl, rfl, fun _ h => h.elim, pl, hok.sorted, fun j => by simp, h⟩ ?_ ?_
  · rintro D a1 w1 hall ⟨_, _, hD, _⟩
    exact absurd rfl (hok.free c (hD c (hall c (by simpa using (Array.getElem?_eq_some_iff.1 hc).1)))).1
  · rintro D a1 w1 i oi hoi' hDi hdeps ⟨rfl, hdf, hD, L, hs, hL, hx⟩
    have hoi : l.toArray[i]? = some oi := by simpa using hoi'
    clear hoi'
    by_cases hic : i = c
    · subst hic
      rw [hc] at hoi; cases hoi
      obtain ⟨h1, h2⟩ := dead_call (X := fun e w' => ∃ ch, e = .panic ch ∧ ∀ a', a'.defers = a.defers → Q (.panic ch) a' w') (fun cs b => hok.ok.sel i oc cs b hc) _ a1 (fun k hk ok hko => by
        obtain ⟨hkp, hkd⟩ := (hL k).1 hk
        obtain ⟨hki, hke⟩ := hok.free k hkp
        rcases Nat.lt_or_ge k i with hlt | hge
        · rcases hok.ok.pair k i ok oc hlt hko hc with ⟨e, he, hb, hon⟩ | hap
          · exact absurd (hon ▸ hdeps e he hb) hkd
          · exact hap.1
        · rcases hok.ok.pair i k oc ok (by omega) hc hko with ⟨e, he, hb, hon⟩ | hap
          · exact absurd hon (hke ok hko e he hb)
          · exact hap.2) hx
      unfold wpOp
      simp only [hc]
      rw [if_pos h1]
      refine .inl (wp_dead_exit (X := fun e w' => ∃ ch, e = .panic ch ∧ ∀ a', a'.defers = a.defers → Q (.panic ch) a' w') (fun e w' ⟨ch, he, hq⟩ => ⟨ch, he, fun a' ha => hq a' (ha.trans hdf)⟩) h2)
    · have hip : i ∈ pl := by
        rcases hok.rest i oi hoi with h | h | ⟨e, he, hb, hn⟩
        · exact h
        · exact absurd h hic
        · exact absurd (hD _ (hdeps e he hb)) hn
      have him : i ∈ L := (hL i).2 ⟨hip, hDi⟩
      obtain ⟨l1, l2, rfl⟩ := List.append_of_mem him
      obtain ⟨v, hv, hx'⟩ := hoist (S := fun w' => w' = w.drew) (fun j o cs b => hok.ok.sel j o cs b) hoi l2 rfl l1 a1 w.drew rfl (fun k hk ok hko => by
        have hlt : k < i := (List.pairwise_append.1 hs).2.2 k hk i (by simp)
        have hkd : ¬ D k := ((hL k).1 (by simp [hk])).2
        rcases hok.ok.pair k i ok oi hlt hko hoi with ⟨e, he, hb, hon⟩ | hap
        · exact absurd (hon ▸ hdeps e he hb) hkd
        · exact hap) hx
      rw [List.pairwise_append, List.pairwise_cons] at hs
      refine hv.wpOp hoi rfl ⟨rfl, ?_, ?_, l1 ++ l2, List.pairwise_append.2 ⟨hs.1, hs.2.1.2, fun x hx y hy => hs.2.2 x hx y (by simp [hy])⟩, fun j => ?_, hx'⟩
      · cases oi.dst <;> exact hdf
      · rintro j (h | rfl)
        · exact hD j h
        · exact hip
      · have := hL j
        by_cases hji : j = i
        · subst hji
          have n1 : j ∉ l1 := fun h => by have := hs.2.2 j h j (by simp); omega
          have n2 : j ∉ l2 := fun h => by have := hs.2.1.1 j h; omega
          simp [n1, n2]
        · simp only [List.mem_append, List.mem_cons, hji, false_or] at this
          simp only [List.mem_append, hji, or_false]
          exact this
/-- Which of a list's members a list of yeses tells. -/
def pick : List Oper → List Bool → List Oper
  | o :: l, true :: m => o :: pick l m
  | _ :: l, false :: m => pick l m
  | _, _ => []
def places : Nat → List Bool → List Nat
  | _, [] => []
  | n, true :: m => n :: places (n + 1) m
  | n, false :: m => places (n + 1) m
theorem wpXi_pick {S : World → Prop} {R : Act → World → Prop} (m : List Bool) : ∀ (l : List Oper) (n : Nat), (∀ j, l[j]? = ops[n + j]?) → ∀ a w, wpX P ops (fun _ => false) S R (pick l m) a w → wpXi P ops (fun _ => false) false S R (places n m) a w := by
  induction m with
  | nil => intro l n _ a w h; cases l <;> exact h
  | cons b m ih =>
    intro l n hl a w h
    cases l with
    | nil =>
      have none : ∀ k (m : List Bool), n ≤ k → ∀ a w, R a w → wpXi P ops (fun _ => false) false S R (places k m) a w := by
        intro k m
        induction m generalizing k with
        | nil => intro _ a w h; exact h
        | cons b m ih2 =>
          intro hk a w h
          cases b with
          | false => exact ih2 (k + 1) (by omega) a w h
          | true =>
            have : ops[k]? = none := by have := hl (k - n); rw [show n + (k - n) = k by omega] at this; rw [← this]; simp
            simp only [places, wpXi, this]
            exact ih2 (k + 1) (by omega) a w h
      exact none n (b :: m) (Nat.le_refl _) a w (by cases b <;> exact h)
    | cons o l =>
      have h0 : ops[n]? = some o := by simpa using (hl 0).symm
      have hl' : ∀ j, l[j]? = ops[n + 1 + j]? := fun j => by have := hl (j + 1); simpa [Nat.add_assoc, Nat.add_comm 1 j] using this
      cases b with
      | false => exact ih l (n + 1) hl' a w h
      | true =>
        simp only [places, wpXi, h0]
        rcases h with ⟨v, h1, h2⟩ | ⟨h1, _⟩
        · exact .inl ⟨v, h1, ih l (n + 1) hl' _ _ h2⟩
        · cases h1
/-- A drawn region in which call number c throws; m: which operations do not wait for it. -/
theorem wp_region_dead {id : Nat} {l : List Oper} {a : Act} {w : World} (c : Nat) (m : List Bool) {oc : Oper} (hm : P.follows .mixedOrders = true) (hback : (l.zipIdx.all fun (o, j) => o.after.all (fun e => !Region.binds .any e || decide (e.on < j))) = true)
    (hok : okDb l.toArray c (places 0 m) = true) (hc : l[c]? = some oc)
    (h : wpX P l.toArray (fun _ => false) (fun w' => w' = w.drew) (fun a1 w1 => Region.wanted oc (yielded l.toArray a1.tmps) = true ∧ oc.wp P a1 w1 (fun _ _ => False) (fun e _ w' => ∃ ch, e = .panic ch ∧ ∀ a', a'.defers = a.defers → Q (.panic ch) a' w')) (pick l m) a w.drew) :
    (Code.region id l.toArray true).wp P Q a w :=
  wp_region_dead0 hm hback (okDb_spec hok) (by simpa using hc) (wpXi_pick m l 0 (by simp) a w.drew h)
/-- A load that finds the same in every world of S. -/
theorem wpX_ld1 {E : Oper → Bool} {S : World → Prop} {R : Act → World → Prop} {o : Oper} {rest : List Oper} {a : Act} {w : World} {t : TypeId} {x : Operand} (hop : o.op = .load t x) (hw : Region.wanted o (yielded ops a.tmps) = true) {p : Addr} (hp : a.eval x = .pointer (some p))
    (v : Value) (hag : ∀ w, (isAgg t).run P w = .ok false w) (hS : ∀ w', S w' → w'.cell? p = some v) (h : wpX P ops E S R rest (a.put o.dst v) w) : wpX P ops E S R (o :: rest) a w := by
  refine .inl ⟨v, .inl ⟨hw, fun w' hS' => ?_⟩, h⟩
  obtain ⟨dst, op, ty, ps, af, g⟩ := o
  simp only at hop
  subst hop
  simp [execOp, hp, Instr.loadAt, Instr.sureAddr, loadVar, hag, run_load, hS w' hS']
/-- A load, where the world is one alone. -/
theorem wpX_ldD {E : Oper → Bool} {R : Act → World → Prop} {o : Oper} {rest : List Oper} {a : Act} {w0 : World} {t : TypeId} {x : Operand} (hop : o.op = .load t x) (hw : Region.wanted o (yielded ops a.tmps) = true) {p : Addr} (hp : a.eval x = .pointer (some p))
    (hc : ∃ off v, w0.cell? ⟨p.block, off, none⟩ = some v)
    (h : ∀ K : Act → World → Prop, (∀ a' w', wpX P ops E (fun w' => w' = w0) R rest a' w' → K a' w') → o.wp P a w0 K NoExit) : wpX P ops E (fun w' => w' = w0) R (o :: rest) a w0 := by
  obtain ⟨off, v, hc⟩ := hc
  refine wpX_ld hop hw hp rfl (fun w' hw' => ?_) h
  subst hw'
  exact ⟨rfl, cells_of_cell hc⟩
/-- A drawn region, in the order of its text; behind its last operation the world is free. -/
theorem wp_region_XT {id : Nat} {l : List Oper} {a : Act} {w : World} (S : World → Prop) (hm : P.follows .mixedOrders = true) (hok : okTb l.toArray = true) {t : Oper} (ht : l.getLast? = some t) (hS : S w.drew)
    (h : wpX P l.toArray isEff S (stepX P l.toArray isEff S (fun a w => Q .normal a w) t) l.dropLast a w.drew) : (Code.region id l.toArray true).wp P Q a w := by
  refine wp_region_any hm ?_
  have hall : leftX l.toArray (Array.replicate l.toArray.size false) = List.range l.length := by
    unfold leftX
    rw [List.size_toArray]
    apply List.filter_eq_self.2
    intro i hi
    have := List.mem_range.1 hi
    simp [this]
  obtain ⟨h1, h2⟩ := Bool.and_eq_true_iff.1 hok
  have hl : l.dropLast ++ [t] = l := by
    have hne : l ≠ [] := by rintro rfl; cases ht
    rw [List.getLast?_eq_some_getLast hne] at ht
    cases ht
    exact List.dropLast_concat_getLast hne
  have hlen : l.length = l.dropLast.length + 1 := by
    have := congrArg List.length hl
    simp at this; simp; omega
  refine main_X (T := true) (S := S) (okXb_spec h1) (fun _ L hL hlast i hi => ?_) (R := fun a w => Q .normal a w) (fun _ _ h => h) _ _ _ _ (by rw [hall]; simp) (by simp) (fun _ => hS) ?_ ?_ ?_
  · by_cases hil : i = l.toArray.size - 1
    · rw [hil]; exact hlast
    · have hb := List.all_eq_true.1 h2 i (List.mem_range.2 (by omega))
      cases hm' : (masks l.toArray.toList #[])[l.toArray.size - 1]? with
      | none => simp only [Array.getD_eq_getD_getElem?, hm', Option.getD_none] at hb; simp at hb
      | some m =>
        simp only [Array.getD_eq_getD_getElem?, hm', Option.getD_some] at hb
        exact masks_spec (ops := l.toArray) l.toArray.toList #[] (by simp) (by simp) _ m i hm' hb L hL hlast
  · intro i j x y hij hx hy _ _ hj
    have hjl := (Array.getElem?_eq_some_iff.1 hy).1
    rw [List.size_toArray] at hjl
    simp [hjl] at hj
  · intro j y hy hj
    have hjl := (Array.getElem?_eq_some_iff.1 hy).1
    rw [List.size_toArray] at hjl
    simp [hjl] at hj
  · rw [hall, hlen, List.range_eq_range']
    exact wpXi_tail l.dropLast 0 (fun j => by rw [hl]; simp) a w.drew h
end
end Go.Mq
