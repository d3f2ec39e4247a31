/- What sym.Used does at every expression. -/
import Derived.Test.YtgnfhognbpifiaaGreatDoorUsedW1
import Derived.Test.YtgnfhognbpifiaaGreatDoorChecks
namespace Go.Proofs.YtgnfhognbpifiaaGreatDoor
open Go Go.RowKit Go.Mq Go.Mq.Tree Go.Mq.Used
open Go.Mq.Check (FewE argsN)
set_option maxRecDepth 100000
set_option maxHeartbeats 1000000
/-- What is shown of an expression: alone, and as some of a list. -/
def UOf (w0 : World) (bF bL bE : Nat) (g : List UInt8) (F : Nat → Prop) (e : E) : Prop :=
  (∀ u, EAt w0 F e [u] → UKid w0 bF bL bE g u (some e)) ∧
  ∀ us, EAt w0 F e us → ∃ os : List (Option E), UKids w0 bF bL bE g us os ∧ (∀ l, os.foldl (fun l o => useO g o l) l = useE g e l) ∧ (os.map cntO).sum = cntE e ∧ us.length = argsN e
section
variable {w0 : World} {bF bL bE : Nat} {g : List UInt8} {F : Nat → Prop}
theorem UOf.one {e : E} (hx : e.isX) (h : ∀ u, EAt w0 F e [u] → UKid w0 bF bL bE g u (some e)) : UOf w0 bF bL bE g F e := by
  refine ⟨h, fun us he => ?_⟩
  have hus : ∃ u, us = [u] := by
    cases e with
    | num p n => obtain ⟨b, hb, _⟩ := he; exact ⟨_, hb⟩
    | var p m n => obtain ⟨b, hb, _⟩ := he; exact ⟨_, hb⟩
    | item p m n i => obtain ⟨b, _, hb, _⟩ := he; exact ⟨_, hb⟩
    | un p op x => obtain ⟨b, _, hb, _⟩ := he; exact ⟨_, hb⟩
    | bin p op x y => obtain ⟨b, _, _, hb, _⟩ := he; exact ⟨_, hb⟩
    | app p m n l => obtain ⟨b, _, _, _, hb, _⟩ := he; exact ⟨_, hb⟩
    | nil => exact hx.elim
    | cons _ _ => exact hx.elim
  obtain ⟨u, rfl⟩ := hus
  refine ⟨[some e], ⟨_, _, rfl, h u he, rfl⟩, fun l => rfl, by simp [cntO], ?_⟩
  cases e <;> first | rfl | exact hx.elim
theorem ukid_nil : UKid w0 bF bL bE g nilp none := rfl
theorem ukid_ptr {e : E} {u : Value} (h : UKid w0 bF bL bE g u (some e)) : ∃ b, u = .pointer (some ⟨b, 0, none⟩) := by
  obtain ⟨b, hb, _⟩ := h; exact ⟨b, hb⟩
theorem used_all (hB : UB w0 bF bL bE g) (hFL : ∀ x, F x → x ≠ bL) (e : E) : FewE e → UOf w0 bF bL bE g F e := by
  induction e with
  | num p n =>
    refine fun _ => UOf.one trivial fun u he => ?_
    obtain ⟨b, hb, hF, hblk⟩ := he
    cases hb
    refine ⟨b, rfl, fun w lv l hst hl => ?_⟩
    have ht : touch g [] [] l = l := touch_no fun h => h.2.1 h.1.symm
    have := used_node g w0 bF bL bE hB F hFL b _ _ _ _ none none [] [] none 0 [] [none, none] hblk hF (Row.nil _ _ _) (by simp) ⟨_, _, rfl, ukid_nil, _, _, rfl, ukid_nil, rfl⟩ w lv l hst (by rw [ht]; simp [cntO, cntE] at hl ⊢; omega)
    rw [ht] at this
    exact this
  | var p m n =>
    refine fun _ => UOf.one trivial fun u he => ?_
    obtain ⟨b, hb, hF, hblk⟩ := he
    cases hb
    refine ⟨b, rfl, fun w lv l hst hl => ?_⟩
    exact used_node g w0 bF bL bE hB F hFL b _ _ _ _ none none m n none 0 [] [none, none] hblk hF (Row.nil _ _ _) (by simp) ⟨_, _, rfl, ukid_nil, _, _, rfl, ukid_nil, rfl⟩ w lv l hst (by have := touch_len g m n l; simp [cntO, cntE] at hl ⊢; omega)
  | item p m n i ih =>
    refine fun hf => UOf.one trivial fun u he => ?_
    obtain ⟨b, v, hb, hF, hblk, hi⟩ := he
    cases hb
    have hkid := (ih hf).1 v hi
    obtain ⟨bi, rfl⟩ := ukid_ptr hkid
    refine ⟨b, rfl, fun w lv l hst hl => ?_⟩
    exact used_node g w0 bF bL bE hB F hFL b _ _ _ _ (some ⟨bi, 0, none⟩) none m n none 0 [] [some i, none] hblk hF (Row.nil _ _ _) (by simp) ⟨_, _, rfl, hkid, _, _, rfl, ukid_nil, rfl⟩ w lv l hst (by have := touch_len g m n l; simp [cntO, cntE] at hl ⊢; omega)
  | un p op x ih =>
    refine fun hf => UOf.one trivial fun u he => ?_
    obtain ⟨b, v, hb, hF, hblk, hi⟩ := he
    cases hb
    have hkid := (ih hf).1 v hi
    obtain ⟨bi, rfl⟩ := ukid_ptr hkid
    refine ⟨b, rfl, fun w lv l hst hl => ?_⟩
    have ht : touch g [] [] l = l := touch_no fun h => h.2.1 h.1.symm
    have := used_node g w0 bF bL bE hB F hFL b _ _ _ _ (some ⟨bi, 0, none⟩) none [] [] none 0 [] [some x, none] hblk hF (Row.nil _ _ _) (by simp) ⟨_, _, rfl, hkid, _, _, rfl, ukid_nil, rfl⟩ w lv l hst (by rw [ht]; simp [cntO, cntE] at hl ⊢; omega)
    rw [ht] at this
    exact this
  | bin p op x y ih1 ih2 =>
    refine fun hf => UOf.one trivial fun u he => ?_
    obtain ⟨b, v, v2, hb, hF, hblk, hi, hj⟩ := he
    cases hb
    have hkid := (ih1 hf.1).1 v hi
    have hkjd := (ih2 hf.2).1 v2 hj
    obtain ⟨bi, rfl⟩ := ukid_ptr hkid
    obtain ⟨bj, rfl⟩ := ukid_ptr hkjd
    refine ⟨b, rfl, fun w lv l hst hl => ?_⟩
    have ht : touch g [] [] l = l := touch_no fun h => h.2.1 h.1.symm
    have := used_node g w0 bF bL bE hB F hFL b _ _ _ _ (some ⟨bi, 0, none⟩) (some ⟨bj, 0, none⟩) [] [] none 0 [] [some x, some y] hblk hF (Row.nil _ _ _) (by simp) ⟨_, _, rfl, hkid, _, _, rfl, hkjd, rfl⟩ w lv l hst (by rw [ht]; simp [cntO, cntE] at hl ⊢; omega)
    rw [ht] at this
    exact this
  | app p m n a ih =>
    refine fun hf => UOf.one trivial fun u he => ?_
    obtain ⟨b, ad, k, vs, hb, hF, hblk, _, hrow, hl0⟩ := he
    cases hb
    obtain ⟨os, hks, hfold, hcnt, hlen⟩ := (ih hf.2).2 vs hl0
    have hfa := hf.1
    refine ⟨b, rfl, fun w lv l hst hl => ?_⟩
    have := used_node g w0 bF bL bE hB F hFL b _ _ _ _ none none m n ad k vs (none :: none :: os) hblk hF hrow (by omega) ⟨_, _, rfl, ukid_nil, _, _, rfl, ukid_nil, hks⟩ w lv l hst (by have := touch_len g m n l; simp only [List.map_cons, List.sum_cons, cntO, cntE, hcnt] at hl ⊢; omega)
    rw [List.foldl_cons, List.foldl_cons, hfold] at this
    exact this
  | nil => exact fun _ => ⟨fun u he => (by cases (show [u] = [] from he)), fun us he => ⟨[], by rw [show us = [] from he]; rfl, fun l => rfl, rfl, by rw [show us = [] from he]; rfl⟩⟩
  | cons x r ih1 ih2 =>
    refine fun hf => ⟨fun u he => ?_, fun us he => ?_⟩
    · obtain ⟨v, vs, hv, h1, h2⟩ := he
      simp only [List.cons.injEq] at hv
      obtain ⟨rfl, rfl⟩ := hv
      obtain ⟨os, hks, hfold, hcnt, _⟩ := (ih2 hf.2).2 [] h2
      have hrs : os = [] := hks
      subst hrs
      obtain ⟨b, hb, hcall⟩ := (ih1 hf.1).1 u h1
      refine ⟨b, hb, fun w lv l hst hl => ?_⟩
      rw [useE, ← hfold]
      exact hcall w lv l hst (by simp only [cntE] at hl; omega)
    · obtain ⟨v, vs, rfl, h1, h2⟩ := he
      obtain ⟨os, hks, hfold, hcnt, hlen⟩ := (ih2 hf.2).2 vs h2
      exact ⟨some x :: os, ⟨_, _, rfl, (ih1 hf.1).1 v h1, hks⟩, fun l => by rw [List.foldl_cons, hfold]; rfl, by simp [cntO, cntE, hcnt], by simp [argsN, hlen]⟩
end
end Go.Proofs.YtgnfhognbpifiaaGreatDoor
