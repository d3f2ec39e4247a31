/- The checker's expr: every expression. -/
import Derived.Test.YtoeblajmelbbmaaGreatDoorCheckW4
import Derived.Test.YtoeblajmelbbmaaGreatDoorME
namespace Go.Proofs.YtoeblajmelbbmaaGreatDoor
open Go Go.RowKit Go.Mq Go.Mq.Tree Go.Mq.Sym Go.Mq.Check
set_option maxRecDepth 100000
set_option maxHeartbeats 1000000
/-- What is shown of an expression: alone, and as some of a list. -/
def ExOf (c : Env) (F : Nat → Prop) (bc : Nat) (e : E) : Prop :=
  (∀ (u : Value) (w : World), EnvAt w F c bc → EAt w F e [u] → ∃ b, u = ptr b ∧ Calls Tryz.prog 58 #[ptr bc, ptr b] w (Looked [] w (exprL c e))) ∧
  ∀ (us : List Value) (w : World), EnvAt w F c bc → EAt w F e us → ∃ rs, Kids bc w us rs ∧ orL rs = exprL c e ∧ us.length = argsN e
theorem ExOf.kid {c : Env} {F : Nat → Prop} {bc : Nat} {e : E} (h : ExOf c F bc e) {u : Value} {w : World} (hE : EnvAt w F c bc) (he : EAt w F e [u]) : ∃ b, u = ptr b ∧ Kid bc w (ptr b) (exprL c e) := by
  obtain ⟨b, hb, _⟩ := h.1 u w hE he
  subst hb
  refine ⟨b, rfl, .inr ⟨b, rfl, fun w' hc => ?_⟩⟩
  obtain ⟨b', hb', hcall⟩ := h.1 (ptr b) w' (hE.kept hc (by simp)) (he.kept hc (by simp))
  cases hb'
  exact hcall
theorem kid_nil (bc : Nat) (w : World) : Kid bc w nilp none := .inl ⟨rfl, rfl⟩
/-- One alone, as a list of one. -/
theorem ExOf.one {c : Env} {F : Nat → Prop} {bc : Nat} {e : E} (hx : e.isX) (h : ∀ (u : Value) (w : World), EnvAt w F c bc → EAt w F e [u] → ∃ b, u = ptr b ∧ Calls Tryz.prog 58 #[ptr bc, ptr b] w (Looked [] w (exprL c e))) : ExOf c F bc e := by
  refine ⟨h, fun us w hE he => ?_⟩
  have hus : ∃ u, us = [u] := by
    cases e with
    | num p n => obtain ⟨b, hb, _⟩ := he; exact ⟨_, hb⟩
    | var p m n => obtain ⟨b, hb, _⟩ := he; exact ⟨_, hb⟩
    | item p m n i => obtain ⟨b, _, hb, _⟩ := he; exact ⟨_, hb⟩
    | un p op x => obtain ⟨b, _, hb, _⟩ := he; exact ⟨_, hb⟩
    | bin p op x y => obtain ⟨b, _, _, hb, _⟩ := he; exact ⟨_, hb⟩
    | app p m n l => obtain ⟨b, _, _, _, hb, _⟩ := he; exact ⟨_, hb⟩
    | nil => exact hx.elim
    | cons _ _ => exact hx.elim
  obtain ⟨u, rfl⟩ := hus
  refine ⟨[exprL c e], ⟨_, _, rfl, ?_, rfl⟩, by simp [orL], ?_⟩
  · obtain ⟨b, hb, _⟩ := h u w hE he
    subst hb
    refine .inr ⟨b, rfl, fun w' hc => ?_⟩
    obtain ⟨b', hb', hcall⟩ := h (ptr b) w' (hE.kept hc (by simp)) (he.kept hc (by simp))
    cases hb'
    exact hcall
  · cases e <;> first | rfl | exact hx.elim
theorem expr_all (c : Env) (F : Nat → Prop) (bc : Nat) (e : E) : FewE e → ExOf c F bc e := by
  induction e with
  | num p n =>
    refine fun _ => ExOf.one trivial fun u w hE he => ?_
    obtain ⟨b, hb, _, hblk⟩ := he
    cases hb
    exact ⟨b, rfl, expr_n1 bc b p (.int .i64 n) (str []) none none [] [] none 0 [] [none, none] w hblk (fun h => by simp at h) (by simp) ⟨_, _, rfl, kid_nil bc w, _, _, rfl, kid_nil bc w, rfl⟩⟩
  | var p m n =>
    refine fun _ => ExOf.one trivial fun u w hE he => ?_
    obtain ⟨b, hb, _, hblk⟩ := he
    cases hb
    have := expr_n2 c F bc b p (.int .i64 0) (str []) none none m n none 0 [] [none, none] w hblk (fun h => by simp at h) (by simp) ⟨_, _, rfl, kid_nil bc w, _, _, rfl, kid_nil bc w, rfl⟩ hE
    refine ⟨b, rfl, ?_⟩
    simpa [orL, exprL] using this
  | item p m n i ih =>
    refine fun hf => ExOf.one trivial fun u w hE he => ?_
    obtain ⟨b, v, hb, _, hblk, hi⟩ := he
    cases hb
    obtain ⟨bi, rfl, hkid⟩ := (ih hf).kid hE hi
    have := expr_n3 c F bc b p (.int .i64 0) (str []) (some ⟨bi, 0, none⟩) none m n none 0 [] [exprL c i, none] w hblk (fun h => by simp at h) (by simp) ⟨_, _, rfl, hkid, _, _, rfl, kid_nil bc w, rfl⟩ hE
    refine ⟨b, rfl, ?_⟩
    simpa [orL, exprL] using this
  | un p op x ih =>
    refine fun hf => ExOf.one trivial fun u w hE he => ?_
    obtain ⟨b, v, hb, _, hblk, hi⟩ := he
    cases hb
    obtain ⟨bi, rfl, hkid⟩ := (ih hf).kid hE hi
    have := expr_n4 bc b p (.int .i64 0) (str op) (some ⟨bi, 0, none⟩) none [] [] none 0 [] [exprL c x, none] w hblk (fun h => by simp at h) (by simp) ⟨_, _, rfl, hkid, _, _, rfl, kid_nil bc w, rfl⟩
    refine ⟨b, rfl, ?_⟩
    simpa [orL, exprL] using this
  | bin p op x y ih1 ih2 =>
    refine fun hf => ExOf.one trivial fun u w hE he => ?_
    obtain ⟨b, v, v2, hb, _, hblk, hi, hj⟩ := he
    cases hb
    obtain ⟨bi, rfl, hkid⟩ := (ih1 hf.1).kid hE hi
    obtain ⟨bj, rfl, hkjd⟩ := (ih2 hf.2).kid hE hj
    have := expr_n5 bc b p (.int .i64 0) (str op) (some ⟨bi, 0, none⟩) (some ⟨bj, 0, none⟩) [] [] none 0 [] [exprL c x, exprL c y] w hblk (fun h => by simp at h) (by simp) ⟨_, _, rfl, hkid, _, _, rfl, hkjd, rfl⟩
    refine ⟨b, rfl, ?_⟩
    simpa [orL, exprL] using this
  | app p m n l ih =>
    refine fun hf => ExOf.one trivial fun u w hE he => ?_
    obtain ⟨b, a, k, vs, hb, _, hblk, _, hrow, hl⟩ := he
    cases hb
    obtain ⟨rs, hks, hor, hlen⟩ := (ih hf.2).2 vs w hE hl
    have hfa := hf.1
    have := expr_n6 c F bc b p (.int .i64 0) (str []) none none m n a k vs (none :: none :: rs) w hblk hrow.at_ (by omega) ⟨_, _, rfl, kid_nil bc w, _, _, rfl, kid_nil bc w, hks⟩ hE
    refine ⟨b, rfl, ?_⟩
    rw [orL_cons, orL_cons, Option.none_or, Option.none_or, hor, hlen] at this
    exact this
  | nil => exact fun _ => ⟨fun u w _ he => (by cases (show [u] = [] from he)), fun us w _ he => ⟨[], by rw [show us = [] from he]; rfl, rfl, by rw [show us = [] from he]; rfl⟩⟩
  | cons x r ih1 ih2 =>
    refine fun hf => ⟨fun u w hE he => ?_, fun us w hE he => ?_⟩
    · obtain ⟨v, vs, hv, h1, h2⟩ := he
      simp only [List.cons.injEq] at hv
      obtain ⟨rfl, rfl⟩ := hv
      obtain ⟨rs, hks, hor, _⟩ := (ih2 hf.2).2 [] w hE h2
      have hrs : rs = [] := hks
      subst hrs
      obtain ⟨b, hb, hcall⟩ := (ih1 hf.1).1 u w hE h1
      refine ⟨b, hb, ?_⟩
      rw [exprL, ← hor, show orL [] = none from rfl, Option.or_none]
      exact hcall
    · obtain ⟨v, vs, rfl, h1, h2⟩ := he
      obtain ⟨rs, hks, hor, hlen⟩ := (ih2 hf.2).2 vs w hE h2
      obtain ⟨b, rfl, hkid⟩ := (ih1 hf.1).kid hE h1
      exact ⟨exprL c x :: rs, ⟨_, _, rfl, hkid, hks⟩, by rw [orL_cons, hor, exprL], by simp [argsN, hlen]⟩
end Go.Proofs.YtoeblajmelbbmaaGreatDoor
