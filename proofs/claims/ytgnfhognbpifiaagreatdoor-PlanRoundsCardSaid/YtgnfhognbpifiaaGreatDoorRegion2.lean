/- Region, second part: which operations yield the same in every world; the steps of a walk through a drawn region in the order of its text. No program is named here. -/
import Derived.Test.YtgnfhognbpifiaaGreatDoorRegion
namespace Go.Mq
open Go Go.RowKit

section
variable {P : Program}

/-- s halts, or yields the same in whatever world, and leaves it. -/
def Still (P : Program) {α : Type} (s : Sem α) : Prop := ∀ w a w1, s.run P w = .ok a w1 → w1 = w ∧ ∀ w', s.run P w' = .ok a w'
/-- s never yields. -/
def Never (P : Program) {α : Type} (s : Sem α) : Prop := ∀ w a w1, s.run P w ≠ .ok a w1

theorem Never.still {α : Type} {s : Sem α} (h : Never P s) : Still P s := fun w a w1 hr => absurd hr (h w a w1)
theorem Still.pure {α : Type} (a : α) : Still P (pure a : Sem α) := fun w b w1 h => by cases h; exact ⟨rfl, fun _ => rfl⟩
theorem Still.bind {α β : Type} {s : Sem α} {k : α → Sem β} (hs : Still P s) (hk : ∀ a, Still P (k a)) : Still P (s >>= k) := fun w b w1 h => by
  rw [Sem.run_bind] at h
  cases hr : s.run P w with
  | halt x w2 => rw [hr] at h; simp at h
  | ok a w2 =>
    rw [hr] at h
    simp only [Result.andThen_ok] at h
    obtain ⟨rfl, h2⟩ := hs w a w2 hr
    obtain ⟨h3, h4⟩ := hk a _ b w1 h
    exact ⟨h3, fun w' => by rw [Sem.run_bind, h2 w', Result.andThen_ok]; exact h4 w'⟩
theorem Never.bindR {α β : Type} {s : Sem α} {k : α → Sem β} (hk : ∀ a, Never P (k a)) : Never P (s >>= k) := fun w b w1 h => by
  rw [Sem.run_bind] at h
  cases hr : s.run P w with
  | halt x w2 => rw [hr] at h; simp at h
  | ok a w2 => rw [hr] at h; exact hk a w2 b w1 h
theorem Never.bindL {α β : Type} {s : Sem α} {k : α → Sem β} (hs : Never P s) : Never P (s >>= k) := fun w b w1 h => by
  rw [Sem.run_bind] at h
  cases hr : s.run P w with
  | halt x w2 => rw [hr] at h; simp at h
  | ok a w2 => exact hs w a w2 hr
theorem Never.halt {α : Type} (x : Halt) : Never P (Sem.halt x : Sem α) := fun w a w1 h => by simp [Sem.run] at h
theorem Never.stuck {α : Type} (x : String) : Never P (stuck x : Sem α) := Never.halt _
theorem Never.unsupported {α : Type} (x : Unsupported) : Never P (unsupported x : Sem α) := Never.halt _
theorem Never.goPanic {α : Type} (x : Value) : Never P (goPanic x : Sem α) := Never.halt _
theorem Never.ite {α : Type} {c : Prop} [Decidable c] {x y : Sem α} (hx : Never P x) (hy : Never P y) : Never P (if c then x else y) := by split <;> assumption
theorem Still.ite {α : Type} {c : Prop} [Decidable c] {x y : Sem α} (hx : Still P x) (hy : Still P y) : Still P (if c then x else y) := by split <;> assumption
theorem Still.program : Still P program := fun w a w1 h => by
  simp at h; obtain ⟨rfl, rfl⟩ := h; exact ⟨rfl, fun _ => rfl⟩
theorem never_panic {α : Type} (e : RuntimeError) : Never P (runtimePanic e : Sem α) := by
  unfold runtimePanic
  refine Never.bindR fun p => ?_
  cases e with
  | typeAssertion i c a m => exact Never.bindR fun _ => Never.bindR fun _ => Never.goPanic _
  | panicNil => exact Never.bindR fun _ => Never.bindR fun _ => Never.goPanic _
  | _ => exact Never.goPanic _
theorem never_bounds {α : Type} (k : IntKind) (x y : Int) (c : BoundsCode) : Never P (boundsPanic k x y c : Sem α) := by
  unfold boundsPanic
  dsimp only
  split
  · exact Never.bindR fun _ => never_panic _
  · exact Never.bindR fun _ => never_panic _
theorem still_typeInfo (t : TypeId) : Still P (typeInfo t) := by
  unfold typeInfo
  refine Still.program.bind fun p => ?_
  split
  · exact Still.pure _
  · exact (Never.stuck _).still
theorem still_underlying (t : TypeId) : Still P (underlying t) := by
  unfold underlying
  refine Still.program.bind fun p => ?_
  split
  · exact Still.pure _
  · exact (Never.stuck _).still
theorem still_zero (t : TypeId) : Still P (zeroValue t) := by
  unfold zeroValue
  refine (still_typeInfo t).bind fun p => ?_
  split
  · exact Still.pure _
  · exact (Never.unsupported _).still
theorem still_sizeOf (t : TypeId) : Still P (sizeOf t) := (still_typeInfo t).bind fun _ => Still.pure _
theorem still_isAgg (t : TypeId) : Still P (isAgg t) := by
  unfold isAgg
  refine (still_underlying t).bind fun d => ?_
  split <;> exact Still.pure _
theorem still_part (t : TypeId) (cs : Array Value) (off : Nat) : Still P (part t cs off) := by
  unfold part
  refine (still_isAgg t).bind fun b => ?_
  split
  · exact (still_sizeOf t).bind fun _ => Still.pure _
  · split
    · exact Still.pure _
    · exact (Never.stuck _).still
theorem still_sure (v : Value) : Still P (Instr.sureAddr v) := by
  unfold Instr.sureAddr
  split
  · exact Still.pure _
  · exact (Never.stuck _).still
theorem still_asAddr (v : Value) : Still P (asAddr v) := by
  unfold asAddr
  split
  · exact Still.pure _
  · exact (never_panic _).still
  · exact (Never.stuck _).still
theorem still_asIntOf (v : Value) : Still P (asIntOf v) := by
  unfold asIntOf
  split
  · exact Still.pure _
  · exact (Never.unsupported _).still
  · exact (Never.stuck _).still
theorem still_asInt (v : Value) : Still P (asInt v) := (still_asIntOf v).bind fun _ => Still.pure _
theorem still_asBool (v : Value) : Still P (asBool v) := by
  unfold asBool
  split
  · exact Still.pure _
  · exact (Never.stuck _).still
theorem still_asAgg (v : Value) : Still P (asAgg v) := by
  unfold asAgg
  split
  · exact Still.pure _
  · exact (Never.stuck _).still
theorem still_bound (x : Value) (y : Nat) (c : BoundsCode) : Still P (Instr.sliceBound x y c) := by
  unfold Instr.sliceBound
  refine (still_asIntOf x).bind fun ⟨k, i⟩ => ?_
  dsimp only
  split
  · exact Still.pure _
  · exact (never_bounds _ _ _ _).still
theorem still_bounds (b : Bool) (len cap : Nat) (lo hi mx : Option Value) : Still P (Instr.sliceBounds b len cap lo hi mx) := by
  unfold Instr.sliceBounds
  dsimp only
  cases mx <;> cases hi <;> cases lo <;> dsimp only
  all_goals repeat' (first | exact Still.pure _ | exact (Never.stuck _).still | exact (Never.unsupported _).still | exact (never_panic _).still | exact (never_bounds _ _ _ _).still | exact still_bound _ _ _ | exact still_bounds _ _ _ _ _ _ | exact still_sure _ | exact still_asAddr _ | exact still_underlying _ | exact still_sizeOf _ | exact still_part _ _ _ | (refine Still.bind ?_ (fun _ => ?_)) | (dsimp only; done) | split)
theorem still_slice (t : TypeId) (x : Value) (lo hi mx : Option Value) : Still P (Instr.slice t x lo hi mx) := by
  unfold Instr.slice
  dsimp only
  repeat' (first | exact Still.pure _ | exact (Never.stuck _).still | exact (Never.unsupported _).still | exact (never_panic _).still | exact (never_bounds _ _ _ _).still | exact still_bound _ _ _ | exact still_bounds _ _ _ _ _ _ | exact still_sure _ | exact still_asAddr _ | exact still_underlying _ | exact still_sizeOf _ | exact still_part _ _ _ | (refine Still.bind ?_ (fun _ => ?_)) | (dsimp only; done) | split)
theorem still_sliceAt (t : TypeId) (x : Value) (lo hi mx : Option Value) : Still P (Instr.sliceAt t x lo hi mx) := by
  unfold Instr.sliceAt
  refine (still_underlying t).bind fun d => ?_
  split
  · exact (still_sure _).bind fun _ => (still_bounds _ _ _ _ _ _).bind fun _ => (still_sizeOf _).bind fun _ => Still.pure _
  · exact still_slice _ _ _ _ _
theorem still_index (t : TypeId) (x i : Value) : Still P (Instr.index t x i) := by
  unfold Instr.index
  refine (still_asIntOf i).bind fun ⟨k, i⟩ => ?_
  dsimp only
  refine (still_underlying t).bind fun d => ?_
  split
  · split
    · exact (still_sizeOf _).bind fun _ => still_part _ _ _
    · exact (never_bounds _ _ _ _).still
  · split
    · exact Still.pure _
    · exact (never_bounds _ _ _ _).still
  · exact (Never.stuck _).still
theorem still_indexAt (t : TypeId) (x i : Value) : Still P (Instr.indexAt t x i) := by
  unfold Instr.indexAt
  refine (still_asIntOf i).bind fun ki => ?_
  dsimp only
  repeat' (first | exact Still.pure _ | exact (Never.stuck _).still | exact (Never.unsupported _).still | exact (never_panic _).still | exact (never_bounds _ _ _ _).still | exact still_bound _ _ _ | exact still_bounds _ _ _ _ _ _ | exact still_sure _ | exact still_asAddr _ | exact still_underlying _ | exact still_sizeOf _ | exact still_part _ _ _ | (refine Still.bind ?_ (fun _ => ?_)) | (dsimp only; done) | split)
theorem still_field (t : TypeId) (x : Value) (f : Nat) : Still P (Instr.field t x f) := by
  unfold Instr.field
  refine (still_underlying t).bind fun d => ?_
  split
  · split
    · exact (still_asAgg _).bind fun _ => still_part _ _ _
    · exact (Never.stuck _).still
  · exact (Never.stuck _).still
theorem still_extract (x : Value) (i : Nat) : Still P (Instr.extract x i) := by
  unfold Instr.extract
  split
  · split
    · exact Still.pure _
    · exact (Never.stuck _).still
  · exact (Never.stuck _).still
theorem still_iface (t : TypeId) (x : Value) : Still P (Instr.makeInterface t x) := by
  unfold Instr.makeInterface
  refine (still_underlying t).bind fun d => ?_
  split
  · exact (Never.stuck _).still
  · exact Still.pure _

/-- The field that an address is taken of has a size (P's table says so); a number is turned into a number. -/
def opFit (P : Program) (o : Oper) : Bool :=
  match o.op with
  | .fieldAddr s _ f => match P.underlying s with
    | some (.struct fields) => match fields[f]? with
      | some x => match P.info? x.type with
        | some i => i.size != 0
        | none => false
      | none => false
    | _ => false
  | .convert _ d _ => match P.underlying d with
    | some (.int _) => true
    | _ => false
  | .build t _ => match P.underlying t with
    | some (.struct _) => true
    | _ => false
  | _ => true

theorem still_fieldAt {s : TypeId} {x : Value} {f : Nat} {dst : Option Tmp} {y : Operand} {t : TypeId} {p : String} {af : Array Edge} {g : Option (Nat × Bool)}
    (h : opFit P ⟨dst, .fieldAddr s y f, t, p, af, g⟩ = true) : Still P (Instr.fieldAt s x f) := by
  simp only [opFit] at h
  unfold Instr.fieldAt
  intro w a w1 hr
  cases hu : P.underlying s with
  | none => rw [hu] at h; simp at h
  | some d =>
    rw [hu] at h
    cases d <;> simp only [Bool.false_eq_true] at h
    rename_i fields
    have e : (underlying s : Sem TypeDesc) >>= (fun __discr => match __discr with
        | .struct fields => (match fields[f]? with
          | some f => do let a ← Instr.sureAddr x; let __do_lift ← fieldPlace a f; pure (Value.pointer (some __do_lift))
          | x => stuck "fieldAddr: no such field")
        | x => stuck "fieldAddr: struct type expected") = Instr.fieldAt s x f := rfl
    have hrun : ∀ w', (Instr.fieldAt s x f).run P w' = ((match fields[f]? with
          | some f => do let a ← Instr.sureAddr x; let __do_lift ← fieldPlace a f; pure (Value.pointer (some __do_lift))
          | x => stuck "fieldAddr: no such field") : Sem Value).run P w' := fun w' => by
      rw [← e, Sem.run_bind, run_underlying hu, Result.andThen_ok]
    have e2 : (do let __do_lift ← underlying s; match __do_lift with
        | .struct fields => (match fields[f]? with
          | some f => do let a ← Instr.sureAddr x; let __do_lift ← fieldPlace a f; pure (Value.pointer (some __do_lift))
          | x => stuck "fieldAddr: no such field")
        | x => stuck "fieldAddr: struct type expected") = Instr.fieldAt s x f := rfl
    have hs : Still P ((match fields[f]? with
          | some f => do let a ← Instr.sureAddr x; let __do_lift ← fieldPlace a f; pure (Value.pointer (some __do_lift))
          | x => stuck "fieldAddr: no such field") : Sem Value) := by
      split
      · rename_i fd hf
        rw [hf] at h
        simp only at h
        refine (still_sure x).bind fun a => Still.bind ?_ fun _ => Still.pure _
        unfold fieldPlace
        intro w a' w1 hr
        cases hi : P.info? fd.type with
        | none => rw [hi] at h; simp at h
        | some i =>
          rw [hi] at h
          have h0 : i.size ≠ 0 := by simpa using h
          have hrun2 : ∀ w', (do if (← sizeOf fd.type) = 0 then partAt a fd.offset fd.byteOffset else pure (a.add fd.offset) : Sem Addr).run P w' = .ok (a.add fd.offset) w' := fun w' => by
            simp [sizeOf, typeInfo, hi, h0]
          rw [hrun2] at hr
          cases hr
          exact ⟨rfl, hrun2⟩
      · exact (Never.stuck _).still
    change (Instr.fieldAt s x f).run P w = _ at hr
    rw [hrun] at hr
    obtain ⟨h1, h2⟩ := hs w a w1 hr
    refine ⟨h1, fun w' => ?_⟩
    change (Instr.fieldAt s x f).run P w' = _
    rw [hrun]; exact h2 w'
end
end Go.Mq
