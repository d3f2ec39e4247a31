/- Region, third part: the steps of a walk through a drawn region in the order of its text. No program is named here. -/
import Derived.Test.YtgnfhognbpifiaaGreatDoorRegion2
namespace Go.Mq
open Go Go.RowKit

section
variable {P : Program}

theorem run_eql_still {op : BinOp} (t : TypeId) (x y : Value) (h : (match x, y with
    | .bool _, .bool _ | .pointer none, .pointer _ | .pointer (some _), .pointer none | .nilIface, .iface _ _ | .iface _ _, .nilIface | .nilIface, .nilIface => true
    | _, _ => false) = true) (_hop : op = .eql ∨ op = .neq) : Still P (Op.equal t x y) := by
  unfold Op.equal Op.maxDepth
  show Still P (Op.equalIn (9999 + 1) t x y)
  unfold Op.equalIn
  refine (still_underlying t).bind fun d => ?_
  cases x <;> cases y <;> simp only [Bool.false_eq_true] at h
  case bool.bool => cases d <;> first | exact Still.pure _ | exact (Never.stuck _).still
  case pointer.pointer a b =>
    cases a <;> cases b <;> simp only [Bool.false_eq_true] at h
    all_goals (cases d <;> first | exact Still.pure _ | exact (Never.stuck _).still | exact (Never.unsupported _).still)
  case nilIface.iface => cases d <;> first | exact Still.pure _ | exact (Never.stuck _).still
  case iface.nilIface => cases d <;> first | exact Still.pure _ | exact (Never.stuck _).still
  case nilIface.nilIface => cases d <;> first | exact Still.pure _ | exact (Never.stuck _).still

/-- Which operations yield the same in every world, by their kind and by the values that they look at. -/
def stillK (ρ : Operand → Value) (o : Oper) : Bool :=
  match o.op with
  | .move _ | .assign _ | .pick .. | .build .. | .makeInterface .. | .makeFunc .. | .fieldAddr .. | .field .. | .extract .. | .slice .. | .indexAddr .. | .index .. => true
  | .nilCheck x => match ρ x with
    | .pointer _ | .iface _ _ | .nilIface | .nilFunc | .func (.func _) _ _ => true
    | _ => false
  | .unOp _ _ x => match ρ x with
    | .int _ _ | .bool _ => true
    | _ => false
  | .convert _ _ x => match ρ x with
    | .int _ _ => true
    | _ => false
  | .binOp op _ x y _ => match ρ x, ρ y with
    | .int _ _, .int _ _ | .string _, .string _ => true
    | .bool _, .bool _ | .pointer none, .pointer _ | .pointer (some _), .pointer none => op == .eql || op == .neq
    | .nilIface, .iface _ _ | .iface _ _, .nilIface => op == .eql || op == .neq
    | _, _ => false
  | .call c => match c.callee, c.args.toList with
    | .builtin .len, [x] | .builtin .cap, [x] => match ρ x with
      | .slice _ _ _ | .string _ => true
      | _ => false
    | .builtin .min, [x, y] => match ρ x, ρ y with
      | .int _ _, .int _ _ => true
      | _, _ => false
    | _, _ => false
  | _ => false

/-- An operation that yields does so in every world alike. -/
def StillV (P : Program) (s : Sem Next) : Prop := ∀ w n w1, s.run P w = .ok n w1 → ∃ v, n = .value v ∧ w1 = w ∧ ∀ w', s.run P w' = .ok (.value v) w'
theorem StillV.of {s : Sem Value} (h : Still P s) : StillV P (do pure (.value (← s))) := fun w n w1 hr => by
  rw [Sem.run_bind] at hr
  cases hs : s.run P w with
  | halt x w2 => rw [hs] at hr; simp at hr
  | ok v w2 =>
    rw [hs] at hr
    simp at hr
    obtain ⟨rfl, rfl⟩ := hr
    obtain ⟨h1, h2⟩ := h w v _ hs
    exact ⟨v, rfl, h1, fun w' => by rw [Sem.run_bind, h2 w']; simp⟩
theorem StillV.val (v : Value) : StillV P (pure (.value v)) := fun w n w1 hr => by
  simp at hr; obtain ⟨rfl, rfl⟩ := hr; exact ⟨v, rfl, rfl, fun _ => rfl⟩
theorem StillV.never {s : Sem Next} (h : Never P s) : StillV P s := fun w n w1 hr => absurd hr (h w n w1)

theorem still_build {t : TypeId} {parts : Array (Nat × Value)} {dst : Option Tmp} {q : Array (Nat × Operand)} {ty : TypeId} {p : String} {af : Array Edge} {g : Option (Nat × Bool)}
    (h : opFit P ⟨dst, .build t q, ty, p, af, g⟩ = true) : Still P (Instr.build t parts) := by
  simp only [opFit] at h
  unfold Instr.build
  refine (still_zero t).bind fun z => ?_
  intro w a w1 hr
  cases hu : P.underlying t with
  | none => rw [hu] at h; simp at h
  | some d =>
    rw [hu] at h
    cases d <;> simp only [Bool.false_eq_true] at h
    rename_i fields
    rw [Sem.run_bind, run_underlying hu, Result.andThen_ok] at hr
    have hm : ∀ (l : List Field), Still P (l.mapM (fun f => do pure (f.offset, ← sizeOf f.type)) : Sem (List (Nat × Nat))) := by
      intro l
      induction l with
      | nil => exact Still.pure _
      | cons x l ih =>
        rw [List.mapM_cons]
        exact ((still_sizeOf _).bind fun _ => Still.pure _).bind fun _ => ih.bind fun _ => Still.pure _
    have hs : Still P (do let places ← fields.mapM fun f => do pure (f.offset, ← sizeOf f.type)
                          let some cells := Instr.fill (places[·]?) z.cells parts.toList | stuck "build: no such field, or a part of the wrong size"
                          pure (Value.agg cells) : Sem Value) := by
      refine Still.bind ?_ fun places => ?_
      · rw [Array.mapM_eq_mapM_toList]
        have := hm fields.toList
        intro w a w1 hr
        rw [Sem.run_map] at hr
        cases hl : (fields.toList.mapM (fun f => do pure (f.offset, ← sizeOf f.type)) : Sem (List (Nat × Nat))).run P w with
        | halt x w2 => rw [hl] at hr; simp at hr
        | ok l w2 =>
          rw [hl] at hr
          simp at hr
          obtain ⟨rfl, rfl⟩ := hr
          obtain ⟨h1, h2⟩ := this w l _ hl
          exact ⟨h1, fun w' => by rw [Sem.run_map, h2 w']; simp⟩
      · split
        · exact Still.pure _
        · exact (Never.stuck _).still
    obtain ⟨h1, h2⟩ := hs w a w1 hr
    exact ⟨h1, fun w' => by rw [Sem.run_bind, run_underlying hu, Result.andThen_ok]; exact h2 w'⟩

theorem still_conv {s d : TypeId} {k : IntKind} {n : Int} {dst : Option Tmp} {y : Operand} {ty : TypeId} {p : String} {af : Array Edge} {g : Option (Nat × Bool)}
    (h : opFit P ⟨dst, .convert s d y, ty, p, af, g⟩ = true) : Still P (convert s d (.int k n)) := by
  simp only [opFit] at h
  unfold convert
  refine (still_underlying s).bind fun ds => ?_
  intro w a w1 hr
  cases hu : P.underlying d with
  | none => rw [hu] at h; simp at h
  | some dd =>
    rw [hu] at h
    cases dd <;> simp only [Bool.false_eq_true] at h
    rename_i k2
    rw [Sem.run_bind, run_underlying hu, Result.andThen_ok] at hr
    have hr' : (Conv.intToInt k2 n).run P w = .ok a w1 := hr
    simp [Conv.intToInt] at hr'
    obtain ⟨rfl, rfl⟩ := hr'
    exact ⟨rfl, fun w' => by rw [Sem.run_bind, run_underlying hu, Result.andThen_ok]; rfl⟩

theorem still_binInt (op : BinOp) (t : TypeId) (j k : IntKind) (a b : Int) : Still P (binOp op t (.int j a) (.int k b)) := by
  cases op <;> simp only [binOp, Op.shift, Op.intArith, Op.intDiv, Op.intBits, Op.intCmp] <;>
    repeat' (first | exact Still.pure _ | exact (Never.stuck _).still | exact (never_panic _).still | split)
theorem still_binStr (op : BinOp) (t : TypeId) (a b : ByteArray) : Still P (binOp op t (.string a) (.string b)) := by
  cases op <;> simp only [binOp, Op.stringOp] <;>
    repeat' (first | exact Still.pure _ | exact (Never.stuck _).still | exact (Never.unsupported _).still | split)

theorem still_len (tys : Array TypeId) (ty : TypeId) (v : Value) (h : (match v with | .slice _ _ _ | .string _ => true | _ => false) = true) : Still P (Builtin.len_ tys ty #[v]) := by
  unfold Builtin.len_
  cases ht : tys[0]? with
  | none => simp only; exact (Never.stuck _).still
  | some t =>
    simp only [List.getElem?_toArray, List.getElem?_cons_zero]
    refine (still_underlying t).bind fun d => ?_
    cases v <;> (try simp only [Bool.false_eq_true] at h)
    all_goals (cases d <;> repeat' (first | exact Still.pure _ | exact (Never.stuck _).still | (refine (still_underlying _).bind fun d => ?_) | split))
theorem still_cap (tys : Array TypeId) (ty : TypeId) (v : Value) (h : (match v with | .slice _ _ _ | .string _ => true | _ => false) = true) : Still P (Builtin.cap_ tys ty #[v]) := by
  unfold Builtin.cap_
  cases ht : tys[0]? with
  | none => simp only; exact (Never.stuck _).still
  | some t =>
    simp only [List.getElem?_toArray, List.getElem?_cons_zero]
    refine (still_underlying t).bind fun d => ?_
    cases v <;> (try simp only [Bool.false_eq_true] at h)
    all_goals (cases d <;> repeat' (first | exact Still.pure _ | exact (Never.stuck _).still | (refine (still_underlying _).bind fun d => ?_) | split))
theorem still_min (tys : Array TypeId) (ty : TypeId) (j k : IntKind) (m n : Int) : Still P (Builtin.min_ tys ty #[.int j m, .int k n]) := by
  have e : (Builtin.min_ tys ty #[.int j m, .int k n] : Sem Value) = pure (.int j (if n < m then n else m)) := by
    simp [Builtin.min_, Builtin.min2]
  rw [e]
  exact Still.pure _

theorem stillK_sound {ρ : Operand → Value} {o : Oper} (h : stillK ρ o = true) (hf : opFit P o = true) : StillV P (execOp ρ o) := by
  obtain ⟨dst, op, ty, p, af, g⟩ := o
  cases op <;> simp only [stillK, Bool.false_eq_true] at h <;> simp only [execOp]
  case move => exact StillV.val _
  case assign => exact StillV.val _
  case pick c a b => 
    have e := StillV.of (P := P) (s := do pure (if ← asBool (ρ c) then ρ a else ρ b)) ((still_asBool _).bind fun _ => Still.pure _)
    simpa using e
  case build t q => exact StillV.of (still_build hf)
  case makeInterface => exact StillV.of (still_iface _ _)
  case makeFunc => exact StillV.of (Still.pure _)
  case fieldAddr => exact StillV.of (still_fieldAt hf)
  case field => exact StillV.of (still_field _ _ _)
  case extract => exact StillV.of (still_extract _ _)
  case slice => exact StillV.of (still_sliceAt _ _ _ _ _)
  case indexAddr => exact StillV.of (still_indexAt _ _ _)
  case index => exact StillV.of (still_index _ _ _)
  case nilCheck x =>
    generalize ρ x = v at h ⊢
    cases v <;> (try simp only [Bool.false_eq_true] at h)
    case pointer a => cases a <;> first | exact StillV.val _ | exact StillV.never (never_panic _)
    case iface => exact StillV.val _
    case nilIface => exact StillV.never (never_panic _)
    case nilFunc => exact StillV.never (never_panic _)
    case func fn _ _ => cases fn <;> first | exact StillV.val _ | (simp only [Bool.false_eq_true] at h)
  case unOp uo t x =>
    generalize ρ x = v at h ⊢
    refine StillV.of ?_
    cases v <;> simp only [Bool.false_eq_true] at h
    case bool b => cases uo <;> simp only [Op.unary] <;> first | exact Still.pure _ | exact (Never.stuck _).still
    case int k n => cases uo <;> simp only [Op.unary, Op.intArith, Op.intBits] <;> first | exact Still.pure _ | exact (Never.stuck _).still
  case convert s d x =>
    generalize hv : ρ x = v at h ⊢
    cases v <;> simp only [Bool.false_eq_true] at h
    exact StillV.of (still_conv hf)
  case binOp op t x y t2 =>
    refine StillV.of (s := do eqGuard op t x y (ρ x) (ρ y); binOp op t (ρ x) (ρ y)) ?_
    generalize ρ x = a at h ⊢
    generalize ρ y = b at h ⊢
    have eqp : (op == .eql || op == .neq) = true → op = .eql ∨ op = .neq := fun h => by simpa using h
    cases a <;> cases b <;> (try simp only [Bool.false_eq_true] at h)
    case int.int => exact Still.bind (by unfold eqGuard; dsimp only; repeat' (first | exact Still.pure _ | split)) fun _ => still_binInt _ _ _ _ _ _
    case string.string => exact Still.bind (by unfold eqGuard; dsimp only; repeat' (first | exact Still.pure _ | split)) fun _ => still_binStr _ _ _ _
    case bool.bool u v =>
      refine Still.bind (by unfold eqGuard; dsimp only; repeat' (first | exact Still.pure _ | split)) fun _ => ?_
      rcases eqp h with rfl | rfl
      · exact (run_eql_still (op := .eql) _ _ _ rfl (.inl rfl)).bind fun _ => Still.pure _
      · exact (run_eql_still (op := .neq) _ _ _ rfl (.inr rfl)).bind fun _ => Still.pure _
    case pointer.pointer u v =>
      refine Still.bind (by unfold eqGuard; dsimp only; repeat' (first | exact Still.pure _ | split)) fun _ => ?_
      cases u <;> cases v <;> (try simp only [Bool.false_eq_true] at h)
      all_goals
        rcases eqp h with rfl | rfl
        · exact (run_eql_still (op := .eql) _ _ _ rfl (.inl rfl)).bind fun _ => Still.pure _
        · exact (run_eql_still (op := .neq) _ _ _ rfl (.inr rfl)).bind fun _ => Still.pure _
    case iface.nilIface =>
      refine Still.bind (by unfold eqGuard; dsimp only; repeat' (first | exact Still.pure _ | split)) fun _ => ?_
      rcases eqp h with rfl | rfl
      · exact (run_eql_still (op := .eql) _ _ _ rfl (.inl rfl)).bind fun _ => Still.pure _
      · exact (run_eql_still (op := .neq) _ _ _ rfl (.inr rfl)).bind fun _ => Still.pure _
    case nilIface.iface =>
      refine Still.bind (by unfold eqGuard; dsimp only; repeat' (first | exact Still.pure _ | split)) fun _ => ?_
      rcases eqp h with rfl | rfl
      · exact (run_eql_still (op := .eql) _ _ _ rfl (.inl rfl)).bind fun _ => Still.pure _
      · exact (run_eql_still (op := .neq) _ _ _ rfl (.inr rfl)).bind fun _ => Still.pure _
  case call c =>
    obtain ⟨callee, args, tys⟩ := c
    obtain ⟨args⟩ := args
    cases callee with
    | value f => simp at h
    | invoke r m => simp at h
    | builtin b =>
      have h' : stillK ρ ⟨dst, .call ⟨.builtin b, ⟨args⟩, tys⟩, ty, p, af, g⟩ = true := h
      clear h
      have run1 : ∀ (l : List Operand), StillV P (do let d ← resolve ρ ⟨.builtin b, ⟨l⟩, tys⟩ ty; invoke d.target d.args) ↔
          StillV P (builtin b tys ty ((l.map fun | .const _ => true | _ => false).toArray) (l.map ρ).toArray) := fun l => by
        have e : (do let d ← resolve ρ ⟨.builtin b, ⟨l⟩, tys⟩ ty; invoke d.target d.args : Sem Next) = builtin b tys ty ((l.map fun | .const _ => true | _ => false).toArray) (l.map ρ).toArray := by
          simp [resolve, invoke]
          rfl
        rw [e]
      rw [run1]
      cases args with
      | nil => cases b <;> simp [stillK] at h'
      | cons x args =>
        cases args with
        | nil =>
          cases b <;> (try (simp [stillK] at h'; done))
          case len => exact StillV.of (still_len _ _ _ (by simpa [stillK] using h'))
          case cap => exact StillV.of (still_cap _ _ _ (by simpa [stillK] using h'))
        | cons y args =>
          cases args with
          | cons z args => cases b <;> simp [stillK] at h'
          | nil =>
            cases b <;> (try (simp [stillK] at h'; done))
            case min =>
              simp only [stillK] at h'
              refine StillV.of ?_
              simp only [List.map_cons, List.map_nil]
              generalize ρ x = u at h' ⊢
              generalize ρ y = v at h' ⊢
              cases u <;> cases v <;> (try simp only [Bool.false_eq_true] at h')
              exact still_min _ _ _ _ _ _

/-! ### The walk -/
variable {ops : Array Oper} {S : World → Prop} {R : Act → World → Prop} {E : Oper → Bool}
/-- What is left of a region, in the order of its text, operation by operation. -/
def wpX (P : Program) (ops : Array Oper) (E : Oper → Bool) (S : World → Prop) (R : Act → World → Prop) : List Oper → Act → World → Prop
  | [], a, w => R a w
  | o :: rest, a, w => (∃ v, YieldsIf P ops S o v a ∧ wpX P ops E S R rest (a.put o.dst v) w) ∨
      (E o = true ∧ Region.wanted o (yielded ops a.tmps) = true ∧ o.wp P a w (fun a' w' => S w' ∧ wpX P ops E S R rest a' w') NoExit)

theorem wpXi_eq (l : List Oper) : ∀ k, (∀ j, l[j]? = ops[k + j]?) → ∀ a w, wpX P ops E S R l a w → wpXi P ops E false S R (List.range' k l.length) a w := by
  induction l with
  | nil => intro k _ a w h; exact h
  | cons o l ih =>
    intro k h a w hx
    have h0 : ops[k]? = some o := by simpa using (h 0).symm
    have ih' := ih (k + 1) (fun j => by have := h (j + 1); simpa [Nat.add_assoc, Nat.add_comm 1 j] using this)
    simp only [List.length_cons, List.range'_succ, wpXi, h0]
    rcases hx with ⟨v, h1, h2⟩ | ⟨h1, h2, h3⟩
    · exact .inl ⟨v, h1, ih' _ _ h2⟩
    · exact .inr ⟨h1, h2, Oper.wp_mono (fun a' w' h => ⟨fun _ => h.1, ih' _ _ h.2⟩) h3⟩

/-- Which operations may change the world. -/
def isEff (o : Oper) : Bool :=
  match o.op with
  | .move _ | .assign _ | .pick .. | .build .. | .makeInterface .. | .makeFunc .. | .fieldAddr .. | .field .. | .extract .. | .slice .. | .indexAddr .. | .index .. | .nilCheck _ | .unOp .. | .convert .. | .binOp .. | .load .. => false
  | .call c => match c.callee with
    | .builtin .len | .builtin .cap | .builtin .min => false
    | _ => true
  | _ => true

/-- Of each operation a mask of those for which it waits. -/
def masks : List Oper → Array Nat → Array Nat
  | [], acc => acc
  | o :: r, acc => masks r (acc.push (o.after.toList.foldl (fun s e => if Region.binds .any e then s ||| 2 ^ e.on ||| acc.getD e.on 0 else s) 0))

theorem fold_mask (acc : Array Nat) (i : Nat) (l : List Edge) : ∀ s : Nat, (l.foldl (fun s e => if Region.binds .any e then s ||| 2 ^ e.on ||| acc.getD e.on 0 else s) s).testBit i = true →
    s.testBit i = true ∨ ∃ e ∈ l, Region.binds .any e = true ∧ (e.on = i ∨ (acc.getD e.on 0).testBit i = true) := by
  induction l with
  | nil => intro s h; exact .inl h
  | cons e l ih =>
    intro s h
    rw [List.foldl_cons] at h
    rcases ih _ h with h1 | ⟨e', he', h1⟩
    · split at h1
      · rename_i hb
        rw [Nat.testBit_or, Nat.testBit_or, Nat.testBit_two_pow, Bool.or_eq_true, Bool.or_eq_true] at h1
        rcases h1 with (h1 | h1) | h1
        · exact .inl h1
        · exact .inr ⟨e, by simp, hb, .inl (by simpa using h1)⟩
        · exact .inr ⟨e, by simp, hb, .inr h1⟩
      · exact .inl h1
    · exact .inr ⟨e', by simp [he'], h1⟩

theorem masks_spec (l : List Oper) : ∀ acc : Array Nat, (∀ j, l[j]? = ops[acc.size + j]?) →
    (∀ j m i, acc[j]? = some m → m.testBit i = true → ∀ L : Nat → Prop, ClosedX ops L → L j → L i) →
    ∀ j m i, (masks l acc)[j]? = some m → m.testBit i = true → ∀ L : Nat → Prop, ClosedX ops L → L j → L i := by
  induction l with
  | nil => intro acc _ h; exact h
  | cons o l ih =>
    intro acc hl h
    have h0 : ops[acc.size]? = some o := by simpa using (hl 0).symm
    refine ih _ (fun j => by rw [Array.size_push]; have := hl (j + 1); simpa [Nat.add_assoc, Nat.add_comm 1 j] using this) ?_
    intro j m i hj hm L hL hLj
    rw [Array.getElem?_push] at hj
    split at hj
    · rename_i hjs
      subst hjs
      cases hj
      rcases fold_mask acc i _ _ hm with h1 | ⟨e, he, hb, h1⟩
      · simp at h1
      · have hLe := hL _ o h0 hLj e (by simpa using he) hb
        rcases h1 with rfl | h1
        · exact hLe
        · cases hacc : acc[e.on]? with
          | none => simp [hacc] at h1
          | some m2 =>
            have : acc.getD e.on 0 = m2 := by simp [hacc]
            rw [this] at h1
            exact h e.on m2 i hacc h1 L hL hLe
    · exact h j m i hj hm L hL hLj

/-- The look at a region's text. -/
def okXb (ops : Array Oper) : Bool :=
  let l := ops.toList.zipIdx
  let ms := masks ops.toList #[]
  let es := l.filter fun x => isEff x.1
  (l.all fun (y, j) => (match y.op with | .select .. => false | _ => true) && y.after.all (fun e => !Region.binds .any e || decide (e.on < j)) &&
    l.all fun (x, i) => !(i < j) || ((y.after.any fun e => Region.binds .any e && e.on == i) || (x.apart ops y && y.apart ops x))) &&
  es.all fun (_, j) => es.all fun (_, i) => !(i < j) || (ms.getD j 0).testBit i || es.any fun (_, k) => i < k && k < j

theorem okXb_spec (h : okXb ops = true) : OkX ops isEff := by
  have mem : ∀ {i : Nat} {x : Oper}, ops[i]? = some x → (x, i) ∈ ops.toList.zipIdx := fun {i x} hx => by
    rw [List.mem_zipIdx_iff_getElem?]; simpa using hx
  simp only [okXb, Bool.and_eq_true] at h
  obtain ⟨h, hch⟩ := h
  simp only [List.all_eq_true, Bool.and_eq_true, Prod.forall] at h hch
  refine ⟨fun j o cs b ho hsel => ?_, fun j o ho e he hb => ?_, fun i j x y hij hx hy => ?_, fun i j x y hij hx hy hEx hEy hno L hL hLj => ?_⟩
  · have := (h o j (mem ho)).1.1
    rw [hsel] at this; cases this
  · have := (h o j (mem ho)).1.2
    rw [Array.all_eq_true_iff_forall_mem] at this
    have := this e he
    simpa [hb] using this
  · have := ((h y j (mem hy)).2 x i (mem hx))
    simp only [hij, decide_true, Bool.not_true, Bool.false_or, Bool.and_eq_true, Bool.or_eq_true, Array.any_eq_true'] at this
    rcases this with ⟨e, he, h1⟩ | h1
    · exact .inl ⟨e, he, by simpa using h1.1, by simpa using h1.2⟩
    · exact .inr h1
  · have me : ∀ {k : Nat} {z : Oper}, ops[k]? = some z → isEff z = true → (z, k) ∈ (ops.toList.zipIdx.filter fun x => isEff x.1) := fun hz he => List.mem_filter.2 ⟨mem hz, he⟩
    have := hch y j (me hy hEy) x i (me hx hEx)
    simp only [hij, decide_true, Bool.not_true, Bool.false_or, Bool.or_eq_true, List.any_eq_true, Prod.exists] at this
    rcases this with h1 | ⟨z, k, hz, h1⟩
    · cases hm : (masks ops.toList #[])[j]? with
      | none => simp [hm] at h1
      | some m =>
        have e : (masks ops.toList #[]).getD j 0 = m := by simp [hm]
        rw [e] at h1
        exact masks_spec (ops := ops) ops.toList #[] (by simp) (by simp) j m i hm h1 L hL hLj
    · exfalso
      obtain ⟨hz1, hz2⟩ := List.mem_filter.1 hz
      rw [List.mem_zipIdx_iff_getElem?] at hz1
      have h1' : i < k ∧ k < j := by simpa using h1
      have := hno k z h1'.1 h1'.2 (by simpa using hz1)
      rw [this] at hz2; simp at hz2

/-- A drawn region, in the order of its text. -/
theorem wp_region_X {id : Nat} {l : List Oper} {Q : Exit → Act → World → Prop} {a : Act} {w : World} (S : World → Prop) (hm : P.follows .mixedOrders = true) (hok : okXb l.toArray = true)
    (hS : S w.drew) (h : wpX P l.toArray isEff S (fun a w => Q .normal a w) l a w.drew) : (Code.region id l.toArray true).wp P Q a w := by
  refine wp_region_any hm ?_
  have hall : leftX l.toArray (Array.replicate l.toArray.size false) = List.range l.length := by
    unfold leftX
    rw [List.size_toArray]
    apply List.filter_eq_self.2
    intro i hi
    have := List.mem_range.1 hi
    simp [this]
  refine main_X (T := false) (okXb_spec hok) (fun h => by cases h) (R := fun a w => Q .normal a w) (fun _ _ h => h) _ _ _ _ (by rw [hall]; simp) (by simp) (fun _ => hS) ?_ ?_ ?_
  · intro i j x y hij hx hy _ _ hj
    have hjl := (Array.getElem?_eq_some_iff.1 hy).1
    rw [List.size_toArray] at hjl
    simp [hjl] at hj
  · intro j y hy hj
    have hjl := (Array.getElem?_eq_some_iff.1 hy).1
    rw [List.size_toArray] at hjl
    simp [hjl] at hj
  · rw [hall]
    have := wpXi_eq (ops := l.toArray) l 0 (by simp) a w.drew h
    rwa [← List.range_eq_range'] at this

variable {a : Act} {w : World} {rest : List Oper} {o : Oper}
theorem wpX_nil (h : R a w) : wpX P ops E S R [] a w := h
theorem wpX_skip (hw : Region.wanted o (yielded ops a.tmps) = false) (h : wpX P ops E S R rest (a.put o.dst undef) w) : wpX P ops E S R (o :: rest) a w :=
  .inl ⟨undef, .inr ⟨hw, rfl⟩, h⟩
/-- An operation that yields in every world alike. -/
theorem wpX_mv (hk : stillK a.eval o = true) (hw : Region.wanted o (yielded ops a.tmps) = true) (hf : opFit P o = true)
    (h : ∀ K : Act → World → Prop, (∀ a' w', wpX P ops E S R rest a' w' → K a' w') → o.wp P a w K NoExit) : wpX P ops E S R (o :: rest) a w := by
  have h' := h _ (fun _ _ h => h)
  have hst := stillK_sound (P := P) hk hf
  unfold Oper.wp at h'
  cases hr : (execOp a.eval o).run P w with
  | halt x w1 =>
    rw [hr] at h'
    cases x <;> simp only [Oper.upon] at h'
    exact h'.elim
  | ok n w1 =>
    obtain ⟨v, rfl, rfl, hall⟩ := hst w n w1 hr
    rw [hr] at h'
    exact .inl ⟨v, .inl ⟨hw, fun w' _ => hall w'⟩, h'⟩
/-- A load out of a block of cells that is the same in every world of S. -/
theorem wpX_ld {t : TypeId} {x : Operand} (hop : o.op = .load t x) (hw : Region.wanted o (yielded ops a.tmps) = true) {p : Addr} (hp : a.eval x = .pointer (some p))
    (hS : S w) (hst : ∀ w', S w' → w'.heap[p.block]? = w.heap[p.block]? ∧ ∃ cs e f, w.heap[p.block]? = some (.cells cs e f))
    (h : ∀ K : Act → World → Prop, (∀ a' w', wpX P ops E S R rest a' w' → K a' w') → o.wp P a w K NoExit) : wpX P ops E S R (o :: rest) a w := by
  have h' := h _ (fun _ _ h => h)
  obtain ⟨dst, op, ty, ps, af, g⟩ := o
  simp only at hop
  subst hop
  -- a load of one cell, in two such worlds
  have ld : ∀ (w w' : World) (q : Addr) (v : Value) (w1 : World), q.block = p.block → w'.heap[p.block]? = w.heap[p.block]? → (∃ cs e f, w.heap[p.block]? = some (.cells cs e f)) →
      (load q).run P w = .ok v w1 → w1 = w ∧ (load q).run P w' = .ok v w' := by
    intro w w' q v w1 hq heq ⟨cs, e, f, hc⟩ hr
    have hc2 : w.cell? q = w'.cell? q := by simp [World.cell?, hq, heq]
    rw [run_load] at hr ⊢
    rw [← hc2]
    cases hcell : w.cell? q with
    | some u => rw [hcell] at hr; simp at hr ⊢; exact ⟨hr.2.symm, hr.1⟩
    | none =>
      rw [hcell] at hr
      exfalso
      simp [World.farLoad, hq, hc] at hr
  have lds : ∀ (n i : Nat) (acc : Array Value) (w w' : World) (v : Array Value) (w1 : World), w'.heap[p.block]? = w.heap[p.block]? → (∃ cs e f, w.heap[p.block]? = some (.cells cs e f)) →
      (loadCellsFrom p i n acc).run P w = .ok v w1 → w1 = w ∧ (loadCellsFrom p i n acc).run P w' = .ok v w' := by
    intro n
    induction n with
    | zero => intro i acc w w' v w1 _ _ hr; simp [loadCellsFrom] at hr ⊢; exact ⟨hr.2.symm, hr.1⟩
    | succ n ih =>
      intro i acc w w' v w1 heq hc hr
      simp only [loadCellsFrom, Sem.run_bind] at hr ⊢
      cases hl : (load (p.add i)).run P w with
      | halt x w2 => rw [hl] at hr; simp at hr
      | ok u w2 =>
        rw [hl] at hr
        have hb : (p.add i).block = p.block := by unfold Addr.add; split <;> rfl
        obtain ⟨rfl, h2⟩ := ld w w' _ u w2 hb heq hc hl
        rw [h2]
        simp only [Result.andThen_ok] at hr ⊢
        exact ih _ _ _ _ _ _ heq hc hr
  have all : ∀ (w w' : World) (v : Value) (w1 : World), w'.heap[p.block]? = w.heap[p.block]? → (∃ cs e f, w.heap[p.block]? = some (.cells cs e f)) →
      (Instr.loadAt t (.pointer (some p))).run P w = .ok v w1 → w1 = w ∧ (Instr.loadAt t (.pointer (some p))).run P w' = .ok v w' := by
    intro w w' v w1 heq hc hr
    unfold Instr.loadAt Instr.sureAddr at hr ⊢
    simp only [pure_bind] at hr ⊢
    unfold loadVar at hr ⊢
    rw [Sem.run_bind] at hr ⊢
    cases hi : (isAgg t).run P w with
    | halt x w2 => rw [hi] at hr; simp at hr
    | ok b w2 =>
      obtain ⟨rfl, hi2⟩ := still_isAgg (P := P) t w b w2 hi
      rw [hi] at hr
      rw [hi2 w']
      simp only [Result.andThen_ok] at hr ⊢
      cases b with
      | false =>
        simp only [Bool.false_eq_true, if_false] at hr ⊢
        exact ld _ _ _ _ _ rfl heq hc hr
      | true =>
        simp only [if_true, Sem.run_bind] at hr ⊢
        cases hs : (sizeOf t).run P w2 with
        | halt x w3 => rw [hs] at hr; simp at hr
        | ok n w3 =>
          obtain ⟨rfl, hs2⟩ := still_sizeOf (P := P) t _ n w3 hs
          rw [hs] at hr
          rw [hs2 w']
          simp only [Result.andThen_ok] at hr ⊢
          unfold loadCells at hr ⊢
          cases hl : (loadCellsFrom p 0 n #[]).run P w3 with
          | halt x w4 => rw [hl] at hr; simp at hr
          | ok cs w4 =>
            obtain ⟨rfl, hl2⟩ := lds n 0 #[] _ w' cs w4 heq hc hl
            rw [hl] at hr
            rw [hl2]
            simp at hr ⊢
            exact ⟨hr.2.symm, hr.1⟩
  have ex : ∀ w', (execOp a.eval ⟨dst, .load t x, ty, ps, af, g⟩).run P w' = ((Instr.loadAt t (.pointer (some p))).run P w').andThen fun v w => .ok (.value v) w := fun w' => by
    simp only [execOp, hp]
    rw [Sem.run_bind]
    rfl
  unfold Oper.wp at h'
  rw [ex] at h'
  cases hr : (Instr.loadAt t (.pointer (some p))).run P w with
  | halt x w1 =>
    rw [hr] at h'
    simp only [Result.andThen_halt] at h'
    cases x <;> simp only [Oper.upon] at h'
    exact h'.elim
  | ok v w1 =>
    obtain ⟨hb, hc⟩ := hst w hS
    obtain ⟨rfl, _⟩ := all w w v w1 rfl hc hr
    rw [hr] at h'
    refine .inl ⟨v, .inl ⟨hw, fun w' hS' => ?_⟩, h'⟩
    rw [ex, (all _ w' v _ (hst w' hS').1 hc hr).2]
    rfl
/-- A link of the chain. -/
theorem wpX_ef (hE : E o = true) (hw : Region.wanted o (yielded ops a.tmps) = true)
    (h : ∀ K : Act → World → Prop, (∀ a' w', S w' ∧ wpX P ops E S R rest a' w' → K a' w') → o.wp P a w K NoExit) : wpX P ops E S R (o :: rest) a w :=
  .inr ⟨hE, hw, h _ fun _ _ h => h⟩

/-- A block of cells that no effect of the region touches. -/
def Zone (X : List Nat) (w0 : World) (b : Nat) : Prop := b ∉ X ∧ ∃ off v, w0.cell? ⟨b, off, none⟩ = some v
theorem Zone.of {X : List Nat} {w0 : World} {b off : Nat} {v : Value} (h : w0.cell? ⟨b, off, none⟩ = some v) (hb : b ∉ X) : Zone X w0 b := ⟨hb, off, v, h⟩
theorem cells_of_cell {w : World} {b off : Nat} {v : Value} (h : w.cell? ⟨b, off, none⟩ = some v) : ∃ cs e f, w.heap[b]? = some (.cells cs e f) := by
  unfold World.cell? at h
  split at h
  · rename_i cs e f hc; exact ⟨cs, e, f, hc⟩
  · cases h
/-- A load, in a region whose effects touch the blocks of X alone. -/
theorem wpX_ldC {X : List Nat} {w0 : World} {t : TypeId} {x : Operand} (hop : o.op = .load t x) (hw : Region.wanted o (yielded ops a.tmps) = true) {p : Addr} (hp : a.eval x = .pointer (some p))
    (hz : Zone X w0 p.block) (hS : Chg X w0 w)
    (h : ∀ K : Act → World → Prop, (∀ a' w', wpX P ops E (Chg X w0) R rest a' w' → K a' w') → o.wp P a w K NoExit) : wpX P ops E (Chg X w0) R (o :: rest) a w := by
  obtain ⟨hn, off, v, hc⟩ := hz
  have hlt : p.block < w0.heap.size := World.block_lt_of_cell? w0 ⟨p.block, off, none⟩ hc
  refine wpX_ld hop hw hp hS (fun w' hS' => ⟨(hS'.block _ hlt hn).trans (hS.block _ hlt hn).symm, ?_⟩) h
  rw [hS.block _ hlt hn]
  exact cells_of_cell hc
/-- A drawn region whose effects touch the blocks of X alone. -/
theorem wp_region_C {id : Nat} {l : List Oper} {Q : Exit → Act → World → Prop} {a : Act} {w : World} (X : List Nat) (hm : P.follows .mixedOrders = true) (hok : okXb l.toArray = true)
    (h : wpX P l.toArray isEff (Chg X w.drew) (fun a w => Q .normal a w) l a w.drew) : (Code.region id l.toArray true).wp P Q a w :=
  wp_region_X _ hm hok (Chg.refl _ _) h
/-- The last operation of a region, behind which the world is free. -/
def stepX (P : Program) (ops : Array Oper) (E : Oper → Bool) (S : World → Prop) (R : Act → World → Prop) (o : Oper) (a : Act) (w : World) : Prop :=
  (∃ v, YieldsIf P ops S o v a ∧ R (a.put o.dst v) w) ∨ (E o = true ∧ Region.wanted o (yielded ops a.tmps) = true ∧ o.wp P a w R NoExit)
theorem stepX_ef {o : Oper} {a : Act} {w : World} (hE : E o = true) (hw : Region.wanted o (yielded ops a.tmps) = true)
    (h : ∀ K : Act → World → Prop, (∀ a' w', R a' w' → K a' w') → o.wp P a w K NoExit) : stepX P ops E S R o a w := .inr ⟨hE, hw, h _ fun _ _ h => h⟩
theorem wpXi_tail {t : Oper} (l : List Oper) : ∀ k, (∀ j, (l ++ [t])[j]? = ops[k + j]?) → ∀ a w, wpX P ops E S (stepX P ops E S R t) l a w → wpXi P ops E true S R (List.range' k (l.length + 1)) a w := by
  induction l with
  | nil =>
    intro k h a w hx
    have h0 : ops[k]? = some t := by simpa using (h 0).symm
    simp only [List.length_nil, List.range'_succ, List.range'_zero, wpXi, h0]
    rcases hx with ⟨v, h1, h2⟩ | ⟨h1, h2, h3⟩
    · exact .inl ⟨v, h1, h2⟩
    · exact .inr ⟨h1, h2, Oper.wp_mono (fun a' w' h => ⟨fun hh => by simp at hh, h⟩) h3⟩
  | cons o l ih =>
    intro k h a w hx
    have h0 : ops[k]? = some o := by simpa using (h 0).symm
    have ih' := ih (k + 1) (fun j => by have := h (j + 1); simpa [Nat.add_assoc, Nat.add_comm 1 j] using this)
    rw [List.length_cons, List.range'_succ]
    simp only [wpXi, h0]
    rcases hx with ⟨v, h1, h2⟩ | ⟨h1, h2, h3⟩
    · exact .inl ⟨v, h1, ih' _ _ h2⟩
    · exact .inr ⟨h1, h2, Oper.wp_mono (fun a' w' h => ⟨fun _ => h.1, ih' _ _ h.2⟩) h3⟩
/-- The look at a region's text, where the last operation waits for all others. -/
def okTb (ops : Array Oper) : Bool := okXb ops && (List.range (ops.size - 1)).all fun i => ((masks ops.toList #[]).getD (ops.size - 1) 0).testBit i
/-- A drawn region whose effects touch the blocks of X alone, but for the last. -/
theorem wp_region_T {id : Nat} {l : List Oper} {Q : Exit → Act → World → Prop} {a : Act} {w : World} (X : List Nat) (hm : P.follows .mixedOrders = true) (hok : okTb l.toArray = true) {t : Oper} (ht : l.getLast? = some t)
    (h : wpX P l.toArray isEff (Chg X w.drew) (stepX P l.toArray isEff (Chg X w.drew) (fun a w => Q .normal a w) t) l.dropLast a w.drew) : (Code.region id l.toArray true).wp P Q a w := by
  refine wp_region_any hm ?_
  have hall : leftX l.toArray (Array.replicate l.toArray.size false) = List.range l.length := by
    unfold leftX
    rw [List.size_toArray]
    apply List.filter_eq_self.2
    intro i hi
    have := List.mem_range.1 hi
    simp [this]
  obtain ⟨h1, h2⟩ := Bool.and_eq_true_iff.1 hok
  have hl : l.dropLast ++ [t] = l := by
    have hne : l ≠ [] := by rintro rfl; cases ht
    rw [List.getLast?_eq_some_getLast hne] at ht
    cases ht
    exact List.dropLast_concat_getLast hne
  have hlen : l.length = l.dropLast.length + 1 := by
    have := congrArg List.length hl
    simp at this; simp; omega
  refine main_X (T := true) (S := Chg X w.drew) (okXb_spec h1) (fun _ L hL hlast i hi => ?_) (R := fun a w => Q .normal a w) (fun _ _ h => h) _ _ _ _ (by rw [hall]; simp) (by simp) (fun _ => Chg.refl _ _) ?_ ?_ ?_
  · by_cases hil : i = l.toArray.size - 1
    · rw [hil]; exact hlast
    · have hb := List.all_eq_true.1 h2 i (List.mem_range.2 (by omega))
      cases hm' : (masks l.toArray.toList #[])[l.toArray.size - 1]? with
      | none => simp only [Array.getD_eq_getD_getElem?, hm', Option.getD_none] at hb; simp at hb
      | some m =>
        simp only [Array.getD_eq_getD_getElem?, hm', Option.getD_some] at hb
        exact masks_spec (ops := l.toArray) l.toArray.toList #[] (by simp) (by simp) _ m i hm' hb L hL hlast
  · intro i j x y hij hx hy _ _ hj
    have hjl := (Array.getElem?_eq_some_iff.1 hy).1
    rw [List.size_toArray] at hjl
    simp [hjl] at hj
  · intro j y hy hj
    have hjl := (Array.getElem?_eq_some_iff.1 hy).1
    rw [List.size_toArray] at hjl
    simp [hjl] at hj
  · rw [hall, hlen, List.range_eq_range']
    exact wpXi_tail l.dropLast 0 (fun j => by rw [hl]; simp) a w.drew h
/-- An append. -/
def isApp (o : Oper) : Bool := match o.op with
  | .call c => match c.callee with
    | .builtin .append => true
    | _ => false
  | _ => false
/-- A link of the chain that is no append. -/
theorem wpX_ef' {o : Oper} {rest : List Oper} {a : Act} {w : World} (_hna : isApp o = false) (hE : E o = true) (hw : Region.wanted o (yielded ops a.tmps) = true)
    (h : ∀ K : Act → World → Prop, (∀ a' w', S w' ∧ wpX P ops E S R rest a' w' → K a' w') → o.wp P a w K NoExit) : wpX P ops E S R (o :: rest) a w := wpX_ef hE hw h
/-- An append within a drawn region. -/
theorem wpX_append {o : Oper} {rest : List Oper} {a : Act} {w : World} (s x : Operand) (t : TypeId)
    (ho : o.op = .call { callee := .builtin .append, args := #[s, x], argTypes := #[t, t] }) (hE : E o = true) (hw : Region.wanted o (yielded ops a.tmps) = true)
    (e : TypeId) (z : Value) (size bytes : Nat) (hi : (P.info? e).map (fun i => (i.zero, i.size, i.bytes)) = some (some z, size, bytes)) (ht : P.underlying t = some (.slice e))
    (hzs : z.cells.size = size) (hsz : 0 < size)
    (v : Value) (n : Nat) (xs : List Value) (hs : a.eval s = v) (hown : w.ownsRow 0 e size v n xs)
    (ad : Addr) (m c : Nat) (news : List Value) (hx : a.eval x = .slice (some ad) m c) (hl : news.length = m * size) (hnews : ∀ j u, news[j]? = some u → w.cell? (ad.add j) = some u) (h1 : ∀ u ∈ news, u.oneCell' = true)
    (hbytes : (n + m) * bytes ≤ 140737488355328) (h63 : n + m ≤ maxLen)
    (h : ∀ v' w', w'.ownsRow 0 e size v' (n + m) (xs ++ news) → Chg (blk v) w w' → Moved w v v' → S w' ∧ wpX P ops E S R rest (a.put o.dst v') w') : wpX P ops E S R (o :: rest) a w := by
  refine .inr ⟨hE, hw, ?_⟩
  obtain ⟨i, hi, hz, hsize, hby⟩ := info_parts hi
  obtain ⟨v', w', hr, h2, h3, h4⟩ := append_slice (P := P) w 0 t o.type e i z size bytes ht hi hz hsize hby hzs hsz v n xs hown ad m c news hl hnews h1 h63 hbytes (Nat.zero_le _)
  unfold Oper.wp execOp
  simp only [ho, resolve, invoke, builtin, Sem.run_bind, Sem.run_pure, Result.andThen_ok, List.map_toArray, List.map_cons, List.map_nil, hs, hx, hr]
  exact h v' w' h2 h3 h4
/-- One new block, the source of an append of one element of many cells. -/
theorem cells_new (w : World) (us : List Value) (t : TypeId) : ∀ j x, us[j]? = some x → (w.alloc (.cells us.toArray t)).cell? ((⟨w.heap.size, 0, none⟩ : Addr).add j) = some x := by
  intro j x h
  have hb := Blk.new w us.toArray t
  have h2 := hb.cell j x (by simpa using h)
  cases j with
  | zero => exact h2
  | succ j => simpa only [Addr.add, Nat.zero_add, Nat.add_eq_zero_iff, Nat.succ_ne_self, if_false, and_false, Nat.succ_eq_add_one, Nat.one_ne_zero] using h2
end

end Go.Mq
