/- Whatever object and text come in, marquetrylaw.ObjWrites returns true, and what came in reads as it did: which objects may be, their bytes, and which object any bytes are, is the document's. Conditions: the row's own (the listed tables, and the type that errors.As looks at, hold what the program's text lays). -/
import Derived.Test.YtjgfclhempjinaaGreatDoorCards
import Derived.Test.YtjgfclhempjinaaGreatDoorTie
import Derived.Test.YtjgfclhempjinaaGreatDoorObjOpen
import Derived.Test.YtjgfclhempjinaaGreatDoorLawWalk
import Derived.Lib.LaidIn
import Derived.Lib.LaidU8T
import Derived.Deep.DeepHandedRow
import Derived.Deep.DeepWitnessRowRef
import Derived.ProofKit
import Derived.SizedLaws
import Derived.LaidHandle
namespace Go.Proofs.YtjgfclhempjinaaGreatDoor.ObjWritesP
open Go Go.ChangeShapes Go.WideShapes Go.ChangeAt Go.RowKit Go.Lib Go.Mq Go.Mq.Obj
open Go.ChangeMaps (open_string shut_string)

theorem own : ownKnob Tryz.prog.godebug = none := by kernel_rfl
/-- A world for the witness: the two tables hold what their initialisers lay. -/
noncomputable def laidWorld (os : Os) : World :=
  let w0 := World.holding Tryz.prog os ⟨#[], #[], []⟩
  let put (h : Array Obj) (g : Nat) (cs : Array Value) : Array Obj := h.modify g fun
    | .cells _ t frozen => .cells cs t frozen
    | o => o
  let h1 := put w0.heap 2 (Lib.firstTab.map fun z => Value.int .u8 z).toArray
  let h2 := put h1 3 ((List.range 16).flatMap fun i => [Value.int .u8 (Lib.accLo i), Value.int .u8 (Lib.accHi i)]).toArray
  let h3 := put h2 1 #[.iface 143 (.agg #[.pointer (some ⟨4, 28, none⟩)])]
  { w0 with heap := h3 }
def tables : List (String × DataW Unit) := Rows.objWritesRow.laid.filter fun x => x.2.handleName?.isNone
theorem laid_met (os : Os) (args : Array Value) : laidMetH Tryz.prog Rows.objWritesRow.laid ((laidWorld os).forCall (fun _ _ => 0) ⟨#[], args, []⟩).memory :=
  laidMetH_of_parts (LaidIn.of_run (l := tables) [3, 2] 8 (by kernel_rfl) (by kernel_rfl) (by kernel_rfl) (by kernel_rfl)).met (by kernel_rfl)
theorem et : Tryz.prog.globalNamed "errors.errorType" = some 1 := by kernel_rfl
theorem rt : (Tryz.prog.cutTypes.find? (·.1 == "internal/reflectlite.rtype")).map (·.2) = some 143 := by kernel_rfl
theorem oneRow : ((List.range 182).filter fun t => Tryz.prog.rowNamed t [101, 114, 114, 111, 114]) = [28] := by kernel_rfl
theorem typesSize : Tryz.prog.types.size = 182 := by kernel_rfl
theorem err_of_laid {W : World} (h : laidMetH Tryz.prog Rows.objWritesRow.laid W) : ErrLaid W := by
  have h' : laidMet Tryz.prog tables W ∧ handlesMet Tryz.prog [("errors.errorType", Rows.laid_errors_errorType)] W := h
  obtain ⟨name, u, ty, e1, e2, e3, e4, e5⟩ := h'.2 _ (List.mem_singleton.2 rfl)
  have en : name = [101, 114, 114, 111, 114] := (Option.some.inj e1).symm
  subst en
  obtain rfl := Option.some.inj (rt.symm.trans e2)
  have hm : ty ∈ (List.range 182).filter fun t => Tryz.prog.rowNamed t [101, 114, 114, 111, 114] := List.mem_filter.2 ⟨List.mem_range.2 (by rw [← typesSize]; exact e3), e4⟩
  rw [oneRow] at hm
  obtain rfl := List.mem_singleton.1 hm
  have hh : typeHandle Tryz.prog 28 = .pointer (some ⟨4, 28, none⟩) := by kernel_rfl
  rw [hh] at e5
  unfold ErrLaid
  simpa using World.var?_cell et e5 0
theorem witness_row (os : Os) {H : Type} (enc : TypeId × Value → H) :
    (OpenSpec.ofChange Rows.objWritesSpec).preRow enc Tryz.prog Tryz.f3 Rows.objWritesRow.domain false Rows.objWritesRow.laid ((laidWorld os).forCall (fun _ _ => 0) ⟨#[], #[.pointer none, .string ⟨#[]⟩], []⟩).memory #[.pointer none, .string ⟨#[]⟩] := by
  have hw : (DataW.whole enc Tryz.prog ((laidWorld os).forCall (fun _ _ => 0) ⟨#[], #[.pointer none, .string ⟨#[]⟩], []⟩).memory Tryz.f3.params.toList Rows.objWritesSpec.vars false (#[.pointer none, .string ⟨#[]⟩] : Array Value).toList 8).map (fun x => (x.1, x.2.1)) =
      some ([.nil, .lit (.string [])], []) := by kernel_rfl
  obtain ⟨⟨x1, x2, x3⟩, hx, hx1⟩ := Option.map_eq_some_iff.1 hw
  simp only [Prod.mk.injEq] at hx1
  obtain ⟨rfl, rfl⟩ := hx1
  exact OpenSpec.preRow_of_cond 8 hx (by kernel_rfl) (fun k hk => by cases hk) (by kernel_rfl) (laid_met os _)

theorem ow_nil (l : List UInt8) (W : World) (hE : ErrLaid W) (hl : l.length ≤ 9223372036854775807) : Calls Tryz.prog 3 #[.pointer none, str l] W (fun e w' => e = .returned (.bool true) ∧ Chg [] W w') := by
  refine ow_any (.pointer none) l W True false [] hE hl ((lsmall_nil W).mono ?_) (fun _ w' _ => (rwrite_nil w').mono ?_) (fun _ w' _ => (owrite_nil w').mono ?_) (fun _ w' _ => oright_nil w') (fun _ w' _ => rright_nil w')
  · rintro e w' ⟨rfl, hc⟩; exact ⟨true, rfl, fun _ => trivial, hc⟩
  · rintro e w2 ⟨rfl, hc⟩; exact ⟨rfl, hc⟩
  · rintro e w2 ⟨rfl, hc⟩; exact ⟨rfl, hc⟩
theorem ow_obj (b off : Nat) (o : ObjD) (M : ObjM) (l : List UInt8) (W : World) (hE : ErrLaid W) (hl : l.length ≤ 9223372036854775807) (hat : ObjAt W W.heap.size b off o M) (hh : o.held) :
    Calls Tryz.prog 3 #[.pointer (some ⟨b, off, none⟩), str l] W (fun e w' => e = .returned (.bool true) ∧ Chg [] W w') := by
  refine ow_any _ l W o.small (right o) (if right o = true then encO o else []) hE hl (lsmall_any _ _ _ _ _ _ hat hh) (fun hq w' hc => (rwrite_any _ _ _ _ _ w' (hat.kept hc (by simp)) hq).mono ?_) (fun hq w' hc => (write_any _ _ _ _ _ w' (hat.kept hc (by simp)) hc.size hq).mono ?_)
    (fun hq w' hc => right_any _ _ _ _ _ w' (hat.kept hc (by simp)) hq) (fun hq w' hc => rright_any _ _ _ _ _ w' (hat.kept hc (by simp)) hq)
  · rintro e w2 ⟨rfl, hc⟩; exact ⟨rfl, hc⟩
  · rintro e w2 ⟨rfl, hc⟩
    refine ⟨?_, hc⟩
    cases right o <;> rfl
set_option maxRecDepth 100000 in
set_option maxHeartbeats 4000000 in
theorem lifted (os : Os) (started : os.Started) (H : Type) (enc : TypeId × Value → H) (F : Stop.Interp) :
    ReturnsInHanded {} Tryz.checked os 3 .any ((OpenSpec.ofChange Rows.objWritesSpec).preRow enc Tryz.prog Tryz.f3 Rows.objWritesRow.domain false Rows.objWritesRow.laid) (((OpenSpec.ofChange Rows.objWritesSpec).at F).post enc Tryz.prog Tryz.f3 false true false false) := by
  refine returnsInHanded_of_row (C := Tryz.checked) (s := OpenSpec.ofChange Rows.objWritesSpec) own started (by kernel_rfl) Tryz.func3
    (witness_row_atRef (enc := enc) (C := Tryz.checked) false (laidWorld os) #[.pointer none, .string ⟨#[]⟩] rfl (by kernel_rfl) (by kernel_rfl) (by kernel_rfl) (witness_row os enc)) ?_
  intro W base args ds gs before hval0 hW _ _ _ hL _ _
  have hval : ∀ (j : Nat) t v, Tryz.f3.params[j]? = some t → args[j]? = some v → Value.okWide Tryz.prog W .any base t v := hval0
  have hW' := hW
  obtain ⟨p, q, hA0, hV0, rfl, _, _⟩ := hW
  have hA : DataW.TrodAll enc Tryz.prog W 0 (fun _ => true) true Tryz.f3.params.toList args.toList ds p := hA0
  rw [Tryz.params3] at hA hval
  obtain ⟨v0, v1, d0, d1, p0, p1, rfl, rfl, rfl, h0, h1⟩ := trodAll_two hA
  obtain ⟨rfl, rfl⟩ := trodVars_none hV0
  obtain ⟨s, rfl, rfl, rfl, wm⟩ := open_string Tryz.underlying9 (hval 1 _ v1 rfl rfl) h1
  have hE := err_of_laid hL
  have walk : Calls Tryz.prog 3 #[v0, .string s] W (fun e w' => e = .returned (.bool true) ∧ Chg [] W w') := by
    have hmx : s.data.toList.length ≤ 9223372036854775807 := by
      have e := Lib.size_eq s
      simp only [maxLen] at wm
      omega
    have hs : (.string s : Value) = str s.data.toList := by rw [str, bs_toList]
    rw [hs]
    rcases open_obj (hval 0 _ v0 rfl rfl) h0 with rfl | ⟨b, off, o, M, rfl, hat, hh⟩
    · exact ow_nil s.data.toList W hE hmx
    · exact ow_obj b off o M s.data.toList W hE hmx hat hh
  clear hA0 hV0 hval0
  have e1 : ((OpenSpec.ofChange Rows.objWritesSpec).at F).fn H ([d0, .lit (.string s.data.toList)] ++ []) = { results := [.lit (.bool true)], args := [d0, .lit (.string s.data.toList)] } := rfl
  refine (walk).mono ?_
  rintro e W' ⟨rfl, hc⟩
  have bel : Below W.heap.size W W' := hc.below (Nat.le_refl _) (by simp)
  refine ⟨_, rfl, _, _, _, [], p0 ++ [], [], hW', ?_, ?_, ?_, bel.frame _, fun h => by cases h⟩
  · rw [e1]; exact trodAll_mk1 (shut_bool Tryz.underlying4 _)
  · rw [e1]; exact trodAll_mk2 (Below.trod (by kernel_rfl) (by kernel_rfl) (of_decide_eq_true (by kernel_rfl)) h0 bel (fun x hx => by simpa using hW'.lt x (by simp [hx]))) (shut_string Tryz.underlying9 wm)
  · rw [e1]; rfl

theorem said : Rows.ObjWritesSaid :=
  OpenClaim.holds_of_cond 3 Tryz.f3 rfl rfl rfl rfl rfl rfl rfl ⟨rfl, rfl, rfl, rfl, rfl⟩ rfl rfl rfl rfl rfl (by kernel_rfl) Tryz.func3 (by kernel_rfl)
    (of_decide_eq_true (by kernel_rfl)) (by unfold Func.isWrapper; first | (rw [if_pos (by decide +kernel)]; kernel_rfl) | (rw [if_neg (by decide +kernel)]; exact ⟨rfl, rfl⟩))
    (fun os started H enc _ F0 => by rw [OpenClaim.pre_eq_preRow]; exact lifted os started H enc F0)

theorem plain (f : FuncId) (fn : Func) (hf : Tryz.pinned.checked.prog.funcNamed "marquetry/marquetrylaw.ObjWrites" = some f) (hfn : Tryz.pinned.checked.prog.funcs[f]? = some fn) :
    true = Tryz.pinned.checked.prog.looks [] ∧ ∀ (j : Nat) t, fn.params[j]? = some t → Tryz.pinned.checked.prog.wantsStandIn t = false := by
  obtain rfl : f = 3 := Option.some.inj ((show Tryz.prog.funcNamed "marquetry/marquetrylaw.ObjWrites" = some 3 by kernel_rfl).symm.trans hf) |>.symm
  obtain rfl : fn = Tryz.f3 := (Option.some.inj (Tryz.func3.symm.trans hfn)).symm
  refine ⟨by kernel_rfl, fun j t ht => ?_⟩
  rw [Tryz.params3] at ht
  have hm := Array.mem_of_getElem? ht
  simp only [List.mem_toArray, List.mem_cons, List.not_mem_nil, or_false] at hm
  rcases hm with rfl | rfl
  · exact (show Tryz.prog.wantsStandIn 22 = false by kernel_rfl)
  · exact (show Tryz.prog.wantsStandIn 9 = false by kernel_rfl)

theorem objWrites_holds : Rows.ObjWritesCardSaid :=
  Claim7.holds_tied_plain_at .later [] _ _ _ _ said (fun _ h => by cases h) (by kernel_rfl) (fun _ h => by cases h) objWrites_row_tie rfl ⟨rfl, rfl⟩ (by kernel_rfl) rfl plain (by kernel_rfl)
end Go.Proofs.YtjgfclhempjinaaGreatDoor.ObjWritesP
