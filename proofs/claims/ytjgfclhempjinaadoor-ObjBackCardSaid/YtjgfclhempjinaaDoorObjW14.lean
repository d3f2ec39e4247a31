/- marquetrykeep.pick, written; Right and Write at nil. -/
import Derived.Test.YtjgfclhempjinaaDoorObjLaw
import Derived.Test.YtjgfclhempjinaaDoorObjW11
import Derived.Test.YtjgfclhempjinaaDoorObjW13
namespace Go.Proofs.YtjgfclhempjinaaDoor
open Go Go.RowKit Go.Mq Go.Mq.Obj
set_option maxRecDepth 100000

theorem right_nil (w : World) : Calls Tryd.prog 10 #[.pointer none] w (Ans w (.bool false)) := by
  go_enter Tryd.func10, Tryd.ntmps10
  go_wp2_with fail
  go_ret
  exact ⟨rfl, (Chg.refl [] w).alloc _⟩
theorem write_nil (w : World) : Calls Tryd.prog 7 #[.pointer none] w (fun e w' => e = .returned (.tuple #[.string ⟨#[]⟩, .iface 64 (.int .i64 1)]) ∧ Chg [] w w') := by
  have HR := Lib.hid (right_nil w)
  go_enter Tryd.func7, Tryd.ntmps7
  go_wp2_with fail
  refine HR.out.mono ?_; rintro _ w1 ⟨rfl, hc⟩
  have HC := Lib.hid hc; clear hc
  go_wp2_with fail
  go_ret2
  exact ⟨rfl, HC.out⟩

theorem pick_any (a : Int) (n : Nat) (w : World) (h0 : 0 < n) (hn : n ≤ 1099511627776) :
    Calls Tryd.prog 9 #[.int .i64 a, .int .i64 n] w (fun e w' => ∃ r : Nat, r < n ∧ e = .returned (.int .i64 r) ∧ w' = w) := by
  have e1 : IntKind.u64.wrap (n : Int) = n := by
    simp only [IntKind.wrap, IntKind.bits, IntKind.signed]; simp; omega
  obtain ⟨u, hu, hu2⟩ : ∃ u : Nat, IntKind.u64.wrap a = (u : Int) ∧ u < 18446744073709551616 := by
    refine ⟨(IntKind.u64.wrap a).toNat, ?_, ?_⟩ <;> (simp only [IntKind.wrap, IntKind.bits, IntKind.signed]; simp; omega)
  have hr : u % n < n := Nat.mod_lt _ h0
  have HE1 := Lib.hid e1; have HU := Lib.hid hu
  clear e1 hu
  go_enter Tryd.func9, Tryd.ntmps9
  go_wp2_with fail
  go_ret
  refine ⟨u % n, hr, ?_, rfl⟩
  show Ending.returned (.int .i64 (wrap64 ((IntKind.u64.wrap a).tmod (n : Int)))) = _
  rw [HU.out, ← Int.ofNat_tmod, IntWalk.wrap64_in _ (by omega)]

/-- The object that 'written' makes. -/
def obj0 : ObjD := ⟨[109], [], [], [], [], [], [⟨1, -3, 0⟩, ⟨17, 0, 0⟩]⟩
def enc0 : List UInt8 := [2, 109, 0, 0, 0, 0, 4, 2, 5, 0, 34, 0, 0]
theorem obj0_right : right obj0 = true := by decide +kernel
theorem obj0_enc : encO obj0 = enc0 := by decide +kernel
theorem obj0_small : obj0.small := by
  have i0 : ∀ {n : Int}, -100 ≤ n → n ≤ 100 → I64 n := fun h1 h2 => ⟨by omega, by omega⟩
  refine ⟨⟨?_, ?_, ?_, ?_⟩, by decide, ⟨by decide, ?_⟩, ⟨by decide, ?_⟩, ⟨by decide, ?_⟩, by decide, ⟨by decide, ?_⟩, by decide⟩
  all_goals (intro x hx; first | (cases hx; done) | skip)
  simp only [obj0, List.mem_cons, List.not_mem_nil, or_false] at hx
  rcases hx with rfl | rfl
  · exact ⟨i0 (by decide) (by decide), i0 (by decide) (by decide), i0 (by decide) (by decide)⟩
  · exact ⟨i0 (by decide) (by decide), i0 (by decide) (by decide), i0 (by decide) (by decide)⟩

theorem obj0_at (w : World) : ObjAt ((w.alloc (.cells #[.int .i64 1, .int .i64 (-3), .int .i64 0, .int .i64 17, .int .i64 0, .int .i64 0] 47)).alloc (.cells #[str [109], .slice none 0 0, .slice none 0 0, .slice none 0 0, .slice none 0 0, .slice none 0 0, .slice (some ⟨w.heap.size, 0, none⟩) 2 2] 44))
    (w.heap.size + 2) (w.heap.size + 1) 0 obj0 ⟨none, none, none, none, none, some ⟨w.heap.size, 0, none⟩, 0, 0, 0, 0, 0, 2, []⟩ := by
  have h1 := Blk.new w #[.int .i64 1, .int .i64 (-3), .int .i64 0, .int .i64 17, .int .i64 0, .int .i64 0] 47
  have h2 := Blk.new (w.alloc (.cells #[.int .i64 1, .int .i64 (-3), .int .i64 0, .int .i64 17, .int .i64 0, .int .i64 0] 47)) #[str [109], .slice none 0 0, .slice none 0 0, .slice none 0 0, .slice none 0 0, .slice none 0 0, .slice (some ⟨w.heap.size, 0, none⟩) 2 2] 44
  have h1 := h1.kept ((Chg.refl [] _).alloc (.cells #[str [109], .slice none 0 0, .slice none 0 0, .slice none 0 0, .slice none 0 0, .slice none 0 0, .slice (some ⟨w.heap.size, 0, none⟩) 2 2] 44)) (by simp)
  have e : (w.alloc (.cells #[.int .i64 1, .int .i64 (-3), .int .i64 0, .int .i64 17, .int .i64 0, .int .i64 0] 47)).heap.size = w.heap.size + 1 := by simp
  rw [e] at h2
  have un : ∀ B n, Under B none n := fun _ _ _ _ h => by cases h
  refine ⟨by omega, h2.cell 0 _ rfl, h2.cell 1 _ rfl, h2.cell 2 _ rfl, h2.cell 3 _ rfl, h2.cell 4 _ rfl, h2.cell 5 _ rfl, h2.cell 6 _ rfl, (fun h => by cases h), un _ _, rfl, (fun h => by cases h), un _ _, fun _ h => (by cases h), (fun h => by cases h), un _ _, (fun h => by cases h), un _ _, (fun h => by cases h), un _ _, fun _ => ⟨w.heap.size, 0, rfl, fun i x hx => ?_⟩, fun _ p hp => by cases hp; show w.heap.size < _; omega⟩
  refine h1.cell (0 + i) x ?_
  rw [Nat.zero_add, ← hx]
  simp [obj0, InstD.cells]

set_option maxHeartbeats 2000000 in
theorem written_any (w : World) : Calls Tryd.prog 6 #[] w (fun e w' => e = .returned (.bool true) ∧ Chg [] w w') := by
  have hW := write_any _ _ _ _ _ _ (obj0_at w) (by simp) obj0_small
  rw [obj0_right, obj0_enc, if_pos rfl, if_pos rfl] at hW
  have hP := (fun w' => parse_any enc0 w' (by decide))
  have hpd : parsed enc0 = true := by have h := parsed_more obj0_small obj0_right []; rw [List.append_nil, obj0_enc] at h; exact h
  have hpo : pObj enc0 = obj0 := by have h := (obj_enc obj0_small obj0_right []).1; rw [List.append_nil, obj0_enc] at h; exact h
  have hX := (fun w' => Any.strings_HasPrefix Tryd.lays99 (bs enc0) ⟨#[2, 109, 0, 0, 0, 0, 4, 2, 5, 0]⟩ w')
  have e1 : Lib.hasPrefix (bs enc0).data.toList (ByteArray.mk #[2, 109, 0, 0, 0, 0, 4, 2, 5, 0]).data.toList = true := by decide +kernel
  rw [e1] at hX
  have HW := Lib.hid hW; have HP := Lib.hid hP; have HPD := Lib.hid hpd; have HPO := Lib.hid hpo; have HX := Lib.hid hX
  clear hW hP hpd hpo hX e1
  go_enter Tryd.func6, Tryd.ntmps6
  go_wp2_with fail
  refine HW.out.mono ?_; rintro _ w1 ⟨rfl, hc⟩
  have HC := Lib.hid ((((Chg.refl [] w).alloc _).alloc _).then hc); clear hc
  go_wp2_with fail
  refine (HP.out _).mono ?_; rintro _ w2 ⟨hc, ⟨_, bo, M, rfl, hat⟩ | ⟨hn, _⟩⟩
  case inr => rw [HPD.out] at hn; cases hn
  rw [HPO.out] at hat
  have h6 : w2.cell? ⟨bo, 6, none⟩ = some (.slice M.ca 2 M.cc) := hat.c6
  obtain ⟨b6, o6, hca, hcell⟩ := hat.c (by simp [obj0, InstD.cells])
  rw [hca] at h6
  have hi : w2.cell? ⟨b6, o6 + 1, none⟩ = some (.int .i64 (-3)) := hcell 1 _ rfl
  have HC2 := Lib.hid (HC.out.then hc)
  clear hat hcell hc hca
  go_wp2_with fail
  refine (HX.out _).mono ?_; rintro _ w3 ⟨rfl, rfl⟩
  clear h6 hi
  go_wp2_with fail
  go_ret
  exact ⟨rfl, HC2.out⟩
end Go.Proofs.YtjgfclhempjinaaDoor
