/- What the statements call beside the parser and the printer: slices.Equal, pick, parsed. -/
import Derived.Test.YtdlhjcnmpcligaaDoorTreeP6
import Derived.Test.YtdlhjcnmpcligaaDoorTreeW22
import Derived.Test.YtdlhjcnmpcligaaDoorTreeLaw7
import Derived.Test.YtdlhjcnmpcligaaDoorShelf2
namespace Go.Proofs.YtdlhjcnmpcligaaDoor
open Go Go.RowKit Go.Mq Go.Mq.Tree
set_option maxRecDepth 100000
set_option maxHeartbeats 2000000
theorem equal_any (F F' : Nat → Prop) (l : List (List UInt8)) (v v' : Value) (w : World) (h : NamesAt w F l v) (h' : NamesAt w F' l v') (hn : l.length ≤ 1000) :
    Calls Tryd.prog 9 #[v, v'] w (fun e w' => e = .returned (.bool true) ∧ Chg [] w w') := by
  obtain ⟨a, c, rfl, hc, hr⟩ := h
  obtain ⟨a', c', rfl, hc', hr'⟩ := h'
  by_cases h0 : l = []
  · subst h0
    refine (Any.slices_Equal_string_empty Tryd.lays193 a a' c 0 c' w (by omega)).mono ?_
    rintro e w' ⟨rfl, rfl⟩
    exact ⟨by simp, Chg.refl _ _⟩
  · obtain ⟨b, o, rfl, _, _, hcell⟩ := hr.cells_str h0
    obtain ⟨b', o', rfl, _, _, hcell'⟩ := hr'.cells_str h0
    have hml : (l.map bs).length = l.length := by simp
    have g : ∀ j, j < (l.map bs).length → (l.map bs)[j]? = some ((l.map bs).getD j ByteArray.empty) := fun j hj => by
      rw [List.getElem?_eq_getElem hj, List.getD_eq_getElem?_getD, List.getElem?_eq_getElem hj]; rfl
    refine (Any.slices_Equal_string Tryd.lays193 b o l.length c b' o' l.length c' (l.map bs) (l.map bs) w (by omega) (by omega) (by omega) (by omega) (fun j hj => hcell j _ (g j hj)) (fun j hj => hcell' j _ (g j hj))).mono ?_
    rintro e w' ⟨rfl, q, rfl⟩
    exact ⟨by simp, (Chg.refl _ _).drewN q⟩
theorem pick_any (a : Int) (w : World) : Calls Tryd.prog 8 #[.int .i64 a, .int .i64 4] w (fun e w' => ∃ r : Nat, r < 4 ∧ e = .returned (.int .i64 r) ∧ w' = w) := by
  go_enter Tryd.func8, Tryd.ntmps8
  go_wp2_with fail
  go_ret
  have h0 : 0 ≤ IntKind.u64.wrap a ∧ IntKind.u64.wrap a ≤ 18446744073709551615 := by
    have := IntKind.wrap_u64 a
    omega
  obtain ⟨r, hr⟩ := Int.eq_ofNat_of_zero_le (Int.tmod_nonneg 4 h0.1)
  have hlt : (IntKind.u64.wrap a).tmod 4 < 4 := Int.tmod_lt_of_pos _ (by omega)
  have hr4 : r < 4 := by omega
  refine ⟨r, hr4, ?_, rfl⟩
  show Ending.returned (Value.int .i64 (wrap64 ((IntKind.u64.wrap a).tmod 4))) = _
  rw [hr]
  have : wrap64 (r : Int) = r := by unfold wrap64; omega
  rw [this]
theorem parsed_ok : (match parse [109, 111, 100, 117, 108, 101, 32, 109, 59, 105, 109, 112, 111, 114, 116, 32, 97, 59, 118, 97, 114, 32, 120, 42, 58, 97, 114, 114, 97, 121, 32, 51, 59, 112, 114, 111, 99, 32, 102, 42, 40, 112, 44, 113, 41, 59, 118, 97, 114, 32, 116, 59, 98, 101, 103, 105, 110, 32, 116, 58, 61, 112, 42, 40, 113, 43, 49, 41, 59, 105, 102, 32, 116, 32, 116, 104, 101, 110, 32, 114, 101, 116, 117, 114, 110, 32, 45, 116, 59, 101, 110, 100, 59, 101, 110, 100, 59, 98, 101, 103, 105, 110, 32, 120, 91, 48, 93, 58, 61, 97, 46, 103, 40, 49, 41, 45, 40, 50, 45, 51, 41, 59, 101, 110, 100, 46] with | .ok m => modT m == [109, 111, 100, 117, 108, 101, 32, 109, 59, 10, 105, 109, 112, 111, 114, 116, 32, 97, 59, 10, 118, 97, 114, 32, 120, 42, 58, 32, 97, 114, 114, 97, 121, 32, 51, 59, 10, 112, 114, 111, 99, 32, 102, 42, 40, 112, 44, 32, 113, 41, 59, 10, 118, 97, 114, 32, 116, 59, 10, 98, 101, 103, 105, 110, 10, 32, 32, 116, 32, 58, 61, 32, 112, 32, 42, 32, 40, 113, 32, 43, 32, 49, 41, 59, 10, 32, 32, 105, 102, 32, 116, 32, 116, 104, 101, 110, 10, 32, 32, 32, 32, 114, 101, 116, 117, 114, 110, 32, 45, 116, 59, 10, 32, 32, 101, 110, 100, 59, 10, 101, 110, 100, 59, 10, 98, 101, 103, 105, 110, 10, 32, 32, 120, 91, 48, 93, 32, 58, 61, 32, 97, 46, 103, 40, 49, 41, 32, 45, 32, 40, 50, 32, 45, 32, 51, 41, 59, 10, 101, 110, 100, 46, 10] | .bad _ _ => false) = true := by
  decide +kernel
theorem parsed_at : ∃ m, parse [109, 111, 100, 117, 108, 101, 32, 109, 59, 105, 109, 112, 111, 114, 116, 32, 97, 59, 118, 97, 114, 32, 120, 42, 58, 97, 114, 114, 97, 121, 32, 51, 59, 112, 114, 111, 99, 32, 102, 42, 40, 112, 44, 113, 41, 59, 118, 97, 114, 32, 116, 59, 98, 101, 103, 105, 110, 32, 116, 58, 61, 112, 42, 40, 113, 43, 49, 41, 59, 105, 102, 32, 116, 32, 116, 104, 101, 110, 32, 114, 101, 116, 117, 114, 110, 32, 45, 116, 59, 101, 110, 100, 59, 101, 110, 100, 59, 98, 101, 103, 105, 110, 32, 120, 91, 48, 93, 58, 61, 97, 46, 103, 40, 49, 41, 45, 40, 50, 45, 51, 41, 59, 101, 110, 100, 46] = .ok m ∧ modT m = [109, 111, 100, 117, 108, 101, 32, 109, 59, 10, 105, 109, 112, 111, 114, 116, 32, 97, 59, 10, 118, 97, 114, 32, 120, 42, 58, 32, 97, 114, 114, 97, 121, 32, 51, 59, 10, 112, 114, 111, 99, 32, 102, 42, 40, 112, 44, 32, 113, 41, 59, 10, 118, 97, 114, 32, 116, 59, 10, 98, 101, 103, 105, 110, 10, 32, 32, 116, 32, 58, 61, 32, 112, 32, 42, 32, 40, 113, 32, 43, 32, 49, 41, 59, 10, 32, 32, 105, 102, 32, 116, 32, 116, 104, 101, 110, 10, 32, 32, 32, 32, 114, 101, 116, 117, 114, 110, 32, 45, 116, 59, 10, 32, 32, 101, 110, 100, 59, 10, 101, 110, 100, 59, 10, 98, 101, 103, 105, 110, 10, 32, 32, 120, 91, 48, 93, 32, 58, 61, 32, 97, 46, 103, 40, 49, 41, 32, 45, 32, 40, 50, 32, 45, 32, 51, 41, 59, 10, 101, 110, 100, 46, 10] := by
  have h := parsed_ok
  split at h
  · rename_i m hm
    exact ⟨m, hm, by simpa using h⟩
  · cases h
end Go.Proofs.YtdlhjcnmpcligaaDoor
