/- slices.Sort of a row of strings that the call has built; pick. -/
import Derived.Test.YtgnfhognbpifiaaGreatDoorStaleLaw
import Derived.Test.YtgnfhognbpifiaaGreatDoorPlanIter
import Derived.Sort.OwnSorted
namespace Go.Mq.Plan
open Go Go.RowKit Go.Mq Go.Mq.Tree
theorem perm_of_sub {α : Type} [DecidableEq α] : ∀ {l l' : List α}, l.Nodup → (∀ x ∈ l, x ∈ l') → l'.length ≤ l.length → l.Perm l'
  | [], l', _, _, h => by
    have : l' = [] := List.eq_nil_of_length_eq_zero (by simpa using h)
    subst this
    exact .nil
  | x :: r, l', hd, hs, hl => by
    rw [List.nodup_cons] at hd
    have hx := hs x (by simp)
    have h2 := perm_of_sub (l := r) (l' := l'.erase x) hd.2 (fun y hy => (List.mem_erase_of_ne (show y ≠ x from fun e => hd.1 (by rw [← e]; exact hy))).2 (hs y (by simp [hy]))) (by
      rw [List.length_erase_of_mem hx]
      simp at hl
      omega)
    exact (h2.cons x).trans (List.perm_cons_erase hx).symm
theorem own_low {w : World} {base : Nat} {e : TypeId} {size : Nat} {v : Value} {n : Nat} {xs : List Value} (h : w.ownsRow base e size v n xs) : w.ownsRow 0 e size v n xs := ⟨h.1, by
  rcases h.2 with h | ⟨g, cap, cur, h1, _, h3⟩
  · exact .inl h
  · exact .inr ⟨g, cap, cur, h1, Nat.zero_le _, h3⟩⟩
/-- One more has come. -/
theorem next_perm {rest rest' o keys : List Nm} {n : Nm} (hd : keys.Nodup) (h : (o ++ rest).Perm keys) (hn : n ∈ rest) (hs : ∀ x, x ∈ rest → x ≠ n → x ∈ rest') (hl : rest'.length < rest.length) : ((o ++ [n]) ++ rest').Perm keys := by
  have hdr : rest.Nodup := (List.nodup_append.1 (h.nodup_iff.2 hd)).2.1
  have hp : (rest.erase n).Perm rest' := perm_of_sub (hdr.erase n) (fun x hx => by
    have := (List.Nodup.mem_erase_iff hdr).1 hx
    exact hs x this.2 this.1) (by rw [List.length_erase_of_mem hn]; omega)
  refine List.Perm.trans ?_ h
  rw [List.append_assoc]
  refine List.Perm.append_left o ?_
  exact ((hp.symm).cons n).trans (List.perm_cons_erase hn).symm
end Go.Mq.Plan
namespace Go.Proofs.YtgnfhognbpifiaaGreatDoor
open Go Go.RowKit Go.Maps Go.Sort Go.Shelf Go.Mq Go.Mq.Tree Go.Mq.Plan
set_option maxRecDepth 100000
theorem sort_owned {lo : Nat} {ov : Value} {o : List Nm} {w : World} (h : w.ownsRow lo 9 1 ov o.length (o.map str)) (hs : o.length ≤ 1000) :
    Calls Tryz.prog 15 #[ov] w (fun e w' => e = .returned (.tuple #[]) ∧ w'.ownsRow lo 9 1 ov o.length ((o.mergeSort fun x y => decide (x ≤ y)).map str) ∧ Chg (blk ov) w w') := by
  have h0 := h
  rcases h.2 with ⟨rfl, hn⟩ | ⟨g, cap, cur, rfl, hbase, hb, h1, h2, h3, h4⟩
  · have ho : o = [] := List.eq_nil_of_length_eq_zero hn
    subst ho
    refine (AnyM.slices_Sort_string_none Tryz.sort15 none 0 w).mono ?_
    rintro e w' ⟨rfl, rfl⟩
    exact ⟨rfl, by simpa using h0, Chg.refl _ _⟩
  · refine (AnyM.slices_Sort_string Tryz.sort15 g 0 cap o w (holds_of_block hb (by simpa using h4)) (Array.getElem?_eq_some_iff.1 hb).1 (by omega)).mono ?_
    rintro e w' ⟨rfl, n, os, rfl⟩
    refine ⟨rfl, ownsRow_sorted (by simp) hbase hb h1 h2 h3, ?_⟩
    have := Chg.of_grown (grownBy_sorted (w := w) (g := g) (n := n) (os := os) (o.mergeSort fun x y => decide (x ≤ y)).toArray)
    simpa [blk] using this
theorem pick_any (a : Int) (n : Nat) (w : World) (h0 : 0 < n) (hn : n ≤ 1099511627776) :
    Calls Tryz.prog 16 #[.int .i64 a, .int .i64 n] w (fun e w' => ∃ r : Nat, r < n ∧ e = .returned (.int .i64 r) ∧ w' = w) := by
  have e1 : IntKind.u64.wrap (n : Int) = n := by
    simp only [IntKind.wrap, IntKind.bits, IntKind.signed]; simp; omega
  obtain ⟨u, hu, hu2⟩ : ∃ u : Nat, IntKind.u64.wrap a = (u : Int) ∧ u < 18446744073709551616 := by
    refine ⟨(IntKind.u64.wrap a).toNat, ?_, ?_⟩ <;> (simp only [IntKind.wrap, IntKind.bits, IntKind.signed]; simp; omega)
  have hr : u % n < n := Nat.mod_lt _ h0
  have HE1 := Lib.hid e1; have HU := Lib.hid hu
  clear e1 hu
  go_enter Tryz.func16, Tryz.ntmps16
  go_wp2_with fail
  go_ret
  refine ⟨u % n, hr, ?_, rfl⟩
  show Ending.returned (.int .i64 (wrap64 ((IntKind.u64.wrap a).tmod (n : Int)))) = _
  rw [HU.out, ← Int.ofNat_tmod, IntWalk.wrap64_in _ (by omega)]
end Go.Proofs.YtgnfhognbpifiaaGreatDoor
