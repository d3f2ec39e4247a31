/- slices.IndexFunc, slices.ContainsFunc with obj's closures (laid by gen_w5.py). -/
import Derived.Test.YtjgfclhempjinaaGreatDoorObjW4
namespace Go.Proofs.YtjgfclhempjinaaGreatDoor
open Go Go.RowKit Go.Mq Go.Mq.Obj
set_option maxRecDepth 100000

theorem idx_bad (a : Option Addr) (n cap : Nat) (l : List (List UInt8)) (p : (List UInt8) → Bool) (w : World) (hn : n = l.length) (hlen : n ≤ 1099511627776) (hat : At w a (l.flatMap (fun x : List UInt8 => [str x])))
    (hf : ∀ x ∈ l, ∀ w', Chg [] w w' → Calls Tryz.prog 55 #[str x] w' (Ans w' (.bool (p x)))) :
    Calls Tryz.prog 71 #[.slice a n cap, .func (.func 55) #[] #[]] w (fun e w' => ∃ r : Int, e = .returned (.int .i64 r) ∧ (0 ≤ r ↔ l.any p = true) ∧ Chg [] w w') := by
  have HF := Lib.hid hf
  have HA := Lib.hid hat
  have HN := Lib.hid hn
  clear hf hat hn
  go_enter Tryz.func71, Tryz.ntmps71
  go_wp2_with fail
  go_loopw [5, 8] (fun _ i wr => ∃ k : Nat, k ≤ n ∧ i = .int .i64 k ∧ (l.take k).any p = false ∧ Chg [] w wr) (fun _ i _ => n - (intOf i).toNat)
  case atStart => exact ⟨0, Nat.zero_le _, rfl, by simp, Chg.refl _ _⟩
  case round =>
    obtain ⟨k, hk, rfl, hall, hc⟩ := hrel
    have HALL := Lib.hid hall; clear hall
    by_cases hlt : k < n
    · have hkl : k < l.length := by rw [← HN.out]; exact hlt
      obtain ⟨x, hx⟩ : ∃ x, l[k]? = some x := ⟨l[k], by simp [hkl]⟩
      have hcl := HF.out x (List.mem_of_getElem? hx) wr hc
      obtain ⟨b, off, rfl, hcell⟩ := HA.out (by rw [flat_len _ 1 (fun _ => rfl)]; omega)
      have hcs : ∀ j, j < 1 → wr.cell? ⟨b, off + (k + j), none⟩ = ((fun x : List UInt8 => [str x]) x)[j]? := fun j hj => by
        have h1 := flat_get (fun x : List UInt8 => [str x]) 1 (fun _ => rfl) l k j x hx hj
        have h2 : j < ((fun x : List UInt8 => [str x]) x).length := hj
        rw [List.getElem?_eq_getElem h2] at h1 ⊢
        exact hc.cellSome (hcell _ _ (by simpa using h1)) (by simp)
      have hc0 : wr.cell? ⟨b, off + k, none⟩ = _ := hcs 0 (by omega)
      have HX := Lib.hid hx
      have HCL := Lib.hid hcl
      have HC := Lib.hid hc
      clear hcs hcell hx hcl hc
      cases hp : p x
      all_goals
        have HP := Lib.hid hp
        rw [hp] at HCL
        clear hp
        go_wp2_with fail
        refine HCL.out.mono ?_
        rintro e w1 ⟨rfl, hc1⟩
        have HC1 := Lib.hid hc1; clear hc1
        go_wp2_with fail
      · go_roundw
        case rel =>
          refine ⟨k + 1, by omega, by go_num, ?_, HC.out.then HC1.out⟩
          rw [List.take_add_one, HX.out]
          simp [HALL.out, HP.out]
        case measure => simp [intOf]; omega
      · go_ret
        refine ⟨k, rfl, ?_, HC.out.then HC1.out⟩
        refine ⟨fun _ => List.any_eq_true.2 ⟨x, List.mem_of_getElem? HX.out, HP.out⟩, fun _ => by omega⟩
    · have HC := Lib.hid hc; clear hc
      have HK := Lib.hid (show k = n by omega)
      go_wp2_with fail
      go_ret
      refine ⟨-1, rfl, ?_, HC.out⟩
      have h := HALL.out
      rw [HK.out, HN.out, List.take_length] at h
      rw [h]
      simp

theorem any_bad (a : Option Addr) (n cap : Nat) (l : List (List UInt8)) (p : (List UInt8) → Bool) (w : World) (hn : n = l.length) (hlen : n ≤ 1099511627776) (hat : At w a (l.flatMap (fun x : List UInt8 => [str x])))
    (hf : ∀ x ∈ l, ∀ w', Chg [] w w' → Calls Tryz.prog 55 #[str x] w' (Ans w' (.bool (p x)))) :
    Calls Tryz.prog 56 #[.slice a n cap, .func (.func 55) #[] #[]] w (Ans w (.bool (l.any p))) := by
  have hI := idx_bad  a n cap l p w hn hlen hat hf
  have HI := Lib.hid hI
  clear hI hf hat hn
  go_enter Tryz.func56, Tryz.ntmps56
  go_wp2_with fail
  refine HI.out.mono ?_
  rintro e w1 ⟨r, rfl, hr, hc⟩
  have HR := Lib.hid hr; have HC := Lib.hid hc
  clear hr hc
  go_wp2
  go_ret
  refine ⟨?_, HC.out⟩
  show Ending.returned (.bool (decide (0 ≤ r))) = _
  have : decide (0 ≤ r) = l.any p := by rw [Bool.eq_iff_iff]; simpa using HR.out
  rw [this]
end Go.Proofs.YtjgfclhempjinaaGreatDoor
