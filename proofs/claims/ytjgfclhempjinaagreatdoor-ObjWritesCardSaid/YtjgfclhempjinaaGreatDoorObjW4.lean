/- obj.Name; a name that is none; a list with such a name. -/
import Derived.Test.YtjgfclhempjinaaGreatDoorShelf
import Derived.Test.YtjgfclhempjinaaGreatDoorObjMem
import Derived.Test.YtjgfclhempjinaaGreatDoorRegion3
namespace Go.Proofs.YtjgfclhempjinaaGreatDoor
open Go Go.RowKit Go.Mq Go.Mq.Obj

/-- A call that answers v, and makes memory alone. -/
def Ans (w : World) (v : Value) (e : Ending) (w' : World) : Prop := e = .returned v ∧ Chg [] w w'

theorem trim_any (l : List UInt8) (w : World) (h : l.length ≤ 1099511627776) : Calls Tryz.prog 33 #[.string (bs l), .string ⟨#[97, 98, 99, 100, 101, 102, 103, 104, 105, 106, 107, 108, 109, 110, 111, 112, 113, 114, 115, 116, 117, 118, 119, 120, 121, 122, 48, 49, 50, 51, 52, 53, 54, 55, 56, 57]⟩] w (Ans w (str (Lib.trimS l letsDigs))) := by
  refine (Any.strings_Trim_laid Tryz.lays160 (by kernel_rfl) (bs l) ⟨#[97, 98, 99, 100, 101, 102, 103, 104, 105, 106, 107, 108, 109, 110, 111, 112, 113, 114, 115, 116, 117, 118, 119, 120, 121, 122, 48, 49, 50, 51, 52, 53, 54, 55, 56, 57]⟩ w (by rw [bs_size]; omega) (by decide) (Go.Proofs.ascii_of_all (by decide))).mono ?_
  rintro e w' ⟨rfl, hb⟩
  exact ⟨rfl, Chg.of_below hb⟩
theorem index_any (c : UInt8) (w : World) : Calls Tryz.prog 32 #[.string ⟨#[97, 98, 99, 100, 101, 102, 103, 104, 105, 106, 107, 108, 109, 110, 111, 112, 113, 114, 115, 116, 117, 118, 119, 120, 121, 122]⟩, .int .u8 c.toNat] w (fun e w' => e = .returned (.int .i64 (Lib.indexByte lets c)) ∧ w = w') := by
  refine (Any.strings_IndexByte Tryz.lays137 ⟨#[97, 98, 99, 100, 101, 102, 103, 104, 105, 106, 107, 108, 109, 110, 111, 112, 113, 114, 115, 116, 117, 118, 119, 120, 121, 122]⟩ c.toNat w).mono ?_
  rintro e w' ⟨rfl, rfl⟩
  refine ⟨?_, rfl⟩
  have e : ((c.toNat : Int).toNat.toUInt8) = c := by simp
  rw [e]
  rfl

set_option maxRecDepth 100000 in
theorem name_any (l : List UInt8) (w : World) (h : l.length ≤ 1099511627776) : Calls Tryz.prog 10 #[.string (bs l)] w (Ans w (.bool (nameOK l))) := by
  cases l with
  | nil =>
    go_enter Tryz.func10, Tryz.ntmps10
    go_wp2_with fail
    go_ret
    exact ⟨rfl, Chg.refl _ _⟩
  | cons c t =>
    have hT := trim_any (c :: t) w h
    have hI := index_any c w
    obtain ⟨s, hs⟩ : ∃ s, s = bs (c :: t) := ⟨_, rfl⟩
    have hidx : ∀ w, (Instr.index 9 (.string s) (.int .i64 0)).run Tryz.prog w = .ok (.int .u8 c.toNat) w := run_index_str (P := Tryz.prog) Tryz.underlying9 (s := s) (k := 0) (c := c) (by rw [hs, bs_get]; rfl)
    have hne : s.toList.isEmpty = false := by rw [hs]; simp
    have hsz : s.size = (c :: t).length := by rw [hs]; rfl
    rw [← hs] at hT ⊢
    have HT := Lib.hid hT; have HI := Lib.hid hI
    have HZ := Lib.hid hsz
    clear hT hI hs hsz h
    by_cases h10 : s.size ≤ 10
    · by_cases hl : 0 ≤ Lib.indexByte lets c
      · obtain ⟨k, hk⟩ : ∃ k, k = Lib.indexByte lets c := ⟨_, rfl⟩
        rw [← hk] at HI hl
        have HK := Lib.hid hk; clear hk
        cases hr : (Lib.trimS (c :: t) letsDigs) with
        | nil =>
          have HR := Lib.hid hr
          rw [hr] at HT
          clear hr
          go_enter Tryz.func10, Tryz.ntmps10
          go_wp2_with fail
          refine HI.out.mono ?_
          rintro e w1 ⟨rfl, rfl⟩
          go_wp2_with fail
          refine HT.out.mono ?_
          rintro e w1 ⟨rfl, hc⟩
          have HC := Lib.hid hc; clear hc
          go_wp2_with fail
          go_ret
          refine ⟨?_, HC.out⟩
          have : nameOK (c :: t) = true := by rw [nameOK, HR.out, ← HK.out, ← HZ.out]; simp [h10, hl]
          rw [this]
          rfl
        | cons d u =>
          have HR := Lib.hid hr
          rw [hr] at HT
          have hne2 : (bs (d :: u)).toList.isEmpty = false := by simp
          obtain ⟨s2, hs2⟩ : ∃ s2, s2 = bs (d :: u) := ⟨_, rfl⟩
          have e : str (d :: u) = .string s2 := by rw [hs2]
          rw [← hs2] at hne2
          rw [e] at HT
          clear hr hs2 e
          go_enter Tryz.func10, Tryz.ntmps10
          go_wp2_with fail
          refine HI.out.mono ?_
          rintro e w1 ⟨rfl, rfl⟩
          go_wp2_with fail
          refine HT.out.mono ?_
          rintro e w1 ⟨rfl, hc⟩
          have HC := Lib.hid hc; clear hc
          go_wp2_with fail
          go_ret
          refine ⟨?_, HC.out⟩
          have : nameOK (c :: t) = false := by rw [nameOK, HR.out]; simp
          rw [this]
          rfl
      · obtain ⟨k, hk⟩ : ∃ k, k = Lib.indexByte lets c := ⟨_, rfl⟩
        rw [← hk] at HI hl
        have HK := Lib.hid hk; clear hk
        go_enter Tryz.func10, Tryz.ntmps10
        go_wp2_with fail
        refine HI.out.mono ?_
        rintro e w1 ⟨rfl, rfl⟩
        go_wp2_with fail
        go_ret
        refine ⟨?_, Chg.refl _ _⟩
        have : nameOK (c :: t) = false := by rw [nameOK, ← HK.out, decide_eq_false (show ¬ 0 ≤ k by omega)]; simp
        rw [this]
        rfl
    · go_enter Tryz.func10, Tryz.ntmps10
      go_wp2_with fail
      go_ret
      refine ⟨?_, Chg.refl _ _⟩
      have : nameOK (c :: t) = false := by simp only [nameOK, ← HZ.out, h10, decide_false, Bool.false_and]
      rw [this]
      rfl

theorem bad_any (l : List UInt8) (w : World) (h : l.length ≤ 1099511627776) : Calls Tryz.prog 55 #[.string (bs l)] w (Ans w (.bool (!nameOK l))) := by
  have hN := name_any l w h
  have HN := Lib.hid hN; clear hN
  go_enter Tryz.func55, Tryz.ntmps55
  go_wp2_with fail
  refine HN.out.mono ?_
  rintro e w1 ⟨rfl, hc⟩
  have HC := Lib.hid hc; clear hc
  go_wp2
  go_ret
  exact ⟨rfl, HC.out⟩
end Go.Proofs.YtjgfclhempjinaaGreatDoor
