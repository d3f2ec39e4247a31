/- marquetrykeep.ObjCuts: the walk. -/
import Derived.Test.YtjgfclhempjinaaDoorObjW14
namespace Go.Proofs.YtjgfclhempjinaaDoor
open Go Go.RowKit Go.Mq Go.Mq.Obj
set_option maxRecDepth 100000

theorem parse_str (s : ByteArray) (w : World) (hl : s.size ≤ 1099511627776) : Calls Tryd.prog 8 #[.string s] w (Parsed s.data.toList w) := by
  have h := parse_any s.data.toList w (by rw [← Lib.size_eq]; exact hl)
  rw [bs_toList] at h
  exact h

/-- What a call of Write's may leave. -/
def Wrote2 (w : World) (e : Ending) (w' : World) : Prop :=
  ((∃ o : ObjD, o.small ∧ right o = true ∧ e = .returned (.tuple #[.string (bs (encO o)), .nilIface])) ∨ e = .returned (.tuple #[.string ⟨#[]⟩, .iface 64 (.int .i64 1)])) ∧ Chg [] w w'
theorem write_obj (B b off : Nat) (o : ObjD) (M : ObjM) (w : World) (h : ObjAt w B b off o M) (hB : B ≤ w.heap.size) (hs : o.small) :
    Calls Tryd.prog 7 #[.pointer (some ⟨b, off, none⟩)] w (Wrote2 w) := by
  refine (write_any B b off o M w h hB hs).mono ?_
  rintro e w' ⟨rfl, hc⟩
  refine ⟨?_, hc⟩
  cases hr : right o
  · exact .inr (by simp)
  · exact .inl ⟨o, hs, hr, by simp⟩

/-- What the two parses tell. -/
theorem cuts_tell {o : ObjD} (hs : o.small) (hr : right o = true) {r : Nat} (h : r < (bs (encO o)).size) (m : ByteArray) :
    parsed ((bs (encO o)).extract 0 r).data.toList = false ∧ parsed ((bs (encO o)) ++ m).data.toList = m.data.toList.isEmpty := by
  have hle : (encO o).length ≤ 1099511627776 := Nat.le_trans (encO_le hr) (by omega)
  constructor
  · rw [bs_extract]
    exact parsed_less hs hr h hle
  · have e : ((bs (encO o)) ++ m).data.toList = encO o ++ m.data.toList := by simp
    rw [e]
    exact parsed_more hs hr _

set_option maxHeartbeats 4000000 in
theorem cuts_walk (v : Value) (cut : Int) (more : ByteArray) (w : World) (Q : Prop) (hm : more.size ≤ 9223372036854775807)
    (hS : Calls Tryd.prog 5 #[v] w (fun e w' => ∃ r, e = .returned (.bool r) ∧ (r = true → Q) ∧ Chg [] w w'))
    (hW : Q → ∀ w', Chg [] w w' → Calls Tryd.prog 7 #[v] w' (Wrote2 w')) :
    Calls Tryd.prog 3 #[v, .int .i64 cut, .string more] w (fun e w' => e = .returned (.bool true) ∧ Chg [] w w') := by
  have HS := Lib.hid hS; have HW := Lib.hid hW
  clear hS hW
  go_enter Tryd.func3, Tryd.ntmps3
  go_wp2_with fail
  refine HS.out.mono ?_; rintro _ w1 ⟨r, rfl, hq, hc⟩
  have HC := Lib.hid hc; have HQ := Lib.hid hq; clear hc hq
  cases r
  · go_wp2_with fail
    go_ret
    exact ⟨rfl, HC.out⟩
  cases hl : decide ((100 : Int) < (more.size : Int))
  case true =>
    go_wp2_with fail
    go_ret
    exact ⟨rfl, HC.out⟩
  case false =>
  have hl2 : more.size ≤ 100 := by simp at hl; omega
  have HL2 := Lib.hid hl2
  go_wp2_with fail
  refine (written_any _).mono ?_; rintro _ w2 ⟨rfl, hc⟩
  have HC2 := Lib.hid (HC.out.then hc); clear hc
  go_wp2_with fail
  refine (HW.out (HQ.out (by first | rfl | trivial)) _ HC2.out).mono ?_; rintro _ w3 ⟨⟨o, hs, hr, rfl⟩ | rfl, hc⟩
  · have HC3 := Lib.hid (HC2.out.then hc); clear hc
    have hsz : 1 ≤ (bs (encO o)).size := by
      have := encT_pos o.name
      rw [bs_size]
      have e := encO_eq o []
      rw [List.append_nil] at e
      rw [e, List.length_append]; omega
    have hle : (bs (encO o)).size ≤ 1000000 := encO_le hr
    have hT := (fun (r : Nat) (h : r < (bs (encO o)).size) => cuts_tell hs hr h more)
    obtain ⟨s, hsv⟩ : ∃ s, bs (encO o) = s := ⟨_, rfl⟩
    rw [hsv] at hsz hle hT ⊢
    have HT := Lib.hid hT
    clear hT hsv hs hr
    have hP := pick_any cut s.size
    go_wp2_with fail
    refine (pick_any cut s.size _ (by omega) (by omega)).mono ?_; rintro _ _ ⟨r, hr, rfl, rfl⟩
    go_wp2_with fail
    refine (parse_str _ _ ?_).mono ?_
    · rw [ByteArray.size_extract]; omega
    rintro _ w4 ⟨hc, ⟨hp, _⟩ | ⟨_, rfl⟩⟩
    · rw [(HT.out r hr).1] at hp; cases hp
    have HC4 := Lib.hid (HC3.out.then hc); clear hc
    have hpm := (HT.out r hr).2
    have HPM := Lib.hid hpm; clear hpm
    have hadd : (s ++ more).size ≤ 1099511627776 := by rw [ByteArray.size_append]; omega
    have HADD := Lib.hid hadd; clear hadd
    go_wp2_with fail
    refine (parse_str _ _ HADD.out).mono ?_
    rintro _ w5 ⟨hc, ⟨hp, bo, M, rfl, _⟩ | ⟨hp, rfl⟩⟩
    · have HC5 := Lib.hid (HC4.out.then hc); clear hc
      have hme := HPM.out
      rw [hp] at hme
      have hm0 : more.data.toList = [] := by simpa using hme.symm
      have hm1 : more = ⟨#[]⟩ := by rw [← Lib.mk_data more, hm0]
      clear hp hme hm0
      subst hm1
      go_wp2_with fail
      go_ret
      exact ⟨rfl, HC5.out⟩
    · have HC5 := Lib.hid (HC4.out.then hc); clear hc
      have hme := HPM.out
      rw [hp] at hme
      have hme : more.toList.isEmpty = false := by
        cases hct : more.data.toList with
        | nil => rw [hct] at hme; cases hme
        | cons c t => rw [← bs_toList more, hct]; simp
      clear hp
      go_wp2_with fail
      go_ret
      exact ⟨rfl, HC5.out⟩
  · go_wp2_with fail
    go_ret
    exact ⟨rfl, HC2.out.then hc⟩
end Go.Proofs.YtjgfclhempjinaaDoor
