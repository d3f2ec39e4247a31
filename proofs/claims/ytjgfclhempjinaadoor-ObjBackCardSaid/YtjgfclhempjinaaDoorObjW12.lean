/- marquetrykeep.small (laid by gen_w12.py). -/
import Derived.Test.YtjgfclhempjinaaDoorObjW5
import Derived.Test.YtjgfclhempjinaaDoorObjOpen
namespace Go.Mq.Obj
open Go Go.RowKit Go.Mq
def longK (l : List UInt8) : Bool := decide (40 < l.length)
def longU (u : UseD) : Bool := longK u.name || decide (110 < u.names.length) || decide (4100 < u.need.length) || u.names.any longK
theorem longK_ok {l : List UInt8} (h : longK l = false) : l.length ≤ 1099511627776 := by unfold longK at h; simp at h; omega
theorem any_ok {α : Type} {p : α → Bool} {l : List α} (h : l.any p = false) : ∀ x ∈ l, p x = false := by
  intro x hx
  have := List.any_eq_false.1 h x hx
  simpa using this
theorem tiny {o : ObjD} (hf : o.held) (h1 : longK o.name = false) (h2 : decide ((o.syms.length : Int) ≤ 30) = true) (h3 : decide ((o.uses.length : Int) ≤ 10) = true) (h4 : decide ((o.vars.length : Int) ≤ 15) = true) (h5 : decide ((o.procs.length : Int) ≤ 15) = true)
    (h6 : decide ((o.names.length : Int) ≤ 15) = true) (h7 : decide ((o.code.length : Int) ≤ 80) = true) (h8 : o.names.any longK = false) (h9 : o.syms.any (fun s => longK s.name) = false) (h10 : o.vars.any (fun g => longK g.name) = false) (h11 : o.uses.any longU = false) : o.small := by
  simp only [decide_eq_true_eq] at h2 h3 h4 h5 h6 h7
  refine ⟨hf.fit, longK_ok h1, ⟨by omega, fun s hs => longK_ok (any_ok h9 s hs)⟩, ⟨by omega, fun u hu => ?_⟩, ⟨by omega, fun s hs => longK_ok (any_ok h10 s hs)⟩, by omega, ⟨by omega, fun n hn => longK_ok (any_ok h8 n hn)⟩, by omega⟩
  have h := any_ok h11 u hu
  simp only [longU, Bool.or_eq_false_iff, decide_eq_false_iff_not] at h
  exact ⟨longK_ok h.1.1.1, by omega, by omega, fun n hn => longK_ok (any_ok h.2 n hn)⟩
end Go.Mq.Obj

namespace Go.Proofs.YtjgfclhempjinaaDoor
open Go Go.RowKit Go.Mq Go.Mq.Obj
set_option maxRecDepth 100000

theorem long_any (l : List UInt8) (w : World) (hl : l.length ≤ 9223372036854775807) : Calls Tryd.prog 14 #[str l] w (Ans w (.bool (longK l))) := by
  obtain ⟨s, hs⟩ : ∃ s, s = bs l := ⟨_, rfl⟩
  have hsz : s.size = l.length := by rw [hs]; rfl
  have e : str l = .string s := by rw [hs]
  have hl2 : s.size ≤ 9223372036854775807 := by omega
  rw [e]
  clear e hs hl
  have HZ := Lib.hid hsz; clear hsz
  go_enter Tryd.func14, Tryd.ntmps14
  go_wp2_with fail
  go_ret
  refine ⟨?_, Chg.refl _ _⟩
  have : decide ((40 : Int) < (s.size : Int)) = longK l := by rw [longK, ← HZ.out, Bool.eq_iff_iff]; simp; omega
  show Ending.returned (.bool (decide ((40 : Int) < (s.size : Int)))) = _
  rw [this]

theorem idx_long (a : Option Addr) (n cap : Nat) (l : List (List UInt8)) (p : (List UInt8) → Bool) (w : World) (hn : n = l.length) (hlen : n ≤ 1099511627776) (hat : At w a (l.flatMap (fun x : List UInt8 => [str x])))
    (hf : ∀ x ∈ l, ∀ w', Chg [] w w' → Calls Tryd.prog 14 #[str x] w' (Ans w' (.bool (p x)))) :
    Calls Tryd.prog 41 #[.slice a n cap, .func (.func 14) #[] #[]] w (fun e w' => ∃ r : Int, e = .returned (.int .i64 r) ∧ (0 ≤ r ↔ l.any p = true) ∧ Chg [] w w') := by
  have HF := Lib.hid hf
  have HA := Lib.hid hat
  have HN := Lib.hid hn
  clear hf hat hn
  go_enter Tryd.func41, Tryd.ntmps41
  go_wp2_with fail
  go_loopw [5, 8] (fun _ i wr => ∃ k : Nat, k ≤ n ∧ i = .int .i64 k ∧ (l.take k).any p = false ∧ Chg [] w wr) (fun _ i _ => n - (intOf i).toNat)
  case atStart => exact ⟨0, Nat.zero_le _, rfl, by simp, Chg.refl _ _⟩
  case round =>
    obtain ⟨k, hk, rfl, hall, hc⟩ := hrel
    have HALL := Lib.hid hall; clear hall
    by_cases hlt : k < n
    · have hkl : k < l.length := by rw [← HN.out]; exact hlt
      obtain ⟨x, hx⟩ : ∃ x, l[k]? = some x := ⟨l[k], by simp [hkl]⟩
      have hcl := HF.out x (List.mem_of_getElem? hx) wr hc
      obtain ⟨b, off, rfl, hcell⟩ := HA.out (by rw [flat_len _ 1 (fun _ => rfl)]; omega)
      have hcs : ∀ j, j < 1 → wr.cell? ⟨b, off + (k + j), none⟩ = ((fun x : List UInt8 => [str x]) x)[j]? := fun j hj => by
        have h1 := flat_get (fun x : List UInt8 => [str x]) 1 (fun _ => rfl) l k j x hx hj
        have h2 : j < ((fun x : List UInt8 => [str x]) x).length := hj
        rw [List.getElem?_eq_getElem h2] at h1 ⊢
        exact hc.cellSome (hcell _ _ (by simpa using h1)) (by simp)
      have hc0 : wr.cell? ⟨b, off + k, none⟩ = _ := hcs 0 (by omega)
      have HX := Lib.hid hx
      have HCL := Lib.hid hcl
      have HC := Lib.hid hc
      clear hcs hcell hx hcl hc
      cases hp : p x
      all_goals
        have HP := Lib.hid hp
        rw [hp] at HCL
        clear hp
        go_wp2_with fail
        refine HCL.out.mono ?_
        rintro e w1 ⟨rfl, hc1⟩
        have HC1 := Lib.hid hc1; clear hc1
        go_wp2_with fail
      · go_roundw
        case rel =>
          refine ⟨k + 1, by omega, by go_num, ?_, HC.out.then HC1.out⟩
          rw [List.take_add_one, HX.out]
          simp [HALL.out, HP.out]
        case measure => simp [intOf]; omega
      · go_ret
        refine ⟨k, rfl, ?_, HC.out.then HC1.out⟩
        refine ⟨fun _ => List.any_eq_true.2 ⟨x, List.mem_of_getElem? HX.out, HP.out⟩, fun _ => by omega⟩
    · have HC := Lib.hid hc; clear hc
      have HK := Lib.hid (show k = n by omega)
      go_wp2_with fail
      go_ret
      refine ⟨-1, rfl, ?_, HC.out⟩
      have h := HALL.out
      rw [HK.out, HN.out, List.take_length] at h
      rw [h]
      simp

theorem any_long (a : Option Addr) (n cap : Nat) (l : List (List UInt8)) (p : (List UInt8) → Bool) (w : World) (hn : n = l.length) (hlen : n ≤ 1099511627776) (hat : At w a (l.flatMap (fun x : List UInt8 => [str x])))
    (hf : ∀ x ∈ l, ∀ w', Chg [] w w' → Calls Tryd.prog 14 #[str x] w' (Ans w' (.bool (p x)))) :
    Calls Tryd.prog 15 #[.slice a n cap, .func (.func 14) #[] #[]] w (Ans w (.bool (l.any p))) := by
  have hI := idx_long  a n cap l p w hn hlen hat hf
  have HI := Lib.hid hI
  clear hI hf hat hn
  go_enter Tryd.func15, Tryd.ntmps15
  go_wp2_with fail
  refine HI.out.mono ?_
  rintro e w1 ⟨r, rfl, hr, hc⟩
  have HR := Lib.hid hr; have HC := Lib.hid hc
  clear hr hc
  go_wp2
  go_ret
  refine ⟨?_, HC.out⟩
  show Ending.returned (.bool (decide (0 ≤ r))) = _
  have : decide (0 ≤ r) = l.any p := by rw [Bool.eq_iff_iff]; simpa using HR.out
  rw [this]

theorem small2_any (x : SymD) (bo : Nat) (w : World) (hx : x.name.length ≤ 9223372036854775807) (hc : w.cell? ⟨bo, 0, none⟩ = (some (.func (.func 14) #[] #[]))) :
    Calls Tryd.prog 17 #[.agg #[str x.name, .int .i64 x.len, .int .i64 x.args], .pointer (some ⟨bo, 0, none⟩)] w (Ans w (.bool (longK x.name))) := by
  have hl := (fun w' => long_any x.name w' hx)
  have HL := Lib.hid hl; clear hl
  have hlt := lt_of_cell hc
  go_enter Tryd.func17, Tryd.ntmps17
  go_wp2_with fail
  refine (HL.out _).mono ?_; rintro _ w1 ⟨rfl, hw⟩
  have HW := Lib.hid hw; clear hw
  go_wp2_with fail
  go_ret
  exact ⟨rfl, ((Chg.refl [] w).alloc _).then HW.out⟩

theorem small3_any (x : GlobD) (bo : Nat) (w : World) (hx : x.name.length ≤ 9223372036854775807) (hc : w.cell? ⟨bo, 0, none⟩ = (some (.func (.func 14) #[] #[]))) :
    Calls Tryd.prog 19 #[.agg #[str x.name, .int .i64 x.place, .int .i64 x.len, .bool x.seen], .pointer (some ⟨bo, 0, none⟩)] w (Ans w (.bool (longK x.name))) := by
  have hl := (fun w' => long_any x.name w' hx)
  have HL := Lib.hid hl; clear hl
  have hlt := lt_of_cell hc
  go_enter Tryd.func19, Tryd.ntmps19
  go_wp2_with fail
  refine (HL.out _).mono ?_; rintro _ w1 ⟨rfl, hw⟩
  have HW := Lib.hid hw; clear hw
  go_wp2_with fail
  go_ret
  exact ⟨rfl, ((Chg.refl [] w).alloc _).then HW.out⟩

theorem idx_lsym (bo : Nat) (a : Option Addr) (n cap : Nat) (l : List SymD) (p : SymD → Bool) (w : World) (hn : n = l.length) (hlen : n ≤ 1099511627776) (hat : At w a (l.flatMap SymD.cells))
    (hf : ∀ x ∈ l, ∀ w', Chg [] w w' → Calls Tryd.prog 17 #[.agg #[str x.name, .int .i64 x.len, .int .i64 x.args], .pointer (some ⟨bo, 0, none⟩)] w' (Ans w' (.bool (p x)))) :
    Calls Tryd.prog 42 #[.slice a n cap, .func (.func 17) #[] #[.pointer (some ⟨bo, 0, none⟩)]] w (fun e w' => ∃ r : Int, e = .returned (.int .i64 r) ∧ (0 ≤ r ↔ l.any p = true) ∧ Chg [] w w') := by
  have HF := Lib.hid hf
  have HA := Lib.hid hat
  have HN := Lib.hid hn
  clear hf hat hn
  go_enter Tryd.func42, Tryd.ntmps42
  go_wp2_with fail
  go_loopw [5, 8] (fun _ i wr => ∃ k : Nat, k ≤ n ∧ i = .int .i64 k ∧ (l.take k).any p = false ∧ Chg [] w wr) (fun _ i _ => n - (intOf i).toNat)
  case atStart => exact ⟨0, Nat.zero_le _, rfl, by simp, Chg.refl _ _⟩
  case round =>
    obtain ⟨k, hk, rfl, hall, hc⟩ := hrel
    have HALL := Lib.hid hall; clear hall
    by_cases hlt : k < n
    · have hkl : k < l.length := by rw [← HN.out]; exact hlt
      obtain ⟨x, hx⟩ : ∃ x, l[k]? = some x := ⟨l[k], by simp [hkl]⟩
      have hcl := HF.out x (List.mem_of_getElem? hx) wr hc
      obtain ⟨b, off, rfl, hcell⟩ := HA.out (by rw [flat_len _ 3 (fun _ => rfl)]; omega)
      have hcs : ∀ j, j < 3 → wr.cell? ⟨b, off + (k * 3 + j), none⟩ = (SymD.cells x)[j]? := fun j hj => by
        have h1 := flat_get SymD.cells 3 (fun _ => rfl) l k j x hx hj
        have h2 : j < (SymD.cells x).length := hj
        rw [List.getElem?_eq_getElem h2] at h1 ⊢
        exact hc.cellSome (hcell _ _ (by simpa using h1)) (by simp)
      have hc0 : wr.cell? ⟨b, off + k * 3, none⟩ = some (str x.name) := by have := hcs 0 (by omega); rw [← Nat.add_assoc] at this; exact this
      have hc1 : wr.cell? ⟨b, off + k * 3 + 1, none⟩ = some (.int .i64 x.len) := by have := hcs 1 (by omega); rw [← Nat.add_assoc] at this; exact this
      have hc2 : wr.cell? ⟨b, off + k * 3 + 2, none⟩ = some (.int .i64 x.args) := by have := hcs 2 (by omega); rw [← Nat.add_assoc] at this; exact this
      have HX := Lib.hid hx
      have HCL := Lib.hid hcl
      have HC := Lib.hid hc
      clear hcs hcell hx hcl hc
      cases hp : p x
      all_goals
        have HP := Lib.hid hp
        rw [hp] at HCL
        clear hp
        go_wp2_with fail
        refine HCL.out.mono ?_
        rintro e w1 ⟨rfl, hc1⟩
        have HC1 := Lib.hid hc1; clear hc1
        go_wp2_with fail
      · go_roundw
        case rel =>
          refine ⟨k + 1, by omega, by go_num, ?_, HC.out.then HC1.out⟩
          rw [List.take_add_one, HX.out]
          simp [HALL.out, HP.out]
        case measure => simp [intOf]; omega
      · go_ret
        refine ⟨k, rfl, ?_, HC.out.then HC1.out⟩
        refine ⟨fun _ => List.any_eq_true.2 ⟨x, List.mem_of_getElem? HX.out, HP.out⟩, fun _ => by omega⟩
    · have HC := Lib.hid hc; clear hc
      have HK := Lib.hid (show k = n by omega)
      go_wp2_with fail
      go_ret
      refine ⟨-1, rfl, ?_, HC.out⟩
      have h := HALL.out
      rw [HK.out, HN.out, List.take_length] at h
      rw [h]
      simp

theorem any_lsym (bo : Nat) (a : Option Addr) (n cap : Nat) (l : List SymD) (p : SymD → Bool) (w : World) (hn : n = l.length) (hlen : n ≤ 1099511627776) (hat : At w a (l.flatMap SymD.cells))
    (hf : ∀ x ∈ l, ∀ w', Chg [] w w' → Calls Tryd.prog 17 #[.agg #[str x.name, .int .i64 x.len, .int .i64 x.args], .pointer (some ⟨bo, 0, none⟩)] w' (Ans w' (.bool (p x)))) :
    Calls Tryd.prog 16 #[.slice a n cap, .func (.func 17) #[] #[.pointer (some ⟨bo, 0, none⟩)]] w (Ans w (.bool (l.any p))) := by
  have hI := idx_lsym bo a n cap l p w hn hlen hat hf
  have HI := Lib.hid hI
  clear hI hf hat hn
  go_enter Tryd.func16, Tryd.ntmps16
  go_wp2_with fail
  refine HI.out.mono ?_
  rintro e w1 ⟨r, rfl, hr, hc⟩
  have HR := Lib.hid hr; have HC := Lib.hid hc
  clear hr hc
  go_wp2
  go_ret
  refine ⟨?_, HC.out⟩
  show Ending.returned (.bool (decide (0 ≤ r))) = _
  have : decide (0 ≤ r) = l.any p := by rw [Bool.eq_iff_iff]; simpa using HR.out
  rw [this]

theorem idx_lglob (bo : Nat) (a : Option Addr) (n cap : Nat) (l : List GlobD) (p : GlobD → Bool) (w : World) (hn : n = l.length) (hlen : n ≤ 1099511627776) (hat : At w a (l.flatMap GlobD.cells))
    (hf : ∀ x ∈ l, ∀ w', Chg [] w w' → Calls Tryd.prog 19 #[.agg #[str x.name, .int .i64 x.place, .int .i64 x.len, .bool x.seen], .pointer (some ⟨bo, 0, none⟩)] w' (Ans w' (.bool (p x)))) :
    Calls Tryd.prog 43 #[.slice a n cap, .func (.func 19) #[] #[.pointer (some ⟨bo, 0, none⟩)]] w (fun e w' => ∃ r : Int, e = .returned (.int .i64 r) ∧ (0 ≤ r ↔ l.any p = true) ∧ Chg [] w w') := by
  have HF := Lib.hid hf
  have HA := Lib.hid hat
  have HN := Lib.hid hn
  clear hf hat hn
  go_enter Tryd.func43, Tryd.ntmps43
  go_wp2_with fail
  go_loopw [5, 8] (fun _ i wr => ∃ k : Nat, k ≤ n ∧ i = .int .i64 k ∧ (l.take k).any p = false ∧ Chg [] w wr) (fun _ i _ => n - (intOf i).toNat)
  case atStart => exact ⟨0, Nat.zero_le _, rfl, by simp, Chg.refl _ _⟩
  case round =>
    obtain ⟨k, hk, rfl, hall, hc⟩ := hrel
    have HALL := Lib.hid hall; clear hall
    by_cases hlt : k < n
    · have hkl : k < l.length := by rw [← HN.out]; exact hlt
      obtain ⟨x, hx⟩ : ∃ x, l[k]? = some x := ⟨l[k], by simp [hkl]⟩
      have hcl := HF.out x (List.mem_of_getElem? hx) wr hc
      obtain ⟨b, off, rfl, hcell⟩ := HA.out (by rw [flat_len _ 4 (fun _ => rfl)]; omega)
      have hcs : ∀ j, j < 4 → wr.cell? ⟨b, off + (k * 4 + j), none⟩ = (GlobD.cells x)[j]? := fun j hj => by
        have h1 := flat_get GlobD.cells 4 (fun _ => rfl) l k j x hx hj
        have h2 : j < (GlobD.cells x).length := hj
        rw [List.getElem?_eq_getElem h2] at h1 ⊢
        exact hc.cellSome (hcell _ _ (by simpa using h1)) (by simp)
      have hc0 : wr.cell? ⟨b, off + k * 4, none⟩ = some (str x.name) := by have := hcs 0 (by omega); rw [← Nat.add_assoc] at this; exact this
      have hc1 : wr.cell? ⟨b, off + k * 4 + 1, none⟩ = some (.int .i64 x.place) := by have := hcs 1 (by omega); rw [← Nat.add_assoc] at this; exact this
      have hc2 : wr.cell? ⟨b, off + k * 4 + 2, none⟩ = some (.int .i64 x.len) := by have := hcs 2 (by omega); rw [← Nat.add_assoc] at this; exact this
      have hc3 : wr.cell? ⟨b, off + k * 4 + 3, none⟩ = some (.bool x.seen) := by have := hcs 3 (by omega); rw [← Nat.add_assoc] at this; exact this
      have HX := Lib.hid hx
      have HCL := Lib.hid hcl
      have HC := Lib.hid hc
      clear hcs hcell hx hcl hc
      cases hp : p x
      all_goals
        have HP := Lib.hid hp
        rw [hp] at HCL
        clear hp
        go_wp2_with fail
        refine HCL.out.mono ?_
        rintro e w1 ⟨rfl, hc1⟩
        have HC1 := Lib.hid hc1; clear hc1
        go_wp2_with fail
      · go_roundw
        case rel =>
          refine ⟨k + 1, by omega, by go_num, ?_, HC.out.then HC1.out⟩
          rw [List.take_add_one, HX.out]
          simp [HALL.out, HP.out]
        case measure => simp [intOf]; omega
      · go_ret
        refine ⟨k, rfl, ?_, HC.out.then HC1.out⟩
        refine ⟨fun _ => List.any_eq_true.2 ⟨x, List.mem_of_getElem? HX.out, HP.out⟩, fun _ => by omega⟩
    · have HC := Lib.hid hc; clear hc
      have HK := Lib.hid (show k = n by omega)
      go_wp2_with fail
      go_ret
      refine ⟨-1, rfl, ?_, HC.out⟩
      have h := HALL.out
      rw [HK.out, HN.out, List.take_length] at h
      rw [h]
      simp

theorem any_lglob (bo : Nat) (a : Option Addr) (n cap : Nat) (l : List GlobD) (p : GlobD → Bool) (w : World) (hn : n = l.length) (hlen : n ≤ 1099511627776) (hat : At w a (l.flatMap GlobD.cells))
    (hf : ∀ x ∈ l, ∀ w', Chg [] w w' → Calls Tryd.prog 19 #[.agg #[str x.name, .int .i64 x.place, .int .i64 x.len, .bool x.seen], .pointer (some ⟨bo, 0, none⟩)] w' (Ans w' (.bool (p x)))) :
    Calls Tryd.prog 18 #[.slice a n cap, .func (.func 19) #[] #[.pointer (some ⟨bo, 0, none⟩)]] w (Ans w (.bool (l.any p))) := by
  have hI := idx_lglob bo a n cap l p w hn hlen hat hf
  have HI := Lib.hid hI
  clear hI hf hat hn
  go_enter Tryd.func18, Tryd.ntmps18
  go_wp2_with fail
  refine HI.out.mono ?_
  rintro e w1 ⟨r, rfl, hr, hc⟩
  have HR := Lib.hid hr; have HC := Lib.hid hc
  clear hr hc
  go_wp2
  go_ret
  refine ⟨?_, HC.out⟩
  show Ending.returned (.bool (decide (0 ≤ r))) = _
  have : decide (0 ≤ r) = l.any p := by rw [Bool.eq_iff_iff]; simpa using HR.out
  rw [this]

set_option maxHeartbeats 4000000 in
theorem small4_any (m : UseM) (bo : Nat) (w : World) (hn : m.u.name.length ≤ 9223372036854775807) (hd : m.u.need.length ≤ 9223372036854775807) (hl : m.u.names.length ≤ 9223372036854775807) (hln : ∀ n ∈ m.u.names, n.length ≤ 9223372036854775807)
    (hat : At w m.at_ (m.u.names.map str)) (hc : w.cell? ⟨bo, 0, none⟩ = (some (.func (.func 14) #[] #[]))) :
    Calls Tryd.prog 21 #[.agg #[str m.u.name, str m.u.need, .slice m.at_ m.u.names.length m.cap], .pointer (some ⟨bo, 0, none⟩)] w (Ans w (.bool (longU m.u))) := by
  obtain ⟨⟨nm, nd, ns⟩, at_, cap⟩ := m
  dsimp only at *
  have hL := (fun w' => long_any nm w' hn)
  have hlt := lt_of_cell hc
  obtain ⟨sd, hsd⟩ : ∃ s, s = bs nd := ⟨_, rfl⟩
  have hsz : sd.size = nd.length := by rw [hsd]; rfl
  have hd2 : sd.size ≤ 9223372036854775807 := by omega
  have eS : str nd = .string sd := by rw [hsd]
  rw [eS]
  have hN : ns.length ≤ 1099511627776 → ∀ w', Chg [] w w' → Calls Tryd.prog 15 #[.slice at_ ns.length cap, .func (.func 14) #[] #[]] w' (Ans w' (.bool (ns.any longK))) := fun h9 w' hc' =>
    any_long at_ ns.length cap ns longK w' rfl h9 (by have := hat.kept hc' (by simp); rw [map_flat] at this; exact this) (fun x hx w2 _ => long_any x w2 (hln x hx))
  have HC0 := Lib.hid hc
  have HS := Lib.hid (show longU ⟨nm, nd, ns⟩ = (longK nm || decide ((110 : Int) < (ns.length : Int)) || decide ((4100 : Int) < (sd.size : Int)) || ns.any longK) by
    unfold longU
    rw [hsz]
    have e2 : decide ((110 : Int) < (ns.length : Int)) = decide (110 < ns.length) := by rw [Bool.eq_iff_iff]; simp; omega
    have e3 : decide ((4100 : Int) < (nd.length : Int)) = decide (4100 < nd.length) := by rw [Bool.eq_iff_iff]; simp; omega
    rw [e2, e3])
  rw [HS.out]
  cases t1 : longK nm
  case true =>
    rw [t1] at hL
    have HL := Lib.hid hL
    clear hL hN hat hn hd hl hln hsd hsz eS HS t1
    go_enter Tryd.func21, Tryd.ntmps21
    go_wp2_with fail
    refine (HL.out _).mono ?_; rintro _ w1 ⟨rfl, hw⟩
    have HW := Lib.hid hw; clear hw
    go_wp2_with fail
    go_ret
    exact ⟨by simp, ((Chg.refl [] w).alloc _).then HW.out⟩
  case false =>
  rw [t1] at hL
  cases t2 : decide ((110 : Int) < (ns.length : Int))
  case true =>
    have HL := Lib.hid hL
    clear hL hN hat hn hd hln hsd hsz eS HS t1
    go_enter Tryd.func21, Tryd.ntmps21
    go_wp2_with fail
    refine (HL.out _).mono ?_; rintro _ w1 ⟨rfl, hw⟩
    have hlt1 : w.heap.size < w1.heap.size := by have := hw.size; simp at this; omega
    have hcc := Chg.cells hw (b := w.heap.size) (by simp) (by simp)
    have HW := Lib.hid hw; clear hw
    go_wp2_with fail
    go_ret
    exact ⟨by simp, ((Chg.refl [] w).alloc _).then HW.out⟩
  case false =>
  have hN := hN (by simp at t2; omega)
  cases t3 : decide ((4100 : Int) < (sd.size : Int))
  case true =>
    have HL := Lib.hid hL
    clear hL hN hat hn hd hln hsd hsz eS HS t1
    go_enter Tryd.func21, Tryd.ntmps21
    go_wp2_with fail
    refine (HL.out _).mono ?_; rintro _ w1 ⟨rfl, hw⟩
    have hlt1 : w.heap.size < w1.heap.size := by have := hw.size; simp at this; omega
    have hcc := Chg.cells hw (b := w.heap.size) (by simp) (by simp)
    have HW := Lib.hid hw; clear hw
    go_wp2_with fail
    go_ret
    exact ⟨by simp, ((Chg.refl [] w).alloc _).then HW.out⟩
  case false =>
    have HL := Lib.hid hL; have HN := Lib.hid hN
    clear hL hN hat hn hd hln hsd hsz eS HS t1
    go_enter Tryd.func21, Tryd.ntmps21
    go_wp2_with fail
    refine (HL.out _).mono ?_; rintro _ w1 ⟨rfl, hw⟩
    have hlt1 : w.heap.size < w1.heap.size := by have := hw.size; simp at this; omega
    have hcc := Chg.cells hw (b := w.heap.size) (by simp) (by simp)
    have hw2 := ((Chg.refl [] w).alloc (.cells #[str nm, .string sd, .slice at_ ns.length cap] 61)).then hw
    have hc1 := hw2.cellSome HC0.out (by simp)
    have hlt2 := lt_of_cell hc1
    have HW := Lib.hid hw2; clear hw hw2
    go_wp2_with fail
    refine (HN.out _ HW.out).mono ?_; rintro _ w3 ⟨rfl, hw⟩
    have HW3 := Lib.hid hw; clear hw
    go_wp2_with fail
    go_ret
    exact ⟨by simp, HW.out.then HW3.out⟩

theorem idx_luse (bo : Nat) (a : Option Addr) (n cap : Nat) (l : List UseM) (p : UseM → Bool) (w : World) (hn : n = l.length) (hlen : n ≤ 1099511627776) (hat : At w a (l.flatMap UseM.cells))
    (hf : ∀ x ∈ l, ∀ w', Chg [] w w' → Calls Tryd.prog 21 #[.agg #[str x.u.name, str x.u.need, .slice x.at_ x.u.names.length x.cap], .pointer (some ⟨bo, 0, none⟩)] w' (Ans w' (.bool (p x)))) :
    Calls Tryd.prog 44 #[.slice a n cap, .func (.func 21) #[] #[.pointer (some ⟨bo, 0, none⟩)]] w (fun e w' => ∃ r : Int, e = .returned (.int .i64 r) ∧ (0 ≤ r ↔ l.any p = true) ∧ Chg [] w w') := by
  have HF := Lib.hid hf
  have HA := Lib.hid hat
  have HN := Lib.hid hn
  clear hf hat hn
  go_enter Tryd.func44, Tryd.ntmps44
  go_wp2_with fail
  go_loopw [5, 8] (fun _ i wr => ∃ k : Nat, k ≤ n ∧ i = .int .i64 k ∧ (l.take k).any p = false ∧ Chg [] w wr) (fun _ i _ => n - (intOf i).toNat)
  case atStart => exact ⟨0, Nat.zero_le _, rfl, by simp, Chg.refl _ _⟩
  case round =>
    obtain ⟨k, hk, rfl, hall, hc⟩ := hrel
    have HALL := Lib.hid hall; clear hall
    by_cases hlt : k < n
    · have hkl : k < l.length := by rw [← HN.out]; exact hlt
      obtain ⟨x, hx⟩ : ∃ x, l[k]? = some x := ⟨l[k], by simp [hkl]⟩
      have hcl := HF.out x (List.mem_of_getElem? hx) wr hc
      obtain ⟨b, off, rfl, hcell⟩ := HA.out (by rw [flat_len _ 3 (fun _ => rfl)]; omega)
      have hcs : ∀ j, j < 3 → wr.cell? ⟨b, off + (k * 3 + j), none⟩ = (UseM.cells x)[j]? := fun j hj => by
        have h1 := flat_get UseM.cells 3 (fun _ => rfl) l k j x hx hj
        have h2 : j < (UseM.cells x).length := hj
        rw [List.getElem?_eq_getElem h2] at h1 ⊢
        exact hc.cellSome (hcell _ _ (by simpa using h1)) (by simp)
      have hc0 : wr.cell? ⟨b, off + k * 3, none⟩ = some (str x.u.name) := by have := hcs 0 (by omega); rw [← Nat.add_assoc] at this; exact this
      have hc1 : wr.cell? ⟨b, off + k * 3 + 1, none⟩ = some (str x.u.need) := by have := hcs 1 (by omega); rw [← Nat.add_assoc] at this; exact this
      have hc2 : wr.cell? ⟨b, off + k * 3 + 2, none⟩ = some (.slice x.at_ x.u.names.length x.cap) := by have := hcs 2 (by omega); rw [← Nat.add_assoc] at this; exact this
      have HX := Lib.hid hx
      have HCL := Lib.hid hcl
      have HC := Lib.hid hc
      clear hcs hcell hx hcl hc
      cases hp : p x
      all_goals
        have HP := Lib.hid hp
        rw [hp] at HCL
        clear hp
        go_wp2_with fail
        refine HCL.out.mono ?_
        rintro e w1 ⟨rfl, hc1⟩
        have HC1 := Lib.hid hc1; clear hc1
        go_wp2_with fail
      · go_roundw
        case rel =>
          refine ⟨k + 1, by omega, by go_num, ?_, HC.out.then HC1.out⟩
          rw [List.take_add_one, HX.out]
          simp [HALL.out, HP.out]
        case measure => simp [intOf]; omega
      · go_ret
        refine ⟨k, rfl, ?_, HC.out.then HC1.out⟩
        refine ⟨fun _ => List.any_eq_true.2 ⟨x, List.mem_of_getElem? HX.out, HP.out⟩, fun _ => by omega⟩
    · have HC := Lib.hid hc; clear hc
      have HK := Lib.hid (show k = n by omega)
      go_wp2_with fail
      go_ret
      refine ⟨-1, rfl, ?_, HC.out⟩
      have h := HALL.out
      rw [HK.out, HN.out, List.take_length] at h
      rw [h]
      simp

theorem any_luse (bo : Nat) (a : Option Addr) (n cap : Nat) (l : List UseM) (p : UseM → Bool) (w : World) (hn : n = l.length) (hlen : n ≤ 1099511627776) (hat : At w a (l.flatMap UseM.cells))
    (hf : ∀ x ∈ l, ∀ w', Chg [] w w' → Calls Tryd.prog 21 #[.agg #[str x.u.name, str x.u.need, .slice x.at_ x.u.names.length x.cap], .pointer (some ⟨bo, 0, none⟩)] w' (Ans w' (.bool (p x)))) :
    Calls Tryd.prog 20 #[.slice a n cap, .func (.func 21) #[] #[.pointer (some ⟨bo, 0, none⟩)]] w (Ans w (.bool (l.any p))) := by
  have hI := idx_luse bo a n cap l p w hn hlen hat hf
  have HI := Lib.hid hI
  clear hI hf hat hn
  go_enter Tryd.func20, Tryd.ntmps20
  go_wp2_with fail
  refine HI.out.mono ?_
  rintro e w1 ⟨r, rfl, hr, hc⟩
  have HR := Lib.hid hr; have HC := Lib.hid hc
  clear hr hc
  go_wp2
  go_ret
  refine ⟨?_, HC.out⟩
  show Ending.returned (.bool (decide (0 ≤ r))) = _
  have : decide (0 ≤ r) = l.any p := by rw [Bool.eq_iff_iff]; simpa using HR.out
  rw [this]
end Go.Proofs.YtjgfclhempjinaaDoor
