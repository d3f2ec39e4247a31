/- slices.Equal of two lists that are the same (laid by gen_w16.py). -/
import Derived.Test.YtjgfclhempjinaaDoorObjW5
namespace Go.Proofs.YtjgfclhempjinaaDoor
open Go Go.RowKit Go.Mq Go.Mq.Obj
set_option maxRecDepth 100000

set_option maxHeartbeats 2000000 in
theorem eq_sym (a1 a2 : Option Addr) (n c1 c2 : Nat) (l : List SymD) (w : World) (hn : n = l.length) (hlen : n ≤ 1099511627776) (h1 : At w a1 (l.flatMap SymD.cells)) (h2 : At w a2 (l.flatMap SymD.cells)) :
    Calls Tryd.prog 36 #[.slice a1 n c1, .slice a2 n c2] w (Ans w (.bool true)) := by
  have H1 := Lib.hid h1; have H2 := Lib.hid h2; have HN := Lib.hid hn
  clear h1 h2 hn
  go_enter Tryd.func36, Tryd.ntmps36
  go_wp2_with fail
  go_loopw [5, 13] (fun _ i wr => ∃ k : Nat, k ≤ n ∧ i = .int .i64 k ∧ Chg [] w wr) (fun _ i _ => n - (intOf i).toNat)
  case atStart => exact ⟨0, Nat.zero_le _, rfl, Chg.refl _ _⟩
  case round =>
    obtain ⟨k, hk, rfl, hc⟩ := hrel
    by_cases hlt : k < n
    · have hkl : k < l.length := by rw [← HN.out]; exact hlt
      obtain ⟨x, hx⟩ : ∃ x, l[k]? = some x := ⟨l[k], by simp [hkl]⟩
      obtain ⟨b1, o1, rfl, hcell0⟩ := H1.out (by rw [flat_len _ 3 (fun _ => rfl)]; omega)
      have hcs0 : ∀ j, j < 3 → wr.cell? ⟨b1, o1 + (k * 3 + j), none⟩ = (SymD.cells x)[j]? := fun j hj => by
        have h1 := flat_get SymD.cells 3 (fun _ => rfl) l k j x hx hj
        have h2 : j < (SymD.cells x).length := hj
        rw [List.getElem?_eq_getElem h2] at h1 ⊢
        exact hc.cellSome (hcell0 _ _ (by simpa using h1)) (by simp)
      have hc00 : wr.cell? ⟨b1, o1 + k * 3, none⟩ = some (str x.name) := by have := hcs0 0 (by omega); rw [← Nat.add_assoc] at this; exact this
      have hc01 : wr.cell? ⟨b1, o1 + k * 3 + 1, none⟩ = some (.int .i64 x.len) := by have := hcs0 1 (by omega); rw [← Nat.add_assoc] at this; exact this
      have hc02 : wr.cell? ⟨b1, o1 + k * 3 + 2, none⟩ = some (.int .i64 x.args) := by have := hcs0 2 (by omega); rw [← Nat.add_assoc] at this; exact this
      obtain ⟨b2, o2, rfl, hcell1⟩ := H2.out (by rw [flat_len _ 3 (fun _ => rfl)]; omega)
      have hcs1 : ∀ j, j < 3 → wr.cell? ⟨b2, o2 + (k * 3 + j), none⟩ = (SymD.cells x)[j]? := fun j hj => by
        have h1 := flat_get SymD.cells 3 (fun _ => rfl) l k j x hx hj
        have h2 : j < (SymD.cells x).length := hj
        rw [List.getElem?_eq_getElem h2] at h1 ⊢
        exact hc.cellSome (hcell1 _ _ (by simpa using h1)) (by simp)
      have hc10 : wr.cell? ⟨b2, o2 + k * 3, none⟩ = some (str x.name) := by have := hcs1 0 (by omega); rw [← Nat.add_assoc] at this; exact this
      have hc11 : wr.cell? ⟨b2, o2 + k * 3 + 1, none⟩ = some (.int .i64 x.len) := by have := hcs1 1 (by omega); rw [← Nat.add_assoc] at this; exact this
      have hc12 : wr.cell? ⟨b2, o2 + k * 3 + 2, none⟩ = some (.int .i64 x.args) := by have := hcs1 2 (by omega); rw [← Nat.add_assoc] at this; exact this
      have HC := Lib.hid hc
      clear hcs0 hcs1 hcell0 hcell1 hx hc
      go_wp2_with fail
      go_region
      all_goals (try go_wp2)
      go_roundw
      case rel => exact ⟨k + 1, by omega, by go_num, HC.out.drew⟩
      case measure => simp [intOf]; omega
    · have HC := Lib.hid hc; clear hc
      have hkn : k = n := by omega
      go_wp2_with fail
      go_ret
      exact ⟨rfl, HC.out⟩

set_option maxHeartbeats 2000000 in
theorem eq_glob (a1 a2 : Option Addr) (n c1 c2 : Nat) (l : List GlobD) (w : World) (hn : n = l.length) (hlen : n ≤ 1099511627776) (h1 : At w a1 (l.flatMap GlobD.cells)) (h2 : At w a2 (l.flatMap GlobD.cells)) :
    Calls Tryd.prog 40 #[.slice a1 n c1, .slice a2 n c2] w (Ans w (.bool true)) := by
  have H1 := Lib.hid h1; have H2 := Lib.hid h2; have HN := Lib.hid hn
  clear h1 h2 hn
  go_enter Tryd.func40, Tryd.ntmps40
  go_wp2_with fail
  go_loopw [5, 13] (fun _ i wr => ∃ k : Nat, k ≤ n ∧ i = .int .i64 k ∧ Chg [] w wr) (fun _ i _ => n - (intOf i).toNat)
  case atStart => exact ⟨0, Nat.zero_le _, rfl, Chg.refl _ _⟩
  case round =>
    obtain ⟨k, hk, rfl, hc⟩ := hrel
    by_cases hlt : k < n
    · have hkl : k < l.length := by rw [← HN.out]; exact hlt
      obtain ⟨x, hx⟩ : ∃ x, l[k]? = some x := ⟨l[k], by simp [hkl]⟩
      obtain ⟨b1, o1, rfl, hcell0⟩ := H1.out (by rw [flat_len _ 4 (fun _ => rfl)]; omega)
      have hcs0 : ∀ j, j < 4 → wr.cell? ⟨b1, o1 + (k * 4 + j), none⟩ = (GlobD.cells x)[j]? := fun j hj => by
        have h1 := flat_get GlobD.cells 4 (fun _ => rfl) l k j x hx hj
        have h2 : j < (GlobD.cells x).length := hj
        rw [List.getElem?_eq_getElem h2] at h1 ⊢
        exact hc.cellSome (hcell0 _ _ (by simpa using h1)) (by simp)
      have hc00 : wr.cell? ⟨b1, o1 + k * 4, none⟩ = some (str x.name) := by have := hcs0 0 (by omega); rw [← Nat.add_assoc] at this; exact this
      have hc01 : wr.cell? ⟨b1, o1 + k * 4 + 1, none⟩ = some (.int .i64 x.place) := by have := hcs0 1 (by omega); rw [← Nat.add_assoc] at this; exact this
      have hc02 : wr.cell? ⟨b1, o1 + k * 4 + 2, none⟩ = some (.int .i64 x.len) := by have := hcs0 2 (by omega); rw [← Nat.add_assoc] at this; exact this
      have hc03 : wr.cell? ⟨b1, o1 + k * 4 + 3, none⟩ = some (.bool x.seen) := by have := hcs0 3 (by omega); rw [← Nat.add_assoc] at this; exact this
      obtain ⟨b2, o2, rfl, hcell1⟩ := H2.out (by rw [flat_len _ 4 (fun _ => rfl)]; omega)
      have hcs1 : ∀ j, j < 4 → wr.cell? ⟨b2, o2 + (k * 4 + j), none⟩ = (GlobD.cells x)[j]? := fun j hj => by
        have h1 := flat_get GlobD.cells 4 (fun _ => rfl) l k j x hx hj
        have h2 : j < (GlobD.cells x).length := hj
        rw [List.getElem?_eq_getElem h2] at h1 ⊢
        exact hc.cellSome (hcell1 _ _ (by simpa using h1)) (by simp)
      have hc10 : wr.cell? ⟨b2, o2 + k * 4, none⟩ = some (str x.name) := by have := hcs1 0 (by omega); rw [← Nat.add_assoc] at this; exact this
      have hc11 : wr.cell? ⟨b2, o2 + k * 4 + 1, none⟩ = some (.int .i64 x.place) := by have := hcs1 1 (by omega); rw [← Nat.add_assoc] at this; exact this
      have hc12 : wr.cell? ⟨b2, o2 + k * 4 + 2, none⟩ = some (.int .i64 x.len) := by have := hcs1 2 (by omega); rw [← Nat.add_assoc] at this; exact this
      have hc13 : wr.cell? ⟨b2, o2 + k * 4 + 3, none⟩ = some (.bool x.seen) := by have := hcs1 3 (by omega); rw [← Nat.add_assoc] at this; exact this
      have HC := Lib.hid hc
      clear hcs0 hcs1 hcell0 hcell1 hx hc
      go_wp2_with fail
      go_region
      all_goals (try go_wp2)
      go_roundw
      case rel => exact ⟨k + 1, by omega, by go_num, HC.out.drew⟩
      case measure => simp [intOf]; omega
    · have HC := Lib.hid hc; clear hc
      have hkn : k = n := by omega
      go_wp2_with fail
      go_ret
      exact ⟨rfl, HC.out⟩

set_option maxHeartbeats 2000000 in
theorem eq_ent (a1 a2 : Option Addr) (n c1 c2 : Nat) (l : List EntD) (w : World) (hn : n = l.length) (hlen : n ≤ 1099511627776) (h1 : At w a1 (l.flatMap EntD.cells)) (h2 : At w a2 (l.flatMap EntD.cells)) :
    Calls Tryd.prog 12 #[.slice a1 n c1, .slice a2 n c2] w (Ans w (.bool true)) := by
  have H1 := Lib.hid h1; have H2 := Lib.hid h2; have HN := Lib.hid hn
  clear h1 h2 hn
  go_enter Tryd.func12, Tryd.ntmps12
  go_wp2_with fail
  go_loopw [5, 13] (fun _ i wr => ∃ k : Nat, k ≤ n ∧ i = .int .i64 k ∧ Chg [] w wr) (fun _ i _ => n - (intOf i).toNat)
  case atStart => exact ⟨0, Nat.zero_le _, rfl, Chg.refl _ _⟩
  case round =>
    obtain ⟨k, hk, rfl, hc⟩ := hrel
    by_cases hlt : k < n
    · have hkl : k < l.length := by rw [← HN.out]; exact hlt
      obtain ⟨x, hx⟩ : ∃ x, l[k]? = some x := ⟨l[k], by simp [hkl]⟩
      obtain ⟨b1, o1, rfl, hcell0⟩ := H1.out (by rw [flat_len _ 3 (fun _ => rfl)]; omega)
      have hcs0 : ∀ j, j < 3 → wr.cell? ⟨b1, o1 + (k * 3 + j), none⟩ = (EntD.cells x)[j]? := fun j hj => by
        have h1 := flat_get EntD.cells 3 (fun _ => rfl) l k j x hx hj
        have h2 : j < (EntD.cells x).length := hj
        rw [List.getElem?_eq_getElem h2] at h1 ⊢
        exact hc.cellSome (hcell0 _ _ (by simpa using h1)) (by simp)
      have hc00 : wr.cell? ⟨b1, o1 + k * 3, none⟩ = some (.int .i64 x.place) := by have := hcs0 0 (by omega); rw [← Nat.add_assoc] at this; exact this
      have hc01 : wr.cell? ⟨b1, o1 + k * 3 + 1, none⟩ = some (.int .i64 x.args) := by have := hcs0 1 (by omega); rw [← Nat.add_assoc] at this; exact this
      have hc02 : wr.cell? ⟨b1, o1 + k * 3 + 2, none⟩ = some (.int .i64 x.locals) := by have := hcs0 2 (by omega); rw [← Nat.add_assoc] at this; exact this
      obtain ⟨b2, o2, rfl, hcell1⟩ := H2.out (by rw [flat_len _ 3 (fun _ => rfl)]; omega)
      have hcs1 : ∀ j, j < 3 → wr.cell? ⟨b2, o2 + (k * 3 + j), none⟩ = (EntD.cells x)[j]? := fun j hj => by
        have h1 := flat_get EntD.cells 3 (fun _ => rfl) l k j x hx hj
        have h2 : j < (EntD.cells x).length := hj
        rw [List.getElem?_eq_getElem h2] at h1 ⊢
        exact hc.cellSome (hcell1 _ _ (by simpa using h1)) (by simp)
      have hc10 : wr.cell? ⟨b2, o2 + k * 3, none⟩ = some (.int .i64 x.place) := by have := hcs1 0 (by omega); rw [← Nat.add_assoc] at this; exact this
      have hc11 : wr.cell? ⟨b2, o2 + k * 3 + 1, none⟩ = some (.int .i64 x.args) := by have := hcs1 1 (by omega); rw [← Nat.add_assoc] at this; exact this
      have hc12 : wr.cell? ⟨b2, o2 + k * 3 + 2, none⟩ = some (.int .i64 x.locals) := by have := hcs1 2 (by omega); rw [← Nat.add_assoc] at this; exact this
      have HC := Lib.hid hc
      clear hcs0 hcs1 hcell0 hcell1 hx hc
      go_wp2_with fail
      go_region
      all_goals (try go_wp2)
      go_roundw
      case rel => exact ⟨k + 1, by omega, by go_num, HC.out.drew⟩
      case measure => simp [intOf]; omega
    · have HC := Lib.hid hc; clear hc
      have hkn : k = n := by omega
      go_wp2_with fail
      go_ret
      exact ⟨rfl, HC.out⟩

set_option maxHeartbeats 2000000 in
theorem eq_inst (a1 a2 : Option Addr) (n c1 c2 : Nat) (l : List InstD) (w : World) (hn : n = l.length) (hlen : n ≤ 1099511627776) (h1 : At w a1 (l.flatMap InstD.cells)) (h2 : At w a2 (l.flatMap InstD.cells)) :
    Calls Tryd.prog 13 #[.slice a1 n c1, .slice a2 n c2] w (Ans w (.bool true)) := by
  have H1 := Lib.hid h1; have H2 := Lib.hid h2; have HN := Lib.hid hn
  clear h1 h2 hn
  go_enter Tryd.func13, Tryd.ntmps13
  go_wp2_with fail
  go_loopw [5, 13] (fun _ i wr => ∃ k : Nat, k ≤ n ∧ i = .int .i64 k ∧ Chg [] w wr) (fun _ i _ => n - (intOf i).toNat)
  case atStart => exact ⟨0, Nat.zero_le _, rfl, Chg.refl _ _⟩
  case round =>
    obtain ⟨k, hk, rfl, hc⟩ := hrel
    by_cases hlt : k < n
    · have hkl : k < l.length := by rw [← HN.out]; exact hlt
      obtain ⟨x, hx⟩ : ∃ x, l[k]? = some x := ⟨l[k], by simp [hkl]⟩
      obtain ⟨b1, o1, rfl, hcell0⟩ := H1.out (by rw [flat_len _ 3 (fun _ => rfl)]; omega)
      have hcs0 : ∀ j, j < 3 → wr.cell? ⟨b1, o1 + (k * 3 + j), none⟩ = (InstD.cells x)[j]? := fun j hj => by
        have h1 := flat_get InstD.cells 3 (fun _ => rfl) l k j x hx hj
        have h2 : j < (InstD.cells x).length := hj
        rw [List.getElem?_eq_getElem h2] at h1 ⊢
        exact hc.cellSome (hcell0 _ _ (by simpa using h1)) (by simp)
      have hc00 : wr.cell? ⟨b1, o1 + k * 3, none⟩ = some (.int .i64 x.op) := by have := hcs0 0 (by omega); rw [← Nat.add_assoc] at this; exact this
      have hc01 : wr.cell? ⟨b1, o1 + k * 3 + 1, none⟩ = some (.int .i64 x.a) := by have := hcs0 1 (by omega); rw [← Nat.add_assoc] at this; exact this
      have hc02 : wr.cell? ⟨b1, o1 + k * 3 + 2, none⟩ = some (.int .i64 x.b) := by have := hcs0 2 (by omega); rw [← Nat.add_assoc] at this; exact this
      obtain ⟨b2, o2, rfl, hcell1⟩ := H2.out (by rw [flat_len _ 3 (fun _ => rfl)]; omega)
      have hcs1 : ∀ j, j < 3 → wr.cell? ⟨b2, o2 + (k * 3 + j), none⟩ = (InstD.cells x)[j]? := fun j hj => by
        have h1 := flat_get InstD.cells 3 (fun _ => rfl) l k j x hx hj
        have h2 : j < (InstD.cells x).length := hj
        rw [List.getElem?_eq_getElem h2] at h1 ⊢
        exact hc.cellSome (hcell1 _ _ (by simpa using h1)) (by simp)
      have hc10 : wr.cell? ⟨b2, o2 + k * 3, none⟩ = some (.int .i64 x.op) := by have := hcs1 0 (by omega); rw [← Nat.add_assoc] at this; exact this
      have hc11 : wr.cell? ⟨b2, o2 + k * 3 + 1, none⟩ = some (.int .i64 x.a) := by have := hcs1 1 (by omega); rw [← Nat.add_assoc] at this; exact this
      have hc12 : wr.cell? ⟨b2, o2 + k * 3 + 2, none⟩ = some (.int .i64 x.b) := by have := hcs1 2 (by omega); rw [← Nat.add_assoc] at this; exact this
      have HC := Lib.hid hc
      clear hcs0 hcs1 hcell0 hcell1 hx hc
      go_wp2_with fail
      go_region
      all_goals (try go_wp2)
      go_roundw
      case rel => exact ⟨k + 1, by omega, by go_num, HC.out.drew⟩
      case measure => simp [intOf]; omega
    · have HC := Lib.hid hc; clear hc
      have hkn : k = n := by omega
      go_wp2_with fail
      go_ret
      exact ⟨rfl, HC.out⟩

set_option maxHeartbeats 2000000 in
theorem eq_str (a1 a2 : Option Addr) (n c1 c2 : Nat) (l : List (List UInt8)) (w : World) (hn : n = l.length) (hlen : n ≤ 1099511627776) (h1 : At w a1 (l.flatMap (fun x : List UInt8 => [str x]))) (h2 : At w a2 (l.flatMap (fun x : List UInt8 => [str x]))) :
    Calls Tryd.prog 39 #[.slice a1 n c1, .slice a2 n c2] w (Ans w (.bool true)) := by
  have H1 := Lib.hid h1; have H2 := Lib.hid h2; have HN := Lib.hid hn
  clear h1 h2 hn
  go_enter Tryd.func39, Tryd.ntmps39
  go_wp2_with fail
  go_loopw [5, 13] (fun _ i wr => ∃ k : Nat, k ≤ n ∧ i = .int .i64 k ∧ Chg [] w wr) (fun _ i _ => n - (intOf i).toNat)
  case atStart => exact ⟨0, Nat.zero_le _, rfl, Chg.refl _ _⟩
  case round =>
    obtain ⟨k, hk, rfl, hc⟩ := hrel
    by_cases hlt : k < n
    · have hkl : k < l.length := by rw [← HN.out]; exact hlt
      obtain ⟨x, hx⟩ : ∃ x, l[k]? = some x := ⟨l[k], by simp [hkl]⟩
      obtain ⟨b1, o1, rfl, hcell0⟩ := H1.out (by rw [flat_len _ 1 (fun _ => rfl)]; omega)
      have hcs0 : ∀ j, j < 1 → wr.cell? ⟨b1, o1 + (k + j), none⟩ = ((fun x : List UInt8 => [str x]) x)[j]? := fun j hj => by
        have h1 := flat_get (fun x : List UInt8 => [str x]) 1 (fun _ => rfl) l k j x hx hj
        have h2 : j < ((fun x : List UInt8 => [str x]) x).length := hj
        rw [List.getElem?_eq_getElem h2] at h1 ⊢
        exact hc.cellSome (hcell0 _ _ (by simpa using h1)) (by simp)
      have hc00 : wr.cell? ⟨b1, o1 + k, none⟩ = some (str x) := hcs0 0 (by omega)
      obtain ⟨b2, o2, rfl, hcell1⟩ := H2.out (by rw [flat_len _ 1 (fun _ => rfl)]; omega)
      have hcs1 : ∀ j, j < 1 → wr.cell? ⟨b2, o2 + (k + j), none⟩ = ((fun x : List UInt8 => [str x]) x)[j]? := fun j hj => by
        have h1 := flat_get (fun x : List UInt8 => [str x]) 1 (fun _ => rfl) l k j x hx hj
        have h2 : j < ((fun x : List UInt8 => [str x]) x).length := hj
        rw [List.getElem?_eq_getElem h2] at h1 ⊢
        exact hc.cellSome (hcell1 _ _ (by simpa using h1)) (by simp)
      have hc10 : wr.cell? ⟨b2, o2 + k, none⟩ = some (str x) := hcs1 0 (by omega)
      have HC := Lib.hid hc
      clear hcs0 hcs1 hcell0 hcell1 hx hc
      go_wp2_with fail
      go_region
      all_goals (try go_wp2)
      go_roundw
      case rel => exact ⟨k + 1, by omega, by go_num, HC.out.drew⟩
      case measure => simp [intOf]; omega
    · have HC := Lib.hid hc; clear hc
      have hkn : k = n := by omega
      go_wp2_with fail
      go_ret
      exact ⟨rfl, HC.out⟩

set_option maxHeartbeats 2000000 in
theorem alike1_any (x y : UseM) (w : World) (he : x.u = y.u) (hl : x.u.names.length ≤ 1099511627776) (h1 : At w x.at_ (x.u.names.map str)) (h2 : At w y.at_ (y.u.names.map str)) :
    Calls Tryd.prog 38 #[.agg #[str x.u.name, str x.u.need, .slice x.at_ x.u.names.length x.cap], .agg #[str y.u.name, str y.u.need, .slice y.at_ y.u.names.length y.cap]] w (Ans w (.bool true)) := by
  obtain ⟨⟨nm, nd, ns⟩, a1, c1⟩ := x
  obtain ⟨u, a2, c2⟩ := y
  dsimp only at he hl h1 h2
  subst he
  dsimp only at *
  have hN := (fun w' (hc' : Chg [] w w') => eq_str a1 a2 ns.length c1 c2 ns w' rfl hl (by have := h1.kept hc' (by simp); rw [map_flat] at this; exact this) (by have := h2.kept hc' (by simp); rw [map_flat] at this; exact this))
  have HN := Lib.hid hN
  clear hN h1 h2
  go_enter Tryd.func38, Tryd.ntmps38
  go_wp2_with fail
  refine (HN.out _ (((Chg.refl [] w).alloc _).alloc _)).mono ?_; rintro _ w1 ⟨rfl, hw⟩
  have HW := Lib.hid ((((Chg.refl [] w).alloc _).alloc _).then hw); clear hw
  go_wp2_with fail
  go_ret
  exact ⟨rfl, HW.out⟩

set_option maxHeartbeats 4000000 in
theorem eqf_use (a1 a2 : Option Addr) (n c1 c2 : Nat) (l1 l2 : List UseM) (w : World) (hn1 : n = l1.length) (hn2 : n = l2.length) (hlen : n ≤ 1099511627776) (he : l1.map (·.u) = l2.map (·.u)) (h1 : At w a1 (l1.flatMap UseM.cells)) (h2 : At w a2 (l2.flatMap UseM.cells))
    (hu1 : ∀ m ∈ l1, m.u.names.length ≤ 1099511627776 ∧ At w m.at_ (m.u.names.map str)) (hu2 : ∀ m ∈ l2, At w m.at_ (m.u.names.map str)) :
    Calls Tryd.prog 37 #[.slice a1 n c1, .slice a2 n c2, .func (.func 38) #[] #[]] w (Ans w (.bool true)) := by
  have H1 := Lib.hid h1; have H2 := Lib.hid h2; have HN1 := Lib.hid hn1; have HN2 := Lib.hid hn2; have HE := Lib.hid he; have HU1 := Lib.hid hu1; have HU2 := Lib.hid hu2
  clear h1 h2 hn1 hn2 he hu1 hu2
  go_enter Tryd.func37, Tryd.ntmps37
  go_wp2_with fail
  go_loopw [7, 8, 9, 17] (fun _ _ _ i wr => ∃ k : Nat, k ≤ n ∧ i = .int .i64 k ∧ Chg [] w wr) (fun _ _ _ i _ => n - (intOf i).toNat)
  case atStart => exact ⟨0, Nat.zero_le _, rfl, Chg.refl _ _⟩
  case round =>
    obtain ⟨k, hk, rfl, hc⟩ := hrel
    by_cases hlt : k < n
    · have hkl1 : k < l1.length := by rw [← HN1.out]; exact hlt
      have hkl2 : k < l2.length := by rw [← HN2.out]; exact hlt
      obtain ⟨x, hx⟩ : ∃ x, l1[k]? = some x := ⟨l1[k], by simp [hkl1]⟩
      obtain ⟨y, hy⟩ : ∃ y, l2[k]? = some y := ⟨l2[k], by simp [hkl2]⟩
      have hxy : x.u = y.u := by
        have h := congrArg (fun l => l[k]?) HE.out
        simp only [List.getElem?_map, hx, hy, Option.map_some, Option.some.injEq] at h
        exact h
      obtain ⟨b1, o1, rfl, hcell0⟩ := H1.out (by rw [flat_len _ 3 (fun _ => rfl)]; omega)
      have hcs0 : ∀ j, j < 3 → wr.cell? ⟨b1, o1 + (k * 3 + j), none⟩ = (UseM.cells x)[j]? := fun j hj => by
        have h1 := flat_get UseM.cells 3 (fun _ => rfl) l1 k j x hx hj
        have h2 : j < (UseM.cells x).length := hj
        rw [List.getElem?_eq_getElem h2] at h1 ⊢
        exact hc.cellSome (hcell0 _ _ (by simpa using h1)) (by simp)
      have hc00 : wr.cell? ⟨b1, o1 + k * 3, none⟩ = some (str x.u.name) := by have := hcs0 0 (by omega); rw [← Nat.add_assoc] at this; exact this
      have hc01 : wr.cell? ⟨b1, o1 + k * 3 + 1, none⟩ = some (str x.u.need) := by have := hcs0 1 (by omega); rw [← Nat.add_assoc] at this; exact this
      have hc02 : wr.cell? ⟨b1, o1 + k * 3 + 2, none⟩ = some (.slice x.at_ x.u.names.length x.cap) := by have := hcs0 2 (by omega); rw [← Nat.add_assoc] at this; exact this
      obtain ⟨b2, o2, rfl, hcell1⟩ := H2.out (by rw [flat_len _ 3 (fun _ => rfl)]; omega)
      have hcs1 : ∀ j, j < 3 → wr.cell? ⟨b2, o2 + (k * 3 + j), none⟩ = (UseM.cells y)[j]? := fun j hj => by
        have h1 := flat_get UseM.cells 3 (fun _ => rfl) l2 k j y hy hj
        have h2 : j < (UseM.cells y).length := hj
        rw [List.getElem?_eq_getElem h2] at h1 ⊢
        exact hc.cellSome (hcell1 _ _ (by simpa using h1)) (by simp)
      have hc10 : wr.cell? ⟨b2, o2 + k * 3, none⟩ = some (str y.u.name) := by have := hcs1 0 (by omega); rw [← Nat.add_assoc] at this; exact this
      have hc11 : wr.cell? ⟨b2, o2 + k * 3 + 1, none⟩ = some (str y.u.need) := by have := hcs1 1 (by omega); rw [← Nat.add_assoc] at this; exact this
      have hc12 : wr.cell? ⟨b2, o2 + k * 3 + 2, none⟩ = some (.slice y.at_ y.u.names.length y.cap) := by have := hcs1 2 (by omega); rw [← Nat.add_assoc] at this; exact this
      have hA := (fun w' (hc' : Chg [] wr w') => alike1_any x y w' hxy (HU1.out x (List.mem_of_getElem? hx)).1 ((HU1.out x (List.mem_of_getElem? hx)).2.kept (hc.then hc') (by simp)) ((HU2.out y (List.mem_of_getElem? hy)).kept (hc.then hc') (by simp)))
      have HA := Lib.hid hA
      have HC := Lib.hid hc
      have hlb1 := lt_of_cell hc00
      have hlb2 := lt_of_cell hc10
      clear hcs0 hcs1 hcell0 hcell1 hx hy hc hxy hA
      go_wp2_with fail
      refine (HA.out _ (((Chg.refl [] wr).alloc _).alloc _)).mono ?_; rintro _ w1 ⟨rfl, hw⟩
      have HW := Lib.hid ((((Chg.refl [] wr).alloc _).alloc _).then hw); clear hw
      go_wp2_with fail
      go_roundw
      case rel => exact ⟨k + 1, by omega, by go_num, HC.out.then HW.out⟩
      case measure => simp [intOf]; omega
    · have HC := Lib.hid hc; clear hc
      have hkn : k = n := by omega
      go_wp2_with fail
      go_ret
      exact ⟨rfl, HC.out⟩
end Go.Proofs.YtjgfclhempjinaaDoor
