/- What is the same is found the same (marquetrylaw.sameObject and its kin). -/
import Derived.Test.YtjgfclhempjinaaGreatDoorObjW5
namespace Go.Proofs.YtjgfclhempjinaaGreatDoor
open Go Go.RowKit Go.Mq Go.Mq.Obj
set_option maxRecDepth 100000

set_option maxHeartbeats 2000000 in
theorem same_sym (a1 a2 : Option Addr) (n c1 c2 : Nat) (l : List SymD) (w : World) (hn : n = l.length) (hlen : n ≤ 1099511627776) (h1 : At w a1 (l.flatMap SymD.cells)) (h2 : At w a2 (l.flatMap SymD.cells)) :
    Calls Tryz.prog 51 #[.slice a1 n c1, .slice a2 n c2] w (Ans w (.bool true)) := by
  have H1 := Lib.hid h1; have H2 := Lib.hid h2; have HN := Lib.hid hn
  clear h1 h2 hn
  go_enter Tryz.func51, Tryz.ntmps51
  go_wp2_with fail
  go_loopw [5] (fun i wr => ∃ k : Nat, k ≤ n ∧ i = .int .i64 k ∧ Chg [] w wr) (fun i _ => n - (intOf i).toNat)
  case atStart => exact ⟨0, Nat.zero_le _, rfl, Chg.refl _ _⟩
  case round =>
    obtain ⟨k, hk, rfl, hc⟩ := hrel
    by_cases hlt : k < n
    · have hkl : k < l.length := by rw [← HN.out]; exact hlt
      obtain ⟨x, hx⟩ : ∃ x, l[k]? = some x := ⟨l[k], by simp [hkl]⟩
      obtain ⟨b1, o1, rfl, hcell0⟩ := H1.out (by rw [flat_len _ 3 (fun _ => rfl)]; omega)
      have hcs0 : ∀ j, j < 3 → wr.cell? ⟨b1, o1 + (k * 3 + j), none⟩ = (SymD.cells x)[j]? := fun j hj => by
        have h1 := flat_get SymD.cells 3 (fun _ => rfl) l k j x hx hj
        have h2 : j < (SymD.cells x).length := hj
        rw [List.getElem?_eq_getElem h2] at h1 ⊢
        exact hc.cellSome (hcell0 _ _ (by simpa using h1)) (by simp)
      have hc00 : wr.cell? ⟨b1, o1 + k * 3, none⟩ = some (str x.name) := by have := hcs0 0 (by omega); rw [← Nat.add_assoc] at this; exact this
      have hc01 : wr.cell? ⟨b1, o1 + k * 3 + 1, none⟩ = some (.int .i64 x.len) := by have := hcs0 1 (by omega); rw [← Nat.add_assoc] at this; exact this
      have hc02 : wr.cell? ⟨b1, o1 + k * 3 + 2, none⟩ = some (.int .i64 x.args) := by have := hcs0 2 (by omega); rw [← Nat.add_assoc] at this; exact this
      obtain ⟨b2, o2, rfl, hcell1⟩ := H2.out (by rw [flat_len _ 3 (fun _ => rfl)]; omega)
      have hcs1 : ∀ j, j < 3 → wr.cell? ⟨b2, o2 + (k * 3 + j), none⟩ = (SymD.cells x)[j]? := fun j hj => by
        have h1 := flat_get SymD.cells 3 (fun _ => rfl) l k j x hx hj
        have h2 : j < (SymD.cells x).length := hj
        rw [List.getElem?_eq_getElem h2] at h1 ⊢
        exact hc.cellSome (hcell1 _ _ (by simpa using h1)) (by simp)
      have hc10 : wr.cell? ⟨b2, o2 + k * 3, none⟩ = some (str x.name) := by have := hcs1 0 (by omega); rw [← Nat.add_assoc] at this; exact this
      have hc11 : wr.cell? ⟨b2, o2 + k * 3 + 1, none⟩ = some (.int .i64 x.len) := by have := hcs1 1 (by omega); rw [← Nat.add_assoc] at this; exact this
      have hc12 : wr.cell? ⟨b2, o2 + k * 3 + 2, none⟩ = some (.int .i64 x.args) := by have := hcs1 2 (by omega); rw [← Nat.add_assoc] at this; exact this
      have HC := Lib.hid hc
      clear hcs0 hcs1 hcell0 hcell1 hx hc
      go_wp2_with fail
      go_region
      all_goals (try go_wp2)
      go_roundw
      case rel => exact ⟨k + 1, by omega, by go_num, HC.out.drew⟩
      case measure => simp [intOf]; omega
    · have HC := Lib.hid hc; clear hc
      have hkn : k = n := by omega
      go_wp2_with fail
      go_ret
      exact ⟨rfl, HC.out⟩

set_option maxHeartbeats 2000000 in
theorem same_glob (a1 a2 : Option Addr) (n c1 c2 : Nat) (l : List GlobD) (w : World) (hn : n = l.length) (hlen : n ≤ 1099511627776) (h1 : At w a1 (l.flatMap GlobD.cells)) (h2 : At w a2 (l.flatMap GlobD.cells)) :
    Calls Tryz.prog 52 #[.slice a1 n c1, .slice a2 n c2] w (Ans w (.bool true)) := by
  have H1 := Lib.hid h1; have H2 := Lib.hid h2; have HN := Lib.hid hn
  clear h1 h2 hn
  go_enter Tryz.func52, Tryz.ntmps52
  go_wp2_with fail
  go_loopw [5] (fun i wr => ∃ k : Nat, k ≤ n ∧ i = .int .i64 k ∧ Chg [] w wr) (fun i _ => n - (intOf i).toNat)
  case atStart => exact ⟨0, Nat.zero_le _, rfl, Chg.refl _ _⟩
  case round =>
    obtain ⟨k, hk, rfl, hc⟩ := hrel
    by_cases hlt : k < n
    · have hkl : k < l.length := by rw [← HN.out]; exact hlt
      obtain ⟨x, hx⟩ : ∃ x, l[k]? = some x := ⟨l[k], by simp [hkl]⟩
      obtain ⟨b1, o1, rfl, hcell0⟩ := H1.out (by rw [flat_len _ 4 (fun _ => rfl)]; omega)
      have hcs0 : ∀ j, j < 4 → wr.cell? ⟨b1, o1 + (k * 4 + j), none⟩ = (GlobD.cells x)[j]? := fun j hj => by
        have h1 := flat_get GlobD.cells 4 (fun _ => rfl) l k j x hx hj
        have h2 : j < (GlobD.cells x).length := hj
        rw [List.getElem?_eq_getElem h2] at h1 ⊢
        exact hc.cellSome (hcell0 _ _ (by simpa using h1)) (by simp)
      have hc00 : wr.cell? ⟨b1, o1 + k * 4, none⟩ = some (str x.name) := by have := hcs0 0 (by omega); rw [← Nat.add_assoc] at this; exact this
      have hc01 : wr.cell? ⟨b1, o1 + k * 4 + 1, none⟩ = some (.int .i64 x.place) := by have := hcs0 1 (by omega); rw [← Nat.add_assoc] at this; exact this
      have hc02 : wr.cell? ⟨b1, o1 + k * 4 + 2, none⟩ = some (.int .i64 x.len) := by have := hcs0 2 (by omega); rw [← Nat.add_assoc] at this; exact this
      have hc03 : wr.cell? ⟨b1, o1 + k * 4 + 3, none⟩ = some (.bool x.seen) := by have := hcs0 3 (by omega); rw [← Nat.add_assoc] at this; exact this
      obtain ⟨b2, o2, rfl, hcell1⟩ := H2.out (by rw [flat_len _ 4 (fun _ => rfl)]; omega)
      have hcs1 : ∀ j, j < 4 → wr.cell? ⟨b2, o2 + (k * 4 + j), none⟩ = (GlobD.cells x)[j]? := fun j hj => by
        have h1 := flat_get GlobD.cells 4 (fun _ => rfl) l k j x hx hj
        have h2 : j < (GlobD.cells x).length := hj
        rw [List.getElem?_eq_getElem h2] at h1 ⊢
        exact hc.cellSome (hcell1 _ _ (by simpa using h1)) (by simp)
      have hc10 : wr.cell? ⟨b2, o2 + k * 4, none⟩ = some (str x.name) := by have := hcs1 0 (by omega); rw [← Nat.add_assoc] at this; exact this
      have hc11 : wr.cell? ⟨b2, o2 + k * 4 + 1, none⟩ = some (.int .i64 x.place) := by have := hcs1 1 (by omega); rw [← Nat.add_assoc] at this; exact this
      have hc12 : wr.cell? ⟨b2, o2 + k * 4 + 2, none⟩ = some (.int .i64 x.len) := by have := hcs1 2 (by omega); rw [← Nat.add_assoc] at this; exact this
      have hc13 : wr.cell? ⟨b2, o2 + k * 4 + 3, none⟩ = some (.bool x.seen) := by have := hcs1 3 (by omega); rw [← Nat.add_assoc] at this; exact this
      have HC := Lib.hid hc
      clear hcs0 hcs1 hcell0 hcell1 hx hc
      go_wp2_with fail
      go_region
      all_goals (try go_wp2)
      go_roundw
      case rel => exact ⟨k + 1, by omega, by go_num, HC.out.drew⟩
      case measure => simp [intOf]; omega
    · have HC := Lib.hid hc; clear hc
      have hkn : k = n := by omega
      go_wp2_with fail
      go_ret
      exact ⟨rfl, HC.out⟩

set_option maxHeartbeats 2000000 in
theorem same_str (a1 a2 : Option Addr) (n c1 c2 : Nat) (l : List (List UInt8)) (w : World) (hn : n = l.length) (hlen : n ≤ 1099511627776) (h1 : At w a1 (l.flatMap (fun x : List UInt8 => [str x]))) (h2 : At w a2 (l.flatMap (fun x : List UInt8 => [str x]))) :
    Calls Tryz.prog 53 #[.slice a1 n c1, .slice a2 n c2] w (Ans w (.bool true)) := by
  have H1 := Lib.hid h1; have H2 := Lib.hid h2; have HN := Lib.hid hn
  clear h1 h2 hn
  go_enter Tryz.func53, Tryz.ntmps53
  go_wp2_with fail
  go_loopw [5] (fun i wr => ∃ k : Nat, k ≤ n ∧ i = .int .i64 k ∧ Chg [] w wr) (fun i _ => n - (intOf i).toNat)
  case atStart => exact ⟨0, Nat.zero_le _, rfl, Chg.refl _ _⟩
  case round =>
    obtain ⟨k, hk, rfl, hc⟩ := hrel
    by_cases hlt : k < n
    · have hkl : k < l.length := by rw [← HN.out]; exact hlt
      obtain ⟨x, hx⟩ : ∃ x, l[k]? = some x := ⟨l[k], by simp [hkl]⟩
      obtain ⟨b1, o1, rfl, hcell0⟩ := H1.out (by rw [flat_len _ 1 (fun _ => rfl)]; omega)
      have hcs0 : ∀ j, j < 1 → wr.cell? ⟨b1, o1 + (k + j), none⟩ = ((fun x : List UInt8 => [str x]) x)[j]? := fun j hj => by
        have h1 := flat_get (fun x : List UInt8 => [str x]) 1 (fun _ => rfl) l k j x hx hj
        have h2 : j < ((fun x : List UInt8 => [str x]) x).length := hj
        rw [List.getElem?_eq_getElem h2] at h1 ⊢
        exact hc.cellSome (hcell0 _ _ (by simpa using h1)) (by simp)
      have hc00 : wr.cell? ⟨b1, o1 + k, none⟩ = some (str x) := hcs0 0 (by omega)
      obtain ⟨b2, o2, rfl, hcell1⟩ := H2.out (by rw [flat_len _ 1 (fun _ => rfl)]; omega)
      have hcs1 : ∀ j, j < 1 → wr.cell? ⟨b2, o2 + (k + j), none⟩ = ((fun x : List UInt8 => [str x]) x)[j]? := fun j hj => by
        have h1 := flat_get (fun x : List UInt8 => [str x]) 1 (fun _ => rfl) l k j x hx hj
        have h2 : j < ((fun x : List UInt8 => [str x]) x).length := hj
        rw [List.getElem?_eq_getElem h2] at h1 ⊢
        exact hc.cellSome (hcell1 _ _ (by simpa using h1)) (by simp)
      have hc10 : wr.cell? ⟨b2, o2 + k, none⟩ = some (str x) := hcs1 0 (by omega)
      have HC := Lib.hid hc
      clear hcs0 hcs1 hcell0 hcell1 hx hc
      go_wp2_with fail
      go_region
      all_goals (try go_wp2)
      go_roundw
      case rel => exact ⟨k + 1, by omega, by go_num, HC.out.drew⟩
      case measure => simp [intOf]; omega
    · have HC := Lib.hid hc; clear hc
      have hkn : k = n := by omega
      go_wp2_with fail
      go_ret
      exact ⟨rfl, HC.out⟩

theorem same_nil (w : World) : Calls Tryz.prog 14 #[.pointer none, .pointer none] w (Ans w (.bool true)) := by
  go_enter Tryz.func14, Tryz.ntmps14
  go_wp2_with fail
  go_ret
  exact ⟨rfl, Chg.refl _ _⟩

set_option maxHeartbeats 4000000 in
theorem same_obj (B1 b1 f1 B2 b2 f2 : Nat) (o : ObjD) (M1 M2 : ObjM) (w : World) (h1 : ObjAt w B1 b1 f1 o M1) (h2 : ObjAt w B2 b2 f2 o M2) (hs : o.small) :
    Calls Tryz.prog 14 #[.pointer (some ⟨b1, f1, none⟩), .pointer (some ⟨b2, f2, none⟩)] w (Ans w (.bool true)) := by
  obtain ⟨sa, ua, va, pa, na, ca, sc, uc, vc, pc, nc, cc, us⟩ := M1
  obtain ⟨sa2, ua2, va2, pa2, na2, ca2, sc2, uc2, vc2, pc2, nc2, cc2, us2⟩ := M2
  have hzs : o.syms.length ≤ 1099511627776 := hs.syms.1
  have hzu : o.uses.length ≤ 1099511627776 := hs.uses.1
  have hzv : o.vars.length ≤ 1099511627776 := hs.vars.1
  have hzp : o.procs.length ≤ 1099511627776 := hs.procs
  have hzn : o.names.length ≤ 1099511627776 := hs.names.1
  have p0 := h1.c0
  have q0 := h2.c0
  have p1 := h1.c1
  have q1 := h2.c1
  have p2 := h1.c2
  have q2 := h2.c2
  have p3 := h1.c3
  have q3 := h2.c3
  have p4 := h1.c4
  have q4 := h2.c4
  have p5 := h1.c5
  have q5 := h2.c5
  have p6 := h1.c6
  have q6 := h2.c6
  dsimp only at p0 q0 p1 q1 p2 q2 p3 q3 p4 q4 p5 q5 p6 q6
  have HS1 := Lib.hid (fun w' (hc : Chg [] w w') => same_sym sa sa2 o.syms.length sc sc2 o.syms w' rfl hzs (h1.s.kept hc (by simp)) (h2.s.kept hc (by simp)))
  have HS2 := Lib.hid (fun w' (hc : Chg [] w w') => same_glob va va2 o.vars.length vc vc2 o.vars w' rfl hzv (h1.v.kept hc (by simp)) (h2.v.kept hc (by simp)))
  have HS3 := Lib.hid (fun w' (hc : Chg [] w w') => same_str na na2 o.names.length nc nc2 o.names w' rfl hzn (by have := h1.n.kept hc (by simp); rw [map_flat] at this; exact this) (by have := h2.n.kept hc (by simp); rw [map_flat] at this; exact this))
  have H1 := Lib.hid h1; have H2 := Lib.hid h2; have HSM := Lib.hid hs
  clear h1 h2 hs
  go_enter Tryz.func14, Tryz.ntmps14
  go_wp2_with fail
  have HLT1 := Lib.hid (show b1 < w.drew.heap.size from lt_of_cell p0)
  have HLT2 := Lib.hid (show b2 < w.drew.heap.size from lt_of_cell q0)
  have z1 := Lib.hid (Zone.of (X := []) (w0 := w.drew) p0 (by simp))
  have z2 := Lib.hid (Zone.of (X := []) (w0 := w.drew) q0 (by simp))
  have HD := Lib.hid (show Chg [] w w.drew from ⟨rfl, rfl, rfl, Nat.le_refl _, fun _ _ _ => rfl⟩)
  refine wp_region_C [] rfl (by kernel_rfl) ?_
  have hS : Chg [] w.drew w.drew := Chg.refl _ _
  repeat
    (with_reducible show wpX _ _ _ _ _ _ _ _
     first
       | refine wpX_nil ?_
       | refine wpX_skip rfl ?_
       | refine wpX_mv rfl rfl (by kernel_rfl) (fun _ _ => ?_)
       | refine wpX_ldC rfl rfl rfl (by first | exact z1.out | exact z2.out) (by assumption) (fun _ _ => ?_)
       | refine wpX_ef' rfl rfl rfl (fun _ _ => ?_)
     go_wp2_with fail)
  refine (HS1.out _ (HD.out.then (by assumption))).mono ?_; rintro _ _ ⟨rfl, hw⟩; have hS := Chg.then (by assumption) hw; have hk := Chg.cells hS HLT1.out (by simp); have hk2 := Chg.cells hS HLT2.out (by simp); clear hw
  go_wp2_with fail
  refine And.intro (by assumption : Chg _ _ _) ?_
  repeat
    (with_reducible show wpX _ _ _ _ _ _ _ _
     first
       | refine wpX_nil ?_
       | refine wpX_skip rfl ?_
       | refine wpX_mv rfl rfl (by kernel_rfl) (fun _ _ => ?_)
       | refine wpX_ldC rfl rfl rfl (by first | exact z1.out | exact z2.out) (by assumption) (fun _ _ => ?_)
       | refine wpX_ef' rfl rfl rfl (fun _ _ => ?_)
     go_wp2_with fail)
  refine (HS2.out _ (HD.out.then (by assumption))).mono ?_; rintro _ _ ⟨rfl, hw⟩; have hS := Chg.then (by assumption) hw; have hk := Chg.cells hS HLT1.out (by simp); have hk2 := Chg.cells hS HLT2.out (by simp); clear hw
  go_wp2_with fail
  refine And.intro (by assumption : Chg _ _ _) ?_
  repeat
    (with_reducible show wpX _ _ _ _ _ _ _ _
     first
       | refine wpX_nil ?_
       | refine wpX_skip rfl ?_
       | refine wpX_mv rfl rfl (by kernel_rfl) (fun _ _ => ?_)
       | refine wpX_ldC rfl rfl rfl (by first | exact z1.out | exact z2.out) (by assumption) (fun _ _ => ?_)
       | refine wpX_ef' rfl rfl rfl (fun _ _ => ?_)
     go_wp2_with fail)
  refine (HS3.out _ (HD.out.then (by assumption))).mono ?_; rintro _ _ ⟨rfl, hw⟩; have hS := Chg.then (by assumption) hw; have hk := Chg.cells hS HLT1.out (by simp); have hk2 := Chg.cells hS HLT2.out (by simp); clear hw
  go_wp2_with fail
  refine And.intro (by assumption : Chg _ _ _) ?_
  repeat
    (with_reducible show wpX _ _ _ _ _ _ _ _
     first
       | refine wpX_nil ?_
       | refine wpX_skip rfl ?_
       | refine wpX_mv rfl rfl (by kernel_rfl) (fun _ _ => ?_)
       | refine wpX_ldC rfl rfl rfl (by first | exact z1.out | exact z2.out) (by assumption) (fun _ _ => ?_)
       | refine wpX_ef' rfl rfl rfl (fun _ _ => ?_)
     go_wp2_with fail)
  have HC0 := Lib.hid (HD.out.then hS)
  clear hS hk hk2 p0 q0 p1 q1 p2 q2 p3 q3 p4 q4 p5 q5 p6 q6
  go_loopw [5] (fun i wr => ∃ k : Nat, k ≤ o.uses.length ∧ i = .int .i64 k ∧ Chg [] w wr) (fun i _ => o.uses.length - (intOf i).toNat)
  case atStart => exact ⟨0, Nat.zero_le _, rfl, HC0.out⟩
  case round =>
    obtain ⟨k, hk, rfl, hc⟩ := hrel
    have p2 : wr.cell? ⟨b1, f1 + 2, none⟩ = _ := hc.cellSome H1.out.c2 (by simp)
    have q2 : wr.cell? ⟨b2, f2 + 2, none⟩ = _ := hc.cellSome H2.out.c2 (by simp)
    dsimp only at p2 q2
    by_cases hlt : k < o.uses.length
    · have hu1 : us.map (·.u) = o.uses := H1.out.us
      have hu2 : us2.map (·.u) = o.uses := H2.out.us
      have hl1 : us.length = o.uses.length := by rw [← hu1, List.length_map]
      have hl2 : us2.length = o.uses.length := by rw [← hu2, List.length_map]
      obtain ⟨m1, hm1⟩ : ∃ m, us[k]? = some m := ⟨us[k], by simp [hl1, hlt]⟩
      obtain ⟨m2, hm2⟩ : ∃ m, us2[k]? = some m := ⟨us2[k], by simp [hl2, hlt]⟩
      have hx1 : o.uses[k]? = some m1.u := by rw [← hu1, List.getElem?_map, hm1]; rfl
      have hx2 : o.uses[k]? = some m2.u := by rw [← hu2, List.getElem?_map, hm2]; rfl
      have hxe : m2.u = m1.u := by rw [hx1] at hx2; exact (Option.some.inj hx2).symm
      have hat1 : At w ua (us.flatMap UseM.cells) := H1.out.u
      have hat2 : At w ua2 (us2.flatMap UseM.cells) := H2.out.u
      obtain ⟨d1, o1, rfl, hcell1⟩ := hat1 (by rw [flat_len _ 3 (fun _ => rfl)]; omega)
      obtain ⟨d2, o2, rfl, hcell2⟩ := hat2 (by rw [flat_len _ 3 (fun _ => rfl)]; omega)
      obtain ⟨u, ma1, mc1⟩ := m1
      obtain ⟨u2, ma2, mc2⟩ := m2
      dsimp only at hxe hx1
      subst hxe
      have hnl : u2.names.length ≤ 1099511627776 := (HSM.out.uses.2 _ (List.mem_of_getElem? hx1)).2.2.1
      have hsz1 : u2.name.length ≤ 1099511627776 := (HSM.out.uses.2 _ (List.mem_of_getElem? hx1)).1
      have hsz2 : u2.need.length ≤ 1099511627776 := (HSM.out.uses.2 _ (List.mem_of_getElem? hx1)).2.1
      have n1 := (H1.out.un _ (List.mem_of_getElem? hm1)).1
      have n2 := (H2.out.un _ (List.mem_of_getElem? hm2)).1
      dsimp only at n1 n2
      have HN := Lib.hid (fun w' (hc' : Chg [] wr w') => same_str ma1 ma2 u2.names.length mc1 mc2 u2.names w' rfl hnl (by have := (n1.kept hc (by simp)).kept hc' (by simp); rw [map_flat] at this; exact this) (by have := (n2.kept hc (by simp)).kept hc' (by simp); rw [map_flat] at this; exact this))
      have r10 : wr.cell? ⟨d1, o1 + k * 3, none⟩ = some (str u2.name) := by
        have h1 := flat_get UseM.cells 3 (fun _ => rfl) us k 0 ⟨u2, ma1, mc1⟩ hm1 (by omega)
        have h2 := hc.cellSome (hcell1 _ _ h1) (by simp)
        exact h2
      have r11 : wr.cell? ⟨d1, o1 + k * 3 + 1, none⟩ = some (str u2.need) := by
        have h1 := flat_get UseM.cells 3 (fun _ => rfl) us k 1 ⟨u2, ma1, mc1⟩ hm1 (by omega)
        have h2 := hc.cellSome (hcell1 _ _ h1) (by simp)
        rw [← Nat.add_assoc] at h2; exact h2
      have r12 : wr.cell? ⟨d1, o1 + k * 3 + 2, none⟩ = some (.slice ma1 u2.names.length mc1) := by
        have h1 := flat_get UseM.cells 3 (fun _ => rfl) us k 2 ⟨u2, ma1, mc1⟩ hm1 (by omega)
        have h2 := hc.cellSome (hcell1 _ _ h1) (by simp)
        rw [← Nat.add_assoc] at h2; exact h2
      have r20 : wr.cell? ⟨d2, o2 + k * 3, none⟩ = some (str u2.name) := by
        have h1 := flat_get UseM.cells 3 (fun _ => rfl) us2 k 0 ⟨u2, ma2, mc2⟩ hm2 (by omega)
        have h2 := hc.cellSome (hcell2 _ _ h1) (by simp)
        exact h2
      have r21 : wr.cell? ⟨d2, o2 + k * 3 + 1, none⟩ = some (str u2.need) := by
        have h1 := flat_get UseM.cells 3 (fun _ => rfl) us2 k 1 ⟨u2, ma2, mc2⟩ hm2 (by omega)
        have h2 := hc.cellSome (hcell2 _ _ h1) (by simp)
        rw [← Nat.add_assoc] at h2; exact h2
      have r22 : wr.cell? ⟨d2, o2 + k * 3 + 2, none⟩ = some (.slice ma2 u2.names.length mc2) := by
        have h1 := flat_get UseM.cells 3 (fun _ => rfl) us2 k 2 ⟨u2, ma2, mc2⟩ hm2 (by omega)
        have h2 := hc.cellSome (hcell2 _ _ h1) (by simp)
        rw [← Nat.add_assoc] at h2; exact h2
      have HC := Lib.hid hc
      have L1 := Lib.hid (show d1 < wr.drew.heap.size from lt_of_cell r10)
      have L2 := Lib.hid (show d2 < wr.drew.heap.size from lt_of_cell r20)
      have L3 := Lib.hid (show b1 < wr.drew.heap.size from lt_of_cell p2)
      have L4 := Lib.hid (show b2 < wr.drew.heap.size from lt_of_cell q2)
      have y1 := Lib.hid (Zone.of (X := []) (w0 := wr.drew) p2 (by simp))
      have y2 := Lib.hid (Zone.of (X := []) (w0 := wr.drew) q2 (by simp))
      have y3 := Lib.hid (Zone.of (X := []) (w0 := wr.drew) r10 (by simp))
      have y4 := Lib.hid (Zone.of (X := []) (w0 := wr.drew) r20 (by simp))
      clear hcell1 hcell2 hc n1 n2 hu1 hu2 hl1 hl2 hm1 hm2 hx1 hx2 hat1 hat2
      go_wp2_with fail
      refine wp_region_C [] rfl (by kernel_rfl) ?_
      have hS : Chg [] wr.drew wr.drew := Chg.refl _ _
      repeat
        (with_reducible show wpX _ _ _ _ _ _ _ _
         first
           | refine wpX_nil ?_
           | refine wpX_skip rfl ?_
           | refine wpX_mv rfl rfl (by kernel_rfl) (fun _ _ => ?_)
           | refine wpX_ldC rfl rfl rfl (by first | exact y1.out | exact y2.out | exact y3.out | exact y4.out) (by assumption) (fun _ _ => ?_)
           | refine wpX_ef' rfl rfl rfl (fun _ _ => ?_)
         go_wp2_with fail)
      refine (HN.out _ (Chg.then (⟨rfl, rfl, rfl, Nat.le_refl _, fun _ _ _ => rfl⟩ : Chg [] wr wr.drew) (by assumption))).mono ?_; rintro _ _ ⟨rfl, hw⟩; have hS := Chg.then (by assumption) hw; clear hw
      go_wp2_with fail
      refine And.intro (by assumption : Chg _ _ _) ?_
      repeat
        (with_reducible show wpX _ _ _ _ _ _ _ _
         first
           | refine wpX_nil ?_
           | refine wpX_skip rfl ?_
           | refine wpX_mv rfl rfl (by kernel_rfl) (fun _ _ => ?_)
           | refine wpX_ldC rfl rfl rfl (by first | exact y1.out | exact y2.out | exact y3.out | exact y4.out) (by assumption) (fun _ _ => ?_)
           | refine wpX_ef' rfl rfl rfl (fun _ _ => ?_)
         go_wp2_with fail)
      go_roundw
      case rel => exact ⟨k + 1, by omega, by go_num, HC.out.drew.then hS⟩
      case measure => simp [intOf]; omega
    · have HC := Lib.hid hc; clear hc
      have hkn : k = o.uses.length := by omega
      go_wp2_with fail
      go_ret
      exact ⟨rfl, HC.out⟩
end Go.Proofs.YtjgfclhempjinaaGreatDoor
