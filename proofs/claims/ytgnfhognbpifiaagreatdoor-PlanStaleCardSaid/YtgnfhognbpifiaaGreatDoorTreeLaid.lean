/- What the listed tables say of memory. -/
import Derived.Test.YtgnfhognbpifiaaGreatDoorTreeMem
import Derived.OpenShut
import Derived.LaidLaws
import Derived.MakeChecks
namespace Go.Mq.Tree
open Go Go.RowKit Go.Mq Go.WideShapes Go.ChangeShapes
section
variable {H : Type} {enc : TypeId × Value → H} {P : Program} {w : World} {base : Nat} {spare : Nat → Bool} {held : Bool} {fuel : Nat} {t : TypeId} {cs : List Value}
abbrev litS (s : List UInt8) : DataW H := .lit (.string s)
theorem str_of {s : ByteArray} {l : List UInt8} (h : s.data.toList = l) : Value.string s = str l := by rw [← h, str, bs_toList]
theorem tab_strs {n : Nat} {e : TypeId} {p : List MemPlace} (l : List (List UInt8)) (ht : P.underlying t = some (.array n e)) (he : P.underlying e = some .string) (hce : P.cellsOf e = 1)
    (h : DataW.trod enc P w base spare held fuel t cs = some (.agg (l.map litS), p)) : ∀ (i : Nat) (s : List UInt8), l[i]? = some s → cs[i]? = some (str s) := by
  obtain ⟨xs, m, _, hx, hl, hxl, hf⟩ := DataW.trod_array ht h
  have hx1 : l.map litS = xs.map (·.1) := by have := congrArg Prod.fst hx; simpa using this
  intro i s hi
  have hlen : l.length = xs.length := by have := congrArg List.length hx1; simpa using this
  have hil : i < l.length := (List.getElem?_eq_some_iff.1 hi).1
  have hxi := hf i (by omega)
  rw [List.getElem?_eq_getElem (by omega)] at hxi
  obtain ⟨s', hc, hxe, _⟩ := DataW.trod_string he hxi
  have h1 : (l.map (litS (H := H)))[i]? = (xs.map (·.1))[i]? := by rw [hx1]
  simp only [List.getElem?_map, hi, Option.map_some, List.getElem?_eq_getElem (show i < xs.length by omega), hxe, Option.some.injEq, DataW.lit.injEq, Lit.string.injEq] at h1
  rw [hce, Nat.mul_one] at hc
  have h2 := congrArg (·[0]?) hc
  simp only [List.getElem?_take, List.getElem?_drop, Nat.add_zero, List.getElem?_cons_zero] at h2
  simp at h2
  rw [h2, str_of h1.symm]
theorem open_strs {e : TypeId} {p : List MemPlace} (l : List (List UInt8)) (h0 : l ≠ []) (ht : P.underlying t = some (.slice e)) (he : P.underlying e = some .string) (hce : P.cellsOf e = 1)
    (h : DataW.trod enc P w base spare held fuel t cs = some (.slice (l.map litS) [], p)) :
    ∃ b off c, cs = [.slice (some ⟨b, off, none⟩) l.length c] ∧ l.length ≤ c ∧ ∀ (j : Nat) (m : List UInt8), l[j]? = some m → w.cell? ⟨b, off + j, none⟩ = some (str m) := by
  rcases DataW.trod_slice ht h with ⟨_, hx⟩ | ⟨a, len, cap, elems, rest, n, _, rfl, hx, _, hlc, hcm, hel, hget, _⟩
  · cases hx
  have hx1 : l.map litS = elems.map (·.1) := by have := congrArg Prod.fst hx; simp only [DataW.slice.injEq] at this; exact this.1
  have hlen : l.length = len := by have := congrArg List.length hx1; simp at this; omega
  have key : ∀ (j : Nat) (m : List UInt8), l[j]? = some m → w.cell? (a.add j) = some (str m) := by
    intro j m hj
    have hjl : j < l.length := (List.getElem?_eq_some_iff.1 hj).1
    have hg := hget j (by omega)
    rw [List.getElem?_eq_getElem (by omega), Option.bind_eq_some_iff, hce, Nat.mul_one] at hg
    obtain ⟨cs', hcs, hd⟩ := hg
    obtain ⟨s', rfl, hxe, _⟩ := DataW.trod_string he hd
    have h1 : (l.map (litS (H := H)))[j]? = (elems.map (·.1))[j]? := by rw [hx1]
    simp only [List.getElem?_map, hj, Option.map_some, List.getElem?_eq_getElem (show j < elems.length by omega), hxe, Option.some.injEq, DataW.lit.injEq, Lit.string.injEq] at h1
    obtain ⟨_, _, hcell⟩ := World.cells?_some hcs
    have h2 : w.cell? (a.add j) = [Value.string s'][0]? := hcell 0 (by omega)
    rw [h2]
    exact congrArg some (str_of h1.symm)
  obtain ⟨b, off, spot⟩ := a
  obtain ⟨x, r, rfl⟩ := List.exists_cons_of_ne_nil h0
  have hz := key 0 x rfl
  have hspot : spot = none := by
    have h1 := World.cell?_spot hz
    simp [Addr.add] at h1
    exact h1
  subst hspot
  exact ⟨b, off, cap, by rw [hlen], by omega, fun j m hj => by have := key j m hj; rwa [add_plain] at this⟩
theorem tab_slices {n : Nat} {e e2 : TypeId} {p : List MemPlace} (ll : List (List (List UInt8))) (h0 : ∀ l ∈ ll, l ≠ []) (ht : P.underlying t = some (.array n e)) (he : P.underlying e = some (.slice e2)) (hce : P.cellsOf e = 1) (he2 : P.underlying e2 = some .string) (hce2 : P.cellsOf e2 = 1)
    (h : DataW.trod enc P w base spare held fuel t cs = some (.agg (ll.map fun l => .slice (l.map litS) []), p)) :
    ∀ (i : Nat) (l : List (List UInt8)), ll[i]? = some l → ∃ b off c, cs[i]? = some (.slice (some ⟨b, off, none⟩) l.length c) ∧ l.length ≤ c ∧ ∀ (j : Nat) (m : List UInt8), l[j]? = some m → w.cell? ⟨b, off + j, none⟩ = some (str m) := by
  obtain ⟨xs, m, _, hx, hl, hxl, hf⟩ := DataW.trod_array ht h
  have hx1 : (ll.map fun l => (DataW.slice (l.map litS) [] : DataW H)) = xs.map (·.1) := by have := congrArg Prod.fst hx; simpa using this
  intro i l hi
  have hlen : ll.length = xs.length := by have := congrArg List.length hx1; simpa using this
  have hil : i < ll.length := (List.getElem?_eq_some_iff.1 hi).1
  have hxi := hf i (by omega)
  rw [List.getElem?_eq_getElem (by omega)] at hxi
  have h1 : (ll.map fun l => (DataW.slice (l.map litS) [] : DataW H))[i]? = (xs.map (·.1))[i]? := by rw [hx1]
  simp only [List.getElem?_map, hi, Option.map_some, List.getElem?_eq_getElem (show i < xs.length by omega), Option.some.injEq] at h1
  have hxi' : xs[i]'(by omega) = (DataW.slice (l.map litS) [], (xs[i]'(by omega)).2) := by rw [h1]
  rw [hxi'] at hxi
  obtain ⟨b, off, c, hc, hlc, hcell⟩ := open_strs l (h0 l (List.mem_of_getElem? hi)) he he2 hce2 hxi
  refine ⟨b, off, c, ?_, hlc, hcell⟩
  rw [hce, Nat.mul_one] at hc
  have h2 := congrArg (·[0]?) hc
  simp only [List.getElem?_take, List.getElem?_drop, Nat.add_zero, List.getElem?_cons_zero] at h2
  simpa using h2
theorem laid_var {l : List (String × DataW Unit)} {n : String} {d : DataW Unit} (hm : (n, d) ∈ l) : ∀ {ps : List MemPlace}, DataW.LaidVars P w l ps →
    ∃ g t cs fuel p, P.globalNamed n = some g ∧ (P.globals[g]?).map (·.type) = some t ∧ w.var? P n = some cs ∧ DataW.trod (fun _ => ()) P w 0 (fun _ => true) false fuel t cs.toList = some (d, p) := by
  induction l with
  | nil => cases hm
  | cons x r ih =>
    intro ps h
    obtain ⟨g, t, cs, fuel, p, q, h1, h2, h3, h4, h5, _⟩ := h
    cases hm with
    | head => exact ⟨g, t, cs, fuel, p, h1, h2, h3, h4⟩
    | tail _ hm => exact ih hm h5
end
theorem laid_of {l : List (String × DataW Unit)} {W : World} (h : laidMetH Go.Proofs.Tryz.prog l W) (hh : (l.all fun x => x.2.handleName?.isNone) = true)
    (h1 : ("internal/strconv.uint64pow10", Lib.tabData .u64 Lib.pow10Tab) ∈ l) (h2 : ∃ nm d, ("strconv.ErrRange", .iface nm d) ∈ l) (h3 : ∃ nm d, ("strconv.ErrSyntax", .iface nm d) ∈ l)
    (h4 : ("marquetry/tree.marks", .agg (marks.map litS)) ∈ l) (h5 : ("marquetry/tree.levels", .agg (levels.map fun l => .slice (l.map litS) [])) ∈ l) : Laid W W.heap.size := by
  rw [Go.MakeChecks.laidMetH_plain _ _ _ hh] at h
  obtain ⟨ps, hv, _, _⟩ := h
  have err : ∀ (n : String) (g : Nat) (t : TypeId) (ms : Array (String × TypeId)), Go.Proofs.Tryz.prog.globalNamed n = some g → (Go.Proofs.Tryz.prog.globals[g]?).map (·.type) = some t → Go.Proofs.Tryz.prog.underlying t = some (.interface ms) → (∃ nm d, (n, .iface nm d) ∈ l) →
      ∃ ev, W.cell? ⟨g, 0, none⟩ = some ev ∧ (ev = .nilIface ∨ ∃ te pe, ev = .iface te pe) := by
    rintro n g t ms hg hty hu ⟨nm, d, hm⟩
    obtain ⟨g', t', cs, fuel, p, e1, e2, e3, e4⟩ := laid_var hm hv
    obtain rfl := Option.some.inj (hg.symm.trans e1)
    obtain rfl := Option.some.inj (hty.symm.trans e2)
    obtain ⟨_, u, v, hcs, _⟩ := iface_of_trod hu e4
    refine ⟨.iface u v, ?_, .inr ⟨u, v, rfl⟩⟩
    rw [World.var?_cell hg e3 0, ← Array.getElem?_toList, hcs]
    rfl
  obtain ⟨g1, t1, c1, f1, p1, a1, b1, d1, e1⟩ := laid_var h1 hv
  obtain ⟨g4, t4, c4, f4, p4, a4, b4, d4, e4⟩ := laid_var h4 hv
  obtain ⟨g5, t5, c5, f5, p5, a5, b5, d5, e5⟩ := laid_var h5 hv
  have x1 := Option.some.inj ((show Go.Proofs.Tryz.prog.globalNamed "internal/strconv.uint64pow10" = some 4 by kernel_rfl).symm.trans a1)
  have x4 := Option.some.inj ((show Go.Proofs.Tryz.prog.globalNamed "marquetry/tree.marks" = some 1 by kernel_rfl).symm.trans a4)
  have x5 := Option.some.inj ((show Go.Proofs.Tryz.prog.globalNamed "marquetry/tree.levels" = some 3 by kernel_rfl).symm.trans a5)
  subst x1 x4 x5
  have y1 := Option.some.inj ((show (Go.Proofs.Tryz.prog.globals[4]?).map (·.type) = some 192 by kernel_rfl).symm.trans b1)
  have y4 := Option.some.inj ((show (Go.Proofs.Tryz.prog.globals[1]?).map (·.type) = some 160 by kernel_rfl).symm.trans b4)
  have y5 := Option.some.inj ((show (Go.Proofs.Tryz.prog.globals[3]?).map (·.type) = some 188 by kernel_rfl).symm.trans b5)
  subst y1 y4 y5
  have m4 := tab_strs marks Go.Proofs.Tryz.underlying160 Go.Proofs.Tryz.underlying9 (by kernel_rfl) e4
  have m5 := tab_slices levels (by decide) Go.Proofs.Tryz.underlying188 Go.Proofs.Tryz.underlying22 (by kernel_rfl) Go.Proofs.Tryz.underlying9 (by kernel_rfl) e5
  have m1 : Lib.TabIs Go.Proofs.Tryz.prog W "internal/strconv.uint64pow10" .u64 Lib.pow10Tab := by
    unfold Lib.TabIs
    rw [d1, ← Lib.cells_of_tab Go.Proofs.Tryz.underlying192 Go.Proofs.Tryz.underlying121 (by kernel_rfl) (by kernel_rfl) e1]
  have mk : ∀ i m, marks[i]? = some m → W.cell? ⟨1, i, none⟩ = some (str m) := fun i m hm => by
    rw [World.var?_cell a4 d4 i, ← Array.getElem?_toList]; exact m4 i m hm
  have lv : ∀ i l, levels[i]? = some l → ∃ b off c, W.cell? ⟨3, i, none⟩ = some (.slice (some ⟨b, off, none⟩) l.length c) ∧ b < W.heap.size ∧ l.length ≤ c ∧ ∀ j m, l[j]? = some m → W.cell? ⟨b, off + j, none⟩ = some (str m) := fun i l hl => by
    obtain ⟨b, off, c, hc, hlc, hcell⟩ := m5 i l hl
    have hne : l ≠ [] := (show ∀ l ∈ levels, l ≠ [] by decide) l (List.mem_of_getElem? hl)
    obtain ⟨x, r, rfl⟩ := List.exists_cons_of_ne_nil hne
    exact ⟨b, off, c, by rw [World.var?_cell a5 d5 i, ← Array.getElem?_toList]; exact hc, lt_of_cell (hcell 0 x rfl), hlc, hcell⟩
  have r1 := err "strconv.ErrRange" 6 28 _ (by kernel_rfl) (by kernel_rfl) Go.Proofs.Tryz.underlying28 h2
  have r2 := err "strconv.ErrSyntax" 5 28 _ (by kernel_rfl) (by kernel_rfl) Go.Proofs.Tryz.underlying28 h3
  have lt1 : 4 < W.heap.size := by
    have := Lib.TabIs.cell m1 a1 0 (by decide)
    exact lt_of_cell this
  have lt4 : 1 < W.heap.size := lt_of_cell (mk 0 _ rfl)
  have lt5 : 3 < W.heap.size := by obtain ⟨_, _, _, hc, _⟩ := lv 0 _ rfl; exact lt_of_cell hc
  exact ⟨Nat.le_refl _, mk, lt4, lv, lt5, r1, (by obtain ⟨_, hc, _⟩ := r1; exact lt_of_cell hc), r2, (by obtain ⟨_, hc, _⟩ := r2; exact lt_of_cell hc), m1, lt1⟩
end Go.Mq.Tree
