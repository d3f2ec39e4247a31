/- An object that is handed in, as the statements read it: what lies in memory. -/
import Derived.Test.YtjgfclhempjinaaGreatDoorProg
import Derived.Test.YtjgfclhempjinaaGreatDoorObjMem
import Derived.OpenShut
namespace Go.Mq
open Go Go.RowKit Go.WideShapes Go.ChangeShapes

theorem At.underSize {w : World} {a : Option Addr} {vs : List Value} {n : Nat} (h : At w a vs) (hn : 0 < n → 0 < vs.length) : Under w.heap.size a n := by
  intro h0 p hp
  obtain ⟨b, off, ha, hc⟩ := h (hn h0)
  rw [hp] at ha
  cases ha
  have h1 := hn h0
  have h2 := hc 0 vs[0] (by simp [h1])
  exact lt_of_cell h2

section
variable {H : Type} {enc : TypeId × Value → H} {P : Program} {w : World} {base : Nat} {spare : Nat → Bool} {held : Bool} {fuel : Nat} {t : TypeId} {cs : List Value} {x : DataW H × List MemPlace}

theorem open_struct {fs : Array Field} (ht : P.underlying t = some (.struct fs)) (h : DataW.trod enc P w base spare held fuel t cs = some x) :
    ∃ n, cs.length = P.cellsOf t ∧ ∀ (i : Nat) (f : Field), fs[i]? = some f → ∃ y, DataW.trod enc P w base spare held n f.type ((cs.drop f.offset).take (P.cellsOf f.type)) = some y := by
  obtain ⟨xs, n, _, _, hl, hs, hf⟩ := DataW.trod_struct ht h
  refine ⟨n, hl, fun i f hi => ?_⟩
  have hlt : i < xs.length := by rw [hs]; exact (Array.getElem?_eq_some_iff.1 hi).1
  exact ⟨xs[i], by rw [hf i f hi]; simp [hlt]⟩
theorem open_str (ht : P.underlying t = some .string) (h : DataW.trod enc P w base spare held fuel t cs = some x) : ∃ s : List UInt8, cs = [.string (bs s)] ∧ s.length ≤ 9223372036854775807 := by
  obtain ⟨s, rfl, _, hs⟩ := DataW.trod_string ht h
  refine ⟨s.data.toList, by rw [bs_toList], ?_⟩
  rw [← Lib.size_eq]
  simp only [maxLen] at hs
  omega
theorem open_i64 (ht : P.underlying t = some (.int .i64)) (h : DataW.trod enc P w base spare held fuel t cs = some x) : ∃ n : Int, cs = [.int .i64 n] ∧ -9223372036854775808 ≤ n ∧ n < 9223372036854775808 := by
  obtain ⟨n, rfl, _, hw⟩ := DataW.trod_int ht h
  have := bounds_i64 hw
  exact ⟨n, rfl, this.1, by omega⟩
theorem open_boolc (ht : P.underlying t = some .bool) (h : DataW.trod enc P w base spare held fuel t cs = some x) : ∃ b : Bool, cs = [.bool b] := by
  cases fuel with
  | zero => simp [DataW.trod] at h
  | succ n =>
    unfold DataW.trod at h
    rw [ht] at h
    split at h <;> simp_all
theorem open_list {β : Type} (cells : β → List Value) (Good : β → Prop) {e : TypeId} {k : Nat} (ht : P.underlying t = some (.slice e)) (hk : P.cellsOf e = k) (hk0 : 0 < k) (hlen : ∀ d, (cells d).length = k)
    (helem : ∀ n cs y, DataW.trod enc P w base spare held n e cs = some y → ∃ d, cs = cells d ∧ Good d) (h : DataW.trod enc P w base spare held fuel t cs = some x) :
    ∃ (a : Option Addr) (l : List β) (c : Nat), cs = [.slice a l.length c] ∧ At w a (l.flatMap cells) ∧ l.length ≤ 9223372036854775807 ∧ ∀ d ∈ l, Good d := by
  rcases DataW.trod_slice ht h with ⟨rfl, _⟩ | ⟨a, len, cap, elems, rest, n, _, rfl, _, _, hlc, hcm, hel, hget, _⟩
  · exact ⟨none, [], 0, rfl, fun h => by simp at h, by simp, fun _ h => by cases h⟩
  · have step : ∀ m, m ≤ len → ∃ l : List β, l.length = m ∧ (∀ i d, l[i]? = some d → w.cells? base (a.add (i * k)) k = some (cells d)) ∧ ∀ d ∈ l, Good d := by
      intro m
      induction m with
      | zero => exact fun _ => ⟨[], rfl, fun _ _ h => by simp at h, fun _ h => by cases h⟩
      | succ m ih =>
        intro hm
        obtain ⟨l, hl, hc, hg⟩ := ih (by omega)
        have he := hget m (by omega)
        have hlt : m < elems.length := by rw [hel]; omega
        rw [List.getElem?_eq_getElem hlt, Option.bind_eq_some_iff, hk] at he
        obtain ⟨cs', hcs, hd⟩ := he
        obtain ⟨d, rfl, hgd⟩ := helem n cs' _ hd
        refine ⟨l ++ [d], by simp [hl], fun i d' hi => ?_, fun d' hd' => ?_⟩
        · rcases Nat.lt_or_ge i l.length with h | h
          · rw [List.getElem?_append_left h] at hi; exact hc i d' hi
          · rw [List.getElem?_append_right h] at hi
            have hi0 : i - l.length = 0 := by
              by_cases h0 : i - l.length = 0
              · exact h0
              · rw [List.getElem?_eq_none (by simp; omega)] at hi; cases hi
            rw [hi0] at hi
            simp at hi
            subst hi
            have : i = m := by omega
            rw [this]; exact hcs
        · rcases List.mem_append.1 hd' with h | h
          · exact hg d' h
          · rw [List.mem_singleton] at h; subst h; exact hgd
    obtain ⟨l, hl, hc, hg⟩ := step len (Nat.le_refl _)
    refine ⟨some a, l, cap, by rw [hl], fun h0 => ?_, by simp only [maxLen] at hcm; omega, hg⟩
    have hl0 : 0 < l.length := Obj.flat_pos h0
    obtain ⟨b, off, spot⟩ := a
    have h00 := hc 0 l[0] (by simp [hl0])
    obtain ⟨_, _, hcell⟩ := World.cells?_some h00
    have hz := hcell 0 hk0
    have hlz := hlen l[0]
    rw [List.getElem?_eq_getElem (by rw [hlz]; exact hk0)] at hz
    have hspot : spot = none := by
      have h1 := World.cell?_spot hz
      simp [Addr.add] at h1
      exact h1
    subst hspot
    refine ⟨b, off, rfl, fun i x hx => ?_⟩
    have hil : i < l.length * k := by rw [← Obj.flat_len cells k hlen l]; exact (List.getElem?_eq_some_iff.1 hx).1
    have hq : i / k < l.length := Nat.div_lt_of_lt_mul (by rw [Nat.mul_comm]; exact hil)
    have hr : i % k < k := Nat.mod_lt _ hk0
    have hi : i = i / k * k + i % k := by rw [Nat.mul_comm]; exact (Nat.div_add_mod i k).symm
    have hfg := Obj.flat_get cells k hlen l (i / k) (i % k) l[i / k] (by simp [hq]) hr
    rw [← hi, hx] at hfg
    obtain ⟨_, _, hcell⟩ := World.cells?_some (hc (i / k) l[i / k] (by simp [hq]))
    have h1 := hcell (i % k) hr
    rw [add_plain, add_plain, Nat.add_assoc, ← hi, ← hfg] at h1
    exact h1
theorem len3 {α : Type} {l : List α} (h : l.length = 3) : ∃ a b c, l = [a, b, c] := by
  match l, h with
  | [a, b, c], _ => exact ⟨a, b, c, rfl⟩
theorem len4 {α : Type} {l : List α} (h : l.length = 4) : ∃ a b c d, l = [a, b, c, d] := by
  match l, h with
  | [a, b, c, d], _ => exact ⟨a, b, c, d, rfl⟩
theorem len7 {α : Type} {l : List α} (h : l.length = 7) : ∃ a b c d e f g, l = [a, b, c, d, e, f, g] := by
  match l, h with
  | [a, b, c, d, e, f, g], _ => exact ⟨a, b, c, d, e, f, g, rfl⟩
end
end Go.Mq
namespace Go.Mq.Obj
open Go Go.RowKit Go.Mq
/-- What can be held in memory at all. -/
structure ObjD.held (o : ObjD) : Prop where
  fit : o.fit
  name : o.name.length ≤ 9223372036854775807
  syms : o.syms.length ≤ 9223372036854775807 ∧ ∀ s ∈ o.syms, s.name.length ≤ 9223372036854775807
  uses : o.uses.length ≤ 9223372036854775807 ∧ ∀ u ∈ o.uses, u.name.length ≤ 9223372036854775807 ∧ u.need.length ≤ 9223372036854775807 ∧ u.names.length ≤ 9223372036854775807 ∧ ∀ n ∈ u.names, n.length ≤ 9223372036854775807
  vars : o.vars.length ≤ 9223372036854775807 ∧ ∀ g ∈ o.vars, g.name.length ≤ 9223372036854775807
  procs : o.procs.length ≤ 9223372036854775807
  names : o.names.length ≤ 9223372036854775807 ∧ ∀ n ∈ o.names, n.length ≤ 9223372036854775807
  code : o.code.length ≤ 9223372036854775807
end Go.Mq.Obj
namespace Go.Proofs.YtjgfclhempjinaaGreatDoor
open Go Go.RowKit Go.Mq Go.Mq.Obj Go.ChangeShapes
set_option maxRecDepth 100000
section
variable {H : Type} {enc : TypeId × Value → H} {w : World} {base : Nat} {spare : Nat → Bool} {held : Bool} {fuel : Nat} {cs : List Value} {x : DataW H × List MemPlace}
theorem cells1 : Tryz.prog.cellsOf 9 = 1 ∧ Tryz.prog.cellsOf 3 = 1 ∧ Tryz.prog.cellsOf 2 = 1 ∧ Tryz.prog.cellsOf 4 = 1 ∧ Tryz.prog.cellsOf 42 = 1 ∧ Tryz.prog.cellsOf 38 = 1 ∧ Tryz.prog.cellsOf 39 = 1 ∧
    Tryz.prog.cellsOf 40 = 1 ∧ Tryz.prog.cellsOf 41 = 1 ∧ Tryz.prog.cellsOf 43 = 1 := by
  refine ⟨?_, ?_, ?_, ?_, ?_, ?_, ?_, ?_, ?_, ?_⟩ <;> kernel_rfl
theorem cells3 : Tryz.prog.cellsOf 52 = 3 ∧ Tryz.prog.cellsOf 56 = 3 ∧ Tryz.prog.cellsOf 54 = 4 ∧ Tryz.prog.cellsOf 47 = 3 ∧ Tryz.prog.cellsOf 49 = 3 ∧ Tryz.prog.cellsOf 45 = 7 := by
  refine ⟨?_, ?_, ?_, ?_, ?_, ?_⟩ <;> kernel_rfl
theorem open_sym (h : DataW.trod enc Tryz.prog w base spare held fuel 52 cs = some x) : ∃ s : SymD, cs = s.cells ∧ (s.fit ∧ s.name.length ≤ 9223372036854775807) := by
  obtain ⟨c1, c2, c3, c4, c5, c6, c7, c8, c9, c10⟩ := cells1
  obtain ⟨n, hl, hf⟩ := open_struct Tryz.underlying52 h
  rw [cells3.1] at hl
  obtain ⟨a, b, c, rfl⟩ := len3 hl
  obtain ⟨y0, h0⟩ := hf 0 _ rfl
  obtain ⟨y1, h1⟩ := hf 1 _ rfl
  obtain ⟨y2, h2⟩ := hf 2 _ rfl
  simp [c1, c2, c3, c4, c5, c6, c7, c8, c9, c10] at h0 h1 h2
  obtain ⟨nm, e0, z0⟩ := open_str Tryz.underlying9 h0
  obtain rfl := List.cons.inj e0 |>.1
  obtain ⟨p, e1, z1⟩ := open_i64 Tryz.underlying3 h1
  obtain rfl := List.cons.inj e1 |>.1
  obtain ⟨q, e2, z2⟩ := open_i64 Tryz.underlying3 h2
  obtain rfl := List.cons.inj e2 |>.1
  exact ⟨⟨nm, p, q⟩, rfl, ⟨⟨z1, z2⟩, z0⟩⟩
theorem open_glob (h : DataW.trod enc Tryz.prog w base spare held fuel 54 cs = some x) : ∃ s : GlobD, cs = s.cells ∧ (s.fit ∧ s.name.length ≤ 9223372036854775807) := by
  obtain ⟨c1, c2, c3, c4, c5, c6, c7, c8, c9, c10⟩ := cells1
  obtain ⟨n, hl, hf⟩ := open_struct Tryz.underlying54 h
  rw [cells3.2.2.1] at hl
  obtain ⟨a, b, c, d, rfl⟩ := len4 hl
  obtain ⟨y0, h0⟩ := hf 0 _ rfl
  obtain ⟨y1, h1⟩ := hf 1 _ rfl
  obtain ⟨y2, h2⟩ := hf 2 _ rfl
  obtain ⟨y3, h3⟩ := hf 3 _ rfl
  simp [c1, c2, c3, c4, c5, c6, c7, c8, c9, c10] at h0 h1 h2 h3
  obtain ⟨nm, e0, z0⟩ := open_str Tryz.underlying9 h0
  obtain rfl := List.cons.inj e0 |>.1
  obtain ⟨p, e1, z1⟩ := open_i64 Tryz.underlying3 h1
  obtain rfl := List.cons.inj e1 |>.1
  obtain ⟨q, e2, z2⟩ := open_i64 Tryz.underlying3 h2
  obtain rfl := List.cons.inj e2 |>.1
  obtain ⟨r, e3⟩ := open_boolc Tryz.underlying4 h3
  obtain rfl := List.cons.inj e3 |>.1
  exact ⟨⟨nm, p, q, r⟩, rfl, ⟨⟨z1, z2⟩, z0⟩⟩
theorem open_ent (h : DataW.trod enc Tryz.prog w base spare held fuel 47 cs = some x) : ∃ s : EntD, cs = s.cells ∧ (s.fit) := by
  obtain ⟨c1, c2, c3, c4, c5, c6, c7, c8, c9, c10⟩ := cells1
  obtain ⟨n, hl, hf⟩ := open_struct Tryz.underlying47 h
  rw [cells3.2.2.2.1] at hl
  obtain ⟨a, b, c, rfl⟩ := len3 hl
  obtain ⟨y0, h0⟩ := hf 0 _ rfl
  obtain ⟨y1, h1⟩ := hf 1 _ rfl
  obtain ⟨y2, h2⟩ := hf 2 _ rfl
  simp [c1, c2, c3, c4, c5, c6, c7, c8, c9, c10] at h0 h1 h2
  obtain ⟨p, e0, z0⟩ := open_i64 Tryz.underlying3 h0
  obtain rfl := List.cons.inj e0 |>.1
  obtain ⟨q, e1, z1⟩ := open_i64 Tryz.underlying3 h1
  obtain rfl := List.cons.inj e1 |>.1
  obtain ⟨r, e2, z2⟩ := open_i64 Tryz.underlying3 h2
  obtain rfl := List.cons.inj e2 |>.1
  exact ⟨⟨p, q, r⟩, rfl, ⟨z0, z1, z2⟩⟩
theorem open_inst (h : DataW.trod enc Tryz.prog w base spare held fuel 49 cs = some x) : ∃ s : InstD, cs = s.cells ∧ (s.fit) := by
  obtain ⟨c1, c2, c3, c4, c5, c6, c7, c8, c9, c10⟩ := cells1
  obtain ⟨n, hl, hf⟩ := open_struct Tryz.underlying49 h
  rw [cells3.2.2.2.2.1] at hl
  obtain ⟨a, b, c, rfl⟩ := len3 hl
  obtain ⟨y0, h0⟩ := hf 0 _ rfl
  obtain ⟨y1, h1⟩ := hf 1 _ rfl
  obtain ⟨y2, h2⟩ := hf 2 _ rfl
  simp [c1, c2, c3, c4, c5, c6, c7, c8, c9, c10] at h0 h1 h2
  obtain ⟨p, e0, z0⟩ := open_i64 Tryz.underlying3 h0
  obtain rfl := List.cons.inj e0 |>.1
  obtain ⟨q, e1, z1⟩ := open_i64 Tryz.underlying2 h1
  obtain rfl := List.cons.inj e1 |>.1
  obtain ⟨r, e2, z2⟩ := open_i64 Tryz.underlying2 h2
  obtain rfl := List.cons.inj e2 |>.1
  exact ⟨⟨p, q, r⟩, rfl, ⟨z0, z1, z2⟩⟩
theorem open_use (h : DataW.trod enc Tryz.prog w base spare held fuel 56 cs = some x) : ∃ s : UseM, cs = s.cells ∧ ((At w s.at_ (s.u.names.map str) ∧ Under w.heap.size s.at_ s.u.names.length) ∧ s.u.name.length ≤ 9223372036854775807 ∧ s.u.need.length ≤ 9223372036854775807 ∧ s.u.names.length ≤ 9223372036854775807 ∧ ∀ n ∈ s.u.names, n.length ≤ 9223372036854775807) := by
  obtain ⟨c1, c2, c3, c4, c5, c6, c7, c8, c9, c10⟩ := cells1
  obtain ⟨n, hl, hf⟩ := open_struct Tryz.underlying56 h
  rw [cells3.2.1] at hl
  obtain ⟨a, b, c, rfl⟩ := len3 hl
  obtain ⟨y0, h0⟩ := hf 0 _ rfl
  obtain ⟨y1, h1⟩ := hf 1 _ rfl
  obtain ⟨y2, h2⟩ := hf 2 _ rfl
  simp [c1, c2, c3, c4, c5, c6, c7, c8, c9, c10] at h0 h1 h2
  obtain ⟨nm, e0, z0⟩ := open_str Tryz.underlying9 h0
  obtain rfl := List.cons.inj e0 |>.1
  obtain ⟨nd, e1, z1⟩ := open_str Tryz.underlying9 h1
  obtain rfl := List.cons.inj e1 |>.1
  obtain ⟨ad, ns, cp, e2, t2, z2, g2⟩ := open_list (fun x : List UInt8 => [str x]) (fun x => x.length ≤ 9223372036854775807) Tryz.underlying42 c1 (by omega) (fun _ => rfl) (fun n cs y h => open_str Tryz.underlying9 h) h2
  obtain rfl := List.cons.inj e2 |>.1
  rw [← map_flat] at t2
  exact ⟨⟨⟨nm, nd, ns⟩, ad, cp⟩, rfl, ⟨t2, t2.underSize (by simp)⟩, z0, z1, z2, g2⟩
theorem pos3 {α : Type} {f : α → List Value} {k : Nat} (hk : 0 < k) (hf : ∀ x, (f x).length = k) {l : List α} (h : 0 < l.length) : 0 < (l.flatMap f).length := by
  rw [flat_len f k hf]; exact Nat.mul_pos h hk
/-- An object that is handed in: nil, or what lies in memory. -/
theorem open_obj {r : Reach} {b0 : Nat} {v : Value} {d : DataW H} {ps : List MemPlace} (hval : Value.okWide Tryz.prog w r b0 22 v) (hd : DataW.Trod enc Tryz.prog w base spare held 22 v d ps) :
    v = .pointer none ∨ ∃ b off o M, v = .pointer (some ⟨b, off, none⟩) ∧ ObjAt w w.heap.size b off o M ∧ o.held := by
  rcases open_ptr Tryz.underlying22 (by rw [cells3.2.2.2.2.2]; omega) hval hd with ⟨h, _⟩ | ⟨b, off, cs, y, fuel, rfl, _, _, hl, hc, ht⟩
  · exact .inl h
  right
  obtain ⟨c1, c2, c3, c4, c5, c6, c7, c8, c9, c10⟩ := cells1
  obtain ⟨n, _, hf⟩ := open_struct Tryz.underlying45 ht
  rw [cells3.2.2.2.2.2] at hl hc
  obtain ⟨a0, a1, a2, a3, a4, a5, a6, rfl⟩ := len7 hl
  obtain ⟨y0, h0⟩ := hf 0 _ rfl
  obtain ⟨y1, h1⟩ := hf 1 _ rfl
  obtain ⟨y2, h2⟩ := hf 2 _ rfl
  obtain ⟨y3, h3⟩ := hf 3 _ rfl
  obtain ⟨y4, h4⟩ := hf 4 _ rfl
  obtain ⟨y5, h5⟩ := hf 5 _ rfl
  obtain ⟨y6, h6⟩ := hf 6 _ rfl
  simp [c1, c2, c3, c4, c5, c6, c7, c8, c9, c10] at h0 h1 h2 h3 h4 h5 h6
  obtain ⟨nm, e0, z0⟩ := open_str Tryz.underlying9 h0
  obtain ⟨sa, sy, sc, e1, t1, z1, g1⟩ := open_list SymD.cells (fun s => s.fit ∧ s.name.length ≤ 9223372036854775807) Tryz.underlying38 cells3.1 (by omega) (fun _ => rfl) (fun n cs y h => open_sym h) h1
  obtain ⟨ua, us, uc, e2, t2, z2, g2⟩ := open_list UseM.cells (fun s => (At w s.at_ (s.u.names.map str) ∧ Under w.heap.size s.at_ s.u.names.length) ∧ s.u.name.length ≤ 9223372036854775807 ∧ s.u.need.length ≤ 9223372036854775807 ∧ s.u.names.length ≤ 9223372036854775807 ∧ ∀ n ∈ s.u.names, n.length ≤ 9223372036854775807) Tryz.underlying39 cells3.2.1 (by omega) (fun _ => rfl) (fun n cs y h => open_use h) h2
  obtain ⟨va, vs, vc, e3, t3, z3, g3⟩ := open_list GlobD.cells (fun s => s.fit ∧ s.name.length ≤ 9223372036854775807) Tryz.underlying40 cells3.2.2.1 (by omega) (fun _ => rfl) (fun n cs y h => open_glob h) h3
  obtain ⟨pa, pr, pc, e4, t4, z4, g4⟩ := open_list EntD.cells (fun s => s.fit) Tryz.underlying41 cells3.2.2.2.1 (by omega) (fun _ => rfl) (fun n cs y h => open_ent h) h4
  obtain ⟨na, nl, nc, e5, t5, z5, g5⟩ := open_list (fun x : List UInt8 => [str x]) (fun x => x.length ≤ 9223372036854775807) Tryz.underlying42 c1 (by omega) (fun _ => rfl) (fun n cs y h => open_str Tryz.underlying9 h) h5
  obtain ⟨ca, co, cc, e6, t6, z6, g6⟩ := open_list InstD.cells (fun s => s.fit) Tryz.underlying43 cells3.2.2.2.2.1 (by omega) (fun _ => rfl) (fun n cs y h => open_inst h) h6
  obtain rfl := List.cons.inj e0 |>.1
  obtain rfl := List.cons.inj e1 |>.1
  obtain rfl := List.cons.inj e2 |>.1
  obtain rfl := List.cons.inj e3 |>.1
  obtain rfl := List.cons.inj e4 |>.1
  obtain rfl := List.cons.inj e5 |>.1
  obtain rfl := List.cons.inj e6 |>.1
  have p5 : 0 < nl.length → 0 < (nl.flatMap fun x : List UInt8 => [str x]).length := pos3 (k := 1) (by omega) (fun _ => rfl)
  have u5 := t5.underSize p5
  rw [← map_flat] at t5
  have q0 := hc 0 (by omega)
  refine ⟨b, off, ⟨nm, sy, us.map (·.u), vs, pr, nl, co⟩, ⟨sa, ua, va, pa, na, ca, sc, uc, vc, pc, nc, cc, us⟩, rfl, ⟨lt_of_cell q0, q0, hc 1 (by omega), ?_, hc 3 (by omega), hc 4 (by omega), hc 5 (by omega), hc 6 (by omega),
    t1, t1.underSize (pos3 (k := 3) (by omega) (fun _ => rfl)), rfl, t2, ?_, fun m hm => (g2 m hm).1, t3, t3.underSize (pos3 (k := 4) (by omega) (fun _ => rfl)), t4, t4.underSize (pos3 (k := 3) (by omega) (fun _ => rfl)), t5, u5, t6, t6.underSize (pos3 (k := 3) (by omega) (fun _ => rfl))⟩,
    ⟨⟨fun s hs => (g1 s hs).1, fun s hs => (g3 s hs).1, g4, g6⟩, z0, ⟨z1, fun s hs => (g1 s hs).2⟩, ⟨by simpa using z2, fun u hu => ?_⟩, ⟨z3, fun s hs => (g3 s hs).2⟩, z4, ⟨z5, g5⟩, z6⟩⟩
  · have h := hc 2 (by omega)
    simpa using h
  · rw [List.length_map]; exact t2.underSize (pos3 (k := 3) (by omega) (fun _ => rfl))
  · obtain ⟨m, hm, rfl⟩ := List.mem_map.1 hu
    exact (g2 m hm).2
end
end Go.Proofs.YtjgfclhempjinaaGreatDoor
