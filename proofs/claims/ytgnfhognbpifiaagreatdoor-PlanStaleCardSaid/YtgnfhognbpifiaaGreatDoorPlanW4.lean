/- Modules that texts are, by their names. -/
import Derived.Test.YtgnfhognbpifiaaGreatDoorPlanW3
namespace Go.Mq.Plan
open Go Go.RowKit Go.Mq Go.Mq.Tree
def modsStep (f : Nm → Option Mod) (t : List UInt8) : Nm → Option Mod := match parse t with
  | .ok m => fun n => if n = m.name then some m else f n
  | .bad _ _ => f
def modsF (l : List (List UInt8)) : Nm → Option Mod := l.foldl modsStep fun _ => none
theorem modsF_snoc (l : List (List UInt8)) (t : List UInt8) : modsF (l ++ [t]) = modsStep (modsF l) t := by rw [modsF, List.foldl_append]; rfl
theorem mstep_ok {f : Nm → Option Mod} {t : List UInt8} {m : Mod} (h : parse t = .ok m) : modsStep f t = fun n => if n = m.name then some m else f n := by rw [modsStep, h]
theorem mstep_bad {f : Nm → Option Mod} {t : List UInt8} {en p : Nat} (h : parse t = .bad en p) : modsStep f t = f := by rw [modsStep, h]
theorem putM_len : ∀ (es : List (List UInt8 × Value)) (n : List UInt8) (v : Value), (putM es n v).length ≤ es.length + 1
  | [], _, _ => by simp [putM]
  | (k, u) :: r, n, v => by
    rw [putM]
    split
    · simp
    · have := putM_len r n v; simp; omega
theorem putM_keys : ∀ {es : List (List UInt8 × Value)} {n : List UInt8} {v : Value} {p : List UInt8 × Value}, p ∈ putM es n v → p.1 = n ∨ ∃ q ∈ es, p.1 = q.1
  | [], n, v, p, h => by simp [putM] at h; exact .inl (by rw [h])
  | (k, u) :: r, n, v, p, h => by
    rw [putM] at h
    split at h
    · next hk =>
      rcases List.mem_cons.1 h with rfl | h
      · exact .inl hk
      · exact .inr ⟨p, by simp [h], rfl⟩
    · rcases List.mem_cons.1 h with rfl | h
      · exact .inr ⟨(k, u), by simp, rfl⟩
      · rcases putM_keys h with h | ⟨q, hq, h⟩
        · exact .inl h
        · exact .inr ⟨q, by simp [hq], h⟩
theorem ModsAt.made (w : World) (G : Nat → Prop) : ModsAt (w.alloc (.map #[] 0)) w.heap.size G (fun _ => none) [] := ⟨MapIs.made w, by simp, by simp, fun _ => rfl⟩
end Go.Mq.Plan
namespace Go.Proofs.YtgnfhognbpifiaaGreatDoor
open Go Go.RowKit Go.Mq Go.Mq.Tree Go.Mq.Plan
set_option maxRecDepth 100000
set_option maxHeartbeats 2000000
theorem mods_put {w : World} {b : Nat} {G : Nat → Prop} {mf : Nm → Option Mod} {es : List (List UInt8 × Value)} (h : ModsAt w b G mf es) (hG : ¬ G b) (n : Nm) (m : Mod) (v : Value) (hn : n.length ≤ 1000) (hi : m.imports.length ≤ 1000) (he : es.length < 1000) (hv : ModAt w G m v) :
    ∃ w', (Instr.mapUpdate 25 (.map (some b)) (str n) v).run Tryz.prog w = .ok () w' ∧ ModsAt w' b G (fun x => if x = n then some m else mf x) (putM es n v) ∧ Chg [b] w w' := by
  obtain ⟨h1, hl1, hl2, h2⟩ := h
  obtain ⟨w', hr, hm, hc⟩ := run_putM (P := Tryz.prog) Tryz.underlying25 Tryz.underlying9 h1 n v
  have hS : ∀ x ∈ [b], ¬ G x := fun x hx => by simp at hx; subst hx; exact hG
  refine ⟨w', hr, ⟨hm, by have := putM_len es n v; omega, fun p hp => ?_, fun x => ?_⟩, hc⟩
  · rcases putM_keys hp with h | ⟨q, hq, h⟩
    · rw [h]; exact hn
    · rw [h]; exact hl2 q hq
  · rw [getM_put]
    by_cases hx : x = n
    · subst hx
      simp only [if_pos]
      exact ⟨hi, v, rfl, hv.kept hc hS⟩
    · simp only [if_neg hx, if_neg (Ne.symm hx)]
      have := h2 x
      cases hs : mf x with
      | none => rw [hs] at this; exact this
      | some m' =>
        rw [hs] at this
        obtain ⟨h5, u', h6, h7⟩ := this
        exact ⟨h5, u', h6, h7.kept hc hS⟩
theorem modules_any (l : List (List UInt8)) (hl : l.length ≤ 5) (hz : ∀ n ∈ l, n.length ≤ 900) (F : Nat → Prop) (a : Option Addr) (c : Nat) (w : World) (B : Nat) (hL : Laid w B) (hF : ∀ x, F x → x < w.heap.size) (h : NamesAt w F l (.slice a l.length c)) :
    Calls Tryz.prog 7 #[.slice a l.length c] w (fun e w' => e = .returned (.map (some w.heap.size)) ∧ (∃ es, ModsAt w' w.heap.size (fun x => w.heap.size < x ∧ x < w'.heap.size) (modsF l) es ∧ es.length ≤ 5) ∧ Chg [] w w') := by
  have hmm := @run_makeMap Tryz.prog
  have hB := hL.le
  have HFB := Lib.hid hF
  obtain ⟨_, _, he, _, hrow⟩ := h
  cases he
  obtain ⟨w0, hw0⟩ : ∃ x, w.alloc (.map #[] 0) = x := ⟨_, rfl⟩
  have hc0 : Chg [] w w0 := by rw [← hw0]; exact (Chg.refl _ _).alloc _
  have hs0 : w0.heap.size = w.heap.size + 1 := by rw [← hw0]; simp
  have HIN := Lib.hid (show ModsAt w0 w.heap.size (fun x => w.heap.size < x ∧ x < w0.heap.size) (modsF []) [] by rw [← hw0]; exact ModsAt.made w _)
  have HROW := Lib.hid (hrow.kept hc0 (by simp)); have HL := Lib.hid (hL.kept hc0 (by simp)); have HC0 := Lib.hid hc0; have HZ := Lib.hid hz
  have HS0 := Lib.hid hs0
  clear hrow hL hc0 hz hs0 hF
  go_enter Tryz.func7, Tryz.ntmps7
  go_wp2_with fail
  clear hw0
  go_loopw [4, 5, 6] (fun i _ _ wr => ∃ (k : Nat) (es : List (List UInt8 × Value)), i = .int .i64 k ∧ k ≤ l.length ∧ Chg [w.heap.size] w0 wr ∧ ModsAt wr w.heap.size (fun x => w.heap.size < x ∧ x < wr.heap.size) (modsF (l.take k)) es ∧ es.length ≤ k) (fun i _ _ _ => l.length - (intOf i).toNat)
  case atStart => exact ⟨0, [], rfl, Nat.zero_le _, Chg.refl _ _, HIN.out, Nat.le_refl _⟩
  case round =>
    obtain ⟨k, es, rfl, hk, hc, hin, hes⟩ := hrel
    have HC := Lib.hid hc; have HI := Lib.hid hin
    clear hc hin
    by_cases hlt : k < l.length
    · obtain ⟨t, ht⟩ : ∃ t, l[k]? = some t := ⟨l[k], List.getElem?_eq_getElem hlt⟩
      obtain ⟨b, o, rfl, d0⟩ := names_cell (HROW.out.kept HC.out (fun x hx hn => by simp at hx; have := HFB.out _ hn; omega)) ht
      have htz := HZ.out t (List.mem_of_getElem? ht)
      have HSN := Lib.hid (show modsF (l.take (k + 1)) = modsStep (modsF (l.take k)) t by rw [take_snoc ht, modsF_snoc])
      have HPA := Lib.hid (parse_any t (by omega) wr B (HL.out.kept HC.out (fun x hx => by simp at hx; omega)))
      clear ht
      cases hp : parse t with
      | bad en q =>
        rw [hp] at HPA
        have HSN := Lib.hid (show modsF (l.take (k + 1)) = modsF (l.take k) by rw [HSN.out, mstep_bad hp])
        clear hp
        go_wp2_with fail
        refine HPA.out.mono ?_; rintro _ w1 ⟨hc1, b1, rfl, _, _⟩
        have hz := Blk.new w1 #[str [], nils, nils, nils, nils] 37
        obtain ⟨wA, hwA⟩ : ∃ w', w1.alloc (.cells #[str [], nils, nils, nils, nils] 37) = w' := ⟨_, rfl⟩
        rw [hwA] at hz
        have hcA : Chg [] w1 wA := by rw [← hwA]; exact (Chg.refl _ _).alloc _
        obtain ⟨wF, hwF, hcF, hbF⟩ := set5 (str []) nils nils nils nils hz
        have hcw : Chg [] wr wF := hc1.then (hcA.trans hcF (fun x hx => .inr (by simp at hx; omega)))
        have z0 := hz.cell 0 _ rfl; have z1 := hz.cell 1 _ rfl; have z2 := hz.cell 2 _ rfl; have z3 := hz.cell 3 _ rfl; have z4 := hz.cell 4 _ rfl
        have y0 := hz.frozen 0; have y1 := hz.frozen 1; have y2 := hz.frozen 2; have y3 := hz.frozen 3; have y4 := hz.frozen 4
        have hsz := hcw.size
        have HIF := Lib.hid (show ModsAt wF w.heap.size (fun x => w.heap.size < x ∧ x < wF.heap.size) (modsF (l.take (k + 1))) es by
          rw [HSN.out]; exact (HI.out.kept hcw (by simp) (by simp)).mono fun x hx => ⟨hx.1, by have := hx.2; omega⟩)
        have HCF := Lib.hid (HC.out.then hcw.weak)
        clear hc1 hz hcA hcF hbF hcw
        go_wp2_with fail
        exact ⟨⟨k + 1, es, by go_num, by omega, HCF.out, HIF.out, by omega⟩, by simp [intOf]; omega⟩
      | ok m =>
        rw [hp] at HPA
        have HSN := Lib.hid (show modsF (l.take (k + 1)) = fun n => if n = m.name then some m else modsF (l.take k) n by rw [HSN.out, mstep_ok hp])
        have HWF := Lib.hid (parse_sp hp).1
        clear hp
        go_wp2_with fail
        refine HPA.out.mono ?_; rintro _ w1 ⟨hc1, v, rfl, hmod⟩
        have hmod0 := hmod
        obtain ⟨vi, vv, vp, vb, rfl, ⟨aia, cia, rfl, _⟩, ⟨ava, cva, rfl, _⟩, ⟨apa, cpa, _, rfl, _⟩, ⟨aba, cba, _, rfl, _⟩⟩ := hmod
        have hz := Blk.new w1 #[str [], nils, nils, nils, nils] 37
        obtain ⟨wA, hwA⟩ : ∃ w', w1.alloc (.cells #[str [], nils, nils, nils, nils] 37) = w' := ⟨_, rfl⟩
        rw [hwA] at hz
        have hcA : Chg [] w1 wA := by rw [← hwA]; exact (Chg.refl _ _).alloc _
        obtain ⟨wF, hwF, hcF, hbF⟩ := set5 (str m.name) (.slice aia m.imports.length cia) (.slice ava m.vars.length cva) (.slice apa m.procs.length cpa) (.slice aba m.body.len cba) hz
        have hcG : Chg [] w1 wF := hcA.trans hcF (fun x hx => .inr (by simp at hx; omega))
        have hcw : Chg [] wr wF := hc1.then hcG
        have z0 := hz.cell 0 _ rfl; have z1 := hz.cell 1 _ rfl; have z2 := hz.cell 2 _ rfl; have z3 := hz.cell 3 _ rfl; have z4 := hz.cell 4 _ rfl
        have y0 := hz.frozen 0; have y1 := hz.frozen 1; have y2 := hz.frozen 2; have y3 := hz.frozen 3; have y4 := hz.frozen 4
        have x0 := hbF.cell 0 _ rfl; have x1 := hbF.cell 1 _ rfl; have x2 := hbF.cell 2 _ rfl; have x3 := hbF.cell 3 _ rfl; have x4 := hbF.cell 4 _ rfl
        have hsz := hcw.size
        have hsr := HC.out.size
        have hs0 := HS0.out
        have hs1 := hc1.size
        have hsG := hcG.size
        have hws := HWF.out.name.2.2
        have hwi := HWF.out.few
        obtain ⟨w3, hrun, hin3, hc3⟩ := mods_put (G := fun x => w.heap.size < x ∧ x < wF.heap.size) ((HI.out.kept hcw (by simp) (by simp)).mono fun x hx => ⟨hx.1, by have := hx.2; omega⟩) (fun h => by have := h.1; omega) m.name m _ (by omega) (by omega) (by omega) ((hmod0.kept hcG (by simp)).mono fun x hx => ⟨by have := hx.1; omega, by have := hx.2; omega⟩)
        have hs3 : wF.heap.size ≤ w3.heap.size := hc3.size
        have HI3 := Lib.hid (show ModsAt w3 w.heap.size (fun x => w.heap.size < x ∧ x < w3.heap.size) (modsF (l.take (k + 1))) _ by
          rw [HSN.out]; exact hin3.mono fun x hx => ⟨hx.1, by have := hx.2; omega⟩)
        have HC3 := Lib.hid (show Chg [w.heap.size] w0 w3 from (HC.out.then hcw.weak).then hc3)
        have hpl := putM_len es m.name (.agg #[str m.name, .slice aia m.imports.length cia, .slice ava m.vars.length cva, .slice apa m.procs.length cpa, .slice aba m.body.len cba])
        clear hc1 hz hcA hcF hbF hcw hcG hmod0 hin3 hc3 hws hwi
        have HPL := Lib.hid hpl
        clear hpl
        go_wp2_with fail
        exact ⟨⟨k + 1, _, by go_num, by omega, HC3.out, HI3.out, by have := HPL.out; omega⟩, by simp [intOf]; omega⟩
    · have HR := Lib.hid (show modsF (l.take k) = modsF l by rw [List.take_of_length_le (by omega)])
      go_wp2_with fail
      go_ret
      exact ⟨rfl, ⟨es, by rw [← HR.out]; exact HI.out, by omega⟩, HC0.out.trans HC.out (fun x hx => .inr (by simp at hx; omega))⟩
end Go.Proofs.YtgnfhognbpifiaaGreatDoor
