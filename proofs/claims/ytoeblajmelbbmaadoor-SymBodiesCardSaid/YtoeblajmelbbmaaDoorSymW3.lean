/- What others see, written. -/
import Derived.Test.YtoeblajmelbbmaaDoorSymW2
import Derived.Test.YtoeblajmelbbmaaDoorBld
import Derived.Lib.ItoaLen
namespace Go.Mq.Sym
open Go Go.RowKit Go.Mq Go.Mq.Tree
/-- Small enough to be written. -/
structure Sy.fit (s : Sy) : Prop where
  name : s.name.length ≤ 1000000
  len0 : 0 ≤ s.len
  len1 : s.len ≤ 1000000
  args0 : -1 ≤ s.args
  args1 : s.args ≤ 1000000
theorem line_le {s : Sy} (h : s.fit) : (lineT s).length ≤ 1000100 := by
  have h1 := Lib.itoa_length_le s.args (by have := h.args0; omega) (by have := h.args1; omega)
  have h2 := Lib.itoa_length_le s.len (by have := h.len0; omega) (by have := h.len1; omega)
  have h3 := h.name
  rw [lineT]
  split
  · simp; omega
  · split <;> simp <;> omega
/-- A slice of these. -/
def SymsAt (w : World) (F : Nat → Prop) (l : List Sy) (v : Value) : Prop := ∃ a c, v = .slice a l.length c ∧ l.length ≤ c ∧ Row w F a (l.flatMap Sy.cells) ∧ (a = none → c = 0)
theorem SymsAt.kept {Z : List Nat} {w w' : World} {F : Nat → Prop} {l : List Sy} {v : Value} (h : SymsAt w F l v) (hc : Chg Z w w') (hS : ∀ x ∈ Z, ¬ F x) : SymsAt w' F l v := by
  obtain ⟨a, c, h1, h2, h3, h4⟩ := h; exact ⟨a, c, h1, h2, h3.kept hc hS, h4⟩
theorem SymsAt.mono {w : World} {F G : Nat → Prop} {l : List Sy} {v : Value} (h : SymsAt w F l v) (hF : ∀ x, F x → G x) : SymsAt w G l v := by
  obtain ⟨a, c, h1, h2, h3, h4⟩ := h; exact ⟨a, c, h1, h2, h3.mono hF, h4⟩
theorem sy_cells3 {w : World} {F : Nat → Prop} {a : Option Addr} {l : List Sy} (h : Row w F a (l.flatMap Sy.cells)) {k : Nat} {s : Sy} (hk : l[k]? = some s) :
    ∃ bb off, a = some ⟨bb, off, none⟩ ∧ w.cell? ⟨bb, off + k * 3, none⟩ = some (str s.name) ∧ w.cell? ⟨bb, off + k * 3 + 1, none⟩ = some (.int .i64 s.len) ∧ w.cell? ⟨bb, off + k * 3 + 2, none⟩ = some (.int .i64 s.args) := by
  have hkl : k < l.length := (List.getElem?_eq_some_iff.1 hk).1
  have key : ∀ (l : List Sy) (k : Nat), l[k]? = some s → ∀ i, i < 3 → (l.flatMap Sy.cells)[k * 3 + i]? = s.cells[i]? := by
    intro l
    induction l with
    | nil => intro k hk; simp at hk
    | cons x r ih =>
      intro k hk i hi
      rw [List.flatMap_cons]
      cases k with
      | zero =>
        simp at hk
        subst hk
        rw [List.getElem?_append_left (by simp [Sy.cells]; omega)]
        simp
      | succ k =>
        rw [List.getElem?_append_right (by simp [Sy.cells]; omega), show (k + 1) * 3 + i - x.cells.length = k * 3 + i by simp [Sy.cells]; omega]
        exact ih k (by simpa using hk) i hi
  obtain ⟨bb, off, rfl, hc⟩ := h.at_ (by
    have h1 := key l k hk 0 (by omega)
    have h2 := (List.getElem?_eq_some_iff.1 (h1.trans (show s.cells[0]? = some (.string (bs s.name)) from rfl))).1
    omega)
  refine ⟨bb, off, rfl, ?_, ?_, ?_⟩
  · have := hc (k * 3 + 0) (str s.name) (by rw [key l k hk 0 (by omega)]; rfl); simpa using this
  · have := hc (k * 3 + 1) (.int .i64 s.len) (by rw [key l k hk 1 (by omega)]; rfl); rwa [← Nat.add_assoc] at this
  · have := hc (k * 3 + 2) (.int .i64 s.args) (by rw [key l k hk 2 (by omega)]; rfl); rwa [← Nat.add_assoc] at this
theorem set3 {w : World} {b : Nat} (v0 v1 v2 : Value) {u0 u1 u2 : Value} {t : TypeId} (h : Blk w b #[u0, u1, u2] t) : ∃ wF, (((w.setCell ⟨b, 0, none⟩ v0).setCell ⟨b, 1, none⟩ v1).setCell ⟨b, 2, none⟩ v2) = wF ∧ Chg [b] w wF ∧ Blk wF b #[v0, v1, v2] t :=
  ⟨_, rfl, ((Chg.set1 _ _ _ _).then (Chg.set1 _ _ _ _)).then (Chg.set1 _ _ _ _), by
    have := ((h.set 0 v0).set 1 v1).set 2 v2
    simpa using this⟩
end Go.Mq.Sym
namespace Go.Proofs.YtoeblajmelbbmaaDoor
open Go Go.RowKit Go.Mq Go.Mq.Tree Go.Mq.Sym
set_option maxRecDepth 100000
set_option maxHeartbeats 2000000
theorem line_any (s : Sy) (hf : s.fit) (w : World) (B : Nat) (hL : Laid w B) : Calls Tryd.prog 20 #[.agg #[str s.name, .int .i64 s.len, .int .i64 s.args]] w (fun e w' => e = .returned (str (lineT s)) ∧ Chg [] w w') := by
  obtain ⟨hn, hl0, hl1, ha0, ha1⟩ := hf
  obtain ⟨nm, hnm⟩ : ∃ n : ByteArray, n = bs s.name := ⟨_, rfl⟩
  have hnz : nm.size ≤ 1000000 := by rw [hnm]; exact hn
  have HNM := Lib.hid hnm
  change Calls _ _ #[.agg #[.string (bs s.name), .int .i64 s.len, .int .i64 s.args]] _ _
  rw [← hnm]
  obtain ⟨wA, hwA⟩ : ∃ wA, w.alloc (.cells #[.string nm, .int .i64 s.len, .int .i64 s.args] 44) = wA := ⟨_, rfl⟩
  have hbA := Blk.new w #[.string nm, .int .i64 s.len, .int .i64 s.args] 44
  have hcA : Chg [] w wA := by rw [← hwA]; exact (Chg.refl _ _).alloc _
  rw [hwA] at hbA
  have x0 := hbA.cell 0 _ rfl; have x1 := hbA.cell 1 _ rfl; have x2 := hbA.cell 2 _ rfl
  have HC := Lib.hid hcA; have HB := Lib.hid hbA
  have HLT := Lib.hid (show w.heap.size < wA.drew.heap.size from hbA.lt)
  have HZ := Lib.hid (Zone.of (X := []) (w0 := wA.drew) (off := 0) (b := w.heap.size) x0 (by simp))
  have HDR := Lib.hid (hcA.drew)
  have HIT := Lib.hid (fun (n : Int) (h0 : 0 ≤ n) (h1 : n ≤ 9223372036854775807) (w' : World) (hc : Chg [] w w') => itoa_any n h0 h1 w' B (hL.kept hc (by simp)))
  clear hcA hbA hL hnm hn
  by_cases h0 : 0 ≤ s.args
  · obtain ⟨t, ht⟩ : ∃ t : ByteArray, t = bs (Lib.itoa s.args) := ⟨_, rfl⟩
    have htz : t.size ≤ 21 := by rw [ht]; exact Lib.itoa_length_le s.args (by omega) (by omega)
    have HR := Lib.hid (show bs (lineT s) = bs [112, 114, 111, 99, 32] ++ nm ++ bs [32] ++ t ++ bs [10] by rw [lineT, if_pos h0, bs_append, bs_append, bs_append, bs_append, ← HNM.out, ← ht])
    have HI := Lib.hid (show ∀ w', Chg [] w w' → Calls Tryd.prog 38 #[.int .i64 s.args] w' (fun e w'' => e = .returned (.string t) ∧ Chg [] w' w'') from fun w' hc => by rw [ht]; exact HIT.out s.args h0 (by omega) w' hc)
    clear ht
    go_enter Tryd.func20, Tryd.ntmps20
    go_wp2_with fail
    refine wp_region_C [] rfl (by kernel_rfl) ?_
    have hS : Chg [] wA.drew wA.drew := Chg.refl _ _
    repeat
      (with_reducible show wpX _ _ _ _ _ _ _ _
       first
         | refine wpX_nil ?_
         | refine wpX_skip rfl ?_
         | refine wpX_mv rfl rfl (by kernel_rfl) (fun _ _ => ?_)
         | refine wpX_ldC rfl rfl rfl (by exact HZ.out) (by assumption) (fun _ _ => ?_)
         | refine wpX_ef' rfl rfl rfl (fun _ _ => ?_)
       go_wp2_with fail)
    refine (HI.out _ (HDR.out.then hS)).mono ?_; rintro _ wj ⟨rfl, hw⟩; have hS := hS.then hw; clear hw
    go_wp2_with fail
    refine And.intro hS ?_
    repeat
      (with_reducible show wpX _ _ _ _ _ _ _ _
       first
         | refine wpX_nil ?_
         | refine wpX_skip rfl ?_
         | refine wpX_mv rfl rfl (by kernel_rfl) (fun _ _ => ?_)
         | refine wpX_ldC rfl rfl rfl (by exact HZ.out) (by assumption) (fun _ _ => ?_)
         | refine wpX_ef' rfl rfl rfl (fun _ _ => ?_)
       go_wp2_with fail)
    have HE := Lib.hid (HDR.out.then hS)
    go_ret
    exact ⟨congrArg (fun t => Ending.returned (Value.string t)) HR.out.symm, HE.out⟩
  · by_cases h1 : 0 < s.len
    · obtain ⟨t, ht⟩ : ∃ t : ByteArray, t = bs (Lib.itoa s.len) := ⟨_, rfl⟩
      have htz : t.size ≤ 21 := by rw [ht]; exact Lib.itoa_length_le s.len (by omega) (by omega)
      have HR := Lib.hid (show bs (lineT s) = bs [97, 114, 114, 97, 121, 32] ++ nm ++ bs [32] ++ t ++ bs [10] by rw [lineT, if_neg h0, if_pos h1, bs_append, bs_append, bs_append, bs_append, ← HNM.out, ← ht])
      have HI := Lib.hid (show ∀ w', Chg [] w w' → Calls Tryd.prog 38 #[.int .i64 s.len] w' (fun e w'' => e = .returned (.string t) ∧ Chg [] w' w'') from fun w' hc => by rw [ht]; exact HIT.out s.len hl0 (by omega) w' hc)
      clear ht
      go_enter Tryd.func20, Tryd.ntmps20
      go_wp2_with fail
      refine wp_region_C [] rfl (by kernel_rfl) ?_
      have hS : Chg [] wA.drew wA.drew := Chg.refl _ _
      repeat
        (with_reducible show wpX _ _ _ _ _ _ _ _
         first
           | refine wpX_nil ?_
           | refine wpX_skip rfl ?_
           | refine wpX_mv rfl rfl (by kernel_rfl) (fun _ _ => ?_)
           | refine wpX_ldC rfl rfl rfl (by exact HZ.out) (by assumption) (fun _ _ => ?_)
           | refine wpX_ef' rfl rfl rfl (fun _ _ => ?_)
         go_wp2_with fail)
      refine (HI.out _ (HDR.out.then hS)).mono ?_; rintro _ wj ⟨rfl, hw⟩; have hS := hS.then hw; clear hw
      go_wp2_with fail
      refine And.intro hS ?_
      repeat
        (with_reducible show wpX _ _ _ _ _ _ _ _
         first
           | refine wpX_nil ?_
           | refine wpX_skip rfl ?_
           | refine wpX_mv rfl rfl (by kernel_rfl) (fun _ _ => ?_)
           | refine wpX_ldC rfl rfl rfl (by exact HZ.out) (by assumption) (fun _ _ => ?_)
           | refine wpX_ef' rfl rfl rfl (fun _ _ => ?_)
         go_wp2_with fail)
      have HE := Lib.hid (HDR.out.then hS)
      go_ret
      exact ⟨congrArg (fun t => Ending.returned (Value.string t)) HR.out.symm, HE.out⟩
    · have HR := Lib.hid (show bs (lineT s) = bs [105, 110, 116, 32] ++ nm ++ bs [10] by rw [lineT, if_neg h0, if_neg h1, bs_append, bs_append, ← HNM.out])
      have h0' : s.args < 0 := by omega
      have h1' : ¬ 0 < s.len := h1
      go_enter Tryd.func20, Tryd.ntmps20
      go_wp2_with fail
      go_ret
      exact ⟨congrArg (fun t => Ending.returned (Value.string t)) HR.out.symm, HC.out⟩
theorem sprint_any (l : List Sy) (hf : ∀ x ∈ l, x.fit) (hl : l.length ≤ 1000) (F : Nat → Prop) (v : Value) (w : World) (B : Nat) (hL : Laid w B) (hF : ∀ x, F x → x < w.heap.size) (h : SymsAt w F l v) :
    Calls Tryd.prog 7 #[v] w (fun e w' => e = .returned (str (printT l)) ∧ Chg [] w w') := by
  obtain ⟨a, c, rfl, hac, hrow, _⟩ := h
  have hB0 := hL.le
  obtain ⟨w0, hw0⟩ : ∃ w0, w.alloc (.cells #[.pointer none, nils] 67) = w0 := ⟨_, rfl⟩
  have hbd : Bd w.heap.size w.heap.size [] w0 := by rw [← hw0]; exact Lib.IsBuilderF.of (Lib.fresh_isBuilder 67 5 w)
  have hraw : w0.heap[w.heap.size]? = some (.cells #[.pointer none, nils] 67 (0, 0)) := by rw [← hw0]; exact heap_alloc_new w _
  have hcw : Chg [] w w0 := by rw [← hw0]; exact (Chg.refl _ _).alloc _
  have hs0 : w0.heap.size = w.heap.size + 1 := by rw [← hw0]; simp
  have HW := Lib.hid (Wr.refl hbd); have HCW := Lib.hid hcw; have HRAW := Lib.hid hraw
  have HL := Lib.hid (hL.kept hcw (by simp)); have HFB := Lib.hid hF; have HROW := Lib.hid (hrow.kept hcw (by simp)); have HFIT := Lib.hid hf
  clear hbd hcw hL hF hrow hraw hf
  go_enter Tryd.func7, Tryd.ntmps7
  go_wp2_with fail
  clear hw0
  go_loopw [5, 8] (fun _ i wr => ∃ k : Nat, i = .int .i64 k ∧ k ≤ l.length ∧ Wr w.heap.size w.heap.size (printT (l.take k)) w0 wr ∧ (k = 0 → w0 = wr)) (fun _ i _ => l.length - (intOf i).toNat)
  case atStart => exact ⟨0, rfl, Nat.zero_le _, HW.out, fun _ => rfl⟩
  case round =>
    obtain ⟨k, rfl, hk, hwr, hz0⟩ := hrel
    by_cases hlt : k < l.length
    · obtain ⟨s, hs⟩ : ∃ s, l[k]? = some s := ⟨l[k], List.getElem?_eq_getElem hlt⟩
      have hfit := HFIT.out s (List.mem_of_getElem? hs)
      obtain ⟨bb, off, rfl, d0, d1, d2⟩ := sy_cells3 (hwr.row HFB.out HROW.out) hs
      have hz := Blk.new wr #[str [], .int .i64 0, .int .i64 0] 44
      obtain ⟨wA, hwA⟩ : ∃ wA, wr.alloc (.cells #[str [], .int .i64 0, .int .i64 0] 44) = wA := ⟨_, rfl⟩
      rw [hwA] at hz
      have hcA : Chg [] wr wA := by rw [← hwA]; exact (Chg.refl _ _).alloc _
      obtain ⟨wF, hwF, hcF, hbF⟩ := set3 (str s.name) (.int .i64 s.len) (.int .i64 s.args) hz
      have hcw : Chg [] wr wF := hcA.trans hcF (fun x hx => .inr (by simp at hx; omega))
      have g0 := hcA.cellSome d0 (by simp); have g1 := hcA.cellSome d1 (by simp); have g2 := hcA.cellSome d2 (by simp)
      have z0 := hz.cell 0 _ rfl; have z1 := hz.cell 1 _ rfl; have z2 := hz.cell 2 _ rfl
      have y0 := hz.frozen 0; have y1 := hz.frozen 1; have y2 := hz.frozen 2
      have e0 := hbF.cell 0 _ rfl; have e1 := hbF.cell 1 _ rfl; have e2 := hbF.cell 2 _ rfl
      have hsw := hwr.size
      have hw1 := hwr.chg (by omega) hcw
      have HW1 := Lib.hid hw1
      have HS := Lib.hid hs
      have HLN := Lib.hid (line_any s hfit wF B (hw1.laid HL.out hB0))
      have HLE := Lib.hid (line_le hfit)
      have HPL := Lib.hid (show (printT (l.take k)).length ≤ 1000100 * k by
        have key : ∀ m : List Sy, (∀ x ∈ m, x.fit) → (printT m).length ≤ 1000100 * m.length := by
          intro m
          induction m with
          | nil => intro _; simp [printT]
          | cons x r ih =>
            intro hm
            have h1 := line_le (hm x (by simp))
            have h2 := ih (fun y hy => hm y (by simp [hy]))
            simp only [printT, List.flatMap_cons, List.length_append, List.length_cons] at h2 ⊢
            omega
        have := key (l.take k) (fun x hx => HFIT.out x (List.mem_of_mem_take hx))
        rwa [List.length_take, Nat.min_eq_left hk] at this)
      clear hcA hcF hbF hcw hwr hz hs hfit hz0 hw1
      go_wp2_with fail
      refine HLN.out.mono ?_; rintro _ w2 ⟨rfl, hq⟩
      have HW2 := Lib.hid (HW1.out.chg (by have := HW1.out.size; omega) hq)
      clear hq hwA hwF d0 d1 d2 g0 g1 g2 z0 z1 z2 y0 y1 y2 e0 e1 e2
      go_wp2_with fail
      refine (write_any _ (lineT s) rfl HW2.out.bd (by have := HW2.out.size; omega) (by have h1 := HLE.out; have h2 := HPL.out; simp; omega)).mono ?_; rintro _ w3 ⟨rfl, hq⟩
      have hw3 := HW2.out.trans hq
      have e : printT (l.take k) ++ lineT s = printT (l.take (k + 1)) := by
        rw [List.take_add_one, HS.out]
        simp [printT]
      rw [e] at hw3
      have HW3 := Lib.hid hw3
      clear hq hw3 e
      go_wp2_with fail
      exact ⟨⟨k + 1, by go_num, by omega, HW3.out, fun h => by omega⟩, by simp [intOf]; omega⟩
    · have hke : k = l.length := by omega
      have htk : printT (l.take k) = printT l := by rw [hke, List.take_length]
      rw [htk] at hwr
      have HW1 := Lib.hid hwr
      have HZ0 := Lib.hid hz0
      clear hwr hz0
      by_cases hl0 : l = []
      · subst hl0
        have hw := HZ0.out (by simpa using hke)
        subst hw
        have HST := Lib.hid (string_empty HRAW.out (Nat.le_refl _))
        go_wp2_with fail
        refine HST.out.mono ?_; rintro _ w2 ⟨rfl, hq⟩
        have HQ := Lib.hid hq; clear hq
        go_wp2_with fail
        go_ret
        exact ⟨rfl, Chg.of_below ((HCW.out.below (Nat.le_refl _) (by simp)).trans HQ.out)⟩
      · have hne : printT l ≠ [] := by
          obtain ⟨x, r, rfl⟩ := List.exists_cons_of_ne_nil hl0
          simp only [printT, List.flatMap_cons]
          intro h
          have := congrArg List.length h
          rw [List.length_append, List.length_nil] at this
          have h2 : 0 < (lineT x).length := by
            rw [lineT]
            split
            · simp
            · split <;> simp
          omega
        have HST := Lib.hid (string_any HW1.out.bd hne)
        go_wp2_with fail
        refine HST.out.mono ?_; rintro _ w2 ⟨rfl, hq⟩
        have HQ := Lib.hid hq; clear hq
        go_wp2_with fail
        go_ret
        exact ⟨rfl, Chg.of_below ((HCW.out.below (Nat.le_refl _) (by simp)).trans (HW1.out.trans HQ.out).below)⟩
end Go.Proofs.YtoeblajmelbbmaaDoor
