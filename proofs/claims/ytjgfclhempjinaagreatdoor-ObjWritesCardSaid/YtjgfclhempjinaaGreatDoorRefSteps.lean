/- The steps of the document's Read: each takes one part, and appends it. -/
import Derived.Test.YtjgfclhempjinaaGreatDoorRefTake
namespace Go.Mq.Obj
open Go Go.RowKit Go.Mq
def qsym (t : TK) : SymD × TK := (⟨(qtext t).1, (qnum (qtext t).2).1, (qnum (qnum (qtext t).2).2).1⟩, (qnum (qnum (qtext t).2).2).2)
def qent (t : TK) : EntD × TK := (⟨(qnum t).1, (qnum (qnum t).2).1, (qnum (qnum (qnum t).2).2).1⟩, (qnum (qnum (qnum t).2).2).2)
def qinst (t : TK) : InstD × TK := (⟨(qnum t).1, (qnum (qnum t).2).1, (qnum (qnum (qnum t).2).2).1⟩, (qnum (qnum (qnum t).2).2).2)
def qit {α : Type} (p : TK → List α × TK) : Nat → TK → List α × TK
  | 0, t => ([], t)
  | k + 1, t => ((qit p k t).1 ++ (p (qit p k t).2).1, (p (qit p k t).2).2)
/-- What 'times' comes to. -/
def qrun {α : Type} (p : TK → List α × TK) : Nat → TK → List α × TK
  | 0, t => ([], t)
  | m + 1, t => if t.bad then ([], t) else ((p t).1 ++ (qrun p m (p t).2).1, (qrun p m (p t).2).2)
theorem qit_front {α : Type} (p : TK → List α × TK) (k : Nat) (t : TK) : qit p (k + 1) t = ((p t).1 ++ (qit p k (p t).2).1, (qit p k (p t).2).2) := by
  induction k with
  | zero => simp [qit]
  | succ k ih =>
    rw [qit, ih]
    simp only [List.append_assoc]
    rfl
theorem qrun_of {α : Type} (p : TK → List α × TK) (k : Nat) : ∀ (m : Nat) (t : TK), k ≤ m → (k = m ∨ (qit p k t).2.bad = true) → (∀ j, j < k → (qit p j t).2.bad = false) → qit p k t = qrun p m t := by
  induction k with
  | zero =>
    intro m t _ h _
    cases m with
    | zero => rfl
    | succ m =>
      rcases h with h | h
      · omega
      · have h : t.bad = true := h
        rw [qrun, if_pos h]; rfl
  | succ k ih =>
    intro m t hk h hb
    obtain ⟨m, rfl⟩ : ∃ q, m = q + 1 := ⟨m - 1, by omega⟩
    have h0 : t.bad = false := hb 0 (by omega)
    have he := ih m (p t).2 (by omega) (by
      rcases h with h | h
      · exact .inl (by omega)
      · rw [qit_front] at h; exact .inr h) (fun j hj => by
      have := hb (j + 1) (by omega)
      rw [qit_front] at this; exact this)
    rw [qit_front, qrun, if_neg (by simp [h0]), he]
theorem qit_mono {α : Type} {p : TK → List α × TK} (hp : ∀ t, t.bad = true → (p t).2.bad = true) (t : TK) (j : Nat) : ∀ k, j ≤ k → (qit p j t).2.bad = true → (qit p k t).2.bad = true := by
  intro k hk h
  induction k with
  | zero => have : j = 0 := by omega
            subst this; exact h
  | succ k ih =>
    by_cases hj : j = k + 1
    · subst hj; exact h
    · rw [qit]; exact hp _ (ih (by omega))
theorem qit_count {α : Type} {p : TK → List α × TK} (hp : ∀ t, t.bad = true → (p t).2.bad = true) (h2 : ∀ t, t.bad = false → (p t).2.bad = true ∨ (p t).2.s.length < t.s.length) (t : TK) (k : Nat) (h : (qit p k t).2.bad = false) : k + (qit p k t).2.s.length ≤ t.s.length := by
  induction k with
  | zero => simp [qit]
  | succ k ih =>
    have hk : (qit p k t).2.bad = false := by
      rcases Bool.eq_false_or_eq_true (qit p k t).2.bad with h1 | h1
      · have := hp _ h1
        rw [qit] at h; rw [this] at h; cases h
      · exact h1
    have := ih hk
    rcases h2 _ hk with h1 | h1
    · rw [qit] at h; rw [h1] at h; cases h
    · rw [qit]
      show k + 1 + (p (qit p k t).2).2.s.length ≤ _
      omega
theorem qit_slen {α : Type} {p : TK → List α × TK} (hp : ∀ t, (p t).2.s.length ≤ t.s.length) (t : TK) (k : Nat) : (qit p k t).2.s.length ≤ t.s.length := by
  induction k with
  | zero => simp [qit]
  | succ k ih => rw [qit]; exact Nat.le_trans (hp _) ih
def qt1 (t : TK) : List (List UInt8) × TK := ([(qtext t).1], (qtext t).2)
theorem qt1_count (t : TK) (k : Nat) : (qit qt1 k t).1.length = k := by
  induction k with
  | zero => rfl
  | succ k ih => rw [qit, List.length_append, ih]; rfl
def quse (t : TK) : UseD × TK :=
  (⟨(qtext t).1, (qtext (qtext t).2).1, (qrun qt1 (qnum (qtext (qtext t).2).2).1.toNat (qnum (qtext (qtext t).2).2).2).1⟩, (qrun qt1 (qnum (qtext (qtext t).2).2).1.toNat (qnum (qtext (qtext t).2).2).2).2)
def qglob (t : TK) : List GlobD × TK := match (qnum (qtext t).2).2.s with
  | [] => ([], ⟨[], true⟩)
  | c :: r => ([⟨(qtext t).1, 0, (qnum (qtext t).2).1, c == 1⟩], ⟨r, (qnum (qtext t).2).2.bad⟩)
end Go.Mq.Obj
namespace Go.Proofs.YtjgfclhempjinaaGreatDoor
open Go Go.RowKit Go.Mq Go.Mq.Obj
set_option maxRecDepth 100000
theorem infoSymR : (Tryz.prog.info? 52).map (fun i => (i.zero, i.size, i.bytes)) = some (some (.agg #[.string ⟨#[]⟩, .int .i64 0, .int .i64 0]), 3, 32) := by kernel_rfl
theorem infoEntR : (Tryz.prog.info? 47).map (fun i => (i.zero, i.size, i.bytes)) = some (some (.agg #[.int .i64 0, .int .i64 0, .int .i64 0]), 3, 24) := by kernel_rfl
theorem infoInstR : (Tryz.prog.info? 49).map (fun i => (i.zero, i.size, i.bytes)) = some (some (.agg #[.int .i64 0, .int .i64 0, .int .i64 0]), 3, 24) := by kernel_rfl
theorem infoGlobR : (Tryz.prog.info? 54).map (fun i => (i.zero, i.size, i.bytes)) = some (some (.agg #[.string ⟨#[]⟩, .int .i64 0, .int .i64 0, .bool false]), 4, 40) := by kernel_rfl
theorem infoStrR : (Tryz.prog.info? 9).map (fun i => (i.zero, i.size, i.bytes)) = some (some (.string ⟨#[]⟩), 1, 16) := by kernel_rfl
theorem infoUseR : (Tryz.prog.info? 56).map (fun i => (i.zero, i.size, i.bytes)) = some (some (.agg #[.string ⟨#[]⟩, .string ⟨#[]⟩, .slice none 0 0]), 3, 56) := by kernel_rfl
/-- Two blocks at which a function value finds the taker and the object. -/
structure Caps (w : World) (b4 b5 bt bo : Nat) : Prop where
  c4 : w.cell? ⟨b4, 0, none⟩ = some (.pointer (some ⟨bt, 0, none⟩))
  c5 : w.cell? ⟨b5, 0, none⟩ = some (.pointer (some ⟨bo, 0, none⟩))
  n1 : bt ≠ bo
  n2 : b4 ≠ bt
  n3 : b4 ≠ bo
  n4 : b5 ≠ bt
  n5 : b5 ≠ bo
theorem Caps.kept {S : List Nat} {w w' : World} {b4 b5 bt bo : Nat} (h : Caps w b4 b5 bt bo) (hc : Chg S w w') (h4 : b4 ∉ S) (h5 : b5 ∉ S) : Caps w' b4 b5 bt bo :=
  ⟨hc.cellSome h.c4 h4, hc.cellSome h.c5 h5, h.n1, h.n2, h.n3, h.n4, h.n5⟩
/-- A row in none of four blocks. -/
structure Aside (v : Value) (b4 b5 bt bo : Nat) : Prop where
  a4 : b4 ∉ blk v
  a5 : b5 ∉ blk v
  at_ : bt ∉ blk v
  ao : bo ∉ blk v
/-- What a step leaves: the object's field f has more. -/
def Grew (ot : TypeId) (w : World) (bt bo f : Nat) (fs : Array Value) (t' : TK) (e : TypeId) (sz : Nat) (v : Value) (n : Nat) (xs : List Value) (en : Ending) (w' : World) : Prop :=
  en = .returned (.tuple #[]) ∧ ∃ v', Tkr w' bt t' ∧ Blk w' bo (fs.setIfInBounds f v') ot ∧ w'.ownsRow 0 e sz v' n xs ∧ Chg (bt :: bo :: blk v) w w' ∧ Moved w v v'
theorem chg_wide {bt bo : Nat} {v : Value} {a b : World} (h : Chg [bt] a b) : Chg (bt :: bo :: blk v) a b := h.mono (fun x hx => .inl (by simp at hx; simp [hx]))
theorem own_bt {w w' : World} {b4 b5 bt bo : Nat} {v : Value} {e : TypeId} {sz n : Nat} {xs : List Value} (h : w.ownsRow 0 e sz v n xs) (ha : Aside v b4 b5 bt bo) (hc : Chg [bt] w w') : w'.ownsRow 0 e sz v n xs :=
  owns_kept h hc (fun g hg hm => by rw [List.mem_singleton] at hm; subst hm; exact ha.at_ hg)

set_option maxHeartbeats 2000000 in
theorem csym_any (b4 b5 bt bo : Nat) (t : TK) (fs : Array Value) (v : Value) (n : Nat) (xs : List Value) (w : World) (hcap : Caps w b4 b5 bt bo) (has : Aside v b4 b5 bt bo)
    (ht : Tkr w bt t) (ho : Blk w bo fs 45) (hf : fs[1]? = some v) (hv : w.ownsRow 0 52 3 v n xs) (hl : t.s.length ≤ 1099511627776) (hn : n ≤ 1099511627776) :
    Calls Tryz.prog 39 #[.pointer (some ⟨b4, 0, none⟩), .pointer (some ⟨b5, 0, none⟩)] w (Grew 45 w bt bo 1 fs (qsym t).2 52 3 v (n + 1) (xs ++ (qsym t).1.cells)) := by
  have hl1 := Nat.le_trans (qtext_len t) hl
  have hl2 := Nat.le_trans (qnum_len (qtext t).2) hl1
  have hT0 := ttext_any bt t w ht hl
  have hT1 := fun w' (h : Tkr w' bt (qtext t).2) => tnum_any bt _ w' h hl1
  have hT2 := fun w' (h : Tkr w' bt (qnum (qtext t).2).2) => tnum_any bt _ w' h hl2
  have hq : qsym t = (⟨(qtext t).1, (qnum (qtext t).2).1, (qnum (qnum (qtext t).2).2).1⟩, (qnum (qnum (qtext t).2).2).2) := rfl
  rw [hq]
  clear hl1 hl2 hq hl
  generalize (qnum (qnum (qtext t).2).2).1 = x2 at hT2 ⊢
  generalize (qnum (qnum (qtext t).2).2).2 = t3 at hT2 ⊢
  generalize (qnum (qtext t).2).1 = x1 at hT1 ⊢
  generalize (qnum (qtext t).2).2 = t2 at hT1 hT2
  generalize (qtext t).1 = x0 at hT0 ⊢
  generalize (qtext t).2 = t1 at hT0 hT1
  have HT0 := Lib.hid hT0; have HT1 := Lib.hid hT1; have HT2 := Lib.hid hT2
  have HCAP := Lib.hid hcap; have HAS := Lib.hid has; have HF := Lib.hid hf; have HV := Lib.hid hv; have HO := Lib.hid ho
  have h4 := hcap.c4
  have HLT := Lib.hid (And.intro ht.lt ho.lt)
  have HV0 := Lib.hid (owns_lt hv)
  clear hT0 hT1 hT2 hcap has ht ho hf hv
  go_enter Tryz.func39, Tryz.ntmps39
  go_wp2_with fail
  refine HT0.out.mono ?_; rintro _ w1 ⟨rfl, hr, hc⟩
  have h4 := hc.cellSome h4 (by simp; exact HCAP.out.n2)
  have HR := Lib.hid hr; have HC := Lib.hid hc
  have HSZ := Lib.hid hc.size
  have h4a : ∀ o, (w1.alloc o).cell? ⟨b4, 0, none⟩ = some (.pointer (some ⟨bt, 0, none⟩)) := fun o => ((Chg.refl [] w1).alloc o).cellSome h4 (by simp)
  clear hr hc
  go_wp2_with fail
  clear h4a
  have hx := Blk.new w1 #[str x0, .int .i64 0, .int .i64 0] 52
  have hca : Chg [] w1 (w1.alloc (.cells #[str x0, .int .i64 0, .int .i64 0] 52)) := (Chg.refl [] w1).alloc _
  generalize w1.alloc (.cells #[str x0, .int .i64 0, .int .i64 0] 52) = w2 at hx hca ⊢
  have hr := Blk.kept HR.out hca (by simp)
  refine (HT1.out w2 hr).mono ?_; rintro _ w3 ⟨rfl, hr, hc⟩
  have hne : w1.heap.size ∉ [bt] := by have := HR.out.lt; simp; omega
  have hx := hx.kept hc hne
  have h4 := ((hca.mono (S2 := [bt]) (fun _ h => by cases h)).then hc).cellSome h4 (by simp; exact HCAP.out.n2)
  have hx1 := hx.cell 1 _ rfl
  have hf1 := hx.frozen 1
  have HX := Lib.hid (hx.set 1 (.int .i64 x1))
  have hc3 : Chg [bt] w1 (w3.setCell ⟨w1.heap.size, 1, none⟩ (.int .i64 x1)) := ((hca.mono (fun _ h => by cases h)).then hc).setCell _ (.inr (Nat.le_refl _)) _
  have HR := Lib.hid (Blk.other hr ⟨w1.heap.size, 1, none⟩ (.int .i64 x1) (by simpa [eq_comm] using hne))
  have HC3 := Lib.hid hc3
  clear hx hr hc hca hc3
  go_wp2_with fail
  clear hx1 hf1
  generalize hw4 : w3.setCell ⟨w1.heap.size, 1, none⟩ (.int .i64 x1) = w4 at HX HR HC3 ⊢
  have h4 := HC3.out.cellSome (show w1.cell? ⟨b4, 0, none⟩ = _ from HC.out.cellSome HCAP.out.c4 (by simp; exact HCAP.out.n2)) (by simp; exact HCAP.out.n2)
  clear hw4
  refine (HT2.out w4 HR.out).mono ?_; rintro _ w5 ⟨rfl, hr, hc⟩
  have hx := HX.out.kept hc hne
  have hx2 := hx.cell 2 _ rfl
  have hf2 := hx.frozen 2
  have HX := Lib.hid (hx.set 2 (.int .i64 x2))
  have hc5 : Chg [bt] w1 (w5.setCell ⟨w1.heap.size, 2, none⟩ (.int .i64 x2)) := (HC3.out.then hc).setCell _ (.inr (Nat.le_refl _)) _
  have HR := Lib.hid (Blk.other hr ⟨w1.heap.size, 2, none⟩ (.int .i64 x2) (by simpa [eq_comm] using hne))
  have HC5 := Lib.hid (HC.out.then hc5)
  clear hx hr hc hc5 HC3
  go_wp2_with fail
  clear hx2 hf2 h4
  generalize hw6 : w5.setCell ⟨w1.heap.size, 2, none⟩ (.int .i64 x2) = w6 at HX HR HC5 ⊢
  clear hw6
  have hb5 := HC5.out.cellSome HCAP.out.c5 (by simp; exact HCAP.out.n4)
  have hob := HO.out.kept HC5.out (by simpa [eq_comm] using HCAP.out.n1)
  have hov := own_bt HV.out HAS.out HC5.out
  have hoc := hob.cell 1 _ HF.out
  have hxc := HX.out.cell 0 _ rfl
  have hnx : w1.heap.size ∉ blk v := fun hm => by have := HV0.out _ hm; have := HSZ.out; omega
  have z1 := Lib.hid (Zone.of (X := blk v) (w0 := w6.drew) hb5 HAS.out.a5)
  have z2 := Lib.hid (Zone.of (X := blk v) (w0 := w6.drew) hoc HAS.out.ao)
  have z3 := Lib.hid (Zone.of (X := blk v) (w0 := w6.drew) hxc hnx)
  have x0c := HX.out.cell 0 _ rfl
  have x1c := HX.out.cell 1 _ rfl
  have x2c := HX.out.cell 2 _ rfl

  have HOB := Lib.hid hob; have HOV := Lib.hid hov
  clear hob hov hxc hnx
  go_wp2_with fail
  refine wp_region_T (blk v) rfl (by kernel_rfl) rfl ?_
  have hS : Chg (blk v) w6.drew w6.drew := Chg.refl _ _
  repeat
    (with_reducible show wpX _ _ _ _ _ _ _ _
     first
       | refine wpX_nil ?_
       | refine wpX_skip rfl ?_
       | refine wpX_mv rfl rfl (by kernel_rfl) (fun _ _ => ?_)
       | refine wpX_ldC rfl rfl rfl (by first | exact z1.out | exact z2.out | exact z3.out) (by assumption) (fun _ _ => ?_)
       | refine wpX_ef' rfl rfl rfl (fun _ _ => ?_)
     go_wp2_with fail)
  refine And.intro (hS.alloc _) ?_
  repeat
    (with_reducible show wpX _ _ _ _ _ _ _ _
     first
       | refine wpX_nil ?_
       | refine wpX_skip rfl ?_
       | refine wpX_mv rfl rfl (by kernel_rfl) (fun _ _ => ?_)
       | refine wpX_ldC rfl rfl rfl (by first | exact z1.out | exact z2.out | exact z3.out) (by assumption) (fun _ _ => ?_)
       | refine wpX_ef' rfl rfl rfl (fun _ _ => ?_)
     go_wp2_with fail)
  have how := owns_kept (w := w6.drew) HOV.out (((Chg.refl [] w6.drew).alloc (.cells #[str x0, .int .i64 x1, .int .i64 x2] 52))) (fun g _ hm => by cases hm)
  refine wpX_append _ _ 38 rfl rfl rfl 52 (.agg #[.string ⟨#[]⟩, .int .i64 0, .int .i64 0]) 3 32 infoSymR Tryz.underlying38 rfl (by decide) v n _ rfl how ⟨w6.heap.size, 0, none⟩ 1 1 [str x0, .int .i64 x1, .int .i64 x2] rfl rfl (cells_new _ _ _) (by simp [Value.oneCell']) (by omega) (by unfold maxLen; omega) ?_
  intro v' w7 hown' hch' hmv'
  obtain ⟨a', c', hv', _, _⟩ := own_at (by omega) hown'
  have hc7 : Chg (blk v) w6.drew w7 := (hS.alloc _).then hch'
  have hob7 := HOB.out.kept (Chg.trans (S := blk v) (⟨rfl, rfl, rfl, Nat.le_refl _, fun _ _ _ => rfl⟩ : Chg _ w6 w6.drew) hc7 (fun x hx => .inl hx)) HAS.out.ao
  have hcl := hob7.cell 1 _ HF.out
  have hfz := hob7.frozen 1
  have HC7 := Lib.hid hc7
  have hr7 : Tkr w7 bt _ := HR.out.kept (Chg.trans (S := blk v) (⟨rfl, rfl, rfl, Nat.le_refl _, fun _ _ _ => rfl⟩ : Chg _ w6 w6.drew) hc7 (fun x hx => .inl hx)) HAS.out.at_
  have hmv : Moved w v v' := fun g hg => by
    rcases hmv' g hg with h | h
    · exact .inl h
    · refine .inr ?_
      have := HC5.out.size
      simp at h
      omega
  have hbo : bo ∉ blk v' := fun hm => by
    rcases hmv _ hm with h | h
    · exact HAS.out.ao h
    · have := HO.out.lt; omega
  have HFIN := Lib.hid (show Grew 45 w bt bo 1 fs _ 52 3 v (n + 1) (xs ++ [str x0, .int .i64 x1, .int .i64 x2]) (.returned (.tuple #[])) (w7.setCell ⟨bo, 1, none⟩ v') from
    ⟨rfl, v', Blk.other hr7 _ _ (by simpa using HCAP.out.n1), hob7.set 1 v', owns_kept hown' (Chg.set1 w7 bo 1 v') (fun g hg hm => by rw [List.mem_singleton] at hm; subst hm; exact hbo hg),
      ((chg_wide (bo := bo) (v := v) HC5.out).then ((hc7.mono (S2 := bt :: bo :: blk v) (fun x hx => .inl (by simp [hx]))) |> fun h => (Chg.trans (S := bt :: bo :: blk v) (⟨rfl, rfl, rfl, Nat.le_refl _, fun _ _ _ => rfl⟩ : Chg _ w6 w6.drew) h (fun x hx => .inl hx)))).setCell _ (.inl (by simp)) _, hmv⟩)
  clear hown' hch' hmv' hob7 hS how hc7 hr7 hmv hbo
  subst hv'
  refine And.intro HC7.out ?_
  repeat
    (with_reducible show wpX _ _ _ _ _ _ _ _
     first
       | refine wpX_nil ?_
       | refine wpX_skip rfl ?_
       | refine wpX_mv rfl rfl (by kernel_rfl) (fun _ _ => ?_)
       | refine wpX_ldC rfl rfl rfl (by first | exact z1.out | exact z2.out | exact z3.out) (by assumption) (fun _ _ => ?_)
       | refine wpX_ef' rfl rfl rfl (fun _ _ => ?_)
     go_wp2_with fail)
  refine stepX_ef rfl rfl (fun _ _ => ?_)
  change Oper.wp _ (Oper.mk _ _ _ _ _ _) _ _ _ _
  go_wp2_with fail
  refine bodyPost_end (results_none rfl _ _ _) rfl ?_
  exact HFIN.out

set_option maxHeartbeats 2000000 in
theorem cent_any (b4 b5 bt bo : Nat) (t : TK) (fs : Array Value) (v : Value) (n : Nat) (xs : List Value) (w : World) (hcap : Caps w b4 b5 bt bo) (has : Aside v b4 b5 bt bo)
    (ht : Tkr w bt t) (ho : Blk w bo fs 45) (hf : fs[4]? = some v) (hv : w.ownsRow 0 47 3 v n xs) (hl : t.s.length ≤ 1099511627776) (hn : n ≤ 1099511627776) :
    Calls Tryz.prog 44 #[.pointer (some ⟨b4, 0, none⟩), .pointer (some ⟨b5, 0, none⟩)] w (Grew 45 w bt bo 4 fs (qent t).2 47 3 v (n + 1) (xs ++ (qent t).1.cells)) := by
  have hl1 := Nat.le_trans (qnum_len t) hl
  have hl2 := Nat.le_trans (qnum_len (qnum t).2) hl1
  have hT0 := tnum_any bt t w ht hl
  have hT1 := fun w' (h : Tkr w' bt (qnum t).2) => tnum_any bt _ w' h hl1
  have hT2 := fun w' (h : Tkr w' bt (qnum (qnum t).2).2) => tnum_any bt _ w' h hl2
  have hq : qent t = (⟨(qnum t).1, (qnum (qnum t).2).1, (qnum (qnum (qnum t).2).2).1⟩, (qnum (qnum (qnum t).2).2).2) := rfl
  rw [hq]
  clear hl1 hl2 hq hl
  generalize (qnum (qnum (qnum t).2).2).1 = x2 at hT2 ⊢
  generalize (qnum (qnum (qnum t).2).2).2 = t3 at hT2 ⊢
  generalize (qnum (qnum t).2).1 = x1 at hT1 ⊢
  generalize (qnum (qnum t).2).2 = t2 at hT1 hT2
  generalize (qnum t).1 = x0 at hT0 ⊢
  generalize (qnum t).2 = t1 at hT0 hT1
  have HT0 := Lib.hid hT0; have HT1 := Lib.hid hT1; have HT2 := Lib.hid hT2
  have HCAP := Lib.hid hcap; have HAS := Lib.hid has; have HF := Lib.hid hf; have HV := Lib.hid hv; have HO := Lib.hid ho
  have h4 := hcap.c4
  have HLT := Lib.hid (And.intro ht.lt ho.lt)
  have HV0 := Lib.hid (owns_lt hv)
  clear hT0 hT1 hT2 hcap has ht ho hf hv
  go_enter Tryz.func44, Tryz.ntmps44
  go_wp2_with fail
  refine HT0.out.mono ?_; rintro _ w1 ⟨rfl, hr, hc⟩
  have h4 := hc.cellSome h4 (by simp; exact HCAP.out.n2)
  have HR := Lib.hid hr; have HC := Lib.hid hc
  have HSZ := Lib.hid hc.size
  have h4a : ∀ o, (w1.alloc o).cell? ⟨b4, 0, none⟩ = some (.pointer (some ⟨bt, 0, none⟩)) := fun o => ((Chg.refl [] w1).alloc o).cellSome h4 (by simp)
  clear hr hc
  go_wp2_with fail
  clear h4a
  have hx := Blk.new w1 #[.int .i64 x0, .int .i64 0, .int .i64 0] 47
  have hca : Chg [] w1 (w1.alloc (.cells #[.int .i64 x0, .int .i64 0, .int .i64 0] 47)) := (Chg.refl [] w1).alloc _
  generalize w1.alloc (.cells #[.int .i64 x0, .int .i64 0, .int .i64 0] 47) = w2 at hx hca ⊢
  have hr := Blk.kept HR.out hca (by simp)
  refine (HT1.out w2 hr).mono ?_; rintro _ w3 ⟨rfl, hr, hc⟩
  have hne : w1.heap.size ∉ [bt] := by have := HR.out.lt; simp; omega
  have hx := hx.kept hc hne
  have h4 := ((hca.mono (S2 := [bt]) (fun _ h => by cases h)).then hc).cellSome h4 (by simp; exact HCAP.out.n2)
  have hx1 := hx.cell 1 _ rfl
  have hf1 := hx.frozen 1
  have HX := Lib.hid (hx.set 1 (.int .i64 x1))
  have hc3 : Chg [bt] w1 (w3.setCell ⟨w1.heap.size, 1, none⟩ (.int .i64 x1)) := ((hca.mono (fun _ h => by cases h)).then hc).setCell _ (.inr (Nat.le_refl _)) _
  have HR := Lib.hid (Blk.other hr ⟨w1.heap.size, 1, none⟩ (.int .i64 x1) (by simpa [eq_comm] using hne))
  have HC3 := Lib.hid hc3
  clear hx hr hc hca hc3
  go_wp2_with fail
  clear hx1 hf1
  generalize hw4 : w3.setCell ⟨w1.heap.size, 1, none⟩ (.int .i64 x1) = w4 at HX HR HC3 ⊢
  have h4 := HC3.out.cellSome (show w1.cell? ⟨b4, 0, none⟩ = _ from HC.out.cellSome HCAP.out.c4 (by simp; exact HCAP.out.n2)) (by simp; exact HCAP.out.n2)
  clear hw4
  refine (HT2.out w4 HR.out).mono ?_; rintro _ w5 ⟨rfl, hr, hc⟩
  have hx := HX.out.kept hc hne
  have hx2 := hx.cell 2 _ rfl
  have hf2 := hx.frozen 2
  have HX := Lib.hid (hx.set 2 (.int .i64 x2))
  have hc5 : Chg [bt] w1 (w5.setCell ⟨w1.heap.size, 2, none⟩ (.int .i64 x2)) := (HC3.out.then hc).setCell _ (.inr (Nat.le_refl _)) _
  have HR := Lib.hid (Blk.other hr ⟨w1.heap.size, 2, none⟩ (.int .i64 x2) (by simpa [eq_comm] using hne))
  have HC5 := Lib.hid (HC.out.then hc5)
  clear hx hr hc hc5 HC3
  go_wp2_with fail
  clear hx2 hf2 h4
  generalize hw6 : w5.setCell ⟨w1.heap.size, 2, none⟩ (.int .i64 x2) = w6 at HX HR HC5 ⊢
  clear hw6
  have hb5 := HC5.out.cellSome HCAP.out.c5 (by simp; exact HCAP.out.n4)
  have hob := HO.out.kept HC5.out (by simpa [eq_comm] using HCAP.out.n1)
  have hov := own_bt HV.out HAS.out HC5.out
  have hoc := hob.cell 4 _ HF.out
  have hxc := HX.out.cell 0 _ rfl
  have hnx : w1.heap.size ∉ blk v := fun hm => by have := HV0.out _ hm; have := HSZ.out; omega
  have z1 := Lib.hid (Zone.of (X := blk v) (w0 := w6.drew) hb5 HAS.out.a5)
  have z2 := Lib.hid (Zone.of (X := blk v) (w0 := w6.drew) hoc HAS.out.ao)
  have z3 := Lib.hid (Zone.of (X := blk v) (w0 := w6.drew) hxc hnx)
  have x0c := HX.out.cell 0 _ rfl
  have x1c := HX.out.cell 1 _ rfl
  have x2c := HX.out.cell 2 _ rfl

  have HOB := Lib.hid hob; have HOV := Lib.hid hov
  clear hob hov hxc hnx
  go_wp2_with fail
  refine wp_region_T (blk v) rfl (by kernel_rfl) rfl ?_
  have hS : Chg (blk v) w6.drew w6.drew := Chg.refl _ _
  repeat
    (with_reducible show wpX _ _ _ _ _ _ _ _
     first
       | refine wpX_nil ?_
       | refine wpX_skip rfl ?_
       | refine wpX_mv rfl rfl (by kernel_rfl) (fun _ _ => ?_)
       | refine wpX_ldC rfl rfl rfl (by first | exact z1.out | exact z2.out | exact z3.out) (by assumption) (fun _ _ => ?_)
       | refine wpX_ef' rfl rfl rfl (fun _ _ => ?_)
     go_wp2_with fail)
  refine And.intro (hS.alloc _) ?_
  repeat
    (with_reducible show wpX _ _ _ _ _ _ _ _
     first
       | refine wpX_nil ?_
       | refine wpX_skip rfl ?_
       | refine wpX_mv rfl rfl (by kernel_rfl) (fun _ _ => ?_)
       | refine wpX_ldC rfl rfl rfl (by first | exact z1.out | exact z2.out | exact z3.out) (by assumption) (fun _ _ => ?_)
       | refine wpX_ef' rfl rfl rfl (fun _ _ => ?_)
     go_wp2_with fail)
  have how := owns_kept (w := w6.drew) HOV.out (((Chg.refl [] w6.drew).alloc (.cells #[.int .i64 x0, .int .i64 x1, .int .i64 x2] 47))) (fun g _ hm => by cases hm)
  refine wpX_append _ _ 41 rfl rfl rfl 47 (.agg #[.int .i64 0, .int .i64 0, .int .i64 0]) 3 24 infoEntR Tryz.underlying41 rfl (by decide) v n _ rfl how ⟨w6.heap.size, 0, none⟩ 1 1 [.int .i64 x0, .int .i64 x1, .int .i64 x2] rfl rfl (cells_new _ _ _) (by simp [Value.oneCell']) (by omega) (by unfold maxLen; omega) ?_
  intro v' w7 hown' hch' hmv'
  obtain ⟨a', c', hv', _, _⟩ := own_at (by omega) hown'
  have hc7 : Chg (blk v) w6.drew w7 := (hS.alloc _).then hch'
  have hob7 := HOB.out.kept (Chg.trans (S := blk v) (⟨rfl, rfl, rfl, Nat.le_refl _, fun _ _ _ => rfl⟩ : Chg _ w6 w6.drew) hc7 (fun x hx => .inl hx)) HAS.out.ao
  have hcl := hob7.cell 4 _ HF.out
  have hfz := hob7.frozen 4
  have HC7 := Lib.hid hc7
  have hr7 : Tkr w7 bt _ := HR.out.kept (Chg.trans (S := blk v) (⟨rfl, rfl, rfl, Nat.le_refl _, fun _ _ _ => rfl⟩ : Chg _ w6 w6.drew) hc7 (fun x hx => .inl hx)) HAS.out.at_
  have hmv : Moved w v v' := fun g hg => by
    rcases hmv' g hg with h | h
    · exact .inl h
    · refine .inr ?_
      have := HC5.out.size
      simp at h
      omega
  have hbo : bo ∉ blk v' := fun hm => by
    rcases hmv _ hm with h | h
    · exact HAS.out.ao h
    · have := HO.out.lt; omega
  have HFIN := Lib.hid (show Grew 45 w bt bo 4 fs _ 47 3 v (n + 1) (xs ++ [.int .i64 x0, .int .i64 x1, .int .i64 x2]) (.returned (.tuple #[])) (w7.setCell ⟨bo, 4, none⟩ v') from
    ⟨rfl, v', Blk.other hr7 _ _ (by simpa using HCAP.out.n1), hob7.set 4 v', owns_kept hown' (Chg.set1 w7 bo 4 v') (fun g hg hm => by rw [List.mem_singleton] at hm; subst hm; exact hbo hg),
      ((chg_wide (bo := bo) (v := v) HC5.out).then ((hc7.mono (S2 := bt :: bo :: blk v) (fun x hx => .inl (by simp [hx]))) |> fun h => (Chg.trans (S := bt :: bo :: blk v) (⟨rfl, rfl, rfl, Nat.le_refl _, fun _ _ _ => rfl⟩ : Chg _ w6 w6.drew) h (fun x hx => .inl hx)))).setCell _ (.inl (by simp)) _, hmv⟩)
  clear hown' hch' hmv' hob7 hS how hc7 hr7 hmv hbo
  subst hv'
  refine And.intro HC7.out ?_
  repeat
    (with_reducible show wpX _ _ _ _ _ _ _ _
     first
       | refine wpX_nil ?_
       | refine wpX_skip rfl ?_
       | refine wpX_mv rfl rfl (by kernel_rfl) (fun _ _ => ?_)
       | refine wpX_ldC rfl rfl rfl (by first | exact z1.out | exact z2.out | exact z3.out) (by assumption) (fun _ _ => ?_)
       | refine wpX_ef' rfl rfl rfl (fun _ _ => ?_)
     go_wp2_with fail)
  refine stepX_ef rfl rfl (fun _ _ => ?_)
  change Oper.wp _ (Oper.mk _ _ _ _ _ _) _ _ _ _
  go_wp2_with fail
  refine bodyPost_end (results_none rfl _ _ _) rfl ?_
  exact HFIN.out

set_option maxHeartbeats 2000000 in
theorem cinst_any (b4 b5 bt bo : Nat) (t : TK) (fs : Array Value) (v : Value) (n : Nat) (xs : List Value) (w : World) (hcap : Caps w b4 b5 bt bo) (has : Aside v b4 b5 bt bo)
    (ht : Tkr w bt t) (ho : Blk w bo fs 45) (hf : fs[6]? = some v) (hv : w.ownsRow 0 49 3 v n xs) (hl : t.s.length ≤ 1099511627776) (hn : n ≤ 1099511627776) :
    Calls Tryz.prog 45 #[.pointer (some ⟨b4, 0, none⟩), .pointer (some ⟨b5, 0, none⟩)] w (Grew 45 w bt bo 6 fs (qinst t).2 49 3 v (n + 1) (xs ++ (qinst t).1.cells)) := by
  have hl1 := Nat.le_trans (qnum_len t) hl
  have hl2 := Nat.le_trans (qnum_len (qnum t).2) hl1
  have hT0 := tnum_any bt t w ht hl
  have hT1 := fun w' (h : Tkr w' bt (qnum t).2) => tnum_any bt _ w' h hl1
  have hT2 := fun w' (h : Tkr w' bt (qnum (qnum t).2).2) => tnum_any bt _ w' h hl2
  have hq : qinst t = (⟨(qnum t).1, (qnum (qnum t).2).1, (qnum (qnum (qnum t).2).2).1⟩, (qnum (qnum (qnum t).2).2).2) := rfl
  rw [hq]
  clear hl1 hl2 hq hl
  generalize (qnum (qnum (qnum t).2).2).1 = x2 at hT2 ⊢
  generalize (qnum (qnum (qnum t).2).2).2 = t3 at hT2 ⊢
  generalize (qnum (qnum t).2).1 = x1 at hT1 ⊢
  generalize (qnum (qnum t).2).2 = t2 at hT1 hT2
  generalize (qnum t).1 = x0 at hT0 ⊢
  generalize (qnum t).2 = t1 at hT0 hT1
  have HT0 := Lib.hid hT0; have HT1 := Lib.hid hT1; have HT2 := Lib.hid hT2
  have HCAP := Lib.hid hcap; have HAS := Lib.hid has; have HF := Lib.hid hf; have HV := Lib.hid hv; have HO := Lib.hid ho
  have h4 := hcap.c4
  have HLT := Lib.hid (And.intro ht.lt ho.lt)
  have HV0 := Lib.hid (owns_lt hv)
  clear hT0 hT1 hT2 hcap has ht ho hf hv
  go_enter Tryz.func45, Tryz.ntmps45
  go_wp2_with fail
  refine HT0.out.mono ?_; rintro _ w1 ⟨rfl, hr, hc⟩
  have h4 := hc.cellSome h4 (by simp; exact HCAP.out.n2)
  have HR := Lib.hid hr; have HC := Lib.hid hc
  have HSZ := Lib.hid hc.size
  have h4a : ∀ o, (w1.alloc o).cell? ⟨b4, 0, none⟩ = some (.pointer (some ⟨bt, 0, none⟩)) := fun o => ((Chg.refl [] w1).alloc o).cellSome h4 (by simp)
  clear hr hc
  go_wp2_with fail
  clear h4a
  have hx := Blk.new w1 #[.int .i64 x0, .int .i64 0, .int .i64 0] 49
  have hca : Chg [] w1 (w1.alloc (.cells #[.int .i64 x0, .int .i64 0, .int .i64 0] 49)) := (Chg.refl [] w1).alloc _
  generalize w1.alloc (.cells #[.int .i64 x0, .int .i64 0, .int .i64 0] 49) = w2 at hx hca ⊢
  have hr := Blk.kept HR.out hca (by simp)
  refine (HT1.out w2 hr).mono ?_; rintro _ w3 ⟨rfl, hr, hc⟩
  have hne : w1.heap.size ∉ [bt] := by have := HR.out.lt; simp; omega
  have hx := hx.kept hc hne
  have h4 := ((hca.mono (S2 := [bt]) (fun _ h => by cases h)).then hc).cellSome h4 (by simp; exact HCAP.out.n2)
  have hx1 := hx.cell 1 _ rfl
  have hf1 := hx.frozen 1
  have HX := Lib.hid (hx.set 1 (.int .i64 x1))
  have hc3 : Chg [bt] w1 (w3.setCell ⟨w1.heap.size, 1, none⟩ (.int .i64 x1)) := ((hca.mono (fun _ h => by cases h)).then hc).setCell _ (.inr (Nat.le_refl _)) _
  have HR := Lib.hid (Blk.other hr ⟨w1.heap.size, 1, none⟩ (.int .i64 x1) (by simpa [eq_comm] using hne))
  have HC3 := Lib.hid hc3
  clear hx hr hc hca hc3
  go_wp2_with fail
  clear hx1 hf1
  generalize hw4 : w3.setCell ⟨w1.heap.size, 1, none⟩ (.int .i64 x1) = w4 at HX HR HC3 ⊢
  have h4 := HC3.out.cellSome (show w1.cell? ⟨b4, 0, none⟩ = _ from HC.out.cellSome HCAP.out.c4 (by simp; exact HCAP.out.n2)) (by simp; exact HCAP.out.n2)
  clear hw4
  refine (HT2.out w4 HR.out).mono ?_; rintro _ w5 ⟨rfl, hr, hc⟩
  have hx := HX.out.kept hc hne
  have hx2 := hx.cell 2 _ rfl
  have hf2 := hx.frozen 2
  have HX := Lib.hid (hx.set 2 (.int .i64 x2))
  have hc5 : Chg [bt] w1 (w5.setCell ⟨w1.heap.size, 2, none⟩ (.int .i64 x2)) := (HC3.out.then hc).setCell _ (.inr (Nat.le_refl _)) _
  have HR := Lib.hid (Blk.other hr ⟨w1.heap.size, 2, none⟩ (.int .i64 x2) (by simpa [eq_comm] using hne))
  have HC5 := Lib.hid (HC.out.then hc5)
  clear hx hr hc hc5 HC3
  go_wp2_with fail
  clear hx2 hf2 h4
  generalize hw6 : w5.setCell ⟨w1.heap.size, 2, none⟩ (.int .i64 x2) = w6 at HX HR HC5 ⊢
  clear hw6
  have hb5 := HC5.out.cellSome HCAP.out.c5 (by simp; exact HCAP.out.n4)
  have hob := HO.out.kept HC5.out (by simpa [eq_comm] using HCAP.out.n1)
  have hov := own_bt HV.out HAS.out HC5.out
  have hoc := hob.cell 6 _ HF.out
  have hxc := HX.out.cell 0 _ rfl
  have hnx : w1.heap.size ∉ blk v := fun hm => by have := HV0.out _ hm; have := HSZ.out; omega
  have z1 := Lib.hid (Zone.of (X := blk v) (w0 := w6.drew) hb5 HAS.out.a5)
  have z2 := Lib.hid (Zone.of (X := blk v) (w0 := w6.drew) hoc HAS.out.ao)
  have z3 := Lib.hid (Zone.of (X := blk v) (w0 := w6.drew) hxc hnx)
  have x0c := HX.out.cell 0 _ rfl
  have x1c := HX.out.cell 1 _ rfl
  have x2c := HX.out.cell 2 _ rfl

  have HOB := Lib.hid hob; have HOV := Lib.hid hov
  clear hob hov hxc hnx
  go_wp2_with fail
  refine wp_region_T (blk v) rfl (by kernel_rfl) rfl ?_
  have hS : Chg (blk v) w6.drew w6.drew := Chg.refl _ _
  repeat
    (with_reducible show wpX _ _ _ _ _ _ _ _
     first
       | refine wpX_nil ?_
       | refine wpX_skip rfl ?_
       | refine wpX_mv rfl rfl (by kernel_rfl) (fun _ _ => ?_)
       | refine wpX_ldC rfl rfl rfl (by first | exact z1.out | exact z2.out | exact z3.out) (by assumption) (fun _ _ => ?_)
       | refine wpX_ef' rfl rfl rfl (fun _ _ => ?_)
     go_wp2_with fail)
  refine And.intro (hS.alloc _) ?_
  repeat
    (with_reducible show wpX _ _ _ _ _ _ _ _
     first
       | refine wpX_nil ?_
       | refine wpX_skip rfl ?_
       | refine wpX_mv rfl rfl (by kernel_rfl) (fun _ _ => ?_)
       | refine wpX_ldC rfl rfl rfl (by first | exact z1.out | exact z2.out | exact z3.out) (by assumption) (fun _ _ => ?_)
       | refine wpX_ef' rfl rfl rfl (fun _ _ => ?_)
     go_wp2_with fail)
  have how := owns_kept (w := w6.drew) HOV.out (((Chg.refl [] w6.drew).alloc (.cells #[.int .i64 x0, .int .i64 x1, .int .i64 x2] 49))) (fun g _ hm => by cases hm)
  refine wpX_append _ _ 43 rfl rfl rfl 49 (.agg #[.int .i64 0, .int .i64 0, .int .i64 0]) 3 24 infoInstR Tryz.underlying43 rfl (by decide) v n _ rfl how ⟨w6.heap.size, 0, none⟩ 1 1 [.int .i64 x0, .int .i64 x1, .int .i64 x2] rfl rfl (cells_new _ _ _) (by simp [Value.oneCell']) (by omega) (by unfold maxLen; omega) ?_
  intro v' w7 hown' hch' hmv'
  obtain ⟨a', c', hv', _, _⟩ := own_at (by omega) hown'
  have hc7 : Chg (blk v) w6.drew w7 := (hS.alloc _).then hch'
  have hob7 := HOB.out.kept (Chg.trans (S := blk v) (⟨rfl, rfl, rfl, Nat.le_refl _, fun _ _ _ => rfl⟩ : Chg _ w6 w6.drew) hc7 (fun x hx => .inl hx)) HAS.out.ao
  have hcl := hob7.cell 6 _ HF.out
  have hfz := hob7.frozen 6
  have HC7 := Lib.hid hc7
  have hr7 : Tkr w7 bt _ := HR.out.kept (Chg.trans (S := blk v) (⟨rfl, rfl, rfl, Nat.le_refl _, fun _ _ _ => rfl⟩ : Chg _ w6 w6.drew) hc7 (fun x hx => .inl hx)) HAS.out.at_
  have hmv : Moved w v v' := fun g hg => by
    rcases hmv' g hg with h | h
    · exact .inl h
    · refine .inr ?_
      have := HC5.out.size
      simp at h
      omega
  have hbo : bo ∉ blk v' := fun hm => by
    rcases hmv _ hm with h | h
    · exact HAS.out.ao h
    · have := HO.out.lt; omega
  have HFIN := Lib.hid (show Grew 45 w bt bo 6 fs _ 49 3 v (n + 1) (xs ++ [.int .i64 x0, .int .i64 x1, .int .i64 x2]) (.returned (.tuple #[])) (w7.setCell ⟨bo, 6, none⟩ v') from
    ⟨rfl, v', Blk.other hr7 _ _ (by simpa using HCAP.out.n1), hob7.set 6 v', owns_kept hown' (Chg.set1 w7 bo 6 v') (fun g hg hm => by rw [List.mem_singleton] at hm; subst hm; exact hbo hg),
      ((chg_wide (bo := bo) (v := v) HC5.out).then ((hc7.mono (S2 := bt :: bo :: blk v) (fun x hx => .inl (by simp [hx]))) |> fun h => (Chg.trans (S := bt :: bo :: blk v) (⟨rfl, rfl, rfl, Nat.le_refl _, fun _ _ _ => rfl⟩ : Chg _ w6 w6.drew) h (fun x hx => .inl hx)))).setCell _ (.inl (by simp)) _, hmv⟩)
  clear hown' hch' hmv' hob7 hS how hc7 hr7 hmv hbo
  subst hv'
  refine And.intro HC7.out ?_
  repeat
    (with_reducible show wpX _ _ _ _ _ _ _ _
     first
       | refine wpX_nil ?_
       | refine wpX_skip rfl ?_
       | refine wpX_mv rfl rfl (by kernel_rfl) (fun _ _ => ?_)
       | refine wpX_ldC rfl rfl rfl (by first | exact z1.out | exact z2.out | exact z3.out) (by assumption) (fun _ _ => ?_)
       | refine wpX_ef' rfl rfl rfl (fun _ _ => ?_)
     go_wp2_with fail)
  refine stepX_ef rfl rfl (fun _ _ => ?_)
  change Oper.wp _ (Oper.mk _ _ _ _ _ _) _ _ _ _
  go_wp2_with fail
  refine bodyPost_end (results_none rfl _ _ _) rfl ?_
  exact HFIN.out

set_option maxHeartbeats 2000000 in
theorem cglob_any (b4 b5 bt bo : Nat) (t : TK) (fs : Array Value) (v : Value) (n : Nat) (xs : List Value) (w : World) (hcap : Caps w b4 b5 bt bo) (has : Aside v b4 b5 bt bo)
    (ht : Tkr w bt t) (ho : Blk w bo fs 45) (hf : fs[3]? = some v) (hv : w.ownsRow 0 54 4 v n xs) (hl : t.s.length ≤ 1099511627776) (hn : n ≤ 1099511627776) :
    Calls Tryz.prog 42 #[.pointer (some ⟨b4, 0, none⟩), .pointer (some ⟨b5, 0, none⟩)] w (Grew 45 w bt bo 3 fs (qglob t).2 54 4 v (n + (qglob t).1.length) (xs ++ (qglob t).1.flatMap GlobD.cells)) := by
  have hl1 := Nat.le_trans (qtext_len t) hl
  have hl2 := Nat.le_trans (qnum_len (qtext t).2) hl1
  have hT0 := ttext_any bt t w ht hl
  have hT1 := fun w' (h : Tkr w' bt (qtext t).2) => tnum_any bt _ w' h hl1
  have hq : qglob t = match (qnum (qtext t).2).2.s with
    | [] => ([], ⟨[], true⟩)
    | c :: r => ([⟨(qtext t).1, 0, (qnum (qtext t).2).1, c == 1⟩], ⟨r, (qnum (qtext t).2).2.bad⟩) := rfl
  rw [hq]
  clear hl1 hq hl
  generalize (qnum (qtext t).2).1 = x1 at hT1 ⊢
  generalize (qnum (qtext t).2).2 = t2 at hT1 hl2 ⊢
  generalize (qtext t).1 = x0 at hT0 ⊢
  generalize (qtext t).2 = t1 at hT0 hT1
  obtain ⟨s, bad⟩ := t2
  dsimp only at hl2 ⊢
  have HT0 := Lib.hid hT0; have HT1 := Lib.hid hT1
  have HCAP := Lib.hid hcap; have HAS := Lib.hid has; have HF := Lib.hid hf; have HV := Lib.hid hv; have HO := Lib.hid ho
  have h4 := hcap.c4
  have HV0 := Lib.hid (owns_lt hv)
  clear hT0 hT1 hcap has ht ho hf hv
  rcases s with _ | ⟨cc, r⟩
  all_goals
    go_enter Tryz.func42, Tryz.ntmps42
    go_wp2_with fail
    refine HT0.out.mono ?_; rintro _ w1 ⟨rfl, hr, hc⟩
    have h4 := hc.cellSome h4 (by simp; exact HCAP.out.n2)
    have HR := Lib.hid hr; have HC := Lib.hid hc
    have HSZ := Lib.hid hc.size
    have h4a : ∀ o, (w1.alloc o).cell? ⟨b4, 0, none⟩ = some (.pointer (some ⟨bt, 0, none⟩)) := fun o => ((Chg.refl [] w1).alloc o).cellSome h4 (by simp)
    clear hr hc
    go_wp2_with fail
    clear h4a
    have hx := Blk.new w1 #[str x0, .int .i64 0, .int .i64 0, .bool false] 54
    have hca : Chg [] w1 (w1.alloc (.cells #[str x0, .int .i64 0, .int .i64 0, .bool false] 54)) := (Chg.refl [] w1).alloc _
    generalize w1.alloc (.cells #[str x0, .int .i64 0, .int .i64 0, .bool false] 54) = w2 at hx hca ⊢
    have hr := Blk.kept HR.out hca (by simp)
    refine (HT1.out w2 hr).mono ?_; rintro _ w3 ⟨rfl, hr, hc⟩
    have hne : w1.heap.size ∉ [bt] := by have := HR.out.lt; simp; omega
    have hx := hx.kept hc hne
    have h4 := ((hca.mono (S2 := [bt]) (fun _ h => by cases h)).then hc).cellSome h4 (by simp; exact HCAP.out.n2)
    have hx2 := hx.cell 2 _ rfl
    have hf2 := hx.frozen 2
    have HX := Lib.hid (hx.set 2 (.int .i64 x1))
    have hc3 : Chg [bt] w1 (w3.setCell ⟨w1.heap.size, 2, none⟩ (.int .i64 x1)) := ((hca.mono (fun _ h => by cases h)).then hc).setCell _ (.inr (Nat.le_refl _)) _
    have hr4 : Tkr (w3.setCell ⟨w1.heap.size, 2, none⟩ (.int .i64 x1)) bt _ := Blk.other hr ⟨w1.heap.size, 2, none⟩ (.int .i64 x1) (by simpa [eq_comm] using hne)
    have HR := Lib.hid hr4
    have HC3 := Lib.hid hc3
    have h4s := hc3.cellSome (show w1.cell? ⟨b4, 0, none⟩ = _ from HC.out.cellSome HCAP.out.c4 (by simp; exact HCAP.out.n2)) (by simp; exact HCAP.out.n2)
    have hr4' : Blk _ bt _ _ := hr4
    have hs4 := hr4'.cell 0 _ rfl
    have hb4 := hr4'.cell 1 _ rfl
    have hfb4 := hr4'.frozen 1
    have hfs4 := hr4'.frozen 0
    clear hx hr hc hca hc3 hr4 hr4'
  · have e0 : (bs ([] : List UInt8) == ⟨#[]⟩) = true := by decide
    go_wp2_with fail
    refine bodyPost_end (results_none rfl _ _ _) rfl ?_
    refine ⟨rfl, v, HR.out.set 1 (.bool true), ?_, ?_, ?_, Moved.refl _ _⟩
    · have hob := HO.out.kept (HC.out.then HC3.out) (by simpa [eq_comm] using HCAP.out.n1)
      have hob := Blk.other hob ⟨bt, 1, none⟩ (.bool true) (by simpa [eq_comm] using HCAP.out.n1)
      rwa [show fs.setIfInBounds 3 v = fs from by
        apply Array.ext (by simp)
        intro i h1 h2
        rw [Array.getElem_setIfInBounds]
        split
        · rename_i h; subst h
          have := HF.out
          rw [Array.getElem?_eq_getElem h2] at this
          exact (Option.some.inj this).symm
        · rfl]
    · have hov := own_bt HV.out HAS.out ((HC.out.then HC3.out).then (Chg.set1 _ bt 1 (.bool true)))
      simpa using hov
    · exact chg_wide ((HC.out.then HC3.out).then (Chg.set1 _ bt 1 (.bool true)))
  · have hz : (bs (cc :: r)).size = r.length + 1 := rfl
    have hl2 : r.length + 1 ≤ 1099511627776 := hl2
    have HE1 := Lib.hid (show ((((bs (cc :: r))[0]'(by rw [hz]; omega)).toNat : Int) == 1) = (cc == 1) from by
      show ((cc.toNat : Int) == 1) = (cc == 1)
      rw [Bool.eq_iff_iff]; simp
      constructor
      · intro h; exact UInt8.toNat_inj.1 (by simp; omega)
      · rintro rfl; rfl)
    have hx3 := HX.out.cell 3 _ rfl
    have hf3 := HX.out.frozen 3
    go_wp2_with fail
    rw [HE1.out]
    have HX := Lib.hid (HX.out.set 3 (.bool (cc == 1)))
    have hc5 : Chg [bt] w1 ((w3.setCell ⟨w1.heap.size, 2, none⟩ (.int .i64 x1)).setCell ⟨w1.heap.size, 3, none⟩ (.bool (cc == 1))) := HC3.out.setCell _ (.inr (Nat.le_refl _)) _
    have hr5 : Tkr ((w3.setCell ⟨w1.heap.size, 2, none⟩ (.int .i64 x1)).setCell ⟨w1.heap.size, 3, none⟩ (.bool (cc == 1))) bt _ := Blk.other HR.out ⟨w1.heap.size, 3, none⟩ (.bool (cc == 1)) (by simpa [eq_comm] using hne)
    clear hx3 hf3 h4 h4s hs4 hb4 hfb4 hfs4 hx2 hf2
    generalize (w3.setCell ⟨w1.heap.size, 2, none⟩ (.int .i64 x1)).setCell ⟨w1.heap.size, 3, none⟩ (.bool (cc == 1)) = wa at HX hc5 hr5 ⊢
    have hr5b : Blk wa bt #[str (cc :: r), .bool bad] 81 := hr5
    have h4 := hc5.cellSome (show w1.cell? ⟨b4, 0, none⟩ = _ from HC.out.cellSome HCAP.out.c4 (by simp; exact HCAP.out.n2)) (by simp; exact HCAP.out.n2)
    have hs5 := hr5b.cell 0 _ rfl
    have hfs5 := hr5b.frozen 0
    have y1 := Lib.hid (Zone.of (X := []) (w0 := wa.drew) h4 (by simp))
    have y2 := Lib.hid (Zone.of (X := []) (w0 := wa.drew) hs5 (by simp))
    have HC5 := Lib.hid (HC.out.then hc5)
    have HR := Lib.hid (show Tkr (wa.setCell ⟨bt, 0, none⟩ (str r)) bt ⟨r, bad⟩ from hr5b.set 0 (str r))
    have HEX := Lib.hid (show (bs (cc :: r)).extract 1 (r.length + 1) = bs r by rw [bs_extract]; simp)
    clear hc5 hr5 hr5b
    refine wp_region_T [] rfl (by kernel_rfl) rfl ?_
    have hS : Chg [] wa.drew wa.drew := Chg.refl _ _
    repeat
      (with_reducible show wpX _ _ _ _ _ _ _ _
       first
         | refine wpX_nil ?_
         | refine wpX_skip rfl ?_
         | refine wpX_mv rfl rfl (by kernel_rfl) (fun _ _ => ?_)
         | refine wpX_ldC rfl rfl rfl (by first | exact y1.out | exact y2.out) (by assumption) (fun _ _ => ?_)
         | refine wpX_ef' rfl rfl rfl (fun _ _ => ?_)
       go_wp2_with fail)
    refine stepX_ef rfl rfl (fun _ _ => ?_)
    change Oper.wp _ (Oper.mk _ _ _ _ _ _) _ _ _ _
    go_wp2_with fail
    rw [HEX.out]
    have HX := Lib.hid (show Blk (wa.setCell ⟨bt, 0, none⟩ (str r)).drew w1.heap.size _ _ from Blk.other HX.out ⟨bt, 0, none⟩ (str r) (by simpa using hne))
    have HR := Lib.hid (show Tkr (wa.setCell ⟨bt, 0, none⟩ (str r)).drew bt ⟨r, bad⟩ from HR.out)
    have HC5 := Lib.hid ((HC5.out.setCell ⟨bt, 0, none⟩ (.inl (by simp)) (str r)).drew)
    clear hS h4 hs5 hfs5
    generalize (wa.setCell ⟨bt, 0, none⟩ (str r)).drew = w6 at HX HR HC5 ⊢
    have hb5 := HC5.out.cellSome HCAP.out.c5 (by simp; exact HCAP.out.n4)
    have hob := HO.out.kept HC5.out (by simpa [eq_comm] using HCAP.out.n1)
    have hov := own_bt HV.out HAS.out HC5.out
    have hoc := hob.cell 3 _ HF.out
    have hxc := HX.out.cell 0 _ rfl
    have hnx : w1.heap.size ∉ blk v := fun hm => by have := HV0.out _ hm; have := HSZ.out; omega
    have z1 := Lib.hid (Zone.of (X := blk v) (w0 := w6.drew) hb5 HAS.out.a5)
    have z2 := Lib.hid (Zone.of (X := blk v) (w0 := w6.drew) hoc HAS.out.ao)
    have z3 := Lib.hid (Zone.of (X := blk v) (w0 := w6.drew) hxc hnx)
    have x0c := HX.out.cell 0 _ rfl
    have x1c := HX.out.cell 1 _ rfl
    have x2c := HX.out.cell 2 _ rfl
    have x3c := HX.out.cell 3 _ rfl
    have HOB := Lib.hid hob; have HOV := Lib.hid hov
    clear hob hov hxc hnx
    go_wp2_with fail
    refine wp_region_T (blk v) rfl (by kernel_rfl) rfl ?_
    have hS : Chg (blk v) w6.drew w6.drew := Chg.refl _ _
    repeat
      (with_reducible show wpX _ _ _ _ _ _ _ _
       first
         | refine wpX_nil ?_
         | refine wpX_skip rfl ?_
         | refine wpX_mv rfl rfl (by kernel_rfl) (fun _ _ => ?_)
         | refine wpX_ldC rfl rfl rfl (by first | exact z1.out | exact z2.out | exact z3.out) (by assumption) (fun _ _ => ?_)
         | refine wpX_ef' rfl rfl rfl (fun _ _ => ?_)
       go_wp2_with fail)
    refine And.intro (hS.alloc _) ?_
    repeat
      (with_reducible show wpX _ _ _ _ _ _ _ _
       first
         | refine wpX_nil ?_
         | refine wpX_skip rfl ?_
         | refine wpX_mv rfl rfl (by kernel_rfl) (fun _ _ => ?_)
         | refine wpX_ldC rfl rfl rfl (by first | exact z1.out | exact z2.out | exact z3.out) (by assumption) (fun _ _ => ?_)
         | refine wpX_ef' rfl rfl rfl (fun _ _ => ?_)
       go_wp2_with fail)
    have how := owns_kept (w := w6.drew) HOV.out (((Chg.refl [] w6.drew).alloc (.cells #[str x0, .int .i64 0, .int .i64 x1, .bool (cc == 1)] 54))) (fun g _ hm => by cases hm)
    refine wpX_append _ _ 40 rfl rfl rfl 54 (.agg #[.string ⟨#[]⟩, .int .i64 0, .int .i64 0, .bool false]) 4 40 infoGlobR Tryz.underlying40 rfl (by decide) v n _ rfl how ⟨w6.heap.size, 0, none⟩ 1 1 [str x0, .int .i64 0, .int .i64 x1, .bool (cc == 1)] rfl rfl (cells_new _ _ _) (by simp [Value.oneCell']) (by omega) (by unfold maxLen; omega) ?_
    intro v' w7 hown' hch' hmv'
    obtain ⟨a', c', hv', _, _⟩ := own_at (by omega) hown'
    have hc7 : Chg (blk v) w6.drew w7 := (hS.alloc _).then hch'
    have hob7 := HOB.out.kept (Chg.trans (S := blk v) (⟨rfl, rfl, rfl, Nat.le_refl _, fun _ _ _ => rfl⟩ : Chg _ w6 w6.drew) hc7 (fun x hx => .inl hx)) HAS.out.ao
    have hcl := hob7.cell 3 _ HF.out
    have hfz := hob7.frozen 3
    have HC7 := Lib.hid hc7
    have hr7 : Tkr w7 bt _ := HR.out.kept (Chg.trans (S := blk v) (⟨rfl, rfl, rfl, Nat.le_refl _, fun _ _ _ => rfl⟩ : Chg _ w6 w6.drew) hc7 (fun x hx => .inl hx)) HAS.out.at_
    have hmv : Moved w v v' := fun g hg => by
      rcases hmv' g hg with h | h
      · exact .inl h
      · refine .inr ?_
        have := HC5.out.size
        simp at h
        omega
    have hbo : bo ∉ blk v' := fun hm => by
      rcases hmv _ hm with h | h
      · exact HAS.out.ao h
      · have := HO.out.lt; omega
    have HFIN := Lib.hid (show Grew 45 w bt bo 3 fs _ 54 4 v (n + 1) (xs ++ [str x0, .int .i64 0, .int .i64 x1, .bool (cc == 1)]) (.returned (.tuple #[])) (w7.setCell ⟨bo, 3, none⟩ v') from
      ⟨rfl, v', Blk.other hr7 _ _ (by simpa using HCAP.out.n1), hob7.set 3 v', owns_kept hown' (Chg.set1 w7 bo 3 v') (fun g hg hm => by rw [List.mem_singleton] at hm; subst hm; exact hbo hg),
        ((chg_wide (bo := bo) (v := v) HC5.out).then ((hc7.mono (S2 := bt :: bo :: blk v) (fun x hx => .inl (by simp [hx]))) |> fun h => (Chg.trans (S := bt :: bo :: blk v) (⟨rfl, rfl, rfl, Nat.le_refl _, fun _ _ _ => rfl⟩ : Chg _ w6 w6.drew) h (fun x hx => .inl hx)))).setCell _ (.inl (by simp)) _, hmv⟩)
    clear hown' hch' hmv' hob7 hS how hc7 hr7 hmv hbo
    subst hv'
    refine And.intro HC7.out ?_
    repeat
      (with_reducible show wpX _ _ _ _ _ _ _ _
       first
         | refine wpX_nil ?_
         | refine wpX_skip rfl ?_
         | refine wpX_mv rfl rfl (by kernel_rfl) (fun _ _ => ?_)
         | refine wpX_ldC rfl rfl rfl (by first | exact z1.out | exact z2.out | exact z3.out) (by assumption) (fun _ _ => ?_)
         | refine wpX_ef' rfl rfl rfl (fun _ _ => ?_)
       go_wp2_with fail)
    refine stepX_ef rfl rfl (fun _ _ => ?_)
    change Oper.wp _ (Oper.mk _ _ _ _ _ _) _ _ _ _
    go_wp2_with fail
    refine bodyPost_end (results_none rfl _ _ _) rfl ?_
    exact HFIN.out

set_option maxHeartbeats 2000000 in
theorem cname_any (b4 b5 bt bo : Nat) (t : TK) (fs : Array Value) (v : Value) (n : Nat) (xs : List Value) (w : World) (hcap : Caps w b4 b5 bt bo) (has : Aside v b4 b5 bt bo)
    (ht : Tkr w bt t) (ho : Blk w bo fs 45) (hf : fs[5]? = some v) (hv : w.ownsRow 0 9 1 v n xs) (hl : t.s.length ≤ 1099511627776) (hn : n ≤ 1099511627776) :
    Calls Tryz.prog 43 #[.pointer (some ⟨b5, 0, none⟩), .pointer (some ⟨b4, 0, none⟩)] w (Grew 45 w bt bo 5 fs (qtext t).2 9 1 v (n + 1) (xs ++ [str (qtext t).1])) := by
  have hT0 := ttext_any bt t w.drew ht hl
  have hoc := ho.cell 5 _ hf
  have z1 := Lib.hid (Zone.of (X := bt :: blk v) (w0 := w.drew) hcap.c5 (by simp only [List.mem_cons, not_or]; exact ⟨hcap.n4, has.a5⟩))
  have z2 := Lib.hid (Zone.of (X := bt :: blk v) (w0 := w.drew) hcap.c4 (by simp only [List.mem_cons, not_or]; exact ⟨hcap.n2, has.a4⟩))
  have z3 := Lib.hid (Zone.of (X := bt :: blk v) (w0 := w.drew) hoc (by simp only [List.mem_cons, not_or]; exact ⟨hcap.n1.symm, has.ao⟩))
  have h4 := hcap.c4
  have h5 := hcap.c5
  have hbb := hcap.n1
  have hao := has.ao
  have hat := has.at_
  generalize (qtext t).1 = x0 at hT0 ⊢
  generalize (qtext t).2 = t1 at hT0 ⊢
  have HT0 := Lib.hid hT0
  have HF := Lib.hid hf; have HV := Lib.hid hv; have HO := Lib.hid ho
  have HLT := Lib.hid (And.intro ht.lt ho.lt)
  have HBB := Lib.hid hbb; have HAO := Lib.hid hao; have HAT := Lib.hid hat
  clear hT0 hcap has ht ho hf hv hbb hao hat
  go_enter Tryz.func43, Tryz.ntmps43
  go_wp2_with fail
  refine wp_region_T (bt :: blk v) rfl (by kernel_rfl) rfl ?_
  have hS : Chg (bt :: blk v) w.drew w.drew := Chg.refl _ _
  repeat
    (with_reducible show wpX _ _ _ _ _ _ _ _
     first
       | refine wpX_nil ?_
       | refine wpX_skip rfl ?_
       | refine wpX_mv rfl rfl (by kernel_rfl) (fun _ _ => ?_)
       | refine wpX_ldC rfl rfl rfl (by first | exact z1.out | exact z2.out | exact z3.out) (by assumption) (fun _ _ => ?_)
       | refine wpX_ef' rfl rfl rfl (fun _ _ => ?_)
     go_wp2_with fail)
  refine HT0.out.mono ?_; rintro _ w6 ⟨rfl, hr, hc⟩
  have hS : Chg (bt :: blk v) w.drew w6 := hc.mono (fun x hx => .inl (by simp at hx; simp [hx]))
  have HR := Lib.hid hr; have HC := Lib.hid hc
  clear hr hc
  go_wp2_with fail
  refine And.intro hS ?_
  repeat
    (with_reducible show wpX _ _ _ _ _ _ _ _
     first
       | refine wpX_nil ?_
       | refine wpX_skip rfl ?_
       | refine wpX_mv rfl rfl (by kernel_rfl) (fun _ _ => ?_)
       | refine wpX_ldC rfl rfl rfl (by first | exact z1.out | exact z2.out | exact z3.out) (by assumption) (fun _ _ => ?_)
       | refine wpX_ef' rfl rfl rfl (fun _ _ => ?_)
     go_wp2_with fail)
  refine And.intro (hS.alloc _) ?_
  repeat
    (with_reducible show wpX _ _ _ _ _ _ _ _
     first
       | refine wpX_nil ?_
       | refine wpX_skip rfl ?_
       | refine wpX_mv rfl rfl (by kernel_rfl) (fun _ _ => ?_)
       | refine wpX_ldC rfl rfl rfl (by first | exact z1.out | exact z2.out | exact z3.out) (by assumption) (fun _ _ => ?_)
       | refine wpX_ef' rfl rfl rfl (fun _ _ => ?_)
     go_wp2_with fail)
  have how := owns_kept (w := w.drew) HV.out ((HC.out.alloc (.cells #[str x0] 9))) (fun g hg hm => HAT.out (by rw [List.mem_singleton] at hm; rw [← hm]; exact hg))
  refine wpX_append _ _ 42 rfl rfl rfl 9 (.string ⟨#[]⟩) 1 16 infoStrR Tryz.underlying42 rfl (by decide) v n _ rfl how ⟨w6.heap.size, 0, none⟩ 1 1 [str x0] rfl rfl (cells_new _ _ _) (by simp [Value.oneCell']) (by omega) (by unfold maxLen; omega) ?_
  intro v' w7 hown' hch' hmv'
  obtain ⟨a', c', hv', _, _⟩ := own_at (by omega) hown'
  have hc7 : Chg (bt :: blk v) w.drew w7 := (hS.alloc _).then (hch'.mono (fun x hx => .inl (by simp [hx])))
  have hcw7 : Chg (bt :: blk v) w w7 := Chg.trans (S := bt :: blk v) (⟨rfl, rfl, rfl, Nat.le_refl _, fun _ _ _ => rfl⟩ : Chg _ w w.drew) hc7 (fun x hx => .inl hx)
  have hob7 := HO.out.kept hcw7 (by simp only [List.mem_cons, not_or]; exact ⟨HBB.out.symm, HAO.out⟩)
  have hcl := hob7.cell 5 _ HF.out
  have hfz := hob7.frozen 5
  have HC7 := Lib.hid hc7
  have hr7 : Tkr w7 bt _ := HR.out.kept ((Chg.refl [] w6).alloc (.cells #[str x0] 9)) (by simp) |>.kept hch' HAT.out
  have hmv : Moved w v v' := fun g hg => by
    rcases hmv' g hg with h | h
    · exact .inl h
    · refine .inr ?_
      have := HC.out.size
      simp at h this
      omega
  have hbo : bo ∉ blk v' := fun hm => by
    rcases hmv _ hm with h | h
    · exact HAO.out h
    · have := HO.out.lt; omega
  have HFIN := Lib.hid (show Grew 45 w bt bo 5 fs _ 9 1 v (n + 1) (xs ++ [str x0]) (.returned (.tuple #[])) (w7.setCell ⟨bo, 5, none⟩ v') from
    ⟨rfl, v', Blk.other hr7 _ _ (by simpa using HBB.out), hob7.set 5 v', owns_kept hown' (Chg.set1 w7 bo 5 v') (fun g hg hm => by rw [List.mem_singleton] at hm; subst hm; exact hbo hg),
      (hcw7.mono (S2 := bt :: bo :: blk v) (fun x hx => .inl (by simp only [List.mem_cons] at hx ⊢; rcases hx with h | h <;> simp [h]))).setCell _ (.inl (by simp)) _, hmv⟩)
  clear hown' hch' hmv' hob7 hS how hc7 hr7 hmv hbo hcw7
  subst hv'
  refine And.intro HC7.out ?_
  repeat
    (with_reducible show wpX _ _ _ _ _ _ _ _
     first
       | refine wpX_nil ?_
       | refine wpX_skip rfl ?_
       | refine wpX_mv rfl rfl (by kernel_rfl) (fun _ _ => ?_)
       | refine wpX_ldC rfl rfl rfl (by first | exact z1.out | exact z2.out | exact z3.out) (by assumption) (fun _ _ => ?_)
       | refine wpX_ef' rfl rfl rfl (fun _ _ => ?_)
     go_wp2_with fail)
  refine stepX_ef rfl rfl (fun _ _ => ?_)
  change Oper.wp _ (Oper.mk _ _ _ _ _ _) _ _ _ _
  go_wp2_with fail
  refine bodyPost_end (results_none rfl _ _ _) rfl ?_
  exact HFIN.out

set_option maxHeartbeats 2000000 in
theorem cuname_any (b4 bt bo : Nat) (t : TK) (fs : Array Value) (v : Value) (n : Nat) (xs : List Value) (w : World) (h4 : w.cell? ⟨b4, 0, none⟩ = some (.pointer (some ⟨bt, 0, none⟩))) (hbb : bt ≠ bo) (hn2 : b4 ≠ bt) (ha4 : b4 ∉ blk v) (hat : bt ∉ blk v) (hao : bo ∉ blk v)
    (ht : Tkr w bt t) (ho : Blk w bo fs 56) (hf : fs[2]? = some v) (hv : w.ownsRow 0 9 1 v n xs) (hl : t.s.length ≤ 1099511627776) (hn : n ≤ 1099511627776) :
    Calls Tryz.prog 41 #[.pointer (some ⟨bo, 0, none⟩), .pointer (some ⟨b4, 0, none⟩)] w (Grew 56 w bt bo 2 fs (qtext t).2 9 1 v (n + 1) (xs ++ [str (qtext t).1])) := by
  have hT0 := ttext_any bt t w.drew ht hl
  have hoc := ho.cell 2 _ hf
  have z2 := Lib.hid (Zone.of (X := bt :: blk v) (w0 := w.drew) h4 (by simp only [List.mem_cons, not_or]; exact ⟨hn2, ha4⟩))
  have z3 := Lib.hid (Zone.of (X := bt :: blk v) (w0 := w.drew) hoc (by simp only [List.mem_cons, not_or]; exact ⟨hbb.symm, hao⟩))
  generalize (qtext t).1 = x0 at hT0 ⊢
  generalize (qtext t).2 = t1 at hT0 ⊢
  have HT0 := Lib.hid hT0
  have HF := Lib.hid hf; have HV := Lib.hid hv; have HO := Lib.hid ho
  have HLT := Lib.hid (And.intro ht.lt ho.lt)
  have HBB := Lib.hid hbb; have HAO := Lib.hid hao; have HAT := Lib.hid hat
  clear hT0 ht ho hf hv hbb hao hat
  go_enter Tryz.func41, Tryz.ntmps41
  go_wp2_with fail
  refine wp_region_T (bt :: blk v) rfl (by kernel_rfl) rfl ?_
  have hS : Chg (bt :: blk v) w.drew w.drew := Chg.refl _ _
  repeat
    (with_reducible show wpX _ _ _ _ _ _ _ _
     first
       | refine wpX_nil ?_
       | refine wpX_skip rfl ?_
       | refine wpX_mv rfl rfl (by kernel_rfl) (fun _ _ => ?_)
       | refine wpX_ldC rfl rfl rfl (by first | exact z2.out | exact z3.out) (by assumption) (fun _ _ => ?_)
       | refine wpX_ef' rfl rfl rfl (fun _ _ => ?_)
     go_wp2_with fail)
  refine HT0.out.mono ?_; rintro _ w6 ⟨rfl, hr, hc⟩
  have hS : Chg (bt :: blk v) w.drew w6 := hc.mono (fun x hx => .inl (by simp at hx; simp [hx]))
  have HR := Lib.hid hr; have HC := Lib.hid hc
  clear hr hc
  go_wp2_with fail
  refine And.intro hS ?_
  repeat
    (with_reducible show wpX _ _ _ _ _ _ _ _
     first
       | refine wpX_nil ?_
       | refine wpX_skip rfl ?_
       | refine wpX_mv rfl rfl (by kernel_rfl) (fun _ _ => ?_)
       | refine wpX_ldC rfl rfl rfl (by first | exact z2.out | exact z3.out) (by assumption) (fun _ _ => ?_)
       | refine wpX_ef' rfl rfl rfl (fun _ _ => ?_)
     go_wp2_with fail)
  refine And.intro (hS.alloc _) ?_
  repeat
    (with_reducible show wpX _ _ _ _ _ _ _ _
     first
       | refine wpX_nil ?_
       | refine wpX_skip rfl ?_
       | refine wpX_mv rfl rfl (by kernel_rfl) (fun _ _ => ?_)
       | refine wpX_ldC rfl rfl rfl (by first | exact z2.out | exact z3.out) (by assumption) (fun _ _ => ?_)
       | refine wpX_ef' rfl rfl rfl (fun _ _ => ?_)
     go_wp2_with fail)
  have how := owns_kept (w := w.drew) HV.out ((HC.out.alloc (.cells #[str x0] 9))) (fun g hg hm => HAT.out (by rw [List.mem_singleton] at hm; rw [← hm]; exact hg))
  refine wpX_append _ _ 42 rfl rfl rfl 9 (.string ⟨#[]⟩) 1 16 infoStrR Tryz.underlying42 rfl (by decide) v n _ rfl how ⟨w6.heap.size, 0, none⟩ 1 1 [str x0] rfl rfl (cells_new _ _ _) (by simp [Value.oneCell']) (by omega) (by unfold maxLen; omega) ?_
  intro v' w7 hown' hch' hmv'
  obtain ⟨a', c', hv', _, _⟩ := own_at (by omega) hown'
  have hc7 : Chg (bt :: blk v) w.drew w7 := (hS.alloc _).then (hch'.mono (fun x hx => .inl (by simp [hx])))
  have hcw7 : Chg (bt :: blk v) w w7 := Chg.trans (S := bt :: blk v) (⟨rfl, rfl, rfl, Nat.le_refl _, fun _ _ _ => rfl⟩ : Chg _ w w.drew) hc7 (fun x hx => .inl hx)
  have hob7 := HO.out.kept hcw7 (by simp only [List.mem_cons, not_or]; exact ⟨HBB.out.symm, HAO.out⟩)
  have hcl := hob7.cell 2 _ HF.out
  have hfz := hob7.frozen 2
  have HC7 := Lib.hid hc7
  have hr7 : Tkr w7 bt _ := HR.out.kept ((Chg.refl [] w6).alloc (.cells #[str x0] 9)) (by simp) |>.kept hch' HAT.out
  have hmv : Moved w v v' := fun g hg => by
    rcases hmv' g hg with h | h
    · exact .inl h
    · refine .inr ?_
      have := HC.out.size
      simp at h this
      omega
  have hbo : bo ∉ blk v' := fun hm => by
    rcases hmv _ hm with h | h
    · exact HAO.out h
    · have := HO.out.lt; omega
  have HFIN := Lib.hid (show Grew 56 w bt bo 2 fs _ 9 1 v (n + 1) (xs ++ [str x0]) (.returned (.tuple #[])) (w7.setCell ⟨bo, 2, none⟩ v') from
    ⟨rfl, v', Blk.other hr7 _ _ (by simpa using HBB.out), hob7.set 2 v', owns_kept hown' (Chg.set1 w7 bo 2 v') (fun g hg hm => by rw [List.mem_singleton] at hm; subst hm; exact hbo hg),
      (hcw7.mono (S2 := bt :: bo :: blk v) (fun x hx => .inl (by simp only [List.mem_cons] at hx ⊢; rcases hx with h | h <;> simp [h]))).setCell _ (.inl (by simp)) _, hmv⟩)
  clear hown' hch' hmv' hob7 hS how hc7 hr7 hmv hbo hcw7
  subst hv'
  refine And.intro HC7.out ?_
  repeat
    (with_reducible show wpX _ _ _ _ _ _ _ _
     first
       | refine wpX_nil ?_
       | refine wpX_skip rfl ?_
       | refine wpX_mv rfl rfl (by kernel_rfl) (fun _ _ => ?_)
       | refine wpX_ldC rfl rfl rfl (by first | exact z2.out | exact z3.out) (by assumption) (fun _ _ => ?_)
       | refine wpX_ef' rfl rfl rfl (fun _ _ => ?_)
     go_wp2_with fail)
  refine stepX_ef rfl rfl (fun _ _ => ?_)
  change Oper.wp _ (Oper.mk _ _ _ _ _ _) _ _ _ _
  go_wp2_with fail
  refine bodyPost_end (results_none rfl _ _ _) rfl ?_
  exact HFIN.out

/-- What a step at uses leaves. -/
def GrewU (w : World) (bt bo : Nat) (fs : Array Value) (t' : TK) (v : Value) (n : Nat) (xs : List Value) (u : UseD) (en : Ending) (w' : World) : Prop :=
  en = .returned (.tuple #[]) ∧ ∃ v' a c, Tkr w' bt t' ∧ Blk w' bo (fs.setIfInBounds 2 v') 45 ∧ w'.ownsRow 0 56 3 v' (n + 1) (xs ++ UseM.cells ⟨u, a, c⟩) ∧ Chg (bt :: bo :: blk v) w w' ∧ Moved w v v' ∧
    At w' a (u.names.map str) ∧ (∀ p, a = some p → w.heap.size ≤ p.block ∧ p.block < w'.heap.size ∧ p.block ∉ blk v')

set_option maxHeartbeats 4000000 in
theorem cuse_any (b4 b5 bt bo : Nat) (t : TK) (fs : Array Value) (v : Value) (n : Nat) (xs : List Value) (w : World) (hcap : Caps w b4 b5 bt bo) (has : Aside v b4 b5 bt bo)
    (ht : Tkr w bt t) (ho : Blk w bo fs 45) (hf : fs[2]? = some v) (hv : w.ownsRow 0 56 3 v n xs) (hl : t.s.length ≤ 1099511627776) (hn : n ≤ 1099511627776) :
    Calls Tryz.prog 40 #[.pointer (some ⟨b4, 0, none⟩), .pointer (some ⟨b5, 0, none⟩)] w (GrewU w bt bo fs (quse t).2 v n xs (quse t).1) := by
  have hl1 := Nat.le_trans (qtext_len t) hl
  have hl2 := Nat.le_trans (qtext_len (qtext t).2) hl1
  have hl3 := Nat.le_trans (qnum_len (qtext (qtext t).2).2) hl2
  have hT0 := ttext_any bt t w ht hl
  have hT1 := fun w' (h : Tkr w' bt (qtext t).2) => ttext_any bt _ w' h hl1
  have hT2 := fun w' (h : Tkr w' bt (qtext (qtext t).2).2) => tnum_any bt _ w' h hl2
  have hfit := qnum_fit (qtext (qtext t).2).2
  have hq : quse t = (⟨(qtext t).1, (qtext (qtext t).2).1, (qrun qt1 (qnum (qtext (qtext t).2).2).1.toNat (qnum (qtext (qtext t).2).2).2).1⟩, (qrun qt1 (qnum (qtext (qtext t).2).2).1.toNat (qnum (qtext (qtext t).2).2).2).2) := rfl
  rw [hq]
  clear hl1 hl2 hq hl
  generalize (qnum (qtext (qtext t).2).2).1 = x2 at hT2 hfit ⊢
  generalize (qnum (qtext (qtext t).2).2).2 = t3 at hT2 hl3 ⊢
  generalize (qtext (qtext t).2).1 = x1 at hT1 ⊢
  generalize (qtext (qtext t).2).2 = t2 at hT1 hT2
  generalize (qtext t).1 = x0 at hT0 ⊢
  generalize (qtext t).2 = t1 at hT0 hT1
  have HT0 := Lib.hid hT0; have HT1 := Lib.hid hT1; have HT2 := Lib.hid hT2; have HFIT := Lib.hid hfit; have HL3 := Lib.hid hl3
  have HCAP := Lib.hid hcap; have HAS := Lib.hid has; have HF := Lib.hid hf; have HV := Lib.hid hv; have HO := Lib.hid ho
  have h4 := hcap.c4
  have HV0 := Lib.hid (owns_lt hv)
  have HB4 := Lib.hid (lt_of_cell hcap.c4)
  clear hT0 hT1 hT2 hfit hl3 hcap has ht ho hf hv
  go_enter Tryz.func40, Tryz.ntmps40
  go_wp2_with fail
  refine HT0.out.mono ?_; rintro _ w1 ⟨rfl, hr, hc⟩
  have h4 := hc.cellSome h4 (by simp; exact HCAP.out.n2)
  have HR := Lib.hid hr; have HC := Lib.hid hc
  have HSZ := Lib.hid hc.size
  have h4a : ∀ o, (w1.alloc o).cell? ⟨b4, 0, none⟩ = some (.pointer (some ⟨bt, 0, none⟩)) := fun o => ((Chg.refl [] w1).alloc o).cellSome h4 (by simp)
  clear hr hc
  go_wp2_with fail
  clear h4a
  have hx := Blk.new w1 #[str x0, .string ⟨#[]⟩, .slice none 0 0] 56
  have hca : Chg [] w1 (w1.alloc (.cells #[str x0, .string ⟨#[]⟩, .slice none 0 0] 56)) := (Chg.refl [] w1).alloc _
  generalize w1.alloc (.cells #[str x0, .string ⟨#[]⟩, .slice none 0 0] 56) = w2 at hx hca ⊢
  have hr := Blk.kept HR.out hca (by simp)
  refine (HT1.out w2 hr).mono ?_; rintro _ w3 ⟨rfl, hr, hc⟩
  have hne : w1.heap.size ∉ [bt] := by have := HR.out.lt; simp; omega
  have hx := hx.kept hc hne
  have h4 := ((hca.mono (S2 := [bt]) (fun _ h => by cases h)).then hc).cellSome h4 (by simp; exact HCAP.out.n2)
  have hx1 := hx.cell 1 _ rfl
  have hf1 := hx.frozen 1
  have HX := Lib.hid (hx.set 1 (str x1))
  have hc3 : Chg [bt] w1 (w3.setCell ⟨w1.heap.size, 1, none⟩ (str x1)) := ((hca.mono (fun _ h => by cases h)).then hc).setCell _ (.inr (Nat.le_refl _)) _
  have HR := Lib.hid (Blk.other hr ⟨w1.heap.size, 1, none⟩ (str x1) (by simpa [eq_comm] using hne))
  have HC3 := Lib.hid hc3
  clear hx hr hc hca hc3
  go_wp2_with fail
  clear hx1 hf1 h4
  generalize hw4 : w3.setCell ⟨w1.heap.size, 1, none⟩ (str x1) = w4 at HX HR HC3 ⊢
  have h4 := HC3.out.cellSome (show w1.cell? ⟨b4, 0, none⟩ = _ from HC.out.cellSome HCAP.out.c4 (by simp; exact HCAP.out.n2)) (by simp; exact HCAP.out.n2)
  have hb4u : b4 ≠ w1.heap.size := by have := HB4.out; have := HSZ.out; omega
  have z1 := Lib.hid (Zone.of (X := [bt, w1.heap.size]) (w0 := w4.drew) h4 (by simp; exact ⟨HCAP.out.n2, hb4u⟩))
  clear hw4
  refine wp_region_C [bt, w1.heap.size] rfl (by kernel_rfl) ?_
  have hS : Chg [bt, w1.heap.size] w4.drew w4.drew := Chg.refl _ _
  repeat
    (with_reducible show wpX _ _ _ _ _ _ _ _
     first
       | refine wpX_nil ?_
       | refine wpX_skip rfl ?_
       | refine wpX_mv rfl rfl (by kernel_rfl) (fun _ _ => ?_)
       | refine wpX_ldC rfl rfl rfl (by exact z1.out) (by assumption) (fun _ _ => ?_)
       | refine wpX_ef' rfl rfl rfl (fun _ _ => ?_)
     go_wp2_with fail)
  refine (HT2.out w4.drew HR.out).mono ?_; rintro _ w5 ⟨rfl, hr, hc⟩
  have hS : Chg [bt, w1.heap.size] w4.drew w5 := hc.mono (fun x hx => .inl (by simp at hx; simp [hx]))
  have hx5 := Blk.kept (w := w4.drew) HX.out hc hne
  have HX5 := Lib.hid hx5
  have HR := Lib.hid hr
  have HC45 := Lib.hid hc
  have h45 := hc.cellSome (show w4.drew.cell? ⟨b4, 0, none⟩ = _ from h4) (by simp; exact HCAP.out.n2)
  have HC5 := Lib.hid h45
  clear hr hc hx5 h45
  go_wp2_with fail
  refine And.intro hS ?_
  repeat
    (with_reducible show wpX _ _ _ _ _ _ _ _
     first
       | refine wpX_nil ?_
       | refine wpX_skip rfl ?_
       | refine wpX_mv rfl rfl (by kernel_rfl) (fun _ _ => ?_)
       | refine wpX_ldC rfl rfl rfl (by exact z1.out) (by assumption) (fun _ _ => ?_)
       | refine wpX_ef' rfl rfl rfl (fun _ _ => ?_)
     go_wp2_with fail)
  have hbt5 : bt < w5.heap.size := HR.out.lt
  have hbu5 : w1.heap.size < w5.heap.size := HX5.out.lt
  have hb45 : b4 < w5.heap.size := lt_of_cell HC5.out
  have hTM := ttimes_any bt x2 41 #[.pointer (some ⟨w1.heap.size, 0, none⟩), .pointer (some ⟨b4, 0, none⟩)]
    (fun k w' => ∃ v', Tkr w' bt (qit qt1 k t3).2 ∧ Blk w' w1.heap.size #[str x0, str x1, v'] 56 ∧ w'.ownsRow 0 9 1 v' (qit qt1 k t3).1.length ((qit qt1 k t3).1.map str) ∧ From w5.heap.size v' ∧ Chg [bt, w1.heap.size] w5 w')
    (fun k => (qit qt1 k t3).2) w5 (fun cs w => by kernel_rfl)
    ⟨.slice none 0 0, HR.out, HX5.out, World.ownsRow_nil _ _ _ _, From.nil _, Chg.refl _ _⟩ HFIT.out (fun k w' h => by obtain ⟨_, h, _⟩ := h; exact h)
    (fun k w' hk hb hi => by
      obtain ⟨v', hr, hx, ho, hfr, hc⟩ := hi
      have hcount := qit_count (p := qt1) (fun t h => qtext_bad t h) (fun t h => qtext_less t h) t3 k hb
      have hl3 := HL3.out
      refine (cuname_any b4 bt w1.heap.size _ _ v' _ _ w' (hc.cellSome HC5.out (by simp; exact ⟨HCAP.out.n2, hb4u⟩)) (by simpa [eq_comm] using hne) HCAP.out.n2 (hfr.notin hb45) (hfr.notin hbt5) (hfr.notin hbu5) hr hx rfl ho (by omega) (by rw [qt1_count]; omega)).mono ?_
      rintro _ w2 ⟨rfl, v2, hr2, hx2, ho2, hc2, hm2⟩
      refine ⟨rfl, v2, hr2, hx2, ?_, hfr.moved hm2 hc.size, hc.trans hc2 (fun x hx => ?_)⟩
      · rw [qit]
        have e : (qt1 (qit qt1 k t3).2).1 = [(qtext (qit qt1 k t3).2).1] := rfl
        rw [e, List.length_append, List.map_append]
        exact ho2
      · simp only [List.mem_cons] at hx
        rcases hx with h | h | h
        · exact .inl (by simp [h])
        · exact .inl (by simp [h])
        · exact .inr (hfr _ h))
  refine hTM.mono ?_
  rintro _ w6 ⟨rfl, k, hk, hkn, hkb, v', hr, hx, ho, hfr, hc⟩
  have hq := qrun_of qt1 k x2.toNat t3 hk hkn hkb
  rw [hq] at hr ho
  have hS : Chg [bt, w1.heap.size] w4.drew w6 := hS.then hc
  obtain ⟨a, c, rfl, hat, hbl⟩ := own_at (by omega) ho
  have HBL := Lib.hid (show ∀ p, a = some p → w.heap.size ≤ p.block ∧ p.block < w6.heap.size from fun p hp => by
    have h1 := hfr _ (hbl p hp); have h2 := owns_lt ho _ (hbl p hp); have := HSZ.out; have := HC3.out.size; have := HC45.out.size
    have e : w4.drew.heap.size = w4.heap.size := rfl
    omega)
  generalize hx3 : (qrun qt1 x2.toNat t3).1 = x3 at ho hat hx ⊢
  generalize hx4 : (qrun qt1 x2.toNat t3).2 = t4 at hr ⊢
  have HX3 := Lib.hid hx3; have HX4 := Lib.hid hx4
  clear hx3 hx4
  have HR := Lib.hid hr; have HX := Lib.hid hx; have HAT := Lib.hid hat
  have HC5 := Lib.hid (show Chg [bt] w w6 from (HC.out.then HC3.out).trans (Chg.trans (S := [bt, w1.heap.size]) (⟨rfl, rfl, rfl, Nat.le_refl _, fun _ _ _ => rfl⟩ : Chg _ w4 w4.drew) hS (fun x hx => .inl hx)) (fun x hx => by
    simp only [List.mem_cons, List.not_mem_nil, or_false] at hx
    rcases hx with h | h
    · exact .inl (by simp [h])
    · exact .inr (by rw [h]; exact HSZ.out)))
  have HS6 := Lib.hid hS
  clear hTM hr hx ho hat hbl hfr hc hq hkn hkb hk h4 hS hbt5 hbu5 hb45
  go_wp2_with fail
  refine And.intro HS6.out ?_
  repeat
    (with_reducible show wpX _ _ _ _ _ _ _ _
     first
       | refine wpX_nil ?_
       | refine wpX_skip rfl ?_
       | refine wpX_mv rfl rfl (by kernel_rfl) (fun _ _ => ?_)
       | refine wpX_ldC rfl rfl rfl (by exact z1.out) (by assumption) (fun _ _ => ?_)
       | refine wpX_ef' rfl rfl rfl (fun _ _ => ?_)
     go_wp2_with fail)
  have hb5 := HC5.out.cellSome HCAP.out.c5 (by simp; exact HCAP.out.n4)
  have hob := HO.out.kept HC5.out (by simpa [eq_comm] using HCAP.out.n1)
  have hov := own_bt HV.out HAS.out HC5.out
  have hoc := hob.cell 2 _ HF.out
  have hxc := HX.out.cell 0 _ rfl
  have hnx : w1.heap.size ∉ blk v := fun hm => by have := HV0.out _ hm; have := HSZ.out; omega
  have z1 := Lib.hid (Zone.of (X := blk v) (w0 := w6.drew) hb5 HAS.out.a5)
  have z2 := Lib.hid (Zone.of (X := blk v) (w0 := w6.drew) hoc HAS.out.ao)
  have z3 := Lib.hid (Zone.of (X := blk v) (w0 := w6.drew) hxc hnx)
  have x0c := HX.out.cell 0 _ rfl
  have x1c := HX.out.cell 1 _ rfl
  have x2c := HX.out.cell 2 _ rfl

  have HOB := Lib.hid hob; have HOV := Lib.hid hov
  clear hob hov hxc hnx
  go_wp2_with fail
  refine wp_region_T (blk v) rfl (by kernel_rfl) rfl ?_
  have hS : Chg (blk v) w6.drew w6.drew := Chg.refl _ _
  repeat
    (with_reducible show wpX _ _ _ _ _ _ _ _
     first
       | refine wpX_nil ?_
       | refine wpX_skip rfl ?_
       | refine wpX_mv rfl rfl (by kernel_rfl) (fun _ _ => ?_)
       | refine wpX_ldC rfl rfl rfl (by first | exact z1.out | exact z2.out | exact z3.out) (by assumption) (fun _ _ => ?_)
       | refine wpX_ef' rfl rfl rfl (fun _ _ => ?_)
     go_wp2_with fail)
  refine And.intro (hS.alloc _) ?_
  repeat
    (with_reducible show wpX _ _ _ _ _ _ _ _
     first
       | refine wpX_nil ?_
       | refine wpX_skip rfl ?_
       | refine wpX_mv rfl rfl (by kernel_rfl) (fun _ _ => ?_)
       | refine wpX_ldC rfl rfl rfl (by first | exact z1.out | exact z2.out | exact z3.out) (by assumption) (fun _ _ => ?_)
       | refine wpX_ef' rfl rfl rfl (fun _ _ => ?_)
     go_wp2_with fail)
  have how := owns_kept (w := w6.drew) HOV.out (((Chg.refl [] w6.drew).alloc (.cells #[str x0, str x1, .slice a x3.length c] 56))) (fun g _ hm => by cases hm)
  refine wpX_append _ _ 39 rfl rfl rfl 56 (.agg #[.string ⟨#[]⟩, .string ⟨#[]⟩, .slice none 0 0]) 3 56 infoUseR Tryz.underlying39 rfl (by decide) v n _ rfl how ⟨w6.heap.size, 0, none⟩ 1 1 [str x0, str x1, .slice a x3.length c] rfl rfl (cells_new _ _ _) (by simp [Value.oneCell']) (by omega) (by unfold maxLen; omega) ?_
  intro v' w7 hown' hch' hmv'
  obtain ⟨a', c', hv', _, _⟩ := own_at (by omega) hown'
  have hc7 : Chg (blk v) w6.drew w7 := (hS.alloc _).then hch'
  have hob7 := HOB.out.kept (Chg.trans (S := blk v) (⟨rfl, rfl, rfl, Nat.le_refl _, fun _ _ _ => rfl⟩ : Chg _ w6 w6.drew) hc7 (fun x hx => .inl hx)) HAS.out.ao
  have hcl := hob7.cell 2 _ HF.out
  have hfz := hob7.frozen 2
  have HC7 := Lib.hid hc7
  have hr7 : Tkr w7 bt _ := HR.out.kept (Chg.trans (S := blk v) (⟨rfl, rfl, rfl, Nat.le_refl _, fun _ _ _ => rfl⟩ : Chg _ w6 w6.drew) hc7 (fun x hx => .inl hx)) HAS.out.at_
  have hmv : Moved w v v' := fun g hg => by
    rcases hmv' g hg with h | h
    · exact .inl h
    · refine .inr ?_
      have := HC5.out.size
      simp at h
      omega
  have hbo : bo ∉ blk v' := fun hm => by
    rcases hmv _ hm with h | h
    · exact HAS.out.ao h
    · have := HO.out.lt; omega
  have HFIN := Lib.hid (show GrewU w bt bo fs t4 v n xs ⟨x0, x1, x3⟩ (.returned (.tuple #[])) (w7.setCell ⟨bo, 2, none⟩ v') from
    ⟨rfl, v', a, c, Blk.other hr7 _ _ (by simpa using HCAP.out.n1), hob7.set 2 v', owns_kept hown' (Chg.set1 w7 bo 2 v') (fun g hg hm => by rw [List.mem_singleton] at hm; subst hm; exact hbo hg),
      ((chg_wide (bo := bo) (v := v) HC5.out).then ((hc7.mono (S2 := bt :: bo :: blk v) (fun x hx => .inl (by simp [hx]))) |> fun h => (Chg.trans (S := bt :: bo :: blk v) (⟨rfl, rfl, rfl, Nat.le_refl _, fun _ _ _ => rfl⟩ : Chg _ w6 w6.drew) h (fun x hx => .inl hx)))).setCell _ (.inl (by simp)) _, hmv,
      (HAT.out.kept (Chg.trans (S := blk v) (⟨rfl, rfl, rfl, Nat.le_refl _, fun _ _ _ => rfl⟩ : Chg _ w6 w6.drew) hc7 (fun x hx => .inl hx)) (fun p hp hm => by have h1 := (HBL.out p hp).1; have h2 := HV0.out _ hm; omega)).kept (Chg.set1 w7 bo 2 v') (fun p hp hm => by
        rw [List.mem_singleton] at hm; have h1 := (HBL.out p hp).1; have h2 := HO.out.lt; omega),
      fun p hp => by
        obtain ⟨h1, h2⟩ := HBL.out p hp
        have h3 := hc7.size
        refine ⟨h1, ?_, fun hm => ?_⟩
        · have e : w6.drew.heap.size = w6.heap.size := rfl
          have e2 : (w7.setCell ⟨bo, 2, none⟩ v').heap.size = w7.heap.size := by simp [World.setCell]
          omega
        · rcases hmv' _ hm with h | h
          · have := HV0.out _ h; omega
          · simp at h; omega⟩)
  clear hown' hch' hmv' hob7 hS how hc7 hr7 hmv hbo
  subst hv'
  refine And.intro HC7.out ?_
  repeat
    (with_reducible show wpX _ _ _ _ _ _ _ _
     first
       | refine wpX_nil ?_
       | refine wpX_skip rfl ?_
       | refine wpX_mv rfl rfl (by kernel_rfl) (fun _ _ => ?_)
       | refine wpX_ldC rfl rfl rfl (by first | exact z1.out | exact z2.out | exact z3.out) (by assumption) (fun _ _ => ?_)
       | refine wpX_ef' rfl rfl rfl (fun _ _ => ?_)
     go_wp2_with fail)
  refine stepX_ef rfl rfl (fun _ _ => ?_)
  change Oper.wp _ (Oper.mk _ _ _ _ _ _) _ _ _ _
  go_wp2_with fail
  refine bodyPost_end (results_none rfl _ _ _) rfl ?_
  rw [HX3.out, HX4.out]
  exact HFIN.out
end Go.Proofs.YtjgfclhempjinaaGreatDoor
