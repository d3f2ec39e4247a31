/- The parts of the document's Read: each 'times', whole. -/
import Derived.Test.YtjgfclhempjinaaGreatDoorRefSteps
namespace Go.Mq.Obj
open Go Go.RowKit Go.Mq
def qsym1 (t : TK) : List SymD × TK := ([(qsym t).1], (qsym t).2)
def qent1 (t : TK) : List EntD × TK := ([(qent t).1], (qent t).2)
def qinst1 (t : TK) : List InstD × TK := ([(qinst t).1], (qinst t).2)
def quse1 (t : TK) : List UseD × TK := ([(quse t).1], (quse t).2)
/-- A step: it takes something or is bad; bad stays bad; it yields one thing at most. -/
structure Step {α : Type} (p : TK → List α × TK) : Prop where
  bad : ∀ t, t.bad = true → (p t).2.bad = true
  less : ∀ t, t.bad = false → (p t).2.bad = true ∨ (p t).2.s.length < t.s.length
  len : ∀ t, (p t).2.s.length ≤ t.s.length
  one : ∀ t, (p t).1.length ≤ 1
theorem qnum_less2 {t t0 : TK} (h : t.bad = true ∨ t.s.length < t0.s.length) : (qnum t).2.bad = true ∨ (qnum t).2.s.length < t0.s.length := by
  rcases h with h | h
  · exact .inl (qnum_bad t h)
  · exact .inr (Nat.lt_of_le_of_lt (qnum_len t) h)
theorem qtext_less2 {t t0 : TK} (h : t.bad = true ∨ t.s.length < t0.s.length) : (qtext t).2.bad = true ∨ (qtext t).2.s.length < t0.s.length := by
  rcases h with h | h
  · exact .inl (qtext_bad t h)
  · exact .inr (Nat.lt_of_le_of_lt (qtext_len t) h)
theorem step_t1 : Step qt1 := ⟨fun t h => qtext_bad t h, fun t h => qtext_less t h, fun t => qtext_len t, fun _ => Nat.le_refl _⟩
theorem step_sym : Step qsym1 := ⟨fun t h => qnum_bad _ (qnum_bad _ (qtext_bad t h)), fun t h => qnum_less2 (qnum_less2 (qtext_less t h)), fun t => Nat.le_trans (qnum_len _) (Nat.le_trans (qnum_len _) (qtext_len t)), fun _ => Nat.le_refl _⟩
theorem step_ent : Step qent1 := ⟨fun t h => qnum_bad _ (qnum_bad _ (qnum_bad t h)), fun t h => qnum_less2 (qnum_less2 (qnum_less t h)), fun t => Nat.le_trans (qnum_len _) (Nat.le_trans (qnum_len _) (qnum_len t)), fun _ => Nat.le_refl _⟩
theorem step_inst : Step qinst1 := ⟨fun t h => qnum_bad _ (qnum_bad _ (qnum_bad t h)), fun t h => qnum_less2 (qnum_less2 (qnum_less t h)), fun t => Nat.le_trans (qnum_len _) (Nat.le_trans (qnum_len _) (qnum_len t)), fun _ => Nat.le_refl _⟩
theorem step_glob : Step qglob := by
  refine ⟨fun t h => ?_, fun t h => ?_, fun t => ?_, fun t => ?_⟩
  · have h1 := qnum_bad _ (qtext_bad t h)
    unfold qglob
    split
    · rfl
    · exact h1
  · have h1 := qnum_less2 (qtext_less t h)
    unfold qglob
    split
    · exact .inl rfl
    · rename_i c r hs
      rcases h1 with h1 | h1
      · exact .inl h1
      · rw [hs] at h1
        exact .inr (by simp at h1 ⊢; omega)
  · have h1 := Nat.le_trans (qnum_len _) (qtext_len t)
    unfold qglob
    split
    · exact Nat.zero_le _
    · rename_i c r hs
      rw [hs] at h1
      simp at h1 ⊢; omega
  · unfold qglob; split <;> simp
theorem qrun_bad {α : Type} {p : TK → List α × TK} (hp : Step p) (m : Nat) : ∀ t, t.bad = true → (qrun p m t).2.bad = true := by
  induction m with
  | zero => intro t h; exact h
  | succ m ih => intro t h; rw [qrun, if_pos h]; exact h
theorem qrun_len {α : Type} {p : TK → List α × TK} (hp : Step p) (m : Nat) : ∀ t, (qrun p m t).2.s.length ≤ t.s.length := by
  induction m with
  | zero => intro t; exact Nat.le_refl _
  | succ m ih =>
    intro t
    rw [qrun]
    split
    · exact Nat.le_refl _
    · exact Nat.le_trans (ih _) (hp.len t)
theorem qrun_count {α : Type} {p : TK → List α × TK} (hp : Step p) (m : Nat) : ∀ t, (qrun p m t).1.length ≤ t.s.length + 1 := by
  induction m with
  | zero => intro t; simp [qrun]
  | succ m ih =>
    intro t
    rw [qrun]
    cases hb : t.bad with
    | true => simp
    | false =>
      have h1 := hp.one t
      have h2 := ih (p t).2
      rcases hp.less t hb with h | h
      · have h3 : (qrun p m (p t).2).1 = [] := by
          cases m with
          | zero => rfl
          | succ m => rw [qrun, if_pos h]
        simp [h3]; omega
      · simp; omega
theorem step_use : Step quse1 := by
  refine ⟨fun t h => ?_, fun t h => ?_, fun t => ?_, fun _ => Nat.le_refl _⟩
  · exact qrun_bad step_t1 _ _ (qnum_bad _ (qtext_bad _ (qtext_bad t h)))
  · have h1 := qnum_less2 (qtext_less2 (qtext_less t h))
    rcases h1 with h1 | h1
    · exact .inl (qrun_bad step_t1 _ _ h1)
    · exact .inr (Nat.lt_of_le_of_lt (qrun_len step_t1 _ _) h1)
  · exact Nat.le_trans (qrun_len step_t1 _ _) (Nat.le_trans (qnum_len _) (Nat.le_trans (qtext_len _) (qtext_len t)))
theorem qit_ones {α : Type} {p : TK → List α × TK} (hp : Step p) (t : TK) (k : Nat) : (qit p k t).1.length ≤ k := by
  induction k with
  | zero => exact Nat.le_refl _
  | succ k ih => rw [qit, List.length_append]; have := hp.one (qit p k t).2; omega
/-- What holds of all that a run yields. -/
theorem qrun_all {α : Type} {p : TK → List α × TK} (hp : Step p) {Q : α → Prop} {L : Nat} (hq : ∀ t, t.s.length ≤ L → ∀ x ∈ (p t).1, Q x) (m : Nat) : ∀ t, t.s.length ≤ L → ∀ x ∈ (qrun p m t).1, Q x := by
  induction m with
  | zero => intro t _ x hx; cases hx
  | succ m ih =>
    intro t ht x hx
    rw [qrun] at hx
    split at hx
    · cases hx
    · rcases List.mem_append.1 hx with h | h
      · exact hq t ht x h
      · exact ih _ (Nat.le_trans (hp.len t) ht) x h
end Go.Mq.Obj
namespace Go.Proofs.YtjgfclhempjinaaGreatDoor
open Go Go.RowKit Go.Mq Go.Mq.Obj
set_option maxRecDepth 100000

theorem psym_any (b4 b5 bt bo : Nat) (n : Int) (t : TK) (fs : Array Value) (W : World) (hcap : Caps W b4 b5 bt bo) (ht : Tkr W bt t) (ho : Blk W bo fs 45) (hsz : 1 < fs.size) (hf : fs[1]? = some (.slice none 0 0)) (hl : t.s.length ≤ 1099511627776) (hn : I64 n) :
    Calls Tryz.prog 37 #[.pointer (some ⟨bt, 0, none⟩), .int .i64 n, .func (.func 39) #[] #[.pointer (some ⟨b4, 0, none⟩), .pointer (some ⟨b5, 0, none⟩)]] W
      (fun e w' => e = .returned (.tuple #[]) ∧ ∃ v, Tkr w' bt (qrun qsym1 n.toNat t).2 ∧ Blk w' bo (fs.setIfInBounds 1 v) 45 ∧ w'.ownsRow 0 52 3 v (qrun qsym1 n.toNat t).1.length ((qrun qsym1 n.toNat t).1.flatMap SymD.cells) ∧ From W.heap.size v ∧ Chg [bt, bo] W w') := by
  have hbt : bt < W.heap.size := ht.lt
  have hbo : bo < W.heap.size := ho.lt
  have hb4 : b4 < W.heap.size := lt_of_cell hcap.c4
  have hb5 : b5 < W.heap.size := lt_of_cell hcap.c5
  have hself : fs.setIfInBounds 1 (.slice none 0 0) = fs := by
    apply Array.ext (by simp)
    intro i h1 h2
    rw [Array.getElem_setIfInBounds]
    split
    · rename_i h; subst h
      rw [Array.getElem?_eq_getElem h2] at hf
      exact (Option.some.inj hf).symm
    · rfl
  refine (ttimes_any bt n 39 #[.pointer (some ⟨b4, 0, none⟩), .pointer (some ⟨b5, 0, none⟩)]
    (fun k w' => ∃ v, Tkr w' bt (qit qsym1 k t).2 ∧ Blk w' bo (fs.setIfInBounds 1 v) 45 ∧ w'.ownsRow 0 52 3 v (qit qsym1 k t).1.length ((qit qsym1 k t).1.flatMap SymD.cells) ∧ From W.heap.size v ∧ Chg [bt, bo] W w')
    (fun k => (qit qsym1 k t).2) W (fun cs w => by kernel_rfl)
    ⟨.slice none 0 0, ht, by rw [hself]; exact ho, World.ownsRow_nil _ _ _ _, From.nil _, Chg.refl _ _⟩ hn (fun k w' h => by obtain ⟨_, h, _⟩ := h; exact h)
    (fun k w' hk hb hi => by
      obtain ⟨v, hr, hx, ho, hfr, hc⟩ := hi
      have hcount := qit_count (p := qsym1) step_sym.bad step_sym.less t k hb
      have hones := qit_ones step_sym t k
      refine (csym_any b4 b5 bt bo _ _ v _ _ w' (hcap.kept hc (by simp; exact ⟨hcap.n2, hcap.n3⟩) (by simp; exact ⟨hcap.n4, hcap.n5⟩)) ⟨hfr.notin hb4, hfr.notin hb5, hfr.notin hbt, hfr.notin hbo⟩ hr hx (by simp [hsz]) ho (by omega) (by omega)).mono ?_
      rintro _ w2 ⟨rfl, v2, hr2, hx2, ho2, hc2, hm2⟩
      refine ⟨rfl, v2, hr2, by rw [Array.setIfInBounds_setIfInBounds] at hx2; exact hx2, ?_, hfr.moved hm2 hc.size, hc.trans hc2 (fun x hx => ?_)⟩
      · rw [qit]
        have e : (qsym1 (qit qsym1 k t).2).1 = [(qsym (qit qsym1 k t).2).1] := rfl
        rw [e, List.length_append, List.flatMap_append, List.flatMap_cons, List.flatMap_nil, List.append_nil]; exact ho2
      · simp only [List.mem_cons] at hx
        rcases hx with h | h | h
        · exact .inl (by simp [h])
        · exact .inl (by simp [h])
        · exact .inr (hfr _ h))).mono ?_
  rintro _ w6 ⟨rfl, k, hk, hkn, hkb, v, hr, hx, ho, hfr, hc⟩
  have hq := qrun_of qsym1 k n.toNat t hk hkn hkb
  rw [hq] at hr ho
  exact ⟨rfl, v, hr, hx, ho, hfr, hc⟩

theorem pglob_any (b4 b5 bt bo : Nat) (n : Int) (t : TK) (fs : Array Value) (W : World) (hcap : Caps W b4 b5 bt bo) (ht : Tkr W bt t) (ho : Blk W bo fs 45) (hsz : 3 < fs.size) (hf : fs[3]? = some (.slice none 0 0)) (hl : t.s.length ≤ 1099511627776) (hn : I64 n) :
    Calls Tryz.prog 37 #[.pointer (some ⟨bt, 0, none⟩), .int .i64 n, .func (.func 42) #[] #[.pointer (some ⟨b4, 0, none⟩), .pointer (some ⟨b5, 0, none⟩)]] W
      (fun e w' => e = .returned (.tuple #[]) ∧ ∃ v, Tkr w' bt (qrun qglob n.toNat t).2 ∧ Blk w' bo (fs.setIfInBounds 3 v) 45 ∧ w'.ownsRow 0 54 4 v (qrun qglob n.toNat t).1.length ((qrun qglob n.toNat t).1.flatMap GlobD.cells) ∧ From W.heap.size v ∧ Chg [bt, bo] W w') := by
  have hbt : bt < W.heap.size := ht.lt
  have hbo : bo < W.heap.size := ho.lt
  have hb4 : b4 < W.heap.size := lt_of_cell hcap.c4
  have hb5 : b5 < W.heap.size := lt_of_cell hcap.c5
  have hself : fs.setIfInBounds 3 (.slice none 0 0) = fs := by
    apply Array.ext (by simp)
    intro i h1 h2
    rw [Array.getElem_setIfInBounds]
    split
    · rename_i h; subst h
      rw [Array.getElem?_eq_getElem h2] at hf
      exact (Option.some.inj hf).symm
    · rfl
  refine (ttimes_any bt n 42 #[.pointer (some ⟨b4, 0, none⟩), .pointer (some ⟨b5, 0, none⟩)]
    (fun k w' => ∃ v, Tkr w' bt (qit qglob k t).2 ∧ Blk w' bo (fs.setIfInBounds 3 v) 45 ∧ w'.ownsRow 0 54 4 v (qit qglob k t).1.length ((qit qglob k t).1.flatMap GlobD.cells) ∧ From W.heap.size v ∧ Chg [bt, bo] W w')
    (fun k => (qit qglob k t).2) W (fun cs w => by kernel_rfl)
    ⟨.slice none 0 0, ht, by rw [hself]; exact ho, World.ownsRow_nil _ _ _ _, From.nil _, Chg.refl _ _⟩ hn (fun k w' h => by obtain ⟨_, h, _⟩ := h; exact h)
    (fun k w' hk hb hi => by
      obtain ⟨v, hr, hx, ho, hfr, hc⟩ := hi
      have hcount := qit_count (p := qglob) step_glob.bad step_glob.less t k hb
      have hones := qit_ones step_glob t k
      refine (cglob_any b4 b5 bt bo _ _ v _ _ w' (hcap.kept hc (by simp; exact ⟨hcap.n2, hcap.n3⟩) (by simp; exact ⟨hcap.n4, hcap.n5⟩)) ⟨hfr.notin hb4, hfr.notin hb5, hfr.notin hbt, hfr.notin hbo⟩ hr hx (by simp [hsz]) ho (by omega) (by omega)).mono ?_
      rintro _ w2 ⟨rfl, v2, hr2, hx2, ho2, hc2, hm2⟩
      refine ⟨rfl, v2, hr2, by rw [Array.setIfInBounds_setIfInBounds] at hx2; exact hx2, ?_, hfr.moved hm2 hc.size, hc.trans hc2 (fun x hx => ?_)⟩
      · rw [qit]
        rw [List.length_append, List.flatMap_append]; exact ho2
      · simp only [List.mem_cons] at hx
        rcases hx with h | h | h
        · exact .inl (by simp [h])
        · exact .inl (by simp [h])
        · exact .inr (hfr _ h))).mono ?_
  rintro _ w6 ⟨rfl, k, hk, hkn, hkb, v, hr, hx, ho, hfr, hc⟩
  have hq := qrun_of qglob k n.toNat t hk hkn hkb
  rw [hq] at hr ho
  exact ⟨rfl, v, hr, hx, ho, hfr, hc⟩

theorem pname_any (b4 b5 bt bo : Nat) (n : Int) (t : TK) (fs : Array Value) (W : World) (hcap : Caps W b4 b5 bt bo) (ht : Tkr W bt t) (ho : Blk W bo fs 45) (hsz : 5 < fs.size) (hf : fs[5]? = some (.slice none 0 0)) (hl : t.s.length ≤ 1099511627776) (hn : I64 n) :
    Calls Tryz.prog 37 #[.pointer (some ⟨bt, 0, none⟩), .int .i64 n, .func (.func 43) #[] #[.pointer (some ⟨b5, 0, none⟩), .pointer (some ⟨b4, 0, none⟩)]] W
      (fun e w' => e = .returned (.tuple #[]) ∧ ∃ v, Tkr w' bt (qrun qt1 n.toNat t).2 ∧ Blk w' bo (fs.setIfInBounds 5 v) 45 ∧ w'.ownsRow 0 9 1 v (qrun qt1 n.toNat t).1.length ((qrun qt1 n.toNat t).1.map str) ∧ From W.heap.size v ∧ Chg [bt, bo] W w') := by
  have hbt : bt < W.heap.size := ht.lt
  have hbo : bo < W.heap.size := ho.lt
  have hb4 : b4 < W.heap.size := lt_of_cell hcap.c4
  have hb5 : b5 < W.heap.size := lt_of_cell hcap.c5
  have hself : fs.setIfInBounds 5 (.slice none 0 0) = fs := by
    apply Array.ext (by simp)
    intro i h1 h2
    rw [Array.getElem_setIfInBounds]
    split
    · rename_i h; subst h
      rw [Array.getElem?_eq_getElem h2] at hf
      exact (Option.some.inj hf).symm
    · rfl
  refine (ttimes_any bt n 43 #[.pointer (some ⟨b5, 0, none⟩), .pointer (some ⟨b4, 0, none⟩)]
    (fun k w' => ∃ v, Tkr w' bt (qit qt1 k t).2 ∧ Blk w' bo (fs.setIfInBounds 5 v) 45 ∧ w'.ownsRow 0 9 1 v (qit qt1 k t).1.length ((qit qt1 k t).1.map str) ∧ From W.heap.size v ∧ Chg [bt, bo] W w')
    (fun k => (qit qt1 k t).2) W (fun cs w => by kernel_rfl)
    ⟨.slice none 0 0, ht, by rw [hself]; exact ho, World.ownsRow_nil _ _ _ _, From.nil _, Chg.refl _ _⟩ hn (fun k w' h => by obtain ⟨_, h, _⟩ := h; exact h)
    (fun k w' hk hb hi => by
      obtain ⟨v, hr, hx, ho, hfr, hc⟩ := hi
      have hcount := qit_count (p := qt1) step_t1.bad step_t1.less t k hb
      have hones := qit_ones step_t1 t k
      refine (cname_any b4 b5 bt bo _ _ v _ _ w' (hcap.kept hc (by simp; exact ⟨hcap.n2, hcap.n3⟩) (by simp; exact ⟨hcap.n4, hcap.n5⟩)) ⟨hfr.notin hb4, hfr.notin hb5, hfr.notin hbt, hfr.notin hbo⟩ hr hx (by simp [hsz]) ho (by omega) (by omega)).mono ?_
      rintro _ w2 ⟨rfl, v2, hr2, hx2, ho2, hc2, hm2⟩
      refine ⟨rfl, v2, hr2, by rw [Array.setIfInBounds_setIfInBounds] at hx2; exact hx2, ?_, hfr.moved hm2 hc.size, hc.trans hc2 (fun x hx => ?_)⟩
      · rw [qit]
        have e : (qt1 (qit qt1 k t).2).1 = [(qtext (qit qt1 k t).2).1] := rfl
        rw [e, List.length_append, List.map_append]; exact ho2
      · simp only [List.mem_cons] at hx
        rcases hx with h | h | h
        · exact .inl (by simp [h])
        · exact .inl (by simp [h])
        · exact .inr (hfr _ h))).mono ?_
  rintro _ w6 ⟨rfl, k, hk, hkn, hkb, v, hr, hx, ho, hfr, hc⟩
  have hq := qrun_of qt1 k n.toNat t hk hkn hkb
  rw [hq] at hr ho
  exact ⟨rfl, v, hr, hx, ho, hfr, hc⟩

theorem pent_any (b4 b5 bt bo : Nat) (n : Int) (t : TK) (fs : Array Value) (W : World) (hcap : Caps W b4 b5 bt bo) (ht : Tkr W bt t) (ho : Blk W bo fs 45) (hsz : 4 < fs.size) (hf : fs[4]? = some (.slice none 0 0)) (hl : t.s.length ≤ 1099511627776) (hn : I64 n) :
    Calls Tryz.prog 37 #[.pointer (some ⟨bt, 0, none⟩), .int .i64 n, .func (.func 44) #[] #[.pointer (some ⟨b4, 0, none⟩), .pointer (some ⟨b5, 0, none⟩)]] W
      (fun e w' => e = .returned (.tuple #[]) ∧ ∃ v, Tkr w' bt (qrun qent1 n.toNat t).2 ∧ Blk w' bo (fs.setIfInBounds 4 v) 45 ∧ w'.ownsRow 0 47 3 v (qrun qent1 n.toNat t).1.length ((qrun qent1 n.toNat t).1.flatMap EntD.cells) ∧ From W.heap.size v ∧ Chg [bt, bo] W w') := by
  have hbt : bt < W.heap.size := ht.lt
  have hbo : bo < W.heap.size := ho.lt
  have hb4 : b4 < W.heap.size := lt_of_cell hcap.c4
  have hb5 : b5 < W.heap.size := lt_of_cell hcap.c5
  have hself : fs.setIfInBounds 4 (.slice none 0 0) = fs := by
    apply Array.ext (by simp)
    intro i h1 h2
    rw [Array.getElem_setIfInBounds]
    split
    · rename_i h; subst h
      rw [Array.getElem?_eq_getElem h2] at hf
      exact (Option.some.inj hf).symm
    · rfl
  refine (ttimes_any bt n 44 #[.pointer (some ⟨b4, 0, none⟩), .pointer (some ⟨b5, 0, none⟩)]
    (fun k w' => ∃ v, Tkr w' bt (qit qent1 k t).2 ∧ Blk w' bo (fs.setIfInBounds 4 v) 45 ∧ w'.ownsRow 0 47 3 v (qit qent1 k t).1.length ((qit qent1 k t).1.flatMap EntD.cells) ∧ From W.heap.size v ∧ Chg [bt, bo] W w')
    (fun k => (qit qent1 k t).2) W (fun cs w => by kernel_rfl)
    ⟨.slice none 0 0, ht, by rw [hself]; exact ho, World.ownsRow_nil _ _ _ _, From.nil _, Chg.refl _ _⟩ hn (fun k w' h => by obtain ⟨_, h, _⟩ := h; exact h)
    (fun k w' hk hb hi => by
      obtain ⟨v, hr, hx, ho, hfr, hc⟩ := hi
      have hcount := qit_count (p := qent1) step_ent.bad step_ent.less t k hb
      have hones := qit_ones step_ent t k
      refine (cent_any b4 b5 bt bo _ _ v _ _ w' (hcap.kept hc (by simp; exact ⟨hcap.n2, hcap.n3⟩) (by simp; exact ⟨hcap.n4, hcap.n5⟩)) ⟨hfr.notin hb4, hfr.notin hb5, hfr.notin hbt, hfr.notin hbo⟩ hr hx (by simp [hsz]) ho (by omega) (by omega)).mono ?_
      rintro _ w2 ⟨rfl, v2, hr2, hx2, ho2, hc2, hm2⟩
      refine ⟨rfl, v2, hr2, by rw [Array.setIfInBounds_setIfInBounds] at hx2; exact hx2, ?_, hfr.moved hm2 hc.size, hc.trans hc2 (fun x hx => ?_)⟩
      · rw [qit]
        have e : (qent1 (qit qent1 k t).2).1 = [(qent (qit qent1 k t).2).1] := rfl
        rw [e, List.length_append, List.flatMap_append, List.flatMap_cons, List.flatMap_nil, List.append_nil]; exact ho2
      · simp only [List.mem_cons] at hx
        rcases hx with h | h | h
        · exact .inl (by simp [h])
        · exact .inl (by simp [h])
        · exact .inr (hfr _ h))).mono ?_
  rintro _ w6 ⟨rfl, k, hk, hkn, hkb, v, hr, hx, ho, hfr, hc⟩
  have hq := qrun_of qent1 k n.toNat t hk hkn hkb
  rw [hq] at hr ho
  exact ⟨rfl, v, hr, hx, ho, hfr, hc⟩

theorem pinst_any (b4 b5 bt bo : Nat) (n : Int) (t : TK) (fs : Array Value) (W : World) (hcap : Caps W b4 b5 bt bo) (ht : Tkr W bt t) (ho : Blk W bo fs 45) (hsz : 6 < fs.size) (hf : fs[6]? = some (.slice none 0 0)) (hl : t.s.length ≤ 1099511627776) (hn : I64 n) :
    Calls Tryz.prog 37 #[.pointer (some ⟨bt, 0, none⟩), .int .i64 n, .func (.func 45) #[] #[.pointer (some ⟨b4, 0, none⟩), .pointer (some ⟨b5, 0, none⟩)]] W
      (fun e w' => e = .returned (.tuple #[]) ∧ ∃ v, Tkr w' bt (qrun qinst1 n.toNat t).2 ∧ Blk w' bo (fs.setIfInBounds 6 v) 45 ∧ w'.ownsRow 0 49 3 v (qrun qinst1 n.toNat t).1.length ((qrun qinst1 n.toNat t).1.flatMap InstD.cells) ∧ From W.heap.size v ∧ Chg [bt, bo] W w') := by
  have hbt : bt < W.heap.size := ht.lt
  have hbo : bo < W.heap.size := ho.lt
  have hb4 : b4 < W.heap.size := lt_of_cell hcap.c4
  have hb5 : b5 < W.heap.size := lt_of_cell hcap.c5
  have hself : fs.setIfInBounds 6 (.slice none 0 0) = fs := by
    apply Array.ext (by simp)
    intro i h1 h2
    rw [Array.getElem_setIfInBounds]
    split
    · rename_i h; subst h
      rw [Array.getElem?_eq_getElem h2] at hf
      exact (Option.some.inj hf).symm
    · rfl
  refine (ttimes_any bt n 45 #[.pointer (some ⟨b4, 0, none⟩), .pointer (some ⟨b5, 0, none⟩)]
    (fun k w' => ∃ v, Tkr w' bt (qit qinst1 k t).2 ∧ Blk w' bo (fs.setIfInBounds 6 v) 45 ∧ w'.ownsRow 0 49 3 v (qit qinst1 k t).1.length ((qit qinst1 k t).1.flatMap InstD.cells) ∧ From W.heap.size v ∧ Chg [bt, bo] W w')
    (fun k => (qit qinst1 k t).2) W (fun cs w => by kernel_rfl)
    ⟨.slice none 0 0, ht, by rw [hself]; exact ho, World.ownsRow_nil _ _ _ _, From.nil _, Chg.refl _ _⟩ hn (fun k w' h => by obtain ⟨_, h, _⟩ := h; exact h)
    (fun k w' hk hb hi => by
      obtain ⟨v, hr, hx, ho, hfr, hc⟩ := hi
      have hcount := qit_count (p := qinst1) step_inst.bad step_inst.less t k hb
      have hones := qit_ones step_inst t k
      refine (cinst_any b4 b5 bt bo _ _ v _ _ w' (hcap.kept hc (by simp; exact ⟨hcap.n2, hcap.n3⟩) (by simp; exact ⟨hcap.n4, hcap.n5⟩)) ⟨hfr.notin hb4, hfr.notin hb5, hfr.notin hbt, hfr.notin hbo⟩ hr hx (by simp [hsz]) ho (by omega) (by omega)).mono ?_
      rintro _ w2 ⟨rfl, v2, hr2, hx2, ho2, hc2, hm2⟩
      refine ⟨rfl, v2, hr2, by rw [Array.setIfInBounds_setIfInBounds] at hx2; exact hx2, ?_, hfr.moved hm2 hc.size, hc.trans hc2 (fun x hx => ?_)⟩
      · rw [qit]
        have e : (qinst1 (qit qinst1 k t).2).1 = [(qinst (qit qinst1 k t).2).1] := rfl
        rw [e, List.length_append, List.flatMap_append, List.flatMap_cons, List.flatMap_nil, List.append_nil]; exact ho2
      · simp only [List.mem_cons] at hx
        rcases hx with h | h | h
        · exact .inl (by simp [h])
        · exact .inl (by simp [h])
        · exact .inr (hfr _ h))).mono ?_
  rintro _ w6 ⟨rfl, k, hk, hkn, hkb, v, hr, hx, ho, hfr, hc⟩
  have hq := qrun_of qinst1 k n.toNat t hk hkn hkb
  rw [hq] at hr ho
  exact ⟨rfl, v, hr, hx, ho, hfr, hc⟩

theorem puse_any (b4 b5 bt bo : Nat) (n : Int) (t : TK) (fs : Array Value) (W : World) (hcap : Caps W b4 b5 bt bo) (ht : Tkr W bt t) (ho : Blk W bo fs 45) (hsz : 2 < fs.size) (hf : fs[2]? = some (.slice none 0 0)) (hl : t.s.length ≤ 1099511627776) (hn : I64 n) :
    Calls Tryz.prog 37 #[.pointer (some ⟨bt, 0, none⟩), .int .i64 n, .func (.func 40) #[] #[.pointer (some ⟨b4, 0, none⟩), .pointer (some ⟨b5, 0, none⟩)]] W
      (fun e w' => e = .returned (.tuple #[]) ∧ ∃ v ms, Tkr w' bt (qrun quse1 n.toNat t).2 ∧ Blk w' bo (fs.setIfInBounds 2 v) 45 ∧ w'.ownsRow 0 56 3 v ms.length (ms.flatMap UseM.cells) ∧ ms.map (·.u) = (qrun quse1 n.toNat t).1 ∧ UsesIn W.heap.size w' v ms ∧ From W.heap.size v ∧ Chg [bt, bo] W w') := by
  have hbt : bt < W.heap.size := ht.lt
  have hbo : bo < W.heap.size := ho.lt
  have hb4 : b4 < W.heap.size := lt_of_cell hcap.c4
  have hb5 : b5 < W.heap.size := lt_of_cell hcap.c5
  have hself : fs.setIfInBounds 2 (.slice none 0 0) = fs := by
    apply Array.ext (by simp)
    intro i h1 h2
    rw [Array.getElem_setIfInBounds]
    split
    · rename_i h; subst h
      rw [Array.getElem?_eq_getElem h2] at hf
      exact (Option.some.inj hf).symm
    · rfl
  refine (ttimes_any bt n 40 #[.pointer (some ⟨b4, 0, none⟩), .pointer (some ⟨b5, 0, none⟩)]
    (fun k w' => ∃ v ms, Tkr w' bt (qit quse1 k t).2 ∧ Blk w' bo (fs.setIfInBounds 2 v) 45 ∧ w'.ownsRow 0 56 3 v ms.length (ms.flatMap UseM.cells) ∧ ms.map (·.u) = (qit quse1 k t).1 ∧ UsesIn W.heap.size w' v ms ∧ From W.heap.size v ∧ Chg [bt, bo] W w')
    (fun k => (qit quse1 k t).2) W (fun cs w => by kernel_rfl)
    ⟨.slice none 0 0, [], ht, by rw [hself]; exact ho, World.ownsRow_nil _ _ _ _, rfl, (fun _ h => by cases h), From.nil _, Chg.refl _ _⟩ hn (fun k w' h => by obtain ⟨_, _, h, _⟩ := h; exact h)
    (fun k w' hk hb hi => by
      obtain ⟨v, ms, hr, hx, ho, hms, hin, hfr, hc⟩ := hi
      have hcount := qit_count (p := quse1) step_use.bad step_use.less t k hb
      have hones := qit_ones step_use t k
      have hml : ms.length = (qit quse1 k t).1.length := by rw [← hms, List.length_map]
      refine (cuse_any b4 b5 bt bo _ _ v _ _ w' (hcap.kept hc (by simp; exact ⟨hcap.n2, hcap.n3⟩) (by simp; exact ⟨hcap.n4, hcap.n5⟩)) ⟨hfr.notin hb4, hfr.notin hb5, hfr.notin hbt, hfr.notin hbo⟩ hr hx (by simp [hsz]) ho (by omega) (by omega)).mono ?_
      rintro _ w2 ⟨rfl, v2, a, c, hr2, hx2, ho2, hc2, hm2, hat, hbl⟩
      refine ⟨rfl, v2, ms ++ [⟨(quse (qit quse1 k t).2).1, a, c⟩], hr2, by rw [Array.setIfInBounds_setIfInBounds] at hx2; exact hx2, ?_, ?_, ?_, hfr.moved hm2 hc.size, hc.trans hc2 (fun x hx => ?_)⟩
      · rw [List.length_append, List.flatMap_append, List.flatMap_cons, List.flatMap_nil, List.append_nil]; exact ho2
      · rw [List.map_append, hms, qit]; rfl
      · intro m hm
        rcases List.mem_append.1 hm with h | h
        · exact uses_kept hin hc2 (fun x hx => by
            simp only [List.mem_cons] at hx
            rcases hx with e | e | e
            · exact .inl (by omega)
            · exact .inl (by omega)
            · exact .inr (.inl e)) hm2 m h
        · rw [List.mem_singleton] at h
          subst h
          refine ⟨hat, fun q hq => ?_⟩
          obtain ⟨g1, g2, g3⟩ := hbl q hq
          have := hc.size
          exact ⟨g3, by omega, g2⟩
      · simp only [List.mem_cons] at hx
        rcases hx with h | h | h
        · exact .inl (by simp [h])
        · exact .inl (by simp [h])
        · exact .inr (hfr _ h))).mono ?_
  rintro _ w6 ⟨rfl, k, hk, hkn, hkb, v, ms, hr, hx, ho, hms, hin, hfr, hc⟩
  have hq := qrun_of quse1 k n.toNat t hk hkn hkb
  rw [hq] at hr hms
  exact ⟨rfl, v, ms, hr, hx, ho, hms, hin, hfr, hc⟩
end Go.Proofs.YtjgfclhempjinaaGreatDoor
