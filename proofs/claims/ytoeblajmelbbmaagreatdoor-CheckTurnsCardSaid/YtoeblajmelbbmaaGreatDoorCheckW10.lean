/- Lists of procedures, and of variables: a copy; turned. -/
import Derived.Test.YtoeblajmelbbmaaGreatDoorCheckW9
namespace Go.Mq.Check
open Go Go.RowKit Go.Mq Go.Mq.Tree Go.Mq.Sym
/-- Behind m swaps. -/
def Mid {α : Type} (m : Nat) (l0 l : List α) : Prop := l.length = l0.length ∧ ∀ t, t < l0.length → l[t]? = if t < m ∨ l0.length ≤ m + t then l0[l0.length - 1 - t]? else l0[t]?
theorem Mid.start {α : Type} (l : List α) : Mid 0 l l := ⟨rfl, fun t ht => by rw [if_neg (by omega)]⟩
theorem Mid.swap {α : Type} {m j : Nat} {l0 l : List α} {a b : α} (h : Mid m l0 l) (hm : m < j) (hj : j + m + 1 = l0.length) (ha : l[m]? = some a) (hb : l[j]? = some b) : Mid (m + 1) l0 ((l.set m b).set j a) := by
  obtain ⟨h1, h2⟩ := h
  refine ⟨by simp [h1], fun t ht => ?_⟩
  have ha' := h2 m (by omega)
  have hb' := h2 j (by omega)
  rw [if_neg (by omega), ha] at ha'
  rw [if_neg (by omega), hb] at hb'
  rw [List.getElem?_set]
  by_cases ht1 : j = t
  · subst ht1
    rw [if_pos rfl, if_pos (by simp; omega), if_pos (by omega), ha', show l0.length - 1 - j = m by omega]
  · rw [if_neg ht1, List.getElem?_set]
    by_cases ht2 : m = t
    · subst ht2
      rw [if_pos rfl, if_pos (by omega), if_pos (by omega), hb', show l0.length - 1 - m = j by omega]
    · rw [if_neg ht2, h2 t ht]
      by_cases hc : t < m ∨ l0.length ≤ m + t
      · rw [if_pos hc, if_pos (by omega)]
      · rw [if_neg hc, if_neg (by omega)]
theorem Mid.done {α : Type} {m : Nat} {l0 l : List α} (h : Mid m l0 l) (hm : l0.length ≤ m + m + 1) : l = l0.reverse := by
  obtain ⟨h1, h2⟩ := h
  apply List.ext_getElem?
  intro t
  by_cases ht : t < l0.length
  · rw [h2 t ht, List.getElem?_reverse ht]
    by_cases hc : t < m ∨ l0.length ≤ m + t
    · rw [if_pos hc]
    · rw [if_neg hc, show l0.length - 1 - t = t by omega]
  · rw [List.getElem?_eq_none (by omega), List.getElem?_eq_none (by simp; omega)]
/-- Rows of d cells each, one behind the other one, from a block's beginning on. -/
def RowsBlk (w : World) (g : Nat) (t : TypeId) (d : Nat) (rs : List (List Value)) : Prop := ∃ cur, Blk w g cur t ∧ rs.length * d ≤ cur.size ∧ ∀ k r, rs[k]? = some r → r.length = d ∧ ∀ i v, r[i]? = some v → cur[k * d + i]? = some v
section
variable {w w' : World} {g d : Nat} {t : TypeId} {rs : List (List Value)}
theorem RowsBlk.kept {S : List Nat} (h : RowsBlk w g t d rs) (hc : Chg S w w') (hn : g ∉ S) : RowsBlk w' g t d rs := by
  obtain ⟨cur, hb, hs, hc'⟩ := h
  exact ⟨cur, hb.kept hc hn, hs, hc'⟩
theorem RowsBlk.lt (h : RowsBlk w g t d rs) : g < w.heap.size := by
  obtain ⟨cur, hb, _, _⟩ := h
  exact hb.lt
theorem RowsBlk.frozen (h : RowsBlk w g t d rs) (i : Nat) : w.frozen? ⟨g, i, none⟩ = false := by
  obtain ⟨cur, hb, _, _⟩ := h
  exact hb.frozen i
theorem RowsBlk.cell (h : RowsBlk w g t d rs) {k : Nat} {r : List Value} (hk : rs[k]? = some r) {i : Nat} {v : Value} (hi : r[i]? = some v) : w.cell? ⟨g, k * d + i, none⟩ = some v := by
  obtain ⟨cur, hb, _, hc⟩ := h
  exact hb.cell _ _ ((hc k r hk).2 i v hi)
theorem flat_at {d : Nat} : ∀ {rs : List (List Value)} {k : Nat} {r : List Value}, (∀ r ∈ rs, r.length = d) → rs[k]? = some r → ∀ i v, r[i]? = some v → rs.flatten[k * d + i]? = some v
  | [], _, _, _, hk, _, _, _ => by simp at hk
  | y :: rs, 0, r, hd, hk, i, v, hi => by
    simp at hk; subst hk
    have hl := (List.getElem?_eq_some_iff.1 hi).1
    rw [List.flatten_cons, Nat.zero_mul, Nat.zero_add, List.getElem?_append_left hl]
    exact hi
  | y :: rs, k + 1, r, hd, hk, i, v, hi => by
    have hy := hd y (by simp)
    rw [List.flatten_cons, List.getElem?_append_right (by rw [hy, Nat.add_mul]; omega), hy, show (k + 1) * d + i - d = k * d + i by rw [Nat.add_mul]; omega]
    exact flat_at (fun r hr => hd r (by simp [hr])) (by simpa using hk) i v hi
theorem flat_len {d : Nat} : ∀ {rs : List (List Value)}, (∀ r ∈ rs, r.length = d) → rs.flatten.length = rs.length * d
  | [], _ => by simp
  | y :: rs, hd => by rw [List.flatten_cons, List.length_append, flat_len (fun r hr => hd r (by simp [hr])), hd y (by simp), List.length_cons, Nat.add_mul]; omega
/-- The element and the cell within it. -/
theorem flat_inv {d : Nat} (hd0 : 0 < d) {rs : List (List Value)} (hd : ∀ r ∈ rs, r.length = d) {i : Nat} {v : Value} (h : rs.flatten[i]? = some v) : ∃ r, rs[i / d]? = some r ∧ r[i % d]? = some v := by
  have hl := (List.getElem?_eq_some_iff.1 h).1
  rw [flat_len hd] at hl
  have hk : i / d < rs.length := by rw [Nat.div_lt_iff_lt_mul hd0]; exact hl
  have hr : rs[i / d]? = some rs[i / d] := List.getElem?_eq_getElem hk
  have hrd := hd _ (List.getElem_mem hk)
  have hm : i % d < (rs[i / d]).length := by rw [hrd]; exact Nat.mod_lt _ hd0
  refine ⟨_, hr, ?_⟩
  have := flat_at hd hr (i % d) _ (List.getElem?_eq_getElem hm)
  rw [show i / d * d + i % d = i by rw [Nat.mul_comm]; exact Nat.div_add_mod i d, h] at this
  rw [List.getElem?_eq_getElem hm]
  exact this.symm
theorem RowsBlk.row {F : Nat → Prop} (h : RowsBlk w g t d rs) (hd0 : 0 < d) (hd : ∀ r ∈ rs, r.length = d) (hF : F g) : Row w F (some ⟨g, 0, none⟩) rs.flatten := by
  refine ⟨fun _ => ⟨g, 0, rfl, fun i v hv => ?_⟩, fun _ p hp => by cases hp; exact hF⟩
  obtain ⟨r, hr, hi⟩ := flat_inv hd0 hd hv
  have := h.cell hr hi
  rw [show i / d * d + i % d = i by rw [Nat.mul_comm]; exact Nat.div_add_mod i d] at this
  rw [Nat.zero_add]; exact this
/-- What an append hands back, as rows. -/
theorem rows_of_owns {v : Value} (h : w.ownsRow 0 t d v rs.length rs.flatten) (hd : ∀ r ∈ rs, r.length = d) : (v = nils ∧ rs = []) ∨ ∃ g c, v = .slice (some ⟨g, 0, none⟩) rs.length c ∧ rs.length ≤ c ∧ RowsBlk w g t d rs := by
  rcases h.2 with ⟨rfl, hn⟩ | ⟨g, cap, cur, rfl, _, hg, hnc, _, hcs, htake⟩
  · exact .inl ⟨rfl, List.eq_nil_of_length_eq_zero hn⟩
  · refine .inr ⟨g, cap, rfl, hnc, cur, hg, by rw [hcs]; exact Nat.mul_le_mul_right _ hnc, fun k r hk => ⟨hd r (List.mem_of_getElem? hk), fun i v hi => ?_⟩⟩
    have h1 := flat_at hd hk i v hi
    rw [← htake] at h1
    rw [List.getElem?_take] at h1
    split at h1
    · simpa using h1
    · cases h1
theorem RowsBlk.put4 (h : RowsBlk w g t 4 rs) (k : Nat) (hk : k < rs.length) (v0 v1 v2 v3 : Value) : RowsBlk ((((w.setCell ⟨g, k * 4, none⟩ v0).setCell ⟨g, k * 4 + 1, none⟩ v1).setCell ⟨g, k * 4 + 2, none⟩ v2).setCell ⟨g, k * 4 + 3, none⟩ v3) g t 4 (rs.set k [v0, v1, v2, v3]) := by
  obtain ⟨cur, hb, hs, hc⟩ := h
  refine ⟨_, (((hb.set _ _).set _ _).set _ _).set _ _, by simpa using hs, fun i r hi => ?_⟩
  by_cases he : i = k
  · subst he
    rw [List.getElem?_set_self hk] at hi
    cases hi
    refine ⟨rfl, fun j v hj => ?_⟩
    have hj6 : j < 4 := (List.getElem?_eq_some_iff.1 hj).1
    have hz : i * 4 + 4 ≤ cur.size := by omega
    have h0 : i * 4 + 0 < cur.size := by omega
    have h1 : i * 4 + 1 < cur.size := by omega
    have h2 : i * 4 + 2 < cur.size := by omega
    have h3 : i * 4 + 3 < cur.size := by omega
    match j, hj6, hj with
    | 0, _, hj => simp at hj; subst hj; simp [show i * 4 < cur.size by omega]
    | 1, _, hj => simp at hj; subst hj; simp [h1]
    | 2, _, hj => simp at hj; subst hj; simp [h2]
    | 3, _, hj => simp at hj; subst hj; simp [h3]
  · rw [List.getElem?_set_ne (Ne.symm he)] at hi
    obtain ⟨hl, hcc⟩ := hc i r hi
    refine ⟨hl, fun j v hj => ?_⟩
    have hj6 : j < 4 := by have := (List.getElem?_eq_some_iff.1 hj).1; omega
    rw [Array.getElem?_setIfInBounds_ne (by omega), Array.getElem?_setIfInBounds_ne (by omega), Array.getElem?_setIfInBounds_ne (by omega), Array.getElem?_setIfInBounds_ne (by omega)]
    exact hcc j v hj
theorem put4_chg (w : World) (g k : Nat) (v0 v1 v2 v3 : Value) : Chg [g] w ((((w.setCell ⟨g, k * 4, none⟩ v0).setCell ⟨g, k * 4 + 1, none⟩ v1).setCell ⟨g, k * 4 + 2, none⟩ v2).setCell ⟨g, k * 4 + 3, none⟩ v3) :=
  (((Chg.set1 _ _ _ _).then (Chg.set1 _ _ _ _)).then (Chg.set1 _ _ _ _)).then (Chg.set1 _ _ _ _)
theorem RowsBlk.swap4 (h : RowsBlk w g t 4 rs) (i j : Nat) (hi : i < rs.length) (hj : j < rs.length) (v0 v1 v2 v3 u0 u1 u2 u3 : Value) :
    RowsBlk ((((((((w.setCell ⟨g, i * 4, none⟩ v0).setCell ⟨g, i * 4 + 1, none⟩ v1).setCell ⟨g, i * 4 + 2, none⟩ v2).setCell ⟨g, i * 4 + 3, none⟩ v3).setCell ⟨g, j * 4, none⟩ u0).setCell ⟨g, j * 4 + 1, none⟩ u1).setCell ⟨g, j * 4 + 2, none⟩ u2).setCell ⟨g, j * 4 + 3, none⟩ u3) g t 4 ((rs.set i [v0, v1, v2, v3]).set j [u0, u1, u2, u3]) ∧ Chg [g] w ((((((((w.setCell ⟨g, i * 4, none⟩ v0).setCell ⟨g, i * 4 + 1, none⟩ v1).setCell ⟨g, i * 4 + 2, none⟩ v2).setCell ⟨g, i * 4 + 3, none⟩ v3).setCell ⟨g, j * 4, none⟩ u0).setCell ⟨g, j * 4 + 1, none⟩ u1).setCell ⟨g, j * 4 + 2, none⟩ u2).setCell ⟨g, j * 4 + 3, none⟩ u3) :=
  ⟨(h.put4 i hi v0 v1 v2 v3).put4 j (by simpa using hj) u0 u1 u2 u3, (put4_chg _ _ _ _ _ _ _ ).then (put4_chg _ _ _ _ _ _ _ )⟩
theorem RowsBlk.put6 (h : RowsBlk w g t 6 rs) (k : Nat) (hk : k < rs.length) (v0 v1 v2 v3 v4 v5 : Value) : RowsBlk ((((((w.setCell ⟨g, k * 6, none⟩ v0).setCell ⟨g, k * 6 + 1, none⟩ v1).setCell ⟨g, k * 6 + 2, none⟩ v2).setCell ⟨g, k * 6 + 3, none⟩ v3).setCell ⟨g, k * 6 + 4, none⟩ v4).setCell ⟨g, k * 6 + 5, none⟩ v5) g t 6 (rs.set k [v0, v1, v2, v3, v4, v5]) := by
  obtain ⟨cur, hb, hs, hc⟩ := h
  refine ⟨_, (((((hb.set _ _).set _ _).set _ _).set _ _).set _ _).set _ _, by simpa using hs, fun i r hi => ?_⟩
  by_cases he : i = k
  · subst he
    rw [List.getElem?_set_self hk] at hi
    cases hi
    refine ⟨rfl, fun j v hj => ?_⟩
    have hj6 : j < 6 := (List.getElem?_eq_some_iff.1 hj).1
    have hz : i * 6 + 6 ≤ cur.size := by omega
    have h0 : i * 6 + 0 < cur.size := by omega
    have h1 : i * 6 + 1 < cur.size := by omega
    have h2 : i * 6 + 2 < cur.size := by omega
    have h3 : i * 6 + 3 < cur.size := by omega
    have h4 : i * 6 + 4 < cur.size := by omega
    have h5 : i * 6 + 5 < cur.size := by omega
    match j, hj6, hj with
    | 0, _, hj => simp at hj; subst hj; simp [show i * 6 < cur.size by omega]
    | 1, _, hj => simp at hj; subst hj; simp [h1]
    | 2, _, hj => simp at hj; subst hj; simp [h2]
    | 3, _, hj => simp at hj; subst hj; simp [h3]
    | 4, _, hj => simp at hj; subst hj; simp [h4]
    | 5, _, hj => simp at hj; subst hj; simp [h5]
  · rw [List.getElem?_set_ne (Ne.symm he)] at hi
    obtain ⟨hl, hcc⟩ := hc i r hi
    refine ⟨hl, fun j v hj => ?_⟩
    have hj6 : j < 6 := by have := (List.getElem?_eq_some_iff.1 hj).1; omega
    rw [Array.getElem?_setIfInBounds_ne (by omega), Array.getElem?_setIfInBounds_ne (by omega), Array.getElem?_setIfInBounds_ne (by omega), Array.getElem?_setIfInBounds_ne (by omega), Array.getElem?_setIfInBounds_ne (by omega), Array.getElem?_setIfInBounds_ne (by omega)]
    exact hcc j v hj
theorem put6_chg (w : World) (g k : Nat) (v0 v1 v2 v3 v4 v5 : Value) : Chg [g] w ((((((w.setCell ⟨g, k * 6, none⟩ v0).setCell ⟨g, k * 6 + 1, none⟩ v1).setCell ⟨g, k * 6 + 2, none⟩ v2).setCell ⟨g, k * 6 + 3, none⟩ v3).setCell ⟨g, k * 6 + 4, none⟩ v4).setCell ⟨g, k * 6 + 5, none⟩ v5) :=
  (((((Chg.set1 _ _ _ _).then (Chg.set1 _ _ _ _)).then (Chg.set1 _ _ _ _)).then (Chg.set1 _ _ _ _)).then (Chg.set1 _ _ _ _)).then (Chg.set1 _ _ _ _)
theorem RowsBlk.swap6 (h : RowsBlk w g t 6 rs) (i j : Nat) (hi : i < rs.length) (hj : j < rs.length) (v0 v1 v2 v3 v4 v5 u0 u1 u2 u3 u4 u5 : Value) :
    RowsBlk ((((((((((((w.setCell ⟨g, i * 6, none⟩ v0).setCell ⟨g, i * 6 + 1, none⟩ v1).setCell ⟨g, i * 6 + 2, none⟩ v2).setCell ⟨g, i * 6 + 3, none⟩ v3).setCell ⟨g, i * 6 + 4, none⟩ v4).setCell ⟨g, i * 6 + 5, none⟩ v5).setCell ⟨g, j * 6, none⟩ u0).setCell ⟨g, j * 6 + 1, none⟩ u1).setCell ⟨g, j * 6 + 2, none⟩ u2).setCell ⟨g, j * 6 + 3, none⟩ u3).setCell ⟨g, j * 6 + 4, none⟩ u4).setCell ⟨g, j * 6 + 5, none⟩ u5) g t 6 ((rs.set i [v0, v1, v2, v3, v4, v5]).set j [u0, u1, u2, u3, u4, u5]) ∧ Chg [g] w ((((((((((((w.setCell ⟨g, i * 6, none⟩ v0).setCell ⟨g, i * 6 + 1, none⟩ v1).setCell ⟨g, i * 6 + 2, none⟩ v2).setCell ⟨g, i * 6 + 3, none⟩ v3).setCell ⟨g, i * 6 + 4, none⟩ v4).setCell ⟨g, i * 6 + 5, none⟩ v5).setCell ⟨g, j * 6, none⟩ u0).setCell ⟨g, j * 6 + 1, none⟩ u1).setCell ⟨g, j * 6 + 2, none⟩ u2).setCell ⟨g, j * 6 + 3, none⟩ u3).setCell ⟨g, j * 6 + 4, none⟩ u4).setCell ⟨g, j * 6 + 5, none⟩ u5) :=
  ⟨(h.put6 i hi v0 v1 v2 v3 v4 v5).put6 j (by simpa using hj) u0 u1 u2 u3 u4 u5, (put6_chg _ _ _ _ _ _ _ _ _ ).then (put6_chg _ _ _ _ _ _ _ _ _ )⟩
end
/-- The cells of a variable; of a procedure. -/
def IsG (r : List Value) : Prop := ∃ (nm : List UInt8) (p l : Int) (s : Bool), r = [str nm, .int .i64 p, .int .i64 l, .bool s]
def IsP (r : List Value) : Prop := ∃ (nm : List UInt8) (p : Int) (s : Bool) (a1 : Option Addr) (n1 k1 : Nat) (a2 : Option Addr) (n2 k2 : Nat) (a3 : Option Addr) (n3 k3 : Nat), r = [str nm, .int .i64 p, .bool s, .slice a1 n1 k1, .slice a2 n2 k2, .slice a3 n3 k3]
end Go.Mq.Check
namespace Go.Proofs.YtoeblajmelbbmaaGreatDoor
open Go Go.RowKit Go.Mq Go.Mq.Tree Go.Mq.Sym Go.Mq.Check
set_option maxRecDepth 100000
set_option maxHeartbeats 8000000
theorem infoGlobC : (Tryz.prog.info? 42).map (fun i => (i.zero, i.size, i.bytes)) = some (some (.agg #[.string ⟨#[]⟩, .int .i64 0, .int .i64 0, .bool false]), 4, 40) := by kernel_rfl
theorem infoProcC : (Tryz.prog.info? 39).map (fun i => (i.zero, i.size, i.bytes)) = some (some (.agg #[.string ⟨#[]⟩, .int .i64 0, .bool false, .slice none 0 0, .slice none 0 0, .slice none 0 0]), 6, 104) := by kernel_rfl
theorem cloneg_any (rs : List (List Value)) (hl : rs.length ≤ 1000) (hs : ∀ r ∈ rs, IsG r) (F : Nat → Prop) (a : Option Addr) (c : Nat) (w : World) (hrow : Row w F a rs.flatten) :
    Calls Tryz.prog 10 #[.slice a rs.length c] w (fun e w' => ∃ v', e = .returned v' ∧ w'.ownsRow 0 42 4 v' rs.length rs.flatten ∧ From w.heap.size v' ∧ Chg [] w w') := by
  have hd : ∀ r ∈ rs, r.length = 4 := fun r hr => by obtain ⟨_, _, _, _, rfl⟩ := hs r hr; rfl
  have hone : ∀ u ∈ rs.flatten, u.oneCell' = true := fun u hu => by
    obtain ⟨r, hr, hu⟩ := List.mem_flatten.1 hu
    obtain ⟨_, _, _, _, rfl⟩ := hs r hr
    simp at hu
    rcases hu with rfl | rfl | rfl | rfl <;> rfl
  have hfl := flat_len hd
  have hat := hrow.at_
  cases a with
  | none =>
    have hl0 : rs = [] := by
      rcases Nat.eq_zero_or_pos rs.flatten.length with h0 | h0
      · rw [hfl] at h0; exact List.eq_nil_of_length_eq_zero (by omega)
      · obtain ⟨_, _, he, _⟩ := hat h0; cases he
    subst hl0
    clear hrow hat hone hfl hd hs
    have hne : ∀ w, (binOp BinOp.eql 25 (.slice none 0 c) (.slice none 0 0)).run Tryz.prog w = .ok (.bool true) w := fun _ => rfl
    change Calls _ _ #[.slice none 0 c] _ _
    go_enter Tryz.func10, Tryz.ntmps10
    go_wp2_with fail
    go_ret
    exact ⟨_, rfl, World.ownsRow_nil _ _ _ _, From.nil _, Chg.refl _ _⟩
  | some q =>
    have hne : ∀ w, (binOp BinOp.eql 25 (.slice (some q) rs.length c) (.slice none 0 0)).run Tryz.prog w = .ok (.bool false) w := fun _ => rfl
    have hown : (w.alloc (.cells #[] 42)).ownsRow 0 42 4 (.slice (some ⟨w.heap.size, 0, none⟩) 0 0) 0 [] := ⟨rfl, .inr ⟨w.heap.size, 0, #[], rfl, Nat.zero_le _, heap_alloc_new w _, Nat.le_refl _, Nat.zero_le _, rfl, rfl⟩⟩
    have HOWN := Lib.hid hown
    have hca : Chg [] w (w.alloc (.cells #[] 42)) := (Chg.refl _ _).alloc _
    have HAT := Lib.hid ((hrow.kept hca (by simp)).at_)
    have HCA := Lib.hid hca; have HONE := Lib.hid hone; have HFL := Lib.hid hfl
    clear hrow hat hown hca hone hfl hd hs
    go_enter Tryz.func10, Tryz.ntmps10
    go_wp2_with (at_builtin; go_must (refine wpL_append_any rfl _ _ 25 rfl 42 _ 4 40 infoGlobC Tryz.underlying25 rfl (by decide) _ 0 [] rfl HOWN.out (some q) rs.length c rs.flatten rfl HFL.out HAT.out HONE.out ?_ ?_ ?_))
    · omega
    · unfold maxLen; omega
    · intro v' w' hown' hch' hmv'
      have HO := Lib.hid (show w'.ownsRow 0 42 4 v' rs.length rs.flatten by simpa using hown')
      have hf : From w.heap.size v' := fun g hg => by
        rcases hmv' g hg with h1 | h1
        · simp [blk] at h1; omega
        · simp at h1; omega
      have HF := Lib.hid hf
      have HC := Lib.hid (HCA.out.trans hch' (fun x hx => .inr (by simp [blk] at hx; omega)))
      clear hown' hch' hmv' hf
      go_wp2_with fail
      go_ret
      exact ⟨_, rfl, HO.out, HF.out, HC.out⟩
theorem revg_nil (w : World) : Calls Tryz.prog 12 #[nils] w (fun e w' => e = .returned (.tuple #[]) ∧ w' = w) := by
  go_enter Tryz.func12, Tryz.ntmps12
  go_wp2_with fail
  refine wp_loop_rounds 1 ?_
  rw [rounds_succ]
  go_wp2_with fail
  exact bodyPost_end (results_none rfl _ _ _) rfl ⟨rfl, rfl⟩
theorem revg_any (rs : List (List Value)) (hl : rs.length ≤ 1000) (hs : ∀ r ∈ rs, IsG r) (g c : Nat) (hc : rs.length ≤ c) (w : World) (h : RowsBlk w g 42 4 rs) :
    Calls Tryz.prog 12 #[.slice (some ⟨g, 0, none⟩) rs.length c] w (fun e w' => e = .returned (.tuple #[]) ∧ RowsBlk w' g 42 4 rs.reverse ∧ Chg [g] w w') := by
  have H := Lib.hid h; have HS := Lib.hid hs
  clear h hs
  go_enter Tryz.func12, Tryz.ntmps12
  go_wp2_with fail
  go_loopw [2, 3] (fun i j wr => ∃ (m : Nat) (l : List (List Value)), i = .int .i64 m ∧ j = .int .i64 ((rs.length : Int) - 1 - m) ∧ m ≤ rs.length ∧ Mid m rs l ∧ RowsBlk wr g 42 4 l ∧ (∀ r ∈ l, IsG r) ∧ Chg [g] w wr) (fun i _ _ => rs.length - (intOf i).toNat)
  case atStart => exact ⟨0, rs, rfl, by congr 1; first | omega | (simp; try omega), Nat.zero_le _, Mid.start rs, H.out, HS.out, Chg.refl _ _⟩
  case round =>
    obtain ⟨m, l, rfl, rfl, hm, hmid, hb, hsh, hch⟩ := hrel
    have HMID := Lib.hid hmid; have HB := Lib.hid hb; have HSH := Lib.hid hsh; have HC := Lib.hid hch
    have hll := hmid.1
    clear hmid hb hsh hch
    by_cases hlt : m + m + 1 < rs.length
    · obtain ⟨j, hj⟩ : ∃ j : Nat, (rs.length : Int) - 1 - m = j := ⟨rs.length - 1 - m, by omega⟩
      have hj2 : j + m + 1 = rs.length := by omega
      have hmj : m < j := by omega
      rw [hj]
      obtain ⟨ra, hra⟩ : ∃ r, l[m]? = some r := ⟨l[m]'(by omega), List.getElem?_eq_getElem (by omega)⟩
      obtain ⟨rb, hrb⟩ : ∃ r, l[j]? = some r := ⟨l[j]'(by omega), List.getElem?_eq_getElem (by omega)⟩
      obtain ⟨nmx, ppx, llx, ssx, rfl⟩ := HSH.out ra (List.mem_of_getElem? hra)
      obtain ⟨nmy, ppy, lly, ssy, rfl⟩ := HSH.out rb (List.mem_of_getElem? hrb)
      have hbd := HB.out
      have x0 : wr.cell? ⟨g, m * 4, none⟩ = _ := hbd.cell hra (i := 0) rfl
      have fx0 : wr.frozen? ⟨g, m * 4, none⟩ = _ := hbd.frozen _
      have x1 : wr.cell? ⟨g, m * 4 + 1, none⟩ = _ := hbd.cell hra (i := 1) rfl
      have fx1 : wr.frozen? ⟨g, m * 4 + 1, none⟩ = _ := hbd.frozen _
      have x2 : wr.cell? ⟨g, m * 4 + 2, none⟩ = _ := hbd.cell hra (i := 2) rfl
      have fx2 : wr.frozen? ⟨g, m * 4 + 2, none⟩ = _ := hbd.frozen _
      have x3 : wr.cell? ⟨g, m * 4 + 3, none⟩ = _ := hbd.cell hra (i := 3) rfl
      have fx3 : wr.frozen? ⟨g, m * 4 + 3, none⟩ = _ := hbd.frozen _
      have y0 : wr.cell? ⟨g, j * 4, none⟩ = _ := hbd.cell hrb (i := 0) rfl
      have fy0 : wr.frozen? ⟨g, j * 4, none⟩ = _ := hbd.frozen _
      have y1 : wr.cell? ⟨g, j * 4 + 1, none⟩ = _ := hbd.cell hrb (i := 1) rfl
      have fy1 : wr.frozen? ⟨g, j * 4 + 1, none⟩ = _ := hbd.frozen _
      have y2 : wr.cell? ⟨g, j * 4 + 2, none⟩ = _ := hbd.cell hrb (i := 2) rfl
      have fy2 : wr.frozen? ⟨g, j * 4 + 2, none⟩ = _ := hbd.frozen _
      have y3 : wr.cell? ⟨g, j * 4 + 3, none⟩ = _ := hbd.cell hrb (i := 3) rfl
      have fy3 : wr.frozen? ⟨g, j * 4 + 3, none⟩ = _ := hbd.frozen _
      have HMN := Lib.hid (HMID.out.swap hmj hj2 hra hrb)
      have HBD := Lib.hid hbd; have HRA := Lib.hid hra; have HRB := Lib.hid hrb
      have hjl : j < rs.length := by omega
      have hml : m < rs.length := by omega
      clear hbd hra hrb
      go_wp2_with fail
      go_region
      obtain ⟨hput, hpc⟩ := HBD.out.swap4 m j (by omega) (by omega) (str nmy) (.int .i64 ppy) (.int .i64 lly) (.bool ssy) (str nmx) (.int .i64 ppx) (.int .i64 llx) (.bool ssx)
      have HPUT := Lib.hid (hput.kept (Chg.refl [] _).drew (by simp))
      have HCP := Lib.hid (HC.out.then hpc).drew
      have HSN := Lib.hid (show ∀ r ∈ (l.set m [str nmy, .int .i64 ppy, .int .i64 lly, .bool ssy]).set j [str nmx, .int .i64 ppx, .int .i64 llx, .bool ssx], IsG r from fun r hr => by
        rcases List.mem_or_eq_of_mem_set hr with hr | rfl
        · rcases List.mem_or_eq_of_mem_set hr with hr | rfl
          · exact HSH.out r hr
          · exact HSH.out _ (List.mem_of_getElem? HRB.out)
        · exact HSH.out _ (List.mem_of_getElem? HRA.out))
      clear hput hpc
      go_wp2_with fail
      exact ⟨⟨m + 1, _, by go_num, by congr 1; first | omega | (simp; omega), by omega, HMN.out, HPUT.out, HSN.out, HCP.out⟩, by simp [intOf]; omega⟩
    · have hlz : ¬ ((m : Int) < (rs.length : Int) - 1 - m) := by omega
      have HMD := Lib.hid (show l = rs.reverse from HMID.out.done (by omega))
      go_wp2_with fail
      refine bodyPost_end (results_none rfl _ _ _) rfl ?_
      exact ⟨rfl, by rw [← HMD.out]; exact HB.out, HC.out⟩
theorem clonep_any (rs : List (List Value)) (hl : rs.length ≤ 1000) (hs : ∀ r ∈ rs, IsP r) (F : Nat → Prop) (a : Option Addr) (c : Nat) (w : World) (hrow : Row w F a rs.flatten) :
    Calls Tryz.prog 9 #[.slice a rs.length c] w (fun e w' => ∃ v', e = .returned v' ∧ w'.ownsRow 0 39 6 v' rs.length rs.flatten ∧ From w.heap.size v' ∧ Chg [] w w') := by
  have hd : ∀ r ∈ rs, r.length = 6 := fun r hr => by obtain ⟨_, _, _, _, _, _, _, _, _, _, _, _, rfl⟩ := hs r hr; rfl
  have hone : ∀ u ∈ rs.flatten, u.oneCell' = true := fun u hu => by
    obtain ⟨r, hr, hu⟩ := List.mem_flatten.1 hu
    obtain ⟨_, _, _, _, _, _, _, _, _, _, _, _, rfl⟩ := hs r hr
    simp at hu
    rcases hu with rfl | rfl | rfl | rfl | rfl | rfl <;> rfl
  have hfl := flat_len hd
  have hat := hrow.at_
  cases a with
  | none =>
    have hl0 : rs = [] := by
      rcases Nat.eq_zero_or_pos rs.flatten.length with h0 | h0
      · rw [hfl] at h0; exact List.eq_nil_of_length_eq_zero (by omega)
      · obtain ⟨_, _, he, _⟩ := hat h0; cases he
    subst hl0
    clear hrow hat hone hfl hd hs
    have hne : ∀ w, (binOp BinOp.eql 26 (.slice none 0 c) (.slice none 0 0)).run Tryz.prog w = .ok (.bool true) w := fun _ => rfl
    change Calls _ _ #[.slice none 0 c] _ _
    go_enter Tryz.func9, Tryz.ntmps9
    go_wp2_with fail
    go_ret
    exact ⟨_, rfl, World.ownsRow_nil _ _ _ _, From.nil _, Chg.refl _ _⟩
  | some q =>
    have hne : ∀ w, (binOp BinOp.eql 26 (.slice (some q) rs.length c) (.slice none 0 0)).run Tryz.prog w = .ok (.bool false) w := fun _ => rfl
    have hown : (w.alloc (.cells #[] 39)).ownsRow 0 39 6 (.slice (some ⟨w.heap.size, 0, none⟩) 0 0) 0 [] := ⟨rfl, .inr ⟨w.heap.size, 0, #[], rfl, Nat.zero_le _, heap_alloc_new w _, Nat.le_refl _, Nat.zero_le _, rfl, rfl⟩⟩
    have HOWN := Lib.hid hown
    have hca : Chg [] w (w.alloc (.cells #[] 39)) := (Chg.refl _ _).alloc _
    have HAT := Lib.hid ((hrow.kept hca (by simp)).at_)
    have HCA := Lib.hid hca; have HONE := Lib.hid hone; have HFL := Lib.hid hfl
    clear hrow hat hown hca hone hfl hd hs
    go_enter Tryz.func9, Tryz.ntmps9
    go_wp2_with (at_builtin; go_must (refine wpL_append_any rfl _ _ 26 rfl 39 _ 6 104 infoProcC Tryz.underlying26 rfl (by decide) _ 0 [] rfl HOWN.out (some q) rs.length c rs.flatten rfl HFL.out HAT.out HONE.out ?_ ?_ ?_))
    · omega
    · unfold maxLen; omega
    · intro v' w' hown' hch' hmv'
      have HO := Lib.hid (show w'.ownsRow 0 39 6 v' rs.length rs.flatten by simpa using hown')
      have hf : From w.heap.size v' := fun g hg => by
        rcases hmv' g hg with h1 | h1
        · simp [blk] at h1; omega
        · simp at h1; omega
      have HF := Lib.hid hf
      have HC := Lib.hid (HCA.out.trans hch' (fun x hx => .inr (by simp [blk] at hx; omega)))
      clear hown' hch' hmv' hf
      go_wp2_with fail
      go_ret
      exact ⟨_, rfl, HO.out, HF.out, HC.out⟩
theorem revp_nil (w : World) : Calls Tryz.prog 11 #[nils] w (fun e w' => e = .returned (.tuple #[]) ∧ w' = w) := by
  go_enter Tryz.func11, Tryz.ntmps11
  go_wp2_with fail
  refine wp_loop_rounds 1 ?_
  rw [rounds_succ]
  go_wp2_with fail
  exact bodyPost_end (results_none rfl _ _ _) rfl ⟨rfl, rfl⟩
theorem revp_any (rs : List (List Value)) (hl : rs.length ≤ 1000) (hs : ∀ r ∈ rs, IsP r) (g c : Nat) (hc : rs.length ≤ c) (w : World) (h : RowsBlk w g 39 6 rs) :
    Calls Tryz.prog 11 #[.slice (some ⟨g, 0, none⟩) rs.length c] w (fun e w' => e = .returned (.tuple #[]) ∧ RowsBlk w' g 39 6 rs.reverse ∧ Chg [g] w w') := by
  have H := Lib.hid h; have HS := Lib.hid hs
  clear h hs
  go_enter Tryz.func11, Tryz.ntmps11
  go_wp2_with fail
  go_loopw [2, 3] (fun i j wr => ∃ (m : Nat) (l : List (List Value)), i = .int .i64 m ∧ j = .int .i64 ((rs.length : Int) - 1 - m) ∧ m ≤ rs.length ∧ Mid m rs l ∧ RowsBlk wr g 39 6 l ∧ (∀ r ∈ l, IsP r) ∧ Chg [g] w wr) (fun i _ _ => rs.length - (intOf i).toNat)
  case atStart => exact ⟨0, rs, rfl, by congr 1; first | omega | (simp; try omega), Nat.zero_le _, Mid.start rs, H.out, HS.out, Chg.refl _ _⟩
  case round =>
    obtain ⟨m, l, rfl, rfl, hm, hmid, hb, hsh, hch⟩ := hrel
    have HMID := Lib.hid hmid; have HB := Lib.hid hb; have HSH := Lib.hid hsh; have HC := Lib.hid hch
    have hll := hmid.1
    clear hmid hb hsh hch
    by_cases hlt : m + m + 1 < rs.length
    · obtain ⟨j, hj⟩ : ∃ j : Nat, (rs.length : Int) - 1 - m = j := ⟨rs.length - 1 - m, by omega⟩
      have hj2 : j + m + 1 = rs.length := by omega
      have hmj : m < j := by omega
      rw [hj]
      obtain ⟨ra, hra⟩ : ∃ r, l[m]? = some r := ⟨l[m]'(by omega), List.getElem?_eq_getElem (by omega)⟩
      obtain ⟨rb, hrb⟩ : ∃ r, l[j]? = some r := ⟨l[j]'(by omega), List.getElem?_eq_getElem (by omega)⟩
      obtain ⟨nmx, ppx, ssx, a1x, n1x, k1x, a2x, n2x, k2x, a3x, n3x, k3x, rfl⟩ := HSH.out ra (List.mem_of_getElem? hra)
      obtain ⟨nmy, ppy, ssy, a1y, n1y, k1y, a2y, n2y, k2y, a3y, n3y, k3y, rfl⟩ := HSH.out rb (List.mem_of_getElem? hrb)
      have hbd := HB.out
      have x0 : wr.cell? ⟨g, m * 6, none⟩ = _ := hbd.cell hra (i := 0) rfl
      have fx0 : wr.frozen? ⟨g, m * 6, none⟩ = _ := hbd.frozen _
      have x1 : wr.cell? ⟨g, m * 6 + 1, none⟩ = _ := hbd.cell hra (i := 1) rfl
      have fx1 : wr.frozen? ⟨g, m * 6 + 1, none⟩ = _ := hbd.frozen _
      have x2 : wr.cell? ⟨g, m * 6 + 2, none⟩ = _ := hbd.cell hra (i := 2) rfl
      have fx2 : wr.frozen? ⟨g, m * 6 + 2, none⟩ = _ := hbd.frozen _
      have x3 : wr.cell? ⟨g, m * 6 + 3, none⟩ = _ := hbd.cell hra (i := 3) rfl
      have fx3 : wr.frozen? ⟨g, m * 6 + 3, none⟩ = _ := hbd.frozen _
      have x4 : wr.cell? ⟨g, m * 6 + 4, none⟩ = _ := hbd.cell hra (i := 4) rfl
      have fx4 : wr.frozen? ⟨g, m * 6 + 4, none⟩ = _ := hbd.frozen _
      have x5 : wr.cell? ⟨g, m * 6 + 5, none⟩ = _ := hbd.cell hra (i := 5) rfl
      have fx5 : wr.frozen? ⟨g, m * 6 + 5, none⟩ = _ := hbd.frozen _
      have y0 : wr.cell? ⟨g, j * 6, none⟩ = _ := hbd.cell hrb (i := 0) rfl
      have fy0 : wr.frozen? ⟨g, j * 6, none⟩ = _ := hbd.frozen _
      have y1 : wr.cell? ⟨g, j * 6 + 1, none⟩ = _ := hbd.cell hrb (i := 1) rfl
      have fy1 : wr.frozen? ⟨g, j * 6 + 1, none⟩ = _ := hbd.frozen _
      have y2 : wr.cell? ⟨g, j * 6 + 2, none⟩ = _ := hbd.cell hrb (i := 2) rfl
      have fy2 : wr.frozen? ⟨g, j * 6 + 2, none⟩ = _ := hbd.frozen _
      have y3 : wr.cell? ⟨g, j * 6 + 3, none⟩ = _ := hbd.cell hrb (i := 3) rfl
      have fy3 : wr.frozen? ⟨g, j * 6 + 3, none⟩ = _ := hbd.frozen _
      have y4 : wr.cell? ⟨g, j * 6 + 4, none⟩ = _ := hbd.cell hrb (i := 4) rfl
      have fy4 : wr.frozen? ⟨g, j * 6 + 4, none⟩ = _ := hbd.frozen _
      have y5 : wr.cell? ⟨g, j * 6 + 5, none⟩ = _ := hbd.cell hrb (i := 5) rfl
      have fy5 : wr.frozen? ⟨g, j * 6 + 5, none⟩ = _ := hbd.frozen _
      have HMN := Lib.hid (HMID.out.swap hmj hj2 hra hrb)
      have HBD := Lib.hid hbd; have HRA := Lib.hid hra; have HRB := Lib.hid hrb
      have hjl : j < rs.length := by omega
      have hml : m < rs.length := by omega
      clear hbd hra hrb
      go_wp2_with fail
      go_region
      obtain ⟨hput, hpc⟩ := HBD.out.swap6 m j (by omega) (by omega) (str nmy) (.int .i64 ppy) (.bool ssy) (.slice a1y n1y k1y) (.slice a2y n2y k2y) (.slice a3y n3y k3y) (str nmx) (.int .i64 ppx) (.bool ssx) (.slice a1x n1x k1x) (.slice a2x n2x k2x) (.slice a3x n3x k3x)
      have HPUT := Lib.hid (hput.kept (Chg.refl [] _).drew (by simp))
      have HCP := Lib.hid (HC.out.then hpc).drew
      have HSN := Lib.hid (show ∀ r ∈ (l.set m [str nmy, .int .i64 ppy, .bool ssy, .slice a1y n1y k1y, .slice a2y n2y k2y, .slice a3y n3y k3y]).set j [str nmx, .int .i64 ppx, .bool ssx, .slice a1x n1x k1x, .slice a2x n2x k2x, .slice a3x n3x k3x], IsP r from fun r hr => by
        rcases List.mem_or_eq_of_mem_set hr with hr | rfl
        · rcases List.mem_or_eq_of_mem_set hr with hr | rfl
          · exact HSH.out r hr
          · exact HSH.out _ (List.mem_of_getElem? HRB.out)
        · exact HSH.out _ (List.mem_of_getElem? HRA.out))
      clear hput hpc
      go_wp2_with fail
      exact ⟨⟨m + 1, _, by go_num, by congr 1; first | omega | (simp; omega), by omega, HMN.out, HPUT.out, HSN.out, HCP.out⟩, by simp [intOf]; omega⟩
    · have hlz : ¬ ((m : Int) < (rs.length : Int) - 1 - m) := by omega
      have HMD := Lib.hid (show l = rs.reverse from HMID.out.done (by omega))
      go_wp2_with fail
      refine bodyPost_end (results_none rfl _ _ _) rfl ?_
      exact ⟨rfl, by rw [← HMD.out]; exact HB.out, HC.out⟩
end Go.Proofs.YtoeblajmelbbmaaGreatDoor
