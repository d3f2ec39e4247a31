/- obj.Parse: what it reads, in plain Lean, and lemmas for its walk. -/
import Derived.Test.YtjgfclhempjinaaGreatDoorObjMem
import Derived.Test.YtjgfclhempjinaaGreatDoorObjW3
namespace Go.Mq.Obj
open Go Go.RowKit Go.Mq
def pSym (st : St) : SymD × St := (⟨(pText st).1, (pNum (pText st).2).1, (pNum (pNum (pText st).2).2).1⟩, (pNum (pNum (pText st).2).2).2)
def pUse (st : St) : UseD × St := (⟨(pText st).1, (pText (pText st).2).1, (pTexts (pText (pText st).2).2).1⟩, (pTexts (pText (pText st).2).2).2)
def pGlob (st : St) : GlobD × St := (⟨(pText st).1, 0, (pNum (pText st).2).1, (pFlag (pNum (pText st).2).2).1⟩, (pFlag (pNum (pText st).2).2).2)
def pEnt (st : St) : EntD × St := (⟨(pNum st).1, (pNum (pNum st).2).1, (pNum (pNum (pNum st).2).2).1⟩, (pNum (pNum (pNum st).2).2).2)
def pInst (st : St) : InstD × St := (⟨(pNum st).1, (pNum (pNum st).2).1, (pNum (pNum (pNum st).2).2).1⟩, (pNum (pNum (pNum st).2).2).2)
/-- What many elements are read. -/
def pList {α : Type} (p : St → α × St) (st : St) : List α × St := rep p (pMany st).1 (pMany st).2
def s1 (l : List UInt8) : St := (pText (some l)).2
def s2 (l : List UInt8) : St := (pList pSym (s1 l)).2
def s3 (l : List UInt8) : St := (pList pUse (s2 l)).2
def s4 (l : List UInt8) : St := (pList pGlob (s3 l)).2
def s5 (l : List UInt8) : St := (pTexts (s4 l)).2
def s6 (l : List UInt8) : St := (rep pEnt (pTexts (s4 l)).1.length (s5 l)).2
def s7 (l : List UInt8) : St := (pList pInst (s6 l)).2
def pObj (l : List UInt8) : ObjD := ⟨(pText (some l)).1, (pList pSym (s1 l)).1, (pList pUse (s2 l)).1, (pList pGlob (s3 l)).1, (rep pEnt (pTexts (s4 l)).1.length (s5 l)).1, (pTexts (s4 l)).1, (pList pInst (s6 l)).1⟩
def parsed (l : List UInt8) : Bool := !(s7 l).bad && (s7 l).str.isEmpty && right (pObj l)

end Go.Mq.Obj

namespace Go.Proofs.YtjgfclhempjinaaGreatDoor
open Go Go.RowKit Go.Mq Go.Mq.Obj
theorem pFlag_len (st : St) : (pFlag st).2.str.length ≤ st.str.length := by
  unfold pFlag
  split
  · simp [St.str]
  · rename_i c t h
    rw [h]
    split <;> simp [St.str]
theorem pMany_len (st : St) : (pMany st).2.str.length ≤ st.str.length := pMany_le.2
theorem pTexts_len (st : St) : (pTexts st).2.str.length ≤ st.str.length := by
  unfold pTexts
  split
  rename_i n st' h
  have h2 := pMany_len st
  rw [h] at h2
  exact Nat.le_trans (rep_len pText_len n st') h2
theorem pSym_len (st : St) : (pSym st).2.str.length ≤ st.str.length := Nat.le_trans pNum_len (Nat.le_trans pNum_len (pText_len st))
theorem pUse_len (st : St) : (pUse st).2.str.length ≤ st.str.length := Nat.le_trans (pTexts_len _) (Nat.le_trans (pText_len _) (pText_len st))
theorem pGlob_len (st : St) : (pGlob st).2.str.length ≤ st.str.length := Nat.le_trans (pFlag_len _) (Nat.le_trans pNum_len (pText_len st))
theorem pEnt_len (st : St) : (pEnt st).2.str.length ≤ st.str.length := Nat.le_trans pNum_len (Nat.le_trans pNum_len pNum_len)
theorem pInst_len (st : St) : (pInst st).2.str.length ≤ st.str.length := Nat.le_trans pNum_len (Nat.le_trans pNum_len pNum_len)
theorem pList_len {α : Type} {p : St → α × St} (hp : ∀ st, (p st).2.str.length ≤ st.str.length) (st : St) : (pList p st).2.str.length ≤ st.str.length :=
  Nat.le_trans (rep_len hp _ _) (pMany_len st)
theorem infoSym : (Tryz.prog.info? 52).map (fun i => (i.zero, i.size, i.bytes)) = some (some (.agg #[.string ⟨#[]⟩, .int .i64 0, .int .i64 0]), 3, 32) := by kernel_rfl
theorem infoUse : (Tryz.prog.info? 56).map (fun i => (i.zero, i.size, i.bytes)) = some (some (.agg #[.string ⟨#[]⟩, .string ⟨#[]⟩, .slice none 0 0]), 3, 56) := by kernel_rfl
theorem infoGlob : (Tryz.prog.info? 54).map (fun i => (i.zero, i.size, i.bytes)) = some (some (.agg #[.string ⟨#[]⟩, .int .i64 0, .int .i64 0, .bool false]), 4, 40) := by kernel_rfl
theorem infoEnt : (Tryz.prog.info? 47).map (fun i => (i.zero, i.size, i.bytes)) = some (some (.agg #[.int .i64 0, .int .i64 0, .int .i64 0]), 3, 24) := by kernel_rfl
theorem infoInst : (Tryz.prog.info? 49).map (fun i => (i.zero, i.size, i.bytes)) = some (some (.agg #[.int .i64 0, .int .i64 0, .int .i64 0]), 3, 24) := by kernel_rfl
theorem rep_succ1 {α : Type} (p : St → α × St) (k : Nat) (st : St) : (rep p (k + 1) st).1 = (rep p k st).1 ++ [(p (rep p k st).2).1] := rfl
theorem rep_succ2 {α : Type} (p : St → α × St) (k : Nat) (st : St) : (rep p (k + 1) st).2 = (p (rep p k st).2).2 := rfl


/-- What one round of a loop of Parse's leaves. -/
theorem loop_next {br bo i n k : Nat} {e : TypeId} {cs : Array Value} {t : TypeId} {v v' : Value} {xs : List Value} {W wr w5 w6 : World} {o : Obj} {st : St}
    (hC : Chg [br, bo] W wr) (hcb : Chg [br] wr.drew w5) (hR : Rdr w5 br st) (hB : Blk wr bo cs t) (hF : From W.heap.size v) (hbr : br < W.heap.size) (hbo : bo < W.heap.size) (hne : br ≠ bo)
    (hown : w6.ownsRow 0 e k v' n xs) (hch : Chg (blk v) (w5.alloc o) w6) (hm : Moved (w5.alloc o) v v') :
    (w6.setCell ⟨bo, i, none⟩ v').ownsRow 0 e k v' n xs ∧ From W.heap.size v' ∧ Blk (w6.setCell ⟨bo, i, none⟩ v') bo (cs.setIfInBounds i v') t ∧ Rdr (w6.setCell ⟨bo, i, none⟩ v') br st ∧ Chg [br, bo] W (w6.setCell ⟨bo, i, none⟩ v') ∧
      Moved wr v v' ∧ Chg (br :: blk v) wr w6 ∧ Chg (bo :: br :: blk v) wr (w6.setCell ⟨bo, i, none⟩ v') := by
  have hbrv := hF.notin hbr
  have hbov := hF.notin hbo
  have s1 := hC.size
  have s2 : wr.heap.size ≤ w5.heap.size := hcb.size
  have hF' : From W.heap.size v' := hF.moved hm (by simp; omega)
  have c1 : Chg (br :: blk v) wr w5 := (⟨hcb.os, hcb.tape, hcb.output, hcb.size, hcb.block⟩ : Chg [br] wr w5).mono (fun x hx => .inl (by simp at hx; simp [hx]))
  have c6 : Chg (br :: blk v) wr w6 := (c1.alloc o).then (hch.mono (fun x hx => .inl (by simp [hx])))
  have hbox : bo ∉ br :: blk v := by simp only [List.mem_cons, not_or]; exact ⟨fun h => hne h.symm, hbov⟩
  have hR6 : Rdr w6 br st := (hR.kept ((Chg.refl [] w5).alloc o) (by simp)).kept hch hbrv
  refine ⟨owns_kept hown (Chg.set1 w6 bo i v') (fun g hg hm => ?_), hF', (hB.kept c6 hbox).set i v', hR6.kept (Chg.set1 w6 bo i v') (by simpa using hne), ?_, ?_, c6, ?_⟩
  · rw [List.mem_singleton] at hm
    have := hF' g hg
    omega
  · refine (hC.trans c6 (fun x hx => ?_)).then ((Chg.set1 w6 bo i v').mono (fun x hx => .inl (by simp at hx; simp [hx])))
    rcases List.mem_cons.1 hx with h | h
    · exact .inl (by simp [h])
    · exact .inr (hF x h)
  · intro g hg
    rcases hm g hg with h | h
    · exact .inl h
    · simp at h; exact .inr (by omega)
  · exact (c6.mono (fun x hx => .inl (List.mem_cons_of_mem _ hx))).then ((Chg.set1 w6 bo i v').mono (fun x hx => .inl (by simp at hx; simp [hx])))

/-! ### Bounds of what is read -/
theorem unzig_I64 {u : Nat} (h : u < 18446744073709551616) : I64 (unzig u) := by
  unfold unzig I64; split <;> omega
theorem rdv_lt (l : List UInt8) : ∀ i m u t, i ≤ 10 → m < 128 ^ i → m < 18446744073709551616 → rdv i m l = some (u, t) → u < 18446744073709551616 := by
  induction l with
  | nil => intro i m u t _ _ _ h; simp [rdv] at h
  | cons c l ih =>
    intro i m u t hi hm hm2 h
    rw [rdv] at h
    split at h
    · cases h
    · rename_i h10
      split at h
      · cases h
      · rename_i hb
        have hg := grow_u (k := i) (m := m) (n := c.toNat) (by omega) hm c.toNat_lt hb
        split at h
        · simp at h; rw [← h.1]; exact hg.2.1
        · exact ih (i + 1) _ u t (by omega) hg.2.2 hg.2.1 h
theorem pNum_I64 (st : St) : I64 (pNum st).1 := by
  unfold pNum
  split
  · rename_i u t h
    exact unzig_I64 (rdv_lt _ 0 0 u t (by omega) (by simp) (by omega) h)
  · exact ⟨by simp, by simp⟩
theorem rep_mem {α : Type} {p : St → α × St} (hp : ∀ st, (p st).2.str.length ≤ st.str.length) (n : Nat) (st : St) : ∀ x ∈ (rep p n st).1, ∃ st', st'.str.length ≤ st.str.length ∧ x = (p st').1 := by
  induction n with
  | zero => simp [rep]
  | succ n ih =>
    intro x hx
    rw [rep_succ1] at hx
    rcases List.mem_append.1 hx with h | h
    · exact ih x h
    · rw [List.mem_singleton] at h
      exact ⟨_, rep_len hp n st, h⟩
theorem pText_le (st : St) : (pText st).1.length ≤ st.str.length := by
  have h := pMany_le (st := st)
  unfold pText
  split
  rename_i n st' he
  rw [he] at h
  simp only [List.length_take]
  have := h.2
  omega
theorem pList_le {α : Type} (p : St → α × St) (st : St) : (pList p st).1.length ≤ st.str.length := by
  unfold pList
  rw [rep_count]
  exact Nat.le_trans pMany_le.1 pMany_le.2
theorem pList_mem {α : Type} {p : St → α × St} (hp : ∀ st, (p st).2.str.length ≤ st.str.length) (st : St) : ∀ x ∈ (pList p st).1, ∃ st', st'.str.length ≤ st.str.length ∧ x = (p st').1 := by
  intro x hx
  obtain ⟨st', h1, h2⟩ := rep_mem hp _ _ x hx
  exact ⟨st', Nat.le_trans h1 (pMany_len st), h2⟩
theorem pTexts_eq (st : St) : pTexts st = pList pText st := rfl
theorem s1_le (l : List UInt8) : (s1 l).str.length ≤ l.length := pText_len (some l)
theorem s2_le (l : List UInt8) : (s2 l).str.length ≤ l.length := Nat.le_trans (pList_len pSym_len _) (s1_le l)
theorem s3_le (l : List UInt8) : (s3 l).str.length ≤ l.length := Nat.le_trans (pList_len pUse_len _) (s2_le l)
theorem s4_le (l : List UInt8) : (s4 l).str.length ≤ l.length := Nat.le_trans (pList_len pGlob_len _) (s3_le l)
theorem s5_le (l : List UInt8) : (s5 l).str.length ≤ l.length := Nat.le_trans (pTexts_len _) (s4_le l)
theorem s6_le (l : List UInt8) : (s6 l).str.length ≤ l.length := Nat.le_trans (rep_len pEnt_len _ _) (s5_le l)
theorem s7_le (l : List UInt8) : (s7 l).str.length ≤ l.length := Nat.le_trans (pList_len pInst_len _) (s6_le l)
theorem pObj_name (l : List UInt8) : (pObj l).name = (pText (some l)).1 := by simp only [pObj]
theorem pObj_syms (l : List UInt8) : (pObj l).syms = (pList pSym (s1 l)).1 := by simp only [pObj]
theorem pObj_uses (l : List UInt8) : (pObj l).uses = (pList pUse (s2 l)).1 := by simp only [pObj]
theorem pObj_vars (l : List UInt8) : (pObj l).vars = (pList pGlob (s3 l)).1 := by simp only [pObj]
theorem pObj_procs (l : List UInt8) : (pObj l).procs = (rep pEnt (pTexts (s4 l)).1.length (s5 l)).1 := by simp only [pObj]
theorem pObj_names (l : List UInt8) : (pObj l).names = (pTexts (s4 l)).1 := by simp only [pObj]
theorem pObj_code (l : List UInt8) : (pObj l).code = (pList pInst (s6 l)).1 := by simp only [pObj]
theorem pObj_small (l : List UInt8) (hl : l.length ≤ 1099511627776) : (pObj l).small := by
  have t0 : ∀ st : St, st.str.length ≤ l.length → (pText st).1.length ≤ 1099511627776 := fun st h => Nat.le_trans (pText_le st) (Nat.le_trans h hl)
  have hfit : (pObj l).fit := by
    constructor
    · intro s hs
      rw [pObj_syms] at hs
      obtain ⟨st, _, rfl⟩ := pList_mem pSym_len (s1 l) s hs
      exact ⟨pNum_I64 _, pNum_I64 _⟩
    · intro s hs
      rw [pObj_vars] at hs
      obtain ⟨st, _, rfl⟩ := pList_mem pGlob_len (s3 l) s hs
      exact ⟨⟨by simp [pGlob], by simp [pGlob]⟩, pNum_I64 _⟩
    · intro s hs
      rw [pObj_procs] at hs
      obtain ⟨st, _, rfl⟩ := rep_mem pEnt_len (pTexts (s4 l)).1.length (s5 l) s hs
      exact ⟨pNum_I64 _, pNum_I64 _, pNum_I64 _⟩
    · intro s hs
      rw [pObj_code] at hs
      obtain ⟨st, _, rfl⟩ := pList_mem pInst_len (s6 l) s hs
      exact ⟨pNum_I64 _, pNum_I64 _, pNum_I64 _⟩
  refine ⟨hfit, ?_, ?_, ?_, ?_, ?_, ?_, ?_⟩
  · rw [pObj_name]; exact t0 (some l) (Nat.le_refl _)
  · rw [pObj_syms]
    refine ⟨Nat.le_trans (pList_le pSym (s1 l)) (Nat.le_trans (s1_le l) hl), fun s hs => ?_⟩
    obtain ⟨st, h, rfl⟩ := pList_mem pSym_len (s1 l) s hs
    exact t0 st (Nat.le_trans h (s1_le l))
  · rw [pObj_uses]
    refine ⟨Nat.le_trans (pList_le pUse (s2 l)) (Nat.le_trans (s2_le l) hl), fun s hs => ?_⟩
    obtain ⟨st, h, rfl⟩ := pList_mem pUse_len (s2 l) s hs
    have h := Nat.le_trans h (s2_le l)
    have h2 := Nat.le_trans (pText_len st) h
    have h3 := Nat.le_trans (pText_len _) h2
    refine ⟨t0 st h, t0 _ h2, ?_, fun n hn => ?_⟩
    · have h4 := pList_le pText (pText (pText st).2).2
      exact Nat.le_trans h4 (Nat.le_trans h3 hl)
    · obtain ⟨st', h', rfl⟩ := pList_mem pText_len (pText (pText st).2).2 n hn
      exact t0 _ (Nat.le_trans h' h3)
  · rw [pObj_vars]
    refine ⟨Nat.le_trans (pList_le pGlob (s3 l)) (Nat.le_trans (s3_le l) hl), fun s hs => ?_⟩
    obtain ⟨st, h, rfl⟩ := pList_mem pGlob_len (s3 l) s hs
    exact t0 st (Nat.le_trans h (s3_le l))
  · rw [pObj_procs, rep_count, pTexts_eq]
    exact Nat.le_trans (pList_le pText (s4 l)) (Nat.le_trans (s4_le l) hl)
  · rw [pObj_names, pTexts_eq]
    refine ⟨Nat.le_trans (pList_le pText (s4 l)) (Nat.le_trans (s4_le l) hl), fun n hn => ?_⟩
    obtain ⟨st, h, rfl⟩ := pList_mem pText_len (s4 l) n hn
    exact t0 st (Nat.le_trans h (s4_le l))
  · rw [pObj_code]
    exact Nat.le_trans (pList_le pInst (s6 l)) (Nat.le_trans (s6_le l) hl)

/-! ### An owned row, read -/
/-- An owned row is a slice, and its cells lie there. -/
theorem own_at {w : World} {e : TypeId} {k n : Nat} {v : Value} {xs : List Value} (hk : 0 < k) (h : w.ownsRow 0 e k v n xs) :
    ∃ a c, v = .slice a n c ∧ At w a xs ∧ (∀ p, a = some p → p.block ∈ blk v) := by
  obtain ⟨hl, h2⟩ := h
  rcases h2 with ⟨rfl, rfl⟩ | ⟨g, cap, cur, rfl, _, hg, hnc, hcm, hcs, htake⟩
  · refine ⟨none, 0, rfl, fun h0 => ?_, fun _ h => by cases h⟩
    rw [hl] at h0; simp at h0
  · refine ⟨some ⟨g, 0, none⟩, cap, rfl, fun _ => ⟨g, 0, rfl, fun i x hx => ?_⟩, fun p hp => by cases hp; simp [blk]⟩
    rw [cell_of_row w g _ cur e _ hg]
    rw [← htake] at hx
    have := List.getElem?_take (l := cur.toList) (i := n * k) (j := i)
    rw [this] at hx
    split at hx
    · simpa using hx
    · cases hx
/-- Names of uses: they lie apart from what changes. -/
def UsesIn (B : Nat) (w : World) (v : Value) (ms : List UseM) : Prop := ∀ m ∈ ms, At w m.at_ (m.u.names.map str) ∧ ∀ p, m.at_ = some p → p.block ∉ blk v ∧ B ≤ p.block ∧ p.block < w.heap.size
theorem uses_kept {B : Nat} {w w' : World} {v v' : Value} {ms : List UseM} {S : List Nat} (h : UsesIn B w v ms) (hc : Chg S w w') (hS : ∀ x ∈ S, x < B ∨ x ∈ blk v ∨ w.heap.size ≤ x) (hm : Moved w v v') : UsesIn B w' v' ms := by
  intro m hmm
  obtain ⟨h1, h2⟩ := h m hmm
  have hout : ∀ p, m.at_ = some p → p.block ∉ S := fun p hp hx => by
    obtain ⟨a1, a2, a3⟩ := h2 p hp
    rcases hS _ hx with h | h | h
    · omega
    · exact a1 h
    · omega
  refine ⟨h1.kept hc hout, fun p hp => ?_⟩
  obtain ⟨a1, a2, a3⟩ := h2 p hp
  refine ⟨fun hx => ?_, a2, Nat.lt_of_lt_of_le a3 hc.size⟩
  rcases hm _ hx with h | h
  · exact a1 h
  · omega
theorem uses_add {B : Nat} {w : World} {v : Value} {ms : List UseM} {m : UseM} (h : UsesIn B w v ms) (h1 : At w m.at_ (m.u.names.map str)) (h2 : ∀ p, m.at_ = some p → p.block ∉ blk v ∧ B ≤ p.block ∧ p.block < w.heap.size) : UsesIn B w v (ms ++ [m]) := by
  intro x hx
  rcases List.mem_append.1 hx with hx | hx
  · exact h x hx
  · rw [List.mem_singleton] at hx; subst hx; exact ⟨h1, h2⟩
theorem use_next {br bo i n n0 k : Nat} {e : TypeId} {cs : Array Value} {t : TypeId} {v v' : Value} {xs xs0 : List Value} {W wr w4 w5 w6 : World} {o : Obj} {st : St} {ms : List UseM} {m : UseM}
    (hC : Chg [br, bo] W wr) (hcb : Chg [br] wr.drew w5) (hR : Rdr w5 br st) (hB : Blk wr bo cs t) (hF : From W.heap.size v) (hbr : br < W.heap.size) (hbo : bo < W.heap.size) (hne : br ≠ bo)
    (hown : w6.ownsRow 0 e k v' n xs) (hch : Chg (blk v) (w5.alloc o) w6) (hm : Moved (w5.alloc o) v v') (hv : wr.ownsRow 0 e k v n0 xs0) (h4 : wr.heap.size ≤ w4.heap.size)
    (hIn : UsesIn W.heap.size wr v ms) (hat : At w5 m.at_ (m.u.names.map str)) (hmb : ∀ p, m.at_ = some p → w4.heap.size ≤ p.block ∧ p.block < w5.heap.size) :
    UsesIn W.heap.size (w6.setCell ⟨bo, i, none⟩ v') v' (ms ++ [m]) := by
  obtain ⟨_, hF', _, _, _, hmv, c6, c7⟩ := loop_next (i := i) hC hcb hR hB hF hbr hbo hne hown hch hm
  have hlt := owns_lt hv
  have s1 := hC.size
  have s6 : w5.heap.size < w6.heap.size := by have := hch.size; simp at this; omega
  have h57 : Chg (bo :: blk v) w5 (w6.setCell ⟨bo, i, none⟩ v') := ((((Chg.refl [] w5).alloc o).weak.then hch).mono (fun x hx => .inl (List.mem_cons_of_mem _ hx))).then ((Chg.set1 w6 bo i v').mono (fun x hx => .inl (by simp at hx; simp [hx])))
  refine uses_add (uses_kept hIn c7 (fun x hx => ?_) hmv) (hat.kept h57 (fun p hp hx => ?_)) (fun p hp => ?_)
  · simp only [List.mem_cons] at hx
    rcases hx with rfl | rfl | h
    · exact .inl hbo
    · exact .inl hbr
    · exact .inr (.inl h)
  · obtain ⟨a1, a2⟩ := hmb p hp
    rcases List.mem_cons.1 hx with h | h
    · omega
    · have := hlt _ h; omega
  · obtain ⟨a1, a2⟩ := hmb p hp
    refine ⟨fun hx => ?_, by omega, by have := h57.size; omega⟩
    rcases hm _ hx with h | h
    · have := hlt _ h; omega
    · simp at h; omega

theorem list_eq {α : Type} {p : St → α × St} {S T S' : St} {N : Nat} {L : List α} (hN : (pMany S).1 = N) (hT : (pMany S).2 = T) (hL : (rep p N T).1 = L) (hS : (rep p N T).2 = S') : pList p S = (L, S') := by
  unfold pList
  rw [hN, hT, ← hL, ← hS]

/-- What an object's parts are in memory. -/
theorem obj_at {w : World} {bo : Nat} {name : List UInt8} {v1 v2 v3 v4 v5 v6 : Value} {L1 : List SymD} {ms : List UseM} {L3 : List GlobD} {L4 : List EntD} {L5 : List (List UInt8)} {L6 : List InstD} {e1 e2 e3 e4 e5 e6 t : TypeId} {v2' : Value} {B : Nat}
    (hb : Blk w bo #[str name, v1, v2, v3, v4, v5, v6] t) (h1 : w.ownsRow 0 e1 3 v1 L1.length (L1.flatMap SymD.cells)) (h2 : w.ownsRow 0 e2 3 v2 ms.length (ms.flatMap UseM.cells)) (hu : UsesIn B w v2' ms)
    (h3 : w.ownsRow 0 e3 4 v3 L3.length (L3.flatMap GlobD.cells)) (h4 : w.ownsRow 0 e4 3 v4 L4.length (L4.flatMap EntD.cells)) (h5 : w.ownsRow 0 e5 1 v5 L5.length (L5.map fun x => .string (bs x)))
    (h6 : w.ownsRow 0 e6 3 v6 L6.length (L6.flatMap InstD.cells)) : ∃ M, ObjAt w w.heap.size bo 0 ⟨name, L1, ms.map (·.u), L3, L4, L5, L6⟩ M := by
  have l1 := owns_lt h1; have l2 := owns_lt h2; have l3 := owns_lt h3; have l4 := owns_lt h4; have l5 := owns_lt h5; have l6 := owns_lt h6
  obtain ⟨a1, c1, rfl, t1, b1⟩ := own_at (by omega) h1
  obtain ⟨a2, c2, rfl, t2, b2⟩ := own_at (by omega) h2
  obtain ⟨a3, c3, rfl, t3, b3⟩ := own_at (by omega) h3
  obtain ⟨a4, c4, rfl, t4, b4⟩ := own_at (by omega) h4
  obtain ⟨a5, c5, rfl, t5, b5⟩ := own_at (by omega) h5
  obtain ⟨a6, c6, rfl, t6, b6⟩ := own_at (by omega) h6
  refine ⟨⟨a1, a2, a3, a4, a5, a6, c1, c2, c3, c4, c5, c6, ms⟩, hb.lt, hb.cell 0 _ rfl, hb.cell 1 _ rfl, ?_, hb.cell 3 _ rfl, hb.cell 4 _ rfl, hb.cell 5 _ rfl, hb.cell 6 _ rfl, t1, fun _ p hp => l1 _ (b1 p hp), rfl, t2, fun _ p hp => l2 _ (b2 p hp),
    fun m hm => ⟨(hu m hm).1, fun _ p hp => ((hu m hm).2 p hp).2.2⟩, t3, fun _ p hp => l3 _ (b3 p hp), t4, fun _ p hp => l4 _ (b4 p hp), t5, fun _ p hp => l5 _ (b5 p hp), t6, fun _ p hp => l6 _ (b6 p hp)⟩
  have h := hb.cell 2 _ rfl
  simpa using h
theorem uses_lift {B : Nat} {w w' : World} {v : Value} {ms : List UseM} {S : List Nat} (h : UsesIn B w v ms) (hc : Chg S w w') (hS : ∀ x ∈ S, x < B) : UsesIn B w' v ms := uses_kept h hc (fun x hx => .inl (hS x hx)) (Moved.refl w v)

theorem pObj_is {l : List UInt8} {nm : List UInt8} {S1 S2 S3 S4 T4 S5 S6 : St} {L1 : List SymD} {L2 : List UseD} {L3 : List GlobD} {L4 : List EntD} {L9 : List (List UInt8)} {L5 : List InstD} {N4 : Nat}
    (h0 : (pText (some l)).1 = nm) (h1 : (pText (some l)).2 = S1) (e1 : pList pSym S1 = (L1, S2)) (e2 : pList pUse S2 = (L2, S3)) (e3 : pList pGlob S3 = (L3, S4)) (e4 : (pTexts S4).1 = L9) (e5 : (pTexts S4).2 = T4)
    (e6 : L9.length = N4) (e7 : (rep pEnt N4 T4).1 = L4) (e8 : (rep pEnt N4 T4).2 = S5) (e9 : pList pInst S5 = (L5, S6)) : pObj l = ⟨nm, L1, L2, L3, L4, L9, L5⟩ ∧ s7 l = S6 := by
  have a1 : s1 l = S1 := by unfold s1; exact h1
  have a2 : s2 l = S2 := by unfold s2; rw [a1, e1]
  have a3 : s3 l = S3 := by unfold s3; rw [a2, e2]
  have a4 : s4 l = S4 := by unfold s4; rw [a3, e3]
  have a5 : s5 l = T4 := by unfold s5; rw [a4, e5]
  have a6 : s6 l = S5 := by unfold s6; rw [a4, e4, e6, a5, e8]
  have a7 : s7 l = S6 := by unfold s7; rw [a6, e9]
  refine ⟨?_, a7⟩
  unfold pObj
  rw [a1, a2, a3, a4, a5, a6, e1, e2, e3, e4, e6, e7, e9, h0]
theorem parsed_is {l : List UInt8} {S : St} (h : s7 l = S) : parsed l = (!S.bad && S.str.isEmpty && right (pObj l)) := by unfold parsed; rw [h]
/-- What Parse leaves. -/
def Parsed (l : List UInt8) (w : World) (e : Ending) (w' : World) : Prop :=
  Chg [] w w' ∧ ((parsed l = true ∧ ∃ bo M, e = .returned (.tuple #[.pointer (some ⟨bo, 0, none⟩), .nilIface]) ∧ ObjAt w' w'.heap.size bo 0 (pObj l) M) ∨
    (parsed l = false ∧ e = .returned (.tuple #[.pointer none, .iface 24 (.int .i64 3)])))
theorem objAt_higher {w : World} {B B' b off : Nat} {o : ObjD} {M : ObjM} (h : ObjAt w B b off o M) (hB : B ≤ B') : ObjAt w B' b off o M :=
  have u : ∀ {a : Option Addr} {n : Nat}, Under B a n → Under B' a n := fun hu hn p hp => Nat.lt_of_lt_of_le (hu hn p hp) hB
  ⟨Nat.lt_of_lt_of_le h.lt hB, h.c0, h.c1, h.c2, h.c3, h.c4, h.c5, h.c6, h.s, u h.sB, h.us, h.u, u h.uB, fun m hm => ⟨(h.un m hm).1, u (h.un m hm).2⟩, h.v, u h.vB, h.p, u h.pB, h.n, u h.nB, h.c, u h.cB⟩
end Go.Proofs.YtjgfclhempjinaaGreatDoor
