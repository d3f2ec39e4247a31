/- The document's Read, walked. -/
import Derived.Test.YtjgfclhempjinaaGreatDoorRefParts
namespace Go.Mq.Obj
open Go Go.RowKit Go.Mq
def r0 (l : List UInt8) : List UInt8 × TK := qtext ⟨l, false⟩
def n1 (l : List UInt8) : Int × TK := qnum (r0 l).2
def r1 (l : List UInt8) : List SymD × TK := qrun qsym1 (n1 l).1.toNat (n1 l).2
def n2 (l : List UInt8) : Int × TK := qnum (r1 l).2
def r2 (l : List UInt8) : List UseD × TK := qrun quse1 (n2 l).1.toNat (n2 l).2
def n3 (l : List UInt8) : Int × TK := qnum (r2 l).2
def r3 (l : List UInt8) : List GlobD × TK := qrun qglob (n3 l).1.toNat (n3 l).2
def n4 (l : List UInt8) : Int × TK := qnum (r3 l).2
def r4 (l : List UInt8) : List (List UInt8) × TK := qrun qt1 (n4 l).1.toNat (n4 l).2
def r5 (l : List UInt8) : List EntD × TK := qrun qent1 (r4 l).1.length (r4 l).2
def n6 (l : List UInt8) : Int × TK := qnum (r5 l).2
def r6 (l : List UInt8) : List InstD × TK := qrun qinst1 (n6 l).1.toNat (n6 l).2
def qobj (l : List UInt8) : ObjD := ⟨(r0 l).1, (r1 l).1, (r2 l).1, (r3 l).1, (r5 l).1, (r4 l).1, (r6 l).1⟩
def okRead (l : List UInt8) : Bool := !(r6 l).2.bad && (r6 l).2.s.isEmpty && right (qobj l) && (encO (qobj l) == l)
theorem r0_len (l : List UInt8) : (r0 l).2.s.length ≤ l.length := qtext_len _
theorem n1_len (l : List UInt8) : (n1 l).2.s.length ≤ l.length := Nat.le_trans (qnum_len _) (r0_len l)
theorem r1_len (l : List UInt8) : (r1 l).2.s.length ≤ l.length := Nat.le_trans (qrun_len step_sym _ _) (n1_len l)
theorem n2_len (l : List UInt8) : (n2 l).2.s.length ≤ l.length := Nat.le_trans (qnum_len _) (r1_len l)
theorem r2_len (l : List UInt8) : (r2 l).2.s.length ≤ l.length := Nat.le_trans (qrun_len step_use _ _) (n2_len l)
theorem n3_len (l : List UInt8) : (n3 l).2.s.length ≤ l.length := Nat.le_trans (qnum_len _) (r2_len l)
theorem r3_len (l : List UInt8) : (r3 l).2.s.length ≤ l.length := Nat.le_trans (qrun_len step_glob _ _) (n3_len l)
theorem n4_len (l : List UInt8) : (n4 l).2.s.length ≤ l.length := Nat.le_trans (qnum_len _) (r3_len l)
theorem r4_len (l : List UInt8) : (r4 l).2.s.length ≤ l.length := Nat.le_trans (qrun_len step_t1 _ _) (n4_len l)
theorem r5_len (l : List UInt8) : (r5 l).2.s.length ≤ l.length := Nat.le_trans (qrun_len step_ent _ _) (r4_len l)
theorem n6_len (l : List UInt8) : (n6 l).2.s.length ≤ l.length := Nat.le_trans (qnum_len _) (r5_len l)
theorem r6_len (l : List UInt8) : (r6 l).2.s.length ≤ l.length := Nat.le_trans (qrun_len step_inst _ _) (n6_len l)
theorem qtext_le {L : Nat} {t : TK} (h : t.s.length ≤ L) : (qtext t).1.length ≤ L := Nat.le_trans (qtext_str t) h
theorem qobj_small (l : List UInt8) (h : l.length ≤ 1000000000000) : (qobj l).small := by
  have c {α : Type} {p : TK → List α × TK} (hp : Step p) (m : Nat) (t : TK) (ht : t.s.length ≤ l.length) : (qrun p m t).1.length ≤ 1099511627776 := by
    have := qrun_count hp m t; omega
  have big : ∀ {L : Nat}, L ≤ l.length → L ≤ 1099511627776 := fun h2 => by omega
  refine ⟨⟨?_, ?_, ?_, ?_⟩, big (qtext_str _), ⟨c step_sym _ _ (n1_len l), ?_⟩, ⟨c step_use _ _ (n2_len l), ?_⟩, ⟨c step_glob _ _ (n3_len l), ?_⟩, c step_ent _ _ (r4_len l), ⟨c step_t1 _ _ (n4_len l), ?_⟩, c step_inst _ _ (n6_len l)⟩
  · exact qrun_all step_sym (Q := fun s => s.fit) (L := l.length) (fun t _ x hx => by
      rw [show (qsym1 t).1 = [(qsym t).1] from rfl, List.mem_singleton] at hx; subst hx
      exact ⟨qnum_fit _, qnum_fit _⟩) _ _ (n1_len l)
  · exact qrun_all step_glob (Q := fun s => s.fit) (L := l.length) (fun t _ x hx => by
      unfold qglob at hx
      split at hx
      · cases hx
      · rw [List.mem_singleton] at hx; subst hx
        exact ⟨⟨by show (-9223372036854775808 : Int) ≤ 0; decide, by show (0 : Int) < 9223372036854775808; decide⟩, qnum_fit _⟩) _ _ (n3_len l)
  · exact qrun_all step_ent (Q := fun s => s.fit) (L := l.length) (fun t _ x hx => by
      rw [show (qent1 t).1 = [(qent t).1] from rfl, List.mem_singleton] at hx; subst hx
      exact ⟨qnum_fit _, qnum_fit _, qnum_fit _⟩) _ _ (r4_len l)
  · exact qrun_all step_inst (Q := fun s => s.fit) (L := l.length) (fun t _ x hx => by
      rw [show (qinst1 t).1 = [(qinst t).1] from rfl, List.mem_singleton] at hx; subst hx
      exact ⟨qnum_fit _, qnum_fit _, qnum_fit _⟩) _ _ (n6_len l)
  · exact qrun_all step_sym (Q := fun s => s.name.length ≤ 1099511627776) (L := l.length) (fun t ht x hx => by
      rw [show (qsym1 t).1 = [(qsym t).1] from rfl, List.mem_singleton] at hx; subst hx
      exact big (qtext_le ht)) _ _ (n1_len l)
  · exact qrun_all step_use (Q := fun u => u.name.length ≤ 1099511627776 ∧ u.need.length ≤ 1099511627776 ∧ u.names.length ≤ 1099511627776 ∧ ∀ n ∈ u.names, n.length ≤ 1099511627776) (L := l.length) (fun t ht x hx => by
      rw [show (quse1 t).1 = [(quse t).1] from rfl, List.mem_singleton] at hx; subst hx
      have h1 := Nat.le_trans (qtext_len t) ht
      have h2 := Nat.le_trans (qtext_len (qtext t).2) h1
      have h3 := Nat.le_trans (qnum_len (qtext (qtext t).2).2) h2
      exact ⟨big (qtext_le ht), big (qtext_le h1), c step_t1 _ _ h3, qrun_all step_t1 (Q := fun n => n.length ≤ 1099511627776) (L := l.length) (fun t ht x hx => by
        rw [show (qt1 t).1 = [(qtext t).1] from rfl, List.mem_singleton] at hx; subst hx
        exact big (qtext_le ht)) _ _ h3⟩) _ _ (n2_len l)
  · exact qrun_all step_glob (Q := fun s => s.name.length ≤ 1099511627776) (L := l.length) (fun t ht x hx => by
      unfold qglob at hx
      split at hx
      · cases hx
      · rw [List.mem_singleton] at hx; subst hx
        exact big (qtext_le ht)) _ _ (n3_len l)
  · exact qrun_all step_t1 (Q := fun n => n.length ≤ 1099511627776) (L := l.length) (fun t ht x hx => by
      rw [show (qt1 t).1 = [(qtext t).1] from rfl, List.mem_singleton] at hx; subst hx
      exact big (qtext_le ht)) _ _ (n4_len l)
end Go.Mq.Obj
namespace Go.Proofs.YtjgfclhempjinaaGreatDoor
open Go Go.RowKit Go.Mq Go.Mq.Obj
set_option maxRecDepth 100000
/-- What the document's Read leaves. -/
def RRead (l : List UInt8) (w : World) (e : Ending) (w' : World) : Prop :=
  Chg [] w w' ∧ ((okRead l = true ∧ ∃ bo M, e = .returned (.tuple #[.pointer (some ⟨bo, 0, none⟩), .int .i64 0]) ∧ ObjAt w' w'.heap.size bo 0 (qobj l) M) ∨
    (okRead l = false ∧ e = .returned (.tuple #[.pointer none, .int .i64 3])))
theorem i64_len2 (n : Nat) (h : n ≤ 1099511627776) : I64 (n : Int) := ⟨by omega, by omega⟩
theorem ptimes_nn {n : Nat} : ((n : Int)).toNat = n := Int.toNat_natCast n
theorem obj_raise {w : World} {B B2 b off : Nat} {o : ObjD} {M : ObjM} (h : ObjAt w B b off o M) (hB : B ≤ B2) : ObjAt w B2 b off o M := by
  have u : ∀ {a : Option Addr} {n : Nat}, Under B a n → Under B2 a n := fun h hn p hp => Nat.lt_of_lt_of_le (h hn p hp) hB
  exact ⟨Nat.lt_of_lt_of_le h.lt hB, h.c0, h.c1, h.c2, h.c3, h.c4, h.c5, h.c6, h.s, u h.sB, h.us, h.u, u h.uB, fun m hm => ⟨(h.un m hm).1, u (h.un m hm).2⟩, h.v, u h.vB, h.p, u h.pB, h.n, u h.nB, h.c, u h.cB⟩
/-- An object out of what Read has laid. -/
theorem rread_at {l : List UInt8} {bt bo : Nat} {W1 W2 W3 W4 W5 W6 w1 w2 w3 w4 w5 w6 : World} {v1 v2 v3 v4 v5 v6 : Value} {ms : List UseM} (hbt : bt < W1.heap.size) (hbo : bo < W1.heap.size)
    (o1 : w1.ownsRow 0 52 3 v1 (r1 l).1.length ((r1 l).1.flatMap SymD.cells)) (f1 : From W1.heap.size v1) (c1 : Chg [bt, bo] W1 w1)
    (d2 : Chg [bt, bo] w1 W2) (o2 : w2.ownsRow 0 56 3 v2 ms.length (ms.flatMap UseM.cells)) (hms : ms.map (·.u) = (r2 l).1) (hin : UsesIn W2.heap.size w2 v2 ms) (f2 : From W2.heap.size v2) (c2 : Chg [bt, bo] W2 w2)
    (d3 : Chg [bt, bo] w2 W3) (o3 : w3.ownsRow 0 54 4 v3 (r3 l).1.length ((r3 l).1.flatMap GlobD.cells)) (f3 : From W3.heap.size v3) (c3 : Chg [bt, bo] W3 w3)
    (d4 : Chg [bt, bo] w3 W4) (o4 : w4.ownsRow 0 9 1 v5 (r4 l).1.length ((r4 l).1.map str)) (f4 : From W4.heap.size v5) (c4 : Chg [bt, bo] W4 w4)
    (d5 : Chg [bt, bo] w4 W5) (o5 : w5.ownsRow 0 47 3 v4 (r5 l).1.length ((r5 l).1.flatMap EntD.cells)) (f5 : From W5.heap.size v4) (c5 : Chg [bt, bo] W5 w5)
    (d6 : Chg [bt, bo] w5 W6) (o6 : w6.ownsRow 0 49 3 v6 (r6 l).1.length ((r6 l).1.flatMap InstD.cells)) (c6 : Chg [bt, bo] W6 w6)
    (hb : Blk w6 bo #[str (r0 l).1, v1, v2, v3, v4, v5, v6] 45) : ∃ M, ObjAt w6 w6.heap.size bo 0 (qobj l) M := by
  have e6 := d6.then c6
  have e5 := d5.then (c5.then e6)
  have e4 := d4.then (c4.then e5)
  have e3 := d3.then (c3.then e4)
  have e2 := d2.then (c2.then e3)
  have s2 := (c1.then d2).size
  have s3 := (c2.then d3).size
  have s4 := (c3.then d4).size
  have s5 := (c4.then d5).size
  have ni : ∀ {v : Value} {B : Nat}, From B v → W1.heap.size ≤ B → ∀ g ∈ blk v, g ∉ [bt, bo] := fun h hB g hg hm => by
    have := h g hg
    simp only [List.mem_cons, List.not_mem_nil, or_false] at hm
    rcases hm with e | e <;> omega
  have h := obj_at hb (owns_kept o1 e2 (ni f1 (Nat.le_refl _))) (owns_kept o2 e3 (ni f2 s2)) (uses_lift hin e3 (fun x hx => by
      simp only [List.mem_cons, List.not_mem_nil, or_false] at hx
      rcases hx with e | e <;> omega)) (owns_kept o3 e4 (ni f3 (by omega))) (owns_kept o5 e6 (ni f5 (by omega))) (owns_kept o4 e5 (ni f4 (by omega))) o6
  rw [hms] at h
  exact h

set_option maxHeartbeats 8000000 in
theorem rread_any (hWr : ∀ (B b off : Nat) (o : ObjD) (M : ObjM) (w : World), ObjAt w B b off o M → o.small → Calls Tryz.prog 5 #[.pointer (some ⟨b, off, none⟩)] w (RWrote o w)) (l : List UInt8) (w : World) (hl : l.length ≤ 1000000000000) :
    Calls Tryz.prog 12 #[str l] w (RRead l w) := by
  have hl' : l.length ≤ 1099511627776 := by omega
  have hT0 := fun W b (h : Tkr W b ⟨l, false⟩) => ttext_any b ⟨l, false⟩ W h hl'
  have hN1 := fun W b (h : Tkr W b (r0 l).2) => tnum_any b _ W h (Nat.le_trans (r0_len l) hl')
  have hN2 := fun W b (h : Tkr W b (r1 l).2) => tnum_any b _ W h (Nat.le_trans (r1_len l) hl')
  have hN3 := fun W b (h : Tkr W b (r2 l).2) => tnum_any b _ W h (Nat.le_trans (r2_len l) hl')
  have hN4 := fun W b (h : Tkr W b (r3 l).2) => tnum_any b _ W h (Nat.le_trans (r3_len l) hl')
  have hN6 := fun W b (h : Tkr W b (r5 l).2) => tnum_any b _ W h (Nat.le_trans (r5_len l) hl')
  have HT0 := Lib.hid hT0; have HN1 := Lib.hid hN1; have HN2 := Lib.hid hN2; have HN3 := Lib.hid hN3; have HN4 := Lib.hid hN4; have HN6 := Lib.hid hN6
  have HWR := Lib.hid hWr; clear hWr
  have HL := Lib.hid hl'; have HSM := Lib.hid (qobj_small l hl)
  clear hT0 hN1 hN2 hN3 hN4 hN6 hl' hl
  go_enter Tryz.func12, Tryz.ntmps12
  go_wp2_with fail
  have hb0 := (Blk.new w #[str l, .bool false] 81).kept ((Chg.refl [] _).alloc (.cells #[.pointer (some ⟨w.heap.size, 0, none⟩)] 79)) (by simp)
  have hb4 := Blk.new (w.alloc (.cells #[str l, .bool false] 81)) #[.pointer (some ⟨w.heap.size, 0, none⟩)] 79
  have e4 : (w.alloc (.cells #[str l, .bool false] 81)).heap.size = w.heap.size + 1 := by simp
  rw [e4] at hb4
  have hc0 : Chg [] w ((w.alloc (.cells #[str l, .bool false] 81)).alloc (.cells #[.pointer (some ⟨w.heap.size, 0, none⟩)] 79)) := ((Chg.refl [] w).alloc _).alloc _
  generalize (w.alloc (.cells #[str l, .bool false] 81)).alloc (.cells #[.pointer (some ⟨w.heap.size, 0, none⟩)] 79) = W0 at hb0 hb4 hc0 ⊢
  have h4 : W0.cell? ⟨w.heap.size + 1, 0, none⟩ = some (.pointer (some ⟨w.heap.size, 0, none⟩)) := hb4.cell 0 _ rfl
  have HC0 := Lib.hid hc0
  have HR := Lib.hid hb0
  have HSZ := Lib.hid (And.intro hb0.lt hb4.lt)
  clear hb0 hb4 e4 hc0
  refine (HT0.out W0 _ HR.out).mono ?_; rintro _ w1 ⟨rfl, hr, hc⟩
  have h4 := hc.cellSome h4 (by simp)
  have HR := Lib.hid hr; have HC1 := Lib.hid hc; have HSZ1 := Lib.hid hc.size
  clear hr hc
  go_wp2_with fail
  have hbo := (Blk.new w1 #[str (qtext ⟨l, false⟩).1, .slice none 0 0, .slice none 0 0, .slice none 0 0, .slice none 0 0, .slice none 0 0, .slice none 0 0] 45).kept ((Chg.refl [] _).alloc (.cells #[.pointer (some ⟨w1.heap.size, 0, none⟩)] 22)) (by simp)
  have hb5 := Blk.new (w1.alloc (.cells #[str (qtext ⟨l, false⟩).1, .slice none 0 0, .slice none 0 0, .slice none 0 0, .slice none 0 0, .slice none 0 0, .slice none 0 0] 45)) #[.pointer (some ⟨w1.heap.size, 0, none⟩)] 22
  have e5 : (w1.alloc (.cells #[str (qtext ⟨l, false⟩).1, .slice none 0 0, .slice none 0 0, .slice none 0 0, .slice none 0 0, .slice none 0 0, .slice none 0 0] 45)).heap.size = w1.heap.size + 1 := by simp
  rw [e5] at hb5
  have hcz : Chg [] w1 ((w1.alloc (.cells #[str (qtext ⟨l, false⟩).1, .slice none 0 0, .slice none 0 0, .slice none 0 0, .slice none 0 0, .slice none 0 0, .slice none 0 0] 45)).alloc (.cells #[.pointer (some ⟨w1.heap.size, 0, none⟩)] 22)) := ((Chg.refl [] w1).alloc _).alloc _
  generalize (w1.alloc (.cells #[str (qtext ⟨l, false⟩).1, .slice none 0 0, .slice none 0 0, .slice none 0 0, .slice none 0 0, .slice none 0 0, .slice none 0 0] 45)).alloc (.cells #[.pointer (some ⟨w1.heap.size, 0, none⟩)] 22) = W1 at hbo hb5 hcz ⊢
  have hcap : Caps W1 (w.heap.size + 1) (w1.heap.size + 1) w.heap.size w1.heap.size :=
    ⟨hcz.cellSome h4 (by simp), hb5.cell 0 _ rfl, by have := HSZ.out; have := HSZ1.out; omega, by omega, by have := HSZ.out; have := HSZ1.out; omega, by have := HSZ.out; have := HSZ1.out; omega, by omega⟩
  have HR1 := Lib.hid (show Tkr W1 w.heap.size (r0 l).2 from HR.out.kept hcz (by simp))
  have HO1 := Lib.hid (show Blk W1 w1.heap.size #[str (r0 l).1, .slice none 0 0, .slice none 0 0, .slice none 0 0, .slice none 0 0, .slice none 0 0, .slice none 0 0] 45 from hbo)
  have HCAP1 := Lib.hid hcap
  have HD1 := Lib.hid (show Chg [] w W1 from (HC0.out.trans HC1.out (fun x hx => by rw [List.mem_singleton] at hx; subst hx; exact .inr (Nat.le_refl _))).then hcz)
  clear h4 hbo hb5 e5 hcz hcap
  have hc4 := HCAP1.out.c4
  have z1 := Lib.hid (Zone.of (X := [w.heap.size]) (w0 := W1.drew) hc4 (by simp))
  go_wp2_with fail
  refine wp_region_T [w.heap.size] rfl (by kernel_rfl) rfl ?_
  have hS : Chg [w.heap.size] W1.drew W1.drew := Chg.refl _ _
  repeat
    (with_reducible show wpX _ _ _ _ _ _ _ _
     first
       | refine wpX_nil ?_
       | refine wpX_skip rfl ?_
       | refine wpX_mv rfl rfl (by kernel_rfl) (fun _ _ => ?_)
       | refine wpX_ldC rfl rfl rfl (by exact z1.out) (by assumption) (fun _ _ => ?_)
       | refine wpX_ef' rfl rfl rfl (fun _ _ => ?_)
     go_wp2_with fail)
  refine (HN1.out W1.drew _ HR1.out).mono ?_; rintro _ X1 ⟨rfl, hr, hc⟩
  have hS : Chg [w.heap.size] W1.drew X1 := hc
  have hcap := HCAP1.out.kept (Chg.trans (S := [w.heap.size]) (⟨rfl, rfl, rfl, Nat.le_refl _, fun _ _ _ => rfl⟩ : Chg _ W1 W1.drew) hc (fun x hx => .inl hx)) (by simp) (by have h := HCAP1.out.n4; simpa using h)
  have HOX := Lib.hid (HO1.out.kept (Chg.trans (S := [w.heap.size]) (⟨rfl, rfl, rfl, Nat.le_refl _, fun _ _ _ => rfl⟩ : Chg _ W1 W1.drew) hc (fun x hx => .inl hx)) (by simpa [eq_comm] using HCAP1.out.n1))
  have HRX := Lib.hid (show Tkr X1 w.heap.size (n1 l).2 from hr); have HCAPX := Lib.hid hcap
  have HE1 := Lib.hid (show Chg [w.heap.size, w1.heap.size] W1 X1 from Chg.trans (S := [w.heap.size, w1.heap.size]) (⟨rfl, rfl, rfl, Nat.le_refl _, fun _ _ _ => rfl⟩ : Chg _ W1 W1.drew) hc (fun x hx => .inl (by simp at hx; simp [hx])))
  clear hr hc hcap
  go_wp2_with fail
  refine And.intro hS ?_
  repeat
    (with_reducible show wpX _ _ _ _ _ _ _ _
     first
       | refine wpX_nil ?_
       | refine wpX_skip rfl ?_
       | refine wpX_mv rfl rfl (by kernel_rfl) (fun _ _ => ?_)
       | refine wpX_ldC rfl rfl rfl (by exact z1.out) (by assumption) (fun _ _ => ?_)
       | refine wpX_ef' rfl rfl rfl (fun _ _ => ?_)
     go_wp2_with fail)
  refine stepX_ef rfl rfl (fun _ _ => ?_)
  change Oper.wp _ (Oper.mk _ _ _ _ _ _) _ _ _ _
  go_wp2_with fail
  clear hS hc4
  refine (psym_any (w.heap.size + 1) (w1.heap.size + 1) w.heap.size w1.heap.size (n1 l).1 (n1 l).2 _ X1 HCAPX.out HRX.out HOX.out (by simp) rfl (Nat.le_trans (n1_len l) HL.out) (qnum_fit _)).mono ?_
  rintro _ W2 ⟨rfl, v1, hr, ho, hov, hfr, hc⟩
  have HR2 := Lib.hid (show Tkr W2 w.heap.size (r1 l).2 from hr)
  have HO2 := Lib.hid (show Blk W2 w1.heap.size #[str (r0 l).1, v1, .slice none 0 0, .slice none 0 0, .slice none 0 0, .slice none 0 0, .slice none 0 0] 45 from ho)
  have HCAP2 := Lib.hid (HCAPX.out.kept hc (by simp; exact HCAPX.out.n3) (by simp; exact HCAPX.out.n4))
  have HOV1 := Lib.hid hov; have HFR1 := Lib.hid hfr; have HK1 := Lib.hid hc
  clear hr ho hov hfr hc HOX HRX HCAPX z1
  have hc4 := HCAP2.out.c4
  have z1 := Lib.hid (Zone.of (X := [w.heap.size]) (w0 := W2.drew) hc4 (by simp))
  go_wp2_with fail
  refine wp_region_T [w.heap.size] rfl (by kernel_rfl) rfl ?_
  have hS : Chg [w.heap.size] W2.drew W2.drew := Chg.refl _ _
  repeat
    (with_reducible show wpX _ _ _ _ _ _ _ _
     first
       | refine wpX_nil ?_
       | refine wpX_skip rfl ?_
       | refine wpX_mv rfl rfl (by kernel_rfl) (fun _ _ => ?_)
       | refine wpX_ldC rfl rfl rfl (by exact z1.out) (by assumption) (fun _ _ => ?_)
       | refine wpX_ef' rfl rfl rfl (fun _ _ => ?_)
     go_wp2_with fail)
  refine (HN2.out W2.drew _ HR2.out).mono ?_; rintro _ X2 ⟨rfl, hr, hc⟩
  have hS : Chg [w.heap.size] W2.drew X2 := hc
  have hcap := HCAP2.out.kept (Chg.trans (S := [w.heap.size]) (⟨rfl, rfl, rfl, Nat.le_refl _, fun _ _ _ => rfl⟩ : Chg _ W2 W2.drew) hc (fun x hx => .inl hx)) (by simp) (by have h := HCAP2.out.n4; simpa using h)
  have HOX := Lib.hid (HO2.out.kept (Chg.trans (S := [w.heap.size]) (⟨rfl, rfl, rfl, Nat.le_refl _, fun _ _ _ => rfl⟩ : Chg _ W2 W2.drew) hc (fun x hx => .inl hx)) (by simpa [eq_comm] using HCAP2.out.n1))
  have HRX := Lib.hid (show Tkr X2 w.heap.size (n2 l).2 from hr); have HCAPX := Lib.hid hcap
  have HE2 := Lib.hid (show Chg [w.heap.size, w1.heap.size] W2 X2 from Chg.trans (S := [w.heap.size, w1.heap.size]) (⟨rfl, rfl, rfl, Nat.le_refl _, fun _ _ _ => rfl⟩ : Chg _ W2 W2.drew) hc (fun x hx => .inl (by simp at hx; simp [hx])))
  clear hr hc hcap
  go_wp2_with fail
  refine And.intro hS ?_
  repeat
    (with_reducible show wpX _ _ _ _ _ _ _ _
     first
       | refine wpX_nil ?_
       | refine wpX_skip rfl ?_
       | refine wpX_mv rfl rfl (by kernel_rfl) (fun _ _ => ?_)
       | refine wpX_ldC rfl rfl rfl (by exact z1.out) (by assumption) (fun _ _ => ?_)
       | refine wpX_ef' rfl rfl rfl (fun _ _ => ?_)
     go_wp2_with fail)
  refine stepX_ef rfl rfl (fun _ _ => ?_)
  change Oper.wp _ (Oper.mk _ _ _ _ _ _) _ _ _ _
  go_wp2_with fail
  clear hS hc4
  refine (puse_any (w.heap.size + 1) (w1.heap.size + 1) w.heap.size w1.heap.size (n2 l).1 (n2 l).2 _ X2 HCAPX.out HRX.out HOX.out (by simp) rfl (Nat.le_trans (n2_len l) HL.out) (qnum_fit _)).mono ?_
  rintro _ W3 ⟨rfl, v2, ms, hr, ho, hov, hms, hin, hfr, hc⟩
  have HMS := Lib.hid (show ms.map (·.u) = (r2 l).1 from hms); have HIN := Lib.hid hin; clear hms hin
  have HR3 := Lib.hid (show Tkr W3 w.heap.size (r2 l).2 from hr)
  have HO3 := Lib.hid (show Blk W3 w1.heap.size #[str (r0 l).1, v1, v2, .slice none 0 0, .slice none 0 0, .slice none 0 0, .slice none 0 0] 45 from ho)
  have HCAP3 := Lib.hid (HCAPX.out.kept hc (by simp; exact HCAPX.out.n3) (by simp; exact HCAPX.out.n4))
  have HOV2 := Lib.hid hov; have HFR2 := Lib.hid hfr; have HK2 := Lib.hid hc
  clear hr ho hov hfr hc HOX HRX HCAPX z1
  have hc4 := HCAP3.out.c4
  have z1 := Lib.hid (Zone.of (X := [w.heap.size]) (w0 := W3.drew) hc4 (by simp))
  go_wp2_with fail
  refine wp_region_T [w.heap.size] rfl (by kernel_rfl) rfl ?_
  have hS : Chg [w.heap.size] W3.drew W3.drew := Chg.refl _ _
  repeat
    (with_reducible show wpX _ _ _ _ _ _ _ _
     first
       | refine wpX_nil ?_
       | refine wpX_skip rfl ?_
       | refine wpX_mv rfl rfl (by kernel_rfl) (fun _ _ => ?_)
       | refine wpX_ldC rfl rfl rfl (by exact z1.out) (by assumption) (fun _ _ => ?_)
       | refine wpX_ef' rfl rfl rfl (fun _ _ => ?_)
     go_wp2_with fail)
  refine (HN3.out W3.drew _ HR3.out).mono ?_; rintro _ X3 ⟨rfl, hr, hc⟩
  have hS : Chg [w.heap.size] W3.drew X3 := hc
  have hcap := HCAP3.out.kept (Chg.trans (S := [w.heap.size]) (⟨rfl, rfl, rfl, Nat.le_refl _, fun _ _ _ => rfl⟩ : Chg _ W3 W3.drew) hc (fun x hx => .inl hx)) (by simp) (by have h := HCAP3.out.n4; simpa using h)
  have HOX := Lib.hid (HO3.out.kept (Chg.trans (S := [w.heap.size]) (⟨rfl, rfl, rfl, Nat.le_refl _, fun _ _ _ => rfl⟩ : Chg _ W3 W3.drew) hc (fun x hx => .inl hx)) (by simpa [eq_comm] using HCAP3.out.n1))
  have HRX := Lib.hid (show Tkr X3 w.heap.size (n3 l).2 from hr); have HCAPX := Lib.hid hcap
  have HE3 := Lib.hid (show Chg [w.heap.size, w1.heap.size] W3 X3 from Chg.trans (S := [w.heap.size, w1.heap.size]) (⟨rfl, rfl, rfl, Nat.le_refl _, fun _ _ _ => rfl⟩ : Chg _ W3 W3.drew) hc (fun x hx => .inl (by simp at hx; simp [hx])))
  clear hr hc hcap
  go_wp2_with fail
  refine And.intro hS ?_
  repeat
    (with_reducible show wpX _ _ _ _ _ _ _ _
     first
       | refine wpX_nil ?_
       | refine wpX_skip rfl ?_
       | refine wpX_mv rfl rfl (by kernel_rfl) (fun _ _ => ?_)
       | refine wpX_ldC rfl rfl rfl (by exact z1.out) (by assumption) (fun _ _ => ?_)
       | refine wpX_ef' rfl rfl rfl (fun _ _ => ?_)
     go_wp2_with fail)
  refine stepX_ef rfl rfl (fun _ _ => ?_)
  change Oper.wp _ (Oper.mk _ _ _ _ _ _) _ _ _ _
  go_wp2_with fail
  clear hS hc4
  refine (pglob_any (w.heap.size + 1) (w1.heap.size + 1) w.heap.size w1.heap.size (n3 l).1 (n3 l).2 _ X3 HCAPX.out HRX.out HOX.out (by simp) rfl (Nat.le_trans (n3_len l) HL.out) (qnum_fit _)).mono ?_
  rintro _ W4 ⟨rfl, v3, hr, ho, hov, hfr, hc⟩
  have HR4 := Lib.hid (show Tkr W4 w.heap.size (r3 l).2 from hr)
  have HO4 := Lib.hid (show Blk W4 w1.heap.size #[str (r0 l).1, v1, v2, v3, .slice none 0 0, .slice none 0 0, .slice none 0 0] 45 from ho)
  have HCAP4 := Lib.hid (HCAPX.out.kept hc (by simp; exact HCAPX.out.n3) (by simp; exact HCAPX.out.n4))
  have HOV3 := Lib.hid hov; have HFR3 := Lib.hid hfr; have HK3 := Lib.hid hc
  clear hr ho hov hfr hc HOX HRX HCAPX z1
  have hc4 := HCAP4.out.c4
  have z1 := Lib.hid (Zone.of (X := [w.heap.size]) (w0 := W4.drew) hc4 (by simp))
  go_wp2_with fail
  refine wp_region_T [w.heap.size] rfl (by kernel_rfl) rfl ?_
  have hS : Chg [w.heap.size] W4.drew W4.drew := Chg.refl _ _
  repeat
    (with_reducible show wpX _ _ _ _ _ _ _ _
     first
       | refine wpX_nil ?_
       | refine wpX_skip rfl ?_
       | refine wpX_mv rfl rfl (by kernel_rfl) (fun _ _ => ?_)
       | refine wpX_ldC rfl rfl rfl (by exact z1.out) (by assumption) (fun _ _ => ?_)
       | refine wpX_ef' rfl rfl rfl (fun _ _ => ?_)
     go_wp2_with fail)
  refine (HN4.out W4.drew _ HR4.out).mono ?_; rintro _ X4 ⟨rfl, hr, hc⟩
  have hS : Chg [w.heap.size] W4.drew X4 := hc
  have hcap := HCAP4.out.kept (Chg.trans (S := [w.heap.size]) (⟨rfl, rfl, rfl, Nat.le_refl _, fun _ _ _ => rfl⟩ : Chg _ W4 W4.drew) hc (fun x hx => .inl hx)) (by simp) (by have h := HCAP4.out.n4; simpa using h)
  have HOX := Lib.hid (HO4.out.kept (Chg.trans (S := [w.heap.size]) (⟨rfl, rfl, rfl, Nat.le_refl _, fun _ _ _ => rfl⟩ : Chg _ W4 W4.drew) hc (fun x hx => .inl hx)) (by simpa [eq_comm] using HCAP4.out.n1))
  have HRX := Lib.hid (show Tkr X4 w.heap.size (n4 l).2 from hr); have HCAPX := Lib.hid hcap
  have HE4 := Lib.hid (show Chg [w.heap.size, w1.heap.size] W4 X4 from Chg.trans (S := [w.heap.size, w1.heap.size]) (⟨rfl, rfl, rfl, Nat.le_refl _, fun _ _ _ => rfl⟩ : Chg _ W4 W4.drew) hc (fun x hx => .inl (by simp at hx; simp [hx])))
  clear hr hc hcap
  go_wp2_with fail
  refine And.intro hS ?_
  repeat
    (with_reducible show wpX _ _ _ _ _ _ _ _
     first
       | refine wpX_nil ?_
       | refine wpX_skip rfl ?_
       | refine wpX_mv rfl rfl (by kernel_rfl) (fun _ _ => ?_)
       | refine wpX_ldC rfl rfl rfl (by exact z1.out) (by assumption) (fun _ _ => ?_)
       | refine wpX_ef' rfl rfl rfl (fun _ _ => ?_)
     go_wp2_with fail)
  refine stepX_ef rfl rfl (fun _ _ => ?_)
  change Oper.wp _ (Oper.mk _ _ _ _ _ _) _ _ _ _
  go_wp2_with fail
  clear hS hc4
  refine (pname_any (w.heap.size + 1) (w1.heap.size + 1) w.heap.size w1.heap.size (n4 l).1 (n4 l).2 _ X4 HCAPX.out HRX.out HOX.out (by simp) rfl (Nat.le_trans (n4_len l) HL.out) (qnum_fit _)).mono ?_
  rintro _ W5 ⟨rfl, v5, hr, ho, hov, hfr, hc⟩
  have HR5 := Lib.hid (show Tkr W5 w.heap.size (r4 l).2 from hr)
  have HO5 := Lib.hid (show Blk W5 w1.heap.size #[str (r0 l).1, v1, v2, v3, .slice none 0 0, v5, .slice none 0 0] 45 from ho)
  have HCAP5 := Lib.hid (HCAPX.out.kept hc (by simp; exact HCAPX.out.n3) (by simp; exact HCAPX.out.n4))
  have HOV4 := Lib.hid hov; have HFR4 := Lib.hid hfr; have HK4 := Lib.hid hc
  clear hr ho hov hfr hc HOX HRX HCAPX z1
  have hc4 := HCAP5.out.c4
  have z1 := Lib.hid (Zone.of (X := [w.heap.size]) (w0 := W5.drew) hc4 (by simp))
  go_wp2_with fail
  have hc5 := HCAP5.out.c5
  have ho5 : W5.cell? ⟨w1.heap.size, 5, none⟩ = _ := HO5.out.cell 5 _ rfl
  obtain ⟨a5, c5, hv5, _, _⟩ := own_at (by omega) HOV4.out
  rw [hv5] at ho5
  have z2 := Lib.hid (Zone.of (X := []) (w0 := W5.drew) hc4 (by simp))
  have z3 := Lib.hid (Zone.of (X := []) (w0 := W5.drew) hc5 (by simp))
  have z4 := Lib.hid (Zone.of (X := []) (w0 := W5.drew) ho5 (by simp))
  have hnl : (r4 l).1.length ≤ 1099511627776 := HSM.out.names.1
  refine wp_region_T [] rfl (by kernel_rfl) rfl ?_
  have hS : Chg [] W5.drew W5.drew := Chg.refl _ _
  repeat
    (with_reducible show wpX _ _ _ _ _ _ _ _
     first
       | refine wpX_nil ?_
       | refine wpX_skip rfl ?_
       | refine wpX_mv rfl rfl (by kernel_rfl) (fun _ _ => ?_)
       | refine wpX_ldC rfl rfl rfl (by first | exact z2.out | exact z3.out | exact z4.out) (by assumption) (fun _ _ => ?_)
       | refine wpX_ef' rfl rfl rfl (fun _ _ => ?_)
     go_wp2_with fail)
  refine stepX_ef rfl rfl (fun _ _ => ?_)
  change Oper.wp _ (Oper.mk _ _ _ _ _ _) _ _ _ _
  go_wp2_with fail
  clear hS ho5 hc4 hc5
  have hr : Tkr W5.drew w.heap.size (r4 l).2 := HR5.out
  have HCAPX := Lib.hid (show Caps W5.drew (w.heap.size + 1) (w1.heap.size + 1) w.heap.size w1.heap.size from ⟨HCAP5.out.c4, HCAP5.out.c5, HCAP5.out.n1, HCAP5.out.n2, HCAP5.out.n3, HCAP5.out.n4, HCAP5.out.n5⟩)
  have HE5 := Lib.hid (show Chg [w.heap.size, w1.heap.size] W5 W5.drew from ⟨rfl, rfl, rfl, Nat.le_refl _, fun _ _ _ => rfl⟩)
  refine (pent_any (w.heap.size + 1) (w1.heap.size + 1) w.heap.size w1.heap.size (((r4 l).1.length : Nat) : Int) (r4 l).2 _ W5.drew HCAPX.out hr (show Blk W5.drew _ _ _ from HO5.out) (by simp) rfl (Nat.le_trans (r4_len l) HL.out) (i64_len2 _ hnl)).mono ?_
  rintro _ W6 ⟨rfl, v4, hr, ho, hov, hfr, hc⟩
  rw [ptimes_nn] at hr hov
  have HR6 := Lib.hid (show Tkr W6 w.heap.size (r5 l).2 from hr)
  have HO6 := Lib.hid (show Blk W6 w1.heap.size #[str (r0 l).1, v1, v2, v3, v4, v5, .slice none 0 0] 45 from ho)
  have HCAP6 := Lib.hid (HCAPX.out.kept hc (by simp; exact HCAPX.out.n3) (by simp; exact HCAPX.out.n4))
  have HOV5 := Lib.hid hov; have HFR5 := Lib.hid hfr; have HK5 := Lib.hid hc
  clear hr ho hov hfr hc hnl HCAPX z1
  have hc4 := HCAP6.out.c4
  have z1 := Lib.hid (Zone.of (X := [w.heap.size]) (w0 := W6.drew) hc4 (by simp))
  go_wp2_with fail
  refine wp_region_T [w.heap.size] rfl (by kernel_rfl) rfl ?_
  have hS : Chg [w.heap.size] W6.drew W6.drew := Chg.refl _ _
  repeat
    (with_reducible show wpX _ _ _ _ _ _ _ _
     first
       | refine wpX_nil ?_
       | refine wpX_skip rfl ?_
       | refine wpX_mv rfl rfl (by kernel_rfl) (fun _ _ => ?_)
       | refine wpX_ldC rfl rfl rfl (by exact z1.out) (by assumption) (fun _ _ => ?_)
       | refine wpX_ef' rfl rfl rfl (fun _ _ => ?_)
     go_wp2_with fail)
  refine (HN6.out W6.drew _ HR6.out).mono ?_; rintro _ X6 ⟨rfl, hr, hc⟩
  have hS : Chg [w.heap.size] W6.drew X6 := hc
  have hcap := HCAP6.out.kept (Chg.trans (S := [w.heap.size]) (⟨rfl, rfl, rfl, Nat.le_refl _, fun _ _ _ => rfl⟩ : Chg _ W6 W6.drew) hc (fun x hx => .inl hx)) (by simp) (by have h := HCAP6.out.n4; simpa using h)
  have HOX := Lib.hid (HO6.out.kept (Chg.trans (S := [w.heap.size]) (⟨rfl, rfl, rfl, Nat.le_refl _, fun _ _ _ => rfl⟩ : Chg _ W6 W6.drew) hc (fun x hx => .inl hx)) (by simpa [eq_comm] using HCAP6.out.n1))
  have HRX := Lib.hid (show Tkr X6 w.heap.size (n6 l).2 from hr); have HCAPX := Lib.hid hcap
  have HE6 := Lib.hid (show Chg [w.heap.size, w1.heap.size] W6 X6 from Chg.trans (S := [w.heap.size, w1.heap.size]) (⟨rfl, rfl, rfl, Nat.le_refl _, fun _ _ _ => rfl⟩ : Chg _ W6 W6.drew) hc (fun x hx => .inl (by simp at hx; simp [hx])))
  clear hr hc hcap
  go_wp2_with fail
  refine And.intro hS ?_
  repeat
    (with_reducible show wpX _ _ _ _ _ _ _ _
     first
       | refine wpX_nil ?_
       | refine wpX_skip rfl ?_
       | refine wpX_mv rfl rfl (by kernel_rfl) (fun _ _ => ?_)
       | refine wpX_ldC rfl rfl rfl (by exact z1.out) (by assumption) (fun _ _ => ?_)
       | refine wpX_ef' rfl rfl rfl (fun _ _ => ?_)
     go_wp2_with fail)
  refine stepX_ef rfl rfl (fun _ _ => ?_)
  change Oper.wp _ (Oper.mk _ _ _ _ _ _) _ _ _ _
  go_wp2_with fail
  clear hS hc4
  refine (pinst_any (w.heap.size + 1) (w1.heap.size + 1) w.heap.size w1.heap.size (n6 l).1 (n6 l).2 _ X6 HCAPX.out HRX.out HOX.out (by simp) rfl (Nat.le_trans (n6_len l) HL.out) (qnum_fit _)).mono ?_
  rintro _ W7 ⟨rfl, v6, hr, ho, hov, hfr, hc⟩
  have HR7 := Lib.hid (show Tkr W7 w.heap.size (r6 l).2 from hr)
  have HO7 := Lib.hid (show Blk W7 w1.heap.size #[str (r0 l).1, v1, v2, v3, v4, v5, v6] 45 from ho)
  have HCAP7 := Lib.hid (HCAPX.out.kept hc (by simp; exact HCAPX.out.n3) (by simp; exact HCAPX.out.n4))
  have HOV6 := Lib.hid hov; have HFR6 := Lib.hid hfr; have HK6 := Lib.hid hc
  clear hr ho hov hfr hc HOX HRX HCAPX z1
  have hbt1 : w.heap.size < X1.heap.size := Nat.lt_of_lt_of_le HR1.out.lt HE1.out.size
  have hbo1 : w1.heap.size < X1.heap.size := Nat.lt_of_lt_of_le HO1.out.lt HE1.out.size
  obtain ⟨M, hat⟩ := rread_at hbt1 hbo1 HOV1.out HFR1.out HK1.out HE2.out HOV2.out HMS.out HIN.out HFR2.out HK2.out HE3.out HOV3.out HFR3.out HK3.out HE4.out HOV4.out HFR4.out HK4.out HE5.out HOV5.out HFR5.out HK5.out HE6.out HOV6.out HK6.out HO7.out
  have hall : Chg [] w W7 := HD1.out.trans (HE1.out.then (HK1.out.then (HE2.out.then (HK2.out.then (HE3.out.then (HK3.out.then (HE4.out.then (HK4.out.then (HE5.out.then (HK5.out.then (HE6.out.then HK6.out))))))))))) (fun x hx => by
    have e0 := HC0.out.size
    have e1 := HSZ1.out
    simp only [List.mem_cons, List.not_mem_nil, or_false] at hx
    rcases hx with e | e
    · exact .inr (by omega)
    · exact .inr (by omega))
  have HALL := Lib.hid hall; have HAT := Lib.hid hat
  clear hbt1 hbo1 hall hat
  obtain ⟨te, hte⟩ : ∃ te, (r6 l).2 = te := ⟨_, rfl⟩
  obtain ⟨s, bad⟩ := te
  have h5 := HCAP7.out.c5
  have hW := HWR.out _ _ _ _ M W7 HAT.out HSM.out
  have HW := Lib.hid hW
  have hr7 := HR7.out
  rw [hte] at hr7
  have hr7 : Blk W7 w.heap.size #[str s, .bool bad] 81 := hr7
  have HR7 := Lib.hid hr7
  have HOK := Lib.hid (show okRead l = (!bad && s.isEmpty && right (qobj l) && (encO (qobj l) == l)) by unfold okRead; rw [hte])
  have hll := HL.out
  have hz : (bs l).size = l.length := rfl
  clear hW hr7 hte
  go_wp2_with fail
  refine HW.out.mono ?_; rintro _ w8 ⟨rfl, hc8⟩
  have h4 := hc8.cellSome HCAP7.out.c4 (by simp)
  have h5 := hc8.cellSome HCAP7.out.c5 (by simp)
  have c0 := hc8.cellSome (HR7.out.cell 0 _ rfl) (by simp)
  have c1 := hc8.cellSome (HR7.out.cell 1 _ rfl) (by simp)
  have HAT8 := Lib.hid (show ∃ M, ObjAt w8 w8.heap.size w1.heap.size 0 (qobj l) M from ⟨M, obj_raise (HAT.out.kept hc8 (by simp)) hc8.size⟩)
  have HALL8 := Lib.hid (HALL.out.then hc8)
  clear hc8
  cases hb : bad
  all_goals rw [hb] at c1
  · rcases hs : s with _ | ⟨cc, rr⟩
    all_goals rw [hs] at c0
    · cases hr : right (qobj l)
      · simp only [hr, Bool.false_eq_true, if_false]
        have HFAL := Lib.hid (show okRead l = false by rw [HOK.out, hr]; simp)
        go_wp2_with fail
        go_ret2
        exact ⟨HALL8.out, .inr ⟨HFAL.out, rfl⟩⟩
      · simp only [hr, if_true]
        cases he : (encO (qobj l) == l)
        · have HFAL := Lib.hid (show okRead l = false by rw [HOK.out, he]; simp)
          have he2 : (encO (qobj l) != l) = true := by rw [bne, he]; rfl
          go_wp2_with fail
          go_ret2
          exact ⟨HALL8.out, .inr ⟨HFAL.out, rfl⟩⟩
        · have HTRU := Lib.hid (show okRead l = true by rw [HOK.out, he, hr, hb, hs]; rfl)
          have he2 : (encO (qobj l) != l) = false := by rw [bne, he]; rfl
          go_wp2_with fail
          go_ret2
          obtain ⟨M2, hat2⟩ := HAT8.out
          exact ⟨HALL8.out, .inl ⟨HTRU.out, _, M2, rfl, hat2⟩⟩
    · have HFAL := Lib.hid (show okRead l = false by rw [HOK.out, hs]; simp)
      go_wp2_with fail
      all_goals
        go_ret2
        exact ⟨HALL8.out, .inr ⟨HFAL.out, rfl⟩⟩
  · have HFAL := Lib.hid (show okRead l = false by rw [HOK.out, hb]; simp)
    go_wp2_with fail
    all_goals
      go_ret2
      exact ⟨HALL8.out, .inr ⟨HFAL.out, rfl⟩⟩
end Go.Proofs.YtjgfclhempjinaaGreatDoor
