/- The plain law of the document's Read: what is written is read; it reads just what obj.Parse reads. No program is walked here. -/
import Derived.Test.YtjgfclhempjinaaGreatDoorRefRead
import Derived.Test.YtjgfclhempjinaaGreatDoorObjLaw
namespace Go.Mq.Obj
open Go Go.RowKit Go.Mq
theorem pow128 {i : Nat} (h : i ≤ 9) : 128 ^ i ≤ 9223372036854775808 ∧ 1 ≤ 128 ^ i := by
  have e : (128 : Nat) ^ 9 = 9223372036854775808 := by decide
  exact ⟨e ▸ Nat.pow_le_pow_right (by omega) h, Nat.one_le_pow _ _ (by omega)⟩
theorem qgo_vint (f : Nat) : ∀ (i acc u : Nat) (r : List UInt8), i + f = 9 → acc + u * 128 ^ i < 18446744073709551616 → qgo i acc (128 ^ i) (vint f u ++ r) = some (acc + u * 128 ^ i, r) := by
  induction f with
  | zero =>
    intro i acc u r hi hu
    have hi9 : i = 9 := by omega
    subst hi9
    have e9 : (128 : Nat) ^ 9 = 9223372036854775808 := by decide
    rw [e9] at hu ⊢
    have hu1 : u < 2 := by omega
    simp only [vint, List.cons_append, List.nil_append, qgo]
    rw [if_neg (by omega), u8_nat (by omega), if_pos (by omega), Nat.mod_eq_of_lt (show u < 128 by omega), Nat.mod_eq_of_lt (show u * 9223372036854775808 < 18446744073709551616 by omega), Nat.mod_eq_of_lt hu]
  | succ f ih =>
    intro i acc u r hi hu
    obtain ⟨hp, hp1⟩ := pow128 (show i ≤ 9 by omega)
    simp only [vint]
    by_cases hs : u < 128
    · rw [if_pos hs]
      simp only [List.cons_append, List.nil_append, qgo]
      rw [if_neg (by omega), u8_nat (by omega), if_pos hs, Nat.mod_eq_of_lt hs, Nat.mod_eq_of_lt (show u * 128 ^ i < 18446744073709551616 by omega), Nat.mod_eq_of_lt hu]
    · rw [if_neg hs]
      simp only [List.cons_append, qgo]
      have e1 : (u % 128 + 128) % 128 = u % 128 := by omega
      have e2 : u / 128 * 128 ^ (i + 1) = u / 128 * 128 * 128 ^ i := by rw [Nat.pow_succ, Nat.mul_assoc, Nat.mul_comm (128 ^ i)]
      have e3 : u % 128 * 128 ^ i + u / 128 * 128 * 128 ^ i = u * 128 ^ i := by rw [← Nat.add_mul]; congr 1; omega
      have hq := (pow128 (show i + 1 ≤ 9 by omega)).1
      have e4 : 128 ^ i * 128 = 128 ^ (i + 1) := (Nat.pow_succ ..).symm
      rw [if_neg (by omega), u8_nat (by omega), if_neg (by omega), e1, Nat.mod_eq_of_lt (show u % 128 * 128 ^ i < 18446744073709551616 by omega), Nat.mod_eq_of_lt (show acc + u % 128 * 128 ^ i < 18446744073709551616 by omega), e4, Nat.mod_eq_of_lt (show 128 ^ (i + 1) < 18446744073709551616 by omega),
        ih (i + 1) _ (u / 128) r (by omega) (by rw [e2]; omega), e2, Nat.add_assoc, e3]
theorem qval_zig (n : Int) : qval (zig n) = n := by unfold qval zig; split <;> split <;> omega
theorem qnum_enc {n : Int} (h : I64 n) (r : List UInt8) : qnum ⟨encN n ++ r, false⟩ = (n, ⟨r, false⟩) := by
  have := qgo_vint 9 0 0 (zig n) r rfl (by have := zig_64 h; omega)
  rw [Nat.pow_zero, Nat.mul_one, Nat.zero_add] at this
  unfold qnum
  simp only [Bool.false_eq_true, if_false]
  unfold encN
  rw [this]
  simp only [qval_zig]
theorem qtext_enc {t : List UInt8} (ht : t.length < 9223372036854775808) (r : List UInt8) : qtext ⟨encT (bs t) ++ r, false⟩ = (t, ⟨r, false⟩) := by
  have e : qnum ⟨encT (bs t) ++ r, false⟩ = ((t.length : Int), ⟨t ++ r, false⟩) := by
    unfold encT
    rw [List.append_assoc]
    exact qnum_enc (n := (t.length : Int)) ⟨by omega, by omega⟩ (t ++ r)
  unfold qtext
  rw [e]
  simp only
  rw [if_neg (by simp; omega)]
  simp
/-- What is written of one is read as one. -/
def Qt {α : Type} (p : TK → List α × TK) (enc : α → List UInt8) (x : α) : Prop := ∀ r, p ⟨enc x ++ r, false⟩ = ([x], ⟨r, false⟩)
theorem qrun_enc {α : Type} {p : TK → List α × TK} {enc : α → List UInt8} (l : List α) : (∀ x ∈ l, Qt p enc x) → ∀ r, qrun p l.length ⟨l.flatMap enc ++ r, false⟩ = (l, ⟨r, false⟩) := by
  induction l with
  | nil => intro _ r; rfl
  | cons x l ih =>
    intro h r
    rw [List.length_cons, qrun, List.flatMap_cons, List.append_assoc, h x (by simp)]
    simp only [Bool.false_eq_true, if_false]
    rw [ih (fun y hy => h y (by simp [hy]))]
    rfl
theorem qt1_enc {t : List UInt8} (ht : t.length < 9223372036854775808) : Qt qt1 (fun t => encT (bs t)) t := fun r => by
  unfold qt1; rw [qtext_enc ht]
theorem qsym_enc {s : SymD} (hf : s.fit) (hn : s.name.length < 9223372036854775808) : Qt qsym1 encSym s := by
  intro r
  unfold qsym1 qsym encSym
  simp only [List.append_assoc]
  rw [qtext_enc hn]
  simp only
  rw [qnum_enc hf.1]
  simp only
  rw [qnum_enc hf.2]
theorem qent_enc {p : EntD} (hf : p.fit) : Qt qent1 encEnt p := by
  intro r
  unfold qent1 qent encEnt
  simp only [List.append_assoc]
  rw [qnum_enc hf.1]
  simp only
  rw [qnum_enc hf.2.1]
  simp only
  rw [qnum_enc hf.2.2]
theorem qinst_enc {p : InstD} (hf : p.fit) : Qt qinst1 encInst p := by
  intro r
  unfold qinst1 qinst encInst
  simp only [List.append_assoc]
  rw [qnum_enc hf.1]
  simp only
  rw [qnum_enc hf.2.1]
  simp only
  rw [qnum_enc hf.2.2]
theorem qglob_enc {g : GlobD} (hf : g.fit) (hn : g.name.length < 9223372036854775808) (hp : g.place = 0) : Qt qglob encGlob g := by
  intro r
  obtain ⟨nm, pl, ln, sn⟩ := g
  simp only at hp
  subst hp
  unfold qglob encGlob
  simp only [List.append_assoc]
  rw [qtext_enc hn]
  simp only
  rw [qnum_enc hf.2]
  cases sn <;> simp
theorem qtexts_enc {l : List (List UInt8)} (hl : l.length < 9223372036854775808) (h : ∀ t ∈ l, t.length < 9223372036854775808) (r : List UInt8) :
    qnum ⟨encTs (l.map bs) ++ r, false⟩ = ((l.length : Int), ⟨l.flatMap (fun t => encT (bs t)) ++ r, false⟩) ∧ qrun qt1 l.length ⟨l.flatMap (fun t => encT (bs t)) ++ r, false⟩ = (l, ⟨r, false⟩) := by
  refine ⟨?_, qrun_enc (p := qt1) l (fun t ht => qt1_enc (h t ht)) r⟩
  unfold encTs
  rw [List.length_map, List.append_assoc, List.flatMap_map]
  exact qnum_enc ⟨by omega, by omega⟩ _
theorem quse_enc {u : UseD} (h1 : u.name.length < 9223372036854775808) (h2 : u.need.length < 9223372036854775808) (h3 : u.names.length < 9223372036854775808) (h4 : ∀ t ∈ u.names, t.length < 9223372036854775808) : Qt quse1 encUse u := by
  intro r
  obtain ⟨e1, e2⟩ := qtexts_enc h3 h4 r
  unfold quse1 quse encUse
  simp only [List.append_assoc]
  rw [qtext_enc h1]
  simp only
  rw [qtext_enc h2]
  simp only
  rw [e1]
  simp only [Int.toNat_natCast]
  rw [e2]
/-- What is written of an object that may be is read as that object. -/
theorem qobj_enc {o : ObjD} (hs : o.small) (hr : right o = true) : qobj (encO o) = o ∧ (r6 (encO o)).2 = ⟨[], false⟩ := by
  have hlen : o.names.length = o.procs.length := by
    simp only [right, Bool.and_eq_true, decide_eq_true_eq, partsOK, headOK] at hr
    exact hr.1.1.2.1.1.1.1.1.1.2
  have hpl : ∀ g ∈ o.vars, g.place = 0 := fun g hg => by
    simp only [right, Bool.and_eq_true, partsOK] at hr
    have h := List.all_eq_true.1 hr.1.1.2.1.2 g hg
    simp only [globOK, Bool.and_eq_true, decide_eq_true_eq] at h
    exact h.1.1.2
  have b : ∀ {n : Nat}, n ≤ 1099511627776 → n < 9223372036854775808 := fun h => by omega
  have i : ∀ {n : Nat}, n ≤ 1099511627776 → I64 (n : Int) := fun h => ⟨by omega, by omega⟩
  have f := hs.fit
  have h0 := encO_eq o []
  rw [List.append_nil] at h0
  have a0 : r0 (encO o) = (o.name, ⟨(encN o.syms.length ++ (o.syms.flatMap encSym ++ (encN o.uses.length ++ (o.uses.flatMap encUse ++ (encN o.vars.length ++ (o.vars.flatMap encGlob ++ (encTs (o.names.map bs) ++ (o.procs.flatMap encEnt ++ (encN o.code.length ++ (o.code.flatMap encInst ++ [])))))))))), false⟩) := by unfold r0; rw [h0]; exact qtext_enc (b hs.name) _
  have a1 : n1 (encO o) = ((o.syms.length : Int), ⟨(o.syms.flatMap encSym ++ (encN o.uses.length ++ (o.uses.flatMap encUse ++ (encN o.vars.length ++ (o.vars.flatMap encGlob ++ (encTs (o.names.map bs) ++ (o.procs.flatMap encEnt ++ (encN o.code.length ++ (o.code.flatMap encInst ++ []))))))))), false⟩) := by unfold n1; rw [a0]; exact qnum_enc (i hs.syms.1) _
  have b1 : r1 (encO o) = (o.syms, ⟨(encN o.uses.length ++ (o.uses.flatMap encUse ++ (encN o.vars.length ++ (o.vars.flatMap encGlob ++ (encTs (o.names.map bs) ++ (o.procs.flatMap encEnt ++ (encN o.code.length ++ (o.code.flatMap encInst ++ [])))))))), false⟩) := by unfold r1; rw [a1]; exact qrun_enc (p := qsym1) o.syms (fun s h => qsym_enc (f.syms s h) (b (hs.syms.2 s h))) _
  have a2 : n2 (encO o) = ((o.uses.length : Int), ⟨(o.uses.flatMap encUse ++ (encN o.vars.length ++ (o.vars.flatMap encGlob ++ (encTs (o.names.map bs) ++ (o.procs.flatMap encEnt ++ (encN o.code.length ++ (o.code.flatMap encInst ++ []))))))), false⟩) := by unfold n2; rw [b1]; exact qnum_enc (i hs.uses.1) _
  have b2 : r2 (encO o) = (o.uses, ⟨(encN o.vars.length ++ (o.vars.flatMap encGlob ++ (encTs (o.names.map bs) ++ (o.procs.flatMap encEnt ++ (encN o.code.length ++ (o.code.flatMap encInst ++ [])))))), false⟩) := by unfold r2; rw [a2]; exact qrun_enc (p := quse1) o.uses (fun u h => quse_enc (b (hs.uses.2 u h).1) (b (hs.uses.2 u h).2.1) (b (hs.uses.2 u h).2.2.1) (fun t ht => b ((hs.uses.2 u h).2.2.2 t ht))) _
  have a3 : n3 (encO o) = ((o.vars.length : Int), ⟨(o.vars.flatMap encGlob ++ (encTs (o.names.map bs) ++ (o.procs.flatMap encEnt ++ (encN o.code.length ++ (o.code.flatMap encInst ++ []))))), false⟩) := by unfold n3; rw [b2]; exact qnum_enc (i hs.vars.1) _
  have b3 : r3 (encO o) = (o.vars, ⟨(encTs (o.names.map bs) ++ (o.procs.flatMap encEnt ++ (encN o.code.length ++ (o.code.flatMap encInst ++ [])))), false⟩) := by unfold r3; rw [a3]; exact qrun_enc (p := qglob) o.vars (fun g h => qglob_enc (f.vars g h) (b (hs.vars.2 g h)) (hpl g h)) _
  have a4 : n4 (encO o) = ((o.names.length : Int), ⟨(o.names.flatMap (fun t => encT (bs t)) ++ (o.procs.flatMap encEnt ++ (encN o.code.length ++ (o.code.flatMap encInst ++ [])))), false⟩) := by unfold n4; rw [b3]; exact (qtexts_enc (b hs.names.1) (fun t h => b (hs.names.2 t h)) _).1
  have b4 : r4 (encO o) = (o.names, ⟨(o.procs.flatMap encEnt ++ (encN o.code.length ++ (o.code.flatMap encInst ++ []))), false⟩) := by unfold r4; rw [a4]; exact (qtexts_enc (b hs.names.1) (fun t h => b (hs.names.2 t h)) _).2
  have b5 : r5 (encO o) = (o.procs, ⟨(encN o.code.length ++ (o.code.flatMap encInst ++ [])), false⟩) := by unfold r5; rw [b4]; simp only; rw [hlen]; exact qrun_enc (p := qent1) o.procs (fun x h => qent_enc (f.procs x h)) _
  have a6 : n6 (encO o) = ((o.code.length : Int), ⟨(o.code.flatMap encInst ++ []), false⟩) := by unfold n6; rw [b5]; exact qnum_enc (i hs.code) _
  have b6 : r6 (encO o) = (o.code, ⟨[], false⟩) := by unfold r6; rw [a6]; exact qrun_enc (p := qinst1) o.code (fun x h => qinst_enc (f.code x h)) []
  refine ⟨?_, by rw [b6]⟩
  unfold qobj
  rw [a0, b1, b2, b3, b4, b5, b6]
/-- The document's Read reads just what obj.Parse reads. -/
theorem okRead_parsed {l : List UInt8} (hl : l.length ≤ 1000000000000) (hp : parsed l = true → (pObj l).small) : okRead l = parsed l ∧ (parsed l = true → qobj l = pObj l) := by
  have h1 : parsed l = true → okRead l = true ∧ qobj l = pObj l := fun h => by
    have he := parsed_enc h
    have hr := (parsed_iff.1 h).2
    obtain ⟨e1, e2⟩ := qobj_enc (hp h) hr
    rw [he] at e1 e2
    refine ⟨?_, e1⟩
    unfold okRead
    rw [e2, e1, hr, he]
    simp
  have h2 : okRead l = true → parsed l = true := fun h => by
    unfold okRead at h
    simp only [Bool.and_eq_true, beq_iff_eq] at h
    have := parsed_more (qobj_small l hl) h.1.2 []
    rw [List.append_nil, h.2] at this
    rw [this]; rfl
  refine ⟨?_, fun h => (h1 h).2⟩
  rw [Bool.eq_iff_iff]
  exact ⟨h2, fun h => (h1 h).1⟩
end Go.Mq.Obj
