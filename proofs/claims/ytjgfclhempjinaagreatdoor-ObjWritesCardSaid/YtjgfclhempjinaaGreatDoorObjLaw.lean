/- The plain law of objects' bytes: what is written is read, and what is read is written. No program is walked here. -/
import Derived.Test.YtjgfclhempjinaaGreatDoorObjParse
import Derived.Test.YtjgfclhempjinaaGreatDoorObjW10
namespace Go.Mq.Obj
open Go Go.RowKit Go.Mq Go.Proofs.YtjgfclhempjinaaGreatDoor

theorem u8_nat {n : Nat} (h : n < 256) : (UInt8.ofNat n).toNat = n := by simp; omega
theorem ofNat_u8 (c : UInt8) : UInt8.ofNat c.toNat = c := by simp

theorem rdv_vint (f : Nat) : ∀ (i acc u : Nat) (r : List UInt8), i + f = 9 → u * 128 ^ i < 18446744073709551616 → (0 < i → 0 < u) → rdv i acc (vint f u ++ r) = some (acc + u * 128 ^ i, r) := by
  induction f with
  | zero =>
    intro i acc u r hi hu h0
    have hi9 : i = 9 := by omega
    subst hi9
    have e9 : 128 ^ 9 = 9223372036854775808 := by decide
    have hu1 : u < 2 := by rw [e9] at hu; omega
    have hp := h0 (by omega)
    simp only [vint, List.cons_append, List.nil_append, rdv]
    rw [if_neg (by omega), u8_nat (by omega), if_neg (by omega), if_pos (by omega), Nat.mod_eq_of_lt (by omega)]
  | succ f ih =>
    intro i acc u r hi hu h0
    simp only [vint]
    by_cases hs : u < 128
    · rw [if_pos hs]
      simp only [List.cons_append, List.nil_append, rdv]
      rw [if_neg (by omega), u8_nat (by omega), if_neg (by omega), if_pos hs, Nat.mod_eq_of_lt hs]
    · rw [if_neg hs]
      simp only [List.cons_append, rdv]
      have e1 : (u % 128 + 128) % 128 = u % 128 := by omega
      have e2 : u / 128 * 128 ^ (i + 1) = u / 128 * 128 * 128 ^ i := by rw [Nat.pow_succ, Nat.mul_assoc, Nat.mul_comm (128 ^ i)]
      have e3 : u % 128 * 128 ^ i + u / 128 * 128 * 128 ^ i = u * 128 ^ i := by rw [← Nat.add_mul]; congr 1; omega
      rw [if_neg (by omega), u8_nat (by omega), if_neg (by omega), if_neg (by omega), e1, ih (i + 1) _ (u / 128) r (by omega) (by rw [e2]; omega) (fun _ => by omega), e2, Nat.add_assoc, e3]

theorem vint_rdv (l : List UInt8) : ∀ (i acc v : Nat) (t : List UInt8), i ≤ 9 → rdv i acc l = some (v, t) → ∃ u, v = acc + u * 128 ^ i ∧ l = vint (9 - i) u ++ t ∧ (0 < i → 0 < u) := by
  induction l with
  | nil => intro i acc v t _ h; simp [rdv] at h
  | cons c l ih =>
    intro i acc v t hi h
    rw [rdv, if_neg (by omega)] at h
    split at h
    · cases h
    · rename_i hb
      split at h
      · rename_i hs
        simp at h
        obtain ⟨rfl, rfl⟩ := h
        refine ⟨c.toNat, by rw [Nat.mod_eq_of_lt hs], ?_, fun h0 => by omega⟩
        rw [vint_small hs, ofNat_u8]
        rfl
      · rename_i hs
        have hc := c.toNat_lt
        obtain ⟨u, rfl, hl, h0⟩ := ih (i + 1) _ v t (by omega) h
        have h0 := h0 (by omega)
        refine ⟨c.toNat % 128 + 128 * u, ?_, ?_, fun _ => by omega⟩
        · have e2 : u * 128 ^ (i + 1) = 128 * u * 128 ^ i := by rw [Nat.pow_succ, Nat.mul_comm (128 ^ i), ← Nat.mul_assoc, Nat.mul_comm u]
          rw [e2, Nat.add_mul, Nat.add_assoc]
        · have e : 9 - i = (9 - (i + 1)) + 1 := by omega
          rw [e, vint, if_neg (by omega), hl]
          have e1 : (c.toNat % 128 + 128 * u) % 128 + 128 = c.toNat := by omega
          have e2 : (c.toNat % 128 + 128 * u) / 128 = u := by omega
          rw [e1, e2, ofNat_u8]
          rfl

theorem unzig_zig (n : Int) : unzig (zig n) = n := by unfold unzig zig; split <;> split <;> omega
theorem zig_unzig (u : Nat) : zig (unzig u) = u := by unfold unzig zig; split <;> split <;> omega
theorem zig_64 {n : Int} (h : I64 n) : zig n < 18446744073709551616 := by unfold zig; have h1 := h.1; have h2 := h.2; split <;> omega

theorem num_enc {n : Int} (h : I64 n) (r : List UInt8) : pNum (some (encN n ++ r)) = (n, some r) := by
  have h1 := rdv_vint 9 0 0 (zig n) r (by omega) (by have := zig_64 h; omega) (fun h => by omega)
  rw [pNum_some (u := zig n) (t := r) (by rw [show (St.str (some (encN n ++ r))) = vint 9 (zig n) ++ r from rfl, h1]; simp), unzig_zig]
theorem enc_num {st : St} {n : Int} {r : List UInt8} (h : pNum st = (n, some r)) : st = some (encN n ++ r) := by
  cases hr : rdv 0 0 st.str with
  | none => rw [pNum_none hr] at h; simp at h
  | some x =>
    obtain ⟨u, t⟩ := x
    rw [pNum_some hr] at h
    simp at h
    obtain ⟨rfl, rfl⟩ := h
    obtain ⟨u', h1, h2, _⟩ := vint_rdv _ 0 0 u t (by omega) hr
    simp at h1
    subst h1
    cases st with
    | none => simp [St.str] at h2; have := encN_pos (unzig u); unfold encN at this; rw [zig_unzig, h2.1] at this; simp at this
    | some l => simp [St.str] at h2; rw [h2, encN, zig_unzig]

/-- What is written of x is read as x. -/
def Rt {α : Type} (p : St → α × St) (enc : α → List UInt8) (x : α) : Prop := ∀ r, p (some (enc x ++ r)) = (x, some r)
/-- What is read was written so. -/
def Tr {α : Type} (p : St → α × St) (enc : α → List UInt8) : Prop := ∀ st x r, p st = (x, some r) → st = some (enc x ++ r)

theorem many_enc {n : Nat} {r : List UInt8} (hn : n < 9223372036854775808) (h : n ≤ r.length) : pMany (some (encN n ++ r)) = (n, some r) := by
  have h1 := num_enc (n := (n : Int)) ⟨by omega, by omega⟩ r
  unfold pMany
  rw [h1]
  simp only
  rw [if_neg (by show ¬ ((n : Int) < 0 ∨ ((St.str (some r)).length : Int) < n); simp only [St.str]; omega)]
  simp
theorem enc_many {st : St} {n : Nat} {r : List UInt8} (h : pMany st = (n, some r)) : st = some (encN n ++ r) ∧ n ≤ r.length := by
  unfold pMany at h
  cases hp : pNum st with
  | mk m st' =>
    rw [hp] at h
    simp only at h
    split at h
    · simp at h
    · rename_i hc
      simp at h
      obtain ⟨rfl, rfl⟩ := h
      have hm := enc_num hp
      have e : ((m.toNat : Nat) : Int) = m := by omega
      refine ⟨by rw [e]; exact hm, ?_⟩
      simp only [St.str] at hc
      omega

theorem text_enc {t : List UInt8} (ht : t.length < 9223372036854775808) : Rt pText (fun t => encT (bs t)) t := by
  intro r
  have e : encT (bs t) ++ r = encN t.length ++ (t ++ r) := by simp only [encT, bs_size, List.append_assoc]
  unfold pText
  simp only
  rw [e, many_enc ht (by simp)]
  simp [St.str]
theorem enc_text : Tr pText (fun t => encT (bs t)) := by
  intro st t r h
  unfold pText at h
  cases hm : pMany st with
  | mk n st' =>
    rw [hm] at h
    simp only at h
    cases st' with
    | none => simp at h
    | some l =>
      simp [St.str] at h
      obtain ⟨rfl, rfl⟩ := h
      obtain ⟨h1, h2⟩ := enc_many hm
      rw [h1]
      have e : (List.take n l).length = n := by rw [List.length_take]; omega
      simp only [encT, bs_size, e, List.append_assoc, List.take_append_drop]
theorem flag_enc (b : Bool) : Rt pFlag (fun b => [if b then 1 else 0]) b := by
  intro r
  cases b <;> simp [pFlag, St.str]
theorem enc_flag : Tr pFlag (fun b => [if b then 1 else 0]) := by
  intro st b r h
  unfold pFlag at h
  split at h
  · simp at h
  · rename_i c t hs
    split at h
    · simp at h
    · rename_i hc
      simp at h
      obtain ⟨rfl, rfl⟩ := h
      cases st with
      | none => simp [St.str] at hs
      | some l =>
        simp only [St.str] at hs
        subst hs
        have hcs : c = 0 ∨ c = 1 := by
          have : c.toNat = 0 ∨ c.toNat = 1 := by omega
          rcases this with h | h
          · exact .inl (by rw [← ofNat_u8 c, h]; rfl)
          · exact .inr (by rw [← ofNat_u8 c, h]; rfl)
        rcases hcs with rfl | rfl <;> simp

theorem rep_next {α : Type} (p : St → α × St) (n : Nat) (st : St) : rep p (n + 1) st = ((rep p n st).1 ++ [(p (rep p n st).2).1], (p (rep p n st).2).2) := rfl
theorem rep_cons {α : Type} (p : St → α × St) (n : Nat) : ∀ st, rep p (n + 1) st = ((p st).1 :: (rep p n (p st).2).1, (rep p n (p st).2).2) := by
  induction n with
  | zero => intro st; simp [rep]
  | succ n ih =>
    intro st
    rw [rep_next, ih st, rep_next p n (p st).2]
    simp
theorem rep_enc {α : Type} {p : St → α × St} {enc : α → List UInt8} (l : List α) : (∀ x ∈ l, Rt p enc x) → ∀ r, rep p l.length (some (l.flatMap enc ++ r)) = (l, some r) := by
  induction l with
  | nil => intro _ r; simp [rep]
  | cons x l ih =>
    intro h r
    rw [List.length_cons, rep_cons, List.flatMap_cons, List.append_assoc, h x (by simp), ih (fun y hy => h y (by simp [hy]))]
theorem enc_rep {α : Type} {p : St → α × St} {enc : α → List UInt8} (h : Tr p enc) (n : Nat) : ∀ (st : St) (l : List α) (r : List UInt8), rep p n st = (l, some r) → st = some (l.flatMap enc ++ r) := by
  induction n with
  | zero =>
    intro st l r hr
    simp [rep] at hr
    obtain ⟨rfl, rfl⟩ := hr
    simp
  | succ n ih =>
    intro st l r hr
    rw [rep_cons] at hr
    simp only [Prod.mk.injEq] at hr
    obtain ⟨rfl, hr⟩ := hr
    have h2 := ih (p st).2 (rep p n (p st).2).1 r (by rw [← hr])
    have h3 := h st (p st).1 _ (by rw [← h2])
    rw [List.flatMap_cons, List.append_assoc]
    exact h3
theorem flat_ge {α : Type} {enc : α → List UInt8} (h : ∀ x, 1 ≤ (enc x).length) (l : List α) : l.length ≤ (l.flatMap enc).length := by
  induction l with
  | nil => simp
  | cons x l ih => have := h x; rw [List.flatMap_cons, List.length_append, List.length_cons]; omega
theorem list_enc {α : Type} {p : St → α × St} {enc : α → List UInt8} (hp : ∀ x, 1 ≤ (enc x).length) {l : List α} (hl : l.length < 9223372036854775808) (h : ∀ x ∈ l, Rt p enc x) (r : List UInt8) :
    pList p (some (encN l.length ++ (l.flatMap enc ++ r))) = (l, some r) := by
  unfold pList
  rw [many_enc hl (by have := flat_ge hp l; rw [List.length_append]; omega)]
  exact rep_enc l h r
theorem enc_list {α : Type} {p : St → α × St} {enc : α → List UInt8} (h : Tr p enc) {st : St} {l : List α} {r : List UInt8} (hr : pList p st = (l, some r)) : st = some (encN l.length ++ (l.flatMap enc ++ r)) := by
  unfold pList at hr
  have h1 := enc_rep h _ _ _ _ hr
  have h2 := rep_count p (pMany st).1 (pMany st).2
  rw [hr] at h2
  simp only at h2
  have h3 := enc_many (st := st) (n := (pMany st).1) (r := l.flatMap enc ++ r) (by rw [← h1])
  rw [h2]
  exact h3.1

theorem encT_pos (s : List UInt8) : 1 ≤ (encT (bs s)).length := by rw [encT_length]; have := encN_pos ((bs s).size : Int); omega
theorem texts_enc {l : List (List UInt8)} (hl : l.length < 9223372036854775808) (h : ∀ t ∈ l, t.length < 9223372036854775808) : Rt pTexts (fun l => encTs (l.map bs)) l := by
  intro r
  have h1 := list_enc (p := pText) (enc := fun t => encT (bs t)) encT_pos hl (fun t ht => text_enc (h t ht)) r
  rw [← h1]
  show pList pText _ = _
  congr 2
  simp only [encTs, List.length_map, List.append_assoc, List.flatMap_map]
theorem enc_texts : Tr pTexts (fun l => encTs (l.map bs)) := by
  intro st l r h
  have h1 := enc_list enc_text (st := st) (l := l) (r := r) h
  rw [h1]
  simp only [encTs, List.length_map, List.append_assoc, List.flatMap_map]

/-! ### The parts -/
theorem sym_enc {s : SymD} (hf : s.fit) (hn : s.name.length < 9223372036854775808) : Rt pSym encSym s := by
  intro r
  unfold pSym encSym
  simp only [List.append_assoc]
  rw [text_enc hn]
  simp only
  rw [num_enc hf.1]
  simp only
  rw [num_enc hf.2]
theorem use_enc {u : UseD} (h1 : u.name.length < 9223372036854775808) (h2 : u.need.length < 9223372036854775808) (h3 : u.names.length < 9223372036854775808) (h4 : ∀ t ∈ u.names, t.length < 9223372036854775808) : Rt pUse encUse u := by
  intro r
  unfold pUse encUse
  simp only [List.append_assoc]
  rw [text_enc h1]
  simp only
  rw [text_enc h2]
  simp only
  rw [texts_enc h3 h4]
theorem glob_enc {g : GlobD} (hf : g.fit) (hn : g.name.length < 9223372036854775808) (hp : g.place = 0) : Rt pGlob encGlob g := by
  intro r
  obtain ⟨nm, pl, ln, sn⟩ := g
  simp only at hp
  subst hp
  unfold pGlob encGlob
  simp only [List.append_assoc]
  rw [text_enc hn]
  simp only
  rw [num_enc hf.2]
  simp only
  rw [flag_enc]
theorem ent_enc {p : EntD} (hf : p.fit) : Rt pEnt encEnt p := by
  intro r
  unfold pEnt encEnt
  simp only [List.append_assoc]
  rw [num_enc hf.1]
  simp only
  rw [num_enc hf.2.1]
  simp only
  rw [num_enc hf.2.2]
theorem inst_enc {x : InstD} (hf : x.fit) : Rt pInst encInst x := by
  intro r
  unfold pInst encInst
  simp only [List.append_assoc]
  rw [num_enc hf.1]
  simp only
  rw [num_enc hf.2.1]
  simp only
  rw [num_enc hf.2.2]
theorem mk_eq {α β : Type} (x : α × β) : x = (x.1, x.2) := rfl
theorem some_of {st : St} {r : List UInt8} {α : Type} {p : St → α × St} {x : α} (h : p st = (x, some r)) : (p st).2 = some r := by rw [h]
theorem enc_sym : Tr pSym encSym := by
  intro st s r h
  unfold pSym at h
  simp only [Prod.mk.injEq] at h
  obtain ⟨rfl, h⟩ := h
  have h3 := enc_num (st := (pNum (pText st).2).2) (n := _) (r := r) (by rw [← h])
  have h2 := enc_num (st := (pText st).2) (n := _) (r := _) (by rw [← h3])
  have h1 := enc_text st (pText st).1 _ (by rw [← h2])
  rw [encSym, List.append_assoc, List.append_assoc]
  exact h1
theorem enc_use : Tr pUse encUse := by
  intro st s r h
  unfold pUse at h
  simp only [Prod.mk.injEq] at h
  obtain ⟨rfl, h⟩ := h
  have h3 := enc_texts (pText (pText st).2).2 _ r (by rw [← h])
  have h2 := enc_text (pText st).2 _ _ (by rw [← h3])
  have h1 := enc_text st (pText st).1 _ (by rw [← h2])
  rw [encUse, List.append_assoc, List.append_assoc]
  exact h1
theorem enc_glob : Tr pGlob encGlob := by
  intro st s r h
  unfold pGlob at h
  simp only [Prod.mk.injEq] at h
  obtain ⟨rfl, h⟩ := h
  have h3 := enc_flag (pNum (pText st).2).2 _ r (by rw [← h])
  have h2 := enc_num (st := (pText st).2) (n := _) (r := _) (by rw [← h3])
  have h1 := enc_text st (pText st).1 _ (by rw [← h2])
  rw [encGlob, List.append_assoc, List.append_assoc]
  exact h1
theorem enc_ent : Tr pEnt encEnt := by
  intro st s r h
  unfold pEnt at h
  simp only [Prod.mk.injEq] at h
  obtain ⟨rfl, h⟩ := h
  have h3 := enc_num (st := (pNum (pNum st).2).2) (n := _) (r := r) (by rw [← h])
  have h2 := enc_num (st := (pNum st).2) (n := _) (r := _) (by rw [← h3])
  have h1 := enc_num (st := st) (n := (pNum st).1) (r := _) (by rw [← h2])
  rw [encEnt, List.append_assoc, List.append_assoc]
  exact h1
theorem enc_inst : Tr pInst encInst := by
  intro st s r h
  unfold pInst at h
  simp only [Prod.mk.injEq] at h
  obtain ⟨rfl, h⟩ := h
  have h3 := enc_num (st := (pNum (pNum st).2).2) (n := _) (r := r) (by rw [← h])
  have h2 := enc_num (st := (pNum st).2) (n := _) (r := _) (by rw [← h3])
  have h1 := enc_num (st := st) (n := (pNum st).1) (r := _) (by rw [← h2])
  rw [encInst, List.append_assoc, List.append_assoc]
  exact h1

/-! ### The object -/
theorem encO_eq (o : ObjD) (r : List UInt8) : encO o ++ r = encT (bs o.name) ++ (encN o.syms.length ++ (o.syms.flatMap encSym ++ (encN o.uses.length ++ (o.uses.flatMap encUse ++ (encN o.vars.length ++ (o.vars.flatMap encGlob ++
    (encTs (o.names.map bs) ++ (o.procs.flatMap encEnt ++ (encN o.code.length ++ (o.code.flatMap encInst ++ r)))))))))) := by
  simp only [encO, pre5, pre4, pre3, pre2, pre1, List.append_assoc]

theorem app_pos {a b : List UInt8} (h : 1 ≤ a.length) : 1 ≤ (a ++ b).length := by rw [List.length_append]; omega
/-- What is written of an object that may be is read as that object, whatever stands behind. -/
theorem obj_enc {o : ObjD} (hs : o.small) (hr : right o = true) (r : List UInt8) : pObj (encO o ++ r) = o ∧ s7 (encO o ++ r) = some r := by
  have hlen : o.names.length = o.procs.length := by
    simp only [right, Bool.and_eq_true, decide_eq_true_eq, partsOK, headOK] at hr
    exact hr.1.1.2.1.1.1.1.1.1.2
  have hpl : ∀ g ∈ o.vars, g.place = 0 := fun g hg => by
    simp only [right, Bool.and_eq_true, partsOK] at hr
    have h := List.all_eq_true.1 hr.1.1.2.1.2 g hg
    simp only [globOK, Bool.and_eq_true, decide_eq_true_eq] at h
    exact h.1.1.2
  have b : ∀ {n : Nat}, n ≤ 1099511627776 → n < 9223372036854775808 := fun h => by omega
  have f := hs.fit
  have e0 := text_enc (t := o.name) (b hs.name) (encN o.syms.length ++ (o.syms.flatMap encSym ++ (encN o.uses.length ++ (o.uses.flatMap encUse ++ (encN o.vars.length ++ (o.vars.flatMap encGlob ++ (encTs (o.names.map bs) ++ (o.procs.flatMap encEnt ++ (encN o.code.length ++ (o.code.flatMap encInst ++ r))))))))))
  rw [← encO_eq] at e0
  have e1 := list_enc (p := pSym) (enc := encSym) (l := o.syms) (fun x => by unfold encSym; exact app_pos (app_pos (encT_pos _))) (b hs.syms.1) (fun s h => sym_enc (f.syms s h) (b (hs.syms.2 s h)))
    (encN o.uses.length ++ (o.uses.flatMap encUse ++ (encN o.vars.length ++ (o.vars.flatMap encGlob ++ (encTs (o.names.map bs) ++ (o.procs.flatMap encEnt ++ (encN o.code.length ++ (o.code.flatMap encInst ++ r))))))))
  have e2 := list_enc (p := pUse) (enc := encUse) (l := o.uses) (fun x => by unfold encUse; exact app_pos (app_pos (encT_pos _))) (b hs.uses.1) (fun u h => use_enc (b (hs.uses.2 u h).1) (b (hs.uses.2 u h).2.1) (b (hs.uses.2 u h).2.2.1) (fun t ht => b ((hs.uses.2 u h).2.2.2 t ht)))
    (encN o.vars.length ++ (o.vars.flatMap encGlob ++ (encTs (o.names.map bs) ++ (o.procs.flatMap encEnt ++ (encN o.code.length ++ (o.code.flatMap encInst ++ r))))))
  have e3 := list_enc (p := pGlob) (enc := encGlob) (l := o.vars) (fun x => by unfold encGlob; exact app_pos (app_pos (encT_pos _))) (b hs.vars.1) (fun g h => glob_enc (f.vars g h) (b (hs.vars.2 g h)) (hpl g h))
    (encTs (o.names.map bs) ++ (o.procs.flatMap encEnt ++ (encN o.code.length ++ (o.code.flatMap encInst ++ r))))
  have e4 := texts_enc (l := o.names) (b hs.names.1) (fun t h => b (hs.names.2 t h)) (o.procs.flatMap encEnt ++ (encN o.code.length ++ (o.code.flatMap encInst ++ r)))
  have e5 := rep_enc (p := pEnt) (enc := encEnt) o.procs (fun x h => ent_enc (f.procs x h)) (encN o.code.length ++ (o.code.flatMap encInst ++ r))
  have e6 := list_enc (p := pInst) (enc := encInst) (l := o.code) (fun x => by unfold encInst; exact app_pos (app_pos (encN_pos _))) (b hs.code) (fun x h => inst_enc (f.code x h)) r
  rw [← hlen] at e5
  have h := pObj_is (l := encO o ++ r) (by rw [e0]) (by rw [e0]) e1 e2 e3 (by rw [e4]) (by rw [e4]) rfl (by rw [e5]) (by rw [e5]) e6
  exact ⟨h.1, h.2⟩
/-- What was read is written just so. -/
theorem enc_obj {l r : List UInt8} (h : s7 l = some r) : l = encO (pObj l) ++ r := by
  have a7 := enc_list enc_inst (st := s6 l) (l := (pObj l).code) (r := r) (by rw [pObj_code, ← h]; unfold s7; exact mk_eq _)
  have a6 := enc_rep enc_ent (pTexts (s4 l)).1.length (s5 l) (pObj l).procs _ (by rw [pObj_procs, ← a7]; unfold s6; exact mk_eq _)
  have a5 := enc_texts (s4 l) (pObj l).names _ (by rw [pObj_names, ← a6]; unfold s5; exact mk_eq _)
  have a4 := enc_list enc_glob (st := s3 l) (l := (pObj l).vars) (by rw [pObj_vars, ← a5]; unfold s4; exact mk_eq _)
  have a3 := enc_list enc_use (st := s2 l) (l := (pObj l).uses) (by rw [pObj_uses, ← a4]; unfold s3; exact mk_eq _)
  have a2 := enc_list enc_sym (st := s1 l) (l := (pObj l).syms) (by rw [pObj_syms, ← a3]; unfold s2; exact mk_eq _)
  have a1 := enc_text (some l) (pObj l).name _ (by rw [pObj_name, ← a2]; unfold s1; exact mk_eq _)
  rw [encO_eq]
  exact Option.some.inj a1
theorem parsed_iff {l : List UInt8} : parsed l = true ↔ s7 l = some [] ∧ right (pObj l) = true := by
  unfold parsed
  cases h : s7 l with
  | none => simp [St.bad]
  | some t => cases t <;> simp [St.bad, St.str]
theorem parsed_enc {l : List UInt8} (h : parsed l = true) : encO (pObj l) = l := by
  have h1 := enc_obj (parsed_iff.1 h).1
  rw [List.append_nil] at h1
  exact h1.symm
/-- With others behind them an object's bytes are none. -/
theorem parsed_more {o : ObjD} (hs : o.small) (hr : right o = true) (r : List UInt8) : parsed (encO o ++ r) = r.isEmpty := by
  obtain ⟨h1, h2⟩ := obj_enc hs hr r
  rw [Bool.eq_iff_iff, parsed_iff, h1, h2, hr]
  simp
/-- A beginning of an object's bytes is none. -/
theorem parsed_less {o : ObjD} (hs : o.small) (hr : right o = true) {k : Nat} (hk : k < (encO o).length) (hl : (encO o).length ≤ 1099511627776) : parsed ((encO o).take k) = false := by
  cases hp : parsed ((encO o).take k) with
  | false => rfl
  | true =>
    exfalso
    have e := parsed_enc hp
    have hr' := (parsed_iff.1 hp).2
    have hs' := pObj_small ((encO o).take k) (by rw [List.length_take]; omega)
    have h1 := parsed_more hs' hr' ((encO o).drop k)
    rw [e, List.take_append_drop] at h1
    have h2 := parsed_more hs hr []
    rw [List.append_nil] at h2
    rw [h2] at h1
    have : (encO o).drop k = [] := by simpa using h1.symm
    have h3 := congrArg List.length this
    rw [List.length_drop] at h3
    simp at h3
    omega
end Go.Mq.Obj
