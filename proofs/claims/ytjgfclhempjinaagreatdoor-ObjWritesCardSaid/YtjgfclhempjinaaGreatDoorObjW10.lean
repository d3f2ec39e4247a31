/- obj.Write (laid by gen_w10.py). -/
import Derived.Test.YtjgfclhempjinaaGreatDoorObjW9
import Derived.Test.YtjgfclhempjinaaGreatDoorObjW1
import Derived.Lib.BufferRead
namespace Go.Mq.Obj
open Go Go.RowKit Go.Mq
def encSym (s : SymD) : List UInt8 := encT (bs s.name) ++ encN s.len ++ encN s.args
def encUse (u : UseD) : List UInt8 := encT (bs u.name) ++ encT (bs u.need) ++ encTs (u.names.map bs)
def encGlob (g : GlobD) : List UInt8 := encT (bs g.name) ++ encN g.len ++ [if g.seen then 1 else 0]
def encEnt (p : EntD) : List UInt8 := encN p.place ++ encN p.args ++ encN p.locals
def encInst (x : InstD) : List UInt8 := encN x.op ++ encN x.a ++ encN x.b
def pre1 (o : ObjD) : List UInt8 := encT (bs o.name) ++ encN o.syms.length
def pre2 (o : ObjD) : List UInt8 := pre1 o ++ o.syms.flatMap encSym ++ encN o.uses.length
def pre3 (o : ObjD) : List UInt8 := pre2 o ++ o.uses.flatMap encUse ++ encN o.vars.length
def pre4 (o : ObjD) : List UInt8 := pre3 o ++ o.vars.flatMap encGlob ++ encTs (o.names.map bs)
def pre5 (o : ObjD) : List UInt8 := pre4 o ++ o.procs.flatMap encEnt ++ encN o.code.length
def encO (o : ObjD) : List UInt8 := pre5 o ++ o.code.flatMap encInst
theorem pre_le (o : ObjD) : (pre5 o).length ≤ (encO o).length ∧ (pre4 o ++ o.procs.flatMap encEnt).length ≤ (encO o).length ∧ (pre4 o).length ≤ (encO o).length ∧ (pre3 o ++ o.vars.flatMap encGlob).length ≤ (encO o).length ∧
    (pre3 o).length ≤ (encO o).length ∧ (pre2 o ++ o.uses.flatMap encUse).length ≤ (encO o).length ∧ (pre2 o).length ≤ (encO o).length ∧ (pre1 o ++ o.syms.flatMap encSym).length ≤ (encO o).length ∧ (pre1 o).length ≤ (encO o).length := by
  simp only [encO, pre5, pre4, pre3, pre2, List.length_append]
  omega
theorem room {α : Type} {f : α → List UInt8} {l : List α} {k N : Nat} {x : α} {pre : List UInt8} (hx : l[k]? = some x) (h : (pre ++ l.flatMap f).length ≤ N) : (pre ++ (l.take k).flatMap f).length + (f x).length ≤ N := by
  have h1 := flatMap_take_le f l (k + 1)
  rw [List.take_add_one, hx] at h1
  simp only [List.flatMap_append, Option.toList_some, List.flatMap_cons, List.flatMap_nil, List.append_nil, List.length_append] at h1 h ⊢
  omega
theorem take_next {α : Type} {f : α → List UInt8} {l : List α} {k : Nat} {x : α} {pre : List UInt8} (hx : l[k]? = some x) : pre ++ (l.take (k + 1)).flatMap f = pre ++ (l.take k).flatMap f ++ f x := by
  rw [List.take_add_one, hx]
  simp only [List.flatMap_append, Option.toList_some, List.flatMap_cons, List.flatMap_nil, List.append_nil, List.append_assoc]

/-! ### What may be is short -/
theorem len_le {α : Type} (f : α → List UInt8) (c : Nat) (l : List α) (h : ∀ x ∈ l, (f x).length ≤ c) : (l.flatMap f).length ≤ l.length * c := by
  induction l with
  | nil => simp
  | cons x l ih =>
    have h1 := h x (by simp)
    have h2 := ih (fun y hy => h y (by simp [hy]))
    rw [List.flatMap_cons, List.length_append, List.length_cons, Nat.succ_mul]; omega
theorem name_le {l : List UInt8} (h : nameOK l = true) : l.length ≤ 10 := by
  unfold nameOK at h
  cases l with
  | nil => simp
  | cons c t => simp only [Bool.and_eq_true, decide_eq_true_eq] at h; exact h.1.1
theorem encT_le {l : List UInt8} {c : Nat} (h : l.length ≤ c) : (encT (bs l)).length ≤ c + 10 := by
  have := encN_length ((bs l).size : Int)
  rw [encT_length, bs_size] at *; omega
theorem encTs_le {l : List (List UInt8)} (h : l.all nameOK = true) : (encTs (l.map bs)).length ≤ l.length * 20 + 10 := by
  have h1 := encN_length ((l.map bs).length : Int)
  have h2 := len_le encT 20 (l.map bs) (fun x hx => by
    obtain ⟨y, hy, rfl⟩ := List.mem_map.1 hx
    exact encT_le (name_le (List.all_eq_true.1 h y hy)))
  simp only [encTs, List.length_append]
  rw [List.length_map] at h2 h1 ⊢
  omega
theorem encO_le {o : ObjD} (h : right o = true) : (encO o).length ≤ 1000000 := by
  simp only [right, Bool.and_eq_true, decide_eq_true_eq, partsOK, headOK] at h
  obtain ⟨⟨⟨⟨_, hc⟩, ⟨⟨⟨⟨⟨⟨⟨⟨⟨hn, hu⟩, hv⟩, hp⟩, hl⟩, hna⟩, hsy⟩, hS⟩, hU⟩, hV⟩, hP⟩, _⟩, _⟩ := h
  have e1 := encT_le (name_le hn)
  have e2 := len_le encSym 40 o.syms (fun x hx => by
    have h1 := List.all_eq_true.1 hS x hx
    simp only [symOK, Bool.and_eq_true] at h1
    have := encT_le (name_le h1.1.1.1.1.1)
    have := encN_length x.len
    have := encN_length x.args
    simp only [encSym, List.length_append]; omega)
  have e3 := len_le encUse 6050 o.uses (fun x hx => by
    have h1 := List.all_eq_true.1 hU x hx
    simp only [useOK, Bool.and_eq_true, decide_eq_true_eq] at h1
    obtain ⟨⟨⟨⟨h1, _⟩, h2⟩, h3⟩, h4⟩ := h1
    have := encT_le (name_le h1)
    have := encT_le h4
    have := encTs_le h2
    simp only [encUse, List.length_append]; omega)
  have e4 := len_le encGlob 40 o.vars (fun x hx => by
    have h1 := List.all_eq_true.1 hV x hx
    simp only [globOK, Bool.and_eq_true] at h1
    have := encT_le (name_le h1.1.1.1)
    have := encN_length x.len
    simp only [encGlob, List.length_append, List.length_cons, List.length_nil]; omega)
  have e5 := len_le encEnt 30 o.procs (fun x _ => by
    have := encN_length x.place
    have := encN_length x.args
    have := encN_length x.locals
    simp only [encEnt, List.length_append]; omega)
  have e6 := len_le encInst 30 o.code (fun x _ => by
    have := encN_length x.op
    have := encN_length x.a
    have := encN_length x.b
    simp only [encInst, List.length_append]; omega)
  have e7 := encTs_le hna
  have n1 := encN_length o.syms.length
  have n2 := encN_length o.uses.length
  have n3 := encN_length o.vars.length
  have n4 := encN_length o.code.length
  simp only [encO, pre5, pre4, pre3, pre2, pre1, List.length_append]
  omega
end Go.Mq.Obj

namespace Go.Proofs.YtjgfclhempjinaaGreatDoor
open Go Go.RowKit Go.Mq Go.Mq.Obj
set_option maxRecDepth 100000 in
theorem conv_own {w : World} {v : Value} {l : List UInt8} (h : w.ownsRow 0 5 1 v l.length (bcells l)) : (convert 62 9 v).run Tryz.prog w = .ok (.string (bs l)) w := by
  obtain ⟨_, ⟨rfl, h0⟩ | ⟨g, cap, cur, rfl, _, hg, hn, _, hsz, htk⟩⟩ := h
  · obtain rfl := List.eq_nil_of_length_eq_zero h0
    exact Lib.run_convert_nil_bytes w _ _ 5 0 Tryz.underlying62 rfl Tryz.underlying9
  · exact run_convert_bytes_back w _ _ 5 ⟨g, 0, none⟩ cap l Tryz.underlying62 rfl Tryz.underlying9 (Lib.bytes_of_row hg (by rw [Nat.mul_one] at htk; exact htk))
theorem wr_next {w wc w1 : World} {v v1 : Value} (hc : Chg [] w wc) (hf : From w.heap.size v) (h2 : Chg (blk v) wc w1) (h3 : Moved wc v v1) : Chg [] w w1 ∧ From w.heap.size v1 :=
  ⟨hc.trans h2 (fun x hx => .inr (hf x hx)), hf.moved h3 hc.size⟩

set_option maxHeartbeats 4000000 in
set_option maxRecDepth 100000 in
theorem write_any (B b off : Nat) (o : ObjD) (M : ObjM) (w : World) (h : ObjAt w B b off o M) (hB : B ≤ w.heap.size) (hs : o.small) :
    Calls Tryz.prog 6 #[.pointer (some ⟨b, off, none⟩)] w (fun e w' => e = .returned (.tuple #[.string (if right o then bs (encO o) else ⟨#[]⟩), if right o then .nilIface else .iface 24 (.int .i64 1)]) ∧ Chg [] w w') := by
  obtain ⟨sa, ua, va, pa, na, ca, sc, uc, vc, pc, nc, cc, us⟩ := M
  have hR := right_any B b off o _ w h hs
  cases hr : right o
  · rw [hr] at hR
    have HR := Lib.hid hR
    clear hR hs h hB hr
    go_enter Tryz.func6, Tryz.ntmps6
    go_wp2_with fail
    refine HR.out.mono ?_; rintro _ w1 ⟨rfl, hw1⟩
    have HW1 := Lib.hid hw1; clear hw1
    go_wp2_with fail
    go_ret2
    exact ⟨rfl, HW1.out⟩
  rw [hr] at hR
  have hle := encO_le hr
  have hpl := pre_le o
  have HPL := Lib.hid hpl
  have HLE := Lib.hid hle
  have HR := Lib.hid hR; have HS := Lib.hid hs; have H := Lib.hid h; have HB := Lib.hid hB
  have hzs : o.syms.length ≤ 1099511627776 := hs.syms.1
  have hzu : o.uses.length ≤ 1099511627776 := hs.uses.1
  have hzv : o.vars.length ≤ 1099511627776 := hs.vars.1
  have hzp : o.procs.length ≤ 1099511627776 := hs.procs
  have hzc : o.code.length ≤ 1099511627776 := hs.code
  clear hR hs h hB hr hle hpl
  go_enter Tryz.func6, Tryz.ntmps6
  go_wp2_with fail
  refine HR.out.mono ?_; rintro _ w1 ⟨rfl, hw1⟩
  have h0 := hw1.cellSome H.out.c0 (by simp)
  have h1 := hw1.cellSome H.out.c1 (by simp)
  have hT := text_any (.slice none 0 0) [] (bs o.name) w1 (by have h3 := HPL.out; have h4 := HLE.out; have h5 : (pre1 o).length = (encT (bs o.name)).length + (encN o.syms.length).length := by simp [pre1]
                                                              rw [encT_length] at h5; simp; omega) (World.ownsRow_nil _ _ _ _)
  have HW1 := Lib.hid hw1; have HT := Lib.hid hT
  clear hw1 hT
  go_wp2_with fail
  refine HT.out.mono ?_; rintro _ w2 ⟨v2, rfl, hown2, hch2, hmv2⟩
  obtain ⟨hc2, hf2⟩ := wr_next HW1.out (From.nil _) hch2 hmv2
  have h1 := hc2.cellSome H.out.c1 (by simp)
  have hT := number_any v2 ([] ++ encT (bs o.name)) o.syms.length w2 (by omega) (by omega) (by have h3 := HPL.out; have h4 := HLE.out; have h5 : (pre1 o).length = (encT (bs o.name)).length + (encN o.syms.length).length := by simp [pre1]
                                                                                               simp; omega) hown2
  have HT := Lib.hid hT; have HC2 := Lib.hid hc2; have HF2 := Lib.hid hf2
  clear hT hown2 hch2 hmv2 hc2 hf2 h0
  go_wp2_with fail
  refine HT.out.mono ?_; rintro _ w3 ⟨v3, rfl, hown2, hch2, hmv2⟩
  obtain ⟨hc2, hf2⟩ := wr_next HC2.out HF2.out hch2 hmv2
  have HO := Lib.hid (show w3.ownsRow 0 5 1 v3 (pre1 o).length (bcells (pre1 o)) from hown2)
  have HC := Lib.hid hc2; have HF := Lib.hid hf2
  have h1 := hc2.cellSome H.out.c1 (by simp)
  dsimp only at h1
  clear hown2 hch2 hmv2 hc2 hf2
  go_wp2_with fail
  clear h1
  go_loopw [4, 6, 36] (fun v _ i wr => ∃ k : Nat, k ≤ o.syms.length ∧ i = .int .i64 k ∧ wr.ownsRow 0 5 1 v (pre1 o ++ (o.syms.take k).flatMap encSym).length (bcells (pre1 o ++ (o.syms.take k).flatMap encSym)) ∧ From w.heap.size v ∧ Chg [] w wr) (fun _ _ i _ => o.syms.length - (intOf i).toNat)
  case atStart => exact ⟨0, Nat.zero_le _, rfl, by rw [List.take_zero, List.flatMap_nil, List.append_nil]; exact HO.out, HF.out, HC.out⟩
  case round =>
  obtain ⟨k, hk, rfl, ho, hf, hc⟩ := hrel
  by_cases hlt : k < o.syms.length
  · obtain ⟨x, hx⟩ : ∃ x, o.syms[k]? = some x := ⟨o.syms[k], by simp [hlt]⟩
    have hat : At w sa (o.syms.flatMap SymD.cells) := H.out.s
    obtain ⟨bb, boff, rfl, hcell⟩ := hat (by rw [flat_len _ 3 (fun _ => rfl)]; omega)
    have hcs : ∀ j, j < 3 → wr.cell? ⟨bb, boff + (k * 3 + j), none⟩ = (SymD.cells x)[j]? := fun j hj => by
      have h1 := flat_get SymD.cells 3 (fun _ => rfl) o.syms k j x hx hj
      have h2 : j < (SymD.cells x).length := hj
      rw [List.getElem?_eq_getElem h2] at h1 ⊢
      exact hc.cellSome (hcell _ _ (by simpa using h1)) (by simp)
    have hc0 : wr.cell? ⟨bb, boff + k * 3, none⟩ = some (str x.name) := hcs 0 (by omega)
    have hc1 : wr.cell? ⟨bb, boff + k * 3 + 1, none⟩ = some (.int .i64 x.len) := by have := hcs 1 (by omega); rw [← Nat.add_assoc] at this; exact this
    have hc2 : wr.cell? ⟨bb, boff + k * 3 + 2, none⟩ = some (.int .i64 x.args) := by have := hcs 2 (by omega); rw [← Nat.add_assoc] at this; exact this
    have hroom := room (pre := pre1 o) (f := encSym) (l := o.syms) (N := (encO o).length) hx (HPL.out.2.2.2.2.2.2.2.1)
    have HRM := Lib.hid (show (pre1 o ++ (o.syms.take k).flatMap encSym).length + (encSym x).length ≤ 1000000 by have := HLE.out; omega)
    have HEL := Lib.hid (show (encSym x).length = (encT (bs x.name)).length + (encN x.len).length + (encN x.args).length by simp only [encSym, List.length_append])
    have HFIT := Lib.hid (HS.out.fit.syms x (List.mem_of_getElem? hx))
    have how := owns_kept ho (((Chg.refl [] wr).alloc (.cells #[str x.name, .int .i64 x.len, .int .i64 x.args] 52)).drew) (fun _ _ h => by cases h)
    have hnb : wr.heap.size ∉ blk u4 := fun hm => by have := owns_lt ho _ hm; omega
    have hl := Blk.new wr #[str x.name, .int .i64 x.len, .int .i64 x.args] 52
    have hlz : (wr.alloc (.cells #[str x.name, .int .i64 x.len, .int .i64 x.args] 52)).drew.cell? ⟨wr.heap.size, 0, none⟩ = _ := hl.cell 0 _ rfl
    have HZL := Lib.hid (Zone.of (X := blk u4) hlz hnb)
    have HSL := Lib.hid (show wr.heap.size < (wr.alloc (.cells #[str x.name, .int .i64 x.len, .int .i64 x.args] 52)).drew.heap.size by simp)
    have HNB := Lib.hid hnb
    have HF := Lib.hid hf; have HC := Lib.hid hc; have HX := Lib.hid hx
    have HWC := Lib.hid (show Chg [] w (wr.alloc (.cells #[str x.name, .int .i64 x.len, .int .i64 x.args] 52)).drew from (hc.alloc _).drew)
    have hxx : ∃ xs, pre1 o ++ (o.syms.take k).flatMap encSym = xs := ⟨_, rfl⟩
    obtain ⟨xs, hxs⟩ := hxx
    rw [hxs] at how HRM
    have HXS := Lib.hid hxs
    have HO0 := Lib.hid how
    clear hcs hcell hx hc hat hf ho hxs how hlz hl hnb hroom 
    have hT := text_any u4 xs (bs x.name) (wr.alloc (.cells #[str x.name, .int .i64 x.len, .int .i64 x.args] 52)).drew (by have h1 := HRM.out; have h2 := HEL.out; (try simp only [List.length_append, encT_length, List.length_cons, List.length_nil] at h1 h2 ⊢); (try simp only [bs_size] at h1 h2 ⊢); omega) HO0.out
    have HT := Lib.hid hT; clear hT
    go_wp2_with fail
    refine wp_region_C (blk u4) rfl (by kernel_rfl) ?_
    have hS : Chg (blk u4) (wr.alloc (.cells #[str x.name, .int .i64 x.len, .int .i64 x.args] 52)).drew (wr.alloc (.cells #[str x.name, .int .i64 x.len, .int .i64 x.args] 52)).drew := Chg.refl _ _
    repeat
      (with_reducible show wpX _ _ _ _ _ _ _ _
       first
         | refine wpX_nil ?_
         | refine wpX_skip rfl ?_
         | refine wpX_mv rfl rfl (by kernel_rfl) (fun _ _ => ?_)
         | refine wpX_ldC rfl rfl rfl (by exact HZL.out) (by assumption) (fun _ _ => ?_)
         | refine wpX_ef' rfl rfl rfl (fun _ _ => ?_)
       go_wp2_with fail)
    refine HT.out.mono ?_; rintro _ w1 ⟨v1, rfl, h1, hS, hm⟩
    have hkk := Chg.cells hS HSL.out HNB.out
    have HO1 := Lib.hid h1; have HM1 := Lib.hid hm; clear h1 hm
    have hT := number_any v1 (xs ++ encT (bs x.name)) x.len w1 (HFIT.out).1.1 (HFIT.out).1.2 (by have h1 := HRM.out; have h2 := HEL.out; (try simp only [List.length_append, encT_length, List.length_cons, List.length_nil] at h1 h2 ⊢); (try simp only [bs_size] at h1 h2 ⊢); omega) HO1.out
    have HT := Lib.hid hT; clear hT
    go_wp2_with fail
    refine And.intro hS ?_
    repeat
      (with_reducible show wpX _ _ _ _ _ _ _ _
       first
         | refine wpX_nil ?_
         | refine wpX_skip rfl ?_
         | refine wpX_mv rfl rfl (by kernel_rfl) (fun _ _ => ?_)
         | refine wpX_ldC rfl rfl rfl (by exact HZL.out) (by assumption) (fun _ _ => ?_)
         | refine wpX_ef' rfl rfl rfl (fun _ _ => ?_)
       go_wp2_with fail)
    refine HT.out.mono ?_; rintro _ w2 hw
    obtain ⟨v2, rfl, h1, hS, hm⟩ := Wrote.trans hS HM1.out hw rfl
    clear hw
    have hkk := Chg.cells hS HSL.out HNB.out
    have HO2 := Lib.hid h1; have HM2 := Lib.hid hm; clear h1 hm
    have hT := number_any v2 ((xs ++ encT (bs x.name)) ++ encN x.len) x.args w2 (HFIT.out).2.1 (HFIT.out).2.2 (by have h1 := HRM.out; have h2 := HEL.out; (try simp only [List.length_append, encT_length, List.length_cons, List.length_nil] at h1 h2 ⊢); (try simp only [bs_size] at h1 h2 ⊢); omega) HO2.out
    have HT := Lib.hid hT; clear hT
    go_wp2_with fail
    refine And.intro hS ?_
    repeat
      (with_reducible show wpX _ _ _ _ _ _ _ _
       first
         | refine wpX_nil ?_
         | refine wpX_skip rfl ?_
         | refine wpX_mv rfl rfl (by kernel_rfl) (fun _ _ => ?_)
         | refine wpX_ldC rfl rfl rfl (by exact HZL.out) (by assumption) (fun _ _ => ?_)
         | refine wpX_ef' rfl rfl rfl (fun _ _ => ?_)
       go_wp2_with fail)
    refine HT.out.mono ?_; rintro _ w3 hw
    obtain ⟨v3, rfl, h1, hS, hm⟩ := Wrote.trans hS HM2.out hw rfl
    clear hw
    have hkk := Chg.cells hS HSL.out HNB.out
    have HO3 := Lib.hid h1; have HM3 := Lib.hid hm; clear h1 hm
    go_wp2_with fail
    refine And.intro hS ?_
    repeat
      (with_reducible show wpX _ _ _ _ _ _ _ _
       first
         | refine wpX_nil ?_
         | refine wpX_skip rfl ?_
         | refine wpX_mv rfl rfl (by kernel_rfl) (fun _ _ => ?_)
         | refine wpX_ldC rfl rfl rfl (by exact HZL.out) (by assumption) (fun _ _ => ?_)
         | refine wpX_ef' rfl rfl rfl (fun _ _ => ?_)
       go_wp2_with fail)
    go_roundw
    case rel =>
      obtain ⟨hc3, hf3⟩ := wr_next HWC.out HF.out hS HM3.out
      refine ⟨k + 1, by omega, by go_num, ?_, hf3, hc3⟩
      rw [take_next HX.out, HXS.out]
      have h := HO3.out
      simp only [encSym, List.append_assoc] at h ⊢
      exact h
    case measure => simp [intOf]; omega
  · have hkn : k = o.syms.length := by omega
    have HO := Lib.hid (show wr.ownsRow 0 5 1 u4 (pre1 o ++ o.syms.flatMap encSym).length (bcells (pre1 o ++ o.syms.flatMap encSym)) by have := ho; rwa [hkn, List.take_length] at this)
    have HF := Lib.hid hf; have HC := Lib.hid hc
    have h1 := hc.cellSome H.out.c1 (by simp)
    have h2 := hc.cellSome H.out.c2 (by simp)
    have h3 := hc.cellSome H.out.c3 (by simp)
    have h4 := hc.cellSome H.out.c4 (by simp)
    have h5 := hc.cellSome H.out.c5 (by simp)
    have h6 := hc.cellSome H.out.c6 (by simp)
    dsimp only at h1 h2 h3 h4 h5 h6
    clear ho hf hc
    have hT := number_any u4 (pre1 o ++ o.syms.flatMap encSym) o.uses.length wr (by omega) (by omega) (by have h1 := HPL.out.2.2.2.2.2.2.1; have h2 := HLE.out; simp only [pre2, List.length_append] at h1 ⊢; omega) HO.out
    have HT := Lib.hid hT; clear hT hk hkn
    go_wp2_with fail
    refine HT.out.mono ?_; rintro _ w2 ⟨v2, rfl, hown2, hch2, hmv2⟩
    obtain ⟨hc2, hf2⟩ := wr_next HC.out HF.out hch2 hmv2
    have h1 := hc2.cellSome H.out.c1 (by simp)
    have h2 := hc2.cellSome H.out.c2 (by simp)
    have h3 := hc2.cellSome H.out.c3 (by simp)
    have h4 := hc2.cellSome H.out.c4 (by simp)
    have h5 := hc2.cellSome H.out.c5 (by simp)
    have h6 := hc2.cellSome H.out.c6 (by simp)
    dsimp only at h1 h2 h3 h4 h5 h6
    have HO := Lib.hid (show w2.ownsRow 0 5 1 v2 (pre2 o).length (bcells (pre2 o)) from hown2)
    have HC := Lib.hid hc2; have HF := Lib.hid hf2
    clear hown2 hch2 hmv2 hc2 hf2 hlt
    go_wp2_with fail
    clear h1 h2 h3 h4 h5 h6
    go_loopw [4, 8, 63] (fun v _ i wr => ∃ k : Nat, k ≤ o.uses.length ∧ i = .int .i64 k ∧ wr.ownsRow 0 5 1 v (pre2 o ++ (o.uses.take k).flatMap encUse).length (bcells (pre2 o ++ (o.uses.take k).flatMap encUse)) ∧ From w.heap.size v ∧ Chg [] w wr) (fun _ _ i _ => o.uses.length - (intOf i).toNat)
    case atStart => exact ⟨0, Nat.zero_le _, rfl, by rw [List.take_zero, List.flatMap_nil, List.append_nil]; exact HO.out, HF.out, HC.out⟩
    case round =>
    obtain ⟨k, hk, rfl, ho, hf, hc⟩ := hrel
    by_cases hlt : k < o.uses.length
    · have hus : us.map (·.u) = o.uses := H.out.us
      have hul : us.length = o.uses.length := by rw [← hus, List.length_map]
      obtain ⟨m, hm⟩ : ∃ m, us[k]? = some m := ⟨us[k], by simp [hul, hlt]⟩
      have hx : o.uses[k]? = some m.u := by rw [← hus, List.getElem?_map, hm]; rfl
      have HUN := Lib.hid (H.out.un m (List.mem_of_getElem? hm))
      have hat : At w ua (us.flatMap UseM.cells) := H.out.u
      obtain ⟨bb, boff, rfl, hcell⟩ := hat (by rw [flat_len _ 3 (fun _ => rfl)]; omega)
      have hcs : ∀ j, j < 3 → wr.cell? ⟨bb, boff + (k * 3 + j), none⟩ = (UseM.cells m)[j]? := fun j hj => by
        have h1 := flat_get UseM.cells 3 (fun _ => rfl) us k j m hm hj
        have h2 : j < (UseM.cells m).length := hj
        rw [List.getElem?_eq_getElem h2] at h1 ⊢
        exact hc.cellSome (hcell _ _ (by simpa using h1)) (by simp)
      have hc0 : wr.cell? ⟨bb, boff + k * 3, none⟩ = some (str m.u.name) := hcs 0 (by omega)
      have hc1 : wr.cell? ⟨bb, boff + k * 3 + 1, none⟩ = some (str m.u.need) := by have := hcs 1 (by omega); rw [← Nat.add_assoc] at this; exact this
      have hc2 : wr.cell? ⟨bb, boff + k * 3 + 2, none⟩ = some (.slice m.at_ m.u.names.length m.cap) := by have := hcs 2 (by omega); rw [← Nat.add_assoc] at this; exact this
      have hroom := room (pre := pre2 o) (f := encUse) (l := o.uses) (N := (encO o).length) hx (HPL.out.2.2.2.2.2.1)
      have HRM := Lib.hid (show (pre2 o ++ (o.uses.take k).flatMap encUse).length + (encUse m.u).length ≤ 1000000 by have := HLE.out; omega)
      have HEL := Lib.hid (show (encUse m.u).length = (encT (bs m.u.name)).length + (encT (bs m.u.need)).length + (encTs (m.u.names.map bs)).length by simp only [encUse, List.length_append])
      have HFIT := Lib.hid (True.intro)
      have how := owns_kept ho (((Chg.refl [] wr).alloc (.cells #[str m.u.name, str m.u.need, .slice m.at_ m.u.names.length m.cap] 56)).drew) (fun _ _ h => by cases h)
      have hnb : wr.heap.size ∉ blk u4 := fun hm => by have := owns_lt ho _ hm; omega
      have hl := Blk.new wr #[str m.u.name, str m.u.need, .slice m.at_ m.u.names.length m.cap] 56
      have hlz : (wr.alloc (.cells #[str m.u.name, str m.u.need, .slice m.at_ m.u.names.length m.cap] 56)).drew.cell? ⟨wr.heap.size, 0, none⟩ = _ := hl.cell 0 _ rfl
      have HZL := Lib.hid (Zone.of (X := blk u4) hlz hnb)
      have HSL := Lib.hid (show wr.heap.size < (wr.alloc (.cells #[str m.u.name, str m.u.need, .slice m.at_ m.u.names.length m.cap] 56)).drew.heap.size by simp)
      have HNB := Lib.hid hnb
      have HF := Lib.hid hf; have HC := Lib.hid hc; have HX := Lib.hid hx
      have HWC := Lib.hid (show Chg [] w (wr.alloc (.cells #[str m.u.name, str m.u.need, .slice m.at_ m.u.names.length m.cap] 56)).drew from (hc.alloc _).drew)
      have hxx : ∃ xs, pre2 o ++ (o.uses.take k).flatMap encUse = xs := ⟨_, rfl⟩
      obtain ⟨xs, hxs⟩ := hxx
      rw [hxs] at how HRM
      have HXS := Lib.hid hxs
      have HO0 := Lib.hid how
      clear hcs hcell hx hc hat hf ho hxs how hlz hl hnb hroom hus hul hm
      have hT := text_any u4 xs (bs m.u.name) (wr.alloc (.cells #[str m.u.name, str m.u.need, .slice m.at_ m.u.names.length m.cap] 56)).drew (by have h1 := HRM.out; have h2 := HEL.out; (try simp only [List.length_append, encT_length, List.length_cons, List.length_nil] at h1 h2 ⊢); (try simp only [bs_size] at h1 h2 ⊢); omega) HO0.out
      have HT := Lib.hid hT; clear hT
      go_wp2_with fail
      refine wp_region_C (blk u4) rfl (by kernel_rfl) ?_
      have hS : Chg (blk u4) (wr.alloc (.cells #[str m.u.name, str m.u.need, .slice m.at_ m.u.names.length m.cap] 56)).drew (wr.alloc (.cells #[str m.u.name, str m.u.need, .slice m.at_ m.u.names.length m.cap] 56)).drew := Chg.refl _ _
      repeat
        (with_reducible show wpX _ _ _ _ _ _ _ _
         first
           | refine wpX_nil ?_
           | refine wpX_skip rfl ?_
           | refine wpX_mv rfl rfl (by kernel_rfl) (fun _ _ => ?_)
           | refine wpX_ldC rfl rfl rfl (by exact HZL.out) (by assumption) (fun _ _ => ?_)
           | refine wpX_ef' rfl rfl rfl (fun _ _ => ?_)
         go_wp2_with fail)
      refine HT.out.mono ?_; rintro _ w1 ⟨v1, rfl, h1, hS, hm⟩
      have hkk := Chg.cells hS HSL.out HNB.out
      have HO1 := Lib.hid h1; have HM1 := Lib.hid hm; clear h1 hm
      have hT := text_any v1 (xs ++ encT (bs m.u.name)) (bs m.u.need) w1 (by have h1 := HRM.out; have h2 := HEL.out; (try simp only [List.length_append, encT_length, List.length_cons, List.length_nil] at h1 h2 ⊢); (try simp only [bs_size] at h1 h2 ⊢); omega) HO1.out
      have HT := Lib.hid hT; clear hT
      go_wp2_with fail
      refine And.intro hS ?_
      repeat
        (with_reducible show wpX _ _ _ _ _ _ _ _
         first
           | refine wpX_nil ?_
           | refine wpX_skip rfl ?_
           | refine wpX_mv rfl rfl (by kernel_rfl) (fun _ _ => ?_)
           | refine wpX_ldC rfl rfl rfl (by exact HZL.out) (by assumption) (fun _ _ => ?_)
           | refine wpX_ef' rfl rfl rfl (fun _ _ => ?_)
         go_wp2_with fail)
      refine HT.out.mono ?_; rintro _ w2 hw
      obtain ⟨v2, rfl, h1, hS, hm⟩ := Wrote.trans hS HM1.out hw rfl
      clear hw
      have hkk := Chg.cells hS HSL.out HNB.out
      have HO2 := Lib.hid h1; have HM2 := Lib.hid hm; clear h1 hm
      have hT := texts_any v2 ((xs ++ encT (bs m.u.name)) ++ encT (bs m.u.need)) m.at_ m.u.names.length m.cap (m.u.names.map bs) w2 B (by rw [List.length_map]) (by have h1 := HRM.out; have h2 := HEL.out; (try simp only [List.length_append, encT_length, List.length_cons, List.length_nil] at h1 h2 ⊢); (try simp only [bs_size] at h1 h2 ⊢); omega) HO2.out (by rw [List.map_map]; exact (HUN.out.1.kept (HWC.out.trans hS (fun x hx => .inr (HF.out x hx))) (by simp))) (by rw [List.length_map]; exact HUN.out.2) (fun g hg => Nat.le_trans HB.out ((HF.out.moved HM2.out HWC.out.size) g hg)) (Nat.le_trans HB.out (HWC.out.trans hS (fun x hx => .inr (HF.out x hx))).size)
      have HT := Lib.hid hT; clear hT
      go_wp2_with fail
      refine And.intro hS ?_
      repeat
        (with_reducible show wpX _ _ _ _ _ _ _ _
         first
           | refine wpX_nil ?_
           | refine wpX_skip rfl ?_
           | refine wpX_mv rfl rfl (by kernel_rfl) (fun _ _ => ?_)
           | refine wpX_ldC rfl rfl rfl (by exact HZL.out) (by assumption) (fun _ _ => ?_)
           | refine wpX_ef' rfl rfl rfl (fun _ _ => ?_)
         go_wp2_with fail)
      refine HT.out.mono ?_; rintro _ w3 hw
      obtain ⟨v3, rfl, h1, hS, hm⟩ := Wrote.trans hS HM2.out hw rfl
      clear hw
      have hkk := Chg.cells hS HSL.out HNB.out
      have HO3 := Lib.hid h1; have HM3 := Lib.hid hm; clear h1 hm
      go_wp2_with fail
      refine And.intro hS ?_
      repeat
        (with_reducible show wpX _ _ _ _ _ _ _ _
         first
           | refine wpX_nil ?_
           | refine wpX_skip rfl ?_
           | refine wpX_mv rfl rfl (by kernel_rfl) (fun _ _ => ?_)
           | refine wpX_ldC rfl rfl rfl (by exact HZL.out) (by assumption) (fun _ _ => ?_)
           | refine wpX_ef' rfl rfl rfl (fun _ _ => ?_)
         go_wp2_with fail)
      go_roundw
      case rel =>
        obtain ⟨hc3, hf3⟩ := wr_next HWC.out HF.out hS HM3.out
        refine ⟨k + 1, by omega, by go_num, ?_, hf3, hc3⟩
        rw [take_next HX.out, HXS.out]
        have h := HO3.out
        simp only [encUse, List.append_assoc] at h ⊢
        exact h
      case measure => simp [intOf]; omega
    · have hkn : k = o.uses.length := by omega
      have HO := Lib.hid (show wr.ownsRow 0 5 1 u4 (pre2 o ++ o.uses.flatMap encUse).length (bcells (pre2 o ++ o.uses.flatMap encUse)) by have := ho; rwa [hkn, List.take_length] at this)
      have HF := Lib.hid hf; have HC := Lib.hid hc
      have h1 := hc.cellSome H.out.c1 (by simp)
      have h2 := hc.cellSome H.out.c2 (by simp)
      have h3 := hc.cellSome H.out.c3 (by simp)
      have h4 := hc.cellSome H.out.c4 (by simp)
      have h5 := hc.cellSome H.out.c5 (by simp)
      have h6 := hc.cellSome H.out.c6 (by simp)
      dsimp only at h1 h2 h3 h4 h5 h6
      clear ho hf hc
      have hT := number_any u4 (pre2 o ++ o.uses.flatMap encUse) o.vars.length wr (by omega) (by omega) (by have h1 := HPL.out.2.2.2.2.1; have h2 := HLE.out; simp only [pre3, List.length_append] at h1 ⊢; omega) HO.out
      have HT := Lib.hid hT; clear hT hk hkn
      go_wp2_with fail
      refine HT.out.mono ?_; rintro _ w2 ⟨v2, rfl, hown2, hch2, hmv2⟩
      obtain ⟨hc2, hf2⟩ := wr_next HC.out HF.out hch2 hmv2
      have h1 := hc2.cellSome H.out.c1 (by simp)
      have h2 := hc2.cellSome H.out.c2 (by simp)
      have h3 := hc2.cellSome H.out.c3 (by simp)
      have h4 := hc2.cellSome H.out.c4 (by simp)
      have h5 := hc2.cellSome H.out.c5 (by simp)
      have h6 := hc2.cellSome H.out.c6 (by simp)
      dsimp only at h1 h2 h3 h4 h5 h6
      have HO := Lib.hid (show w2.ownsRow 0 5 1 v2 (pre3 o).length (bcells (pre3 o)) from hown2)
      have HC := Lib.hid hc2; have HF := Lib.hid hf2
      clear hown2 hch2 hmv2 hc2 hf2 hlt
      go_wp2_with fail
      clear h1 h2 h3 h4 h5 h6
      go_loopw [4, 10, 90] (fun v _ i wr => ∃ k : Nat, k ≤ o.vars.length ∧ i = .int .i64 k ∧ wr.ownsRow 0 5 1 v (pre3 o ++ (o.vars.take k).flatMap encGlob).length (bcells (pre3 o ++ (o.vars.take k).flatMap encGlob)) ∧ From w.heap.size v ∧ Chg [] w wr) (fun _ _ i _ => o.vars.length - (intOf i).toNat)
      case atStart => exact ⟨0, Nat.zero_le _, rfl, by rw [List.take_zero, List.flatMap_nil, List.append_nil]; exact HO.out, HF.out, HC.out⟩
      case round =>
      obtain ⟨k, hk, rfl, ho, hf, hc⟩ := hrel
      by_cases hlt : k < o.vars.length
      · obtain ⟨x, hx⟩ : ∃ x, o.vars[k]? = some x := ⟨o.vars[k], by simp [hlt]⟩
        have hat : At w va (o.vars.flatMap GlobD.cells) := H.out.v
        obtain ⟨bb, boff, rfl, hcell⟩ := hat (by rw [flat_len _ 4 (fun _ => rfl)]; omega)
        have hcs : ∀ j, j < 4 → wr.cell? ⟨bb, boff + (k * 4 + j), none⟩ = (GlobD.cells x)[j]? := fun j hj => by
          have h1 := flat_get GlobD.cells 4 (fun _ => rfl) o.vars k j x hx hj
          have h2 : j < (GlobD.cells x).length := hj
          rw [List.getElem?_eq_getElem h2] at h1 ⊢
          exact hc.cellSome (hcell _ _ (by simpa using h1)) (by simp)
        have hc0 : wr.cell? ⟨bb, boff + k * 4, none⟩ = some (str x.name) := hcs 0 (by omega)
        have hc1 : wr.cell? ⟨bb, boff + k * 4 + 1, none⟩ = some (.int .i64 x.place) := by have := hcs 1 (by omega); rw [← Nat.add_assoc] at this; exact this
        have hc2 : wr.cell? ⟨bb, boff + k * 4 + 2, none⟩ = some (.int .i64 x.len) := by have := hcs 2 (by omega); rw [← Nat.add_assoc] at this; exact this
        have hc3 : wr.cell? ⟨bb, boff + k * 4 + 3, none⟩ = some (.bool x.seen) := by have := hcs 3 (by omega); rw [← Nat.add_assoc] at this; exact this
        have hroom := room (pre := pre3 o) (f := encGlob) (l := o.vars) (N := (encO o).length) hx (HPL.out.2.2.2.1)
        have HRM := Lib.hid (show (pre3 o ++ (o.vars.take k).flatMap encGlob).length + (encGlob x).length ≤ 1000000 by have := HLE.out; omega)
        have HEL := Lib.hid (show (encGlob x).length = (encT (bs x.name)).length + (encN x.len).length + (([if x.seen then 1 else 0] : List UInt8)).length by simp only [encGlob, List.length_append])
        have HFIT := Lib.hid (HS.out.fit.vars x (List.mem_of_getElem? hx))
        have how := owns_kept ho (((Chg.refl [] wr).alloc (.cells #[str x.name, .int .i64 x.place, .int .i64 x.len, .bool x.seen] 54)).drew) (fun _ _ h => by cases h)
        have hnb : wr.heap.size ∉ blk u4 := fun hm => by have := owns_lt ho _ hm; omega
        have hl := Blk.new wr #[str x.name, .int .i64 x.place, .int .i64 x.len, .bool x.seen] 54
        have hlz : (wr.alloc (.cells #[str x.name, .int .i64 x.place, .int .i64 x.len, .bool x.seen] 54)).drew.cell? ⟨wr.heap.size, 0, none⟩ = _ := hl.cell 0 _ rfl
        have HZL := Lib.hid (Zone.of (X := blk u4) hlz hnb)
        have HSL := Lib.hid (show wr.heap.size < (wr.alloc (.cells #[str x.name, .int .i64 x.place, .int .i64 x.len, .bool x.seen] 54)).drew.heap.size by simp)
        have HNB := Lib.hid hnb
        have HF := Lib.hid hf; have HC := Lib.hid hc; have HX := Lib.hid hx
        have HWC := Lib.hid (show Chg [] w (wr.alloc (.cells #[str x.name, .int .i64 x.place, .int .i64 x.len, .bool x.seen] 54)).drew from (hc.alloc _).drew)
        have hxx : ∃ xs, pre3 o ++ (o.vars.take k).flatMap encGlob = xs := ⟨_, rfl⟩
        obtain ⟨xs, hxs⟩ := hxx
        rw [hxs] at how HRM
        have HXS := Lib.hid hxs
        have HO0 := Lib.hid how
        clear hcs hcell hx hc hat hf ho hxs how hlz hl hnb hroom 
        have hT := text_any u4 xs (bs x.name) (wr.alloc (.cells #[str x.name, .int .i64 x.place, .int .i64 x.len, .bool x.seen] 54)).drew (by have h1 := HRM.out; have h2 := HEL.out; (try simp only [List.length_append, encT_length, List.length_cons, List.length_nil] at h1 h2 ⊢); (try simp only [bs_size] at h1 h2 ⊢); omega) HO0.out
        have HT := Lib.hid hT; clear hT
        go_wp2_with fail
        refine wp_region_C (blk u4) rfl (by kernel_rfl) ?_
        have hS : Chg (blk u4) (wr.alloc (.cells #[str x.name, .int .i64 x.place, .int .i64 x.len, .bool x.seen] 54)).drew (wr.alloc (.cells #[str x.name, .int .i64 x.place, .int .i64 x.len, .bool x.seen] 54)).drew := Chg.refl _ _
        repeat
          (with_reducible show wpX _ _ _ _ _ _ _ _
           first
             | refine wpX_nil ?_
             | refine wpX_skip rfl ?_
             | refine wpX_mv rfl rfl (by kernel_rfl) (fun _ _ => ?_)
             | refine wpX_ldC rfl rfl rfl (by exact HZL.out) (by assumption) (fun _ _ => ?_)
             | refine wpX_ef' rfl rfl rfl (fun _ _ => ?_)
           go_wp2_with fail)
        refine HT.out.mono ?_; rintro _ w1 ⟨v1, rfl, h1, hS, hm⟩
        have hkk := Chg.cells hS HSL.out HNB.out
        have HO1 := Lib.hid h1; have HM1 := Lib.hid hm; clear h1 hm
        have hT := number_any v1 (xs ++ encT (bs x.name)) x.len w1 (HFIT.out).2.1 (HFIT.out).2.2 (by have h1 := HRM.out; have h2 := HEL.out; (try simp only [List.length_append, encT_length, List.length_cons, List.length_nil] at h1 h2 ⊢); (try simp only [bs_size] at h1 h2 ⊢); omega) HO1.out
        have HT := Lib.hid hT; clear hT
        go_wp2_with fail
        refine And.intro hS ?_
        repeat
          (with_reducible show wpX _ _ _ _ _ _ _ _
           first
             | refine wpX_nil ?_
             | refine wpX_skip rfl ?_
             | refine wpX_mv rfl rfl (by kernel_rfl) (fun _ _ => ?_)
             | refine wpX_ldC rfl rfl rfl (by exact HZL.out) (by assumption) (fun _ _ => ?_)
             | refine wpX_ef' rfl rfl rfl (fun _ _ => ?_)
           go_wp2_with fail)
        refine HT.out.mono ?_; rintro _ w2 hw
        obtain ⟨v2, rfl, h1, hS, hm⟩ := Wrote.trans hS HM1.out hw rfl
        clear hw
        have hkk := Chg.cells hS HSL.out HNB.out
        have HO2 := Lib.hid h1; have HM2 := Lib.hid hm; clear h1 hm
        have hT := flag_any v2 ((xs ++ encT (bs x.name)) ++ encN x.len) x.seen w2 (by have h1 := HRM.out; have h2 := HEL.out; (try simp only [List.length_append, encT_length, List.length_cons, List.length_nil] at h1 h2 ⊢); (try simp only [bs_size] at h1 h2 ⊢); omega) HO2.out
        have HT := Lib.hid hT; clear hT
        go_wp2_with fail
        refine And.intro hS ?_
        repeat
          (with_reducible show wpX _ _ _ _ _ _ _ _
           first
             | refine wpX_nil ?_
             | refine wpX_skip rfl ?_
             | refine wpX_mv rfl rfl (by kernel_rfl) (fun _ _ => ?_)
             | refine wpX_ldC rfl rfl rfl (by exact HZL.out) (by assumption) (fun _ _ => ?_)
             | refine wpX_ef' rfl rfl rfl (fun _ _ => ?_)
           go_wp2_with fail)
        refine HT.out.mono ?_; rintro _ w3 hw
        obtain ⟨v3, rfl, h1, hS, hm⟩ := Wrote.trans hS HM2.out hw rfl
        clear hw
        have hkk := Chg.cells hS HSL.out HNB.out
        have HO3 := Lib.hid h1; have HM3 := Lib.hid hm; clear h1 hm
        go_wp2_with fail
        refine And.intro hS ?_
        repeat
          (with_reducible show wpX _ _ _ _ _ _ _ _
           first
             | refine wpX_nil ?_
             | refine wpX_skip rfl ?_
             | refine wpX_mv rfl rfl (by kernel_rfl) (fun _ _ => ?_)
             | refine wpX_ldC rfl rfl rfl (by exact HZL.out) (by assumption) (fun _ _ => ?_)
             | refine wpX_ef' rfl rfl rfl (fun _ _ => ?_)
           go_wp2_with fail)
        go_roundw
        case rel =>
          obtain ⟨hc3, hf3⟩ := wr_next HWC.out HF.out hS HM3.out
          refine ⟨k + 1, by omega, by go_num, ?_, hf3, hc3⟩
          rw [take_next HX.out, HXS.out]
          have h := HO3.out
          simp only [encGlob, List.append_assoc] at h ⊢
          exact h
        case measure => simp [intOf]; omega
      · have hkn : k = o.vars.length := by omega
        have HO := Lib.hid (show wr.ownsRow 0 5 1 u4 (pre3 o ++ o.vars.flatMap encGlob).length (bcells (pre3 o ++ o.vars.flatMap encGlob)) by have := ho; rwa [hkn, List.take_length] at this)
        have HF := Lib.hid hf; have HC := Lib.hid hc
        have h1 := hc.cellSome H.out.c1 (by simp)
        have h2 := hc.cellSome H.out.c2 (by simp)
        have h3 := hc.cellSome H.out.c3 (by simp)
        have h4 := hc.cellSome H.out.c4 (by simp)
        have h5 := hc.cellSome H.out.c5 (by simp)
        have h6 := hc.cellSome H.out.c6 (by simp)
        dsimp only at h1 h2 h3 h4 h5 h6
        clear ho hf hc
        have hT := texts_any u4 (pre3 o ++ o.vars.flatMap encGlob) na o.names.length nc (o.names.map bs) wr B (by rw [List.length_map]) (by have h1 := HPL.out.2.2.1; have h2 := HLE.out; simp only [pre4, List.length_append] at h1 ⊢; omega) HO.out
          (by rw [List.map_map]; exact (H.out.n.kept HC.out (by simp))) (by rw [List.length_map]; exact H.out.nB) (fun g hg => Nat.le_trans HB.out (HF.out g hg)) (Nat.le_trans HB.out HC.out.size)
        have HT := Lib.hid hT; clear hT hk hkn
        go_wp2_with fail
        refine HT.out.mono ?_; rintro _ w2 ⟨v2, rfl, hown2, hch2, hmv2⟩
        obtain ⟨hc2, hf2⟩ := wr_next HC.out HF.out hch2 hmv2
        have h1 := hc2.cellSome H.out.c1 (by simp)
        have h2 := hc2.cellSome H.out.c2 (by simp)
        have h3 := hc2.cellSome H.out.c3 (by simp)
        have h4 := hc2.cellSome H.out.c4 (by simp)
        have h5 := hc2.cellSome H.out.c5 (by simp)
        have h6 := hc2.cellSome H.out.c6 (by simp)
        dsimp only at h1 h2 h3 h4 h5 h6
        have HO := Lib.hid (show w2.ownsRow 0 5 1 v2 (pre4 o).length (bcells (pre4 o)) from hown2)
        have HC := Lib.hid hc2; have HF := Lib.hid hf2
        clear hown2 hch2 hmv2 hc2 hf2 hlt
        go_wp2_with fail
        clear h1 h2 h3 h4 h5 h6
        go_loopw [4, 12, 116] (fun v _ i wr => ∃ k : Nat, k ≤ o.procs.length ∧ i = .int .i64 k ∧ wr.ownsRow 0 5 1 v (pre4 o ++ (o.procs.take k).flatMap encEnt).length (bcells (pre4 o ++ (o.procs.take k).flatMap encEnt)) ∧ From w.heap.size v ∧ Chg [] w wr) (fun _ _ i _ => o.procs.length - (intOf i).toNat)
        case atStart => exact ⟨0, Nat.zero_le _, rfl, by rw [List.take_zero, List.flatMap_nil, List.append_nil]; exact HO.out, HF.out, HC.out⟩
        case round =>
        obtain ⟨k, hk, rfl, ho, hf, hc⟩ := hrel
        by_cases hlt : k < o.procs.length
        · obtain ⟨x, hx⟩ : ∃ x, o.procs[k]? = some x := ⟨o.procs[k], by simp [hlt]⟩
          have hat : At w pa (o.procs.flatMap EntD.cells) := H.out.p
          obtain ⟨bb, boff, rfl, hcell⟩ := hat (by rw [flat_len _ 3 (fun _ => rfl)]; omega)
          have hcs : ∀ j, j < 3 → wr.cell? ⟨bb, boff + (k * 3 + j), none⟩ = (EntD.cells x)[j]? := fun j hj => by
            have h1 := flat_get EntD.cells 3 (fun _ => rfl) o.procs k j x hx hj
            have h2 : j < (EntD.cells x).length := hj
            rw [List.getElem?_eq_getElem h2] at h1 ⊢
            exact hc.cellSome (hcell _ _ (by simpa using h1)) (by simp)
          have hc0 : wr.cell? ⟨bb, boff + k * 3, none⟩ = some (.int .i64 x.place) := hcs 0 (by omega)
          have hc1 : wr.cell? ⟨bb, boff + k * 3 + 1, none⟩ = some (.int .i64 x.args) := by have := hcs 1 (by omega); rw [← Nat.add_assoc] at this; exact this
          have hc2 : wr.cell? ⟨bb, boff + k * 3 + 2, none⟩ = some (.int .i64 x.locals) := by have := hcs 2 (by omega); rw [← Nat.add_assoc] at this; exact this
          have hroom := room (pre := pre4 o) (f := encEnt) (l := o.procs) (N := (encO o).length) hx (HPL.out.2.1)
          have HRM := Lib.hid (show (pre4 o ++ (o.procs.take k).flatMap encEnt).length + (encEnt x).length ≤ 1000000 by have := HLE.out; omega)
          have HEL := Lib.hid (show (encEnt x).length = (encN x.place).length + (encN x.args).length + (encN x.locals).length by simp only [encEnt, List.length_append])
          have HFIT := Lib.hid (HS.out.fit.procs x (List.mem_of_getElem? hx))
          have how := owns_kept ho (((Chg.refl [] wr).alloc (.cells #[.int .i64 x.place, .int .i64 x.args, .int .i64 x.locals] 47)).drew) (fun _ _ h => by cases h)
          have hnb : wr.heap.size ∉ blk u4 := fun hm => by have := owns_lt ho _ hm; omega
          have hl := Blk.new wr #[.int .i64 x.place, .int .i64 x.args, .int .i64 x.locals] 47
          have hlz : (wr.alloc (.cells #[.int .i64 x.place, .int .i64 x.args, .int .i64 x.locals] 47)).drew.cell? ⟨wr.heap.size, 0, none⟩ = _ := hl.cell 0 _ rfl
          have HZL := Lib.hid (Zone.of (X := blk u4) hlz hnb)
          have HSL := Lib.hid (show wr.heap.size < (wr.alloc (.cells #[.int .i64 x.place, .int .i64 x.args, .int .i64 x.locals] 47)).drew.heap.size by simp)
          have HNB := Lib.hid hnb
          have HF := Lib.hid hf; have HC := Lib.hid hc; have HX := Lib.hid hx
          have HWC := Lib.hid (show Chg [] w (wr.alloc (.cells #[.int .i64 x.place, .int .i64 x.args, .int .i64 x.locals] 47)).drew from (hc.alloc _).drew)
          have hxx : ∃ xs, pre4 o ++ (o.procs.take k).flatMap encEnt = xs := ⟨_, rfl⟩
          obtain ⟨xs, hxs⟩ := hxx
          rw [hxs] at how HRM
          have HXS := Lib.hid hxs
          have HO0 := Lib.hid how
          clear hcs hcell hx hc hat hf ho hxs how hlz hl hnb hroom 
          have hT := number_any u4 xs x.place (wr.alloc (.cells #[.int .i64 x.place, .int .i64 x.args, .int .i64 x.locals] 47)).drew (HFIT.out).1.1 (HFIT.out).1.2 (by have h1 := HRM.out; have h2 := HEL.out; (try simp only [List.length_append, encT_length, List.length_cons, List.length_nil] at h1 h2 ⊢); (try simp only [bs_size] at h1 h2 ⊢); omega) HO0.out
          have HT := Lib.hid hT; clear hT
          go_wp2_with fail
          refine wp_region_C (blk u4) rfl (by kernel_rfl) ?_
          have hS : Chg (blk u4) (wr.alloc (.cells #[.int .i64 x.place, .int .i64 x.args, .int .i64 x.locals] 47)).drew (wr.alloc (.cells #[.int .i64 x.place, .int .i64 x.args, .int .i64 x.locals] 47)).drew := Chg.refl _ _
          repeat
            (with_reducible show wpX _ _ _ _ _ _ _ _
             first
               | refine wpX_nil ?_
               | refine wpX_skip rfl ?_
               | refine wpX_mv rfl rfl (by kernel_rfl) (fun _ _ => ?_)
               | refine wpX_ldC rfl rfl rfl (by exact HZL.out) (by assumption) (fun _ _ => ?_)
               | refine wpX_ef' rfl rfl rfl (fun _ _ => ?_)
             go_wp2_with fail)
          refine HT.out.mono ?_; rintro _ w1 ⟨v1, rfl, h1, hS, hm⟩
          have hkk := Chg.cells hS HSL.out HNB.out
          have HO1 := Lib.hid h1; have HM1 := Lib.hid hm; clear h1 hm
          have hT := number_any v1 (xs ++ encN x.place) x.args w1 (HFIT.out).2.1.1 (HFIT.out).2.1.2 (by have h1 := HRM.out; have h2 := HEL.out; (try simp only [List.length_append, encT_length, List.length_cons, List.length_nil] at h1 h2 ⊢); (try simp only [bs_size] at h1 h2 ⊢); omega) HO1.out
          have HT := Lib.hid hT; clear hT
          go_wp2_with fail
          refine And.intro hS ?_
          repeat
            (with_reducible show wpX _ _ _ _ _ _ _ _
             first
               | refine wpX_nil ?_
               | refine wpX_skip rfl ?_
               | refine wpX_mv rfl rfl (by kernel_rfl) (fun _ _ => ?_)
               | refine wpX_ldC rfl rfl rfl (by exact HZL.out) (by assumption) (fun _ _ => ?_)
               | refine wpX_ef' rfl rfl rfl (fun _ _ => ?_)
             go_wp2_with fail)
          refine HT.out.mono ?_; rintro _ w2 hw
          obtain ⟨v2, rfl, h1, hS, hm⟩ := Wrote.trans hS HM1.out hw rfl
          clear hw
          have hkk := Chg.cells hS HSL.out HNB.out
          have HO2 := Lib.hid h1; have HM2 := Lib.hid hm; clear h1 hm
          have hT := number_any v2 ((xs ++ encN x.place) ++ encN x.args) x.locals w2 (HFIT.out).2.2.1 (HFIT.out).2.2.2 (by have h1 := HRM.out; have h2 := HEL.out; (try simp only [List.length_append, encT_length, List.length_cons, List.length_nil] at h1 h2 ⊢); (try simp only [bs_size] at h1 h2 ⊢); omega) HO2.out
          have HT := Lib.hid hT; clear hT
          go_wp2_with fail
          refine And.intro hS ?_
          repeat
            (with_reducible show wpX _ _ _ _ _ _ _ _
             first
               | refine wpX_nil ?_
               | refine wpX_skip rfl ?_
               | refine wpX_mv rfl rfl (by kernel_rfl) (fun _ _ => ?_)
               | refine wpX_ldC rfl rfl rfl (by exact HZL.out) (by assumption) (fun _ _ => ?_)
               | refine wpX_ef' rfl rfl rfl (fun _ _ => ?_)
             go_wp2_with fail)
          refine HT.out.mono ?_; rintro _ w3 hw
          obtain ⟨v3, rfl, h1, hS, hm⟩ := Wrote.trans hS HM2.out hw rfl
          clear hw
          have hkk := Chg.cells hS HSL.out HNB.out
          have HO3 := Lib.hid h1; have HM3 := Lib.hid hm; clear h1 hm
          go_wp2_with fail
          refine And.intro hS ?_
          repeat
            (with_reducible show wpX _ _ _ _ _ _ _ _
             first
               | refine wpX_nil ?_
               | refine wpX_skip rfl ?_
               | refine wpX_mv rfl rfl (by kernel_rfl) (fun _ _ => ?_)
               | refine wpX_ldC rfl rfl rfl (by exact HZL.out) (by assumption) (fun _ _ => ?_)
               | refine wpX_ef' rfl rfl rfl (fun _ _ => ?_)
             go_wp2_with fail)
          go_roundw
          case rel =>
            obtain ⟨hc3, hf3⟩ := wr_next HWC.out HF.out hS HM3.out
            refine ⟨k + 1, by omega, by go_num, ?_, hf3, hc3⟩
            rw [take_next HX.out, HXS.out]
            have h := HO3.out
            simp only [encEnt, List.append_assoc] at h ⊢
            exact h
          case measure => simp [intOf]; omega
        · have hkn : k = o.procs.length := by omega
          have HO := Lib.hid (show wr.ownsRow 0 5 1 u4 (pre4 o ++ o.procs.flatMap encEnt).length (bcells (pre4 o ++ o.procs.flatMap encEnt)) by have := ho; rwa [hkn, List.take_length] at this)
          have HF := Lib.hid hf; have HC := Lib.hid hc
          have h1 := hc.cellSome H.out.c1 (by simp)
          have h2 := hc.cellSome H.out.c2 (by simp)
          have h3 := hc.cellSome H.out.c3 (by simp)
          have h4 := hc.cellSome H.out.c4 (by simp)
          have h5 := hc.cellSome H.out.c5 (by simp)
          have h6 := hc.cellSome H.out.c6 (by simp)
          dsimp only at h1 h2 h3 h4 h5 h6
          clear ho hf hc
          have hT := number_any u4 (pre4 o ++ o.procs.flatMap encEnt) o.code.length wr (by omega) (by omega) (by have h1 := HPL.out.1; have h2 := HLE.out; simp only [pre5, List.length_append] at h1 ⊢; omega) HO.out
          have HT := Lib.hid hT; clear hT hk hkn
          go_wp2_with fail
          refine HT.out.mono ?_; rintro _ w2 ⟨v2, rfl, hown2, hch2, hmv2⟩
          obtain ⟨hc2, hf2⟩ := wr_next HC.out HF.out hch2 hmv2
          have h1 := hc2.cellSome H.out.c1 (by simp)
          have h2 := hc2.cellSome H.out.c2 (by simp)
          have h3 := hc2.cellSome H.out.c3 (by simp)
          have h4 := hc2.cellSome H.out.c4 (by simp)
          have h5 := hc2.cellSome H.out.c5 (by simp)
          have h6 := hc2.cellSome H.out.c6 (by simp)
          dsimp only at h1 h2 h3 h4 h5 h6
          have HO := Lib.hid (show w2.ownsRow 0 5 1 v2 (pre5 o).length (bcells (pre5 o)) from hown2)
          have HC := Lib.hid hc2; have HF := Lib.hid hf2
          clear hown2 hch2 hmv2 hc2 hf2 hlt
          go_wp2_with fail
          clear h1 h2 h3 h4 h5 h6
          go_loopw [4, 14, 143] (fun v _ i wr => ∃ k : Nat, k ≤ o.code.length ∧ i = .int .i64 k ∧ wr.ownsRow 0 5 1 v (pre5 o ++ (o.code.take k).flatMap encInst).length (bcells (pre5 o ++ (o.code.take k).flatMap encInst)) ∧ From w.heap.size v ∧ Chg [] w wr) (fun _ _ i _ => o.code.length - (intOf i).toNat)
          case atStart => exact ⟨0, Nat.zero_le _, rfl, by rw [List.take_zero, List.flatMap_nil, List.append_nil]; exact HO.out, HF.out, HC.out⟩
          case round =>
          obtain ⟨k, hk, rfl, ho, hf, hc⟩ := hrel
          by_cases hlt : k < o.code.length
          · obtain ⟨x, hx⟩ : ∃ x, o.code[k]? = some x := ⟨o.code[k], by simp [hlt]⟩
            have hat : At w ca (o.code.flatMap InstD.cells) := H.out.c
            obtain ⟨bb, boff, rfl, hcell⟩ := hat (by rw [flat_len _ 3 (fun _ => rfl)]; omega)
            have hcs : ∀ j, j < 3 → wr.cell? ⟨bb, boff + (k * 3 + j), none⟩ = (InstD.cells x)[j]? := fun j hj => by
              have h1 := flat_get InstD.cells 3 (fun _ => rfl) o.code k j x hx hj
              have h2 : j < (InstD.cells x).length := hj
              rw [List.getElem?_eq_getElem h2] at h1 ⊢
              exact hc.cellSome (hcell _ _ (by simpa using h1)) (by simp)
            have hc0 : wr.cell? ⟨bb, boff + k * 3, none⟩ = some (.int .i64 x.op) := hcs 0 (by omega)
            have hc1 : wr.cell? ⟨bb, boff + k * 3 + 1, none⟩ = some (.int .i64 x.a) := by have := hcs 1 (by omega); rw [← Nat.add_assoc] at this; exact this
            have hc2 : wr.cell? ⟨bb, boff + k * 3 + 2, none⟩ = some (.int .i64 x.b) := by have := hcs 2 (by omega); rw [← Nat.add_assoc] at this; exact this
            have hroom := room (pre := pre5 o) (f := encInst) (l := o.code) (N := (encO o).length) hx (Nat.le_refl _)
            have HRM := Lib.hid (show (pre5 o ++ (o.code.take k).flatMap encInst).length + (encInst x).length ≤ 1000000 by have := HLE.out; omega)
            have HEL := Lib.hid (show (encInst x).length = (encN x.op).length + (encN x.a).length + (encN x.b).length by simp only [encInst, List.length_append])
            have HFIT := Lib.hid (HS.out.fit.code x (List.mem_of_getElem? hx))
            have how := owns_kept ho (((Chg.refl [] wr).alloc (.cells #[.int .i64 x.op, .int .i64 x.a, .int .i64 x.b] 49)).drew) (fun _ _ h => by cases h)
            have hnb : wr.heap.size ∉ blk u4 := fun hm => by have := owns_lt ho _ hm; omega
            have hl := Blk.new wr #[.int .i64 x.op, .int .i64 x.a, .int .i64 x.b] 49
            have hlz : (wr.alloc (.cells #[.int .i64 x.op, .int .i64 x.a, .int .i64 x.b] 49)).drew.cell? ⟨wr.heap.size, 0, none⟩ = _ := hl.cell 0 _ rfl
            have HZL := Lib.hid (Zone.of (X := blk u4) hlz hnb)
            have HSL := Lib.hid (show wr.heap.size < (wr.alloc (.cells #[.int .i64 x.op, .int .i64 x.a, .int .i64 x.b] 49)).drew.heap.size by simp)
            have HNB := Lib.hid hnb
            have HF := Lib.hid hf; have HC := Lib.hid hc; have HX := Lib.hid hx
            have HWC := Lib.hid (show Chg [] w (wr.alloc (.cells #[.int .i64 x.op, .int .i64 x.a, .int .i64 x.b] 49)).drew from (hc.alloc _).drew)
            have hxx : ∃ xs, pre5 o ++ (o.code.take k).flatMap encInst = xs := ⟨_, rfl⟩
            obtain ⟨xs, hxs⟩ := hxx
            rw [hxs] at how HRM
            have HXS := Lib.hid hxs
            have HO0 := Lib.hid how
            clear hcs hcell hx hc hat hf ho hxs how hlz hl hnb hroom 
            have hT := number_any u4 xs x.op (wr.alloc (.cells #[.int .i64 x.op, .int .i64 x.a, .int .i64 x.b] 49)).drew (HFIT.out).1.1 (HFIT.out).1.2 (by have h1 := HRM.out; have h2 := HEL.out; (try simp only [List.length_append, encT_length, List.length_cons, List.length_nil] at h1 h2 ⊢); (try simp only [bs_size] at h1 h2 ⊢); omega) HO0.out
            have HT := Lib.hid hT; clear hT
            go_wp2_with fail
            refine wp_region_C (blk u4) rfl (by kernel_rfl) ?_
            have hS : Chg (blk u4) (wr.alloc (.cells #[.int .i64 x.op, .int .i64 x.a, .int .i64 x.b] 49)).drew (wr.alloc (.cells #[.int .i64 x.op, .int .i64 x.a, .int .i64 x.b] 49)).drew := Chg.refl _ _
            repeat
              (with_reducible show wpX _ _ _ _ _ _ _ _
               first
                 | refine wpX_nil ?_
                 | refine wpX_skip rfl ?_
                 | refine wpX_mv rfl rfl (by kernel_rfl) (fun _ _ => ?_)
                 | refine wpX_ldC rfl rfl rfl (by exact HZL.out) (by assumption) (fun _ _ => ?_)
                 | refine wpX_ef' rfl rfl rfl (fun _ _ => ?_)
               go_wp2_with fail)
            refine HT.out.mono ?_; rintro _ w1 ⟨v1, rfl, h1, hS, hm⟩
            have hkk := Chg.cells hS HSL.out HNB.out
            have HO1 := Lib.hid h1; have HM1 := Lib.hid hm; clear h1 hm
            have hT := number_any v1 (xs ++ encN x.op) x.a w1 (HFIT.out).2.1.1 (HFIT.out).2.1.2 (by have h1 := HRM.out; have h2 := HEL.out; (try simp only [List.length_append, encT_length, List.length_cons, List.length_nil] at h1 h2 ⊢); (try simp only [bs_size] at h1 h2 ⊢); omega) HO1.out
            have HT := Lib.hid hT; clear hT
            go_wp2_with fail
            refine And.intro hS ?_
            repeat
              (with_reducible show wpX _ _ _ _ _ _ _ _
               first
                 | refine wpX_nil ?_
                 | refine wpX_skip rfl ?_
                 | refine wpX_mv rfl rfl (by kernel_rfl) (fun _ _ => ?_)
                 | refine wpX_ldC rfl rfl rfl (by exact HZL.out) (by assumption) (fun _ _ => ?_)
                 | refine wpX_ef' rfl rfl rfl (fun _ _ => ?_)
               go_wp2_with fail)
            refine HT.out.mono ?_; rintro _ w2 hw
            obtain ⟨v2, rfl, h1, hS, hm⟩ := Wrote.trans hS HM1.out hw rfl
            clear hw
            have hkk := Chg.cells hS HSL.out HNB.out
            have HO2 := Lib.hid h1; have HM2 := Lib.hid hm; clear h1 hm
            have hT := number_any v2 ((xs ++ encN x.op) ++ encN x.a) x.b w2 (HFIT.out).2.2.1 (HFIT.out).2.2.2 (by have h1 := HRM.out; have h2 := HEL.out; (try simp only [List.length_append, encT_length, List.length_cons, List.length_nil] at h1 h2 ⊢); (try simp only [bs_size] at h1 h2 ⊢); omega) HO2.out
            have HT := Lib.hid hT; clear hT
            go_wp2_with fail
            refine And.intro hS ?_
            repeat
              (with_reducible show wpX _ _ _ _ _ _ _ _
               first
                 | refine wpX_nil ?_
                 | refine wpX_skip rfl ?_
                 | refine wpX_mv rfl rfl (by kernel_rfl) (fun _ _ => ?_)
                 | refine wpX_ldC rfl rfl rfl (by exact HZL.out) (by assumption) (fun _ _ => ?_)
                 | refine wpX_ef' rfl rfl rfl (fun _ _ => ?_)
               go_wp2_with fail)
            refine HT.out.mono ?_; rintro _ w3 hw
            obtain ⟨v3, rfl, h1, hS, hm⟩ := Wrote.trans hS HM2.out hw rfl
            clear hw
            have hkk := Chg.cells hS HSL.out HNB.out
            have HO3 := Lib.hid h1; have HM3 := Lib.hid hm; clear h1 hm
            go_wp2_with fail
            refine And.intro hS ?_
            repeat
              (with_reducible show wpX _ _ _ _ _ _ _ _
               first
                 | refine wpX_nil ?_
                 | refine wpX_skip rfl ?_
                 | refine wpX_mv rfl rfl (by kernel_rfl) (fun _ _ => ?_)
                 | refine wpX_ldC rfl rfl rfl (by exact HZL.out) (by assumption) (fun _ _ => ?_)
                 | refine wpX_ef' rfl rfl rfl (fun _ _ => ?_)
               go_wp2_with fail)
            go_roundw
            case rel =>
              obtain ⟨hc3, hf3⟩ := wr_next HWC.out HF.out hS HM3.out
              refine ⟨k + 1, by omega, by go_num, ?_, hf3, hc3⟩
              rw [take_next HX.out, HXS.out]
              have h := HO3.out
              simp only [encInst, List.append_assoc] at h ⊢
              exact h
            case measure => simp [intOf]; omega
          · have hkn : k = o.code.length := by omega
            have HO := Lib.hid (show wr.ownsRow 0 5 1 u4 (pre5 o ++ o.code.flatMap encInst).length (bcells (pre5 o ++ o.code.flatMap encInst)) by have := ho; rwa [hkn, List.take_length] at this)
            have HF := Lib.hid hf; have HC := Lib.hid hc
            have h1 := hc.cellSome H.out.c1 (by simp)
            have h2 := hc.cellSome H.out.c2 (by simp)
            have h3 := hc.cellSome H.out.c3 (by simp)
            have h4 := hc.cellSome H.out.c4 (by simp)
            have h5 := hc.cellSome H.out.c5 (by simp)
            have h6 := hc.cellSome H.out.c6 (by simp)
            dsimp only at h1 h2 h3 h4 h5 h6
            clear ho hf hc
            have hcv := conv_own HO.out
            have HC5 := Lib.hid HC.out
            clear h1 h2 h3 h4 h5 h6
            go_wp2_with fail
            go_ret2
            exact ⟨rfl, HC5.out⟩
end Go.Proofs.YtjgfclhempjinaaGreatDoor
