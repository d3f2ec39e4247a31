/- The printer's at and Text. -/
import Derived.Test.YtdlhjcnmpcligaaDoorTreeP2
import Derived.Test.YtdlhjcnmpcligaaDoorTreeW5
namespace Go.Mq.Tree
open Go Go.RowKit Go.Mq
theorem bs_append (a b : List UInt8) : bs (a ++ b) = bs a ++ bs b := by
  apply ByteArray.ext
  simp [bs]
/-- A string that is said by its bytes alone. -/
theorem nm_len {n : List UInt8} (h : Nm n) : n.length ≤ 1099511627776 := by have := h.2.2; omega
theorem qm_len {n : List UInt8} (h : Qm n) : n.length ≤ 1099511627776 := by
  rcases h with rfl | h
  · simp
  · exact nm_len h
theorem op_len : ∀ k < 5, ∀ op ∈ levels.getD (4 - k) [], op.length ≤ 10 := by decide
theorem text_num (p : Nat) (n : Int) : text (.num p n) = Lib.itoa n := rfl
end Go.Mq.Tree
namespace Go.Proofs.YtdlhjcnmpcligaaDoor
open Go Go.RowKit Go.Mq Go.Mq.Tree
set_option maxRecDepth 100000
set_option maxHeartbeats 1000000
def Said (f : FuncId) (args : Array Value) (w : World) (t : ByteArray) : Prop := Calls Tryd.prog f args w (fun e w' => e = .returned (.string t) ∧ Chg [] w w')
def TextOK (x : E) : Prop := ∀ (F : Nat → Prop) (u : Value) (w : World) (B : Nat), Laid w B → EAt w F x [u] → (text x).length ≤ 1099511627776 → Said 32 #[u] w (bs (text x))
theorem at_of (x : E) (hx : x.isX) (hT : TextOK x) (lv : Nat) (F : Nat → Prop) (u : Value) (w : World) (B : Nat) (hL : Laid w B) (h : EAt w F x [u]) (hlen : (text x).length ≤ 1099511627776) : Said 45 #[u, .int .i64 lv] w (bs (within lv x (text x))) := by
  have hs := hT F u w B hL h hlen
  obtain ⟨t, ht⟩ : ∃ t : ByteArray, t = bs (text x) := ⟨_, rfl⟩
  have hsz : t.size ≤ 1099511627776 := by rw [ht]; exact hlen
  rw [← ht] at hs
  have HT := Lib.hid hs
  have HV := Lib.hid (level_of x hx F u w B hL h)
  have HR := Lib.hid (show bs (within lv x (text x)) = if lv ≤ lvl x then t else bs [40] ++ t ++ bs [41] by rw [within, ht, apply_ite bs, bs_append, bs_append])
  clear hs ht hL h hT hx hlen
  unfold Said
  rw [HR.out]
  by_cases hle : lv ≤ lvl x
  · rw [if_pos hle]
    go_enter Tryd.func45, Tryd.ntmps45
    go_wp2_with fail
    refine HV.out.mono ?_; rintro _ _ ⟨rfl, rfl⟩
    go_wp2_with fail
    refine HT.out.mono ?_; rintro _ w2 ⟨rfl, hc⟩
    have HC := Lib.hid hc; clear hc
    go_wp2_with fail
    go_ret
    exact ⟨rfl, HC.out⟩
  · rw [if_neg hle]
    go_enter Tryd.func45, Tryd.ntmps45
    go_wp2_with fail
    refine HV.out.mono ?_; rintro _ _ ⟨rfl, rfl⟩
    go_wp2_with fail
    refine HT.out.mono ?_; rintro _ w2 ⟨rfl, hc⟩
    have HC := Lib.hid hc; clear hc
    go_wp2_with fail
    go_ret
    exact ⟨rfl, HC.out⟩
theorem text_num_ok (p : Nat) (n : Int) (h0 : 0 ≤ n) (h1 : n ≤ 9223372036854775807) : TextOK (.num p n) := by
  intro F u w B hL h _
  obtain ⟨b, hb, _, hbk⟩ := h
  cases hb
  have HF := Lib.hid (fmt_any n h0 h1 w B hL)
  have c0 := hbk.cell 0 _ rfl; have c2 := hbk.cell 2 _ rfl; have c3 := hbk.cell 3 _ rfl; have c4 := hbk.cell 4 _ rfl
  clear hL hbk h0 h1
  go_enter Tryd.func32, Tryd.ntmps32
  go_wp2_with fail
  refine HF.out.mono ?_; rintro _ w2 ⟨rfl, hc⟩
  have HC := Lib.hid hc; clear hc
  go_wp2_with fail
  go_ret
  exact ⟨rfl, HC.out⟩
theorem text_var_ok (p : Nat) (m n : List UInt8) (hm : m.length ≤ 1099511627776) (hn : n.length ≤ 1099511627776) : TextOK (.var p m n) := by
  intro F u w B hL h hlen
  obtain ⟨b, hb, _, hbk⟩ := h
  cases hb
  have c0 := hbk.cell 0 _ rfl; have c2 := hbk.cell 2 _ rfl; have c3 := hbk.cell 3 _ rfl; have c4 := hbk.cell 4 _ rfl; have c5 := hbk.cell 5 _ rfl; have c6 := hbk.cell 6 _ rfl; have c7 := hbk.cell 7 _ rfl; have c8 := hbk.cell 8 _ rfl
  clear hL hbk hlen
  by_cases hm0 : m = []
  · subst hm0
    have HR := Lib.hid (show bs (text (.var p [] n)) = bs n by rfl)
    go_enter Tryd.func32, Tryd.ntmps32
    go_wp2_with fail
    have HW := Lib.hid (Chg.refl [] w)
    have HC := HW
    go_ret
    exact ⟨congrArg (fun t => Ending.returned (Value.string t)) HR.out.symm, HC.out⟩
  · have hmb : (m == []) = false := by simpa using hm0
    have HR := Lib.hid (show bs (text (.var p m n)) = bs m ++ bs [46] ++ bs n by rw [text, qualT, if_neg hm0, bs_append, bs_append])
    clear hm0
    go_enter Tryd.func32, Tryd.ntmps32
    go_wp2_with fail
    refine wp_region_C [] rfl (by kernel_rfl) ?_
    have HZ := Lib.hid (Zone.of (X := []) (w0 := w.drew) (off := 0) (b := b) c0 (by simp))
    have hS : Chg [] w.drew w.drew := Chg.refl _ _
    repeat
      (with_reducible show wpX _ _ _ _ _ _ _ _
       first
         | refine wpX_nil ?_
         | refine wpX_skip rfl ?_
         | refine wpX_mv rfl rfl (by kernel_rfl) (fun _ _ => ?_)
         | refine wpX_ldC rfl rfl rfl (by exact HZ.out) (by assumption) (fun _ _ => ?_)
         | refine wpX_ef' rfl rfl rfl (fun _ _ => ?_)
       go_wp2_with fail)
    have HW := Lib.hid ((Chg.refl [] w).drew)
    clear hS
    have HC := HW
    go_ret
    exact ⟨congrArg (fun t => Ending.returned (Value.string t)) HR.out.symm, HC.out⟩
theorem text_item_ok (p : Nat) (m n : List UInt8) (i : E) (hm : m.length ≤ 1099511627776) (hn : n.length ≤ 1099511627776) (hT : TextOK i) : TextOK (.item p m n i) := by
  intro F u w B hL h hlen
  obtain ⟨b, u1, hb, _, hbk, hx⟩ := h
  cases hb
  have c0 := hbk.cell 0 _ rfl; have c2 := hbk.cell 2 _ rfl; have c3 := hbk.cell 3 _ rfl; have c4 := hbk.cell 4 _ rfl; have c5 := hbk.cell 5 _ rfl; have c6 := hbk.cell 6 _ rfl; have c7 := hbk.cell 7 _ rfl; have c8 := hbk.cell 8 _ rfl
  have hlen' : (text i).length ≤ 1099511627776 := by have := hlen; simp only [text, List.length_append] at this; omega
  obtain ⟨t, ht⟩ : ∃ t : ByteArray, t = bs (text i) := ⟨_, rfl⟩
  have hsz : t.size ≤ 1099511627776 := by rw [ht]; exact hlen'
  have HT := Lib.hid (show ∀ w', Chg [] w w' → Said 32 #[u1] w' t from fun w' hc => by rw [ht]; exact hT F u1 w' B (hL.kept hc (by simp)) (hx.kept hc (by simp)) hlen')
  clear hL hbk hlen hlen' hT hx
  by_cases hm0 : m = []
  · subst hm0
    have HR := Lib.hid (show bs (text (.item p [] n i)) = bs n ++ bs [91] ++ t ++ bs [93] by rw [text, qualT, if_pos rfl, bs_append, bs_append, bs_append, ht])
    go_enter Tryd.func32, Tryd.ntmps32
    go_wp2_with fail
    have HW := Lib.hid (Chg.refl [] w)
    clear ht
    refine (HT.out _ HW.out).mono ?_; rintro _ w2 ⟨rfl, hc⟩
    have HC := Lib.hid (HW.out.then hc); clear hc
    go_wp2_with fail
    go_ret
    exact ⟨congrArg (fun t => Ending.returned (Value.string t)) HR.out.symm, HC.out⟩
  · have hmb : (m == []) = false := by simpa using hm0
    have HR := Lib.hid (show bs (text (.item p m n i)) = bs m ++ bs [46] ++ bs n ++ bs [91] ++ t ++ bs [93] by rw [text, qualT, if_neg hm0, bs_append, bs_append, bs_append, bs_append, bs_append, ht])
    clear hm0
    go_enter Tryd.func32, Tryd.ntmps32
    go_wp2_with fail
    refine wp_region_C [] rfl (by kernel_rfl) ?_
    have HZ := Lib.hid (Zone.of (X := []) (w0 := w.drew) (off := 0) (b := b) c0 (by simp))
    have hS : Chg [] w.drew w.drew := Chg.refl _ _
    repeat
      (with_reducible show wpX _ _ _ _ _ _ _ _
       first
         | refine wpX_nil ?_
         | refine wpX_skip rfl ?_
         | refine wpX_mv rfl rfl (by kernel_rfl) (fun _ _ => ?_)
         | refine wpX_ldC rfl rfl rfl (by exact HZ.out) (by assumption) (fun _ _ => ?_)
         | refine wpX_ef' rfl rfl rfl (fun _ _ => ?_)
       go_wp2_with fail)
    have HW := Lib.hid ((Chg.refl [] w).drew)
    clear hS
    clear ht
    refine (HT.out _ HW.out).mono ?_; rintro _ w2 ⟨rfl, hc⟩
    have HC := Lib.hid (HW.out.then hc); clear hc
    go_wp2_with fail
    go_ret
    exact ⟨congrArg (fun t => Ending.returned (Value.string t)) HR.out.symm, HC.out⟩
theorem text_minus_ok (p : Nat) (x : E) (hX : x.isX) (hT : TextOK x) : TextOK (.un p [45] x) := by
  intro F u w B hL h hlen
  obtain ⟨b, u1, hb, _, hbk, hx⟩ := h
  cases hb
  have c0 := hbk.cell 0 _ rfl; have c2 := hbk.cell 2 _ rfl; have c3 := hbk.cell 3 _ rfl; have c4 := hbk.cell 4 _ rfl; have c5 := hbk.cell 5 _ rfl; have c6 := hbk.cell 6 _ rfl; have c7 := hbk.cell 7 _ rfl; have c8 := hbk.cell 8 _ rfl
  have hlen' : (text x).length ≤ 1099511627776 := by have h2 := hlen; have h3 := within_ge 5 x (text x); simp only [text, List.length_append] at h2; omega
  have hlen2 : (within 5 x (text x)).length ≤ 1099511627776 := by have h2 := hlen; simp only [text, List.length_append] at h2; omega
  obtain ⟨t, ht⟩ : ∃ t : ByteArray, t = bs (within 5 x (text x)) := ⟨_, rfl⟩
  have hsz : t.size ≤ 1099511627776 := by rw [ht]; exact hlen2
  have HT := Lib.hid (show ∀ w', Chg [] w w' → Said 45 #[u1, .int .i64 5] w' t from fun w' hc => by rw [ht]; exact at_of x hX hT 5 F u1 w' B (hL.kept hc (by simp)) (hx.kept hc (by simp)) hlen')
  have HR := Lib.hid (show bs (text (.un p [45] x)) = bs [45] ++ t by rw [ht, text, ← bs_append]; rfl)
  clear hL hbk hlen hlen' hlen2 hT hx ht hX
  go_enter Tryd.func32, Tryd.ntmps32
  go_wp2_with fail
  refine (HT.out _ (Chg.refl _ _)).mono ?_; rintro _ w2 ⟨rfl, hc⟩
  have HC := Lib.hid hc; clear hc
  go_wp2_with fail
  go_ret
  exact ⟨congrArg (fun t => Ending.returned (Value.string t)) HR.out.symm, HC.out⟩
theorem text_not_ok (p : Nat) (x : E) (hX : x.isX) (hT : TextOK x) : TextOK (.un p [110, 111, 116] x) := by
  intro F u w B hL h hlen
  obtain ⟨b, u1, hb, _, hbk, hx⟩ := h
  cases hb
  have c0 := hbk.cell 0 _ rfl; have c2 := hbk.cell 2 _ rfl; have c3 := hbk.cell 3 _ rfl; have c4 := hbk.cell 4 _ rfl; have c5 := hbk.cell 5 _ rfl; have c6 := hbk.cell 6 _ rfl; have c7 := hbk.cell 7 _ rfl; have c8 := hbk.cell 8 _ rfl
  have hlen' : (text x).length ≤ 1099511627776 := by have h2 := hlen; have h3 := within_ge 5 x (text x); simp only [text, List.length_append] at h2; omega
  have hlen2 : (within 5 x (text x)).length ≤ 1099511627776 := by have h2 := hlen; simp only [text, List.length_append] at h2; omega
  obtain ⟨t, ht⟩ : ∃ t : ByteArray, t = bs (within 5 x (text x)) := ⟨_, rfl⟩
  have hsz : t.size ≤ 1099511627776 := by rw [ht]; exact hlen2
  have HT := Lib.hid (show ∀ w', Chg [] w w' → Said 45 #[u1, .int .i64 5] w' t from fun w' hc => by rw [ht]; exact at_of x hX hT 5 F u1 w' B (hL.kept hc (by simp)) (hx.kept hc (by simp)) hlen')
  have HR := Lib.hid (show bs (text (.un p [110, 111, 116] x)) = bs [110, 111, 116, 32] ++ t by rw [ht, text, ← bs_append]; rfl)
  clear hL hbk hlen hlen' hlen2 hT hx ht hX
  go_enter Tryd.func32, Tryd.ntmps32
  go_wp2_with fail
  refine (HT.out _ (Chg.refl _ _)).mono ?_; rintro _ w2 ⟨rfl, hc⟩
  have HC := Lib.hid hc; clear hc
  go_wp2_with fail
  go_ret
  exact ⟨congrArg (fun t => Ending.returned (Value.string t)) HR.out.symm, HC.out⟩
theorem text_bin_ok (p : Nat) (op : List UInt8) (x y : E) (hop : op.length ≤ 10) (hol : opLevel op < 5) (hX : x.isX) (hY : y.isX) (hT1 : TextOK x) (hT2 : TextOK y) : TextOK (.bin p op x y) := by
  intro F u w B hL h hlen
  have HV := Lib.hid (level_of (.bin p op x y) trivial F u w B hL h)
  obtain ⟨b, u1, u2, hb, _, hbk, hx1, hx2⟩ := h
  cases hb
  have c0 := hbk.cell 0 _ rfl; have c2 := hbk.cell 2 _ rfl; have c3 := hbk.cell 3 _ rfl; have c4 := hbk.cell 4 _ rfl; have c5 := hbk.cell 5 _ rfl; have c6 := hbk.cell 6 _ rfl; have c7 := hbk.cell 7 _ rfl; have c8 := hbk.cell 8 _ rfl
  have h2 := hlen
  simp only [text, List.length_append] at h2
  have hl1 : (text x).length ≤ 1099511627776 := by have h3 := within_ge (opLevel op) x (text x); omega
  have hl2 : (text y).length ≤ 1099511627776 := by have h3 := within_ge (opLevel op + 1) y (text y); omega
  obtain ⟨t1, ht1⟩ : ∃ t : ByteArray, t = bs (within (opLevel op) x (text x)) := ⟨_, rfl⟩
  obtain ⟨t2, ht2⟩ : ∃ t : ByteArray, t = bs (within (opLevel op + 1) y (text y)) := ⟨_, rfl⟩
  obtain ⟨to, hto⟩ : ∃ t : ByteArray, t = bs op := ⟨_, rfl⟩
  have hz1 : t1.size ≤ 1099511627776 := by rw [ht1, bs_size]; omega
  have hz2 : t2.size ≤ 1099511627776 := by rw [ht2, bs_size]; omega
  have hz3 : to.size ≤ 10 := by rw [hto]; exact hop
  have HT1 := Lib.hid (show ∀ w', Chg [] w w' → Said 45 #[u1, .int .i64 (opLevel op)] w' t1 from fun w' hc => by rw [ht1]; exact at_of x hX hT1 _ F u1 w' B (hL.kept hc (by simp)) (hx1.kept hc (by simp)) hl1)
  have HT2 := Lib.hid (show ∀ w', Chg [] w w' → Said 45 #[u2, .int .i64 ((opLevel op : Int) + 1)] w' t2 from fun w' hc => by rw [ht2]; exact at_of y hY hT2 (opLevel op + 1) F u2 w' B (hL.kept hc (by simp)) (hx2.kept hc (by simp)) hl2)
  have HR := Lib.hid (show bs (text (.bin p op x y)) = t1 ++ bs [32] ++ to ++ bs [32] ++ t2 by rw [ht1, ht2, hto, text, bs_append, bs_append, bs_append, bs_append])
  simp only [lvl] at HV
  have c5' : w.cell? ⟨b, 5, none⟩ = some (.string to) := by rw [hto]; exact c5
  obtain ⟨lv, hlv⟩ : ∃ lv, lv = opLevel op := ⟨_, rfl⟩
  rw [← hlv] at HT1 HT2 HV hol
  clear hL hbk hlen hT1 hT2 hx1 hx2 ht1 ht2 hX hY hto hop h2 hl1 hl2 hlv c5
  have HLT := Lib.hid (show b < w.drew.heap.size from lt_of_cell c0)
  have HZ := Lib.hid (Zone.of (X := []) (w0 := w.drew) (off := 0) (b := b) c0 (by simp))
  go_enter Tryd.func32, Tryd.ntmps32
  go_wp2_with fail
  refine HV.out.mono ?_; rintro _ w1 ⟨rfl, hw⟩; have hw := hw.symm; subst hw
  go_wp2_with fail
  refine wp_region_C [] rfl (by kernel_rfl) ?_
  have hS : Chg [] w.drew w.drew := Chg.refl _ _
  repeat
    (with_reducible show wpX _ _ _ _ _ _ _ _
     first
       | refine wpX_nil ?_
       | refine wpX_skip rfl ?_
       | refine wpX_mv rfl rfl (by kernel_rfl) (fun _ _ => ?_)
       | refine wpX_ldC rfl rfl rfl (by exact HZ.out) (by assumption) (fun _ _ => ?_)
       | refine wpX_ef' rfl rfl rfl (fun _ _ => ?_)
     go_wp2_with fail)
  refine (HT1.out _ ((Chg.drew (Chg.refl [] w)).then hS)).mono ?_; rintro _ _ ⟨rfl, hw⟩; have hS := Chg.then (by assumption) hw; have hk := Chg.cells hS HLT.out (by simp); clear hw
  go_wp2_with fail
  refine And.intro (by assumption : Chg _ _ _) ?_
  repeat
    (with_reducible show wpX _ _ _ _ _ _ _ _
     first
       | refine wpX_nil ?_
       | refine wpX_skip rfl ?_
       | refine wpX_mv rfl rfl (by kernel_rfl) (fun _ _ => ?_)
       | refine wpX_ldC rfl rfl rfl (by exact HZ.out) (by assumption) (fun _ _ => ?_)
       | refine wpX_ef' rfl rfl rfl (fun _ _ => ?_)
     go_wp2_with fail)
  refine (HT2.out _ ((Chg.drew (Chg.refl [] w)).then (by assumption))).mono ?_; rintro _ _ ⟨rfl, hw⟩; have hS := Chg.then (by assumption) hw; have hk := Chg.cells hS HLT.out (by simp); clear hw
  go_wp2_with fail
  refine And.intro (by assumption : Chg _ _ _) ?_
  repeat
    (with_reducible show wpX _ _ _ _ _ _ _ _
     first
       | refine wpX_nil ?_
       | refine wpX_skip rfl ?_
       | refine wpX_mv rfl rfl (by kernel_rfl) (fun _ _ => ?_)
       | refine wpX_ldC rfl rfl rfl (by exact HZ.out) (by assumption) (fun _ _ => ?_)
       | refine wpX_ef' rfl rfl rfl (fun _ _ => ?_)
     go_wp2_with fail)
  have HC := Lib.hid ((Chg.drew (Chg.refl [] w)).then (by assumption))
  go_ret
  exact ⟨congrArg (fun t => Ending.returned (Value.string t)) HR.out.symm, HC.out⟩
theorem text_app_ok (p : Nat) (m n : List UInt8) (l : E) (hm : m.length ≤ 1099511627776) (hn : n.length ≤ 1099511627776) (hl : l.isL) (hw : WF l) (hT : ∀ y ∈ l.list, TextOK y) : TextOK (.app p m n l) := by
  intro F u w B hL h hlen
  obtain ⟨b, a, c, vs, hb, _, hbk, hvc, hrow, hx⟩ := h
  cases hb
  have c0 := hbk.cell 0 _ rfl; have c2 := hbk.cell 2 _ rfl; have c3 := hbk.cell 3 _ rfl; have c4 := hbk.cell 4 _ rfl; have c5 := hbk.cell 5 _ rfl; have c6 := hbk.cell 6 _ rfl; have c7 := hbk.cell 7 _ rfl; have c8 := hbk.cell 8 _ rfl
  obtain ⟨hvl, hel⟩ := EAt.elems l vs hl hw hx
  have htl := text_list l hl hw
  obtain ⟨J, hJ⟩ : ∃ J, J = Lib.join (l.list.map text) [44, 32] := ⟨_, rfl⟩
  have hjl : J.length ≤ 1099511627776 := by have h2 := hlen; simp only [text, List.length_append] at h2; rw [htl, ← hJ] at h2; omega
  have hjg := join_ge [44, 32] (by decide) (l.list.map text)
  rw [← hJ] at hjg
  have hvn : vs.length ≤ 1099511627777 := by have := hjg.1; simp at this; omega
  have HEL := Lib.hid (show ∀ (k : Nat) (y : E), l.list[k]? = some y → ∃ b' o u, a = some ⟨b', o, none⟩ ∧ w.cell? ⟨b', o + k, none⟩ = some u ∧ (text y).length ≤ 1099511627776 ∧ ∀ w', Chg [] w w' → Said 32 #[u] w' (bs (text y)) from fun k y hy => by
    obtain ⟨u, hu, hxu⟩ := hel k y hy
    obtain ⟨b', o, rfl, hcell⟩ := hrow.at_ (by have := (List.getElem?_eq_some_iff.1 hu).1; omega)
    have hyl : (text y).length ≤ 1099511627776 := Nat.le_trans (hjg.2 _ (List.mem_map_of_mem (List.mem_of_getElem? hy))) hjl
    exact ⟨b', o, u, rfl, hcell k u hu, hyl, fun w' hc => hT y (List.mem_of_getElem? hy) F u w' B (hL.kept hc (by simp)) (hxu.kept hc (by simp)) hyl⟩)
  have hlt' : text l = J := by rw [htl, hJ]
  have HJ := Lib.hid (show ∀ (v : Value) (w' : World), Chg [] w w' → NamesAt w' (fun _ => True) (l.list.map text) v → Said 15 #[v, .string ⟨#[44, 32]⟩] w' (bs J) from fun v w' _ hv => by
    have := join_any (l.list.map text) [44, 32] w' (fun _ => True) v hv (by rw [← hJ]; exact hjl) (by have := hvn; rw [hvl] at this; simpa using this)
    rw [← hJ] at this
    exact this)
  obtain ⟨t, ht⟩ : ∃ t : ByteArray, t = bs J := ⟨_, rfl⟩
  have hsz : t.size ≤ 1099511627776 := by rw [ht]; exact hjl
  rw [← ht] at HJ
  clear hL hbk hlen hT hx hrow hel hjg hJ hl hw htl hvc c2 c5 c6 c7
  by_cases hm0 : m = []
  · subst hm0
    have HR := Lib.hid (show bs (text (.app p [] n l)) = bs n ++ bs [40] ++ t ++ bs [41] by rw [text, qualT, if_pos rfl, bs_append, bs_append, bs_append, hlt', ht])
    go_enter Tryd.func32, Tryd.ntmps32
    go_wp2_with fail
    have HW := Lib.hid (Chg.refl [] w)
    clear ht hlt'
    go_loopw [5, 7, 100] (fun v _ i wr => ∃ k : Nat, k ≤ vs.length ∧ i = .int .i64 k ∧ Chg [] w wr ∧ wr.ownsRow 0 9 1 v k ((l.list.take k).map fun y => str (text y)) ∧ From w.heap.size v) (fun _ _ i _ => vs.length - (intOf i).toNat)
    case atStart => exact ⟨0, Nat.zero_le _, rfl, HW.out, World.ownsRow_nil _ _ _ _, From.nil _⟩
    case round =>
      obtain ⟨k, hk, rfl, hc, ho, hf⟩ := hrel
      have HC := Lib.hid hc; have HO := Lib.hid ho; have HF := Lib.hid hf
      clear hc ho hf
      by_cases hlt : k < vs.length
      · obtain ⟨y, hy⟩ : ∃ y, l.list[k]? = some y := ⟨l.list[k]'(by omega), List.getElem?_eq_getElem (by omega)⟩
        obtain ⟨b', o, u, rfl, hcell, hyl, hsaid⟩ := HEL.out k y hy
        have hcell' := HC.out.cellSome hcell (by simp)
        have HS := Lib.hid (hsaid wr HC.out)
        have HY := Lib.hid hy
        obtain ⟨ty, hty⟩ : ∃ ty : ByteArray, ty = bs (text y) := ⟨_, rfl⟩
        rw [← hty] at HS
        have HTY := Lib.hid hty
        clear hcell hsaid hy hty hyl
        go_wp2_with fail
        refine HS.out.mono ?_; rintro _ w2 ⟨rfl, hc2⟩
        have HC2 := Lib.hid hc2
        have HO2 := Lib.hid (owns_kept HO.out (hc2.alloc (.cells #[.string ty] 9)) (fun g hg hm => by simp at hm))
        have hsz2 := HC.out.size
        have hsz3 := hc2.size
        clear hc2
        go_wp2_with (at_builtin; go_must (refine wpL_append rfl _ _ 24 rfl 9 _ 1 16 infoStr Tryd.underlying24 rfl (by decide) _ _ _ rfl HO2.out ⟨w2.heap.size, 0, none⟩ 1 1 [_] rfl rfl (cell_new1 _ _ _) (by simp [Value.oneCell']) ?_ ?_ ?_))
        · omega
        · unfold maxLen; omega
        · intro v' w' hown' hch' hmv'
          have HO3 := Lib.hid hown'
          have hf3 := HF.out.moved hmv' (by simp; omega)
          have HF3 := Lib.hid hf3
          have HC3 := Lib.hid (((HC.out.then HC2.out).alloc (.cells #[.string ty] 9)).trans hch' (fun x hx => .inr (HF.out x hx)))
          clear hown' hch' hmv' hf3
          go_wp2_with fail
          refine ⟨⟨k + 1, by omega, by go_num, HC3.out, ?_, HF3.out⟩, by simp [intOf]; omega⟩
          have e : ((l.list.take (k + 1)).map fun y => str (text y)) = ((l.list.take k).map fun y => str (text y)) ++ [.string ty] := by
            have := List.take_add_one (l := l.list) (i := k)
            rw [this, HY.out, HTY.out]
            simp
          rw [e, List.map_take]
          exact HO3.out
      · have hke : k = vs.length := by omega
        have hfull : ((l.list.take k).map fun y => str (text y)) = (l.list.map text).map str := by rw [hke, hvl, List.take_length]; simp
        have hna : NamesAt wr (fun _ => True) (l.list.map text) u5 := by
          have ho := HO.out
          rw [hfull] at ho
          obtain ⟨a', c', he, hc', hrow⟩ := Row.of_owns ho (F := fun _ => True) (fun _ _ => trivial)
          exact ⟨a', c', by rw [he, hke, hvl]; simp, by rw [hke, hvl] at hc'; simpa using hc', hrow⟩
        have HJ2 := Lib.hid (HJ.out u5 wr HC.out hna)
        clear hna hfull
        go_wp2_with fail
        refine HJ2.out.mono ?_; rintro _ w2 ⟨rfl, hc2⟩
        have HC2 := Lib.hid (HC.out.then hc2); clear hc2
        go_wp2_with fail
        go_ret
        exact ⟨congrArg (fun t => Ending.returned (Value.string t)) HR.out.symm, HC2.out⟩
  · have hmb : (m == []) = false := by simpa using hm0
    have HR := Lib.hid (show bs (text (.app p m n l)) = bs m ++ bs [46] ++ bs n ++ bs [40] ++ t ++ bs [41] by rw [text, qualT, if_neg hm0, bs_append, bs_append, bs_append, bs_append, bs_append, hlt', ht])
    clear hm0
    go_enter Tryd.func32, Tryd.ntmps32
    go_wp2_with fail
    refine wp_region_C [] rfl (by kernel_rfl) ?_
    have HZ := Lib.hid (Zone.of (X := []) (w0 := w.drew) (off := 0) (b := b) c0 (by simp))
    have hS : Chg [] w.drew w.drew := Chg.refl _ _
    repeat
      (with_reducible show wpX _ _ _ _ _ _ _ _
       first
         | refine wpX_nil ?_
         | refine wpX_skip rfl ?_
         | refine wpX_mv rfl rfl (by kernel_rfl) (fun _ _ => ?_)
         | refine wpX_ldC rfl rfl rfl (by exact HZ.out) (by assumption) (fun _ _ => ?_)
         | refine wpX_ef' rfl rfl rfl (fun _ _ => ?_)
       go_wp2_with fail)
    have HW := Lib.hid ((Chg.refl [] w).drew)
    clear hS
    clear ht hlt'
    go_loopw [5, 7, 100] (fun v _ i wr => ∃ k : Nat, k ≤ vs.length ∧ i = .int .i64 k ∧ Chg [] w wr ∧ wr.ownsRow 0 9 1 v k ((l.list.take k).map fun y => str (text y)) ∧ From w.heap.size v) (fun _ _ i _ => vs.length - (intOf i).toNat)
    case atStart => exact ⟨0, Nat.zero_le _, rfl, HW.out, World.ownsRow_nil _ _ _ _, From.nil _⟩
    case round =>
      obtain ⟨k, hk, rfl, hc, ho, hf⟩ := hrel
      have HC := Lib.hid hc; have HO := Lib.hid ho; have HF := Lib.hid hf
      clear hc ho hf
      by_cases hlt : k < vs.length
      · obtain ⟨y, hy⟩ : ∃ y, l.list[k]? = some y := ⟨l.list[k]'(by omega), List.getElem?_eq_getElem (by omega)⟩
        obtain ⟨b', o, u, rfl, hcell, hyl, hsaid⟩ := HEL.out k y hy
        have hcell' := HC.out.cellSome hcell (by simp)
        have HS := Lib.hid (hsaid wr HC.out)
        have HY := Lib.hid hy
        obtain ⟨ty, hty⟩ : ∃ ty : ByteArray, ty = bs (text y) := ⟨_, rfl⟩
        rw [← hty] at HS
        have HTY := Lib.hid hty
        clear hcell hsaid hy hty hyl
        go_wp2_with fail
        refine HS.out.mono ?_; rintro _ w2 ⟨rfl, hc2⟩
        have HC2 := Lib.hid hc2
        have HO2 := Lib.hid (owns_kept HO.out (hc2.alloc (.cells #[.string ty] 9)) (fun g hg hm => by simp at hm))
        have hsz2 := HC.out.size
        have hsz3 := hc2.size
        clear hc2
        go_wp2_with (at_builtin; go_must (refine wpL_append rfl _ _ 24 rfl 9 _ 1 16 infoStr Tryd.underlying24 rfl (by decide) _ _ _ rfl HO2.out ⟨w2.heap.size, 0, none⟩ 1 1 [_] rfl rfl (cell_new1 _ _ _) (by simp [Value.oneCell']) ?_ ?_ ?_))
        · omega
        · unfold maxLen; omega
        · intro v' w' hown' hch' hmv'
          have HO3 := Lib.hid hown'
          have hf3 := HF.out.moved hmv' (by simp; omega)
          have HF3 := Lib.hid hf3
          have HC3 := Lib.hid (((HC.out.then HC2.out).alloc (.cells #[.string ty] 9)).trans hch' (fun x hx => .inr (HF.out x hx)))
          clear hown' hch' hmv' hf3
          go_wp2_with fail
          refine ⟨⟨k + 1, by omega, by go_num, HC3.out, ?_, HF3.out⟩, by simp [intOf]; omega⟩
          have e : ((l.list.take (k + 1)).map fun y => str (text y)) = ((l.list.take k).map fun y => str (text y)) ++ [.string ty] := by
            have := List.take_add_one (l := l.list) (i := k)
            rw [this, HY.out, HTY.out]
            simp
          rw [e, List.map_take]
          exact HO3.out
      · have hke : k = vs.length := by omega
        have hfull : ((l.list.take k).map fun y => str (text y)) = (l.list.map text).map str := by rw [hke, hvl, List.take_length]; simp
        have hna : NamesAt wr (fun _ => True) (l.list.map text) u5 := by
          have ho := HO.out
          rw [hfull] at ho
          obtain ⟨a', c', he, hc', hrow⟩ := Row.of_owns ho (F := fun _ => True) (fun _ _ => trivial)
          exact ⟨a', c', by rw [he, hke, hvl]; simp, by rw [hke, hvl] at hc'; simpa using hc', hrow⟩
        have HJ2 := Lib.hid (HJ.out u5 wr HC.out hna)
        clear hna hfull
        go_wp2_with fail
        refine HJ2.out.mono ?_; rintro _ w2 ⟨rfl, hc2⟩
        have HC2 := Lib.hid (HC.out.then hc2); clear hc2
        go_wp2_with fail
        go_ret
        exact ⟨congrArg (fun t => Ending.returned (Value.string t)) HR.out.symm, HC2.out⟩
/-- Text, of all that the parser tells. -/
theorem text_all : ∀ x : E, WF x → (x.isX → TextOK x) ∧ (x.isL → ∀ y ∈ x.list, TextOK y)
  | .num p n, h => ⟨fun _ => text_num_ok p n h.1 h.2, fun h => h.elim⟩
  | .var p m n, h => ⟨fun _ => text_var_ok p m n (qm_len h.1) (nm_len h.2), fun h => h.elim⟩
  | .item p m n i, h => ⟨fun _ => text_item_ok p m n i (qm_len h.1) (nm_len h.2.1) ((text_all i h.2.2.1).1 h.2.2.2), fun h => h.elim⟩
  | .un p op x, h => ⟨fun _ => by
      rcases h.1 with rfl | rfl
      · exact text_minus_ok p x h.2.2 ((text_all x h.2.1).1 h.2.2)
      · exact text_not_ok p x h.2.2 ((text_all x h.2.1).1 h.2.2), fun h => h.elim⟩
  | .bin p op x y, h => ⟨fun _ => by
      obtain ⟨k, hk, hop⟩ := h.1
      have h5 := op_level k hk op hop
      exact text_bin_ok p op x y (op_len k hk op hop) (by omega) h.2.1.2 h.2.2.2 ((text_all x h.2.1.1).1 h.2.1.2) ((text_all y h.2.2.1).1 h.2.2.2), fun h => h.elim⟩
  | .app p m n l, h => ⟨fun _ => text_app_ok p m n l (qm_len h.1) (nm_len h.2.1) h.2.2.2 h.2.2.1 ((text_all l h.2.2.1).2 h.2.2.2), fun h => h.elim⟩
  | .nil, _ => ⟨fun h => h.elim, fun _ y hy => by cases hy⟩
  | .cons x r, h => ⟨fun h => h.elim, fun _ y hy => by
      have h1 := (text_all x h.1.1).1 h.1.2
      have h2 := (text_all r h.2.1).2 h.2.2
      simp only [E.list, List.mem_cons] at hy
      rcases hy with rfl | hy
      · exact h1
      · exact h2 y hy⟩
end Go.Proofs.YtdlhjcnmpcligaaDoor
