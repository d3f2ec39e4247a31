/- The document's Write, walked. -/
import Derived.Test.YtjgfclhempjinaaGreatDoorRefRight
import Derived.Test.YtjgfclhempjinaaGreatDoorRefNum
import Derived.Test.YtjgfclhempjinaaGreatDoorRefMap
namespace Go.Proofs.YtjgfclhempjinaaGreatDoor
open Go Go.RowKit Go.Mq Go.Mq.Obj
set_option maxRecDepth 100000
theorem rwn_any (n : Int) (w : World) (h : I64 n) : Calls Tryz.prog 15 #[.int .i64 n] w (Ans w (str (encN n))) := by
  have HN := Lib.hid (wnum_any n w h.1 h.2)
  go_enter Tryz.func15, Tryz.ntmps15
  go_wp2_with fail
  refine HN.out.mono ?_; rintro _ w1 ⟨rfl, hc⟩
  have HC := Lib.hid hc; clear hc
  go_wp2_with fail
  go_ret
  exact ⟨rfl, HC.out⟩
theorem i64_len (n : Nat) (h : n ≤ 1099511627776) : I64 (n : Int) := ⟨by omega, by omega⟩
theorem sz_encN (n : Int) : (bs (encN n)).size ≤ 10 := encN_length n
theorem sz_encT (l : List UInt8) (h : l.length ≤ 1099511627776) : (bs (encT (bs l))).size ≤ 1099511627786 := encT_le h
theorem sz_encTs (l : List (List UInt8)) (h : l.all nameOK = true) (hl : l.length ≤ 100) : (bs (encTs (l.map bs))).size ≤ 3000 := by
  have := encTs_le h
  show (encTs (l.map bs)).length ≤ 3000
  omega
theorem names_short {l : List (List UInt8)} (h : l.all nameOK = true) : ∀ x ∈ l, x.length ≤ 1048576 := fun x hx => by
  have := name_le (List.all_eq_true.1 h x hx); omega

set_option maxHeartbeats 8000000 in
theorem rwrite_any (B b off : Nat) (o : ObjD) (M : ObjM) (w : World) (h : ObjAt w B b off o M) (hs : o.small) :
    Calls Tryz.prog 5 #[.pointer (some ⟨b, off, none⟩)] w (RWrote o w) := by
  have hR := rright_any B b off o M w h hs
  cases hr : right o
  · rw [hr] at hR
    have HR := Lib.hid hR
    have HI := Lib.hid hr
    clear h hs hR hr
    go_enter Tryz.func5, Tryz.ntmps5
    go_wp2_with fail
    refine HR.out.mono ?_; rintro _ w1 ⟨rfl, hc⟩
    have HC := Lib.hid hc; clear hc
    go_wp2_with fail
    go_ret2
    refine ⟨?_, HC.out⟩
    rw [HI.out]
    rfl
  · rw [hr] at hR
    have HR := Lib.hid hR
    obtain ⟨sa, ua, va, pa, na, ca, sc, uc, vc, pc, nc, cc, us⟩ := M
    have hlen := encO_le hr
    obtain ⟨l5, l4p, l4, l3v, l3, l2u, l2, l1s, l1⟩ := pre_le o
    have HFIN := Lib.hid (show ∀ w', Chg [] w w' → RWrote o w (.returned (.tuple #[str (encO o), .int .i64 0])) w' from fun w' hc => ⟨by rw [hr]; rfl, hc⟩)
    have hr' := hr
    simp only [right, Bool.and_eq_true, decide_eq_true_eq, partsOK, headOK] at hr'
    obtain ⟨⟨⟨⟨_, hcd⟩, ⟨⟨⟨⟨⟨⟨⟨⟨⟨hn, hu⟩, hv⟩, hp⟩, hl⟩, hna⟩, hsy⟩, hS⟩, hU⟩, hV⟩, hP⟩, _⟩, _⟩ := hr'
    have HNA := Lib.hid hna; have HU := Lib.hid hU
    have hnl : o.names.length ≤ 10 := by omega
    clear hl hr hn hna hS hU hV hP
    have H := Lib.hid h; have HS := Lib.hid hs
    have hT0 := fun w' => wtext_any o.name w' hs.name
    have hN1 := fun w' => rwn_any (o.syms.length : Int) w' (i64_len _ hs.syms.1)
    have hN2 := fun w' => rwn_any (o.uses.length : Int) w' (i64_len _ hs.uses.1)
    have hN3 := fun w' => rwn_any (o.vars.length : Int) w' (i64_len _ hs.vars.1)
    have hN5 := fun w' => rwn_any (o.code.length : Int) w' (i64_len _ hs.code)
    have HT0 := Lib.hid hT0; have HN1 := Lib.hid hN1; have HN2 := Lib.hid hN2; have HN3 := Lib.hid hN3; have HN5 := Lib.hid hN5
    have z0 := sz_encT o.name hs.name
    have z1 := sz_encN (o.syms.length : Int)
    have z2 := sz_encN (o.uses.length : Int)
    have z3 := sz_encN (o.vars.length : Int)
    have z5 := sz_encN (o.code.length : Int)
    have z4 := sz_encTs o.names HNA.out (by omega)
    clear hT0 hN1 hN2 hN3 hN5 h hs hR
    have HP := Lib.hid (And.intro (pre_le o) (show (pre5 o ++ o.code.flatMap encInst).length ≤ 1000000 from hlen))
    go_enter Tryz.func5, Tryz.ntmps5
    go_wp2_with fail
    refine HR.out.mono ?_; rintro _ w1 ⟨rfl, hc⟩
    have h0 : w1.cell? ⟨b, off, none⟩ = _ := hc.cellSome H.out.c0 (by simp)
    have h1 : w1.cell? ⟨b, off + 1, none⟩ = _ := hc.cellSome H.out.c1 (by simp)
    dsimp only at h1
    have HC := Lib.hid hc; clear hc
    have HLT := Lib.hid (show b < w1.drew.heap.size from lt_of_cell h0)
    have HZ := Lib.hid (Zone.of (X := []) (w0 := w1.drew) (off := off) (b := b) h0 (by simp))
    go_wp2_with fail
    refine wp_region_C [] rfl (by kernel_rfl) ?_
    have hS : Chg [] w1.drew w1.drew := Chg.refl _ _
    repeat
      (with_reducible show wpX _ _ _ _ _ _ _ _
       first
         | refine wpX_nil ?_
         | refine wpX_skip rfl ?_
         | refine wpX_mv rfl rfl (by kernel_rfl) (fun _ _ => ?_)
         | refine wpX_ldC rfl rfl rfl (by exact HZ.out) (by assumption) (fun _ _ => ?_)
         | refine wpX_ef' rfl rfl rfl (fun _ _ => ?_)
       go_wp2_with fail)
    refine (HT0.out _).mono ?_; rintro _ _ ⟨rfl, hw⟩; have hS := Chg.then (by assumption) hw; have hk := Chg.cells hS HLT.out (by simp); clear hw
    go_wp2_with fail
    refine And.intro (by assumption : Chg _ _ _) ?_
    repeat
      (with_reducible show wpX _ _ _ _ _ _ _ _
       first
         | refine wpX_nil ?_
         | refine wpX_skip rfl ?_
         | refine wpX_mv rfl rfl (by kernel_rfl) (fun _ _ => ?_)
         | refine wpX_ldC rfl rfl rfl (by exact HZ.out) (by assumption) (fun _ _ => ?_)
         | refine wpX_ef' rfl rfl rfl (fun _ _ => ?_)
       go_wp2_with fail)
    refine (HN1.out _).mono ?_; rintro _ _ ⟨rfl, hw⟩; have hS := Chg.then (by assumption) hw; have hk := Chg.cells hS HLT.out (by simp); clear hw
    go_wp2_with fail
    refine And.intro (by assumption : Chg _ _ _) ?_
    repeat
      (with_reducible show wpX _ _ _ _ _ _ _ _
       first
         | refine wpX_nil ?_
         | refine wpX_skip rfl ?_
         | refine wpX_mv rfl rfl (by kernel_rfl) (fun _ _ => ?_)
         | refine wpX_ldC rfl rfl rfl (by exact HZ.out) (by assumption) (fun _ _ => ?_)
         | refine wpX_ef' rfl rfl rfl (fun _ _ => ?_)
       go_wp2_with fail)
    have HC0 := Lib.hid (HC.out.drew.then hS)
    have HS0 := Lib.hid (show str (pre1 o) = .string (bs (encT (bs o.name)) ++ bs (encN (o.syms.length : Int))) by rw [bs_append]; rfl)
    clear h0 h1 hS hk
    go_loopw [5, 7, 37] (fun s _ i wr => ∃ (k : Nat) (ys : List UInt8), k ≤ o.syms.length ∧ i = .int .i64 k ∧ s = str ys ∧ ys = pre1 o ++ (o.syms.take k).flatMap encSym ∧ Chg [] w wr) (fun _ _ i _ => o.syms.length - (intOf i).toNat)
    case atStart => exact ⟨0, pre1 o, Nat.zero_le _, rfl, HS0.out.symm, by simp, HC0.out⟩
    case round =>
    obtain ⟨k, ys, hk, rfl, rfl, hys, hc⟩ := hrel
    have HY := Lib.hid hys; clear hys
    by_cases hlt : k < o.syms.length
    · obtain ⟨x, hx⟩ : ∃ x, o.syms[k]? = some x := ⟨o.syms[k], by simp [hlt]⟩
      have hat : At w sa (o.syms.flatMap SymD.cells) := H.out.s
      obtain ⟨bb, boff, rfl, hcell⟩ := hat (by rw [flat_len _ 3 (fun _ => rfl)]; omega)
      have hcs : ∀ j, j < 3 → wr.cell? ⟨bb, boff + (k * 3 + j), none⟩ = (SymD.cells x)[j]? := fun j hj => by
        have h1 := flat_get SymD.cells 3 (fun _ => rfl) o.syms k j x hx hj
        have h2 : j < (SymD.cells x).length := hj
        rw [List.getElem?_eq_getElem h2] at h1 ⊢
        exact hc.cellSome (hcell _ _ (by simpa using h1)) (by simp)
      have hc0 : wr.cell? ⟨bb, boff + k * 3, none⟩ = some (str x.name) := hcs 0 (by omega)
      have hc1 : wr.cell? ⟨bb, boff + k * 3 + 1, none⟩ = some (.int .i64 x.len) := by have := hcs 1 (by omega); rw [← Nat.add_assoc] at this; exact this
      have hc2 : wr.cell? ⟨bb, boff + k * 3 + 2, none⟩ = some (.int .i64 x.args) := by have := hcs 2 (by omega); rw [← Nat.add_assoc] at this; exact this
      have hyl : (bs ys).size ≤ 1000000 := by
        have := room (pre := pre1 o) (f := encSym) (N := 1000000) hx (by have := HP.out; omega)
        have e := HY.out
        show ys.length ≤ 1000000
        rw [e]; omega
      have HX := Lib.hid hx; have HC := Lib.hid hc
      have hxs := HS.out.syms.2 x (List.mem_of_getElem? hx)
      have hxf := HS.out.fit.syms x (List.mem_of_getElem? hx)
      have hHT := (fun w' => wtext_any x.name w' hxs)
      have hHA := (fun w' => rwn_any x.len w' hxf.1)
      have hHB := (fun w' => rwn_any x.args w' hxf.2)
      have y0 := sz_encT x.name hxs
      have y1 := sz_encN x.len
      have y2 := sz_encN x.args
      clear hxf
      obtain ⟨t0, ht0⟩ : ∃ t, t = bs (encT (bs x.name)) := ⟨_, rfl⟩
      simp only [str, ← ht0] at y0 hHT
      obtain ⟨t1, ht1⟩ : ∃ t, t = bs (encN x.len) := ⟨_, rfl⟩
      simp only [str, ← ht1] at y1 hHA
      obtain ⟨t2, ht2⟩ : ∃ t, t = bs (encN x.args) := ⟨_, rfl⟩
      simp only [str, ← ht2] at y2 hHB
      obtain ⟨Y, hY⟩ : ∃ Y, Y = bs ys := ⟨_, rfl⟩
      have HVS := Lib.hid (show Value.string (Y ++ (t0 ++ t1 ++ t2)) = str (ys ++ encSym x) by rw [hY, ht0, ht1, ht2, bs_append, bs_append, bs_append]; rfl)
      simp only [str, ← hY] at hyl ⊢
      have HT := Lib.hid hHT
      have HA := Lib.hid hHA
      have HB := Lib.hid hHB
      clear ht0 ht1 ht2 hY hHT hHA hHB
      clear hcs hcell hx hc hat
      go_wp2_with fail
      refine wp_region_C [] rfl (by kernel_rfl) ?_
      have hl := Blk.new wr #[str x.name, .int .i64 x.len, .int .i64 x.args] 52
      have hlz : (wr.alloc (.cells #[str x.name, .int .i64 x.len, .int .i64 x.args] 52)).drew.cell? ⟨wr.heap.size, 0, none⟩ = _ := hl.cell 0 _ rfl
      have HZL := Lib.hid (Zone.of (X := []) hlz (by simp))
      have HSL := Lib.hid (show wr.heap.size < (wr.alloc (.cells #[str x.name, .int .i64 x.len, .int .i64 x.args] 52)).drew.heap.size by simp)
      clear hl hlz
      have hS : Chg [] (wr.alloc (.cells #[str x.name, .int .i64 x.len, .int .i64 x.args] 52)).drew (wr.alloc (.cells #[str x.name, .int .i64 x.len, .int .i64 x.args] 52)).drew := Chg.refl _ _
      repeat
        (with_reducible show wpX _ _ _ _ _ _ _ _
         first
           | refine wpX_nil ?_
           | refine wpX_skip rfl ?_
           | refine wpX_mv rfl rfl (by kernel_rfl) (fun _ _ => ?_)
           | refine wpX_ldC rfl rfl rfl (by exact HZL.out) (by assumption) (fun _ _ => ?_)
           | refine wpX_ef' rfl rfl rfl (fun _ _ => ?_)
         go_wp2_with fail)
      refine (HT.out _).mono ?_; rintro _ _ ⟨rfl, hw⟩; have hS := Chg.then (by assumption) hw; have hk2 := Chg.cells hS HSL.out (by simp); clear hw
      go_wp2_with fail
      refine And.intro (by assumption : Chg _ _ _) ?_
      repeat
        (with_reducible show wpX _ _ _ _ _ _ _ _
         first
           | refine wpX_nil ?_
           | refine wpX_skip rfl ?_
           | refine wpX_mv rfl rfl (by kernel_rfl) (fun _ _ => ?_)
           | refine wpX_ldC rfl rfl rfl (by exact HZL.out) (by assumption) (fun _ _ => ?_)
           | refine wpX_ef' rfl rfl rfl (fun _ _ => ?_)
         go_wp2_with fail)
      refine (HA.out _).mono ?_; rintro _ _ ⟨rfl, hw⟩; have hS := Chg.then (by assumption) hw; have hk2 := Chg.cells hS HSL.out (by simp); clear hw
      go_wp2_with fail
      refine And.intro (by assumption : Chg _ _ _) ?_
      repeat
        (with_reducible show wpX _ _ _ _ _ _ _ _
         first
           | refine wpX_nil ?_
           | refine wpX_skip rfl ?_
           | refine wpX_mv rfl rfl (by kernel_rfl) (fun _ _ => ?_)
           | refine wpX_ldC rfl rfl rfl (by exact HZL.out) (by assumption) (fun _ _ => ?_)
           | refine wpX_ef' rfl rfl rfl (fun _ _ => ?_)
         go_wp2_with fail)
      refine (HB.out _).mono ?_; rintro _ _ ⟨rfl, hw⟩; have hS := Chg.then (by assumption) hw; have hk2 := Chg.cells hS HSL.out (by simp); clear hw
      go_wp2_with fail
      refine And.intro (by assumption : Chg _ _ _) ?_
      repeat
        (with_reducible show wpX _ _ _ _ _ _ _ _
         first
           | refine wpX_nil ?_
           | refine wpX_skip rfl ?_
           | refine wpX_mv rfl rfl (by kernel_rfl) (fun _ _ => ?_)
           | refine wpX_ldC rfl rfl rfl (by exact HZL.out) (by assumption) (fun _ _ => ?_)
           | refine wpX_ef' rfl rfl rfl (fun _ _ => ?_)
         go_wp2_with fail)
      go_roundw
      case rel => exact ⟨k + 1, ys ++ encSym x, by omega, by go_num, HVS.out, by rw [take_next HX.out, HY.out], ((HC.out.alloc _).drew).then hS⟩
      case measure => simp [intOf]; omega
    · have hkn : k = o.syms.length := by omega
      have HYF := Lib.hid (show ys = pre1 o ++ o.syms.flatMap encSym by have := HY.out; rwa [hkn, List.take_length] at this)
      have hyl : (bs ys).size ≤ 1000000 := by
        have e := HYF.out
        have := HP.out
        show ys.length ≤ 1000000
        rw [e]; omega
      have HC0 := Lib.hid hc
      have h_2 : wr.cell? ⟨b, off + 2, none⟩ = _ := hc.cellSome H.out.c2 (by simp)
      have h_3 : wr.cell? ⟨b, off + 3, none⟩ = _ := hc.cellSome H.out.c3 (by simp)
      have h_4 : wr.cell? ⟨b, off + 4, none⟩ = _ := hc.cellSome H.out.c4 (by simp)
      have h_5 : wr.cell? ⟨b, off + 5, none⟩ = _ := hc.cellSome H.out.c5 (by simp)
      have h_6 : wr.cell? ⟨b, off + 6, none⟩ = _ := hc.cellSome H.out.c6 (by simp)
      dsimp only at h_2 h_3 h_4 h_5 h_6
      clear hc hk hkn HY
      go_wp2_with fail
      refine (HN2.out _).mono ?_; rintro _ w3 ⟨rfl, hw⟩
      have HW := Lib.hid hw
      have h_2 := hw.cellSome h_2 (by simp); have h_3 := hw.cellSome h_3 (by simp); have h_4 := hw.cellSome h_4 (by simp); have h_5 := hw.cellSome h_5 (by simp); have h_6 := hw.cellSome h_6 (by simp)
      clear hw
      go_wp2_with fail
      have HC1 := Lib.hid (HC0.out.then HW.out)
      clear HC0 HW
      have HC0 := HC1
      clear HC1
      have HS1 := Lib.hid (show str (pre2 o) = .string (bs ys ++ bs (encN (o.uses.length : Int))) by rw [bs_append, HYF.out]; rfl)
      clear HS0
      have HS0 := HS1
      clear HS1 h_2 h_3 h_4 h_5 h_6 hlt
      go_loopw [5, 9, 71] (fun s _ i wr => ∃ (k : Nat) (ys : List UInt8), k ≤ o.uses.length ∧ i = .int .i64 k ∧ s = str ys ∧ ys = pre2 o ++ (o.uses.take k).flatMap encUse ∧ Chg [] w wr) (fun _ _ i _ => o.uses.length - (intOf i).toNat)
      case atStart => exact ⟨0, pre2 o, Nat.zero_le _, rfl, HS0.out.symm, by simp, HC0.out⟩
      case round =>
      obtain ⟨k, ys, hk, rfl, rfl, hys, hc⟩ := hrel
      have HY := Lib.hid hys; clear hys
      by_cases hlt : k < o.uses.length
      · have hus : us.map (·.u) = o.uses := H.out.us
        obtain ⟨m, hm⟩ : ∃ m, us[k]? = some m := by
          have : us.length = o.uses.length := by rw [← hus, List.length_map]
          exact ⟨us[k], by simp [this, hlt]⟩
        have hx : o.uses[k]? = some m.u := by rw [← hus, List.getElem?_map, hm]; rfl
        have hul : us.length = o.uses.length := by rw [← hus, List.length_map]
        have hat : At w ua (us.flatMap UseM.cells) := H.out.u
        obtain ⟨bb, boff, rfl, hcell⟩ := hat (by rw [flat_len _ 3 (fun _ => rfl)]; omega)
        have hcs : ∀ j, j < 3 → wr.cell? ⟨bb, boff + (k * 3 + j), none⟩ = (UseM.cells m)[j]? := fun j hj => by
          have h1 := flat_get UseM.cells 3 (fun _ => rfl) us k j m hm hj
          have h2 : j < (UseM.cells m).length := hj
          rw [List.getElem?_eq_getElem h2] at h1 ⊢
          exact hc.cellSome (hcell _ _ (by simpa using h1)) (by simp)
        have hc0 : wr.cell? ⟨bb, boff + k * 3, none⟩ = some (str m.u.name) := hcs 0 (by omega)
        have hc1 : wr.cell? ⟨bb, boff + k * 3 + 1, none⟩ = some (str m.u.need) := by have := hcs 1 (by omega); rw [← Nat.add_assoc] at this; exact this
        have hc2 : wr.cell? ⟨bb, boff + k * 3 + 2, none⟩ = some (.slice m.at_ m.u.names.length m.cap) := by have := hcs 2 (by omega); rw [← Nat.add_assoc] at this; exact this
        have hyl : (bs ys).size ≤ 1000000 := by
          have := room (pre := pre2 o) (f := encUse) (N := 1000000) hx (by have := HP.out; omega)
          have e := HY.out
          show ys.length ≤ 1000000
          rw [e]; omega
        have HX := Lib.hid hx; have HC := Lib.hid hc
        have hxs := HS.out.uses.2 m.u (List.mem_of_getElem? hx)
        have hxo := List.all_eq_true.1 HU.out m.u (List.mem_of_getElem? hx)
        simp only [useOK, Bool.and_eq_true, decide_eq_true_eq] at hxo
        have hun := H.out.un m (List.mem_of_getElem? hm)
        have hHT := (fun w' => wtext_any m.u.name w' hxs.1)
        have hHA := (fun w' => wtext_any m.u.need w' hxs.2.1)
        have hHB := (fun w' (hc' : Chg [] (wr.alloc (.cells #[str m.u.name, str m.u.need, .slice m.at_ m.u.names.length m.cap] 56)).drew w') => wtexts_any m.at_ m.u.names.length m.cap m.u.names w' rfl ((hun.1.kept (hc.alloc (.cells #[str m.u.name, str m.u.need, .slice m.at_ m.u.names.length m.cap] 56)).drew (by simp)).kept hc' (by simp)) (by omega) (names_short hxo.1.1.2))
        have y0 := sz_encT m.u.name hxs.1
        have y1 := sz_encT m.u.need hxs.2.1
        have y2 := sz_encTs m.u.names hxo.1.1.2 hxo.1.2
        clear hun hm hus hul hxo hxs
        obtain ⟨t0, ht0⟩ : ∃ t, t = bs (encT (bs m.u.name)) := ⟨_, rfl⟩
        simp only [str, ← ht0] at y0 hHT
        obtain ⟨t1, ht1⟩ : ∃ t, t = bs (encT (bs m.u.need)) := ⟨_, rfl⟩
        simp only [str, ← ht1] at y1 hHA
        obtain ⟨t2, ht2⟩ : ∃ t, t = bs (encTs (m.u.names.map bs)) := ⟨_, rfl⟩
        simp only [str, ← ht2] at y2 hHB
        obtain ⟨Y, hY⟩ : ∃ Y, Y = bs ys := ⟨_, rfl⟩
        have HVS := Lib.hid (show Value.string (Y ++ (t0 ++ t1 ++ t2)) = str (ys ++ encUse m.u) by rw [hY, ht0, ht1, ht2, bs_append, bs_append, bs_append]; rfl)
        simp only [str, ← hY] at hyl ⊢
        have HT := Lib.hid hHT
        have HA := Lib.hid hHA
        have HB := Lib.hid hHB
        clear ht0 ht1 ht2 hY hHT hHA hHB
        clear hcs hcell hx hc hat
        go_wp2_with fail
        refine wp_region_C [] rfl (by kernel_rfl) ?_
        have hl := Blk.new wr #[str m.u.name, str m.u.need, .slice m.at_ m.u.names.length m.cap] 56
        have hlz : (wr.alloc (.cells #[str m.u.name, str m.u.need, .slice m.at_ m.u.names.length m.cap] 56)).drew.cell? ⟨wr.heap.size, 0, none⟩ = _ := hl.cell 0 _ rfl
        have HZL := Lib.hid (Zone.of (X := []) hlz (by simp))
        have HSL := Lib.hid (show wr.heap.size < (wr.alloc (.cells #[str m.u.name, str m.u.need, .slice m.at_ m.u.names.length m.cap] 56)).drew.heap.size by simp)
        clear hl hlz
        have hS : Chg [] (wr.alloc (.cells #[str m.u.name, str m.u.need, .slice m.at_ m.u.names.length m.cap] 56)).drew (wr.alloc (.cells #[str m.u.name, str m.u.need, .slice m.at_ m.u.names.length m.cap] 56)).drew := Chg.refl _ _
        repeat
          (with_reducible show wpX _ _ _ _ _ _ _ _
           first
             | refine wpX_nil ?_
             | refine wpX_skip rfl ?_
             | refine wpX_mv rfl rfl (by kernel_rfl) (fun _ _ => ?_)
             | refine wpX_ldC rfl rfl rfl (by exact HZL.out) (by assumption) (fun _ _ => ?_)
             | refine wpX_ef' rfl rfl rfl (fun _ _ => ?_)
           go_wp2_with fail)
        refine (HT.out _).mono ?_; rintro _ _ ⟨rfl, hw⟩; have hS := Chg.then (by assumption) hw; have hk2 := Chg.cells hS HSL.out (by simp); clear hw
        go_wp2_with fail
        refine And.intro (by assumption : Chg _ _ _) ?_
        repeat
          (with_reducible show wpX _ _ _ _ _ _ _ _
           first
             | refine wpX_nil ?_
             | refine wpX_skip rfl ?_
             | refine wpX_mv rfl rfl (by kernel_rfl) (fun _ _ => ?_)
             | refine wpX_ldC rfl rfl rfl (by exact HZL.out) (by assumption) (fun _ _ => ?_)
             | refine wpX_ef' rfl rfl rfl (fun _ _ => ?_)
           go_wp2_with fail)
        refine (HA.out _).mono ?_; rintro _ _ ⟨rfl, hw⟩; have hS := Chg.then (by assumption) hw; have hk2 := Chg.cells hS HSL.out (by simp); clear hw
        go_wp2_with fail
        refine And.intro (by assumption : Chg _ _ _) ?_
        repeat
          (with_reducible show wpX _ _ _ _ _ _ _ _
           first
             | refine wpX_nil ?_
             | refine wpX_skip rfl ?_
             | refine wpX_mv rfl rfl (by kernel_rfl) (fun _ _ => ?_)
             | refine wpX_ldC rfl rfl rfl (by exact HZL.out) (by assumption) (fun _ _ => ?_)
             | refine wpX_ef' rfl rfl rfl (fun _ _ => ?_)
           go_wp2_with fail)
        refine (HB.out _ (by assumption)).mono ?_; rintro _ _ ⟨rfl, hw⟩; have hS := Chg.then (by assumption) hw; have hk2 := Chg.cells hS HSL.out (by simp); clear hw
        go_wp2_with fail
        refine And.intro (by assumption : Chg _ _ _) ?_
        repeat
          (with_reducible show wpX _ _ _ _ _ _ _ _
           first
             | refine wpX_nil ?_
             | refine wpX_skip rfl ?_
             | refine wpX_mv rfl rfl (by kernel_rfl) (fun _ _ => ?_)
             | refine wpX_ldC rfl rfl rfl (by exact HZL.out) (by assumption) (fun _ _ => ?_)
             | refine wpX_ef' rfl rfl rfl (fun _ _ => ?_)
           go_wp2_with fail)
        go_roundw
        case rel => exact ⟨k + 1, ys ++ encUse m.u, by omega, by go_num, HVS.out, by rw [take_next HX.out, HY.out], ((HC.out.alloc _).drew).then hS⟩
        case measure => simp [intOf]; omega
      · have hkn : k = o.uses.length := by omega
        have HYF := Lib.hid (show ys = pre2 o ++ o.uses.flatMap encUse by have := HY.out; rwa [hkn, List.take_length] at this)
        have hyl : (bs ys).size ≤ 1000000 := by
          have e := HYF.out
          have := HP.out
          show ys.length ≤ 1000000
          rw [e]; omega
        have HC0 := Lib.hid hc
        have h_2 : wr.cell? ⟨b, off + 2, none⟩ = _ := hc.cellSome H.out.c2 (by simp)
        have h_3 : wr.cell? ⟨b, off + 3, none⟩ = _ := hc.cellSome H.out.c3 (by simp)
        have h_4 : wr.cell? ⟨b, off + 4, none⟩ = _ := hc.cellSome H.out.c4 (by simp)
        have h_5 : wr.cell? ⟨b, off + 5, none⟩ = _ := hc.cellSome H.out.c5 (by simp)
        have h_6 : wr.cell? ⟨b, off + 6, none⟩ = _ := hc.cellSome H.out.c6 (by simp)
        dsimp only at h_2 h_3 h_4 h_5 h_6
        clear hc hk hkn HY
        go_wp2_with fail
        refine (HN3.out _).mono ?_; rintro _ w3 ⟨rfl, hw⟩
        have HW := Lib.hid hw
        have h_2 := hw.cellSome h_2 (by simp); have h_3 := hw.cellSome h_3 (by simp); have h_4 := hw.cellSome h_4 (by simp); have h_5 := hw.cellSome h_5 (by simp); have h_6 := hw.cellSome h_6 (by simp)
        clear hw
        go_wp2_with fail
        have HC1 := Lib.hid (HC0.out.then HW.out)
        clear HC0 HW
        have HC0 := HC1
        clear HC1
        have HS1 := Lib.hid (show str (pre3 o) = .string (bs ys ++ bs (encN (o.vars.length : Int))) by rw [bs_append, HYF.out]; rfl)
        clear HS0
        have HS0 := HS1
        clear HS1 h_2 h_3 h_4 h_5 h_6 hlt
        go_loopw [5, 11, 103] (fun s _ i wr => ∃ (k : Nat) (ys : List UInt8), k ≤ o.vars.length ∧ i = .int .i64 k ∧ s = str ys ∧ ys = pre3 o ++ (o.vars.take k).flatMap encGlob ∧ Chg [] w wr) (fun _ _ i _ => o.vars.length - (intOf i).toNat)
        case atStart => exact ⟨0, pre3 o, Nat.zero_le _, rfl, HS0.out.symm, by simp, HC0.out⟩
        case round =>
        obtain ⟨k, ys, hk, rfl, rfl, hys, hc⟩ := hrel
        have HY := Lib.hid hys; clear hys
        by_cases hlt : k < o.vars.length
        · obtain ⟨x, hx⟩ : ∃ x, o.vars[k]? = some x := ⟨o.vars[k], by simp [hlt]⟩
          have hat : At w va (o.vars.flatMap GlobD.cells) := H.out.v
          obtain ⟨bb, boff, rfl, hcell⟩ := hat (by rw [flat_len _ 4 (fun _ => rfl)]; omega)
          have hcs : ∀ j, j < 4 → wr.cell? ⟨bb, boff + (k * 4 + j), none⟩ = (GlobD.cells x)[j]? := fun j hj => by
            have h1 := flat_get GlobD.cells 4 (fun _ => rfl) o.vars k j x hx hj
            have h2 : j < (GlobD.cells x).length := hj
            rw [List.getElem?_eq_getElem h2] at h1 ⊢
            exact hc.cellSome (hcell _ _ (by simpa using h1)) (by simp)
          have hc0 : wr.cell? ⟨bb, boff + k * 4, none⟩ = some (str x.name) := hcs 0 (by omega)
          have hc1 : wr.cell? ⟨bb, boff + k * 4 + 1, none⟩ = some (.int .i64 x.place) := by have := hcs 1 (by omega); rw [← Nat.add_assoc] at this; exact this
          have hc2 : wr.cell? ⟨bb, boff + k * 4 + 2, none⟩ = some (.int .i64 x.len) := by have := hcs 2 (by omega); rw [← Nat.add_assoc] at this; exact this
          have hc3 : wr.cell? ⟨bb, boff + k * 4 + 3, none⟩ = some (.bool x.seen) := by have := hcs 3 (by omega); rw [← Nat.add_assoc] at this; exact this
          have hyl : (bs ys).size ≤ 1000000 := by
            have := room (pre := pre3 o) (f := encGlob) (N := 1000000) hx (by have := HP.out; omega)
            have e := HY.out
            show ys.length ≤ 1000000
            rw [e]; omega
          have HX := Lib.hid hx; have HC := Lib.hid hc
          have hxs := HS.out.vars.2 x (List.mem_of_getElem? hx)
          have hxf := HS.out.fit.vars x (List.mem_of_getElem? hx)
          have hHT := (fun w' => wtext_any x.name w' hxs)
          have hHA := (fun w' => rwn_any x.len w' hxf.2)
          have y0 := sz_encT x.name hxs
          have y1 := sz_encN x.len
          clear hxf
          obtain ⟨t0, ht0⟩ : ∃ t, t = bs (encT (bs x.name)) := ⟨_, rfl⟩
          simp only [str, ← ht0] at y0 hHT
          obtain ⟨t1, ht1⟩ : ∃ t, t = bs (encN x.len) := ⟨_, rfl⟩
          simp only [str, ← ht1] at y1 hHA
          obtain ⟨Y, hY⟩ : ∃ Y, Y = bs ys := ⟨_, rfl⟩
          have HVS := Lib.hid (show ∀ t, t = bs [if x.seen then 1 else 0] → Value.string (Y ++ (t0 ++ t1 ++ t)) = str (ys ++ encGlob x) by rintro t rfl; rw [hY, ht0, ht1, bs_append, bs_append, bs_append]; rfl)
          simp only [str, ← hY] at hyl ⊢
          have HT := Lib.hid hHT
          have HA := Lib.hid hHA
          clear ht0 ht1 hY hHT hHA
          clear hcs hcell hx hc hat
          have hlb := Blk.new wr #[str x.name, .int .i64 x.place, .int .i64 x.len, .bool x.seen] 54
          have HLB := Lib.hid hlb; clear hlb
          have HTS : (bs [if x.seen then (1 : UInt8) else 0]).size = 1 := by cases x.seen <;> rfl
          have HVS2 := Lib.hid (HVS.out _ rfl)
          have hF0 : ∀ (cs : Array Value) (w : World), (callFunc 17 cs).run Tryz.prog w = .ok (.enter 17 cs) w := fun cs w => by kernel_rfl
          have hF1 : ∀ (cs : Array Value) (w : World), (callFunc 15 cs).run Tryz.prog w = .ok (.enter 15 cs) w := fun cs w => by kernel_rfl
          obtain ⟨sp, s107, s108, s109, s110, s111, s112, s113, s114, s115, s118, s119, s120, s121, s122, s5⟩ : ∃ sp : Nat → Value, sp 107 = .string Y ∧ sp 108 = .pointer (some ⟨wr.heap.size, 0, none⟩) ∧ sp 109 = str x.name ∧ sp 110 = .string t0 ∧ sp 111 = .func (.func 15) #[] #[] ∧ sp 112 = .pointer (some ⟨wr.heap.size, 2, none⟩) ∧ sp 113 = .int .i64 x.len ∧ sp 114 = .string t1 ∧ sp 115 = .string (t0 ++ t1) ∧ sp 118 = .pointer (some ⟨wr.heap.size, 3, none⟩) ∧ sp 119 = .bool x.seen ∧ sp 120 = .string (bs [if x.seen then 1 else 0]) ∧ sp 121 = .string (t0 ++ t1 ++ bs [if x.seen then 1 else 0]) ∧ sp 122 = .string (Y ++ (t0 ++ t1 ++ bs [if x.seen then 1 else 0])) ∧ sp 5 = .string (Y ++ (t0 ++ t1 ++ bs [if x.seen then 1 else 0])) := ⟨fun s => match s with | 107 => .string Y | 108 => .pointer (some ⟨wr.heap.size, 0, none⟩) | 109 => str x.name | 110 => .string t0 | 111 => .func (.func 15) #[] #[] | 112 => .pointer (some ⟨wr.heap.size, 2, none⟩) | 113 => .int .i64 x.len | 114 => .string t1 | 115 => .string (t0 ++ t1) | 118 => .pointer (some ⟨wr.heap.size, 3, none⟩) | 119 => .bool x.seen | 120 => .string (bs [if x.seen then 1 else 0]) | 121 => .string (t0 ++ t1 ++ bs [if x.seen then 1 else 0]) | 122 => .string (Y ++ (t0 ++ t1 ++ bs [if x.seen then 1 else 0])) | 5 => .string (Y ++ (t0 ++ t1 ++ bs [if x.seen then 1 else 0])) | _ => undef, rfl, rfl, rfl, rfl, rfl, rfl, rfl, rfl, rfl, rfl, rfl, rfl, rfl, rfl, rfl⟩
          go_wp2_with fail
          refine wp_region_I (I := GI _ _ sp) rfl (by kernel_rfl) gi_start ?_ ?_
          · intro D a w' hD hG
            obtain ⟨m, rfl⟩ := hG.fin (fun i hi => hD i hi) (by simp)
            have HCG := Lib.hid hG.chg
            clear hG hD
            simp only [s107, s108, s109, s110, s111, s112, s113, s114, s115, s118, s119, s120, s121, s122, s5]
            go_wp2_with fail
            go_roundw
            case rel => exact ⟨k + 1, ys ++ encGlob x, by omega, by go_num, HVS2.out, by rw [take_next HX.out, HY.out], ((HC.out.alloc _).drew).then HCG.out⟩
            case measure => simp [intOf]; omega
          · intro D a w' i o ho hnD hw hG
            have hi : i < 19 := by have := (List.getElem?_eq_some_iff.1 ho).1; simpa using this
            obtain rfl | rfl | rfl | rfl | rfl | rfl | rfl | rfl | rfl | rfl | rfl | rfl | rfl | rfl | rfl | rfl | rfl | rfl | rfl : i = 0 ∨ i = 1 ∨ i = 2 ∨ i = 3 ∨ i = 4 ∨ i = 5 ∨ i = 6 ∨ i = 7 ∨ i = 8 ∨ i = 9 ∨ i = 10 ∨ i = 11 ∨ i = 12 ∨ i = 13 ∨ i = 14 ∨ i = 15 ∨ i = 16 ∨ i = 17 ∨ i = 18 := by omega
            all_goals
              refine wpOp_of (o := o) (by rw [List.getElem?_toArray]; exact ho) ?_ ?_
              all_goals simp only [List.getElem?_cons_zero, List.getElem?_cons_succ, Option.some.injEq] at ho
              all_goals subst ho
              · rfl
            · have e99 : a.eval (.tmp 5) = .string Y := eval_of (by rw [hG.old5 (fun h => hnD (hG.c18 h))]; rfl)
              have hp := hG.put (i := 0) (s := 107) (by decide) (by simp) (by omega)
              rw [s107] at hp
              unfold Oper.wp
              simp only [execOp, e99]
              simp only [Sem.run_pure]
              exact hp
            · have e99 : a.eval (.tmp 11) = .pointer (some ⟨wr.heap.size, 0, none⟩) := eval_of (by rw [hG.old 11 (by decide)]; rfl)
              have hp := hG.put (i := 1) (s := 108) (by decide) (by simp) (by omega)
              rw [s108] at hp
              unfold Oper.wp
              simp only [execOp, e99]
              simp [Instr.fieldAt, go_sem]
              exact hp
            · have d1 : D 1 := hw ⟨1, .data⟩ (by simp) rfl
              have e1 : a.eval (.tmp 108) = .pointer (some ⟨wr.heap.size, 0, none⟩) := by rw [eval_of (hG.val 1 108 (by decide) d1), s108]
              have hp := hG.put (i := 2) (s := 109) (by decide) (by simp) (by omega)
              rw [s109] at hp
              have cl : w'.cell? ⟨wr.heap.size, 0, none⟩ = some (str x.name) := (HLB.out.kept (w' := w') (by have := hG.chg; exact ⟨this.os, this.tape, this.output, this.size, this.block⟩) (by simp)).cell 0 _ rfl
              unfold Oper.wp
              simp only [execOp, e1]
              simp [Instr.loadAt, go_sem, cl]
              exact hp
            · have d2 : D 2 := hw ⟨2, .data⟩ (by simp) rfl
              have e2 : a.eval (.tmp 109) = str x.name := by rw [eval_of (hG.val 2 109 (by decide) d2), s109]
              unfold Oper.wp
              simp only [execOp, resolve, invoke, e2]
              have v2 := hG.val 2 109 (by decide) d2
              rw [s109] at v2
              simp [e2, v2, hF0, go_sem]
              show Calls _ _ _ _ _
              refine (HT.out w').mono ?_; rintro _ w2 ⟨rfl, hc⟩
              have hp := (hG.world hc).put (i := 3) (s := 110) (by decide) (by simp) (by omega)
              rw [s110] at hp
              exact hp
            · have e99 : a.eval (.tmp 4) = .func (.func 15) #[] #[] := eval_of (by rw [hG.old 4 (by decide)]; rfl)
              have hp := hG.put (i := 4) (s := 111) (by decide) (by simp) (by omega)
              rw [s111] at hp
              unfold Oper.wp
              simp only [execOp, e99]
              simp only [Sem.run_pure]
              exact hp
            · have e99 : a.eval (.tmp 11) = .pointer (some ⟨wr.heap.size, 0, none⟩) := eval_of (by rw [hG.old 11 (by decide)]; rfl)
              have hp := hG.put (i := 5) (s := 112) (by decide) (by simp) (by omega)
              rw [s112] at hp
              unfold Oper.wp
              simp only [execOp, e99]
              simp [Instr.fieldAt, go_sem]
              exact hp
            · have d5 : D 5 := hw ⟨5, .data⟩ (by simp) rfl
              have e5 : a.eval (.tmp 112) = .pointer (some ⟨wr.heap.size, 2, none⟩) := by rw [eval_of (hG.val 5 112 (by decide) d5), s112]
              have hp := hG.put (i := 6) (s := 113) (by decide) (by simp) (by omega)
              rw [s113] at hp
              have cl : w'.cell? ⟨wr.heap.size, 2, none⟩ = some (.int .i64 x.len) := (HLB.out.kept (w' := w') (by have := hG.chg; exact ⟨this.os, this.tape, this.output, this.size, this.block⟩) (by simp)).cell 2 _ rfl
              unfold Oper.wp
              simp only [execOp, e5]
              simp [Instr.loadAt, go_sem, cl]
              exact hp
            · have d4 : D 4 := hw ⟨4, .data⟩ (by simp) rfl
              have d6 : D 6 := hw ⟨6, .data⟩ (by simp) rfl
              have e4 : a.eval (.tmp 111) = .func (.func 15) #[] #[] := by rw [eval_of (hG.val 4 111 (by decide) d4), s111]
              have e6 : a.eval (.tmp 113) = .int .i64 x.len := by rw [eval_of (hG.val 6 113 (by decide) d6), s113]
              unfold Oper.wp
              simp only [execOp, resolve, invoke, e4, e6]
              have v4 := hG.val 4 111 (by decide) d4
              rw [s111] at v4
              have v6 := hG.val 6 113 (by decide) d6
              rw [s113] at v6
              simp [e4, v4, e6, v6, hF1, go_sem]
              show Calls _ _ _ _ _
              refine (HA.out w').mono ?_; rintro _ w2 ⟨rfl, hc⟩
              have hp := (hG.world hc).put (i := 7) (s := 114) (by decide) (by simp) (by omega)
              rw [s114] at hp
              exact hp
            · have d3 : D 3 := hw ⟨3, .data⟩ (by simp) rfl
              have d7 : D 7 := hw ⟨7, .data⟩ (by simp) rfl
              have e3 : a.eval (.tmp 110) = .string t0 := by rw [eval_of (hG.val 3 110 (by decide) d3), s110]
              have e7 : a.eval (.tmp 114) = .string t1 := by rw [eval_of (hG.val 7 114 (by decide) d7), s114]
              have hp := hG.put (i := 8) (s := 115) (by decide) (by simp) (by omega)
              rw [s115] at hp
              unfold Oper.wp
              simp only [execOp, e3, e7]
              simp [go_sem]
              rw [if_neg (by omega)]
              exact hp
            · have hp := hG.make (fun h => hnD h) (by simp)
              unfold Oper.wp
              simp only [execOp]
              exact hp
            · have d9 : D 9 := hw ⟨9, .data⟩ (by simp) rfl
              obtain ⟨m, c, es, g1, g2, g3, g4, g5⟩ := hG.map d9
              by_cases ho : D 11
              · obtain ⟨n, rfl⟩ := g4.2.2.1 hnD ho
                have hr := run_ins (P := Tryz.prog) (T := 61) (K := 4) Tryz.underlying61 Tryz.underlying4 g3 true (.string ⟨#[1]⟩) (.inr ⟨_, n, rfl⟩)
                have hp := hG.ins (i := 10) (c' := c + 1) (es' := #[mF n].push { key := .bool true, val := .string ⟨#[1]⟩, born := c }) (.inl rfl) d9 g1 g3 ⟨fun h => absurd (.inr rfl) h, fun _ h => absurd (.inl ho) h, fun h => absurd (.inr rfl) h, fun _ _ => ⟨n, c, .inr rfl⟩⟩
                unfold Oper.wp
                simp only [execOp, eval_of g1, Sem.run_bind]
                rw [show a.eval (.const (.bool true)) = .bool true from rfl, show a.eval (.const (.string ⟨#[1]⟩)) = .string ⟨#[1]⟩ from rfl, hr]
                exact hp
              · obtain rfl := g4.1 hnD ho
                have hr := run_ins (P := Tryz.prog) (T := 61) (K := 4) Tryz.underlying61 Tryz.underlying4 g3 true (.string ⟨#[1]⟩) (.inl rfl)
                have hp := hG.ins (i := 10) (c' := c + 1) (es' := #[].push { key := .bool true, val := .string ⟨#[1]⟩, born := c }) (.inl rfl) d9 g1 g3 ⟨fun h => absurd (.inr rfl) h, fun _ _ => ⟨c, rfl⟩, fun h => absurd (.inr rfl) h, fun _ h => (h.elim ho (fun e => by cases e)).elim⟩
                unfold Oper.wp
                simp only [execOp, eval_of g1, Sem.run_bind]
                rw [show a.eval (.const (.bool true)) = .bool true from rfl, show a.eval (.const (.string ⟨#[1]⟩)) = .string ⟨#[1]⟩ from rfl, hr]
                exact hp
            · have d9 : D 9 := hw ⟨9, .data⟩ (by simp) rfl
              obtain ⟨m, c, es, g1, g2, g3, g4, g5⟩ := hG.map d9
              by_cases ho : D 10
              · obtain ⟨n, rfl⟩ := g4.2.1 ho hnD
                have hr := run_ins (P := Tryz.prog) (T := 61) (K := 4) Tryz.underlying61 Tryz.underlying4 g3 false (.string ⟨#[0]⟩) (.inr ⟨_, n, rfl⟩)
                have hp := hG.ins (i := 11) (c' := c + 1) (es' := #[mT n].push { key := .bool false, val := .string ⟨#[0]⟩, born := c }) (.inr rfl) d9 g1 g3 ⟨fun h => absurd (.inl ho) h, fun _ h => absurd (.inr rfl) h, fun h => absurd (.inl ho) h, fun _ _ => ⟨n, c, .inl rfl⟩⟩
                unfold Oper.wp
                simp only [execOp, eval_of g1, Sem.run_bind]
                rw [show a.eval (.const (.bool false)) = .bool false from rfl, show a.eval (.const (.string ⟨#[0]⟩)) = .string ⟨#[0]⟩ from rfl, hr]
                exact hp
              · obtain rfl := g4.1 ho hnD
                have hr := run_ins (P := Tryz.prog) (T := 61) (K := 4) Tryz.underlying61 Tryz.underlying4 g3 false (.string ⟨#[0]⟩) (.inl rfl)
                have hp := hG.ins (i := 11) (c' := c + 1) (es' := #[].push { key := .bool false, val := .string ⟨#[0]⟩, born := c }) (.inr rfl) d9 g1 g3 ⟨fun _ h => absurd (.inr rfl) h, fun h => (h.elim ho (fun e => by cases e)).elim, fun _ _ => ⟨c, rfl⟩, fun h => (h.elim ho (fun e => by cases e)).elim⟩
                unfold Oper.wp
                simp only [execOp, eval_of g1, Sem.run_bind]
                rw [show a.eval (.const (.bool false)) = .bool false from rfl, show a.eval (.const (.string ⟨#[0]⟩)) = .string ⟨#[0]⟩ from rfl, hr]
                exact hp
            · have d9 : D 9 := hw ⟨9, .data⟩ (by simp) rfl
              have d10 : D 10 := hw ⟨10, .data⟩ (by simp) rfl
              have d11 : D 11 := hw ⟨11, .data⟩ (by simp) rfl
              obtain ⟨m, c, es, g1, g2, g3, g4, g5⟩ := hG.map d9
              have hp := hG.mv d9 d10 d11 g1 (by simp)
              unfold Oper.wp
              simp only [execOp, eval_of g1, Sem.run_pure]
              exact hp
            · have e99 : a.eval (.tmp 11) = .pointer (some ⟨wr.heap.size, 0, none⟩) := eval_of (by rw [hG.old 11 (by decide)]; rfl)
              have hp := hG.put (i := 13) (s := 118) (by decide) (by simp) (by omega)
              rw [s118] at hp
              unfold Oper.wp
              simp only [execOp, e99]
              simp [Instr.fieldAt, go_sem]
              exact hp
            · have d13 : D 13 := hw ⟨13, .data⟩ (by simp) rfl
              have e13 : a.eval (.tmp 118) = .pointer (some ⟨wr.heap.size, 3, none⟩) := by rw [eval_of (hG.val 13 118 (by decide) d13), s118]
              have hp := hG.put (i := 14) (s := 119) (by decide) (by simp) (by omega)
              rw [s119] at hp
              have cl : w'.cell? ⟨wr.heap.size, 3, none⟩ = some (.bool x.seen) := (HLB.out.kept (w' := w') (by have := hG.chg; exact ⟨this.os, this.tape, this.output, this.size, this.block⟩) (by simp)).cell 3 _ rfl
              unfold Oper.wp
              simp only [execOp, e13]
              simp [Instr.loadAt, go_sem, cl]
              exact hp
            · have d12 : D 12 := hw ⟨12, .data⟩ (by simp) rfl
              have d14 : D 14 := hw ⟨14, .data⟩ (by simp) rfl
              have e14 : a.eval (.tmp 119) = .bool x.seen := by rw [eval_of (hG.val 14 119 (by decide) d14), s119]
              have hp := hG.put (i := 15) (s := 120) (by decide) (by simp) (by omega)
              rw [s120] at hp
              obtain ⟨c1, c2, c3⟩ := hG.cl
              obtain ⟨m, c, es, g1, g2, g3, g4, g5⟩ := hG.map (c3 d12)
              obtain ⟨d10, d11⟩ := hG.c12 d12
              have hr := run_look (P := Tryz.prog) (T := 61) (K := 4) Tryz.underlying61 Tryz.underlying4 g3 x.seen (g4.2.2.2 d10 d11)
              unfold Oper.wp
              simp only [execOp, e14, eval_of (g5 d12), Sem.run_bind, hr]
              exact hp
            · have d8 : D 8 := hw ⟨8, .data⟩ (by simp) rfl
              have d15 : D 15 := hw ⟨15, .data⟩ (by simp) rfl
              have e8 : a.eval (.tmp 115) = .string (t0 ++ t1) := by rw [eval_of (hG.val 8 115 (by decide) d8), s115]
              have e15 : a.eval (.tmp 120) = .string (bs [if x.seen then 1 else 0]) := by rw [eval_of (hG.val 15 120 (by decide) d15), s120]
              have hp := hG.put (i := 16) (s := 121) (by decide) (by simp) (by omega)
              rw [s121] at hp
              unfold Oper.wp
              simp only [execOp, e8, e15]
              simp [go_sem]
              rw [if_neg (by omega)]
              exact hp
            · have d0 : D 0 := hw ⟨0, .data⟩ (by simp) rfl
              have d16 : D 16 := hw ⟨16, .data⟩ (by simp) rfl
              have e0 : a.eval (.tmp 107) = .string Y := by rw [eval_of (hG.val 0 107 (by decide) d0), s107]
              have e16 : a.eval (.tmp 121) = .string (t0 ++ t1 ++ bs [if x.seen then 1 else 0]) := by rw [eval_of (hG.val 16 121 (by decide) d16), s121]
              have hp := hG.put (i := 17) (s := 122) (by decide) (by simp) (by omega)
              rw [s122] at hp
              unfold Oper.wp
              simp only [execOp, e0, e16]
              simp [go_sem]
              rw [if_neg (by omega)]
              exact hp
            · have d17 : D 17 := hw ⟨17, .data⟩ (by simp) rfl
              have e17 : a.eval (.tmp 122) = .string (Y ++ (t0 ++ t1 ++ bs [if x.seen then 1 else 0])) := by rw [eval_of (hG.val 17 122 (by decide) d17), s122]
              have d0 : D 0 := hw ⟨0, .phase⟩ (by simp) rfl
              have hp := hG.put (i := 18) (s := 5) (by decide) (by simp) (fun _ => d0)
              rw [s5] at hp
              unfold Oper.wp
              simp only [execOp, e17]
              simp only [Sem.run_pure]
              exact hp
        · have hkn : k = o.vars.length := by omega
          have HYF := Lib.hid (show ys = pre3 o ++ o.vars.flatMap encGlob by have := HY.out; rwa [hkn, List.take_length] at this)
          have hyl : (bs ys).size ≤ 1000000 := by
            have e := HYF.out
            have := HP.out
            show ys.length ≤ 1000000
            rw [e]; omega
          have HC0 := Lib.hid hc
          have h_2 : wr.cell? ⟨b, off + 2, none⟩ = _ := hc.cellSome H.out.c2 (by simp)
          have h_3 : wr.cell? ⟨b, off + 3, none⟩ = _ := hc.cellSome H.out.c3 (by simp)
          have h_4 : wr.cell? ⟨b, off + 4, none⟩ = _ := hc.cellSome H.out.c4 (by simp)
          have h_5 : wr.cell? ⟨b, off + 5, none⟩ = _ := hc.cellSome H.out.c5 (by simp)
          have h_6 : wr.cell? ⟨b, off + 6, none⟩ = _ := hc.cellSome H.out.c6 (by simp)
          dsimp only at h_2 h_3 h_4 h_5 h_6
          clear hc hk hkn HY
          go_wp2_with fail
          refine (wtexts_any na o.names.length nc o.names wr rfl ((H.out.n).kept HC0.out (by simp)) (by omega) (names_short HNA.out)).mono ?_; rintro _ w3 ⟨rfl, hw⟩
          have HW := Lib.hid hw
          have h_2 := hw.cellSome h_2 (by simp); have h_3 := hw.cellSome h_3 (by simp); have h_4 := hw.cellSome h_4 (by simp); have h_5 := hw.cellSome h_5 (by simp); have h_6 := hw.cellSome h_6 (by simp)
          clear hw
          go_wp2_with fail
          have HC1 := Lib.hid (HC0.out.then HW.out)
          clear HC0 HW
          have HC0 := HC1
          clear HC1
          have HS1 := Lib.hid (show str (pre4 o) = .string (bs ys ++ bs (encTs (o.names.map bs))) by rw [bs_append, HYF.out]; rfl)
          clear HS0
          have HS0 := HS1
          clear HS1 h_2 h_3 h_4 h_5 h_6 hlt
          go_loopw [5, 13, 136] (fun s _ i wr => ∃ (k : Nat) (ys : List UInt8), k ≤ o.procs.length ∧ i = .int .i64 k ∧ s = str ys ∧ ys = pre4 o ++ (o.procs.take k).flatMap encEnt ∧ Chg [] w wr) (fun _ _ i _ => o.procs.length - (intOf i).toNat)
          case atStart => exact ⟨0, pre4 o, Nat.zero_le _, rfl, HS0.out.symm, by simp, HC0.out⟩
          case round =>
          obtain ⟨k, ys, hk, rfl, rfl, hys, hc⟩ := hrel
          have HY := Lib.hid hys; clear hys
          by_cases hlt : k < o.procs.length
          · obtain ⟨x, hx⟩ : ∃ x, o.procs[k]? = some x := ⟨o.procs[k], by simp [hlt]⟩
            have hat : At w pa (o.procs.flatMap EntD.cells) := H.out.p
            obtain ⟨bb, boff, rfl, hcell⟩ := hat (by rw [flat_len _ 3 (fun _ => rfl)]; omega)
            have hcs : ∀ j, j < 3 → wr.cell? ⟨bb, boff + (k * 3 + j), none⟩ = (EntD.cells x)[j]? := fun j hj => by
              have h1 := flat_get EntD.cells 3 (fun _ => rfl) o.procs k j x hx hj
              have h2 : j < (EntD.cells x).length := hj
              rw [List.getElem?_eq_getElem h2] at h1 ⊢
              exact hc.cellSome (hcell _ _ (by simpa using h1)) (by simp)
            have hc0 : wr.cell? ⟨bb, boff + k * 3, none⟩ = some (.int .i64 x.place) := hcs 0 (by omega)
            have hc1 : wr.cell? ⟨bb, boff + k * 3 + 1, none⟩ = some (.int .i64 x.args) := by have := hcs 1 (by omega); rw [← Nat.add_assoc] at this; exact this
            have hc2 : wr.cell? ⟨bb, boff + k * 3 + 2, none⟩ = some (.int .i64 x.locals) := by have := hcs 2 (by omega); rw [← Nat.add_assoc] at this; exact this
            have hyl : (bs ys).size ≤ 1000000 := by
              have := room (pre := pre4 o) (f := encEnt) (N := 1000000) hx (by have := HP.out; omega)
              have e := HY.out
              show ys.length ≤ 1000000
              rw [e]; omega
            have HX := Lib.hid hx; have HC := Lib.hid hc
            have hxf := HS.out.fit.procs x (List.mem_of_getElem? hx)
            have hHT := (fun w' => rwn_any x.place w' hxf.1)
            have hHA := (fun w' => rwn_any x.args w' hxf.2.1)
            have hHB := (fun w' => rwn_any x.locals w' hxf.2.2)
            have y0 := sz_encN x.place
            have y1 := sz_encN x.args
            have y2 := sz_encN x.locals
            clear hxf
            obtain ⟨t0, ht0⟩ : ∃ t, t = bs (encN x.place) := ⟨_, rfl⟩
            simp only [str, ← ht0] at y0 hHT
            obtain ⟨t1, ht1⟩ : ∃ t, t = bs (encN x.args) := ⟨_, rfl⟩
            simp only [str, ← ht1] at y1 hHA
            obtain ⟨t2, ht2⟩ : ∃ t, t = bs (encN x.locals) := ⟨_, rfl⟩
            simp only [str, ← ht2] at y2 hHB
            obtain ⟨Y, hY⟩ : ∃ Y, Y = bs ys := ⟨_, rfl⟩
            have HVS := Lib.hid (show Value.string (Y ++ (t0 ++ t1 ++ t2)) = str (ys ++ encEnt x) by rw [hY, ht0, ht1, ht2, bs_append, bs_append, bs_append]; rfl)
            simp only [str, ← hY] at hyl ⊢
            have HT := Lib.hid hHT
            have HA := Lib.hid hHA
            have HB := Lib.hid hHB
            clear ht0 ht1 ht2 hY hHT hHA hHB
            clear hcs hcell hx hc hat
            go_wp2_with fail
            refine wp_region_C [] rfl (by kernel_rfl) ?_
            have hl := Blk.new wr #[.int .i64 x.place, .int .i64 x.args, .int .i64 x.locals] 47
            have hlz : (wr.alloc (.cells #[.int .i64 x.place, .int .i64 x.args, .int .i64 x.locals] 47)).drew.cell? ⟨wr.heap.size, 0, none⟩ = _ := hl.cell 0 _ rfl
            have HZL := Lib.hid (Zone.of (X := []) hlz (by simp))
            have HSL := Lib.hid (show wr.heap.size < (wr.alloc (.cells #[.int .i64 x.place, .int .i64 x.args, .int .i64 x.locals] 47)).drew.heap.size by simp)
            clear hl hlz
            have hS : Chg [] (wr.alloc (.cells #[.int .i64 x.place, .int .i64 x.args, .int .i64 x.locals] 47)).drew (wr.alloc (.cells #[.int .i64 x.place, .int .i64 x.args, .int .i64 x.locals] 47)).drew := Chg.refl _ _
            repeat
              (with_reducible show wpX _ _ _ _ _ _ _ _
               first
                 | refine wpX_nil ?_
                 | refine wpX_skip rfl ?_
                 | refine wpX_mv rfl rfl (by kernel_rfl) (fun _ _ => ?_)
                 | refine wpX_ldC rfl rfl rfl (by exact HZL.out) (by assumption) (fun _ _ => ?_)
                 | refine wpX_ef' rfl rfl rfl (fun _ _ => ?_)
               go_wp2_with fail)
            refine (HT.out _).mono ?_; rintro _ _ ⟨rfl, hw⟩; have hS := Chg.then (by assumption) hw; have hk2 := Chg.cells hS HSL.out (by simp); clear hw
            go_wp2_with fail
            refine And.intro (by assumption : Chg _ _ _) ?_
            repeat
              (with_reducible show wpX _ _ _ _ _ _ _ _
               first
                 | refine wpX_nil ?_
                 | refine wpX_skip rfl ?_
                 | refine wpX_mv rfl rfl (by kernel_rfl) (fun _ _ => ?_)
                 | refine wpX_ldC rfl rfl rfl (by exact HZL.out) (by assumption) (fun _ _ => ?_)
                 | refine wpX_ef' rfl rfl rfl (fun _ _ => ?_)
               go_wp2_with fail)
            refine (HA.out _).mono ?_; rintro _ _ ⟨rfl, hw⟩; have hS := Chg.then (by assumption) hw; have hk2 := Chg.cells hS HSL.out (by simp); clear hw
            go_wp2_with fail
            refine And.intro (by assumption : Chg _ _ _) ?_
            repeat
              (with_reducible show wpX _ _ _ _ _ _ _ _
               first
                 | refine wpX_nil ?_
                 | refine wpX_skip rfl ?_
                 | refine wpX_mv rfl rfl (by kernel_rfl) (fun _ _ => ?_)
                 | refine wpX_ldC rfl rfl rfl (by exact HZL.out) (by assumption) (fun _ _ => ?_)
                 | refine wpX_ef' rfl rfl rfl (fun _ _ => ?_)
               go_wp2_with fail)
            refine (HB.out _).mono ?_; rintro _ _ ⟨rfl, hw⟩; have hS := Chg.then (by assumption) hw; have hk2 := Chg.cells hS HSL.out (by simp); clear hw
            go_wp2_with fail
            refine And.intro (by assumption : Chg _ _ _) ?_
            repeat
              (with_reducible show wpX _ _ _ _ _ _ _ _
               first
                 | refine wpX_nil ?_
                 | refine wpX_skip rfl ?_
                 | refine wpX_mv rfl rfl (by kernel_rfl) (fun _ _ => ?_)
                 | refine wpX_ldC rfl rfl rfl (by exact HZL.out) (by assumption) (fun _ _ => ?_)
                 | refine wpX_ef' rfl rfl rfl (fun _ _ => ?_)
               go_wp2_with fail)
            go_roundw
            case rel => exact ⟨k + 1, ys ++ encEnt x, by omega, by go_num, HVS.out, by rw [take_next HX.out, HY.out], ((HC.out.alloc _).drew).then hS⟩
            case measure => simp [intOf]; omega
          · have hkn : k = o.procs.length := by omega
            have HYF := Lib.hid (show ys = pre4 o ++ o.procs.flatMap encEnt by have := HY.out; rwa [hkn, List.take_length] at this)
            have hyl : (bs ys).size ≤ 1000000 := by
              have e := HYF.out
              have := HP.out
              show ys.length ≤ 1000000
              rw [e]; omega
            have HC0 := Lib.hid hc
            have h_2 : wr.cell? ⟨b, off + 2, none⟩ = _ := hc.cellSome H.out.c2 (by simp)
            have h_3 : wr.cell? ⟨b, off + 3, none⟩ = _ := hc.cellSome H.out.c3 (by simp)
            have h_4 : wr.cell? ⟨b, off + 4, none⟩ = _ := hc.cellSome H.out.c4 (by simp)
            have h_5 : wr.cell? ⟨b, off + 5, none⟩ = _ := hc.cellSome H.out.c5 (by simp)
            have h_6 : wr.cell? ⟨b, off + 6, none⟩ = _ := hc.cellSome H.out.c6 (by simp)
            dsimp only at h_2 h_3 h_4 h_5 h_6
            clear hc hk hkn HY
            go_wp2_with fail
            refine (HN5.out _).mono ?_; rintro _ w3 ⟨rfl, hw⟩
            have HW := Lib.hid hw
            have h_2 := hw.cellSome h_2 (by simp); have h_3 := hw.cellSome h_3 (by simp); have h_4 := hw.cellSome h_4 (by simp); have h_5 := hw.cellSome h_5 (by simp); have h_6 := hw.cellSome h_6 (by simp)
            clear hw
            go_wp2_with fail
            have HC1 := Lib.hid (HC0.out.then HW.out)
            clear HC0 HW
            have HC0 := HC1
            clear HC1
            have HS1 := Lib.hid (show str (pre5 o) = .string (bs ys ++ bs (encN (o.code.length : Int))) by rw [bs_append, HYF.out]; rfl)
            clear HS0
            have HS0 := HS1
            clear HS1 h_2 h_3 h_4 h_5 h_6 hlt
            go_loopw [5, 15, 171] (fun s _ i wr => ∃ (k : Nat) (ys : List UInt8), k ≤ o.code.length ∧ i = .int .i64 k ∧ s = str ys ∧ ys = pre5 o ++ (o.code.take k).flatMap encInst ∧ Chg [] w wr) (fun _ _ i _ => o.code.length - (intOf i).toNat)
            case atStart => exact ⟨0, pre5 o, Nat.zero_le _, rfl, HS0.out.symm, by simp, HC0.out⟩
            case round =>
            obtain ⟨k, ys, hk, rfl, rfl, hys, hc⟩ := hrel
            have HY := Lib.hid hys; clear hys
            by_cases hlt : k < o.code.length
            · obtain ⟨x, hx⟩ : ∃ x, o.code[k]? = some x := ⟨o.code[k], by simp [hlt]⟩
              have hat : At w ca (o.code.flatMap InstD.cells) := H.out.c
              obtain ⟨bb, boff, rfl, hcell⟩ := hat (by rw [flat_len _ 3 (fun _ => rfl)]; omega)
              have hcs : ∀ j, j < 3 → wr.cell? ⟨bb, boff + (k * 3 + j), none⟩ = (InstD.cells x)[j]? := fun j hj => by
                have h1 := flat_get InstD.cells 3 (fun _ => rfl) o.code k j x hx hj
                have h2 : j < (InstD.cells x).length := hj
                rw [List.getElem?_eq_getElem h2] at h1 ⊢
                exact hc.cellSome (hcell _ _ (by simpa using h1)) (by simp)
              have hc0 : wr.cell? ⟨bb, boff + k * 3, none⟩ = some (.int .i64 x.op) := hcs 0 (by omega)
              have hc1 : wr.cell? ⟨bb, boff + k * 3 + 1, none⟩ = some (.int .i64 x.a) := by have := hcs 1 (by omega); rw [← Nat.add_assoc] at this; exact this
              have hc2 : wr.cell? ⟨bb, boff + k * 3 + 2, none⟩ = some (.int .i64 x.b) := by have := hcs 2 (by omega); rw [← Nat.add_assoc] at this; exact this
              have hyl : (bs ys).size ≤ 1000000 := by
                have := room (pre := pre5 o) (f := encInst) (N := 1000000) hx (by have := HP.out; omega)
                have e := HY.out
                show ys.length ≤ 1000000
                rw [e]; omega
              have HX := Lib.hid hx; have HC := Lib.hid hc
              have hxf := HS.out.fit.code x (List.mem_of_getElem? hx)
              have hHT := (fun w' => rwn_any x.op w' hxf.1)
              have hHA := (fun w' => wnum_any x.a w' hxf.2.1.1 hxf.2.1.2)
              have hHB := (fun w' => wnum_any x.b w' hxf.2.2.1 hxf.2.2.2)
              have y0 := sz_encN x.op
              have y1 := sz_encN x.a
              have y2 := sz_encN x.b
              clear hxf
              obtain ⟨t0, ht0⟩ : ∃ t, t = bs (encN x.op) := ⟨_, rfl⟩
              simp only [str, ← ht0] at y0 hHT
              obtain ⟨t1, ht1⟩ : ∃ t, t = bs (encN x.a) := ⟨_, rfl⟩
              simp only [str, ← ht1] at y1 hHA
              obtain ⟨t2, ht2⟩ : ∃ t, t = bs (encN x.b) := ⟨_, rfl⟩
              simp only [str, ← ht2] at y2 hHB
              obtain ⟨Y, hY⟩ : ∃ Y, Y = bs ys := ⟨_, rfl⟩
              have HVS := Lib.hid (show Value.string (Y ++ (t0 ++ t1 ++ t2)) = str (ys ++ encInst x) by rw [hY, ht0, ht1, ht2, bs_append, bs_append, bs_append]; rfl)
              simp only [str, ← hY] at hyl ⊢
              have HT := Lib.hid hHT
              have HA := Lib.hid hHA
              have HB := Lib.hid hHB
              clear ht0 ht1 ht2 hY hHT hHA hHB
              clear hcs hcell hx hc hat
              go_wp2_with fail
              refine wp_region_C [] rfl (by kernel_rfl) ?_
              have hl := Blk.new wr #[.int .i64 x.op, .int .i64 x.a, .int .i64 x.b] 49
              have hlz : (wr.alloc (.cells #[.int .i64 x.op, .int .i64 x.a, .int .i64 x.b] 49)).drew.cell? ⟨wr.heap.size, 0, none⟩ = _ := hl.cell 0 _ rfl
              have HZL := Lib.hid (Zone.of (X := []) hlz (by simp))
              have HSL := Lib.hid (show wr.heap.size < (wr.alloc (.cells #[.int .i64 x.op, .int .i64 x.a, .int .i64 x.b] 49)).drew.heap.size by simp)
              clear hl hlz
              have hS : Chg [] (wr.alloc (.cells #[.int .i64 x.op, .int .i64 x.a, .int .i64 x.b] 49)).drew (wr.alloc (.cells #[.int .i64 x.op, .int .i64 x.a, .int .i64 x.b] 49)).drew := Chg.refl _ _
              repeat
                (with_reducible show wpX _ _ _ _ _ _ _ _
                 first
                   | refine wpX_nil ?_
                   | refine wpX_skip rfl ?_
                   | refine wpX_mv rfl rfl (by kernel_rfl) (fun _ _ => ?_)
                   | refine wpX_ldC rfl rfl rfl (by exact HZL.out) (by assumption) (fun _ _ => ?_)
                   | refine wpX_ef' rfl rfl rfl (fun _ _ => ?_)
                 go_wp2_with fail)
              refine (HT.out _).mono ?_; rintro _ _ ⟨rfl, hw⟩; have hS := Chg.then (by assumption) hw; have hk2 := Chg.cells hS HSL.out (by simp); clear hw
              go_wp2_with fail
              refine And.intro (by assumption : Chg _ _ _) ?_
              repeat
                (with_reducible show wpX _ _ _ _ _ _ _ _
                 first
                   | refine wpX_nil ?_
                   | refine wpX_skip rfl ?_
                   | refine wpX_mv rfl rfl (by kernel_rfl) (fun _ _ => ?_)
                   | refine wpX_ldC rfl rfl rfl (by exact HZL.out) (by assumption) (fun _ _ => ?_)
                   | refine wpX_ef' rfl rfl rfl (fun _ _ => ?_)
                 go_wp2_with fail)
              refine (HA.out _).mono ?_; rintro _ _ ⟨rfl, hw⟩; have hS := Chg.then (by assumption) hw; have hk2 := Chg.cells hS HSL.out (by simp); clear hw
              go_wp2_with fail
              refine And.intro (by assumption : Chg _ _ _) ?_
              repeat
                (with_reducible show wpX _ _ _ _ _ _ _ _
                 first
                   | refine wpX_nil ?_
                   | refine wpX_skip rfl ?_
                   | refine wpX_mv rfl rfl (by kernel_rfl) (fun _ _ => ?_)
                   | refine wpX_ldC rfl rfl rfl (by exact HZL.out) (by assumption) (fun _ _ => ?_)
                   | refine wpX_ef' rfl rfl rfl (fun _ _ => ?_)
                 go_wp2_with fail)
              refine (HB.out _).mono ?_; rintro _ _ ⟨rfl, hw⟩; have hS := Chg.then (by assumption) hw; have hk2 := Chg.cells hS HSL.out (by simp); clear hw
              go_wp2_with fail
              refine And.intro (by assumption : Chg _ _ _) ?_
              repeat
                (with_reducible show wpX _ _ _ _ _ _ _ _
                 first
                   | refine wpX_nil ?_
                   | refine wpX_skip rfl ?_
                   | refine wpX_mv rfl rfl (by kernel_rfl) (fun _ _ => ?_)
                   | refine wpX_ldC rfl rfl rfl (by exact HZL.out) (by assumption) (fun _ _ => ?_)
                   | refine wpX_ef' rfl rfl rfl (fun _ _ => ?_)
                 go_wp2_with fail)
              go_roundw
              case rel => exact ⟨k + 1, ys ++ encInst x, by omega, by go_num, HVS.out, by rw [take_next HX.out, HY.out], ((HC.out.alloc _).drew).then hS⟩
              case measure => simp [intOf]; omega
            · have hkn : k = o.code.length := by omega
              have HYF := Lib.hid (show ys = pre5 o ++ o.code.flatMap encInst by have := HY.out; rwa [hkn, List.take_length] at this)
              have hyl : (bs ys).size ≤ 1000000 := by
                have e := HYF.out
                have := HP.out
                show ys.length ≤ 1000000
                rw [e]; omega
              have HC0 := Lib.hid hc
              have h_2 : wr.cell? ⟨b, off + 2, none⟩ = _ := hc.cellSome H.out.c2 (by simp)
              have h_3 : wr.cell? ⟨b, off + 3, none⟩ = _ := hc.cellSome H.out.c3 (by simp)
              have h_4 : wr.cell? ⟨b, off + 4, none⟩ = _ := hc.cellSome H.out.c4 (by simp)
              have h_5 : wr.cell? ⟨b, off + 5, none⟩ = _ := hc.cellSome H.out.c5 (by simp)
              have h_6 : wr.cell? ⟨b, off + 6, none⟩ = _ := hc.cellSome H.out.c6 (by simp)
              dsimp only at h_2 h_3 h_4 h_5 h_6
              clear hc hk hkn HY h_2 h_3 h_4 h_5 h_6
              go_wp2_with fail
              go_ret2
              rw [HYF.out]
              exact HFIN.out _ HC0.out
end Go.Proofs.YtjgfclhempjinaaGreatDoor
