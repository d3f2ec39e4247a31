/- The document's rightInst, and named, walked. -/
import Derived.Test.YtjgfclhempjinaaGreatDoorRefName
import Derived.Test.YtjgfclhempjinaaGreatDoorObjW8
namespace Go.Proofs.YtjgfclhempjinaaGreatDoor
open Go Go.RowKit Go.Mq Go.Mq.Obj
set_option maxRecDepth 100000
theorem rname_ans (l : List UInt8) (w : World) (h : l.length ≤ 1099511627776) : Calls Tryz.prog 11 #[str l] w (Ans w (.bool (nameOK l))) := by
  refine (rname_any l w (by omega)).mono ?_
  rintro _ _ ⟨rfl, rfl⟩; exact ⟨rfl, Chg.refl _ _⟩
theorem rin_ans (n a b : Int) (w : World) : Calls Tryz.prog 29 #[.int .i64 n, .int .i64 a, .int .i64 b] w (Ans w (.bool (decide (a ≤ n) && decide (n ≤ b)))) := by
  refine (rin_any n a b w).mono ?_
  rintro _ _ ⟨rfl, rfl⟩; exact ⟨rfl, Chg.refl _ _⟩

theorem rnamed_any (na : Option Addr) (n c : Nat) (l : List (List UInt8)) (w : World) (hn : n = l.length) (hl : n ≤ 1099511627776) (hat : At w na (l.map str)) (hb : ∀ x ∈ l, x.length ≤ 1099511627776) :
    Calls Tryz.prog 30 #[.slice na n c] w (fun e w' => e = .returned (.bool (l.all nameOK)) ∧ w = w') := by
  subst hn
  have HB := Lib.hid hb; have HAT := Lib.hid hat; clear hb hat
  obtain ⟨n, hn⟩ : ∃ n, n = l.length := ⟨_, rfl⟩
  rw [← hn]; rw [← hn] at hl
  have HN := Lib.hid hn; clear hn
  go_enter Tryz.func30, Tryz.ntmps30
  go_wp2_with fail
  go_loopw [4, 7] (fun _ i wr => ∃ k : Nat, k ≤ n ∧ i = .int .i64 k ∧ (l.take k).all nameOK = true ∧ w = wr) (fun _ i _ => n - (intOf i).toNat)
  case atStart => exact ⟨0, Nat.zero_le _, rfl, by simp, rfl⟩
  case round =>
    obtain ⟨k, hk, rfl, hall, hw⟩ := hrel
    subst hw
    have HA := Lib.hid hall; clear hall
    by_cases hlt : k < n
    · obtain ⟨x, hx⟩ : ∃ x, l[k]? = some x := ⟨l[k]'(by rw [← HN.out]; exact hlt), by simp [← HN.out, hlt]⟩
      obtain ⟨bb, boff, hna, hcell⟩ := HAT.out (by rw [List.length_map, ← HN.out]; omega)
      subst hna
      have hc := hcell k (str x) (by rw [List.getElem?_map, hx]; rfl)
      have hnm := rname_ans x w (HB.out x (List.mem_of_getElem? hx))
      have HX := Lib.hid hx; clear hx hcell
      cases ho : nameOK x
      · rw [ho] at hnm
        have HNM := Lib.hid hnm; have HO := Lib.hid ho; clear hnm ho
        go_wp2_with fail
        refine (rname_any x w (by have := HB.out x (List.mem_of_getElem? HX.out); omega)).mono ?_; rintro _ _ ⟨rfl, rfl⟩
        rw [HO.out]
        go_wp2_with fail
        go_ret
        refine ⟨?_, rfl⟩
        rw [List.all_eq_false.2 ⟨x, List.mem_of_getElem? HX.out, by simp [HO.out]⟩]
        rfl
      · rw [ho] at hnm
        have HNM := Lib.hid hnm; have HO := Lib.hid ho; clear hnm ho
        go_wp2_with fail
        refine (rname_any x w (by have := HB.out x (List.mem_of_getElem? HX.out); omega)).mono ?_; rintro _ _ ⟨rfl, rfl⟩
        rw [HO.out]
        go_wp2_with fail
        go_roundw
        case rel => exact ⟨k + 1, by omega, by go_num, by rw [List.take_add_one, HX.out, List.all_append]; simp [HA.out, HO.out], by first | rfl | trivial⟩
        case measure => simp [intOf]; omega
    · have hkn : k = n := by omega
      have HK := Lib.hid hkn
      go_wp2_with fail
      go_ret
      refine ⟨?_, rfl⟩
      have := HA.out
      rw [HK.out, HN.out, List.take_length] at this
      rw [this]
      rfl

theorem rbelow_any (n m : Int) (w : World) : Calls Tryz.prog 60 #[.int .i64 n, .int .i64 m] w (Ans w (.bool (decide (0 ≤ n) && decide (n < m)))) := by
  by_cases h1 : 0 ≤ n
  all_goals by_cases h2 : n < m
  all_goals
    go_enter Tryz.func60, Tryz.ntmps60
    go_wp2_with fail
    go_ret
    refine ⟨?_, Chg.refl _ _⟩
    simp [h1, h2]

theorem below1 (a : Int) : (decide (0 ≤ a) && decide (a < 1)) = (a == 0) := by rw [Bool.eq_iff_iff]; simp; omega
theorem below0 (a : Int) : (decide (0 ≤ a) && decide (a < 0)) = false := by simp <;> omega
theorem there_noM (o : ObjD) (x : InstD) (own : Nat) (h : (x.b != -1) = true) (hi : inB x.b o.uses.length = false) : thereOK o x own = false := there_no o x own (by simpa [bne] using h) hi
theorem there_yesM (o : ObjD) (x : InstD) (own k : Nat) (u : UseD) (h : (x.b != -1) = true) (hk : x.b = k) (hu : o.uses[k]? = some u) : thereOK o x own = inB x.a u.names.length := there_yes o x own k u (by simpa [bne] using h) hk hu
theorem there_minusM (o : ObjD) (x : InstD) (own : Nat) (h : (x.b != -1) = false) : thereOK o x own = inB x.a own := there_minus o x own (by simpa [bne] using h)


set_option maxHeartbeats 4000000 in
theorem rinst_any (B b off : Nat) (o : ObjD) (M : ObjM) (x : InstD) (w : World) (h : ObjAt w B b off o M) (hs : o.small) :
    Calls Tryz.prog 31 #[.pointer (some ⟨b, off, none⟩), InstD.val x] w (Ans w (.bool (instOK o x))) := by
  obtain ⟨op, xa, xb⟩ := x
  obtain ⟨sa, ua, va, pa, na, ca, sc, uc, vc, pc, nc, cc, us⟩ := M
  have hzu : o.uses.length ≤ 1099511627776 := hs.uses.1
  have hzv : o.vars.length ≤ 1099511627776 := hs.vars.1
  have hzp : o.procs.length ≤ 1099511627776 := hs.procs
  have hzc : o.code.length ≤ 1099511627776 := hs.code
  have h2 := h.c2
  have h3 := h.c3
  have h4 := h.c4
  have h6 := h.c6
  dsimp only at h2 h3 h4 h6
  have hlt := h.blt
  have H := Lib.hid h; have HS := Lib.hid hs
  clear h hs
  unfold InstD.val InstD.cells
  dsimp only
  by_cases hop : ∃ n : Nat, 1 ≤ n ∧ n ≤ 17 ∧ op = (n : Int)
  · obtain ⟨n, hn1, hn2, rfl⟩ := hop
    have hn : n = 1 ∨ n = 2 ∨ n = 3 ∨ n = 4 ∨ n = 5 ∨ n = 6 ∨ n = 7 ∨ n = 8 ∨ n = 9 ∨ n = 10 ∨ n = 11 ∨ n = 12 ∨ n = 13 ∨ n = 14 ∨ n = 15 ∨ n = 16 ∨ n = 17 := by omega
    clear hn1 hn2
    rcases hn with rfl | rfl | rfl | rfl | rfl | rfl | rfl | rfl | rfl | rfl | rfl | rfl | rfl | rfl | rfl | rfl | rfl
    · rw [show (((1 : Nat) : Int)) = (1 : Int) from rfl, instOK_1]
      go_enter Tryz.func31, Tryz.ntmps31
      go_upto_region 1 with fail
      have hb0 := Blk.new w #[.int .i64 1, .int .i64 xa, .int .i64 xb] 49
      have hW : Chg [] w (w.alloc (.cells #[.int .i64 1, .int .i64 xa, .int .i64 xb] 49)) := (Chg.refl [] w).alloc _
      generalize hw0 : w.alloc (.cells #[.int .i64 1, .int .i64 xa, .int .i64 xb] 49) = w0 at hb0 hW ⊢
      have q0 := hb0.cell 0 _ rfl
      have q1 := hb0.cell 1 _ rfl
      have q2 := hb0.cell 2 _ rfl
      have h2' := hW.cellSome h2 (by simp)
      have h3' := hW.cellSome h3 (by simp)
      have h4' := hW.cellSome h4 (by simp)
      have h6' := hW.cellSome h6 (by simp)
      clear hw0 h2 h3 h4 h6
      have HW := Lib.hid hW
      have HB0 := Lib.hid hb0; clear hb0
      clear hW h3' h4' h6'
      go_wp2_with fail
      go_ret
      exact ⟨rfl, HW.out⟩
    · rw [show (((2 : Nat) : Int)) = (2 : Int) from rfl, instOK_2]
      cases hi : (xa == 0)
      all_goals
        have hin := fun w' => rbelow_any xa 1 w'
        rw [below1, hi] at hin
        have HI := Lib.hid hin; clear hin hi
        go_enter Tryz.func31, Tryz.ntmps31
        go_upto_region 1 with fail
        have hb0 := Blk.new w #[.int .i64 2, .int .i64 xa, .int .i64 xb] 49
        have hW : Chg [] w (w.alloc (.cells #[.int .i64 2, .int .i64 xa, .int .i64 xb] 49)) := (Chg.refl [] w).alloc _
        generalize hw0 : w.alloc (.cells #[.int .i64 2, .int .i64 xa, .int .i64 xb] 49) = w0 at hb0 hW ⊢
        have q0 := hb0.cell 0 _ rfl
        have q1 := hb0.cell 1 _ rfl
        have q2 := hb0.cell 2 _ rfl
        have h2' := hW.cellSome h2 (by simp)
        have h3' := hW.cellSome h3 (by simp)
        have h4' := hW.cellSome h4 (by simp)
        have h6' := hW.cellSome h6 (by simp)
        clear hw0 h2 h3 h4 h6
        have HW := Lib.hid hW
        have HB0 := Lib.hid hb0; clear hb0
        clear hW
        go_wp2_with fail
        refine (HI.out _).mono ?_; rintro _ w1 ⟨rfl, hw⟩
        have hb1 := HB0.out.kept hw (by simp)
        have k1 := hb1.cell 2 _ rfl
        have HW1 := Lib.hid hw; clear hw
        go_wp2_with fail
        go_ret
        first | rw [Bool.true_and] | rw [Bool.false_and]
        exact ⟨rfl, HW.out.then HW1.out⟩
    · rw [show (((3 : Nat) : Int)) = (3 : Int) from rfl, instOK_3]
      cases hi : inB xa 10
      all_goals
        have hin := fun w' => rbelow_any xa 10 w'
        rw [show (decide (0 ≤ xa) && decide (xa < 10)) = inB xa 10 from rfl, hi] at hin
        have HI := Lib.hid hin; clear hin hi
        go_enter Tryz.func31, Tryz.ntmps31
        go_upto_region 1 with fail
        have hb0 := Blk.new w #[.int .i64 3, .int .i64 xa, .int .i64 xb] 49
        have hW : Chg [] w (w.alloc (.cells #[.int .i64 3, .int .i64 xa, .int .i64 xb] 49)) := (Chg.refl [] w).alloc _
        generalize hw0 : w.alloc (.cells #[.int .i64 3, .int .i64 xa, .int .i64 xb] 49) = w0 at hb0 hW ⊢
        have q0 := hb0.cell 0 _ rfl
        have q1 := hb0.cell 1 _ rfl
        have q2 := hb0.cell 2 _ rfl
        have h2' := hW.cellSome h2 (by simp)
        have h3' := hW.cellSome h3 (by simp)
        have h4' := hW.cellSome h4 (by simp)
        have h6' := hW.cellSome h6 (by simp)
        clear hw0 h2 h3 h4 h6
        have HW := Lib.hid hW
        have HB0 := Lib.hid hb0; clear hb0
        clear hW
        go_wp2_with fail
        refine (HI.out _).mono ?_; rintro _ w1 ⟨rfl, hw⟩
        have hb1 := HB0.out.kept hw (by simp)
        have k1 := hb1.cell 2 _ rfl
        have HW1 := Lib.hid hw; clear hw
        go_wp2_with fail
        go_ret
        first | rw [Bool.true_and] | rw [Bool.false_and]
        exact ⟨rfl, HW.out.then HW1.out⟩
    · rw [show (((4 : Nat) : Int)) = (4 : Int) from rfl, instOK_4]
      cases hi : inB xa 10
      all_goals
        have hin := fun w' => rbelow_any xa 10 w'
        rw [show (decide (0 ≤ xa) && decide (xa < 10)) = inB xa 10 from rfl, hi] at hin
        have HI := Lib.hid hin; clear hin hi
        go_enter Tryz.func31, Tryz.ntmps31
        go_upto_region 1 with fail
        have hb0 := Blk.new w #[.int .i64 4, .int .i64 xa, .int .i64 xb] 49
        have hW : Chg [] w (w.alloc (.cells #[.int .i64 4, .int .i64 xa, .int .i64 xb] 49)) := (Chg.refl [] w).alloc _
        generalize hw0 : w.alloc (.cells #[.int .i64 4, .int .i64 xa, .int .i64 xb] 49) = w0 at hb0 hW ⊢
        have q0 := hb0.cell 0 _ rfl
        have q1 := hb0.cell 1 _ rfl
        have q2 := hb0.cell 2 _ rfl
        have h2' := hW.cellSome h2 (by simp)
        have h3' := hW.cellSome h3 (by simp)
        have h4' := hW.cellSome h4 (by simp)
        have h6' := hW.cellSome h6 (by simp)
        clear hw0 h2 h3 h4 h6
        have HW := Lib.hid hW
        have HB0 := Lib.hid hb0; clear hb0
        clear hW
        go_wp2_with fail
        refine (HI.out _).mono ?_; rintro _ w1 ⟨rfl, hw⟩
        have hb1 := HB0.out.kept hw (by simp)
        have k1 := hb1.cell 2 _ rfl
        have HW1 := Lib.hid hw; clear hw
        go_wp2_with fail
        go_ret
        first | rw [Bool.true_and] | rw [Bool.false_and]
        exact ⟨rfl, HW.out.then HW1.out⟩
    · rw [show (((5 : Nat) : Int)) = (5 : Int) from rfl, instOK_5]
      cases hm : (xb != -1)
      · have hN := there_minusM o ⟨5, xa, xb⟩ o.vars.length hm
        rw [hN]
        have HI := Lib.hid (fun w' => rbelow_any xa (o.vars.length : Int) w')
        clear hN
        go_enter Tryz.func31, Tryz.ntmps31
        go_upto_region 1 with fail
        have hb0 := Blk.new w #[.int .i64 5, .int .i64 xa, .int .i64 xb] 49
        have hW : Chg [] w (w.alloc (.cells #[.int .i64 5, .int .i64 xa, .int .i64 xb] 49)) := (Chg.refl [] w).alloc _
        generalize hw0 : w.alloc (.cells #[.int .i64 5, .int .i64 xa, .int .i64 xb] 49) = w0 at hb0 hW ⊢
        have q0 := hb0.cell 0 _ rfl
        have q1 := hb0.cell 1 _ rfl
        have q2 := hb0.cell 2 _ rfl
        have h2' := hW.cellSome h2 (by simp)
        have h3' := hW.cellSome h3 (by simp)
        have h4' := hW.cellSome h4 (by simp)
        have h6' := hW.cellSome h6 (by simp)
        clear hw0 h2 h3 h4 h6
        have HW := Lib.hid hW
        have HB0 := Lib.hid hb0; clear hb0
        clear hW
        go_wp2_with fail
        refine (HI.out _).mono ?_; rintro _ w1 ⟨rfl, hw⟩
        have HW1 := Lib.hid hw; clear hw
        go_wp2_with fail
        go_ret
        exact ⟨rfl, HW.out.then HW1.out⟩
      · have hin1 := fun w' => rbelow_any xb (o.uses.length : Int) w'
        cases hi : inB xb o.uses.length
        · have hi' : (decide (0 ≤ xb) && decide (xb < (o.uses.length : Int))) = false := hi
          simp only [hi'] at hin1
          have HI := Lib.hid hin1
          have hN := there_noM o ⟨5, xa, xb⟩ o.vars.length hm hi
          rw [hN]
          clear hin1 hi hi' hN
          go_enter Tryz.func31, Tryz.ntmps31
          go_upto_region 1 with fail
          have hb0 := Blk.new w #[.int .i64 5, .int .i64 xa, .int .i64 xb] 49
          have hW : Chg [] w (w.alloc (.cells #[.int .i64 5, .int .i64 xa, .int .i64 xb] 49)) := (Chg.refl [] w).alloc _
          generalize hw0 : w.alloc (.cells #[.int .i64 5, .int .i64 xa, .int .i64 xb] 49) = w0 at hb0 hW ⊢
          have q0 := hb0.cell 0 _ rfl
          have q1 := hb0.cell 1 _ rfl
          have q2 := hb0.cell 2 _ rfl
          have h2' := hW.cellSome h2 (by simp)
          have h3' := hW.cellSome h3 (by simp)
          have h4' := hW.cellSome h4 (by simp)
          have h6' := hW.cellSome h6 (by simp)
          clear hw0 h2 h3 h4 h6
          have HW := Lib.hid hW
          have HB0 := Lib.hid hb0; clear hb0
          have z1 := Lib.hid (Zone.of (X := []) (w0 := w0.drew) q2 (by simp))
          have z2 := Lib.hid (Zone.of (X := []) (w0 := w0.drew) h2' (by simp))
          clear hW
          go_wp2_with fail
          refine wp_region_C [] rfl (by kernel_rfl) ?_
          have hS : Chg [] w0.drew w0.drew := Chg.refl _ _
          repeat
            (with_reducible show wpX _ _ _ _ _ _ _ _
             first
               | refine wpX_nil ?_
               | refine wpX_skip rfl ?_
               | refine wpX_mv rfl rfl (by kernel_rfl) (fun _ _ => ?_)
               | refine wpX_ldC rfl rfl rfl (by first | exact z1.out | exact z2.out) (by assumption) (fun _ _ => ?_)
               | refine wpX_ef' rfl rfl rfl (fun _ _ => ?_)
             go_wp2_with fail)
          refine (HI.out _).mono ?_; rintro _ _ ⟨rfl, hw⟩; have hS := Chg.then (by assumption) hw; clear hw
          go_wp2_with fail
          refine And.intro (by assumption : Chg _ _ _) ?_
          repeat
            (with_reducible show wpX _ _ _ _ _ _ _ _
             first
               | refine wpX_nil ?_
               | refine wpX_skip rfl ?_
               | refine wpX_mv rfl rfl (by kernel_rfl) (fun _ _ => ?_)
               | refine wpX_ldC rfl rfl rfl (by first | exact z1.out | exact z2.out) (by assumption) (fun _ _ => ?_)
               | refine wpX_ef' rfl rfl rfl (fun _ _ => ?_)
             go_wp2_with fail)
          go_ret
          exact ⟨rfl, HW.out.drew.then hS⟩
        · have hi' : (decide (0 ≤ xb) && decide (xb < (o.uses.length : Int))) = true := hi
          simp only [hi'] at hin1
          have hj : 0 ≤ xb ∧ xb < (o.uses.length : Int) := by simpa using hi'
          obtain ⟨k, rfl⟩ : ∃ k : Nat, xb = k := ⟨xb.toNat, by omega⟩
          have hus : us.map (·.u) = o.uses := H.out.us
          have hul : us.length = o.uses.length := by rw [← hus, List.length_map]
          have hkl : k < us.length := by omega
          obtain ⟨m, hm2⟩ : ∃ m, us[k]? = some m := ⟨us[k], by simp [hkl]⟩
          have hxu : o.uses[k]? = some m.u := by rw [← hus, List.getElem?_map, hm2]; rfl
          have hmu : m.u.names.length ≤ 1099511627776 := (HS.out.uses.2 m.u (List.mem_of_getElem? hxu)).2.2.1
          have hin2 := fun w' => rbelow_any xa (m.u.names.length : Int) w'
          have hN := there_yesM o ⟨5, xa, (k : Int)⟩ o.vars.length k m.u hm rfl hxu
          have hat : At w ua (us.flatMap UseM.cells) := H.out.u
          obtain ⟨bb, boff, hua, hcell⟩ := hat (by rw [flat_len _ 3 (fun _ => rfl)]; omega)
          subst hua
          have hc2 : w.cell? ⟨bb, boff + k * 3 + 2, none⟩ = some (.slice m.at_ m.u.names.length m.cap) := by
            have h1 := flat_get UseM.cells 3 (fun _ => rfl) us k 2 m hm2 (by omega)
            have := hcell _ _ h1
            rw [← Nat.add_assoc] at this; exact this
          have hkr : k < o.uses.length := by omega
          rw [hN]
          have HI := Lib.hid hin1; have HI2 := Lib.hid hin2
          clear hin1 hin2 hi hi' hj hus hul hkl hm2 hxu hat hcell hN
          go_enter Tryz.func31, Tryz.ntmps31
          go_upto_region 1 with fail
          have hb0 := Blk.new w #[.int .i64 5, .int .i64 xa, .int .i64 (k : Int)] 49
          have hW : Chg [] w (w.alloc (.cells #[.int .i64 5, .int .i64 xa, .int .i64 (k : Int)] 49)) := (Chg.refl [] w).alloc _
          generalize hw0 : w.alloc (.cells #[.int .i64 5, .int .i64 xa, .int .i64 (k : Int)] 49) = w0 at hb0 hW ⊢
          have q0 := hb0.cell 0 _ rfl
          have q1 := hb0.cell 1 _ rfl
          have q2 := hb0.cell 2 _ rfl
          have h2' := hW.cellSome h2 (by simp)
          have h3' := hW.cellSome h3 (by simp)
          have h4' := hW.cellSome h4 (by simp)
          have h6' := hW.cellSome h6 (by simp)
          clear hw0 h2 h3 h4 h6
          have HW := Lib.hid hW
          have HB0 := Lib.hid hb0; clear hb0
          have hc2' := hW.cellSome hc2 (by simp)
          have z1 := Lib.hid (Zone.of (X := []) (w0 := w0.drew) q2 (by simp))
          have z2 := Lib.hid (Zone.of (X := []) (w0 := w0.drew) h2' (by simp))
          have z3 := Lib.hid (Zone.of (X := []) (w0 := w0.drew) q1 (by simp))
          have z5 := Lib.hid (Zone.of (X := []) (w0 := w0.drew) hc2' (by simp))
          have l1 := Lib.hid (show w.heap.size < w0.drew.heap.size from lt_of_cell q2)
          have l2 := Lib.hid (show b < w0.drew.heap.size from lt_of_cell h2')
          have l5 := Lib.hid (show bb < w0.drew.heap.size from lt_of_cell hc2')
          clear hW hc2
          go_wp2_with fail
          refine wp_region_C [] rfl (by kernel_rfl) ?_
          have hS : Chg [] w0.drew w0.drew := Chg.refl _ _
          repeat
            (with_reducible show wpX _ _ _ _ _ _ _ _
             first
               | refine wpX_nil ?_
               | refine wpX_skip rfl ?_
               | refine wpX_mv rfl rfl (by kernel_rfl) (fun _ _ => ?_)
               | refine wpX_ldC rfl rfl rfl (by first | exact z1.out | exact z2.out | exact z3.out | exact z5.out) (by assumption) (fun _ _ => ?_)
               | refine wpX_ef' rfl rfl rfl (fun _ _ => ?_)
             go_wp2_with fail)
          refine (HI.out _).mono ?_; rintro _ _ ⟨rfl, hw⟩; have hS := Chg.then (by assumption) hw; clear hw
          have k1 := Chg.cells hS l1.out (by simp); have k2 := Chg.cells hS l2.out (by simp); have k5 := Chg.cells hS l5.out (by simp)
          go_wp2_with fail
          refine And.intro (by assumption : Chg _ _ _) ?_
          repeat
            (with_reducible show wpX _ _ _ _ _ _ _ _
             first
               | refine wpX_nil ?_
               | refine wpX_skip rfl ?_
               | refine wpX_mv rfl rfl (by kernel_rfl) (fun _ _ => ?_)
               | refine wpX_ldC rfl rfl rfl (by first | exact z1.out | exact z2.out | exact z3.out | exact z5.out) (by assumption) (fun _ _ => ?_)
               | refine wpX_ef' rfl rfl rfl (fun _ _ => ?_)
             go_wp2_with fail)
          refine (HI2.out _).mono ?_; rintro _ _ ⟨rfl, hw⟩; have hS := Chg.then (by assumption) hw; clear hw
          go_wp2_with fail
          refine And.intro (by assumption : Chg _ _ _) ?_
          repeat
            (with_reducible show wpX _ _ _ _ _ _ _ _
             first
               | refine wpX_nil ?_
               | refine wpX_skip rfl ?_
               | refine wpX_mv rfl rfl (by kernel_rfl) (fun _ _ => ?_)
               | refine wpX_ldC rfl rfl rfl (by first | exact z1.out | exact z2.out | exact z3.out | exact z5.out) (by assumption) (fun _ _ => ?_)
               | refine wpX_ef' rfl rfl rfl (fun _ _ => ?_)
             go_wp2_with fail)
          go_ret
          exact ⟨rfl, HW.out.drew.then hS⟩
    · rw [show (((6 : Nat) : Int)) = (6 : Int) from rfl, instOK_6]
      cases hi : inB xa o.vars.length
      all_goals
        have hin := fun w' => rbelow_any xa (o.vars.length : Int) w'
        rw [show (decide (0 ≤ xa) && decide (xa < (o.vars.length : Int))) = inB xa o.vars.length from rfl, hi] at hin
        have HI := Lib.hid hin; clear hin hi
        go_enter Tryz.func31, Tryz.ntmps31
        go_upto_region 1 with fail
        have hb0 := Blk.new w #[.int .i64 6, .int .i64 xa, .int .i64 xb] 49
        have hW : Chg [] w (w.alloc (.cells #[.int .i64 6, .int .i64 xa, .int .i64 xb] 49)) := (Chg.refl [] w).alloc _
        generalize hw0 : w.alloc (.cells #[.int .i64 6, .int .i64 xa, .int .i64 xb] 49) = w0 at hb0 hW ⊢
        have q0 := hb0.cell 0 _ rfl
        have q1 := hb0.cell 1 _ rfl
        have q2 := hb0.cell 2 _ rfl
        have h2' := hW.cellSome h2 (by simp)
        have h3' := hW.cellSome h3 (by simp)
        have h4' := hW.cellSome h4 (by simp)
        have h6' := hW.cellSome h6 (by simp)
        clear hw0 h2 h3 h4 h6
        have HW := Lib.hid hW
        have HB0 := Lib.hid hb0; clear hb0
        clear hW
        go_wp2_with fail
        refine (HI.out _).mono ?_; rintro _ w1 ⟨rfl, hw⟩
        have hb1 := HB0.out.kept hw (by simp)
        have k1 := hb1.cell 2 _ rfl
        have HW1 := Lib.hid hw; clear hw
        go_wp2_with fail
        go_ret
        first | rw [Bool.true_and] | rw [Bool.false_and]
        exact ⟨rfl, HW.out.then HW1.out⟩
    · rw [show (((7 : Nat) : Int)) = (7 : Int) from rfl, instOK_7]
      cases hm : (xb != -1)
      · have hN := there_minusM o ⟨7, xa, xb⟩ o.vars.length hm
        rw [hN]
        have HI := Lib.hid (fun w' => rbelow_any xa (o.vars.length : Int) w')
        clear hN
        go_enter Tryz.func31, Tryz.ntmps31
        go_upto_region 1 with fail
        have hb0 := Blk.new w #[.int .i64 7, .int .i64 xa, .int .i64 xb] 49
        have hW : Chg [] w (w.alloc (.cells #[.int .i64 7, .int .i64 xa, .int .i64 xb] 49)) := (Chg.refl [] w).alloc _
        generalize hw0 : w.alloc (.cells #[.int .i64 7, .int .i64 xa, .int .i64 xb] 49) = w0 at hb0 hW ⊢
        have q0 := hb0.cell 0 _ rfl
        have q1 := hb0.cell 1 _ rfl
        have q2 := hb0.cell 2 _ rfl
        have h2' := hW.cellSome h2 (by simp)
        have h3' := hW.cellSome h3 (by simp)
        have h4' := hW.cellSome h4 (by simp)
        have h6' := hW.cellSome h6 (by simp)
        clear hw0 h2 h3 h4 h6
        have HW := Lib.hid hW
        have HB0 := Lib.hid hb0; clear hb0
        clear hW
        go_wp2_with fail
        refine (HI.out _).mono ?_; rintro _ w1 ⟨rfl, hw⟩
        have HW1 := Lib.hid hw; clear hw
        go_wp2_with fail
        go_ret
        exact ⟨rfl, HW.out.then HW1.out⟩
      · have hin1 := fun w' => rbelow_any xb (o.uses.length : Int) w'
        cases hi : inB xb o.uses.length
        · have hi' : (decide (0 ≤ xb) && decide (xb < (o.uses.length : Int))) = false := hi
          simp only [hi'] at hin1
          have HI := Lib.hid hin1
          have hN := there_noM o ⟨7, xa, xb⟩ o.vars.length hm hi
          rw [hN]
          clear hin1 hi hi' hN
          go_enter Tryz.func31, Tryz.ntmps31
          go_upto_region 1 with fail
          have hb0 := Blk.new w #[.int .i64 7, .int .i64 xa, .int .i64 xb] 49
          have hW : Chg [] w (w.alloc (.cells #[.int .i64 7, .int .i64 xa, .int .i64 xb] 49)) := (Chg.refl [] w).alloc _
          generalize hw0 : w.alloc (.cells #[.int .i64 7, .int .i64 xa, .int .i64 xb] 49) = w0 at hb0 hW ⊢
          have q0 := hb0.cell 0 _ rfl
          have q1 := hb0.cell 1 _ rfl
          have q2 := hb0.cell 2 _ rfl
          have h2' := hW.cellSome h2 (by simp)
          have h3' := hW.cellSome h3 (by simp)
          have h4' := hW.cellSome h4 (by simp)
          have h6' := hW.cellSome h6 (by simp)
          clear hw0 h2 h3 h4 h6
          have HW := Lib.hid hW
          have HB0 := Lib.hid hb0; clear hb0
          have z1 := Lib.hid (Zone.of (X := []) (w0 := w0.drew) q2 (by simp))
          have z2 := Lib.hid (Zone.of (X := []) (w0 := w0.drew) h2' (by simp))
          clear hW
          go_wp2_with fail
          refine wp_region_C [] rfl (by kernel_rfl) ?_
          have hS : Chg [] w0.drew w0.drew := Chg.refl _ _
          repeat
            (with_reducible show wpX _ _ _ _ _ _ _ _
             first
               | refine wpX_nil ?_
               | refine wpX_skip rfl ?_
               | refine wpX_mv rfl rfl (by kernel_rfl) (fun _ _ => ?_)
               | refine wpX_ldC rfl rfl rfl (by first | exact z1.out | exact z2.out) (by assumption) (fun _ _ => ?_)
               | refine wpX_ef' rfl rfl rfl (fun _ _ => ?_)
             go_wp2_with fail)
          refine (HI.out _).mono ?_; rintro _ _ ⟨rfl, hw⟩; have hS := Chg.then (by assumption) hw; clear hw
          go_wp2_with fail
          refine And.intro (by assumption : Chg _ _ _) ?_
          repeat
            (with_reducible show wpX _ _ _ _ _ _ _ _
             first
               | refine wpX_nil ?_
               | refine wpX_skip rfl ?_
               | refine wpX_mv rfl rfl (by kernel_rfl) (fun _ _ => ?_)
               | refine wpX_ldC rfl rfl rfl (by first | exact z1.out | exact z2.out) (by assumption) (fun _ _ => ?_)
               | refine wpX_ef' rfl rfl rfl (fun _ _ => ?_)
             go_wp2_with fail)
          go_ret
          exact ⟨rfl, HW.out.drew.then hS⟩
        · have hi' : (decide (0 ≤ xb) && decide (xb < (o.uses.length : Int))) = true := hi
          simp only [hi'] at hin1
          have hj : 0 ≤ xb ∧ xb < (o.uses.length : Int) := by simpa using hi'
          obtain ⟨k, rfl⟩ : ∃ k : Nat, xb = k := ⟨xb.toNat, by omega⟩
          have hus : us.map (·.u) = o.uses := H.out.us
          have hul : us.length = o.uses.length := by rw [← hus, List.length_map]
          have hkl : k < us.length := by omega
          obtain ⟨m, hm2⟩ : ∃ m, us[k]? = some m := ⟨us[k], by simp [hkl]⟩
          have hxu : o.uses[k]? = some m.u := by rw [← hus, List.getElem?_map, hm2]; rfl
          have hmu : m.u.names.length ≤ 1099511627776 := (HS.out.uses.2 m.u (List.mem_of_getElem? hxu)).2.2.1
          have hin2 := fun w' => rbelow_any xa (m.u.names.length : Int) w'
          have hN := there_yesM o ⟨7, xa, (k : Int)⟩ o.vars.length k m.u hm rfl hxu
          have hat : At w ua (us.flatMap UseM.cells) := H.out.u
          obtain ⟨bb, boff, hua, hcell⟩ := hat (by rw [flat_len _ 3 (fun _ => rfl)]; omega)
          subst hua
          have hc2 : w.cell? ⟨bb, boff + k * 3 + 2, none⟩ = some (.slice m.at_ m.u.names.length m.cap) := by
            have h1 := flat_get UseM.cells 3 (fun _ => rfl) us k 2 m hm2 (by omega)
            have := hcell _ _ h1
            rw [← Nat.add_assoc] at this; exact this
          have hkr : k < o.uses.length := by omega
          rw [hN]
          have HI := Lib.hid hin1; have HI2 := Lib.hid hin2
          clear hin1 hin2 hi hi' hj hus hul hkl hm2 hxu hat hcell hN
          go_enter Tryz.func31, Tryz.ntmps31
          go_upto_region 1 with fail
          have hb0 := Blk.new w #[.int .i64 7, .int .i64 xa, .int .i64 (k : Int)] 49
          have hW : Chg [] w (w.alloc (.cells #[.int .i64 7, .int .i64 xa, .int .i64 (k : Int)] 49)) := (Chg.refl [] w).alloc _
          generalize hw0 : w.alloc (.cells #[.int .i64 7, .int .i64 xa, .int .i64 (k : Int)] 49) = w0 at hb0 hW ⊢
          have q0 := hb0.cell 0 _ rfl
          have q1 := hb0.cell 1 _ rfl
          have q2 := hb0.cell 2 _ rfl
          have h2' := hW.cellSome h2 (by simp)
          have h3' := hW.cellSome h3 (by simp)
          have h4' := hW.cellSome h4 (by simp)
          have h6' := hW.cellSome h6 (by simp)
          clear hw0 h2 h3 h4 h6
          have HW := Lib.hid hW
          have HB0 := Lib.hid hb0; clear hb0
          have hc2' := hW.cellSome hc2 (by simp)
          have z1 := Lib.hid (Zone.of (X := []) (w0 := w0.drew) q2 (by simp))
          have z2 := Lib.hid (Zone.of (X := []) (w0 := w0.drew) h2' (by simp))
          have z3 := Lib.hid (Zone.of (X := []) (w0 := w0.drew) q1 (by simp))
          have z5 := Lib.hid (Zone.of (X := []) (w0 := w0.drew) hc2' (by simp))
          have l1 := Lib.hid (show w.heap.size < w0.drew.heap.size from lt_of_cell q2)
          have l2 := Lib.hid (show b < w0.drew.heap.size from lt_of_cell h2')
          have l5 := Lib.hid (show bb < w0.drew.heap.size from lt_of_cell hc2')
          clear hW hc2
          go_wp2_with fail
          refine wp_region_C [] rfl (by kernel_rfl) ?_
          have hS : Chg [] w0.drew w0.drew := Chg.refl _ _
          repeat
            (with_reducible show wpX _ _ _ _ _ _ _ _
             first
               | refine wpX_nil ?_
               | refine wpX_skip rfl ?_
               | refine wpX_mv rfl rfl (by kernel_rfl) (fun _ _ => ?_)
               | refine wpX_ldC rfl rfl rfl (by first | exact z1.out | exact z2.out | exact z3.out | exact z5.out) (by assumption) (fun _ _ => ?_)
               | refine wpX_ef' rfl rfl rfl (fun _ _ => ?_)
             go_wp2_with fail)
          refine (HI.out _).mono ?_; rintro _ _ ⟨rfl, hw⟩; have hS := Chg.then (by assumption) hw; clear hw
          have k1 := Chg.cells hS l1.out (by simp); have k2 := Chg.cells hS l2.out (by simp); have k5 := Chg.cells hS l5.out (by simp)
          go_wp2_with fail
          refine And.intro (by assumption : Chg _ _ _) ?_
          repeat
            (with_reducible show wpX _ _ _ _ _ _ _ _
             first
               | refine wpX_nil ?_
               | refine wpX_skip rfl ?_
               | refine wpX_mv rfl rfl (by kernel_rfl) (fun _ _ => ?_)
               | refine wpX_ldC rfl rfl rfl (by first | exact z1.out | exact z2.out | exact z3.out | exact z5.out) (by assumption) (fun _ _ => ?_)
               | refine wpX_ef' rfl rfl rfl (fun _ _ => ?_)
             go_wp2_with fail)
          refine (HI2.out _).mono ?_; rintro _ _ ⟨rfl, hw⟩; have hS := Chg.then (by assumption) hw; clear hw
          go_wp2_with fail
          refine And.intro (by assumption : Chg _ _ _) ?_
          repeat
            (with_reducible show wpX _ _ _ _ _ _ _ _
             first
               | refine wpX_nil ?_
               | refine wpX_skip rfl ?_
               | refine wpX_mv rfl rfl (by kernel_rfl) (fun _ _ => ?_)
               | refine wpX_ldC rfl rfl rfl (by first | exact z1.out | exact z2.out | exact z3.out | exact z5.out) (by assumption) (fun _ _ => ?_)
               | refine wpX_ef' rfl rfl rfl (fun _ _ => ?_)
             go_wp2_with fail)
          go_ret
          exact ⟨rfl, HW.out.drew.then hS⟩
    · rw [show (((8 : Nat) : Int)) = (8 : Int) from rfl, instOK_8]
      cases hi : inB xa o.vars.length
      all_goals
        have hin := fun w' => rbelow_any xa (o.vars.length : Int) w'
        rw [show (decide (0 ≤ xa) && decide (xa < (o.vars.length : Int))) = inB xa o.vars.length from rfl, hi] at hin
        have HI := Lib.hid hin; clear hin hi
        go_enter Tryz.func31, Tryz.ntmps31
        go_upto_region 1 with fail
        have hb0 := Blk.new w #[.int .i64 8, .int .i64 xa, .int .i64 xb] 49
        have hW : Chg [] w (w.alloc (.cells #[.int .i64 8, .int .i64 xa, .int .i64 xb] 49)) := (Chg.refl [] w).alloc _
        generalize hw0 : w.alloc (.cells #[.int .i64 8, .int .i64 xa, .int .i64 xb] 49) = w0 at hb0 hW ⊢
        have q0 := hb0.cell 0 _ rfl
        have q1 := hb0.cell 1 _ rfl
        have q2 := hb0.cell 2 _ rfl
        have h2' := hW.cellSome h2 (by simp)
        have h3' := hW.cellSome h3 (by simp)
        have h4' := hW.cellSome h4 (by simp)
        have h6' := hW.cellSome h6 (by simp)
        clear hw0 h2 h3 h4 h6
        have HW := Lib.hid hW
        have HB0 := Lib.hid hb0; clear hb0
        clear hW
        go_wp2_with fail
        refine (HI.out _).mono ?_; rintro _ w1 ⟨rfl, hw⟩
        have hb1 := HB0.out.kept hw (by simp)
        have k1 := hb1.cell 2 _ rfl
        have HW1 := Lib.hid hw; clear hw
        go_wp2_with fail
        go_ret
        first | rw [Bool.true_and] | rw [Bool.false_and]
        exact ⟨rfl, HW.out.then HW1.out⟩
    · rw [show (((9 : Nat) : Int)) = (9 : Int) from rfl, instOK_9]
      cases hi : inB xa 11
      all_goals
        have hin := fun w' => rbelow_any xa 11 w'
        rw [show (decide (0 ≤ xa) && decide (xa < 11)) = inB xa 11 from rfl, hi] at hin
        have HI := Lib.hid hin; clear hin hi
        go_enter Tryz.func31, Tryz.ntmps31
        go_upto_region 1 with fail
        have hb0 := Blk.new w #[.int .i64 9, .int .i64 xa, .int .i64 xb] 49
        have hW : Chg [] w (w.alloc (.cells #[.int .i64 9, .int .i64 xa, .int .i64 xb] 49)) := (Chg.refl [] w).alloc _
        generalize hw0 : w.alloc (.cells #[.int .i64 9, .int .i64 xa, .int .i64 xb] 49) = w0 at hb0 hW ⊢
        have q0 := hb0.cell 0 _ rfl
        have q1 := hb0.cell 1 _ rfl
        have q2 := hb0.cell 2 _ rfl
        have h2' := hW.cellSome h2 (by simp)
        have h3' := hW.cellSome h3 (by simp)
        have h4' := hW.cellSome h4 (by simp)
        have h6' := hW.cellSome h6 (by simp)
        clear hw0 h2 h3 h4 h6
        have HW := Lib.hid hW
        have HB0 := Lib.hid hb0; clear hb0
        clear hW
        go_wp2_with fail
        refine (HI.out _).mono ?_; rintro _ w1 ⟨rfl, hw⟩
        have hb1 := HB0.out.kept hw (by simp)
        have k1 := hb1.cell 2 _ rfl
        have HW1 := Lib.hid hw; clear hw
        go_wp2_with fail
        go_ret
        first | rw [Bool.true_and] | rw [Bool.false_and]
        exact ⟨rfl, HW.out.then HW1.out⟩
    · rw [show (((10 : Nat) : Int)) = (10 : Int) from rfl, instOK_10]
      cases hi : (xa == 0)
      all_goals
        have hin := fun w' => rbelow_any xa 1 w'
        rw [below1, hi] at hin
        have HI := Lib.hid hin; clear hin hi
        go_enter Tryz.func31, Tryz.ntmps31
        go_upto_region 1 with fail
        have hb0 := Blk.new w #[.int .i64 10, .int .i64 xa, .int .i64 xb] 49
        have hW : Chg [] w (w.alloc (.cells #[.int .i64 10, .int .i64 xa, .int .i64 xb] 49)) := (Chg.refl [] w).alloc _
        generalize hw0 : w.alloc (.cells #[.int .i64 10, .int .i64 xa, .int .i64 xb] 49) = w0 at hb0 hW ⊢
        have q0 := hb0.cell 0 _ rfl
        have q1 := hb0.cell 1 _ rfl
        have q2 := hb0.cell 2 _ rfl
        have h2' := hW.cellSome h2 (by simp)
        have h3' := hW.cellSome h3 (by simp)
        have h4' := hW.cellSome h4 (by simp)
        have h6' := hW.cellSome h6 (by simp)
        clear hw0 h2 h3 h4 h6
        have HW := Lib.hid hW
        have HB0 := Lib.hid hb0; clear hb0
        clear hW
        go_wp2_with fail
        refine (HI.out _).mono ?_; rintro _ w1 ⟨rfl, hw⟩
        have hb1 := HB0.out.kept hw (by simp)
        have k1 := hb1.cell 2 _ rfl
        have HW1 := Lib.hid hw; clear hw
        go_wp2_with fail
        go_ret
        first | rw [Bool.true_and] | rw [Bool.false_and]
        exact ⟨rfl, HW.out.then HW1.out⟩
    · rw [show (((11 : Nat) : Int)) = (11 : Int) from rfl, instOK_11]
      cases hi : (xa == 0)
      all_goals
        have hin := fun w' => rbelow_any xa 1 w'
        rw [below1, hi] at hin
        have HI := Lib.hid hin; clear hin hi
        go_enter Tryz.func31, Tryz.ntmps31
        go_upto_region 1 with fail
        have hb0 := Blk.new w #[.int .i64 11, .int .i64 xa, .int .i64 xb] 49
        have hW : Chg [] w (w.alloc (.cells #[.int .i64 11, .int .i64 xa, .int .i64 xb] 49)) := (Chg.refl [] w).alloc _
        generalize hw0 : w.alloc (.cells #[.int .i64 11, .int .i64 xa, .int .i64 xb] 49) = w0 at hb0 hW ⊢
        have q0 := hb0.cell 0 _ rfl
        have q1 := hb0.cell 1 _ rfl
        have q2 := hb0.cell 2 _ rfl
        have h2' := hW.cellSome h2 (by simp)
        have h3' := hW.cellSome h3 (by simp)
        have h4' := hW.cellSome h4 (by simp)
        have h6' := hW.cellSome h6 (by simp)
        clear hw0 h2 h3 h4 h6
        have HW := Lib.hid hW
        have HB0 := Lib.hid hb0; clear hb0
        clear hW
        go_wp2_with fail
        refine (HI.out _).mono ?_; rintro _ w1 ⟨rfl, hw⟩
        have hb1 := HB0.out.kept hw (by simp)
        have k1 := hb1.cell 2 _ rfl
        have HW1 := Lib.hid hw; clear hw
        go_wp2_with fail
        go_ret
        first | rw [Bool.true_and] | rw [Bool.false_and]
        exact ⟨rfl, HW.out.then HW1.out⟩
    · rw [show (((12 : Nat) : Int)) = (12 : Int) from rfl, instOK_12]
      cases hi : inB xa o.code.length
      all_goals
        have hin := fun w' => rbelow_any xa (o.code.length : Int) w'
        rw [show (decide (0 ≤ xa) && decide (xa < (o.code.length : Int))) = inB xa o.code.length from rfl, hi] at hin
        have HI := Lib.hid hin; clear hin hi
        go_enter Tryz.func31, Tryz.ntmps31
        go_upto_region 1 with fail
        have hb0 := Blk.new w #[.int .i64 12, .int .i64 xa, .int .i64 xb] 49
        have hW : Chg [] w (w.alloc (.cells #[.int .i64 12, .int .i64 xa, .int .i64 xb] 49)) := (Chg.refl [] w).alloc _
        generalize hw0 : w.alloc (.cells #[.int .i64 12, .int .i64 xa, .int .i64 xb] 49) = w0 at hb0 hW ⊢
        have q0 := hb0.cell 0 _ rfl
        have q1 := hb0.cell 1 _ rfl
        have q2 := hb0.cell 2 _ rfl
        have h2' := hW.cellSome h2 (by simp)
        have h3' := hW.cellSome h3 (by simp)
        have h4' := hW.cellSome h4 (by simp)
        have h6' := hW.cellSome h6 (by simp)
        clear hw0 h2 h3 h4 h6
        have HW := Lib.hid hW
        have HB0 := Lib.hid hb0; clear hb0
        clear hW
        go_wp2_with fail
        refine (HI.out _).mono ?_; rintro _ w1 ⟨rfl, hw⟩
        have hb1 := HB0.out.kept hw (by simp)
        have k1 := hb1.cell 2 _ rfl
        have HW1 := Lib.hid hw; clear hw
        go_wp2_with fail
        go_ret
        first | rw [Bool.true_and] | rw [Bool.false_and]
        exact ⟨rfl, HW.out.then HW1.out⟩
    · rw [show (((13 : Nat) : Int)) = (13 : Int) from rfl, instOK_13]
      cases hi : inB xa o.code.length
      all_goals
        have hin := fun w' => rbelow_any xa (o.code.length : Int) w'
        rw [show (decide (0 ≤ xa) && decide (xa < (o.code.length : Int))) = inB xa o.code.length from rfl, hi] at hin
        have HI := Lib.hid hin; clear hin hi
        go_enter Tryz.func31, Tryz.ntmps31
        go_upto_region 1 with fail
        have hb0 := Blk.new w #[.int .i64 13, .int .i64 xa, .int .i64 xb] 49
        have hW : Chg [] w (w.alloc (.cells #[.int .i64 13, .int .i64 xa, .int .i64 xb] 49)) := (Chg.refl [] w).alloc _
        generalize hw0 : w.alloc (.cells #[.int .i64 13, .int .i64 xa, .int .i64 xb] 49) = w0 at hb0 hW ⊢
        have q0 := hb0.cell 0 _ rfl
        have q1 := hb0.cell 1 _ rfl
        have q2 := hb0.cell 2 _ rfl
        have h2' := hW.cellSome h2 (by simp)
        have h3' := hW.cellSome h3 (by simp)
        have h4' := hW.cellSome h4 (by simp)
        have h6' := hW.cellSome h6 (by simp)
        clear hw0 h2 h3 h4 h6
        have HW := Lib.hid hW
        have HB0 := Lib.hid hb0; clear hb0
        clear hW
        go_wp2_with fail
        refine (HI.out _).mono ?_; rintro _ w1 ⟨rfl, hw⟩
        have hb1 := HB0.out.kept hw (by simp)
        have k1 := hb1.cell 2 _ rfl
        have HW1 := Lib.hid hw; clear hw
        go_wp2_with fail
        go_ret
        first | rw [Bool.true_and] | rw [Bool.false_and]
        exact ⟨rfl, HW.out.then HW1.out⟩
    · rw [show (((14 : Nat) : Int)) = (14 : Int) from rfl, instOK_14]
      cases hm : (xb != -1)
      · have hN := there_minusM o ⟨14, xa, xb⟩ o.procs.length hm
        rw [hN]
        have HI := Lib.hid (fun w' => rbelow_any xa (o.procs.length : Int) w')
        clear hN
        go_enter Tryz.func31, Tryz.ntmps31
        go_upto_region 1 with fail
        have hb0 := Blk.new w #[.int .i64 14, .int .i64 xa, .int .i64 xb] 49
        have hW : Chg [] w (w.alloc (.cells #[.int .i64 14, .int .i64 xa, .int .i64 xb] 49)) := (Chg.refl [] w).alloc _
        generalize hw0 : w.alloc (.cells #[.int .i64 14, .int .i64 xa, .int .i64 xb] 49) = w0 at hb0 hW ⊢
        have q0 := hb0.cell 0 _ rfl
        have q1 := hb0.cell 1 _ rfl
        have q2 := hb0.cell 2 _ rfl
        have h2' := hW.cellSome h2 (by simp)
        have h3' := hW.cellSome h3 (by simp)
        have h4' := hW.cellSome h4 (by simp)
        have h6' := hW.cellSome h6 (by simp)
        clear hw0 h2 h3 h4 h6
        have HW := Lib.hid hW
        have HB0 := Lib.hid hb0; clear hb0
        clear hW
        go_wp2_with fail
        refine (HI.out _).mono ?_; rintro _ w1 ⟨rfl, hw⟩
        have HW1 := Lib.hid hw; clear hw
        go_wp2_with fail
        go_ret
        exact ⟨rfl, HW.out.then HW1.out⟩
      · have hin1 := fun w' => rbelow_any xb (o.uses.length : Int) w'
        cases hi : inB xb o.uses.length
        · have hi' : (decide (0 ≤ xb) && decide (xb < (o.uses.length : Int))) = false := hi
          simp only [hi'] at hin1
          have HI := Lib.hid hin1
          have hN := there_noM o ⟨14, xa, xb⟩ o.procs.length hm hi
          rw [hN]
          clear hin1 hi hi' hN
          go_enter Tryz.func31, Tryz.ntmps31
          go_upto_region 1 with fail
          have hb0 := Blk.new w #[.int .i64 14, .int .i64 xa, .int .i64 xb] 49
          have hW : Chg [] w (w.alloc (.cells #[.int .i64 14, .int .i64 xa, .int .i64 xb] 49)) := (Chg.refl [] w).alloc _
          generalize hw0 : w.alloc (.cells #[.int .i64 14, .int .i64 xa, .int .i64 xb] 49) = w0 at hb0 hW ⊢
          have q0 := hb0.cell 0 _ rfl
          have q1 := hb0.cell 1 _ rfl
          have q2 := hb0.cell 2 _ rfl
          have h2' := hW.cellSome h2 (by simp)
          have h3' := hW.cellSome h3 (by simp)
          have h4' := hW.cellSome h4 (by simp)
          have h6' := hW.cellSome h6 (by simp)
          clear hw0 h2 h3 h4 h6
          have HW := Lib.hid hW
          have HB0 := Lib.hid hb0; clear hb0
          have z1 := Lib.hid (Zone.of (X := []) (w0 := w0.drew) q2 (by simp))
          have z2 := Lib.hid (Zone.of (X := []) (w0 := w0.drew) h2' (by simp))
          clear hW
          go_wp2_with fail
          refine wp_region_C [] rfl (by kernel_rfl) ?_
          have hS : Chg [] w0.drew w0.drew := Chg.refl _ _
          repeat
            (with_reducible show wpX _ _ _ _ _ _ _ _
             first
               | refine wpX_nil ?_
               | refine wpX_skip rfl ?_
               | refine wpX_mv rfl rfl (by kernel_rfl) (fun _ _ => ?_)
               | refine wpX_ldC rfl rfl rfl (by first | exact z1.out | exact z2.out) (by assumption) (fun _ _ => ?_)
               | refine wpX_ef' rfl rfl rfl (fun _ _ => ?_)
             go_wp2_with fail)
          refine (HI.out _).mono ?_; rintro _ _ ⟨rfl, hw⟩; have hS := Chg.then (by assumption) hw; clear hw
          go_wp2_with fail
          refine And.intro (by assumption : Chg _ _ _) ?_
          repeat
            (with_reducible show wpX _ _ _ _ _ _ _ _
             first
               | refine wpX_nil ?_
               | refine wpX_skip rfl ?_
               | refine wpX_mv rfl rfl (by kernel_rfl) (fun _ _ => ?_)
               | refine wpX_ldC rfl rfl rfl (by first | exact z1.out | exact z2.out) (by assumption) (fun _ _ => ?_)
               | refine wpX_ef' rfl rfl rfl (fun _ _ => ?_)
             go_wp2_with fail)
          go_ret
          exact ⟨rfl, HW.out.drew.then hS⟩
        · have hi' : (decide (0 ≤ xb) && decide (xb < (o.uses.length : Int))) = true := hi
          simp only [hi'] at hin1
          have hj : 0 ≤ xb ∧ xb < (o.uses.length : Int) := by simpa using hi'
          obtain ⟨k, rfl⟩ : ∃ k : Nat, xb = k := ⟨xb.toNat, by omega⟩
          have hus : us.map (·.u) = o.uses := H.out.us
          have hul : us.length = o.uses.length := by rw [← hus, List.length_map]
          have hkl : k < us.length := by omega
          obtain ⟨m, hm2⟩ : ∃ m, us[k]? = some m := ⟨us[k], by simp [hkl]⟩
          have hxu : o.uses[k]? = some m.u := by rw [← hus, List.getElem?_map, hm2]; rfl
          have hmu : m.u.names.length ≤ 1099511627776 := (HS.out.uses.2 m.u (List.mem_of_getElem? hxu)).2.2.1
          have hin2 := fun w' => rbelow_any xa (m.u.names.length : Int) w'
          have hN := there_yesM o ⟨14, xa, (k : Int)⟩ o.procs.length k m.u hm rfl hxu
          have hat : At w ua (us.flatMap UseM.cells) := H.out.u
          obtain ⟨bb, boff, hua, hcell⟩ := hat (by rw [flat_len _ 3 (fun _ => rfl)]; omega)
          subst hua
          have hc2 : w.cell? ⟨bb, boff + k * 3 + 2, none⟩ = some (.slice m.at_ m.u.names.length m.cap) := by
            have h1 := flat_get UseM.cells 3 (fun _ => rfl) us k 2 m hm2 (by omega)
            have := hcell _ _ h1
            rw [← Nat.add_assoc] at this; exact this
          have hkr : k < o.uses.length := by omega
          rw [hN]
          have HI := Lib.hid hin1; have HI2 := Lib.hid hin2
          clear hin1 hin2 hi hi' hj hus hul hkl hm2 hxu hat hcell hN
          go_enter Tryz.func31, Tryz.ntmps31
          go_upto_region 1 with fail
          have hb0 := Blk.new w #[.int .i64 14, .int .i64 xa, .int .i64 (k : Int)] 49
          have hW : Chg [] w (w.alloc (.cells #[.int .i64 14, .int .i64 xa, .int .i64 (k : Int)] 49)) := (Chg.refl [] w).alloc _
          generalize hw0 : w.alloc (.cells #[.int .i64 14, .int .i64 xa, .int .i64 (k : Int)] 49) = w0 at hb0 hW ⊢
          have q0 := hb0.cell 0 _ rfl
          have q1 := hb0.cell 1 _ rfl
          have q2 := hb0.cell 2 _ rfl
          have h2' := hW.cellSome h2 (by simp)
          have h3' := hW.cellSome h3 (by simp)
          have h4' := hW.cellSome h4 (by simp)
          have h6' := hW.cellSome h6 (by simp)
          clear hw0 h2 h3 h4 h6
          have HW := Lib.hid hW
          have HB0 := Lib.hid hb0; clear hb0
          have hc2' := hW.cellSome hc2 (by simp)
          have z1 := Lib.hid (Zone.of (X := []) (w0 := w0.drew) q2 (by simp))
          have z2 := Lib.hid (Zone.of (X := []) (w0 := w0.drew) h2' (by simp))
          have z3 := Lib.hid (Zone.of (X := []) (w0 := w0.drew) q1 (by simp))
          have z5 := Lib.hid (Zone.of (X := []) (w0 := w0.drew) hc2' (by simp))
          have l1 := Lib.hid (show w.heap.size < w0.drew.heap.size from lt_of_cell q2)
          have l2 := Lib.hid (show b < w0.drew.heap.size from lt_of_cell h2')
          have l5 := Lib.hid (show bb < w0.drew.heap.size from lt_of_cell hc2')
          clear hW hc2
          go_wp2_with fail
          refine wp_region_C [] rfl (by kernel_rfl) ?_
          have hS : Chg [] w0.drew w0.drew := Chg.refl _ _
          repeat
            (with_reducible show wpX _ _ _ _ _ _ _ _
             first
               | refine wpX_nil ?_
               | refine wpX_skip rfl ?_
               | refine wpX_mv rfl rfl (by kernel_rfl) (fun _ _ => ?_)
               | refine wpX_ldC rfl rfl rfl (by first | exact z1.out | exact z2.out | exact z3.out | exact z5.out) (by assumption) (fun _ _ => ?_)
               | refine wpX_ef' rfl rfl rfl (fun _ _ => ?_)
             go_wp2_with fail)
          refine (HI.out _).mono ?_; rintro _ _ ⟨rfl, hw⟩; have hS := Chg.then (by assumption) hw; clear hw
          have k1 := Chg.cells hS l1.out (by simp); have k2 := Chg.cells hS l2.out (by simp); have k5 := Chg.cells hS l5.out (by simp)
          go_wp2_with fail
          refine And.intro (by assumption : Chg _ _ _) ?_
          repeat
            (with_reducible show wpX _ _ _ _ _ _ _ _
             first
               | refine wpX_nil ?_
               | refine wpX_skip rfl ?_
               | refine wpX_mv rfl rfl (by kernel_rfl) (fun _ _ => ?_)
               | refine wpX_ldC rfl rfl rfl (by first | exact z1.out | exact z2.out | exact z3.out | exact z5.out) (by assumption) (fun _ _ => ?_)
               | refine wpX_ef' rfl rfl rfl (fun _ _ => ?_)
             go_wp2_with fail)
          refine (HI2.out _).mono ?_; rintro _ _ ⟨rfl, hw⟩; have hS := Chg.then (by assumption) hw; clear hw
          go_wp2_with fail
          refine And.intro (by assumption : Chg _ _ _) ?_
          repeat
            (with_reducible show wpX _ _ _ _ _ _ _ _
             first
               | refine wpX_nil ?_
               | refine wpX_skip rfl ?_
               | refine wpX_mv rfl rfl (by kernel_rfl) (fun _ _ => ?_)
               | refine wpX_ldC rfl rfl rfl (by first | exact z1.out | exact z2.out | exact z3.out | exact z5.out) (by assumption) (fun _ _ => ?_)
               | refine wpX_ef' rfl rfl rfl (fun _ _ => ?_)
             go_wp2_with fail)
          go_ret
          exact ⟨rfl, HW.out.drew.then hS⟩
    · rw [show (((15 : Nat) : Int)) = (15 : Int) from rfl, instOK_15]
      cases hi : (xa == 0)
      all_goals
        have hin := fun w' => rbelow_any xa 1 w'
        rw [below1, hi] at hin
        have HI := Lib.hid hin; clear hin hi
        go_enter Tryz.func31, Tryz.ntmps31
        go_upto_region 1 with fail
        have hb0 := Blk.new w #[.int .i64 15, .int .i64 xa, .int .i64 xb] 49
        have hW : Chg [] w (w.alloc (.cells #[.int .i64 15, .int .i64 xa, .int .i64 xb] 49)) := (Chg.refl [] w).alloc _
        generalize hw0 : w.alloc (.cells #[.int .i64 15, .int .i64 xa, .int .i64 xb] 49) = w0 at hb0 hW ⊢
        have q0 := hb0.cell 0 _ rfl
        have q1 := hb0.cell 1 _ rfl
        have q2 := hb0.cell 2 _ rfl
        have h2' := hW.cellSome h2 (by simp)
        have h3' := hW.cellSome h3 (by simp)
        have h4' := hW.cellSome h4 (by simp)
        have h6' := hW.cellSome h6 (by simp)
        clear hw0 h2 h3 h4 h6
        have HW := Lib.hid hW
        have HB0 := Lib.hid hb0; clear hb0
        clear hW
        go_wp2_with fail
        refine (HI.out _).mono ?_; rintro _ w1 ⟨rfl, hw⟩
        have hb1 := HB0.out.kept hw (by simp)
        have k1 := hb1.cell 2 _ rfl
        have HW1 := Lib.hid hw; clear hw
        go_wp2_with fail
        go_ret
        first | rw [Bool.true_and] | rw [Bool.false_and]
        exact ⟨rfl, HW.out.then HW1.out⟩
    · rw [show (((16 : Nat) : Int)) = (16 : Int) from rfl, instOK_16]
      cases hi : (xa == 0)
      all_goals
        have hin := fun w' => rbelow_any xa 1 w'
        rw [below1, hi] at hin
        have HI := Lib.hid hin; clear hin hi
        go_enter Tryz.func31, Tryz.ntmps31
        go_upto_region 1 with fail
        have hb0 := Blk.new w #[.int .i64 16, .int .i64 xa, .int .i64 xb] 49
        have hW : Chg [] w (w.alloc (.cells #[.int .i64 16, .int .i64 xa, .int .i64 xb] 49)) := (Chg.refl [] w).alloc _
        generalize hw0 : w.alloc (.cells #[.int .i64 16, .int .i64 xa, .int .i64 xb] 49) = w0 at hb0 hW ⊢
        have q0 := hb0.cell 0 _ rfl
        have q1 := hb0.cell 1 _ rfl
        have q2 := hb0.cell 2 _ rfl
        have h2' := hW.cellSome h2 (by simp)
        have h3' := hW.cellSome h3 (by simp)
        have h4' := hW.cellSome h4 (by simp)
        have h6' := hW.cellSome h6 (by simp)
        clear hw0 h2 h3 h4 h6
        have HW := Lib.hid hW
        have HB0 := Lib.hid hb0; clear hb0
        clear hW
        go_wp2_with fail
        refine (HI.out _).mono ?_; rintro _ w1 ⟨rfl, hw⟩
        have hb1 := HB0.out.kept hw (by simp)
        have k1 := hb1.cell 2 _ rfl
        have HW1 := Lib.hid hw; clear hw
        go_wp2_with fail
        go_ret
        first | rw [Bool.true_and] | rw [Bool.false_and]
        exact ⟨rfl, HW.out.then HW1.out⟩
    · rw [show (((17 : Nat) : Int)) = (17 : Int) from rfl, instOK_17]
      cases hi : (xa == 0)
      all_goals
        have hin := fun w' => rbelow_any xa 1 w'
        rw [below1, hi] at hin
        have HI := Lib.hid hin; clear hin hi
        go_enter Tryz.func31, Tryz.ntmps31
        go_upto_region 1 with fail
        have hb0 := Blk.new w #[.int .i64 17, .int .i64 xa, .int .i64 xb] 49
        have hW : Chg [] w (w.alloc (.cells #[.int .i64 17, .int .i64 xa, .int .i64 xb] 49)) := (Chg.refl [] w).alloc _
        generalize hw0 : w.alloc (.cells #[.int .i64 17, .int .i64 xa, .int .i64 xb] 49) = w0 at hb0 hW ⊢
        have q0 := hb0.cell 0 _ rfl
        have q1 := hb0.cell 1 _ rfl
        have q2 := hb0.cell 2 _ rfl
        have h2' := hW.cellSome h2 (by simp)
        have h3' := hW.cellSome h3 (by simp)
        have h4' := hW.cellSome h4 (by simp)
        have h6' := hW.cellSome h6 (by simp)
        clear hw0 h2 h3 h4 h6
        have HW := Lib.hid hW
        have HB0 := Lib.hid hb0; clear hb0
        clear hW
        go_wp2_with fail
        refine (HI.out _).mono ?_; rintro _ w1 ⟨rfl, hw⟩
        have hb1 := HB0.out.kept hw (by simp)
        have k1 := hb1.cell 2 _ rfl
        have HW1 := Lib.hid hw; clear hw
        go_wp2_with fail
        go_ret
        first | rw [Bool.true_and] | rw [Bool.false_and]
        exact ⟨rfl, HW.out.then HW1.out⟩
  · rw [instOK_none o op xa xb (fun n h1 h2 he => hop ⟨n, h1, h2, he⟩)]
    have n1 : (op == 1) = false := beq_eq_false_iff_ne.2 (fun e => hop ⟨1, by omega, by omega, e⟩)
    have n2 : (op == 2) = false := beq_eq_false_iff_ne.2 (fun e => hop ⟨2, by omega, by omega, e⟩)
    have n3 : (op == 3) = false := beq_eq_false_iff_ne.2 (fun e => hop ⟨3, by omega, by omega, e⟩)
    have n4 : (op == 4) = false := beq_eq_false_iff_ne.2 (fun e => hop ⟨4, by omega, by omega, e⟩)
    have n5 : (op == 5) = false := beq_eq_false_iff_ne.2 (fun e => hop ⟨5, by omega, by omega, e⟩)
    have n6 : (op == 6) = false := beq_eq_false_iff_ne.2 (fun e => hop ⟨6, by omega, by omega, e⟩)
    have n7 : (op == 7) = false := beq_eq_false_iff_ne.2 (fun e => hop ⟨7, by omega, by omega, e⟩)
    have n8 : (op == 8) = false := beq_eq_false_iff_ne.2 (fun e => hop ⟨8, by omega, by omega, e⟩)
    have n9 : (op == 9) = false := beq_eq_false_iff_ne.2 (fun e => hop ⟨9, by omega, by omega, e⟩)
    have n10 : (op == 10) = false := beq_eq_false_iff_ne.2 (fun e => hop ⟨10, by omega, by omega, e⟩)
    have n11 : (op == 11) = false := beq_eq_false_iff_ne.2 (fun e => hop ⟨11, by omega, by omega, e⟩)
    have n12 : (op == 12) = false := beq_eq_false_iff_ne.2 (fun e => hop ⟨12, by omega, by omega, e⟩)
    have n13 : (op == 13) = false := beq_eq_false_iff_ne.2 (fun e => hop ⟨13, by omega, by omega, e⟩)
    have n14 : (op == 14) = false := beq_eq_false_iff_ne.2 (fun e => hop ⟨14, by omega, by omega, e⟩)
    have n15 : (op == 15) = false := beq_eq_false_iff_ne.2 (fun e => hop ⟨15, by omega, by omega, e⟩)
    have n16 : (op == 16) = false := beq_eq_false_iff_ne.2 (fun e => hop ⟨16, by omega, by omega, e⟩)
    have n17 : (op == 17) = false := beq_eq_false_iff_ne.2 (fun e => hop ⟨17, by omega, by omega, e⟩)
    have hin := fun w' => rbelow_any xa 0 w'
    rw [below0] at hin
    have HI := Lib.hid hin; clear hin hop
    go_enter Tryz.func31, Tryz.ntmps31
    go_upto_region 1 with fail
    have hb0 := Blk.new w #[.int .i64 op, .int .i64 xa, .int .i64 xb] 49
    have hW : Chg [] w (w.alloc (.cells #[.int .i64 op, .int .i64 xa, .int .i64 xb] 49)) := (Chg.refl [] w).alloc _
    generalize hw0 : w.alloc (.cells #[.int .i64 op, .int .i64 xa, .int .i64 xb] 49) = w0 at hb0 hW ⊢
    have q0 := hb0.cell 0 _ rfl
    have q1 := hb0.cell 1 _ rfl
    have q2 := hb0.cell 2 _ rfl
    have h2' := hW.cellSome h2 (by simp)
    have h3' := hW.cellSome h3 (by simp)
    have h4' := hW.cellSome h4 (by simp)
    have h6' := hW.cellSome h6 (by simp)
    clear hw0 h2 h3 h4 h6
    have HW := Lib.hid hW
    have HB0 := Lib.hid hb0; clear hb0
    clear hW
    go_wp2_with fail
    refine (HI.out _).mono ?_; rintro _ w1 ⟨rfl, hw⟩
    have HW1 := Lib.hid hw; clear hw
    go_wp2_with fail
    go_ret
    exact ⟨rfl, HW.out.then HW1.out⟩
end Go.Proofs.YtjgfclhempjinaaGreatDoor
