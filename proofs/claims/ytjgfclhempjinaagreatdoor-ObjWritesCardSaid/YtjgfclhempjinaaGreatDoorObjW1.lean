/- obj.number, text, texts, flag: what they append. -/
import Derived.Test.YtjgfclhempjinaaGreatDoorProg
import Derived.Test.YtjgfclhempjinaaGreatDoorObjPure
namespace Go.Proofs.YtjgfclhempjinaaGreatDoor
open Go Go.RowKit Go.Mq Go.Mq.Obj

theorem infoU8 : (Tryz.prog.info? 5).map (fun i => (i.zero, i.size, i.bytes)) = some (some (.int .u8 0), 1, 1) := by kernel_rfl

/-- What a call that appends bytes leaves. -/
def Wrote (w : World) (v : Value) (ys : List UInt8) (e : Ending) (w' : World) : Prop :=
  ∃ v', e = .returned v' ∧ w'.ownsRow 0 5 1 v' ys.length (bcells ys) ∧ Chg (blk v) w w' ∧ Moved w v v'

theorem chg_app {v v' : Value} {w wr w1 : World} {o : Obj} (hc : Chg (blk v) w wr) (hm : Moved w v v') (h : Chg (blk v') (wr.alloc o) w1) : Chg (blk v) w w1 :=
  ((hc.alloc o).trans h (fun x hx => hm x hx))

theorem mov_app {v v' v2 : Value} {w wr : World} {o : Obj} (hc : Chg (blk v) w wr) (hm : Moved w v v') (h : Moved (wr.alloc o) v' v2) : Moved w v v2 :=
  hm.trans (hc.alloc o) h

theorem num_end {v u0 v' : Value} {xs ys : List UInt8} {w wr w' : World} {n : Int} {m f : Nat} {o : Obj} (hlt : m < 128) (HE : ys ++ vint f m = xs ++ encN n)
    (HO' : w'.ownsRow 0 5 1 v' (ys.length + 1) (bcells ys ++ [Value.int IntKind.u8 (m : Int)])) (HC : Chg (blk v) w wr) (HM : Moved w v u0)
    (HC' : Chg (blk u0) (wr.alloc o) w') (HM' : Moved (wr.alloc o) u0 v') : Wrote w v (xs ++ encN n) (.returned v') w' := by
  refine ⟨v', rfl, ?_, chg_app HC HM HC', mov_app HC HM HM'⟩
  rw [← HE, vint_small hlt]
  have e : bcells ys ++ [Value.int IntKind.u8 (m : Int)] = bcells (ys ++ [UInt8.ofNat m]) := by
    simp only [bcells, List.map_append, List.map_cons, List.map_nil]
    simp
    omega
  rw [e] at HO'
  simpa using HO'

theorem num_step {v u0 v' : Value} {xs ys : List UInt8} {w wr w' : World} {n : Int} {m f : Nat} {o : Obj} (hlt : ¬ m < 128) (hf : f ≤ 9) (hl : ys.length + f ≤ xs.length + 9) (HB : m < 128 ^ (f + 1)) (HE : ys ++ vint f m = xs ++ encN n)
    (HO' : w'.ownsRow 0 5 1 v' (ys.length + 1) (bcells ys ++ [Value.int IntKind.u8 (bits .or .u8 (IntKind.u8.wrap (m : Int)) 128)])) (HC : Chg (blk v) w wr) (HM : Moved w v u0)
    (HC' : Chg (blk u0) (wr.alloc o) w') (HM' : Moved (wr.alloc o) u0 v') :
    ∃ (m' f : Nat) (ys : List UInt8), Value.int .u64 ((m : Int) / 128) = .int .u64 m' ∧ m' < 128 ^ (f + 1) ∧ f ≤ 9 ∧ ys.length + f ≤ xs.length + 9 ∧ ys ++ vint f m' = xs ++ encN n ∧ w'.ownsRow 0 5 1 v' ys.length (bcells ys) ∧ Chg (blk v) w w' ∧ Moved w v v' := by
  obtain ⟨g, rfl⟩ : ∃ g, f = g + 1 := by
    cases f with
    | zero => simp at HB; omega
    | succ g => exact ⟨g, rfl⟩
  refine ⟨m / 128, g, ys ++ [UInt8.ofNat (m % 128 + 128)], by simp, ?_, by omega, by simp; omega, ?_, ?_, chg_app HC HM HC', mov_app HC HM HM'⟩
  · have : 128 ^ (g + 1 + 1) = 128 ^ (g + 1) * 128 := Nat.pow_succ ..
    omega
  · rw [← HE]
    have e : vint (g + 1) m = UInt8.ofNat (m % 128 + 128) :: vint g (m / 128) := by rw [vint, if_neg hlt]
    rw [e]
    simp
  · rw [more_byte] at HO'
    simpa [bcells] using HO'

set_option maxHeartbeats 1000000 in
set_option maxRecDepth 100000 in
theorem number_any (v : Value) (xs : List UInt8) (n : Int) (w : World) (h0 : -9223372036854775808 ≤ n) (h1 : n < 9223372036854775808) (hx : xs.length ≤ 1099511627776) (hown : w.ownsRow 0 5 1 v xs.length (bcells xs)) :
    Calls Tryz.prog 20 #[v, .int .i64 n] w (Wrote w v (xs ++ encN n)) := by
  have H := Lib.hid hown; clear hown
  have hz := zig_lt h0 h1
  go_enter Tryz.func20, Tryz.ntmps20
  by_cases hn : 0 ≤ n
  all_goals
    go_wp2_with fail
    first | rw [xor_pos hn h1] | rw [xor_neg (by omega) h0]
    have HZ := Lib.hid hz
    have HX := Lib.hid hx
    clear hz h0 h1 hx
    go_loopw [0, 5] (fun v' u wr => ∃ (m f : Nat) (ys : List UInt8), u = .int .u64 m ∧ m < 128 ^ (f + 1) ∧ f ≤ 9 ∧ ys.length + f ≤ xs.length + 9 ∧ ys ++ vint f m = xs ++ encN n ∧ wr.ownsRow 0 5 1 v' ys.length (bcells ys) ∧ Chg (blk v) w wr ∧ Moved w v v') (fun _ u _ => (intOf u).toNat)
    case atStart => exact ⟨zig n, 9, xs, rfl, HZ.out, Nat.le_refl _, by omega, rfl, H.out, Chg.refl _ _, Moved.refl _ _⟩
    case round =>
      obtain ⟨m, f, ys, rfl, hm, hf, hl, he, hown, hc, hmv⟩ := hrel
      have HE := Lib.hid he; clear he
      have HO := Lib.hid hown; clear hown
      have HC := Lib.hid hc; clear hc
      have HM := Lib.hid hmv; clear hmv
      have HB := Lib.hid hm; clear hm
      by_cases hlt : m < 128
      · go_wp2_with (at_builtin; refine wpL_append rfl _ _ 62 rfl 5 _ 1 1 infoU8 Tryz.underlying62 rfl (by decide) _ ys.length (bcells ys) rfl (owns_kept HO.out ((Chg.refl [] _).alloc _) (fun _ _ h => by cases h)) ⟨wr.heap.size, 0, none⟩ 1 1 [_] rfl rfl (cell_new1 _ _ _) (by simp [Value.oneCell']) ?_ ?_ ?_)
        · have := HX.out; omega
        · have := HX.out; unfold maxLen; omega
        · intro v' w' hown' hch' hmv'
          have HO' := Lib.hid hown'; clear hown'
          have HC' := Lib.hid hch'; clear hch'
          have HM' := Lib.hid hmv'; clear hmv'
          go_wp2
          go_ret
          exact num_end hlt HE.out HO'.out HC.out HM.out HC'.out HM'.out
      · go_wp2_with (at_builtin; refine wpL_append rfl _ _ 62 rfl 5 _ 1 1 infoU8 Tryz.underlying62 rfl (by decide) _ ys.length (bcells ys) rfl (owns_kept HO.out ((Chg.refl [] _).alloc _) (fun _ _ h => by cases h)) ⟨wr.heap.size, 0, none⟩ 1 1 [_] rfl rfl (cell_new1 _ _ _) (by simp [Value.oneCell']) ?_ ?_ ?_)
        · have := HX.out; omega
        · have := HX.out; unfold maxLen; omega
        · intro v' w' hown' hch' hmv'
          have HO' := Lib.hid hown'; clear hown'
          have HC' := Lib.hid hch'; clear hch'
          have HM' := Lib.hid hmv'; clear hmv'
          go_wp2
          go_roundw
          case rel => exact num_step hlt hf hl HB.out HE.out HO'.out HC.out HM.out HC'.out HM'.out
          case measure => simp [intOf]; omega

theorem Wrote.trans {v v1 : Value} {w w1 w2 : World} {ys zs : List UInt8} {e : Ending} (hc : Chg (blk v) w w1) (hm : Moved w v v1) (h : Wrote w1 v1 zs e w2) (hz : zs = ys) : Wrote w v ys e w2 := by
  subst hz
  obtain ⟨v2, rfl, h1, h2, h3⟩ := h
  exact ⟨v2, rfl, h1, hc.trans h2 (fun x hx => hm x hx), hm.trans hc h3⟩

set_option maxRecDepth 100000 in
theorem text_any (v : Value) (xs : List UInt8) (s : ByteArray) (w : World) (hx : xs.length + s.size ≤ 1099511627000) (hown : w.ownsRow 0 5 1 v xs.length (bcells xs)) :
    Calls Tryz.prog 19 #[v, .string s] w (Wrote w v (xs ++ encT s)) := by
  have hN := number_any v xs s.size w (by omega) (by omega) (by omega) hown
  have HN := Lib.hid hN
  have HX := Lib.hid hx
  clear hown hN hx
  go_enter Tryz.func19, Tryz.ntmps19
  go_wp2_with fail
  refine HN.out.mono ?_
  rintro e w1 ⟨v1, rfl, h1, h2, h3⟩
  have H1 := Lib.hid h1; have H2 := Lib.hid h2; have H3 := Lib.hid h3
  clear h1 h2 h3
  go_wp2_with (at_builtin; refine wpL_append_string rfl _ _ 62 9 rfl 5 infoU8 Tryz.underlying62 Tryz.underlying9 v1 _ _ rfl H1.out s rfl ?_ ?_)
  · have := HX.out; have := encN_length (s.size : Int); simp; omega
  · intro v' w' hown' hch' hmv'
    have HO' := Lib.hid hown'; clear hown'
    have HC' := Lib.hid hch'; clear hch'
    have HM' := Lib.hid hmv'; clear hmv'
    go_wp2
    go_ret
    refine ⟨v', rfl, ?_, H2.out.trans HC'.out (fun x hx => H3.out x hx), H3.out.trans H2.out HM'.out⟩
    have hO := HO'.out
    rw [strCells_eq, ← bcells_append, List.append_assoc] at hO
    have e : (xs ++ encT s).length = xs.length + (encN s.size).length + s.size := by
      rw [List.length_append, encT_length]; omega
    rw [e]
    exact hO

set_option maxRecDepth 100000 in
theorem flag_any (v : Value) (xs : List UInt8) (b : Bool) (w : World) (hx : xs.length ≤ 1099511627000) (hown : w.ownsRow 0 5 1 v xs.length (bcells xs)) :
    Calls Tryz.prog 22 #[v, .bool b] w (Wrote w v (xs ++ [if b then 1 else 0])) := by
  have HO := Lib.hid hown; clear hown
  have HX := Lib.hid hx; clear hx
  go_enter Tryz.func22, Tryz.ntmps22
  cases b
  all_goals
    go_wp2_with (at_builtin; refine wpL_append rfl _ _ 62 rfl 5 _ 1 1 infoU8 Tryz.underlying62 rfl (by decide) _ xs.length (bcells xs) rfl (owns_kept HO.out ((Chg.refl [] _).alloc _) (fun _ _ h => by cases h)) ⟨w.heap.size, 0, none⟩ 1 1 [_] rfl rfl (cell_new1 _ _ _) (by simp [Value.oneCell']) ?_ ?_ ?_)
    · have := HX.out; omega
    · have := HX.out; unfold maxLen; omega
    · intro v' w' hown' hch' hmv'
      have HO' := Lib.hid hown'; clear hown'
      have HC' := Lib.hid hch'; clear hch'
      have HM' := Lib.hid hmv'; clear hmv'
      go_wp2
      go_ret
      refine ⟨v', rfl, ?_, chg_app (Chg.refl _ _) (Moved.refl _ _) HC'.out, mov_app (Chg.refl [] _).weak (Moved.refl _ _) HM'.out⟩
      simpa [bcells] using HO'.out

set_option maxRecDepth 100000 in
theorem texts_any (v : Value) (xs : List UInt8) (a : Option Addr) (n cap : Nat) (l : List ByteArray) (w : World) (B : Nat) (hn : n = l.length) (hx : (xs ++ encTs l).length ≤ 1099511626000) (hown : w.ownsRow 0 5 1 v xs.length (bcells xs))
    (hat : At w a (l.map Value.string)) (hu : Under B a l.length) (hf : From B v) (hB : B ≤ w.heap.size) :
    Calls Tryz.prog 21 #[v, .slice a n cap] w (Wrote w v (xs ++ encTs l)) := by
  have hll : l.length ≤ 1099511626000 := by
    have h2 := encTs_count l
    simp only [encTs, List.length_append] at hx; omega
  have hx1 : xs.length ≤ 1099511626000 := by simp only [List.length_append] at hx; omega
  have hN := number_any v xs l.length w (by omega) (by omega) (by omega) hown
  subst hn
  have HN := Lib.hid hN
  have HX := Lib.hid hx
  have HA := Lib.hid hat
  have HU := Lib.hid hu
  have HF := Lib.hid hf
  have HB := Lib.hid hB
  clear hown hN hx hat hu hf hB hx1
  go_enter Tryz.func21, Tryz.ntmps21
  go_wp2_with fail
  refine HN.out.mono ?_
  rintro e w1 ⟨v1, rfl, h1, h2, h3⟩
  have H1 := Lib.hid h1; have H2 := Lib.hid h2; have H3 := Lib.hid h3
  clear h1 h2 h3
  go_wp2_with fail
  go_loopw [0, 6, 13] (fun v' _ i wr => ∃ k : Nat, k ≤ l.length ∧ i = .int .i64 k ∧ wr.ownsRow 0 5 1 v' (xs ++ encN l.length ++ (l.take k).flatMap encT).length (bcells (xs ++ encN l.length ++ (l.take k).flatMap encT)) ∧ Chg (blk v) w wr ∧ Moved w v v') (fun _ _ i _ => l.length - (intOf i).toNat)
  case atStart => exact ⟨0, Nat.zero_le _, rfl, by simpa using H1.out, H2.out, H3.out⟩
  case round =>
    obtain ⟨k, hk, rfl, hown, hc, hmv⟩ := hrel
    by_cases hlt : k < l.length
    · obtain ⟨b, off, rfl, hcell⟩ := HA.out (by simp; omega)
      have hck : wr.cell? ⟨b, off + k, none⟩ = some (.string l[k]) := hc.cellSome (hcell k _ (by simp [hlt])) (HF.out.notin (HU.out (by omega) ⟨b, off, none⟩ rfl))
      have hT := text_any _ _ l[k] wr (by
        have h1 := HX.out
        have h2 := flatMap_take_le encT l (k + 1)
        rw [flatMap_take encT l k hlt] at h2
        have h3 := encT_length l[k]
        simp only [encTs, List.length_append] at h1 h2 ⊢
        omega) hown
      have HT := Lib.hid hT
      have HC := Lib.hid hc
      have HM := Lib.hid hmv
      clear hT hc hmv hown hcell
      go_wp2_with (go_at_call 19; refine HT.out.mono ?_; rintro e w2 ⟨v2, rfl, h1, h2, h3⟩)
      have H4 := Lib.hid h1; have H5 := Lib.hid h2; have H6 := Lib.hid h3
      clear h1 h2 h3
      go_wp2
      go_roundw
      case rel =>
        refine ⟨k + 1, by omega, by go_num, ?_, HC.out.trans H5.out (fun x hx => HM.out x hx), HM.out.trans HC.out H6.out⟩
        rw [flatMap_take encT l k hlt, ← List.append_assoc]
        exact H4.out
      case measure => simp [intOf]; omega
    · have hkk : k = l.length := by omega
      have HO := Lib.hid hown
      have HC := Lib.hid hc
      have HM := Lib.hid hmv
      clear hown hc hmv
      go_wp2
      go_ret
      refine ⟨_, rfl, ?_, HC.out, HM.out⟩
      have hO := HO.out
      rw [hkk, List.take_length, List.append_assoc] at hO
      exact hO
end Go.Proofs.YtjgfclhempjinaaGreatDoor
