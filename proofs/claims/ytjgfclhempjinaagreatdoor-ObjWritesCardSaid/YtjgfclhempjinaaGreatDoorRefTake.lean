/- The document's taker: num, text, times; in plain Lean, and walked. -/
import Derived.Test.YtjgfclhempjinaaGreatDoorObjW11
import Derived.Test.YtjgfclhempjinaaGreatDoorRefNum
import Derived.Deep.Cut
namespace Go.Mq.Obj
open Go Go.RowKit Go.Mq
/-- What a taker has: what is left, and whether it is bad. -/
structure TK where
  s : List UInt8
  bad : Bool
def qgo : Nat → Nat → Nat → List UInt8 → Option (Nat × List UInt8)
  | _, _, _, [] => none
  | i, u, f, c :: r => if 10 ≤ i then none
    else if c.toNat < 128 then some ((u + c.toNat % 128 * f % 18446744073709551616) % 18446744073709551616, r)
    else qgo (i + 1) ((u + c.toNat % 128 * f % 18446744073709551616) % 18446744073709551616) (f * 128 % 18446744073709551616) r
def qval (u : Nat) : Int := if u % 2 = 1 then -((u / 2 : Nat) : Int) - 1 else ((u / 2 : Nat) : Int)
def qnum (t : TK) : Int × TK := if t.bad then (0, t) else match qgo 0 0 1 t.s with
  | none => (0, ⟨t.s, true⟩)
  | some (u, r) => (qval u, ⟨r, false⟩)
def qtext (t : TK) : List UInt8 × TK :=
  if (qnum t).1 < 0 ∨ ((qnum t).2.s.length : Int) < (qnum t).1 then ([], ⟨(qnum t).2.s, true⟩)
  else ((qnum t).2.s.take (qnum t).1.toNat, ⟨(qnum t).2.s.drop (qnum t).1.toNat, (qnum t).2.bad⟩)

theorem qgo_lt {i u f : Nat} {l : List UInt8} {v : Nat} {r : List UInt8} (h : qgo i u f l = some (v, r)) : v < 18446744073709551616 ∧ r.length < l.length := by
  induction l generalizing i u f with
  | nil => simp [qgo] at h
  | cons c l ih =>
    rw [qgo] at h
    split at h
    · cases h
    · split at h
      · simp at h
        obtain ⟨rfl, rfl⟩ := h
        exact ⟨Nat.mod_lt _ (by omega), by simp⟩
      · have := ih h
        exact ⟨this.1, by simp; omega⟩
theorem qval_fit {u : Nat} (h : u < 18446744073709551616) : I64 (qval u) := by
  unfold qval I64; split <;> omega
theorem qnum_fit (t : TK) : I64 (qnum t).1 := by
  unfold qnum
  split
  · exact ⟨by show (-9223372036854775808 : Int) ≤ 0; decide, by show (0 : Int) < 9223372036854775808; decide⟩
  · split
    · exact ⟨by show (-9223372036854775808 : Int) ≤ 0; decide, by show (0 : Int) < 9223372036854775808; decide⟩
    · rename_i h; exact qval_fit (qgo_lt h).1
theorem qnum_len (t : TK) : (qnum t).2.s.length ≤ t.s.length := by
  unfold qnum
  split
  · exact Nat.le_refl _
  · split
    · exact Nat.le_refl _
    · rename_i h; exact Nat.le_of_lt (qgo_lt h).2
/-- It takes something, or it is bad. -/
theorem qnum_less (t : TK) (h : t.bad = false) : (qnum t).2.bad = true ∨ (qnum t).2.s.length < t.s.length := by
  unfold qnum
  rw [h]
  simp only [Bool.false_eq_true, if_false]
  split
  · exact .inl rfl
  · rename_i h; exact .inr (qgo_lt h).2
theorem qnum_bad (t : TK) (h : t.bad = true) : (qnum t).2.bad = true := by unfold qnum; simp [h]
theorem qtext_len (t : TK) : (qtext t).2.s.length ≤ t.s.length := by
  have := qnum_len t
  unfold qtext
  split
  · exact this
  · simp; omega
theorem qtext_str (t : TK) : (qtext t).1.length ≤ t.s.length := by
  have := qnum_len t
  unfold qtext
  split
  · simp
  · simp; omega
theorem qtext_less (t : TK) (h : t.bad = false) : (qtext t).2.bad = true ∨ (qtext t).2.s.length < t.s.length := by
  have := qnum_less t h
  unfold qtext
  split
  · exact .inl rfl
  · rcases this with h | h
    · exact .inl h
    · exact .inr (by simp; omega)
theorem qtext_bad (t : TK) (h : t.bad = true) : (qtext t).2.bad = true := by
  have := qnum_bad t h
  unfold qtext
  split
  · rfl
  · exact this
end Go.Mq.Obj

namespace Go.Proofs.YtjgfclhempjinaaGreatDoor
open Go Go.RowKit Go.Mq Go.Mq.Obj
set_option maxRecDepth 100000
/-- A taker in memory. -/
def Tkr (w : World) (b : Nat) (t : TK) : Prop := Blk w b #[str t.s, .bool t.bad] 81
def Took (w : World) (b : Nat) (t : TK) (v : Value) (e : Ending) (w' : World) : Prop := e = .returned v ∧ Tkr w' b t ∧ Chg [b] w w'

theorem unot_val {x : Int} (h0 : 0 ≤ x) (h1 : x < 9223372036854775808) : wrap64 (bits BinOp.xor IntKind.u64 IntKind.u64.max x) = -x - 1 := by
  obtain ⟨m, rfl⟩ := Int.eq_ofNat_of_zero_le h0
  rw [show IntKind.u64.max = ((18446744073709551615 : Nat) : Int) from rfl, u64_xor_nat _ _ (by omega) (by omega), Nat.xor_comm, xor_ones _ (by omega)]
  unfold wrap64
  omega

theorem wrap_mod (n : Nat) : IntKind.u64.wrap (n : Int) = ((n % 18446744073709551616 : Nat) : Int) := by
  simp only [IntKind.wrap, IntKind.bits, IntKind.signed]
  simp
theorem take_val {un n fn : Nat} (hn : n < 256) : IntKind.u64.wrap ((un : Int) + IntKind.u64.wrap ((n : Int) % 128 * (fn : Int))) = (((un + n % 128 * fn % 18446744073709551616) % 18446744073709551616 : Nat) : Int) := by
  have e : (n : Int) % 128 * (fn : Int) = ((n % 128 * fn : Nat) : Int) := by simp
  rw [e, wrap_mod, show (un : Int) + ((n % 128 * fn % 18446744073709551616 : Nat) : Int) = ((un + n % 128 * fn % 18446744073709551616 : Nat) : Int) from by simp, wrap_mod]
theorem take_f {fn : Nat} : IntKind.u64.wrap ((fn : Int) * 128) = ((fn * 128 % 18446744073709551616 : Nat) : Int) := by
  rw [show (fn : Int) * 128 = ((fn * 128 : Nat) : Int) from by simp, wrap_mod]
theorem qnum_none {s : List UInt8} (h : qgo 0 0 1 s = none) : qnum ⟨s, false⟩ = (0, ⟨s, true⟩) := by simp [qnum, h]
theorem qnum_some {s : List UInt8} {u : Nat} {r : List UInt8} (h : qgo 0 0 1 s = some (u, r)) : qnum ⟨s, false⟩ = (qval u, ⟨r, false⟩) := by simp [qnum, h]

set_option maxHeartbeats 2000000 in
theorem tnum_any (b : Nat) (t : TK) (w : World) (h : Tkr w b t) (hl : t.s.length ≤ 1099511627776) :
    Calls Tryz.prog 38 #[.pointer (some ⟨b, 0, none⟩)] w (Took w b (qnum t).2 (.int .i64 (qnum t).1)) := by
  obtain ⟨s, bad⟩ := t
  have h : Blk w b #[str s, .bool bad] 81 := h
  dsimp only at hl
  have c0 := h.cell 0 _ rfl
  have c1 := h.cell 1 _ rfl
  have f0 := h.frozen 0
  have f1 := h.frozen 1
  have hbad : Tkr (w.setCell ⟨b, 1, none⟩ (.bool true)) b ⟨s, true⟩ := h.set 1 (.bool true)
  have HBAD := Lib.hid hbad; clear hbad
  have H := Lib.hid h; clear h
  have hz : (bs s).size = s.length := rfl
  cases bad
  · obtain ⟨L, hL⟩ : ∃ L, L = s.length := ⟨_, rfl⟩
    rw [← hL] at hl hz
    have HL := Lib.hid hL; clear hL
    go_enter Tryz.func38, Tryz.ntmps38
    go_wp2_with fail
    go_loopw [3, 4, 5, 6] (fun u f i _ wr => ∃ k un fn : Nat, i = .int .i64 k ∧ u = .int .u64 un ∧ f = .int .u64 fn ∧ un < 18446744073709551616 ∧ fn < 18446744073709551616 ∧ k ≤ L ∧ qgo k un fn (s.drop k) = qgo 0 0 1 s ∧ w = wr) (fun _ _ i _ _ => L - (intOf i).toNat)
    case atStart => exact ⟨0, 0, 1, rfl, rfl, rfl, by decide, by decide, Nat.zero_le _, rfl, rfl⟩
    case round =>
      obtain ⟨k, un, fn, rfl, rfl, rfl, hun, hfn, hk, hq, hw⟩ := hrel
      subst hw
      have HQ := Lib.hid hq; clear hq
      by_cases hlt : k < L
      · obtain ⟨c, hc⟩ : ∃ c : UInt8, s[k]? = some c := ⟨s[k]'(by rw [← HL.out]; exact hlt), by simp [← HL.out, hlt]⟩
        have hdrop : s.drop k = c :: s.drop (k + 1) := by
          have h1 := List.getElem?_eq_some_iff.1 hc
          rw [List.drop_eq_getElem_cons h1.1, h1.2]
        by_cases h10 : k < 10
        · have hidx := run_index_str Tryz.underlying9 (show (bs s)[k]? = some c by rw [bs_get]; exact hc)
          obtain ⟨n, hn⟩ : ∃ n : Nat, n = c.toNat := ⟨_, rfl⟩
          have hn8 : n < 256 := by rw [hn]; exact c.toNat_lt
          rw [← hn] at hidx
          have HQN := Lib.hid (show (if n < 128 then some ((un + n % 128 * fn % 18446744073709551616) % 18446744073709551616, s.drop (k + 1)) else qgo (k + 1) ((un + n % 128 * fn % 18446744073709551616) % 18446744073709551616) (fn * 128 % 18446744073709551616) (s.drop (k + 1))) = qgo 0 0 1 s by
            have hq := HQ.out
            rw [hdrop, qgo, if_neg (by omega : ¬ 10 ≤ k), ← hn] at hq
            exact hq)
          obtain ⟨m, hm⟩ : ∃ m, m = n % 128 * fn % 18446744073709551616 := ⟨_, rfl⟩
          obtain ⟨u, hu⟩ : ∃ u, u = (un + n % 128 * fn % 18446744073709551616) % 18446744073709551616 := ⟨_, rfl⟩
          obtain ⟨f2, hf2⟩ : ∃ f2, f2 = fn * 128 % 18446744073709551616 := ⟨_, rfl⟩
          have hu64 : u < 18446744073709551616 := by rw [hu]; exact Nat.mod_lt _ (by omega)
          have hf64 : f2 < 18446744073709551616 := by rw [hf2]; exact Nat.mod_lt _ (by omega)
          rw [← hu, ← hf2] at HQN
          have hm64 : m < 18446744073709551616 := by rw [hm]; exact Nat.mod_lt _ (by omega)
          have HV0 : IntKind.u64.wrap ((n : Int) % 128 * (fn : Int)) = (m : Int) := by
            rw [hm, show (n : Int) % 128 * (fn : Int) = ((n % 128 * fn : Nat) : Int) from by simp, wrap_mod]
          have HV : IntKind.u64.wrap ((un : Int) + (m : Int)) = (u : Int) := by
            rw [hu, ← hm, show (un : Int) + (m : Int) = ((un + m : Nat) : Int) from by simp, wrap_mod]
          have HF : IntKind.u64.wrap ((fn : Int) * 128) = (f2 : Int) := by rw [hf2]; exact take_f (fn := fn)
          clear hn hdrop hc hu hf2 hm
          by_cases hs : n < 128
          · have hq := HQN.out
            rw [if_pos hs] at hq
            have HRES := Lib.hid (qnum_some hq.symm)
            have htest : decide ((n : Int) < 128) = true := by simp; omega
            have HEXT := Lib.hid (show (bs s).extract (k + 1) L = bs (s.drop (k + 1)) from by rw [bs_extract, List.take_of_length_le (by rw [List.length_drop, HL.out]; omega)])
            have hset : Tkr (w.setCell ⟨b, 0, none⟩ (str (s.drop (k + 1)))) b ⟨s.drop (k + 1), false⟩ := H.out.set 0 (str (s.drop (k + 1)))
            have HSET := Lib.hid hset; clear hset hq
            have hW : IntKind.u64.wrap ((un : Int) + IntKind.u64.wrap ((n : Int) % 128 * (fn : Int))) = (u : Int) := by rw [HV0, HV]
            clear HV0 HV HF
            have hd : ((u : Int).tdiv 2) = ((u / 2 : Nat) : Int) := rfl
            have hm : ((u : Int).tmod 2) = ((u % 2 : Nat) : Int) := rfl
            have hwd : IntKind.u64.wrap ((u / 2 : Nat) : Int) = ((u / 2 : Nat) : Int) := by rw [wrap_mod, Nat.mod_eq_of_lt (by omega)]
            by_cases hodd : u % 2 = 1
            · have ho : ((IntKind.u64.wrap ((un : Int) + IntKind.u64.wrap ((n : Int) % 128 * (fn : Int)))).tmod 2 == 1) = true := by rw [hW, hm, hodd]; rfl
              have HVAL := Lib.hid (show wrap64 (bits BinOp.xor IntKind.u64 IntKind.u64.max (IntKind.u64.wrap ((IntKind.u64.wrap ((un : Int) + IntKind.u64.wrap ((n : Int) % 128 * (fn : Int)))).tdiv 2))) = qval u by
                rw [hW, hd, hwd, unot_val (by omega) (by omega)]
                unfold qval; rw [if_pos hodd])
              clear hW hd hm hwd hodd hs
              go_wp2_with fail
              rw [HVAL.out]
              go_ret
              rw [HRES.out, HEXT.out]
              exact ⟨rfl, HSET.out, Chg.set1 w b 0 _⟩
            · have ho : ((IntKind.u64.wrap ((un : Int) + IntKind.u64.wrap ((n : Int) % 128 * (fn : Int)))).tmod 2 == 1) = false := by
                rw [hW, hm, show u % 2 = 0 from by omega]; rfl
              have HVAL := Lib.hid (show wrap64 (IntKind.u64.wrap ((IntKind.u64.wrap ((un : Int) + IntKind.u64.wrap ((n : Int) % 128 * (fn : Int)))).tdiv 2)) = qval u by
                rw [hW, hd, hwd]
                unfold qval wrap64; rw [if_neg hodd]; omega)
              clear hW hd hm hwd hodd hs
              go_wp2_with fail
              rw [HVAL.out]
              go_ret
              rw [HRES.out, HEXT.out]
              exact ⟨rfl, HSET.out, Chg.set1 w b 0 _⟩
          · have htest : decide ((n : Int) < 128) = false := by simp; omega
            go_wp2_with fail
            go_roundw
            case rel => exact ⟨k + 1, u, f2, by go_num, rfl, rfl, hu64, hf64, by omega, by have := HQN.out; rwa [if_neg hs] at this, by first | rfl | trivial⟩
            case measure => simp [intOf]; omega
        · have HRES := Lib.hid (qnum_none (show qgo 0 0 1 s = none by rw [← HQ.out, hdrop, qgo, if_pos (by omega)]))
          clear hdrop hc
          go_wp2_with fail
          go_ret
          rw [HRES.out]
          exact ⟨rfl, HBAD.out, Chg.set1 w b 1 _⟩
      · have HRES := Lib.hid (qnum_none (show qgo 0 0 1 s = none by rw [← HQ.out, List.drop_eq_nil_of_le (by rw [← HL.out]; omega), qgo]))
        go_wp2_with fail
        go_ret
        rw [HRES.out]
        exact ⟨rfl, HBAD.out, Chg.set1 w b 1 _⟩
  · have hres : qnum ⟨s, true⟩ = (0, ⟨s, true⟩) := by simp [qnum]
    have HRES := Lib.hid hres; clear hres
    go_enter Tryz.func38, Tryz.ntmps38
    go_wp2_with fail
    refine wp_loop_rounds 1 ?_
    rw [rounds_succ]
    go_wp2_with fail
    all_goals
      go_ret
      rw [HRES.out]
      exact ⟨rfl, HBAD.out, Chg.set1 w b 1 _⟩

set_option maxHeartbeats 2000000 in
theorem ttext_any (b : Nat) (t : TK) (w : World) (h : Tkr w b t) (hl : t.s.length ≤ 1099511627776) :
    Calls Tryz.prog 36 #[.pointer (some ⟨b, 0, none⟩)] w (Took w b (qtext t).2 (str (qtext t).1)) := by
  have hN := tnum_any b t w h hl
  have hq : qtext t = if (qnum t).1 < 0 ∨ ((qnum t).2.s.length : Int) < (qnum t).1 then ([], ⟨(qnum t).2.s, true⟩) else ((qnum t).2.s.take (qnum t).1.toNat, ⟨(qnum t).2.s.drop (qnum t).1.toNat, (qnum t).2.bad⟩) := rfl
  have hfit := qnum_fit t
  have hln := Nat.le_trans (qnum_len t) hl
  rw [hq]
  obtain ⟨n, hn⟩ : ∃ n, (qnum t).1 = n := ⟨_, rfl⟩
  obtain ⟨t1, ht1⟩ : ∃ t1, (qnum t).2 = t1 := ⟨_, rfl⟩
  rw [hn, ht1] at hN
  rw [hn] at hfit
  rw [ht1] at hln
  rw [hn, ht1]
  obtain ⟨s, bad⟩ := t1
  dsimp only at hln ⊢
  have hf0 := hfit.1
  have hf1 := hfit.2
  obtain ⟨L, hL⟩ : ∃ L, L = s.length := ⟨_, rfl⟩
  have HN := Lib.hid hN; have HL := Lib.hid hL
  rw [← hL] at hln
  rw [← hL]
  have hz : (bs s).size = L := hL.symm
  clear hN hq hfit hn ht1 h hl hL t
  by_cases hneg : n < 0
  · rw [if_pos (.inl hneg)]
    go_enter Tryz.func36, Tryz.ntmps36
    go_wp2_with fail
    refine HN.out.mono ?_; rintro _ w1 ⟨rfl, hr, hc⟩
    have hr : Blk w1 b #[str s, .bool bad] 81 := hr
    have c1 := hr.cell 1 _ rfl
    have f1 := hr.frozen 1
    have HSET := Lib.hid (show Tkr (w1.setCell ⟨b, 1, none⟩ (.bool true)) b ⟨s, true⟩ from hr.set 1 (.bool true))
    have HC := Lib.hid hc; clear hr hc
    go_wp2_with fail
    go_ret
    exact ⟨rfl, HSET.out, HC.out.then (Chg.set1 w1 b 1 _)⟩
  · by_cases hbig : (L : Int) < n
    · rw [if_pos (.inr hbig)]
      go_enter Tryz.func36, Tryz.ntmps36
      go_wp2_with fail
      refine HN.out.mono ?_; rintro _ w1 ⟨rfl, hr, hc⟩
      have hr : Blk w1 b #[str s, .bool bad] 81 := hr
      have c0 := hr.cell 0 _ rfl
      have c1 := hr.cell 1 _ rfl
      have f1 := hr.frozen 1
      have HSET := Lib.hid (show Tkr (w1.setCell ⟨b, 1, none⟩ (.bool true)) b ⟨s, true⟩ from hr.set 1 (.bool true))
      have HC := Lib.hid hc; clear hr hc
      go_wp2_with fail
      go_ret
      exact ⟨rfl, HSET.out, HC.out.then (Chg.set1 w1 b 1 _)⟩
    · rw [if_neg (by omega)]
      obtain ⟨m, rfl⟩ := Int.eq_ofNat_of_zero_le (show 0 ≤ n by omega)
      rw [Int.toNat_natCast]
      have HE1 := Lib.hid (show (bs s).extract 0 m = bs (s.take m) by rw [bs_extract, Nat.sub_zero, List.drop_zero])
      have HE2 := Lib.hid (show (bs s).extract m L = bs (s.drop m) by rw [bs_extract, List.take_of_length_le (by rw [List.length_drop, HL.out]; omega)])
      have hml : m ≤ L := by omega
      have ht1 : decide ((m : Int) < 0) = false := decide_eq_false (by omega)
      have ht2 : decide ((L : Int) < (m : Int)) = false := decide_eq_false (by omega)
      clear hneg hbig hf0 hf1
      go_enter Tryz.func36, Tryz.ntmps36
      go_wp2_with fail
      refine HN.out.mono ?_; rintro _ w1 ⟨rfl, hr, hc⟩
      have hr : Blk w1 b #[str s, .bool bad] 81 := hr
      have c0 := hr.cell 0 _ rfl
      have f0 := hr.frozen 0
      have HSET := Lib.hid (show Tkr (w1.setCell ⟨b, 0, none⟩ (str (s.drop m))) b ⟨s.drop m, bad⟩ from hr.set 0 (str (s.drop m)))
      have HC := Lib.hid hc; clear hr hc
      go_wp2_with fail
      go_ret
      rw [HE2.out]
      refine ⟨?_, HSET.out, HC.out.then (Chg.set1 w1 b 0 _)⟩
      show Ending.returned (Value.string ((bs s).extract 0 m)) = _
      rw [HE1.out]

set_option maxHeartbeats 2000000 in
/-- 'times': the function value is called so often, but not if it is bad. -/
theorem ttimes_any (b : Nat) (n : Int) (F : FuncId) (caps : Array Value) (Inv : Nat → World → Prop) (T : Nat → TK) (w : World) (hF : ∀ (cs : Array Value) (w : World), (callFunc F cs).run Tryz.prog w = .ok (.enter F cs) w) (h0 : Inv 0 w) (hn : I64 n)
    (hT : ∀ k w', Inv k w' → Tkr w' b (T k))
    (hstep : ∀ k w', k < n.toNat → (T k).bad = false → Inv k w' → Calls Tryz.prog F caps w' (fun e w2 => e = .returned (.tuple #[]) ∧ Inv (k + 1) w2)) :
    Calls Tryz.prog 37 #[.pointer (some ⟨b, 0, none⟩), .int .i64 n, .func (.func F) #[] caps] w
      (fun e w' => e = .returned (.tuple #[]) ∧ ∃ k, k ≤ n.toNat ∧ (k = n.toNat ∨ (T k).bad = true) ∧ (∀ j, j < k → (T j).bad = false) ∧ Inv k w') := by
  have HS := Lib.hid hstep; have HT := Lib.hid hT; have H0 := Lib.hid h0
  have hn0 := hn.1; have hn1 := hn.2
  clear hstep hT h0 hn
  go_enter Tryz.func37, Tryz.ntmps37
  go_wp2_with fail
  go_loopw [1] (fun v wr => ∃ k : Nat, k ≤ n.toNat ∧ v = .int .i64 (n - k) ∧ (∀ j, j < k → (T j).bad = false) ∧ Inv k wr) (fun v _ => (intOf v).toNat)
  case atStart => exact ⟨0, Nat.zero_le _, by simp, fun j hj => by omega, H0.out⟩
  case round =>
    obtain ⟨k, hk, rfl, hbad, hi⟩ := hrel
    have ht := HT.out k wr hi
    obtain ⟨tk, htk⟩ : ∃ tk, T k = tk := ⟨_, rfl⟩
    rw [htk] at ht
    obtain ⟨s, bad⟩ := tk
    have ht : Blk wr b #[str s, .bool bad] 81 := ht
    have c1 := ht.cell 1 _ rfl
    have HB := Lib.hid hbad; have HI := Lib.hid hi; have HTK := Lib.hid htk
    clear ht hbad hi htk
    by_cases hgo : 0 < n - k
    · cases bad
      · have hcall := HS.out k wr (by omega) (by rw [HTK.out]) HI.out
        have HCALL := Lib.hid hcall; clear hcall
        go_wp2_with fail
        refine HCALL.out.mono ?_; rintro _ w2 ⟨rfl, hi2⟩
        have HI2 := Lib.hid hi2; clear hi2
        go_wp2_with fail
        go_roundw
        case rel =>
          refine ⟨k + 1, by omega, by simp; omega, fun j hj => ?_, HI2.out⟩
          by_cases hjk : j = k
          · rw [hjk, HTK.out]
          · exact HB.out j (by omega)
        case measure => simp [intOf]; omega
      · go_wp2_with fail
        refine bodyPost_end (results_none rfl _ _ _) rfl ?_
        exact ⟨rfl, k, by omega, .inr (by rw [HTK.out]), HB.out, HI.out⟩
    · go_wp2_with fail
      refine bodyPost_end (results_none rfl _ _ _) rfl ?_
      exact ⟨rfl, k, by omega, .inl (by omega), HB.out, HI.out⟩
end Go.Proofs.YtjgfclhempjinaaGreatDoor
