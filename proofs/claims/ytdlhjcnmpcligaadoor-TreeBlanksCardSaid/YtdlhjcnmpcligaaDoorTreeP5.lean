/- The printer's statements. -/
import Derived.Test.YtdlhjcnmpcligaaDoorTreeP4
namespace Go.Mq.Tree
open Go Go.RowKit Go.Mq
theorem EAt.ptrX {w : World} {F : Nat → Prop} {x : E} {u : Value} (hx : x.isX) (h : EAt w F x [u]) : ∃ b, u = ptr b := by
  cases x with
  | num p n => obtain ⟨b, hb, _⟩ := h; cases hb; exact ⟨b, rfl⟩
  | var p m n => obtain ⟨b, hb, _⟩ := h; cases hb; exact ⟨b, rfl⟩
  | item p m n i => obtain ⟨b, _, hb, _⟩ := h; cases hb; exact ⟨b, rfl⟩
  | un p op x => obtain ⟨b, _, hb, _⟩ := h; cases hb; exact ⟨b, rfl⟩
  | bin p op x y => obtain ⟨b, _, _, hb, _⟩ := h; cases hb; exact ⟨b, rfl⟩
  | app p m n l => obtain ⟨b, _, _, _, hb, _⟩ := h; cases hb; exact ⟨b, rfl⟩
  | nil => exact hx.elim
  | cons _ _ => exact hx.elim
theorem cells7 {w : World} {F : Nat → Prop} {a : Option Addr} {cs1 cs' : List Value} {c0 c1 c2 c3 c4 c5 c6 : Value} {k : Nat} (h : Row w F a (cs1 ++ c0 :: c1 :: c2 :: c3 :: c4 :: c5 :: c6 :: cs')) (hl : cs1.length = k * 7) :
    ∃ bb off, a = some ⟨bb, off, none⟩ ∧ w.cell? ⟨bb, off + k * 7, none⟩ = some c0 ∧ w.cell? ⟨bb, off + k * 7 + 1, none⟩ = some c1 ∧ w.cell? ⟨bb, off + k * 7 + 2, none⟩ = some c2 ∧ w.cell? ⟨bb, off + k * 7 + 3, none⟩ = some c3 ∧ w.cell? ⟨bb, off + k * 7 + 4, none⟩ = some c4 ∧ w.cell? ⟨bb, off + k * 7 + 5, none⟩ = some c5 ∧ w.cell? ⟨bb, off + k * 7 + 6, none⟩ = some c6 := by
  obtain ⟨bb, off, rfl, hc⟩ := h.at_ (by simp only [List.length_append, List.length_cons]; omega)
  have g : ∀ i v, (c0 :: c1 :: c2 :: c3 :: c4 :: c5 :: c6 :: cs')[i]? = some v → w.cell? ⟨bb, off + k * 7 + i, none⟩ = some v := fun i v hv => by
    rw [Nat.add_assoc]
    refine hc (k * 7 + i) v ?_
    rw [← hl, List.getElem?_append_right (by omega), Nat.add_sub_cancel_left]
    exact hv
  exact ⟨bb, off, rfl, by simpa using g 0 _ rfl, g 1 _ rfl, g 2 _ rfl, g 3 _ rfl, g 4 _ rfl, g 5 _ rfl, g 6 _ rfl⟩
theorem stmtsT_if0 (p : Nat) (v : E) (t r : S) (tab : List UInt8) : stmtsT (.ifs p v t .nil r) tab = tab ++ [105, 102, 32] ++ text v ++ [32, 116, 104, 101, 110, 10] ++ stmtsT t (tab ++ [32, 32]) ++ tab ++ [101, 110, 100, 59, 10] ++ stmtsT r tab := by simp [stmtsT, S.isNil]
theorem stmtsT_if1 (p : Nat) (v : E) (t e r : S) (tab : List UInt8) (h : e.isNil = false) : stmtsT (.ifs p v t e r) tab = tab ++ [105, 102, 32] ++ text v ++ [32, 116, 104, 101, 110, 10] ++ stmtsT t (tab ++ [32, 32]) ++ tab ++ [101, 108, 115, 101, 10] ++ stmtsT e (tab ++ [32, 32]) ++ tab ++ [101, 110, 100, 59, 10] ++ stmtsT r tab := by simp [stmtsT, h]
theorem stmts_len : ∀ (s : S) (tab : List UInt8), s.len ≤ (stmtsT s tab).length
  | .nil, _ => Nat.le_refl _
  | .set _ _ _ _ r, tab => by have := stmts_len r tab; simp only [S.len, stmtsT, List.length_append, List.length_cons, List.length_nil]; omega
  | .ifs _ _ _ _ r, tab => by have := stmts_len r tab; simp only [S.len, stmtsT, List.length_append, List.length_cons, List.length_nil]; omega
  | .whil _ _ _ r, tab => by have := stmts_len r tab; simp only [S.len, stmtsT, List.length_append, List.length_cons, List.length_nil]; omega
  | .ret _ _ r, tab => by have := stmts_len r tab; simp only [S.len, stmtsT, List.length_append, List.length_cons, List.length_nil]; omega
  | .wri _ _ r, tab => by have := stmts_len r tab; simp only [S.len, stmtsT, List.length_append, List.length_cons, List.length_nil]; omega
  | .call _ _ r, tab => by have := stmts_len r tab; simp only [S.len, stmtsT, List.length_append, List.length_cons, List.length_nil]; omega
theorem app_len {l1 a : List UInt8} {n : Nat} (h : (l1 ++ a).length ≤ n) : l1.length + a.length ≤ n := by simpa using h
end Go.Mq.Tree
namespace Go.Proofs.YtdlhjcnmpcligaaDoor
open Go Go.RowKit Go.Mq Go.Mq.Tree
set_option maxRecDepth 100000
set_option maxHeartbeats 8000000
def StmtsOK (s : S) : Prop := ∀ (F : Nat → Prop) (v : Value) (w : World) (B B0 b : Nat) (l tab : List UInt8), Laid w B → B ≤ B0 → B0 ≤ w.heap.size → (∀ x, F x → x < B0) → SlAt w F s v → Bd B0 b l w → (l ++ stmtsT s tab).length ≤ 1099511627776 →
    Calls Tryd.prog 18 #[ptr b, v, str tab] w (fun e w' => e = .returned (.tuple #[]) ∧ Wr B0 b (l ++ stmtsT s tab) w w')
theorem said_of {x : E} {lv d : Nat} (h : Fits d lv x) {F : Nat → Prop} {u : Value} {w w' : World} {B B0 b : Nat} {l : List UInt8} (hL : Laid w B) (hB : B ≤ B0) (hF : ∀ x, F x → x < B0) (hx : EAt w F x [u]) (hw : Wr B0 b l w w') (hl : (text x).length ≤ 1099511627776) :
    Said 32 #[u] w' (bs (text x)) := (text_all x h.1.1).1 h.1.2 F u w' B (hw.laid hL hB) (hw.eat hF hx) hl
theorem stmts_ok (s : S) (d : Nat) (hw : WFS d s) (ha : AllS StmtsOK s) : StmtsOK s := by
  intro F v w B B0 b l tab hL hB hB0 hF hv hb hlen
  obtain ⟨a, c, cs, rfl, hc, hrow, hcs⟩ := hv
  have HL := Lib.hid hL; have HFB := Lib.hid hF; have HROW := Lib.hid hrow; have HCS := Lib.hid hcs; have HBD := Lib.hid hb; have HA := Lib.hid ha; have HWF := Lib.hid hw
  have HLEN := Lib.hid hlen
  have hsl : s.len ≤ 1099511627776 := by have h1 := stmts_len s tab; have h2 := app_len hlen; omega
  clear hL hF hrow hcs hb ha hw hlen
  go_enter Tryd.func18, Tryd.ntmps18
  go_wp2_with fail
  go_loopw [7, 10] (fun _ i wr => ∃ (k : Nat) (rest : S) (l1 : List UInt8) (cs1 cs2 : List Value), i = .int .i64 k ∧ k + rest.len = s.len ∧ cs = cs1 ++ cs2 ∧ cs1.length = k * 7 ∧ SAt w F rest cs2 ∧ Wr B0 b l1 w wr ∧ l1 ++ stmtsT rest tab = l ++ stmtsT s tab ∧ AllS StmtsOK rest ∧ WFS d rest) (fun _ i _ => s.len - (intOf i).toNat)
  case atStart => exact ⟨0, s, l, [], cs, rfl, by simp, rfl, rfl, HCS.out, Wr.refl HBD.out, rfl, HA.out, HWF.out⟩
  case round =>
    obtain ⟨k, rest, l1, cs1, cs2, rfl, hk, hcse, hl1, hat, hwr, htx, hal, hwf⟩ := hrel
    have HTX := Lib.hid htx
    have hln := HLEN.out
    rw [← htx] at hln
    have HLN := Lib.hid (app_len hln)
    clear htx hln
    cases rest with
    | nil =>
      have hke : k = s.len := by simpa [S.len] using hk
      have HWR := Lib.hid hwr
      clear hat hal hwf hcse hwr
      go_wp2_with fail
      refine bodyPost_end (results_none rfl _ _ _) rfl ⟨rfl, ?_⟩
      have e := HTX.out
      simp only [stmtsT, List.append_nil] at e
      rw [← e]
      exact HWR.out
    | set p n i x r =>
      cases i with
      | none =>
        obtain ⟨ui, uv, cs', rfl, hi, hx, hr⟩ := hat
        obtain ⟨bv, rfl⟩ := EAt.ptrX hwf.2.2.1.1.2 hx
        simp only [AllS] at hal
        have HX := Lib.hid hx
        have hnl : n.length ≤ 10 := hwf.1.2.2
        have hui : ui = nilp := hi
        subst hui
        clear hx hi
        have hlt : k < s.len := by simp only [S.len] at hk; omega
        have hln := HLN.out
        simp only [stmtsT, List.length_append, List.length_cons, List.length_nil] at hln
        have HLM := Lib.hid hln
        have hts : tab.length ≤ 1099511627776 := by omega
        obtain ⟨t, ht⟩ : ∃ t : ByteArray, t = bs (text x) := ⟨_, rfl⟩
        have hzt : t.size ≤ 1099511627776 := by rw [ht, bs_size]; omega
        have Ht := Lib.hid ht
        clear ht
        clear hln
        have hrw := hwr.row HFB.out HROW.out
        rw [hcse] at hrw
        obtain ⟨bb, off, rfl, d0, d1, d2, d3, d4, d5, d6⟩ := cells7 hrw hl1
        have hz := Blk.new wr #[.int .i64 0, .int .i64 0, str [], nilp, nilp, nils, nils] 83
        obtain ⟨wA, hwA⟩ : ∃ wA, wr.alloc (.cells #[.int .i64 0, .int .i64 0, str [], nilp, nilp, nils, nils] 83) = wA := ⟨_, rfl⟩
        rw [hwA] at hz
        have hcA : Chg [] wr wA := by rw [← hwA]; exact (Chg.refl _ _).alloc _
        obtain ⟨wF, hwF, hcF, hbF⟩ := set7P (.int .i64 1) (.int .i64 p) (str n) nilp (ptr bv) nils nils hz
        have hcw : Chg [] wr wF := hcA.trans hcF (fun x hx => .inr (by simp at hx; omega))
        have g0 := hcA.cellSome d0 (by simp); have g1 := hcA.cellSome d1 (by simp); have g2 := hcA.cellSome d2 (by simp); have g3 := hcA.cellSome d3 (by simp); have g4 := hcA.cellSome d4 (by simp); have g5 := hcA.cellSome d5 (by simp); have g6 := hcA.cellSome d6 (by simp)
        have z0 := hz.cell 0 _ rfl; have z1 := hz.cell 1 _ rfl; have z2 := hz.cell 2 _ rfl; have z3 := hz.cell 3 _ rfl; have z4 := hz.cell 4 _ rfl; have z5 := hz.cell 5 _ rfl; have z6 := hz.cell 6 _ rfl
        have y0 := hz.frozen 0; have y1 := hz.frozen 1; have y2 := hz.frozen 2; have y3 := hz.frozen 3; have y4 := hz.frozen 4; have y5 := hz.frozen 5; have y6 := hz.frozen 6
        have hsw := hwr.size
        have HW0 := Lib.hid (hwr.chg (by omega) hcw)
        have HB0 := Lib.hid hbF
        have hnb : wr.heap.size ≠ b := by have := hwr.bd.lt; omega
        have HCSE := Lib.hid hcse
        clear hrw hcA hcF hbF hcw hwr hz hcse
        go_wp2_with fail
        clear hwA hwF d0 d1 d2 d3 d4 d5 d6 g0 g1 g2 g3 g4 g5 g6 z0 z1 z2 z3 z4 z5 z6 y0 y1 y2 y3 y4 y5 y6
        refine (write_any _ (tab) (rfl) HW0.out.bd (by have := HW0.out.size; omega) (by have := HLM.out; simp only [List.length_append, List.length_cons, List.length_nil]; omega)).mono ?_; rintro _ w1 ⟨rfl, hq⟩
        have HW1 := Lib.hid (HW0.out.trans hq)
        have HB1 := Lib.hid (hq.blk HB0.out (by decide) hnb)
        clear hq
        have e0 := HB1.out.cell 0 _ rfl; have e1 := HB1.out.cell 1 _ rfl; have e2 := HB1.out.cell 2 _ rfl; have e3 := HB1.out.cell 3 _ rfl; have e4 := HB1.out.cell 4 _ rfl; have e5 := HB1.out.cell 5 _ rfl; have e6 := HB1.out.cell 6 _ rfl
        go_wp2_with fail
        refine (write_any _ (n) (rfl) HW1.out.bd (by have := HW1.out.size; omega) (by have := HLM.out; simp only [List.length_append, List.length_cons, List.length_nil]; omega)).mono ?_; rintro _ w2 ⟨rfl, hq⟩
        have HW2 := Lib.hid (HW1.out.trans hq)
        have HB2 := Lib.hid (hq.blk HB1.out (by decide) hnb)
        clear hq
        clear e0 e1 e2 e3 e4 e5 e6
        have e0 := HB2.out.cell 0 _ rfl; have e1 := HB2.out.cell 1 _ rfl; have e2 := HB2.out.cell 2 _ rfl; have e3 := HB2.out.cell 3 _ rfl; have e4 := HB2.out.cell 4 _ rfl; have e5 := HB2.out.cell 5 _ rfl; have e6 := HB2.out.cell 6 _ rfl
        go_wp2_with fail
        have hs := said_of hwf.2.2.1 HL.out hB HFB.out HX.out HW2.out (by have := HLM.out; omega)
        rw [← Ht.out] at hs
        refine hs.mono ?_; rintro _ w3 ⟨rfl, hq⟩
        have HW3 := Lib.hid (HW2.out.chg (by have := HW2.out.size; omega) hq)
        have HB3 := Lib.hid (HB2.out.kept hq (by simp))
        clear hs
        clear hq
        clear e0 e1 e2 e3 e4 e5 e6
        have e0 := HB3.out.cell 0 _ rfl; have e1 := HB3.out.cell 1 _ rfl; have e2 := HB3.out.cell 2 _ rfl; have e3 := HB3.out.cell 3 _ rfl; have e4 := HB3.out.cell 4 _ rfl; have e5 := HB3.out.cell 5 _ rfl; have e6 := HB3.out.cell 6 _ rfl
        go_wp2_with fail
        refine (write_any _ ([32, 58, 61, 32] ++ text x ++ [59, 10]) (by rw [bs_append, bs_append, ← Ht.out] <;> rfl) HW3.out.bd (by have := HW3.out.size; omega) (by have := HLM.out; simp only [List.length_append, List.length_cons, List.length_nil]; omega)).mono ?_; rintro _ w4 ⟨rfl, hq⟩
        have HW4 := Lib.hid (HW3.out.trans hq)
        have HB4 := Lib.hid (hq.blk HB3.out (by decide) hnb)
        clear hq
        clear e0 e1 e2 e3 e4 e5 e6
        have e0 := HB4.out.cell 0 _ rfl; have e1 := HB4.out.cell 1 _ rfl; have e2 := HB4.out.cell 2 _ rfl; have e3 := HB4.out.cell 3 _ rfl; have e4 := HB4.out.cell 4 _ rfl; have e5 := HB4.out.cell 5 _ rfl; have e6 := HB4.out.cell 6 _ rfl
        go_wp2_with fail
        refine ⟨⟨k + 1, r, _, cs1 ++ [(.int .i64 1), (.int .i64 p), (str n), nilp, (ptr bv), nils, nils], cs', by go_num, by simp only [S.len] at hk; omega, by rw [HCSE.out]; simp, by simp [hl1]; omega, hr, HW4.out, ?_, hal, hwf.2.2.2⟩, by simp [intOf]; omega⟩
        rw [← HTX.out]
        simp [stmtsT]
      | some y =>
        obtain ⟨ui, uv, cs', rfl, hi, hx, hr⟩ := hat
        obtain ⟨bv, rfl⟩ := EAt.ptrX hwf.2.2.1.1.2 hx
        simp only [AllS] at hal
        have HX := Lib.hid hx
        have hnl : n.length ≤ 10 := hwf.1.2.2
        have hfy := hwf.2.1 y rfl
        have hy : EAt w F y [ui] := hi
        obtain ⟨bi, rfl⟩ := EAt.ptrX hfy.1.2 hy
        have HY := Lib.hid hy
        clear hx hi hy
        have hlt : k < s.len := by simp only [S.len] at hk; omega
        have hln := HLN.out
        simp only [stmtsT, List.length_append, List.length_cons, List.length_nil] at hln
        have HLM := Lib.hid hln
        have hts : tab.length ≤ 1099511627776 := by omega
        obtain ⟨t, ht⟩ : ∃ t : ByteArray, t = bs (text x) := ⟨_, rfl⟩
        have hzt : t.size ≤ 1099511627776 := by rw [ht, bs_size]; omega
        have Ht := Lib.hid ht
        clear ht
        obtain ⟨t2, ht2⟩ : ∃ t2 : ByteArray, t2 = bs (text y) := ⟨_, rfl⟩
        have hzt2 : t2.size ≤ 1099511627776 := by rw [ht2, bs_size]; omega
        have Ht2 := Lib.hid ht2
        clear ht2
        clear hln
        have hrw := hwr.row HFB.out HROW.out
        rw [hcse] at hrw
        obtain ⟨bb, off, rfl, d0, d1, d2, d3, d4, d5, d6⟩ := cells7 hrw hl1
        have hz := Blk.new wr #[.int .i64 0, .int .i64 0, str [], nilp, nilp, nils, nils] 83
        obtain ⟨wA, hwA⟩ : ∃ wA, wr.alloc (.cells #[.int .i64 0, .int .i64 0, str [], nilp, nilp, nils, nils] 83) = wA := ⟨_, rfl⟩
        rw [hwA] at hz
        have hcA : Chg [] wr wA := by rw [← hwA]; exact (Chg.refl _ _).alloc _
        obtain ⟨wF, hwF, hcF, hbF⟩ := set7P (.int .i64 1) (.int .i64 p) (str n) (ptr bi) (ptr bv) nils nils hz
        have hcw : Chg [] wr wF := hcA.trans hcF (fun x hx => .inr (by simp at hx; omega))
        have g0 := hcA.cellSome d0 (by simp); have g1 := hcA.cellSome d1 (by simp); have g2 := hcA.cellSome d2 (by simp); have g3 := hcA.cellSome d3 (by simp); have g4 := hcA.cellSome d4 (by simp); have g5 := hcA.cellSome d5 (by simp); have g6 := hcA.cellSome d6 (by simp)
        have z0 := hz.cell 0 _ rfl; have z1 := hz.cell 1 _ rfl; have z2 := hz.cell 2 _ rfl; have z3 := hz.cell 3 _ rfl; have z4 := hz.cell 4 _ rfl; have z5 := hz.cell 5 _ rfl; have z6 := hz.cell 6 _ rfl
        have y0 := hz.frozen 0; have y1 := hz.frozen 1; have y2 := hz.frozen 2; have y3 := hz.frozen 3; have y4 := hz.frozen 4; have y5 := hz.frozen 5; have y6 := hz.frozen 6
        have hsw := hwr.size
        have HW0 := Lib.hid (hwr.chg (by omega) hcw)
        have HB0 := Lib.hid hbF
        have hnb : wr.heap.size ≠ b := by have := hwr.bd.lt; omega
        have HCSE := Lib.hid hcse
        clear hrw hcA hcF hbF hcw hwr hz hcse
        go_wp2_with fail
        clear hwA hwF d0 d1 d2 d3 d4 d5 d6 g0 g1 g2 g3 g4 g5 g6 z0 z1 z2 z3 z4 z5 z6 y0 y1 y2 y3 y4 y5 y6
        refine (write_any _ (tab) (rfl) HW0.out.bd (by have := HW0.out.size; omega) (by have := HLM.out; simp only [List.length_append, List.length_cons, List.length_nil]; omega)).mono ?_; rintro _ w1 ⟨rfl, hq⟩
        have HW1 := Lib.hid (HW0.out.trans hq)
        have HB1 := Lib.hid (hq.blk HB0.out (by decide) hnb)
        clear hq
        have e0 := HB1.out.cell 0 _ rfl; have e1 := HB1.out.cell 1 _ rfl; have e2 := HB1.out.cell 2 _ rfl; have e3 := HB1.out.cell 3 _ rfl; have e4 := HB1.out.cell 4 _ rfl; have e5 := HB1.out.cell 5 _ rfl; have e6 := HB1.out.cell 6 _ rfl
        go_wp2_with fail
        refine (write_any _ (n) (rfl) HW1.out.bd (by have := HW1.out.size; omega) (by have := HLM.out; simp only [List.length_append, List.length_cons, List.length_nil]; omega)).mono ?_; rintro _ w2 ⟨rfl, hq⟩
        have HW2 := Lib.hid (HW1.out.trans hq)
        have HB2 := Lib.hid (hq.blk HB1.out (by decide) hnb)
        clear hq
        clear e0 e1 e2 e3 e4 e5 e6
        have e0 := HB2.out.cell 0 _ rfl; have e1 := HB2.out.cell 1 _ rfl; have e2 := HB2.out.cell 2 _ rfl; have e3 := HB2.out.cell 3 _ rfl; have e4 := HB2.out.cell 4 _ rfl; have e5 := HB2.out.cell 5 _ rfl; have e6 := HB2.out.cell 6 _ rfl
        go_wp2_with fail
        have hs := said_of hfy HL.out hB HFB.out HY.out HW2.out (by have := HLM.out; omega)
        rw [← Ht2.out] at hs
        refine hs.mono ?_; rintro _ w3 ⟨rfl, hq⟩
        have HW3 := Lib.hid (HW2.out.chg (by have := HW2.out.size; omega) hq)
        have HB3 := Lib.hid (HB2.out.kept hq (by simp))
        clear hs
        clear hq
        clear e0 e1 e2 e3 e4 e5 e6
        have e0 := HB3.out.cell 0 _ rfl; have e1 := HB3.out.cell 1 _ rfl; have e2 := HB3.out.cell 2 _ rfl; have e3 := HB3.out.cell 3 _ rfl; have e4 := HB3.out.cell 4 _ rfl; have e5 := HB3.out.cell 5 _ rfl; have e6 := HB3.out.cell 6 _ rfl
        go_wp2_with fail
        refine (write_any _ ([91] ++ text y ++ [93]) (by rw [bs_append, bs_append, ← Ht2.out] <;> rfl) HW3.out.bd (by have := HW3.out.size; omega) (by have := HLM.out; simp only [List.length_append, List.length_cons, List.length_nil]; omega)).mono ?_; rintro _ w4 ⟨rfl, hq⟩
        have HW4 := Lib.hid (HW3.out.trans hq)
        have HB4 := Lib.hid (hq.blk HB3.out (by decide) hnb)
        clear hq
        clear e0 e1 e2 e3 e4 e5 e6
        have e0 := HB4.out.cell 0 _ rfl; have e1 := HB4.out.cell 1 _ rfl; have e2 := HB4.out.cell 2 _ rfl; have e3 := HB4.out.cell 3 _ rfl; have e4 := HB4.out.cell 4 _ rfl; have e5 := HB4.out.cell 5 _ rfl; have e6 := HB4.out.cell 6 _ rfl
        go_wp2_with fail
        have hs := said_of hwf.2.2.1 HL.out hB HFB.out HX.out HW4.out (by have := HLM.out; omega)
        rw [← Ht.out] at hs
        refine hs.mono ?_; rintro _ w5 ⟨rfl, hq⟩
        have HW5 := Lib.hid (HW4.out.chg (by have := HW4.out.size; omega) hq)
        have HB5 := Lib.hid (HB4.out.kept hq (by simp))
        clear hs
        clear hq
        clear e0 e1 e2 e3 e4 e5 e6
        have e0 := HB5.out.cell 0 _ rfl; have e1 := HB5.out.cell 1 _ rfl; have e2 := HB5.out.cell 2 _ rfl; have e3 := HB5.out.cell 3 _ rfl; have e4 := HB5.out.cell 4 _ rfl; have e5 := HB5.out.cell 5 _ rfl; have e6 := HB5.out.cell 6 _ rfl
        go_wp2_with fail
        refine (write_any _ ([32, 58, 61, 32] ++ text x ++ [59, 10]) (by rw [bs_append, bs_append, ← Ht.out] <;> rfl) HW5.out.bd (by have := HW5.out.size; omega) (by have := HLM.out; simp only [List.length_append, List.length_cons, List.length_nil]; omega)).mono ?_; rintro _ w6 ⟨rfl, hq⟩
        have HW6 := Lib.hid (HW5.out.trans hq)
        have HB6 := Lib.hid (hq.blk HB5.out (by decide) hnb)
        clear hq
        clear e0 e1 e2 e3 e4 e5 e6
        have e0 := HB6.out.cell 0 _ rfl; have e1 := HB6.out.cell 1 _ rfl; have e2 := HB6.out.cell 2 _ rfl; have e3 := HB6.out.cell 3 _ rfl; have e4 := HB6.out.cell 4 _ rfl; have e5 := HB6.out.cell 5 _ rfl; have e6 := HB6.out.cell 6 _ rfl
        go_wp2_with fail
        refine ⟨⟨k + 1, r, _, cs1 ++ [(.int .i64 1), (.int .i64 p), (str n), (ptr bi), (ptr bv), nils, nils], cs', by go_num, by simp only [S.len] at hk; omega, by rw [HCSE.out]; simp, by simp [hl1]; omega, hr, HW6.out, ?_, hal, hwf.2.2.2⟩, by simp [intOf]; omega⟩
        rw [← HTX.out]
        simp [stmtsT]
    | ret p x r =>
      obtain ⟨uv, cs', rfl, hx, hr⟩ := hat
      obtain ⟨bv, rfl⟩ := EAt.ptrX hwf.1.1.2 hx
      simp only [AllS] at hal
      have HX := Lib.hid hx
      clear hx
      have hlt : k < s.len := by simp only [S.len] at hk; omega
      have hln := HLN.out
      simp only [stmtsT, List.length_append, List.length_cons, List.length_nil] at hln
      have HLM := Lib.hid hln
      have hts : tab.length ≤ 1099511627776 := by omega
      obtain ⟨t, ht⟩ : ∃ t : ByteArray, t = bs (text x) := ⟨_, rfl⟩
      have hzt : t.size ≤ 1099511627776 := by rw [ht, bs_size]; omega
      have Ht := Lib.hid ht
      clear ht
      clear hln
      have hrw := hwr.row HFB.out HROW.out
      rw [hcse] at hrw
      obtain ⟨bb, off, rfl, d0, d1, d2, d3, d4, d5, d6⟩ := cells7 hrw hl1
      have hz := Blk.new wr #[.int .i64 0, .int .i64 0, str [], nilp, nilp, nils, nils] 83
      obtain ⟨wA, hwA⟩ : ∃ wA, wr.alloc (.cells #[.int .i64 0, .int .i64 0, str [], nilp, nilp, nils, nils] 83) = wA := ⟨_, rfl⟩
      rw [hwA] at hz
      have hcA : Chg [] wr wA := by rw [← hwA]; exact (Chg.refl _ _).alloc _
      obtain ⟨wF, hwF, hcF, hbF⟩ := set7P (.int .i64 4) (.int .i64 p) (str []) nilp (ptr bv) nils nils hz
      have hcw : Chg [] wr wF := hcA.trans hcF (fun x hx => .inr (by simp at hx; omega))
      have g0 := hcA.cellSome d0 (by simp); have g1 := hcA.cellSome d1 (by simp); have g2 := hcA.cellSome d2 (by simp); have g3 := hcA.cellSome d3 (by simp); have g4 := hcA.cellSome d4 (by simp); have g5 := hcA.cellSome d5 (by simp); have g6 := hcA.cellSome d6 (by simp)
      have z0 := hz.cell 0 _ rfl; have z1 := hz.cell 1 _ rfl; have z2 := hz.cell 2 _ rfl; have z3 := hz.cell 3 _ rfl; have z4 := hz.cell 4 _ rfl; have z5 := hz.cell 5 _ rfl; have z6 := hz.cell 6 _ rfl
      have y0 := hz.frozen 0; have y1 := hz.frozen 1; have y2 := hz.frozen 2; have y3 := hz.frozen 3; have y4 := hz.frozen 4; have y5 := hz.frozen 5; have y6 := hz.frozen 6
      have hsw := hwr.size
      have HW0 := Lib.hid (hwr.chg (by omega) hcw)
      have HB0 := Lib.hid hbF
      have hnb : wr.heap.size ≠ b := by have := hwr.bd.lt; omega
      have HCSE := Lib.hid hcse
      clear hrw hcA hcF hbF hcw hwr hz hcse
      go_wp2_with fail
      clear hwA hwF d0 d1 d2 d3 d4 d5 d6 g0 g1 g2 g3 g4 g5 g6 z0 z1 z2 z3 z4 z5 z6 y0 y1 y2 y3 y4 y5 y6
      refine (write_any _ (tab) (rfl) HW0.out.bd (by have := HW0.out.size; omega) (by have := HLM.out; simp only [List.length_append, List.length_cons, List.length_nil]; omega)).mono ?_; rintro _ w1 ⟨rfl, hq⟩
      have HW1 := Lib.hid (HW0.out.trans hq)
      have HB1 := Lib.hid (hq.blk HB0.out (by decide) hnb)
      clear hq
      have e0 := HB1.out.cell 0 _ rfl; have e1 := HB1.out.cell 1 _ rfl; have e2 := HB1.out.cell 2 _ rfl; have e3 := HB1.out.cell 3 _ rfl; have e4 := HB1.out.cell 4 _ rfl; have e5 := HB1.out.cell 5 _ rfl; have e6 := HB1.out.cell 6 _ rfl
      go_wp2_with fail
      have hs := said_of hwf.1 HL.out hB HFB.out HX.out HW1.out (by have := HLM.out; omega)
      rw [← Ht.out] at hs
      refine hs.mono ?_; rintro _ w2 ⟨rfl, hq⟩
      have HW2 := Lib.hid (HW1.out.chg (by have := HW1.out.size; omega) hq)
      have HB2 := Lib.hid (HB1.out.kept hq (by simp))
      clear hs
      clear hq
      clear e0 e1 e2 e3 e4 e5 e6
      have e0 := HB2.out.cell 0 _ rfl; have e1 := HB2.out.cell 1 _ rfl; have e2 := HB2.out.cell 2 _ rfl; have e3 := HB2.out.cell 3 _ rfl; have e4 := HB2.out.cell 4 _ rfl; have e5 := HB2.out.cell 5 _ rfl; have e6 := HB2.out.cell 6 _ rfl
      go_wp2_with fail
      refine (write_any _ ([114, 101, 116, 117, 114, 110, 32] ++ text x ++ [59, 10]) (by rw [bs_append, bs_append, ← Ht.out] <;> rfl) HW2.out.bd (by have := HW2.out.size; omega) (by have := HLM.out; simp only [List.length_append, List.length_cons, List.length_nil]; omega)).mono ?_; rintro _ w3 ⟨rfl, hq⟩
      have HW3 := Lib.hid (HW2.out.trans hq)
      have HB3 := Lib.hid (hq.blk HB2.out (by decide) hnb)
      clear hq
      clear e0 e1 e2 e3 e4 e5 e6
      have e0 := HB3.out.cell 0 _ rfl; have e1 := HB3.out.cell 1 _ rfl; have e2 := HB3.out.cell 2 _ rfl; have e3 := HB3.out.cell 3 _ rfl; have e4 := HB3.out.cell 4 _ rfl; have e5 := HB3.out.cell 5 _ rfl; have e6 := HB3.out.cell 6 _ rfl
      go_wp2_with fail
      refine ⟨⟨k + 1, r, _, cs1 ++ [(.int .i64 4), (.int .i64 p), (str []), nilp, (ptr bv), nils, nils], cs', by go_num, by simp only [S.len] at hk; omega, by rw [HCSE.out]; simp, by simp [hl1]; omega, hr, HW3.out, ?_, hal, hwf.2⟩, by simp [intOf]; omega⟩
      rw [← HTX.out]
      simp [stmtsT]
    | wri p x r =>
      obtain ⟨uv, cs', rfl, hx, hr⟩ := hat
      obtain ⟨bv, rfl⟩ := EAt.ptrX hwf.1.1.2 hx
      simp only [AllS] at hal
      have HX := Lib.hid hx
      clear hx
      have hlt : k < s.len := by simp only [S.len] at hk; omega
      have hln := HLN.out
      simp only [stmtsT, List.length_append, List.length_cons, List.length_nil] at hln
      have HLM := Lib.hid hln
      have hts : tab.length ≤ 1099511627776 := by omega
      obtain ⟨t, ht⟩ : ∃ t : ByteArray, t = bs (text x) := ⟨_, rfl⟩
      have hzt : t.size ≤ 1099511627776 := by rw [ht, bs_size]; omega
      have Ht := Lib.hid ht
      clear ht
      clear hln
      have hrw := hwr.row HFB.out HROW.out
      rw [hcse] at hrw
      obtain ⟨bb, off, rfl, d0, d1, d2, d3, d4, d5, d6⟩ := cells7 hrw hl1
      have hz := Blk.new wr #[.int .i64 0, .int .i64 0, str [], nilp, nilp, nils, nils] 83
      obtain ⟨wA, hwA⟩ : ∃ wA, wr.alloc (.cells #[.int .i64 0, .int .i64 0, str [], nilp, nilp, nils, nils] 83) = wA := ⟨_, rfl⟩
      rw [hwA] at hz
      have hcA : Chg [] wr wA := by rw [← hwA]; exact (Chg.refl _ _).alloc _
      obtain ⟨wF, hwF, hcF, hbF⟩ := set7P (.int .i64 5) (.int .i64 p) (str []) nilp (ptr bv) nils nils hz
      have hcw : Chg [] wr wF := hcA.trans hcF (fun x hx => .inr (by simp at hx; omega))
      have g0 := hcA.cellSome d0 (by simp); have g1 := hcA.cellSome d1 (by simp); have g2 := hcA.cellSome d2 (by simp); have g3 := hcA.cellSome d3 (by simp); have g4 := hcA.cellSome d4 (by simp); have g5 := hcA.cellSome d5 (by simp); have g6 := hcA.cellSome d6 (by simp)
      have z0 := hz.cell 0 _ rfl; have z1 := hz.cell 1 _ rfl; have z2 := hz.cell 2 _ rfl; have z3 := hz.cell 3 _ rfl; have z4 := hz.cell 4 _ rfl; have z5 := hz.cell 5 _ rfl; have z6 := hz.cell 6 _ rfl
      have y0 := hz.frozen 0; have y1 := hz.frozen 1; have y2 := hz.frozen 2; have y3 := hz.frozen 3; have y4 := hz.frozen 4; have y5 := hz.frozen 5; have y6 := hz.frozen 6
      have hsw := hwr.size
      have HW0 := Lib.hid (hwr.chg (by omega) hcw)
      have HB0 := Lib.hid hbF
      have hnb : wr.heap.size ≠ b := by have := hwr.bd.lt; omega
      have HCSE := Lib.hid hcse
      clear hrw hcA hcF hbF hcw hwr hz hcse
      go_wp2_with fail
      clear hwA hwF d0 d1 d2 d3 d4 d5 d6 g0 g1 g2 g3 g4 g5 g6 z0 z1 z2 z3 z4 z5 z6 y0 y1 y2 y3 y4 y5 y6
      refine (write_any _ (tab) (rfl) HW0.out.bd (by have := HW0.out.size; omega) (by have := HLM.out; simp only [List.length_append, List.length_cons, List.length_nil]; omega)).mono ?_; rintro _ w1 ⟨rfl, hq⟩
      have HW1 := Lib.hid (HW0.out.trans hq)
      have HB1 := Lib.hid (hq.blk HB0.out (by decide) hnb)
      clear hq
      have e0 := HB1.out.cell 0 _ rfl; have e1 := HB1.out.cell 1 _ rfl; have e2 := HB1.out.cell 2 _ rfl; have e3 := HB1.out.cell 3 _ rfl; have e4 := HB1.out.cell 4 _ rfl; have e5 := HB1.out.cell 5 _ rfl; have e6 := HB1.out.cell 6 _ rfl
      go_wp2_with fail
      have hs := said_of hwf.1 HL.out hB HFB.out HX.out HW1.out (by have := HLM.out; omega)
      rw [← Ht.out] at hs
      refine hs.mono ?_; rintro _ w2 ⟨rfl, hq⟩
      have HW2 := Lib.hid (HW1.out.chg (by have := HW1.out.size; omega) hq)
      have HB2 := Lib.hid (HB1.out.kept hq (by simp))
      clear hs
      clear hq
      clear e0 e1 e2 e3 e4 e5 e6
      have e0 := HB2.out.cell 0 _ rfl; have e1 := HB2.out.cell 1 _ rfl; have e2 := HB2.out.cell 2 _ rfl; have e3 := HB2.out.cell 3 _ rfl; have e4 := HB2.out.cell 4 _ rfl; have e5 := HB2.out.cell 5 _ rfl; have e6 := HB2.out.cell 6 _ rfl
      go_wp2_with fail
      refine (write_any _ ([119, 114, 105, 116, 101, 32] ++ text x ++ [59, 10]) (by rw [bs_append, bs_append, ← Ht.out] <;> rfl) HW2.out.bd (by have := HW2.out.size; omega) (by have := HLM.out; simp only [List.length_append, List.length_cons, List.length_nil]; omega)).mono ?_; rintro _ w3 ⟨rfl, hq⟩
      have HW3 := Lib.hid (HW2.out.trans hq)
      have HB3 := Lib.hid (hq.blk HB2.out (by decide) hnb)
      clear hq
      clear e0 e1 e2 e3 e4 e5 e6
      have e0 := HB3.out.cell 0 _ rfl; have e1 := HB3.out.cell 1 _ rfl; have e2 := HB3.out.cell 2 _ rfl; have e3 := HB3.out.cell 3 _ rfl; have e4 := HB3.out.cell 4 _ rfl; have e5 := HB3.out.cell 5 _ rfl; have e6 := HB3.out.cell 6 _ rfl
      go_wp2_with fail
      refine ⟨⟨k + 1, r, _, cs1 ++ [(.int .i64 5), (.int .i64 p), (str []), nilp, (ptr bv), nils, nils], cs', by go_num, by simp only [S.len] at hk; omega, by rw [HCSE.out]; simp, by simp [hl1]; omega, hr, HW3.out, ?_, hal, hwf.2⟩, by simp [intOf]; omega⟩
      rw [← HTX.out]
      simp [stmtsT]
    | call p x r =>
      obtain ⟨uv, cs', rfl, hx, hr⟩ := hat
      obtain ⟨bv, rfl⟩ := EAt.ptrX hwf.1.1.1.2 hx
      simp only [AllS] at hal
      have HX := Lib.hid hx
      clear hx
      have hlt : k < s.len := by simp only [S.len] at hk; omega
      have hln := HLN.out
      simp only [stmtsT, List.length_append, List.length_cons, List.length_nil] at hln
      have HLM := Lib.hid hln
      have hts : tab.length ≤ 1099511627776 := by omega
      obtain ⟨t, ht⟩ : ∃ t : ByteArray, t = bs (text x) := ⟨_, rfl⟩
      have hzt : t.size ≤ 1099511627776 := by rw [ht, bs_size]; omega
      have Ht := Lib.hid ht
      clear ht
      clear hln
      have hrw := hwr.row HFB.out HROW.out
      rw [hcse] at hrw
      obtain ⟨bb, off, rfl, d0, d1, d2, d3, d4, d5, d6⟩ := cells7 hrw hl1
      have hz := Blk.new wr #[.int .i64 0, .int .i64 0, str [], nilp, nilp, nils, nils] 83
      obtain ⟨wA, hwA⟩ : ∃ wA, wr.alloc (.cells #[.int .i64 0, .int .i64 0, str [], nilp, nilp, nils, nils] 83) = wA := ⟨_, rfl⟩
      rw [hwA] at hz
      have hcA : Chg [] wr wA := by rw [← hwA]; exact (Chg.refl _ _).alloc _
      obtain ⟨wF, hwF, hcF, hbF⟩ := set7P (.int .i64 6) (.int .i64 p) (str []) nilp (ptr bv) nils nils hz
      have hcw : Chg [] wr wF := hcA.trans hcF (fun x hx => .inr (by simp at hx; omega))
      have g0 := hcA.cellSome d0 (by simp); have g1 := hcA.cellSome d1 (by simp); have g2 := hcA.cellSome d2 (by simp); have g3 := hcA.cellSome d3 (by simp); have g4 := hcA.cellSome d4 (by simp); have g5 := hcA.cellSome d5 (by simp); have g6 := hcA.cellSome d6 (by simp)
      have z0 := hz.cell 0 _ rfl; have z1 := hz.cell 1 _ rfl; have z2 := hz.cell 2 _ rfl; have z3 := hz.cell 3 _ rfl; have z4 := hz.cell 4 _ rfl; have z5 := hz.cell 5 _ rfl; have z6 := hz.cell 6 _ rfl
      have y0 := hz.frozen 0; have y1 := hz.frozen 1; have y2 := hz.frozen 2; have y3 := hz.frozen 3; have y4 := hz.frozen 4; have y5 := hz.frozen 5; have y6 := hz.frozen 6
      have hsw := hwr.size
      have HW0 := Lib.hid (hwr.chg (by omega) hcw)
      have HB0 := Lib.hid hbF
      have hnb : wr.heap.size ≠ b := by have := hwr.bd.lt; omega
      have HCSE := Lib.hid hcse
      clear hrw hcA hcF hbF hcw hwr hz hcse
      go_wp2_with fail
      clear hwA hwF d0 d1 d2 d3 d4 d5 d6 g0 g1 g2 g3 g4 g5 g6 z0 z1 z2 z3 z4 z5 z6 y0 y1 y2 y3 y4 y5 y6
      refine (write_any _ (tab) (rfl) HW0.out.bd (by have := HW0.out.size; omega) (by have := HLM.out; simp only [List.length_append, List.length_cons, List.length_nil]; omega)).mono ?_; rintro _ w1 ⟨rfl, hq⟩
      have HW1 := Lib.hid (HW0.out.trans hq)
      have HB1 := Lib.hid (hq.blk HB0.out (by decide) hnb)
      clear hq
      have e0 := HB1.out.cell 0 _ rfl; have e1 := HB1.out.cell 1 _ rfl; have e2 := HB1.out.cell 2 _ rfl; have e3 := HB1.out.cell 3 _ rfl; have e4 := HB1.out.cell 4 _ rfl; have e5 := HB1.out.cell 5 _ rfl; have e6 := HB1.out.cell 6 _ rfl
      go_wp2_with fail
      have hs := said_of hwf.1.1 HL.out hB HFB.out HX.out HW1.out (by have := HLM.out; omega)
      rw [← Ht.out] at hs
      refine hs.mono ?_; rintro _ w2 ⟨rfl, hq⟩
      have HW2 := Lib.hid (HW1.out.chg (by have := HW1.out.size; omega) hq)
      have HB2 := Lib.hid (HB1.out.kept hq (by simp))
      clear hs
      clear hq
      clear e0 e1 e2 e3 e4 e5 e6
      have e0 := HB2.out.cell 0 _ rfl; have e1 := HB2.out.cell 1 _ rfl; have e2 := HB2.out.cell 2 _ rfl; have e3 := HB2.out.cell 3 _ rfl; have e4 := HB2.out.cell 4 _ rfl; have e5 := HB2.out.cell 5 _ rfl; have e6 := HB2.out.cell 6 _ rfl
      go_wp2_with fail
      refine (write_any _ (text x ++ [59, 10]) (by rw [bs_append, ← Ht.out] <;> rfl) HW2.out.bd (by have := HW2.out.size; omega) (by have := HLM.out; simp only [List.length_append, List.length_cons, List.length_nil]; omega)).mono ?_; rintro _ w3 ⟨rfl, hq⟩
      have HW3 := Lib.hid (HW2.out.trans hq)
      have HB3 := Lib.hid (hq.blk HB2.out (by decide) hnb)
      clear hq
      clear e0 e1 e2 e3 e4 e5 e6
      have e0 := HB3.out.cell 0 _ rfl; have e1 := HB3.out.cell 1 _ rfl; have e2 := HB3.out.cell 2 _ rfl; have e3 := HB3.out.cell 3 _ rfl; have e4 := HB3.out.cell 4 _ rfl; have e5 := HB3.out.cell 5 _ rfl; have e6 := HB3.out.cell 6 _ rfl
      go_wp2_with fail
      refine ⟨⟨k + 1, r, _, cs1 ++ [(.int .i64 6), (.int .i64 p), (str []), nilp, (ptr bv), nils, nils], cs', by go_num, by simp only [S.len] at hk; omega, by rw [HCSE.out]; simp, by simp [hl1]; omega, hr, HW3.out, ?_, hal, hwf.2⟩, by simp [intOf]; omega⟩
      rw [← HTX.out]
      simp [stmtsT]
    | whil p x y r =>
      obtain ⟨uv, a1, c1, ts, cs', rfl, hx, hc1, hr1, hs1, hr⟩ := hat
      obtain ⟨bv, rfl⟩ := EAt.ptrX hwf.1.1.2 hx
      simp only [AllS] at hal
      have HX := Lib.hid hx
      have HSL := Lib.hid (show SlAt w F y (.slice a1 y.len c1) from ⟨a1, c1, ts, rfl, hc1, hr1, hs1⟩)
      have HAL := Lib.hid hal.1
      clear hx hr1 hs1
      have hlt : k < s.len := by simp only [S.len] at hk; omega
      have hln := HLN.out
      simp only [stmtsT, List.length_append, List.length_cons, List.length_nil] at hln
      have HLM := Lib.hid hln
      have hts : tab.length ≤ 1099511627776 := by omega
      obtain ⟨t, ht⟩ : ∃ t : ByteArray, t = bs (text x) := ⟨_, rfl⟩
      have hzt : t.size ≤ 1099511627776 := by rw [ht, bs_size]; omega
      have Ht := Lib.hid ht
      clear ht
      clear hln
      have hrw := hwr.row HFB.out HROW.out
      rw [hcse] at hrw
      obtain ⟨bb, off, rfl, d0, d1, d2, d3, d4, d5, d6⟩ := cells7 hrw hl1
      have hz := Blk.new wr #[.int .i64 0, .int .i64 0, str [], nilp, nilp, nils, nils] 83
      obtain ⟨wA, hwA⟩ : ∃ wA, wr.alloc (.cells #[.int .i64 0, .int .i64 0, str [], nilp, nilp, nils, nils] 83) = wA := ⟨_, rfl⟩
      rw [hwA] at hz
      have hcA : Chg [] wr wA := by rw [← hwA]; exact (Chg.refl _ _).alloc _
      obtain ⟨wF, hwF, hcF, hbF⟩ := set7P (.int .i64 3) (.int .i64 p) (str []) nilp (ptr bv) (.slice a1 y.len c1) nils hz
      have hcw : Chg [] wr wF := hcA.trans hcF (fun x hx => .inr (by simp at hx; omega))
      have g0 := hcA.cellSome d0 (by simp); have g1 := hcA.cellSome d1 (by simp); have g2 := hcA.cellSome d2 (by simp); have g3 := hcA.cellSome d3 (by simp); have g4 := hcA.cellSome d4 (by simp); have g5 := hcA.cellSome d5 (by simp); have g6 := hcA.cellSome d6 (by simp)
      have z0 := hz.cell 0 _ rfl; have z1 := hz.cell 1 _ rfl; have z2 := hz.cell 2 _ rfl; have z3 := hz.cell 3 _ rfl; have z4 := hz.cell 4 _ rfl; have z5 := hz.cell 5 _ rfl; have z6 := hz.cell 6 _ rfl
      have y0 := hz.frozen 0; have y1 := hz.frozen 1; have y2 := hz.frozen 2; have y3 := hz.frozen 3; have y4 := hz.frozen 4; have y5 := hz.frozen 5; have y6 := hz.frozen 6
      have hsw := hwr.size
      have HW0 := Lib.hid (hwr.chg (by omega) hcw)
      have HB0 := Lib.hid hbF
      have hnb : wr.heap.size ≠ b := by have := hwr.bd.lt; omega
      have HCSE := Lib.hid hcse
      clear hrw hcA hcF hbF hcw hwr hz hcse
      go_wp2_with fail
      clear hwA hwF d0 d1 d2 d3 d4 d5 d6 g0 g1 g2 g3 g4 g5 g6 z0 z1 z2 z3 z4 z5 z6 y0 y1 y2 y3 y4 y5 y6
      refine (write_any _ (tab) (rfl) HW0.out.bd (by have := HW0.out.size; omega) (by have := HLM.out; simp only [List.length_append, List.length_cons, List.length_nil]; omega)).mono ?_; rintro _ w1 ⟨rfl, hq⟩
      have HW1 := Lib.hid (HW0.out.trans hq)
      have HB1 := Lib.hid (hq.blk HB0.out (by decide) hnb)
      clear hq
      have e0 := HB1.out.cell 0 _ rfl; have e1 := HB1.out.cell 1 _ rfl; have e2 := HB1.out.cell 2 _ rfl; have e3 := HB1.out.cell 3 _ rfl; have e4 := HB1.out.cell 4 _ rfl; have e5 := HB1.out.cell 5 _ rfl; have e6 := HB1.out.cell 6 _ rfl
      go_wp2_with fail
      have hs := said_of hwf.1 HL.out hB HFB.out HX.out HW1.out (by have := HLM.out; omega)
      rw [← Ht.out] at hs
      refine hs.mono ?_; rintro _ w2 ⟨rfl, hq⟩
      have HW2 := Lib.hid (HW1.out.chg (by have := HW1.out.size; omega) hq)
      have HB2 := Lib.hid (HB1.out.kept hq (by simp))
      clear hs
      clear hq
      clear e0 e1 e2 e3 e4 e5 e6
      have e0 := HB2.out.cell 0 _ rfl; have e1 := HB2.out.cell 1 _ rfl; have e2 := HB2.out.cell 2 _ rfl; have e3 := HB2.out.cell 3 _ rfl; have e4 := HB2.out.cell 4 _ rfl; have e5 := HB2.out.cell 5 _ rfl; have e6 := HB2.out.cell 6 _ rfl
      go_wp2_with fail
      refine (write_any _ ([119, 104, 105, 108, 101, 32] ++ text x ++ [32, 100, 111, 10]) (by rw [bs_append, bs_append, ← Ht.out] <;> rfl) HW2.out.bd (by have := HW2.out.size; omega) (by have := HLM.out; simp only [List.length_append, List.length_cons, List.length_nil]; omega)).mono ?_; rintro _ w3 ⟨rfl, hq⟩
      have HW3 := Lib.hid (HW2.out.trans hq)
      have HB3 := Lib.hid (hq.blk HB2.out (by decide) hnb)
      clear hq
      clear e0 e1 e2 e3 e4 e5 e6
      have e0 := HB3.out.cell 0 _ rfl; have e1 := HB3.out.cell 1 _ rfl; have e2 := HB3.out.cell 2 _ rfl; have e3 := HB3.out.cell 3 _ rfl; have e4 := HB3.out.cell 4 _ rfl; have e5 := HB3.out.cell 5 _ rfl; have e6 := HB3.out.cell 6 _ rfl
      go_wp2_with fail
      have hs := HAL.out F (.slice a1 y.len c1) w3 B B0 b _ (tab ++ [32, 32]) (HW3.out.laid HL.out hB) hB (by have := HW3.out.size; omega) HFB.out (HW3.out.sl HFB.out HSL.out) HW3.out.bd (by have := HLM.out; simp only [List.length_append, List.length_cons, List.length_nil]; omega)
      rw [show str (tab ++ [32, 32]) = Value.string (bs tab ++ ⟨#[32, 32]⟩) from congrArg Value.string (bs_append tab [32, 32])] at hs
      refine hs.mono ?_; rintro _ w4 ⟨rfl, hq⟩
      have HW4 := Lib.hid (HW3.out.trans hq)
      have HB4 := Lib.hid (hq.blk HB3.out (by decide) hnb)
      clear hs
      clear hq
      clear e0 e1 e2 e3 e4 e5 e6
      have e0 := HB4.out.cell 0 _ rfl; have e1 := HB4.out.cell 1 _ rfl; have e2 := HB4.out.cell 2 _ rfl; have e3 := HB4.out.cell 3 _ rfl; have e4 := HB4.out.cell 4 _ rfl; have e5 := HB4.out.cell 5 _ rfl; have e6 := HB4.out.cell 6 _ rfl
      go_wp2_with fail
      refine (write_any _ (tab ++ [101, 110, 100, 59, 10]) (by rw [bs_append] <;> rfl) HW4.out.bd (by have := HW4.out.size; omega) (by have := HLM.out; simp only [List.length_append, List.length_cons, List.length_nil]; omega)).mono ?_; rintro _ w5 ⟨rfl, hq⟩
      have HW5 := Lib.hid (HW4.out.trans hq)
      have HB5 := Lib.hid (hq.blk HB4.out (by decide) hnb)
      clear hq
      clear e0 e1 e2 e3 e4 e5 e6
      have e0 := HB5.out.cell 0 _ rfl; have e1 := HB5.out.cell 1 _ rfl; have e2 := HB5.out.cell 2 _ rfl; have e3 := HB5.out.cell 3 _ rfl; have e4 := HB5.out.cell 4 _ rfl; have e5 := HB5.out.cell 5 _ rfl; have e6 := HB5.out.cell 6 _ rfl
      go_wp2_with fail
      refine ⟨⟨k + 1, r, _, cs1 ++ [(.int .i64 3), (.int .i64 p), (str []), nilp, (ptr bv), (.slice a1 y.len c1), nils], cs', by go_num, by simp only [S.len] at hk; omega, by rw [HCSE.out]; simp, by simp [hl1]; omega, hr, HW5.out, ?_, hal.2, hwf.2.2⟩, by simp [intOf]; omega⟩
      rw [← HTX.out]
      simp [stmtsT]
    | ifs p x y z r =>
      cases hzn : z.isNil with
      | true =>
        have hz0 := isNil_len hzn
        subst hz0
        obtain ⟨uv, a1, c1, ts, a2, c2, es, cs', rfl, hx, hc1, hr1, hs1, hc2, hr2, hs2, hr⟩ := hat
        obtain ⟨bv, rfl⟩ := EAt.ptrX hwf.1.1.2 hx
        simp only [AllS] at hal
        have HX := Lib.hid hx
        have HSL := Lib.hid (show SlAt w F y (.slice a1 y.len c1) from ⟨a1, c1, ts, rfl, hc1, hr1, hs1⟩)
        have HSE := Lib.hid (show SlAt w F .nil (.slice a2 0 c2) from ⟨a2, c2, es, rfl, hc2, hr2, hs2⟩)
        have HAL := Lib.hid hal.1
        have HALE := Lib.hid hal.2.1
        clear hx hr1 hs1 hr2 hs2
        have hlt : k < s.len := by simp only [S.len] at hk; omega
        have hln := HLN.out
        simp only [stmtsT_if0, List.length_append, List.length_cons, List.length_nil] at hln
        have HLM := Lib.hid hln
        have hts : tab.length ≤ 1099511627776 := by omega
        obtain ⟨t, ht⟩ : ∃ t : ByteArray, t = bs (text x) := ⟨_, rfl⟩
        have hzt : t.size ≤ 1099511627776 := by rw [ht, bs_size]; omega
        have Ht := Lib.hid ht
        clear ht
        clear hln
        have hrw := hwr.row HFB.out HROW.out
        rw [hcse] at hrw
        obtain ⟨bb, off, rfl, d0, d1, d2, d3, d4, d5, dx⟩ := cells7 hrw hl1
        have d6 : wr.cell? ⟨bb, off + k * 7 + 6, none⟩ = some (.slice a2 0 c2) := dx
        clear dx
        have hz := Blk.new wr #[.int .i64 0, .int .i64 0, str [], nilp, nilp, nils, nils] 83
        obtain ⟨wA, hwA⟩ : ∃ wA, wr.alloc (.cells #[.int .i64 0, .int .i64 0, str [], nilp, nilp, nils, nils] 83) = wA := ⟨_, rfl⟩
        rw [hwA] at hz
        have hcA : Chg [] wr wA := by rw [← hwA]; exact (Chg.refl _ _).alloc _
        obtain ⟨wF, hwF, hcF, hbF⟩ := set7P (.int .i64 2) (.int .i64 p) (str []) nilp (ptr bv) (.slice a1 y.len c1) (.slice a2 0 c2) hz
        have hcw : Chg [] wr wF := hcA.trans hcF (fun x hx => .inr (by simp at hx; omega))
        have g0 := hcA.cellSome d0 (by simp); have g1 := hcA.cellSome d1 (by simp); have g2 := hcA.cellSome d2 (by simp); have g3 := hcA.cellSome d3 (by simp); have g4 := hcA.cellSome d4 (by simp); have g5 := hcA.cellSome d5 (by simp); have g6 := hcA.cellSome d6 (by simp)
        have z0 := hz.cell 0 _ rfl; have z1 := hz.cell 1 _ rfl; have z2 := hz.cell 2 _ rfl; have z3 := hz.cell 3 _ rfl; have z4 := hz.cell 4 _ rfl; have z5 := hz.cell 5 _ rfl; have z6 := hz.cell 6 _ rfl
        have y0 := hz.frozen 0; have y1 := hz.frozen 1; have y2 := hz.frozen 2; have y3 := hz.frozen 3; have y4 := hz.frozen 4; have y5 := hz.frozen 5; have y6 := hz.frozen 6
        have hsw := hwr.size
        have HW0 := Lib.hid (hwr.chg (by omega) hcw)
        have HB0 := Lib.hid hbF
        have hnb : wr.heap.size ≠ b := by have := hwr.bd.lt; omega
        have HCSE := Lib.hid hcse
        clear hrw hcA hcF hbF hcw hwr hz hcse
        go_wp2_with fail
        clear hwA hwF d0 d1 d2 d3 d4 d5 d6 g0 g1 g2 g3 g4 g5 g6 z0 z1 z2 z3 z4 z5 z6 y0 y1 y2 y3 y4 y5 y6
        refine (write_any _ (tab) (rfl) HW0.out.bd (by have := HW0.out.size; omega) (by have := HLM.out; simp only [List.length_append, List.length_cons, List.length_nil]; omega)).mono ?_; rintro _ w1 ⟨rfl, hq⟩
        have HW1 := Lib.hid (HW0.out.trans hq)
        have HB1 := Lib.hid (hq.blk HB0.out (by decide) hnb)
        clear hq
        have e0 := HB1.out.cell 0 _ rfl; have e1 := HB1.out.cell 1 _ rfl; have e2 := HB1.out.cell 2 _ rfl; have e3 := HB1.out.cell 3 _ rfl; have e4 := HB1.out.cell 4 _ rfl; have e5 := HB1.out.cell 5 _ rfl; have e6 := HB1.out.cell 6 _ rfl
        go_wp2_with fail
        have hs := said_of hwf.1 HL.out hB HFB.out HX.out HW1.out (by have := HLM.out; omega)
        rw [← Ht.out] at hs
        refine hs.mono ?_; rintro _ w2 ⟨rfl, hq⟩
        have HW2 := Lib.hid (HW1.out.chg (by have := HW1.out.size; omega) hq)
        have HB2 := Lib.hid (HB1.out.kept hq (by simp))
        clear hs
        clear hq
        clear e0 e1 e2 e3 e4 e5 e6
        have e0 := HB2.out.cell 0 _ rfl; have e1 := HB2.out.cell 1 _ rfl; have e2 := HB2.out.cell 2 _ rfl; have e3 := HB2.out.cell 3 _ rfl; have e4 := HB2.out.cell 4 _ rfl; have e5 := HB2.out.cell 5 _ rfl; have e6 := HB2.out.cell 6 _ rfl
        go_wp2_with fail
        refine (write_any _ ([105, 102, 32] ++ text x ++ [32, 116, 104, 101, 110, 10]) (by rw [bs_append, bs_append, ← Ht.out] <;> rfl) HW2.out.bd (by have := HW2.out.size; omega) (by have := HLM.out; simp only [List.length_append, List.length_cons, List.length_nil]; omega)).mono ?_; rintro _ w3 ⟨rfl, hq⟩
        have HW3 := Lib.hid (HW2.out.trans hq)
        have HB3 := Lib.hid (hq.blk HB2.out (by decide) hnb)
        clear hq
        clear e0 e1 e2 e3 e4 e5 e6
        have e0 := HB3.out.cell 0 _ rfl; have e1 := HB3.out.cell 1 _ rfl; have e2 := HB3.out.cell 2 _ rfl; have e3 := HB3.out.cell 3 _ rfl; have e4 := HB3.out.cell 4 _ rfl; have e5 := HB3.out.cell 5 _ rfl; have e6 := HB3.out.cell 6 _ rfl
        go_wp2_with fail
        have hs := HAL.out F (.slice a1 y.len c1) w3 B B0 b _ (tab ++ [32, 32]) (HW3.out.laid HL.out hB) hB (by have := HW3.out.size; omega) HFB.out (HW3.out.sl HFB.out HSL.out) HW3.out.bd (by have := HLM.out; simp only [List.length_append, List.length_cons, List.length_nil]; omega)
        rw [show str (tab ++ [32, 32]) = Value.string (bs tab ++ ⟨#[32, 32]⟩) from congrArg Value.string (bs_append tab [32, 32])] at hs
        refine hs.mono ?_; rintro _ w4 ⟨rfl, hq⟩
        have HW4 := Lib.hid (HW3.out.trans hq)
        have HB4 := Lib.hid (hq.blk HB3.out (by decide) hnb)
        clear hs
        clear hq
        clear e0 e1 e2 e3 e4 e5 e6
        have e0 := HB4.out.cell 0 _ rfl; have e1 := HB4.out.cell 1 _ rfl; have e2 := HB4.out.cell 2 _ rfl; have e3 := HB4.out.cell 3 _ rfl; have e4 := HB4.out.cell 4 _ rfl; have e5 := HB4.out.cell 5 _ rfl; have e6 := HB4.out.cell 6 _ rfl
        go_wp2_with fail
        refine (write_any _ (tab ++ [101, 110, 100, 59, 10]) (by rw [bs_append] <;> rfl) HW4.out.bd (by have := HW4.out.size; omega) (by have := HLM.out; simp only [List.length_append, List.length_cons, List.length_nil]; omega)).mono ?_; rintro _ w5 ⟨rfl, hq⟩
        have HW5 := Lib.hid (HW4.out.trans hq)
        have HB5 := Lib.hid (hq.blk HB4.out (by decide) hnb)
        clear hq
        clear e0 e1 e2 e3 e4 e5 e6
        have e0 := HB5.out.cell 0 _ rfl; have e1 := HB5.out.cell 1 _ rfl; have e2 := HB5.out.cell 2 _ rfl; have e3 := HB5.out.cell 3 _ rfl; have e4 := HB5.out.cell 4 _ rfl; have e5 := HB5.out.cell 5 _ rfl; have e6 := HB5.out.cell 6 _ rfl
        go_wp2_with fail
        refine ⟨⟨k + 1, r, _, cs1 ++ [(.int .i64 2), (.int .i64 p), (str []), nilp, (ptr bv), (.slice a1 y.len c1), (.slice a2 0 c2)], cs', by go_num, by simp only [S.len] at hk; omega, by rw [HCSE.out]; simp [S.len], by simp [hl1]; omega, hr, HW5.out, ?_, hal.2.2, hwf.2.2⟩, by simp [intOf]; omega⟩
        rw [← HTX.out]
        simp [stmtsT_if0]
      | false =>
        have hzl : 0 < z.len := by cases z <;> simp_all [S.isNil, S.len]
        obtain ⟨uv, a1, c1, ts, a2, c2, es, cs', rfl, hx, hc1, hr1, hs1, hc2, hr2, hs2, hr⟩ := hat
        obtain ⟨bv, rfl⟩ := EAt.ptrX hwf.1.1.2 hx
        simp only [AllS] at hal
        have HX := Lib.hid hx
        have HSL := Lib.hid (show SlAt w F y (.slice a1 y.len c1) from ⟨a1, c1, ts, rfl, hc1, hr1, hs1⟩)
        have HSE := Lib.hid (show SlAt w F z (.slice a2 z.len c2) from ⟨a2, c2, es, rfl, hc2, hr2, hs2⟩)
        have HAL := Lib.hid hal.1
        have HALE := Lib.hid hal.2.1
        clear hx hr1 hs1 hr2 hs2
        have hlt : k < s.len := by simp only [S.len] at hk; omega
        have hln := HLN.out
        simp only [stmtsT_if1 _ _ _ _ _ _ hzn, List.length_append, List.length_cons, List.length_nil] at hln
        have HLM := Lib.hid hln
        have hts : tab.length ≤ 1099511627776 := by omega
        obtain ⟨t, ht⟩ : ∃ t : ByteArray, t = bs (text x) := ⟨_, rfl⟩
        have hzt : t.size ≤ 1099511627776 := by rw [ht, bs_size]; omega
        have Ht := Lib.hid ht
        clear ht
        clear hln
        have hrw := hwr.row HFB.out HROW.out
        rw [hcse] at hrw
        obtain ⟨bb, off, rfl, d0, d1, d2, d3, d4, d5, d6⟩ := cells7 hrw hl1
        have hz := Blk.new wr #[.int .i64 0, .int .i64 0, str [], nilp, nilp, nils, nils] 83
        obtain ⟨wA, hwA⟩ : ∃ wA, wr.alloc (.cells #[.int .i64 0, .int .i64 0, str [], nilp, nilp, nils, nils] 83) = wA := ⟨_, rfl⟩
        rw [hwA] at hz
        have hcA : Chg [] wr wA := by rw [← hwA]; exact (Chg.refl _ _).alloc _
        obtain ⟨wF, hwF, hcF, hbF⟩ := set7P (.int .i64 2) (.int .i64 p) (str []) nilp (ptr bv) (.slice a1 y.len c1) (.slice a2 z.len c2) hz
        have hcw : Chg [] wr wF := hcA.trans hcF (fun x hx => .inr (by simp at hx; omega))
        have g0 := hcA.cellSome d0 (by simp); have g1 := hcA.cellSome d1 (by simp); have g2 := hcA.cellSome d2 (by simp); have g3 := hcA.cellSome d3 (by simp); have g4 := hcA.cellSome d4 (by simp); have g5 := hcA.cellSome d5 (by simp); have g6 := hcA.cellSome d6 (by simp)
        have z0 := hz.cell 0 _ rfl; have z1 := hz.cell 1 _ rfl; have z2 := hz.cell 2 _ rfl; have z3 := hz.cell 3 _ rfl; have z4 := hz.cell 4 _ rfl; have z5 := hz.cell 5 _ rfl; have z6 := hz.cell 6 _ rfl
        have y0 := hz.frozen 0; have y1 := hz.frozen 1; have y2 := hz.frozen 2; have y3 := hz.frozen 3; have y4 := hz.frozen 4; have y5 := hz.frozen 5; have y6 := hz.frozen 6
        have hsw := hwr.size
        have HW0 := Lib.hid (hwr.chg (by omega) hcw)
        have HB0 := Lib.hid hbF
        have hnb : wr.heap.size ≠ b := by have := hwr.bd.lt; omega
        have HCSE := Lib.hid hcse
        clear hrw hcA hcF hbF hcw hwr hz hcse
        go_wp2_with fail
        clear hwA hwF d0 d1 d2 d3 d4 d5 d6 g0 g1 g2 g3 g4 g5 g6 z0 z1 z2 z3 z4 z5 z6 y0 y1 y2 y3 y4 y5 y6
        refine (write_any _ (tab) (rfl) HW0.out.bd (by have := HW0.out.size; omega) (by have := HLM.out; simp only [List.length_append, List.length_cons, List.length_nil]; omega)).mono ?_; rintro _ w1 ⟨rfl, hq⟩
        have HW1 := Lib.hid (HW0.out.trans hq)
        have HB1 := Lib.hid (hq.blk HB0.out (by decide) hnb)
        clear hq
        have e0 := HB1.out.cell 0 _ rfl; have e1 := HB1.out.cell 1 _ rfl; have e2 := HB1.out.cell 2 _ rfl; have e3 := HB1.out.cell 3 _ rfl; have e4 := HB1.out.cell 4 _ rfl; have e5 := HB1.out.cell 5 _ rfl; have e6 := HB1.out.cell 6 _ rfl
        go_wp2_with fail
        have hs := said_of hwf.1 HL.out hB HFB.out HX.out HW1.out (by have := HLM.out; omega)
        rw [← Ht.out] at hs
        refine hs.mono ?_; rintro _ w2 ⟨rfl, hq⟩
        have HW2 := Lib.hid (HW1.out.chg (by have := HW1.out.size; omega) hq)
        have HB2 := Lib.hid (HB1.out.kept hq (by simp))
        clear hs
        clear hq
        clear e0 e1 e2 e3 e4 e5 e6
        have e0 := HB2.out.cell 0 _ rfl; have e1 := HB2.out.cell 1 _ rfl; have e2 := HB2.out.cell 2 _ rfl; have e3 := HB2.out.cell 3 _ rfl; have e4 := HB2.out.cell 4 _ rfl; have e5 := HB2.out.cell 5 _ rfl; have e6 := HB2.out.cell 6 _ rfl
        go_wp2_with fail
        refine (write_any _ ([105, 102, 32] ++ text x ++ [32, 116, 104, 101, 110, 10]) (by rw [bs_append, bs_append, ← Ht.out] <;> rfl) HW2.out.bd (by have := HW2.out.size; omega) (by have := HLM.out; simp only [List.length_append, List.length_cons, List.length_nil]; omega)).mono ?_; rintro _ w3 ⟨rfl, hq⟩
        have HW3 := Lib.hid (HW2.out.trans hq)
        have HB3 := Lib.hid (hq.blk HB2.out (by decide) hnb)
        clear hq
        clear e0 e1 e2 e3 e4 e5 e6
        have e0 := HB3.out.cell 0 _ rfl; have e1 := HB3.out.cell 1 _ rfl; have e2 := HB3.out.cell 2 _ rfl; have e3 := HB3.out.cell 3 _ rfl; have e4 := HB3.out.cell 4 _ rfl; have e5 := HB3.out.cell 5 _ rfl; have e6 := HB3.out.cell 6 _ rfl
        go_wp2_with fail
        have hs := HAL.out F (.slice a1 y.len c1) w3 B B0 b _ (tab ++ [32, 32]) (HW3.out.laid HL.out hB) hB (by have := HW3.out.size; omega) HFB.out (HW3.out.sl HFB.out HSL.out) HW3.out.bd (by have := HLM.out; simp only [List.length_append, List.length_cons, List.length_nil]; omega)
        rw [show str (tab ++ [32, 32]) = Value.string (bs tab ++ ⟨#[32, 32]⟩) from congrArg Value.string (bs_append tab [32, 32])] at hs
        refine hs.mono ?_; rintro _ w4 ⟨rfl, hq⟩
        have HW4 := Lib.hid (HW3.out.trans hq)
        have HB4 := Lib.hid (hq.blk HB3.out (by decide) hnb)
        clear hs
        clear hq
        clear e0 e1 e2 e3 e4 e5 e6
        have e0 := HB4.out.cell 0 _ rfl; have e1 := HB4.out.cell 1 _ rfl; have e2 := HB4.out.cell 2 _ rfl; have e3 := HB4.out.cell 3 _ rfl; have e4 := HB4.out.cell 4 _ rfl; have e5 := HB4.out.cell 5 _ rfl; have e6 := HB4.out.cell 6 _ rfl
        go_wp2_with fail
        refine (write_any _ (tab ++ [101, 108, 115, 101, 10]) (by rw [bs_append] <;> rfl) HW4.out.bd (by have := HW4.out.size; omega) (by have := HLM.out; simp only [List.length_append, List.length_cons, List.length_nil]; omega)).mono ?_; rintro _ w5 ⟨rfl, hq⟩
        have HW5 := Lib.hid (HW4.out.trans hq)
        have HB5 := Lib.hid (hq.blk HB4.out (by decide) hnb)
        clear hq
        clear e0 e1 e2 e3 e4 e5 e6
        have e0 := HB5.out.cell 0 _ rfl; have e1 := HB5.out.cell 1 _ rfl; have e2 := HB5.out.cell 2 _ rfl; have e3 := HB5.out.cell 3 _ rfl; have e4 := HB5.out.cell 4 _ rfl; have e5 := HB5.out.cell 5 _ rfl; have e6 := HB5.out.cell 6 _ rfl
        go_wp2_with fail
        have hs := HALE.out F (.slice a2 z.len c2) w5 B B0 b _ (tab ++ [32, 32]) (HW5.out.laid HL.out hB) hB (by have := HW5.out.size; omega) HFB.out (HW5.out.sl HFB.out HSE.out) HW5.out.bd (by have := HLM.out; simp only [List.length_append, List.length_cons, List.length_nil]; omega)
        rw [show str (tab ++ [32, 32]) = Value.string (bs tab ++ ⟨#[32, 32]⟩) from congrArg Value.string (bs_append tab [32, 32])] at hs
        refine hs.mono ?_; rintro _ w6 ⟨rfl, hq⟩
        have HW6 := Lib.hid (HW5.out.trans hq)
        have HB6 := Lib.hid (hq.blk HB5.out (by decide) hnb)
        clear hs
        clear hq
        clear e0 e1 e2 e3 e4 e5 e6
        have e0 := HB6.out.cell 0 _ rfl; have e1 := HB6.out.cell 1 _ rfl; have e2 := HB6.out.cell 2 _ rfl; have e3 := HB6.out.cell 3 _ rfl; have e4 := HB6.out.cell 4 _ rfl; have e5 := HB6.out.cell 5 _ rfl; have e6 := HB6.out.cell 6 _ rfl
        go_wp2_with fail
        refine (write_any _ (tab ++ [101, 110, 100, 59, 10]) (by rw [bs_append] <;> rfl) HW6.out.bd (by have := HW6.out.size; omega) (by have := HLM.out; simp only [List.length_append, List.length_cons, List.length_nil]; omega)).mono ?_; rintro _ w7 ⟨rfl, hq⟩
        have HW7 := Lib.hid (HW6.out.trans hq)
        have HB7 := Lib.hid (hq.blk HB6.out (by decide) hnb)
        clear hq
        clear e0 e1 e2 e3 e4 e5 e6
        have e0 := HB7.out.cell 0 _ rfl; have e1 := HB7.out.cell 1 _ rfl; have e2 := HB7.out.cell 2 _ rfl; have e3 := HB7.out.cell 3 _ rfl; have e4 := HB7.out.cell 4 _ rfl; have e5 := HB7.out.cell 5 _ rfl; have e6 := HB7.out.cell 6 _ rfl
        go_wp2_with fail
        refine ⟨⟨k + 1, r, _, cs1 ++ [(.int .i64 2), (.int .i64 p), (str []), nilp, (ptr bv), (.slice a1 y.len c1), (.slice a2 z.len c2)], cs', by go_num, by simp only [S.len] at hk; omega, by rw [HCSE.out]; simp, by simp [hl1]; omega, hr, HW7.out, ?_, hal.2.2, hwf.2.2⟩, by simp [intOf]; omega⟩
        rw [← HTX.out]
        simp [stmtsT_if1 _ _ _ _ _ _ hzn]
/-- Statements, all that the parser tells. -/
theorem stmts_all : ∀ (s : S) (d : Nat), WFS d s → StmtsOK s ∧ AllS StmtsOK s
  | .nil, d, h => ⟨stmts_ok .nil d h trivial, trivial⟩
  | .set _ _ _ _ r, d, h => have q : AllS StmtsOK (.set _ _ _ _ r) := (stmts_all r d h.2.2.2).2; ⟨stmts_ok _ d h q, q⟩
  | .ifs _ _ t e r, d, h => have q : AllS StmtsOK (.ifs _ _ t e r) := ⟨(stmts_all t (d - 1) h.2.1.1.2).1, (stmts_all e (d - 1) h.2.1.2.2).1, (stmts_all r d h.2.2).2⟩; ⟨stmts_ok _ d h q, q⟩
  | .whil _ _ t r, d, h => have q : AllS StmtsOK (.whil _ _ t r) := ⟨(stmts_all t (d - 1) h.2.1.2).1, (stmts_all r d h.2.2).2⟩; ⟨stmts_ok _ d h q, q⟩
  | .ret _ _ r, d, h => have q : AllS StmtsOK (.ret _ _ r) := (stmts_all r d h.2).2; ⟨stmts_ok _ d h q, q⟩
  | .wri _ _ r, d, h => have q : AllS StmtsOK (.wri _ _ r) := (stmts_all r d h.2).2; ⟨stmts_ok _ d h q, q⟩
  | .call _ _ r, d, h => have q : AllS StmtsOK (.call _ _ r) := (stmts_all r d h.2).2; ⟨stmts_ok _ d h q, q⟩
end Go.Proofs.YtdlhjcnmpcligaaDoor
