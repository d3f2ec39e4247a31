/- The parser's named, over what expr does. -/
import Derived.Test.YtgnfhognbpifiaaGreatDoorTreeA
namespace Go.Mq.Tree
open Go Go.RowKit Go.Mq
/-- What stands behind a name. -/
def namedR (z : Nat) (ex : Ps E) (p : Nat) (q : List UInt8 × List UInt8) : Ps E := fun r => if see [91] r then match ex r.tail with
    | .bad e p => .bad e p
    | .ok i r2 => match must z [93] r2 with
      | .bad e p => .bad e p
      | .ok _ r3 => .ok (.item p q.1 q.2 i) r3
  else if see [40] r then match argsL z ex (r.length + 1) true [] r.tail with
    | .bad e p => .bad e p
    | .ok l r2 => .ok (.app p q.1 q.2 (E.ofList l)) r2
  else .ok (.var p q.1 q.2) r
theorem named_eq (z : Nat) (ex : Ps E) (ts : List Tok) : named z ex ts = match qual z ts with
    | .bad e p => .bad e p
    | .ok q r => namedR z ex (hd z ts) q r := rfl
theorem qual_eats (z : Nat) : Eats (qual z) := by
  intro ts a r h
  rw [qual] at h
  cases h1 : name z ts with
  | bad e p => rw [h1] at h; cases h
  | ok n r1 =>
    rw [h1] at h
    have g1 := name_len h1
    simp only at h
    split at h
    · rename_i hs
      have g2 := see_tail hs
      cases h2 : name z r1.tail with
      | bad e p => rw [h2] at h; cases h
      | ok n2 r2 =>
        rw [h2] at h
        have g3 := name_len h2
        cases h
        omega
    · cases h; omega
theorem must_len {z : Nat} {s : List UInt8} {ts r : List Tok} {u : Unit} (h : must z s ts = .ok u r) : r.length + 1 = ts.length := by
  rw [must] at h
  split at h
  · rename_i hs; cases h; exact see_tail hs
  · cases h
theorem namedR_mono {z : Nat} {ex : Ps E} (he : Eats ex) (p : Nat) (q : List UInt8 × List UInt8) : Mono (namedR z ex p q) := by
  intro ts a r h
  rw [namedR] at h
  split at h
  · cases h1 : ex ts.tail with
    | bad e p => rw [h1] at h; cases h
    | ok i r2 =>
      rw [h1] at h
      have g1 := he _ _ _ h1
      cases h2 : must z [93] r2 with
      | bad e p => simp only [h2] at h; cases h
      | ok u r3 =>
        simp only [h2] at h
        have g2 := must_len h2
        cases h
        simp at g1
        omega
  · split at h
    · cases h1 : argsL z ex (ts.length + 1) true [] ts.tail with
      | bad e p => rw [h1] at h; cases h
      | ok l r2 =>
        rw [h1] at h
        have g1 := argsL_mono he _ _ _ _ _ _ h1
        cases h
        simp at g1
        omega
    · cases h; exact Nat.le_refl _
theorem named_eats {z : Nat} {ex : Ps E} (he : Eats ex) : Eats (named z ex) := by
  intro ts a r h
  rw [named_eq] at h
  cases h1 : qual z ts with
  | bad e p => rw [h1] at h; cases h
  | ok q r1 =>
    rw [h1] at h
    have g1 := qual_eats z _ _ _ h1
    have g2 := namedR_mono he _ _ _ _ _ h
    omega
/-- New blocks but for the first. -/
def Off6 (w wr : World) : Nat → Prop := fun b => w.heap.size ≤ b ∧ b < wr.heap.size ∧ b ≠ w.heap.size
end Go.Mq.Tree
namespace Go.Proofs.YtgnfhognbpifiaaGreatDoor
open Go Go.RowKit Go.Mq Go.Mq.Tree
set_option maxRecDepth 100000
set_option maxHeartbeats 8000000
theorem par_at {w : World} {B bp bt z : Nat} {ts : List Tok} (h : Par w B bp bt z ts) : ∃ off c n, w.cell? ⟨bp, 0, none⟩ = some (.slice (some ⟨bt, off, none⟩) (n + 1) c) ∧ w.cell? ⟨bt, off + 2, none⟩ = some (.int .i64 (hd z ts)) := by
  cases ts with
  | nil => obtain ⟨off, c, c0, _, c2, _⟩ := par_nil h; exact ⟨off, c, 0, c0, c2⟩
  | cons t r => obtain ⟨off, c, _, c0, _, _, c2, _⟩ := par_cons h; exact ⟨off, c, r.length + 1, c0, c2⟩
theorem named_any (deep : Nat) (hdp : deep ≤ 11) (ex : Nat → Ps E) (hE : ExOK 0 (deep + 1) ex) (heats : ∀ z, Eats (ex z)) (w : World) (B bp bt z : Nat) (ts : List Tok) (h : Par w B bp bt z ts) :
    Calls Tryz.prog 109 #[ptr bp, .int .i64 deep] w (Ended w B bp bt z (named z (ex z) ts) (EV w)) := by
  have HE := Lib.hid (ex_next hE)
  have H := Lib.hid h
  obtain ⟨off, c, nn, c0, c2⟩ := par_at h
  have hB := h.laid.le
  have hbp := h.bp_lt
  have hbt := h.bt_lt
  have hwr := wrap_next hdp
  have hxb : w.heap.size ≠ bp := by omega
  have hxt : w.heap.size ≠ bt := by omega
  clear h
  go_enter Tryz.func109, Tryz.ntmps109
  go_wp2_with fail
  have hc1 : Chg [bp] w (w.alloc (.cells #[.int .i64 2, .int .i64 (hd z ts), .int .i64 0, str [], str [], str [], nilp, nilp, nils] 94)) := (Chg.refl _ _).alloc _
  have hp1 : Par (w.alloc (.cells #[.int .i64 2, .int .i64 (hd z ts), .int .i64 0, str [], str [], str [], nilp, nilp, nils] 94)) B bp bt z ts := H.out.kept ((Chg.refl [] w).alloc _) (by simp) (by simp) (by simp)
  have hb1 := Blk.new w #[.int .i64 2, .int .i64 (hd z ts), .int .i64 0, str [], str [], str [], nilp, nilp, nils] 94
  have HN1 := Lib.hid (name_any _ B bp bt z ts hp1)
  have HC1 := Lib.hid hc1; have HB1 := Lib.hid hb1
  clear hc1 hp1 hb1
  cases hn : name z ts with
  | bad en p =>
    have HRR := Lib.hid (show named z (ex z) ts = .bad en p by rw [named_eq, qual, hn])
    rw [hn] at HN1
    clear hn
    refine HN1.out.mono ?_; intro e w6 he
    have HEE := Lib.hid he
    obtain ⟨b, rfl⟩ := he.thrown
    clear he
    go_wp2_with fail
    refine ⟨rfl, ?_⟩
    rw [HRR.out]
    exact HEE.out.relay (HC1.out)
  | ok n r =>
    have HQN := Lib.hid hn
    rw [hn] at HN1
    clear hn
    refine HN1.out.mono ?_; rintro e w2 ⟨hc2, _, rfl, rfl, hp2⟩
    have hb2 := HB1.out.kept hc2 (by simpa using hxb)
    have f4 := hb2.frozen 4; have e4 := hb2.cell 4 _ rfl
    have hb3 := hb2.set 4 (str n)
    have hc3 := Chg.set1 w2 w.heap.size 4 (str n)
    have hwc3 : Chg [bp] w (w2.setCell ⟨w.heap.size, 4, none⟩ (str n)) := (HC1.out.then hc2).trans hc3 (fun x hx => .inr (by simp at hx; omega))
    have hp3 := hp2.kept hc3 (fun x hx => by simp at hx; omega) (by simpa using Ne.symm hxb) (by simp; omega)
    have HB3 := Lib.hid hb3; have HWC3 := Lib.hid hwc3; have HP3 := Lib.hid hp3
    clear hc2 hp2 hb2 hb3 hc3 hwc3 hp3
    go_wp2_with fail
    generalize w2.setCell ⟨w.heap.size, 4, none⟩ (str n) = w3 at *
    have HT4 := Lib.hid (take_any [46] w3 B bp bt z r HP3.out)
    cases h4 : see [46] r with
    | false =>
      have HI4 := Lib.hid h4
      obtain ⟨q, hq⟩ : ∃ q : List UInt8 × List UInt8, q = ([], n) := ⟨_, rfl⟩
      have HN : Hid (named z (ex z) ts = namedR z (ex z) (hd z ts) q r) := Lib.hid (by rw [named_eq, qual, HQN.out]; simp only [h4, hq]; rfl)
      clear h4
      refine HT4.out.mono ?_; rintro _ w4 ⟨rfl, _, _, hw⟩
      rw [HI4.out]
      have hw' := (hw HI4.out).symm; subst hw'; clear hw
      have HQ : Hid (Blk w3 w.heap.size #[.int .i64 2, .int .i64 (hd z ts), .int .i64 0, str q.1, str q.2, str [], nilp, nilp, nils] 94) := Lib.hid (by rw [hq]; simpa using HB3.out)
      have hb5 := Lib.hid HQ.out.lt
      clear hq
      have HT5 := Lib.hid (take_any [91] w3 B bp bt z r HP3.out)
      cases h5 : see [91] r with
      | true =>
        have HI5 := Lib.hid h5
        have h5t := see_tail h5
        clear h5
        first | refine HT5.out.mono ?_ | (go_wp2_with fail; refine HT5.out.mono ?_)
        rintro _ w5 ⟨rfl, hp5, hc5, _⟩
        rw [HI5.out]
        rw [skip, HI5.out, if_pos rfl] at hp5
        have HP5 := Lib.hid hp5; have HC5 := Lib.hid hc5
        clear hp5 hc5
        have HEX := Lib.hid (HE.out w5 B bp bt z r.tail HP5.out)
        cases hx : ex z r.tail with
        | bad en p =>
          have HRR := Lib.hid (show named z (ex z) ts = .bad en p by rw [HN.out, namedR, if_pos HI5.out, hx])
          rw [hx] at HEX
          clear hx
          go_wp2_with fail
          refine HEX.out.mono ?_; intro e w6 he
          have HEE := Lib.hid he
          obtain ⟨b, rfl⟩ := he.thrown
          clear he
          go_wp2_with fail
          refine ⟨rfl, ?_⟩
          rw [HRR.out]
          exact HEE.out.relay (HWC3.out.then HC5.out)
        | ok i r6 =>
          have HX := Lib.hid hx
          rw [HX.out] at HEX
          clear hx
          go_wp2_with fail
          refine HEX.out.mono ?_; rintro e w6 ⟨hc6, v6, rfl, hv6, hp6⟩
          obtain ⟨b6, rfl⟩ := hv6.ptr
          have HC6 := Lib.hid hc6; have HV6 := Lib.hid hv6; have HP6 := Lib.hid hp6
          have hb6 := HQ.out.kept (HC5.out.then hc6) (by simpa using hxb)
          have f60 := hb6.frozen 0; have f66 := hb6.frozen 6; have e60 := hb6.cell 0 _ rfl; have e66 := hb6.cell 6 _ rfl
          have hb7 := (hb6.set 0 (.int .i64 3)).set 6 (ptr b6)
          have hc7 : Chg [w.heap.size] w6 ((w6.setCell ⟨w.heap.size, 0, none⟩ (.int .i64 3)).setCell ⟨w.heap.size, 6, none⟩ (ptr b6)) := (Chg.set1 _ _ _ _).then (Chg.set1 _ _ _ _)
          have HB7 := Lib.hid hb7; have HC7 := Lib.hid hc7
          have hwc7 : Chg [bp] w ((w6.setCell ⟨w.heap.size, 0, none⟩ (.int .i64 3)).setCell ⟨w.heap.size, 6, none⟩ (ptr b6)) := ((HWC3.out.then HC5.out).then hc6).trans hc7 (fun x hx => .inr (by simp at hx; omega))
          have HWC7 := Lib.hid hwc7
          have hp7 := HP6.out.kept hc7 (fun x hx => by simp at hx; omega) (by simpa using Ne.symm hxb) (by simp; omega)
          have HMU := Lib.hid (must_any [93] _ B bp bt z r6 hp7)
          have HS6 := Lib.hid (show w.heap.size ≤ w5.heap.size from (HWC3.out.then HC5.out).size)
          clear hc6 hv6 hp6 hb6 hb7 hc7 hwc7 hp7
          go_wp2_with fail
          cases h8 : see [93] r6 with
          | false =>
            have HRR := Lib.hid (show named z (ex z) ts = .bad 3 (hd z r6) by rw [HN.out, namedR, if_pos HI5.out, HX.out]; simp [must, h8])
            rw [must, h8, if_neg (by simp)] at HMU
            clear h8
            refine HMU.out.mono ?_; intro e w8 he
            have HEE := Lib.hid he
            obtain ⟨b, rfl⟩ := he.thrown
            clear he
            go_wp2_with fail
            refine ⟨rfl, ?_⟩
            rw [HRR.out]
            exact HEE.out.relay (HWC7.out)
          | true =>
            have HRR := Lib.hid (show named z (ex z) ts = .ok (.item (hd z ts) q.1 q.2 i) r6.tail by rw [HN.out, namedR, if_pos HI5.out, HX.out]; simp [must, h8])
            rw [must, h8, if_pos rfl] at HMU
            clear h8
            refine HMU.out.mono ?_; rintro e w8 ⟨hc8, _, rfl, rfl, hp8⟩
            have HC8 := Lib.hid hc8; have HP8 := Lib.hid hp8
            clear hc8 hp8
            go_wp2_with fail
            go_ret
            rw [HRR.out]
            refine ⟨HWC7.out.then HC8.out, _, rfl, ?_, HP8.out⟩
            have hb8 := HB7.out.kept HC8.out (by simpa using hxb)
            have hi6 : EAt w6 (Off6 w w6) i [ptr b6] := HV6.out.mono fun x hx => ⟨Nat.le_trans HS6.out hx.1, hx.2, by have := hx.1; have := hb5.out; have := HC5.out.size; omega⟩
            have hi7 := hi6.kept HC7.out (fun x hx hn => by simp at hx; exact hn.2.2 hx)
            have hi8 := hi7.kept HC8.out (fun x hx hn => by simp at hx; have := hn.1; omega)
            have hsz : w6.heap.size ≤ w8.heap.size := Nat.le_trans HC7.out.size HC8.out.size
            refine ⟨w.heap.size, ptr b6, rfl, ⟨Nat.le_refl _, hb8.lt⟩, ?_, hi8.mono fun x hx => ⟨hx.1, Nat.lt_of_lt_of_le hx.2.1 hsz⟩⟩
            simpa using hb8
      | false =>
        have HI5 := Lib.hid h5
        clear h5
        have HS5 := Lib.hid (see_any [40] w3 B bp bt z r HP3.out)
        cases h6 : see [40] r with
        | true =>
          have HI6 := Lib.hid h6
          have HAR := Lib.hid (args_any deep hdp ex hE heats w3 B bp bt z r HP3.out h6)
          clear h6
          cases hx : argsL z (ex z) (r.length + 1) true [] r.tail with
          | bad en p =>
            have HRR := Lib.hid (show named z (ex z) ts = .bad en p by rw [HN.out, namedR, if_neg (by rw [HI5.out]; simp), if_pos HI6.out, hx])
            rw [hx] at HAR
            clear hx
            first | refine HT5.out.mono ?_ | (go_wp2_with fail; refine HT5.out.mono ?_)
            rintro _ w5 ⟨rfl, _, _, hw⟩
            rw [HI5.out]
            have hw' := (hw HI5.out).symm; subst hw'; clear hw
            go_wp2_with fail
            refine HS5.out.mono ?_; rintro _ w6 ⟨rfl, rfl⟩
            rw [HI6.out]
            go_wp2_with fail
            refine HAR.out.mono ?_; intro e w6 he
            have HEE := Lib.hid he
            obtain ⟨b, rfl⟩ := he.thrown
            clear he
            go_wp2_with fail
            refine ⟨rfl, ?_⟩
            rw [HRR.out]
            exact HEE.out.relay (HWC3.out)
          | ok l r6 =>
            have HRR := Lib.hid (show named z (ex z) ts = .ok (.app (hd z ts) q.1 q.2 (E.ofList l)) r6 by rw [HN.out, namedR, if_neg (by rw [HI5.out]; simp), if_pos HI6.out, hx])
            rw [hx] at HAR
            clear hx
            first | refine HT5.out.mono ?_ | (go_wp2_with fail; refine HT5.out.mono ?_)
            rintro _ w5 ⟨rfl, _, _, hw⟩
            rw [HI5.out]
            have hw' := (hw HI5.out).symm; subst hw'; clear hw
            go_wp2_with fail
            refine HS5.out.mono ?_; rintro _ w6 ⟨rfl, rfl⟩
            rw [HI6.out]
            go_wp2_with fail
            refine HAR.out.mono ?_; rintro e w6 ⟨hc6, v6, rfl, ⟨a6, c6, vs6, rfl, hv1, hv2, hv3⟩, hp6⟩
            have HC6 := Lib.hid hc6; have HP6 := Lib.hid hp6; have HV6 := Lib.hid (And.intro hv1 (And.intro hv2 hv3))
            have hb6 := HQ.out.kept hc6 (by simpa using hxb)
            have f60 := hb6.frozen 0; have f68 := hb6.frozen 8; have e60 := hb6.cell 0 _ rfl; have e68 := hb6.cell 8 _ rfl
            have hb7 := (hb6.set 0 (.int .i64 6)).set 8 (.slice a6 vs6.length c6)
            have hc7 : Chg [w.heap.size] w6 ((w6.setCell ⟨w.heap.size, 0, none⟩ (.int .i64 6)).setCell ⟨w.heap.size, 8, none⟩ (.slice a6 vs6.length c6)) := (Chg.set1 _ _ _ _).then (Chg.set1 _ _ _ _)
            have HB7 := Lib.hid hb7; have HC7 := Lib.hid hc7
            have HS6 := Lib.hid (show w.heap.size < _ from HQ.out.lt)
            clear hc6 hv1 hv2 hv3 hp6 hb6 hb7 hc7
            go_wp2_with fail
            go_ret
            rw [HRR.out]
            refine ⟨(HWC3.out.then HC6.out).trans HC7.out (fun x hx => .inr (by simp at hx; omega)), _, rfl, ?_, HP6.out.kept HC7.out (fun x hx => by simp at hx; omega) (by simpa using Ne.symm hxb) (by simp; omega)⟩
            obtain ⟨hv1, hv2, hv3⟩ := HV6.out
            have hF : ∀ x, New _ w6 x → Off6 w w6 x := fun x hx => ⟨Nat.le_trans HWC3.out.size hx.1, hx.2, by have := hx.1; have := HS6.out; omega⟩
            have hk : ∀ x ∈ [w.heap.size], ¬ Off6 w w6 x := fun x hx hn => by simp at hx; exact hn.2.2 hx
            have hr7 := (hv2.mono hF).kept HC7.out hk
            have he7 := (EsAt.mono hF hv3).kept HC7.out hk
            have hG : ∀ x, Off6 w w6 x → New w _ x := fun x hx => ⟨hx.1, Nat.lt_of_lt_of_le hx.2.1 HC7.out.size⟩
            refine ⟨w.heap.size, a6, c6, vs6, rfl, ⟨Nat.le_refl _, HB7.out.lt⟩, ?_, hv1, hr7.mono hG, (he7.mono hG).one⟩
            simpa using HB7.out
        | false =>
          have HI6 := Lib.hid h6
          have HRR := Lib.hid (show named z (ex z) ts = .ok (.var (hd z ts) q.1 q.2) r by rw [HN.out, namedR, if_neg (by rw [HI5.out]; simp), if_neg (by rw [h6]; simp)])
          clear h6
          first | refine HT5.out.mono ?_ | (go_wp2_with fail; refine HT5.out.mono ?_)
          rintro _ w5 ⟨rfl, _, _, hw⟩
          rw [HI5.out]
          have hw' := (hw HI5.out).symm; subst hw'; clear hw
          go_wp2_with fail
          refine HS5.out.mono ?_; rintro _ w6 ⟨rfl, rfl⟩
          rw [HI6.out]
          go_wp2_with fail
          go_ret
          rw [HRR.out]
          exact ⟨HWC3.out, _, rfl, ⟨w.heap.size, rfl, ⟨Nat.le_refl _, HQ.out.lt⟩, HQ.out⟩, HP3.out⟩
    | true =>
      have HI4 := Lib.hid h4
      have h4t := see_tail h4
      clear h4
      refine HT4.out.mono ?_; rintro _ w4 ⟨rfl, hp4, hc4, _⟩
      rw [HI4.out]
      rw [skip, HI4.out, if_pos rfl] at hp4
      have hb4 := (HB3.out.kept hc4 (by simpa using hxb)).kept ((Chg.refl [] w4).drew) (by simp)
      have e4d : w4.drew.cell? ⟨w.heap.size, 4, none⟩ = some (str n) := hb4.cell 4 _ rfl
      have HB4 := Lib.hid hb4
      have hwc4 : Chg [bp] w w4.drew := (HWC3.out.then hc4).drew
      have HWC4 := Lib.hid hwc4
      have HN4 := Lib.hid (name_any w4.drew B bp bt z r.tail (hp4.kept ((Chg.refl [] w4).drew) (by simp) (by simp) (by simp)))
      have hag : ∀ w, (isAgg 9).run Tryz.prog w = .ok false w := Tryz.isAgg9
      clear hp4 hc4 hb4 hwc4
      cases hn2 : name z r.tail with
      | bad en p =>
        have HRR := Lib.hid (show named z (ex z) ts = .bad en p by rw [named_eq, qual, HQN.out]; simp only [HI4.out, if_true, hn2])
        rw [hn2] at HN4
        clear hn2
        go_wp2_with fail
        refine wp_region_dead 7 [true, true, true, true, true, true, true] rfl (by kernel_rfl) (by kernel_rfl) rfl ?_
        repeat
          (with_reducible show wpX _ _ _ _ _ _ _ _
           first
             | refine wpX_nil ?_
             | refine wpX_skip rfl ?_
             | refine wpX_mv rfl rfl (by kernel_rfl) (fun _ _ => ?_)
             | refine wpX_ldD rfl rfl rfl (by exact ⟨_, _, e4d⟩) (fun _ _ => ?_)
           go_wp2_with fail)
        refine HN4.out.mono ?_; intro e w6 he
        have HEE := Lib.hid he
        obtain ⟨b, rfl⟩ := he.thrown
        clear he
        intro a' ha
        refine ⟨ha, ?_⟩
        rw [HRR.out]
        exact HEE.out.relay HWC4.out
      | ok n2 r2 =>
        have HN : Hid (named z (ex z) ts = namedR z (ex z) (hd z ts) (n, n2) r2) := Lib.hid (by rw [named_eq, qual, HQN.out]; simp only [HI4.out, if_true, hn2])
        rw [hn2] at HN4
        clear hn2
        go_wp2_with fail
        refine wp_region_XT (fun w' => Chg [bp, w.heap.size] w4.drew w' ∧ w'.cell? ⟨w.heap.size, 4, none⟩ = some (str n)) rfl (by kernel_rfl) rfl ⟨Chg.refl _ _, e4d⟩ ?_
        repeat
          (with_reducible show wpX _ _ _ _ _ _ _ _
           first
             | refine wpX_mv rfl rfl (by kernel_rfl) (fun _ _ => ?_)
           go_wp2_with fail)
        refine wpX_ld1 rfl rfl rfl (str n) hag (fun _ h => h.2) ?_
        repeat
          (with_reducible show wpX _ _ _ _ _ _ _ _
           first
             | refine wpX_mv rfl rfl (by kernel_rfl) (fun _ _ => ?_)
           go_wp2_with fail)
        refine wpX_ef' rfl rfl rfl (fun _ _ => ?_)
        go_wp2_with fail
        refine HN4.out.mono ?_; rintro e w6 ⟨hc6, _, rfl, rfl, hp6⟩
        have hs4 : w.heap.size < w4.drew.heap.size := HB4.out.lt
        have hb6 := HB4.out.kept hc6 (by simpa using hxb)
        have f63 := hb6.frozen 3; have f64 := hb6.frozen 4; have e63 := hb6.cell 3 _ rfl; have e64 := hb6.cell 4 _ rfl
        have HC6 := Lib.hid hc6; have HP6 := Lib.hid hp6; have HB6 := Lib.hid hb6
        clear hc6 hp6 hb6
        go_wp2_with fail
        refine And.intro ⟨HC6.out.mono (fun x hx => .inl (by simp at hx; simp [hx])), e64⟩ ?_
        repeat
          (with_reducible show wpX _ _ _ _ _ _ _ _
           first
             | refine wpX_mv rfl rfl (by kernel_rfl) (fun _ _ => ?_)
           go_wp2_with fail)
        refine wpX_ef' rfl rfl rfl (fun _ _ => ?_)
        go_wp2_with fail
        have hb7 := HB6.out.set 3 (str n)
        have f74 := hb7.frozen 4; have e74 := hb7.cell 4 _ rfl
        have HB7 := Lib.hid hb7
        clear hb7
        refine And.intro ⟨(HC6.out.mono (fun x hx => .inl (by simp at hx; simp [hx]))).setCell _ (.inl (by simp)) _, e74⟩ ?_
        repeat
          (with_reducible show wpX _ _ _ _ _ _ _ _
           first
             | refine wpX_mv rfl rfl (by kernel_rfl) (fun _ _ => ?_)
           go_wp2_with fail)
        refine stepX_ef rfl rfl (fun _ _ => ?_)
        go_wp2_with fail
        have hb8 := HB7.out.set 4 (str n2)
        have hc8 : Chg [w.heap.size] w6 ((w6.setCell ⟨w.heap.size, 3, none⟩ (str n)).setCell ⟨w.heap.size, 4, none⟩ (str n2)) := (Chg.set1 _ _ _ _).then (Chg.set1 _ _ _ _)
        have hwc8 : Chg [bp] w ((w6.setCell ⟨w.heap.size, 3, none⟩ (str n)).setCell ⟨w.heap.size, 4, none⟩ (str n2)) := (HWC4.out.then HC6.out).trans hc8 (fun x hx => .inr (by simp at hx; omega))
        have hp8 := HP6.out.kept hc8 (fun x hx => by simp at hx; omega) (by simpa using Ne.symm hxb) (by simp; omega)
        obtain ⟨q, hq⟩ : ∃ q : List UInt8 × List UInt8, q = (n, n2) := ⟨_, rfl⟩
        have HQ : Hid (Blk ((w6.setCell ⟨w.heap.size, 3, none⟩ (str n)).setCell ⟨w.heap.size, 4, none⟩ (str n2)) w.heap.size #[.int .i64 2, .int .i64 (hd z ts), .int .i64 0, str q.1, str q.2, str [], nilp, nilp, nils] 94) := Lib.hid (by rw [hq]; simpa using hb8)
        rw [← hq] at HN
        have HPQ := Lib.hid hp8; have HCQ := Lib.hid hwc8
        have hb5 := Lib.hid HQ.out.lt
        clear hb8 hc8 hwc8 hp8 f63 f64 e63 e64 f74 e74 hq HB6 HB7
        generalize (w6.setCell ⟨w.heap.size, 3, none⟩ (str n)).setCell ⟨w.heap.size, 4, none⟩ (str n2) = wq at *
        have HT5 := Lib.hid (take_any [91] wq B bp bt z r2 HPQ.out)
        cases h5 : see [91] r2 with
        | true =>
          have HI5 := Lib.hid h5
          have h5t := see_tail h5
          clear h5
          first | refine HT5.out.mono ?_ | (go_wp2_with fail; refine HT5.out.mono ?_)
          rintro _ w5 ⟨rfl, hp5, hc5, _⟩
          rw [HI5.out]
          rw [skip, HI5.out, if_pos rfl] at hp5
          have HP5 := Lib.hid hp5; have HC5 := Lib.hid hc5
          clear hp5 hc5
          have HEX := Lib.hid (HE.out w5 B bp bt z r2.tail HP5.out)
          cases hx : ex z r2.tail with
          | bad en p =>
            have HRR := Lib.hid (show named z (ex z) ts = .bad en p by rw [HN.out, namedR, if_pos HI5.out, hx])
            rw [hx] at HEX
            clear hx
            go_wp2_with fail
            refine HEX.out.mono ?_; intro e w6 he
            have HEE := Lib.hid he
            obtain ⟨b, rfl⟩ := he.thrown
            clear he
            go_wp2_with fail
            refine ⟨rfl, ?_⟩
            rw [HRR.out]
            exact HEE.out.relay (HCQ.out.then HC5.out)
          | ok i r6 =>
            have HX := Lib.hid hx
            rw [HX.out] at HEX
            clear hx
            go_wp2_with fail
            refine HEX.out.mono ?_; rintro e w6 ⟨hc6, v6, rfl, hv6, hp6⟩
            obtain ⟨b6, rfl⟩ := hv6.ptr
            have HC6 := Lib.hid hc6; have HV6 := Lib.hid hv6; have HP6 := Lib.hid hp6
            have hb6 := HQ.out.kept (HC5.out.then hc6) (by simpa using hxb)
            have f60 := hb6.frozen 0; have f66 := hb6.frozen 6; have e60 := hb6.cell 0 _ rfl; have e66 := hb6.cell 6 _ rfl
            have hb7 := (hb6.set 0 (.int .i64 3)).set 6 (ptr b6)
            have hc7 : Chg [w.heap.size] w6 ((w6.setCell ⟨w.heap.size, 0, none⟩ (.int .i64 3)).setCell ⟨w.heap.size, 6, none⟩ (ptr b6)) := (Chg.set1 _ _ _ _).then (Chg.set1 _ _ _ _)
            have HB7 := Lib.hid hb7; have HC7 := Lib.hid hc7
            have hwc7 : Chg [bp] w ((w6.setCell ⟨w.heap.size, 0, none⟩ (.int .i64 3)).setCell ⟨w.heap.size, 6, none⟩ (ptr b6)) := ((HCQ.out.then HC5.out).then hc6).trans hc7 (fun x hx => .inr (by simp at hx; omega))
            have HWC7 := Lib.hid hwc7
            have hp7 := HP6.out.kept hc7 (fun x hx => by simp at hx; omega) (by simpa using Ne.symm hxb) (by simp; omega)
            have HMU := Lib.hid (must_any [93] _ B bp bt z r6 hp7)
            have HS6 := Lib.hid (show w.heap.size ≤ w5.heap.size from (HCQ.out.then HC5.out).size)
            clear hc6 hv6 hp6 hb6 hb7 hc7 hwc7 hp7
            go_wp2_with fail
            cases h8 : see [93] r6 with
            | false =>
              have HRR := Lib.hid (show named z (ex z) ts = .bad 3 (hd z r6) by rw [HN.out, namedR, if_pos HI5.out, HX.out]; simp [must, h8])
              rw [must, h8, if_neg (by simp)] at HMU
              clear h8
              refine HMU.out.mono ?_; intro e w8 he
              have HEE := Lib.hid he
              obtain ⟨b, rfl⟩ := he.thrown
              clear he
              go_wp2_with fail
              refine ⟨rfl, ?_⟩
              rw [HRR.out]
              exact HEE.out.relay (HWC7.out)
            | true =>
              have HRR := Lib.hid (show named z (ex z) ts = .ok (.item (hd z ts) q.1 q.2 i) r6.tail by rw [HN.out, namedR, if_pos HI5.out, HX.out]; simp [must, h8])
              rw [must, h8, if_pos rfl] at HMU
              clear h8
              refine HMU.out.mono ?_; rintro e w8 ⟨hc8, _, rfl, rfl, hp8⟩
              have HC8 := Lib.hid hc8; have HP8 := Lib.hid hp8
              clear hc8 hp8
              go_wp2_with fail
              go_ret
              rw [HRR.out]
              refine ⟨HWC7.out.then HC8.out, _, rfl, ?_, HP8.out⟩
              have hb8 := HB7.out.kept HC8.out (by simpa using hxb)
              have hi6 : EAt w6 (Off6 w w6) i [ptr b6] := HV6.out.mono fun x hx => ⟨Nat.le_trans HS6.out hx.1, hx.2, by have := hx.1; have := hb5.out; have := HC5.out.size; omega⟩
              have hi7 := hi6.kept HC7.out (fun x hx hn => by simp at hx; exact hn.2.2 hx)
              have hi8 := hi7.kept HC8.out (fun x hx hn => by simp at hx; have := hn.1; omega)
              have hsz : w6.heap.size ≤ w8.heap.size := Nat.le_trans HC7.out.size HC8.out.size
              refine ⟨w.heap.size, ptr b6, rfl, ⟨Nat.le_refl _, hb8.lt⟩, ?_, hi8.mono fun x hx => ⟨hx.1, Nat.lt_of_lt_of_le hx.2.1 hsz⟩⟩
              simpa using hb8
        | false =>
          have HI5 := Lib.hid h5
          clear h5
          have HS5 := Lib.hid (see_any [40] wq B bp bt z r2 HPQ.out)
          cases h6 : see [40] r2 with
          | true =>
            have HI6 := Lib.hid h6
            have HAR := Lib.hid (args_any deep hdp ex hE heats wq B bp bt z r2 HPQ.out h6)
            clear h6
            cases hx : argsL z (ex z) (r2.length + 1) true [] r2.tail with
            | bad en p =>
              have HRR := Lib.hid (show named z (ex z) ts = .bad en p by rw [HN.out, namedR, if_neg (by rw [HI5.out]; simp), if_pos HI6.out, hx])
              rw [hx] at HAR
              clear hx
              first | refine HT5.out.mono ?_ | (go_wp2_with fail; refine HT5.out.mono ?_)
              rintro _ w5 ⟨rfl, _, _, hw⟩
              rw [HI5.out]
              have hw' := (hw HI5.out).symm; subst hw'; clear hw
              go_wp2_with fail
              refine HS5.out.mono ?_; rintro _ w6 ⟨rfl, rfl⟩
              rw [HI6.out]
              go_wp2_with fail
              refine HAR.out.mono ?_; intro e w6 he
              have HEE := Lib.hid he
              obtain ⟨b, rfl⟩ := he.thrown
              clear he
              go_wp2_with fail
              refine ⟨rfl, ?_⟩
              rw [HRR.out]
              exact HEE.out.relay (HCQ.out)
            | ok l r6 =>
              have HRR := Lib.hid (show named z (ex z) ts = .ok (.app (hd z ts) q.1 q.2 (E.ofList l)) r6 by rw [HN.out, namedR, if_neg (by rw [HI5.out]; simp), if_pos HI6.out, hx])
              rw [hx] at HAR
              clear hx
              first | refine HT5.out.mono ?_ | (go_wp2_with fail; refine HT5.out.mono ?_)
              rintro _ w5 ⟨rfl, _, _, hw⟩
              rw [HI5.out]
              have hw' := (hw HI5.out).symm; subst hw'; clear hw
              go_wp2_with fail
              refine HS5.out.mono ?_; rintro _ w6 ⟨rfl, rfl⟩
              rw [HI6.out]
              go_wp2_with fail
              refine HAR.out.mono ?_; rintro e w6 ⟨hc6, v6, rfl, ⟨a6, c6, vs6, rfl, hv1, hv2, hv3⟩, hp6⟩
              have HC6 := Lib.hid hc6; have HP6 := Lib.hid hp6; have HV6 := Lib.hid (And.intro hv1 (And.intro hv2 hv3))
              have hb6 := HQ.out.kept hc6 (by simpa using hxb)
              have f60 := hb6.frozen 0; have f68 := hb6.frozen 8; have e60 := hb6.cell 0 _ rfl; have e68 := hb6.cell 8 _ rfl
              have hb7 := (hb6.set 0 (.int .i64 6)).set 8 (.slice a6 vs6.length c6)
              have hc7 : Chg [w.heap.size] w6 ((w6.setCell ⟨w.heap.size, 0, none⟩ (.int .i64 6)).setCell ⟨w.heap.size, 8, none⟩ (.slice a6 vs6.length c6)) := (Chg.set1 _ _ _ _).then (Chg.set1 _ _ _ _)
              have HB7 := Lib.hid hb7; have HC7 := Lib.hid hc7
              have HS6 := Lib.hid (show w.heap.size < _ from HQ.out.lt)
              clear hc6 hv1 hv2 hv3 hp6 hb6 hb7 hc7
              go_wp2_with fail
              go_ret
              rw [HRR.out]
              refine ⟨(HCQ.out.then HC6.out).trans HC7.out (fun x hx => .inr (by simp at hx; omega)), _, rfl, ?_, HP6.out.kept HC7.out (fun x hx => by simp at hx; omega) (by simpa using Ne.symm hxb) (by simp; omega)⟩
              obtain ⟨hv1, hv2, hv3⟩ := HV6.out
              have hF : ∀ x, New _ w6 x → Off6 w w6 x := fun x hx => ⟨Nat.le_trans HCQ.out.size hx.1, hx.2, by have := hx.1; have := HS6.out; omega⟩
              have hk : ∀ x ∈ [w.heap.size], ¬ Off6 w w6 x := fun x hx hn => by simp at hx; exact hn.2.2 hx
              have hr7 := (hv2.mono hF).kept HC7.out hk
              have he7 := (EsAt.mono hF hv3).kept HC7.out hk
              have hG : ∀ x, Off6 w w6 x → New w _ x := fun x hx => ⟨hx.1, Nat.lt_of_lt_of_le hx.2.1 HC7.out.size⟩
              refine ⟨w.heap.size, a6, c6, vs6, rfl, ⟨Nat.le_refl _, HB7.out.lt⟩, ?_, hv1, hr7.mono hG, (he7.mono hG).one⟩
              simpa using HB7.out
          | false =>
            have HI6 := Lib.hid h6
            have HRR := Lib.hid (show named z (ex z) ts = .ok (.var (hd z ts) q.1 q.2) r2 by rw [HN.out, namedR, if_neg (by rw [HI5.out]; simp), if_neg (by rw [h6]; simp)])
            clear h6
            first | refine HT5.out.mono ?_ | (go_wp2_with fail; refine HT5.out.mono ?_)
            rintro _ w5 ⟨rfl, _, _, hw⟩
            rw [HI5.out]
            have hw' := (hw HI5.out).symm; subst hw'; clear hw
            go_wp2_with fail
            refine HS5.out.mono ?_; rintro _ w6 ⟨rfl, rfl⟩
            rw [HI6.out]
            go_wp2_with fail
            go_ret
            rw [HRR.out]
            exact ⟨HCQ.out, _, rfl, ⟨w.heap.size, rfl, ⟨Nat.le_refl _, HQ.out.lt⟩, HQ.out⟩, HPQ.out⟩
end Go.Proofs.YtgnfhognbpifiaaGreatDoor
