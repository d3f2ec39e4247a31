/- The parser's first. -/
import Derived.Test.YtgnfhognbpifiaaGreatDoorTreeW10
namespace Go.Mq.Tree
open Go Go.RowKit Go.Mq
/-- How a method ends that writes into a statement's block: bs'. -/
def EndedS {α : Type} (w : World) (B bp bs' bt z : Nat) (r : R α) (V : World → α → Prop) (e : Ending) (w' : World) : Prop := Chg [bp, bs'] w w' ∧ match r with
  | .ok a ts => e = .returned (.tuple #[]) ∧ V w' a ∧ Par w' B bp bt z ts
  | .bad en p => ∃ b, e = .panicked [{ v := .iface 66 (.agg #[.iface 124 (ptr b)]), recovered := false }] ∧ w.heap.size ≤ b ∧ Blk w' b #[.int .i64 en, .int .i64 p] 126
theorem s1 {a b : World} {bp bs' : Nat} (h : Chg [bp] a b) : Chg [bp, bs'] a b := h.mono fun x hx => .inl (by simp at hx; simp [hx])
theorem s2 {a b : World} {bp bs' : Nat} (h : Chg [bs'] a b) : Chg [bp, bs'] a b := h.mono fun x hx => .inl (by simp at hx; simp [hx])
theorem Ended.relayS {α β : Type} {w w1 w2 : World} {B bp bs' bt z en p : Nat} {V : World → α → Value → Prop} {V' : World → β → Prop} {e : Ending} (h : Ended w1 B bp bt z (.bad en p : R α) V e w2) (hc : Chg [bp, bs'] w w1) : EndedS w B bp bs' bt z (.bad en p : R β) V' e w2 := by
  obtain ⟨hc2, b, he, hb, hB⟩ := h
  exact ⟨hc.then (s1 hc2), b, he, Nat.le_trans hc.size hb, hB⟩
theorem EndedS.relayS {α β : Type} {w w1 w2 : World} {B bp bs' bt z en p : Nat} {V : World → α → Prop} {V' : World → β → Prop} {e : Ending} (h : EndedS w1 B bp bs' bt z (.bad en p : R α) V e w2) (hc : Chg [bp, bs'] w w1) : EndedS w B bp bs' bt z (.bad en p : R β) V' e w2 := by
  obtain ⟨hc2, b, he, hb, hB⟩ := h
  exact ⟨hc.then hc2, b, he, Nat.le_trans hc.size hb, hB⟩
theorem EndedS.thrown {α : Type} {w w2 : World} {B bp bs' bt z en p : Nat} {V : World → α → Prop} {e : Ending} (h : EndedS w B bp bs' bt z (.bad en p : R α) V e w2) : ∃ b, e = .panicked [{ v := .iface 66 (.agg #[.iface 124 (ptr b)]), recovered := false }] := by
  obtain ⟨_, b, he, _⟩ := h
  exact ⟨b, he⟩
theorem named_shape {z : Nat} {ex : Ps E} {ts r : List Tok} {e : E} (h : named z ex ts = .ok e r) : (∃ p m n, e = .var p m n) ∨ (∃ p m n i, e = .item p m n i) ∨ (∃ p m n l, e = .app p m n l) := by
  rw [named_eq] at h
  cases h1 : qual z ts with
  | bad en q => rw [h1] at h; cases h
  | ok q r1 =>
    rw [h1] at h
    simp only [namedR] at h
    split at h
    · cases h2 : ex r1.tail with
      | bad en q => rw [h2] at h; cases h
      | ok i r2 =>
        simp only [h2] at h
        cases h3 : must z [93] r2 with
        | bad en q => simp only [h3] at h; cases h
        | ok u r3 => simp only [h3] at h; cases h; exact .inr (.inl ⟨_, _, _, _, rfl⟩)
    · split at h
      · cases h2 : argsL z ex (r1.length + 1) true [] r1.tail with
        | bad en q => simp only [h2] at h; cases h
        | ok l r2 => simp only [h2] at h; cases h; exact .inr (.inr ⟨_, _, _, _, rfl⟩)
      · cases h; exact .inl ⟨_, _, _, rfl⟩
/-- A statement's block as it begins. -/
abbrev sCells (p : Nat) : Array Value := #[.int .i64 0, .int .i64 p, str [], nilp, nilp, nils, nils]
/-- A statement's block when it is done. -/
def SBlk (w : World) (F : Nat → Prop) (bs' : Nat) (s : S) : Prop := ∃ cs, Blk w bs' cs.toArray 97 ∧ SAt w F s cs
end Go.Mq.Tree
namespace Go.Proofs.YtgnfhognbpifiaaGreatDoor
open Go Go.RowKit Go.Mq Go.Mq.Tree
set_option maxRecDepth 100000
set_option maxHeartbeats 8000000
theorem ex0_any : ∀ (w : World) (B bp bt z : Nat) (ts : List Tok), Par w B bp bt z ts → Calls Tryz.prog 101 #[ptr bp, .int .i64 0, .int .i64 0] w (Ended w B bp bt z (ex0 z ts) (EV w)) := fun w B bp bt z ts hp => by
  have := ex_any 0 11 rfl w B bp bt z ts hp
  simpa [ex0] using this
theorem named0_any : ∀ (w : World) (B bp bt z : Nat) (ts : List Tok), Par w B bp bt z ts → Calls Tryz.prog 109 #[ptr bp, .int .i64 0] w (Ended w B bp bt z (named z (expr z (one z 10) 5) ts) (EV w)) := fun w B bp bt z ts hp => by
  have := named_any 0 (by omega) (fun z => expr z (one z 10) 5) (ex_any 1 10 rfl) (fun z => expr_eats (one_eats z 10) 5) w B bp bt z ts hp
  simpa using this
theorem first_any (p : Nat) (w : World) (B bp bs' bt z : Nat) (ts : List Tok) (h : Par w B bp bt z ts) (hbs : Blk w bs' (sCells p) 97) (hB' : B ≤ bs') (hne : bs' ≠ bp) (hnt : bs' ≠ bt) :
    Calls Tryz.prog 102 #[ptr bp, ptr bs'] w (EndedS w B bp bs' bt z (first z p ts) (fun w' s => SBlk w' (New w w') bs' s)) := by
  have HN := Lib.hid (named0_any w B bp bt z ts h)
  have H := Lib.hid h
  have hbp := h.bp_lt
  have hbl := hbs.lt
  have HBS := Lib.hid (And.intro hbs (And.intro hB' (And.intro hne hnt)))
  clear h hbs
  cases hx : named z (expr z (one z 10) 5) ts with
  | bad en q =>
    have HRR := Lib.hid (show first z p ts = .bad en q by rw [first, hx])
    rw [hx] at HN
    clear hx
    go_enter Tryz.func102, Tryz.ntmps102
    go_wp2_with fail
    refine HN.out.mono ?_; intro e w1 he
    have HEE := Lib.hid he
    obtain ⟨b, rfl⟩ := he.thrown
    clear he
    go_wp2_with fail
    refine ⟨rfl, ?_⟩
    rw [HRR.out]
    exact HEE.out.relayS (Chg.refl _ _)
  | ok e r =>
    have HX := Lib.hid hx
    rw [hx] at HN
    clear hx
    go_enter Tryz.func102, Tryz.ntmps102
    go_wp2_with fail
    refine HN.out.mono ?_; rintro e w1 ⟨hc1, v1, rfl, hv1, hp1⟩
    have HC1 := Lib.hid hc1; have HP1 := Lib.hid hp1
    have hb1 := HBS.out.1.kept hc1 (by simpa using hne)
    rcases named_shape HX.out with ⟨q, m, n, rfl⟩ | ⟨q, m, n, i, rfl⟩ | ⟨q, m, n, l, rfl⟩
    · -- a name
      have HSH := Lib.hid (show first z p ts = (if m ≠ [] then .bad 3 (hd z r) else match must z [58, 61] r with | .bad e q => .bad e q | .ok _ r2 => match ex0 z r2 with | .bad e q => .bad e q | .ok v r3 => .ok (.set p n (none) v .nil) r3) by rw [first, HX.out]; rfl)
      have HV1 := Lib.hid (show OptAt w1 (New w w1) none nilp from rfl)
      obtain ⟨b, he, hF, hb⟩ := hv1
      cases he
      have d0 := hb.cell 0 _ rfl; have d3 := hb.cell 3 _ rfl; have d4 := hb.cell 4 _ rfl; have d6 := hb.cell 6 _ rfl
      clear hb
      have hb1x : Blk w1 bs' (sCells p) 97 := hb1
      have hbne : b ≠ bs' := by have := hF.1; omega
      cases hme : m.isEmpty with
      | false =>
        have HRR := Lib.hid (show first z p ts = .bad 3 (hd z r) by rw [HSH.out, if_pos (by intro h; rw [h] at hme; cases hme)])
        have HF3 := Lib.hid (fail_any 3 w1 B bp bt z r HP1.out)
        clear hp1 hc1 hb1 hb1x
        go_wp2_with fail
        refine HF3.out.mono ?_; intro e w6 he
        have HEE := Lib.hid he
        obtain ⟨b9, rfl⟩ := he.thrown
        clear he
        go_wp2_with fail
        refine ⟨rfl, ?_⟩
        rw [HRR.out]
        exact HEE.out.relayS (s1 HC1.out)
      | true =>
        have HM0 : Hid (m = []) := Lib.hid (List.isEmpty_iff.1 hme)
        have HB1 := Lib.hid hb1x
        clear hp1 hc1 hb1 hb1x
        go_wp2_with fail
        refine wp_region_C [bs'] rfl (by kernel_rfl) ?_
        have hS : Chg [bs'] w1.drew w1.drew := Chg.refl _ _
        have d4' : w1.drew.cell? ⟨b, 4, none⟩ = some (str n) := d4
        have d6' : w1.drew.cell? ⟨b, 6, none⟩ = some nilp := d6
        have hz : Zone [bs'] w1.drew b := Zone.of d4' (by simpa using hbne)
        have f0 : w1.drew.frozen? ⟨bs', 0, none⟩ = false := HB1.out.frozen 0
        have f2 : w1.drew.frozen? ⟨bs', 2, none⟩ = false := HB1.out.frozen 2
        have f3 : w1.drew.frozen? ⟨bs', 3, none⟩ = false := HB1.out.frozen 3
        have e0 : w1.drew.cell? ⟨bs', 0, none⟩ = some (.int .i64 0) := HB1.out.cell 0 _ rfl
        have e2 : w1.drew.cell? ⟨bs', 2, none⟩ = some (str []) := HB1.out.cell 2 _ rfl
        have e3 : w1.drew.cell? ⟨bs', 3, none⟩ = some nilp := HB1.out.cell 3 _ rfl
        have g2 : w1.frozen? ⟨bs', 2, none⟩ = false := f2
        have g3 : w1.frozen? ⟨bs', 3, none⟩ = false := f3
        have g0 : w1.frozen? ⟨bs', 0, none⟩ = false := f0
        have h2 : w1.cell? ⟨bs', 2, none⟩ = some (str []) := e2
        have h3 : w1.cell? ⟨bs', 3, none⟩ = some nilp := e3
        repeat
          (with_reducible show wpX _ _ _ _ _ _ _ _
           first
             | refine wpX_nil ?_
             | refine wpX_skip rfl ?_
             | refine wpX_mv rfl rfl (by kernel_rfl) (fun _ _ => ?_)
             | refine wpX_ldC rfl rfl rfl (by exact hz) (by assumption) (fun _ _ => ?_)
             | refine wpX_ef' rfl rfl rfl (fun _ _ => ?_)
           go_wp2_with fail)
        refine ⟨hS.setCell ⟨bs', 0, none⟩ (.inl (by simp)) (.int .i64 1), ?_⟩
        repeat
          (with_reducible show wpX _ _ _ _ _ _ _ _
           first
             | refine wpX_nil ?_
             | refine wpX_skip rfl ?_
             | refine wpX_mv rfl rfl (by kernel_rfl) (fun _ _ => ?_)
             | refine wpX_ldC rfl rfl rfl (by exact hz) (by assumption) (fun _ _ => ?_)
             | refine wpX_ef' rfl rfl rfl (fun _ _ => ?_)
           go_wp2_with fail)
        refine ⟨(hS.setCell ⟨bs', 0, none⟩ (.inl (by simp)) (.int .i64 1)).setCell ⟨bs', 2, none⟩ (.inl (by simp)) (str n), ?_⟩
        repeat
          (with_reducible show wpX _ _ _ _ _ _ _ _
           first
             | refine wpX_nil ?_
             | refine wpX_skip rfl ?_
             | refine wpX_mv rfl rfl (by kernel_rfl) (fun _ _ => ?_)
             | refine wpX_ldC rfl rfl rfl (by exact hz) (by assumption) (fun _ _ => ?_)
             | refine wpX_ef' rfl rfl rfl (fun _ _ => ?_)
           go_wp2_with fail)
        refine ⟨((hS.setCell ⟨bs', 0, none⟩ (.inl (by simp)) (.int .i64 1)).setCell ⟨bs', 2, none⟩ (.inl (by simp)) (str n)).setCell ⟨bs', 3, none⟩ (.inl (by simp)) nilp, ?_⟩
        repeat
          (with_reducible show wpX _ _ _ _ _ _ _ _
           first
             | refine wpX_nil ?_
             | refine wpX_skip rfl ?_
             | refine wpX_mv rfl rfl (by kernel_rfl) (fun _ _ => ?_)
             | refine wpX_ldC rfl rfl rfl (by exact hz) (by assumption) (fun _ _ => ?_)
             | refine wpX_ef' rfl rfl rfl (fun _ _ => ?_)
           go_wp2_with fail)
        have hw3 : Chg [bs'] w1 (((w1.setCell ⟨bs', 0, none⟩ (.int .i64 1)).setCell ⟨bs', 2, none⟩ (str n)).setCell ⟨bs', 3, none⟩ nilp).drew := (((Chg.set1 w1 bs' 0 (.int .i64 1)).setCell ⟨bs', 2, none⟩ (.inl (by simp)) (str n)).setCell ⟨bs', 3, none⟩ (.inl (by simp)) nilp).drew
        have hb3 := (((HB1.out.set 0 (.int .i64 1)).set 2 (str n)).set 3 nilp).kept ((Chg.refl [] _).drew) (by simp)
        simp only [Array.setIfInBounds, List.size_toArray, List.length_cons, List.length_nil] at hb3
        clear hS d4' d6' hz f0 f2 f3 e0 e2 e3 g0 g2 g3 h2 h3
        generalize (((w1.setCell ⟨bs', 0, none⟩ (.int .i64 1)).setCell ⟨bs', 2, none⟩ (str n)).setCell ⟨bs', 3, none⟩ nilp).drew = w3 at *
        have HW3 := Lib.hid hw3; have HB3 := Lib.hid hb3
        have hp3 := HP1.out.kept hw3 (fun x hx => by simp at hx; omega) (by simpa using Ne.symm hne) (by simpa using Ne.symm hnt)
        have HMU := Lib.hid (must_any [58, 61] w3 B bp bt z r hp3)
        clear hw3 hb3 hp3
        go_wp2_with fail
        cases h8 : see [58, 61] r with
        | false =>
          have HRR := Lib.hid (show first z p ts = .bad 3 (hd z r) by rw [HSH.out, if_neg (by simp [HM0.out])]; simp [must, h8])
          rw [must, h8, if_neg (by simp)] at HMU
          clear h8
          refine HMU.out.mono ?_; intro e w8 he
          have HEE := Lib.hid he
          obtain ⟨b9, rfl⟩ := he.thrown
          clear he
          go_wp2_with fail
          refine ⟨rfl, ?_⟩
          rw [HRR.out]
          exact HEE.out.relayS ((s1 HC1.out).then (s2 HW3.out))
        | true =>
          rw [must, h8, if_pos rfl] at HMU
          refine HMU.out.mono ?_; rintro e w4 ⟨hc4, _, rfl, rfl, hp4⟩
          have HC4 := Lib.hid hc4; have HP4 := Lib.hid hp4
          have HE4 := Lib.hid (ex0_any w4 B bp bt z r.tail hp4)
          clear hc4 hp4
          cases hx : ex0 z r.tail with
          | bad en q =>
            have HRR := Lib.hid (show first z p ts = .bad en q by rw [HSH.out, if_neg (by simp [HM0.out])]; simp [must, h8, hx])
            rw [hx] at HE4
            clear h8 hx
            go_wp2_with fail
            refine HE4.out.mono ?_; intro e w6 he
            have HEE := Lib.hid he
            obtain ⟨b9, rfl⟩ := he.thrown
            clear he
            go_wp2_with fail
            refine ⟨rfl, ?_⟩
            rw [HRR.out]
            exact HEE.out.relayS (((s1 HC1.out).then (s2 HW3.out)).then (s1 HC4.out))
          | ok v r6 =>
            have HRR := Lib.hid (show first z p ts = .ok (.set p n (none) v .nil) r6 by rw [HSH.out, if_neg (by simp [HM0.out])]; simp [must, h8, hx])
            rw [hx] at HE4
            clear h8 hx
            go_wp2_with fail
            refine HE4.out.mono ?_; rintro e w6 ⟨hc6, v6, rfl, hv6, hp6⟩
            obtain ⟨b6, rfl⟩ := hv6.ptr
            have HC6 := Lib.hid hc6; have HV6 := Lib.hid hv6; have HP6 := Lib.hid hp6
            have hb6 := (HB3.out.kept HC4.out (by simpa using hne)).kept hc6 (by simpa using hne)
            have f4 := hb6.frozen 4; have e4 := hb6.cell 4 _ rfl
            have hb7 := hb6.set 4 (ptr b6)
            have hc7 : Chg [bs'] w6 (w6.setCell ⟨bs', 4, none⟩ (ptr b6)) := Chg.set1 _ _ _ _
            have HB7 := Lib.hid hb7; have HC7 := Lib.hid hc7
            clear hc6 hv6 hp6 hb6 hb7 hc7
            go_wp2_with fail
            refine bodyPost_end (results_none rfl _ _ _) rfl ?_
            rw [HRR.out]
            have hsz : w.heap.size ≤ w4.heap.size := Nat.le_trans HC1.out.size (Nat.le_trans HW3.out.size HC4.out.size)
            refine ⟨((((s1 HC1.out).then (s2 HW3.out)).then (s1 HC4.out)).then (s1 HC6.out)).then (s2 HC7.out), rfl, ⟨_, by simpa using HB7.out, nilp, ptr b6, [], rfl, ?_, ?_, rfl⟩, HP6.out.kept HC7.out (fun x hx => by simp at hx; omega) (by simpa using Ne.symm hne) (by simpa using Ne.symm hnt)⟩
            · exact ((((HV1.out.kept HW3.out (fun x hx hn => by simp at hx; have := hn.1; omega)).kept HC4.out (fun x hx hn => by simp at hx; have := hn.1; omega)).kept HC6.out (fun x hx hn => by simp at hx; have := hn.1; omega)).kept HC7.out (fun x hx hn => by simp at hx; have := hn.1; omega)).mono (fun x hx => ⟨hx.1, Nat.lt_of_lt_of_le hx.2 (Nat.le_trans HW3.out.size (Nat.le_trans HC4.out.size (Nat.le_trans HC6.out.size HC7.out.size)))⟩)
            · exact ((EAt.later HV6.out hsz).kept HC7.out (fun x hx hn => by simp at hx; have := hn.1; omega)).mono (fun x hx => ⟨hx.1, Nat.lt_of_lt_of_le hx.2 HC7.out.size⟩)
    · -- an element
      have HSH := Lib.hid (show first z p ts = (if m ≠ [] then .bad 3 (hd z r) else match must z [58, 61] r with | .bad e q => .bad e q | .ok _ r2 => match ex0 z r2 with | .bad e q => .bad e q | .ok v r3 => .ok (.set p n (some i) v .nil) r3) by rw [first, HX.out]; rfl)
      obtain ⟨b, u, he, hF, hb, hi⟩ := hv1
      obtain ⟨bu, rfl⟩ := hi.ptr
      have HV1 := Lib.hid (show OptAt w1 (New w w1) (some i) (ptr bu) from hi)
      cases he
      have d0 := hb.cell 0 _ rfl; have d3 := hb.cell 3 _ rfl; have d4 := hb.cell 4 _ rfl; have d6 := hb.cell 6 _ rfl
      clear hb hi
      have hb1x : Blk w1 bs' (sCells p) 97 := hb1
      have hbne : b ≠ bs' := by have := hF.1; omega
      cases hme : m.isEmpty with
      | false =>
        have HRR := Lib.hid (show first z p ts = .bad 3 (hd z r) by rw [HSH.out, if_pos (by intro h; rw [h] at hme; cases hme)])
        have HF3 := Lib.hid (fail_any 3 w1 B bp bt z r HP1.out)
        clear hp1 hc1 hb1 hb1x
        go_wp2_with fail
        refine HF3.out.mono ?_; intro e w6 he
        have HEE := Lib.hid he
        obtain ⟨b9, rfl⟩ := he.thrown
        clear he
        go_wp2_with fail
        refine ⟨rfl, ?_⟩
        rw [HRR.out]
        exact HEE.out.relayS (s1 HC1.out)
      | true =>
        have HM0 : Hid (m = []) := Lib.hid (List.isEmpty_iff.1 hme)
        have HB1 := Lib.hid hb1x
        clear hp1 hc1 hb1 hb1x
        go_wp2_with fail
        refine wp_region_C [bs'] rfl (by kernel_rfl) ?_
        have hS : Chg [bs'] w1.drew w1.drew := Chg.refl _ _
        have d4' : w1.drew.cell? ⟨b, 4, none⟩ = some (str n) := d4
        have d6' : w1.drew.cell? ⟨b, 6, none⟩ = some (ptr bu) := d6
        have hz : Zone [bs'] w1.drew b := Zone.of d4' (by simpa using hbne)
        have f0 : w1.drew.frozen? ⟨bs', 0, none⟩ = false := HB1.out.frozen 0
        have f2 : w1.drew.frozen? ⟨bs', 2, none⟩ = false := HB1.out.frozen 2
        have f3 : w1.drew.frozen? ⟨bs', 3, none⟩ = false := HB1.out.frozen 3
        have e0 : w1.drew.cell? ⟨bs', 0, none⟩ = some (.int .i64 0) := HB1.out.cell 0 _ rfl
        have e2 : w1.drew.cell? ⟨bs', 2, none⟩ = some (str []) := HB1.out.cell 2 _ rfl
        have e3 : w1.drew.cell? ⟨bs', 3, none⟩ = some nilp := HB1.out.cell 3 _ rfl
        have g2 : w1.frozen? ⟨bs', 2, none⟩ = false := f2
        have g3 : w1.frozen? ⟨bs', 3, none⟩ = false := f3
        have g0 : w1.frozen? ⟨bs', 0, none⟩ = false := f0
        have h2 : w1.cell? ⟨bs', 2, none⟩ = some (str []) := e2
        have h3 : w1.cell? ⟨bs', 3, none⟩ = some nilp := e3
        repeat
          (with_reducible show wpX _ _ _ _ _ _ _ _
           first
             | refine wpX_nil ?_
             | refine wpX_skip rfl ?_
             | refine wpX_mv rfl rfl (by kernel_rfl) (fun _ _ => ?_)
             | refine wpX_ldC rfl rfl rfl (by exact hz) (by assumption) (fun _ _ => ?_)
             | refine wpX_ef' rfl rfl rfl (fun _ _ => ?_)
           go_wp2_with fail)
        refine ⟨hS.setCell ⟨bs', 0, none⟩ (.inl (by simp)) (.int .i64 1), ?_⟩
        repeat
          (with_reducible show wpX _ _ _ _ _ _ _ _
           first
             | refine wpX_nil ?_
             | refine wpX_skip rfl ?_
             | refine wpX_mv rfl rfl (by kernel_rfl) (fun _ _ => ?_)
             | refine wpX_ldC rfl rfl rfl (by exact hz) (by assumption) (fun _ _ => ?_)
             | refine wpX_ef' rfl rfl rfl (fun _ _ => ?_)
           go_wp2_with fail)
        refine ⟨(hS.setCell ⟨bs', 0, none⟩ (.inl (by simp)) (.int .i64 1)).setCell ⟨bs', 2, none⟩ (.inl (by simp)) (str n), ?_⟩
        repeat
          (with_reducible show wpX _ _ _ _ _ _ _ _
           first
             | refine wpX_nil ?_
             | refine wpX_skip rfl ?_
             | refine wpX_mv rfl rfl (by kernel_rfl) (fun _ _ => ?_)
             | refine wpX_ldC rfl rfl rfl (by exact hz) (by assumption) (fun _ _ => ?_)
             | refine wpX_ef' rfl rfl rfl (fun _ _ => ?_)
           go_wp2_with fail)
        refine ⟨((hS.setCell ⟨bs', 0, none⟩ (.inl (by simp)) (.int .i64 1)).setCell ⟨bs', 2, none⟩ (.inl (by simp)) (str n)).setCell ⟨bs', 3, none⟩ (.inl (by simp)) (ptr bu), ?_⟩
        repeat
          (with_reducible show wpX _ _ _ _ _ _ _ _
           first
             | refine wpX_nil ?_
             | refine wpX_skip rfl ?_
             | refine wpX_mv rfl rfl (by kernel_rfl) (fun _ _ => ?_)
             | refine wpX_ldC rfl rfl rfl (by exact hz) (by assumption) (fun _ _ => ?_)
             | refine wpX_ef' rfl rfl rfl (fun _ _ => ?_)
           go_wp2_with fail)
        have hw3 : Chg [bs'] w1 (((w1.setCell ⟨bs', 0, none⟩ (.int .i64 1)).setCell ⟨bs', 2, none⟩ (str n)).setCell ⟨bs', 3, none⟩ (ptr bu)).drew := (((Chg.set1 w1 bs' 0 (.int .i64 1)).setCell ⟨bs', 2, none⟩ (.inl (by simp)) (str n)).setCell ⟨bs', 3, none⟩ (.inl (by simp)) (ptr bu)).drew
        have hb3 := (((HB1.out.set 0 (.int .i64 1)).set 2 (str n)).set 3 (ptr bu)).kept ((Chg.refl [] _).drew) (by simp)
        simp only [Array.setIfInBounds, List.size_toArray, List.length_cons, List.length_nil] at hb3
        clear hS d4' d6' hz f0 f2 f3 e0 e2 e3 g0 g2 g3 h2 h3
        generalize (((w1.setCell ⟨bs', 0, none⟩ (.int .i64 1)).setCell ⟨bs', 2, none⟩ (str n)).setCell ⟨bs', 3, none⟩ (ptr bu)).drew = w3 at *
        have HW3 := Lib.hid hw3; have HB3 := Lib.hid hb3
        have hp3 := HP1.out.kept hw3 (fun x hx => by simp at hx; omega) (by simpa using Ne.symm hne) (by simpa using Ne.symm hnt)
        have HMU := Lib.hid (must_any [58, 61] w3 B bp bt z r hp3)
        clear hw3 hb3 hp3
        go_wp2_with fail
        cases h8 : see [58, 61] r with
        | false =>
          have HRR := Lib.hid (show first z p ts = .bad 3 (hd z r) by rw [HSH.out, if_neg (by simp [HM0.out])]; simp [must, h8])
          rw [must, h8, if_neg (by simp)] at HMU
          clear h8
          refine HMU.out.mono ?_; intro e w8 he
          have HEE := Lib.hid he
          obtain ⟨b9, rfl⟩ := he.thrown
          clear he
          go_wp2_with fail
          refine ⟨rfl, ?_⟩
          rw [HRR.out]
          exact HEE.out.relayS ((s1 HC1.out).then (s2 HW3.out))
        | true =>
          rw [must, h8, if_pos rfl] at HMU
          refine HMU.out.mono ?_; rintro e w4 ⟨hc4, _, rfl, rfl, hp4⟩
          have HC4 := Lib.hid hc4; have HP4 := Lib.hid hp4
          have HE4 := Lib.hid (ex0_any w4 B bp bt z r.tail hp4)
          clear hc4 hp4
          cases hx : ex0 z r.tail with
          | bad en q =>
            have HRR := Lib.hid (show first z p ts = .bad en q by rw [HSH.out, if_neg (by simp [HM0.out])]; simp [must, h8, hx])
            rw [hx] at HE4
            clear h8 hx
            go_wp2_with fail
            refine HE4.out.mono ?_; intro e w6 he
            have HEE := Lib.hid he
            obtain ⟨b9, rfl⟩ := he.thrown
            clear he
            go_wp2_with fail
            refine ⟨rfl, ?_⟩
            rw [HRR.out]
            exact HEE.out.relayS (((s1 HC1.out).then (s2 HW3.out)).then (s1 HC4.out))
          | ok v r6 =>
            have HRR := Lib.hid (show first z p ts = .ok (.set p n (some i) v .nil) r6 by rw [HSH.out, if_neg (by simp [HM0.out])]; simp [must, h8, hx])
            rw [hx] at HE4
            clear h8 hx
            go_wp2_with fail
            refine HE4.out.mono ?_; rintro e w6 ⟨hc6, v6, rfl, hv6, hp6⟩
            obtain ⟨b6, rfl⟩ := hv6.ptr
            have HC6 := Lib.hid hc6; have HV6 := Lib.hid hv6; have HP6 := Lib.hid hp6
            have hb6 := (HB3.out.kept HC4.out (by simpa using hne)).kept hc6 (by simpa using hne)
            have f4 := hb6.frozen 4; have e4 := hb6.cell 4 _ rfl
            have hb7 := hb6.set 4 (ptr b6)
            have hc7 : Chg [bs'] w6 (w6.setCell ⟨bs', 4, none⟩ (ptr b6)) := Chg.set1 _ _ _ _
            have HB7 := Lib.hid hb7; have HC7 := Lib.hid hc7
            clear hc6 hv6 hp6 hb6 hb7 hc7
            go_wp2_with fail
            refine bodyPost_end (results_none rfl _ _ _) rfl ?_
            rw [HRR.out]
            have hsz : w.heap.size ≤ w4.heap.size := Nat.le_trans HC1.out.size (Nat.le_trans HW3.out.size HC4.out.size)
            refine ⟨((((s1 HC1.out).then (s2 HW3.out)).then (s1 HC4.out)).then (s1 HC6.out)).then (s2 HC7.out), rfl, ⟨_, by simpa using HB7.out, (ptr bu), ptr b6, [], rfl, ?_, ?_, rfl⟩, HP6.out.kept HC7.out (fun x hx => by simp at hx; omega) (by simpa using Ne.symm hne) (by simpa using Ne.symm hnt)⟩
            · exact ((((HV1.out.kept HW3.out (fun x hx hn => by simp at hx; have := hn.1; omega)).kept HC4.out (fun x hx hn => by simp at hx; have := hn.1; omega)).kept HC6.out (fun x hx hn => by simp at hx; have := hn.1; omega)).kept HC7.out (fun x hx hn => by simp at hx; have := hn.1; omega)).mono (fun x hx => ⟨hx.1, Nat.lt_of_lt_of_le hx.2 (Nat.le_trans HW3.out.size (Nat.le_trans HC4.out.size (Nat.le_trans HC6.out.size HC7.out.size)))⟩)
            · exact ((EAt.later HV6.out hsz).kept HC7.out (fun x hx hn => by simp at hx; have := hn.1; omega)).mono (fun x hx => ⟨hx.1, Nat.lt_of_lt_of_le hx.2 HC7.out.size⟩)
    · -- a call
      have HRR := Lib.hid (show first z p ts = .ok (.call p (.app q m n l) .nil) r by rw [first, HX.out])
      have HV1 := Lib.hid hv1
      obtain ⟨b, a, c, vs, he, hF, hb, _⟩ := hv1
      cases he
      have d0 := hb.cell 0 _ rfl
      have f0 := hb1.frozen 0; have f4 := hb1.frozen 4; have e0 := hb1.cell 0 _ rfl; have e4 := hb1.cell 4 _ rfl
      have hb2 := (hb1.set 0 (.int .i64 6)).set 4 (ptr b)
      have hc2 : Chg [bs'] w1 ((w1.setCell ⟨bs', 0, none⟩ (.int .i64 6)).setCell ⟨bs', 4, none⟩ (ptr b)) := (Chg.set1 _ _ _ _).then (Chg.set1 _ _ _ _)
      have HB2 := Lib.hid hb2; have HC2 := Lib.hid hc2
      clear hc1 hp1 hb1 hb hb2 hc2
      go_wp2_with fail
      refine bodyPost_ret (results_none rfl _ _ _) rfl ?_
      rw [HRR.out]
      refine ⟨(s1 HC1.out).then (s2 HC2.out), rfl, ⟨_, by simpa using HB2.out, ptr b, [], rfl, ?_, rfl⟩, HP1.out.kept HC2.out (fun x hx => by simp at hx; omega) (by simpa using Ne.symm hne) (by simpa using Ne.symm hnt)⟩
      exact (HV1.out.kept HC2.out (fun x hx hn => by simp at hx; have := hn.1; omega)).mono (fun x hx => ⟨hx.1, Nat.lt_of_lt_of_le hx.2 HC2.out.size⟩)
end Go.Proofs.YtgnfhognbpifiaaGreatDoor
