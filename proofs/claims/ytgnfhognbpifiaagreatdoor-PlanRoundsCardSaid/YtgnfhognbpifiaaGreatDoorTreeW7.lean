/- The parser's expr, over what one does. -/
import Derived.Test.YtgnfhognbpifiaaGreatDoorTreeW6
import Derived.Test.YtgnfhognbpifiaaGreatDoorRegion5
namespace Go.Mq.Tree
open Go Go.RowKit Go.Mq
/-- It leaves no more tokens than there were. -/
def Mono {α : Type} (p : Ps α) : Prop := ∀ ts a r, p ts = .ok a r → r.length ≤ ts.length
/-- It takes a token at least. -/
def Eats {α : Type} (p : Ps α) : Prop := ∀ ts a r, p ts = .ok a r → r.length < ts.length
theorem Eats.mono {α : Type} {p : Ps α} (h : Eats p) : Mono p := fun ts a r hr => Nat.le_of_lt (h ts a r hr)
theorem opOf_see {lv : List (List UInt8)} {ts : List Tok} {m : List UInt8} (h : opOf lv ts = some m) : see m ts = true := by
  have := List.find?_some h
  simpa using this
theorem binL_mono {sub : Ps E} (hs : Mono sub) (lv : List (List UInt8)) (p : Nat) : ∀ f x, Mono (binL sub lv p f x) := by
  intro f
  induction f with
  | zero => intro x ts a r h; cases h
  | succ f ih =>
    intro x ts a r h
    rw [binL] at h
    cases ho : opOf lv ts with
    | none => rw [ho] at h; cases h; exact Nat.le_refl _
    | some m =>
      rw [ho] at h
      have := see_tail (opOf_see ho)
      cases hsub : sub ts.tail with
      | bad e q => rw [hsub] at h; cases h
      | ok y r2 =>
        rw [hsub] at h
        have h1 := hs _ _ _ hsub
        have h2 := ih _ _ _ _ h
        omega
theorem expr_mono {z : Nat} {base : Ps E} (hb : Mono base) : ∀ k, Mono (expr z base k) := by
  intro k
  induction k with
  | zero => exact hb
  | succ k ih =>
    intro ts a r h
    rw [expr] at h
    simp only at h
    cases hx : expr z base k ts with
    | bad e q => rw [hx] at h; cases h
    | ok x r2 =>
      rw [hx] at h
      have h1 := ih _ _ _ hx
      have h2 := binL_mono ih _ _ _ _ _ _ _ h
      omega
theorem expr_eats {z : Nat} {base : Ps E} (hb : Eats base) : ∀ k, Eats (expr z base k) := by
  intro k
  induction k with
  | zero => exact hb
  | succ k ih =>
    intro ts a r h
    rw [expr] at h
    simp only at h
    cases hx : expr z base k ts with
    | bad e q => rw [hx] at h; cases h
    | ok x r2 =>
      rw [hx] at h
      have h1 := ih _ _ _ hx
      have h2 := binL_mono ih.mono _ _ _ _ _ _ _ h
      omega
/-- An expression of a level over the next one's. -/
def stepE (sub : Ps E) (lv : List (List UInt8)) (z : Nat) : Ps E := fun ts => match sub ts with
  | .bad e p => .bad e p
  | .ok x r => binL sub lv (hd z ts) (r.length + 1) x r
/-- How many tokens stand in the parser's block, the end among them. -/
def cntOf (w : World) (bp : Nat) : Nat := match w.cell? ⟨bp, 0, none⟩ with
  | some v => lenOf v
  | none => 0
theorem Par.cnt {w : World} {B bp bt z : Nat} {ts : List Tok} (h : Par w B bp bt z ts) : cntOf w bp = ts.length + 1 := by
  obtain ⟨off, c, hb, _⟩ := h.at_
  rw [cntOf, hb.cell 0 _ rfl]
  rfl
/-- What an expression's call hands back. -/
abbrev EV (w : World) : World → E → Value → Prop := fun w' e v => EAt w' (New w w') e [v]
theorem EAt.grown {w w1 w2 : World} {bp : Nat} {e : E} {us : List Value} (h : EAt w1 (New w w1) e us) (hbp : bp < w.heap.size) (hc : Chg [bp] w1 w2) : EAt w2 (New w w2) e us :=
  (h.kept hc (fun x hx hn => by simp at hx; have := hn.1; omega)).mono fun x hx => ⟨hx.1, by have := hc.size; have := hx.2; omega⟩
theorem EAt.later {w w0 w1 : World} {e : E} {us : List Value} (h : EAt w1 (New w0 w1) e us) (hs : w.heap.size ≤ w0.heap.size) : EAt w1 (New w w1) e us := h.mono fun _ hx => ⟨Nat.le_trans hs hx.1, hx.2⟩
theorem EAt.ptr {w : World} {F : Nat → Prop} {e : E} : ∀ {v : Value}, EAt w F e [v] → ∃ b, v = ptr b := by
  induction e with
  | num p n => rintro v ⟨b, h1, _⟩; cases h1; exact ⟨b, rfl⟩
  | var p m n => rintro v ⟨b, h1, _⟩; cases h1; exact ⟨b, rfl⟩
  | item p m n i ih => rintro v ⟨b, u, h1, _⟩; cases h1; exact ⟨b, rfl⟩
  | un p op x ih => rintro v ⟨b, u, h1, _⟩; cases h1; exact ⟨b, rfl⟩
  | bin p op x y ih1 ih2 => rintro v ⟨b, u, v', h1, _⟩; cases h1; exact ⟨b, rfl⟩
  | app p m n l ih => rintro v ⟨b, a, c, vs, h1, _⟩; cases h1; exact ⟨b, rfl⟩
  | nil => intro v h; cases h
  | cons x r ih1 ih2 => rintro v ⟨u, vs, h1, h2, h3⟩; cases h1; exact ih1 h2
end Go.Mq.Tree
namespace Go.Proofs.YtgnfhognbpifiaaGreatDoor
open Go Go.RowKit Go.Mq Go.Mq.Tree
set_option maxRecDepth 100000
set_option maxHeartbeats 4000000
def OneOK (deep d : Nat) : Prop := ∀ (w : World) (B bp bt z : Nat) (ts : List Tok), Par w B bp bt z ts → Calls Tryz.prog 107 #[ptr bp, .int .i64 deep] w (Ended w B bp bt z (one z d ts) (EV w))
def ExOK (level deep : Nat) (ex : Nat → Ps E) : Prop := ∀ (w : World) (B bp bt z : Nat) (ts : List Tok), Par w B bp bt z ts → Calls Tryz.prog 101 #[ptr bp, .int .i64 level, .int .i64 deep] w (Ended w B bp bt z (ex z ts) (EV w))
theorem lv_some {lv : List (List UInt8)} {m : List UInt8} {k : Nat} (h : levels[k]? = some lv) (hm : m ∈ lv) : m ≠ [] := by
  have : ∀ l ∈ levels, ∀ m ∈ l, m ≠ [] := by decide
  exact this lv (List.mem_of_getElem? h) m hm

theorem expr_base (deep d : Nat) (hO : OneOK deep d) : ExOK 5 deep (fun z => one z d) := by
  intro w B bp bt z ts h
  have HO := Lib.hid (hO w B bp bt z ts h)
  have H := Lib.hid h
  clear h hO
  go_enter Tryz.func101, Tryz.ntmps101
  go_wp2_with fail
  refine HO.out.mono ?_; intro e w1 he
  cases hr : one z d ts with
  | bad en p =>
    rw [hr] at he
    have HE := Lib.hid he
    obtain ⟨b, rfl⟩ := he.thrown
    clear he
    go_wp2_with fail
    exact ⟨rfl, HE.out⟩
  | ok x r =>
    rw [hr] at he
    have HE := Lib.hid he
    obtain ⟨_, v, rfl, _⟩ := he
    go_wp2_with fail
    go_ret
    first | exact HE.out | (rw [hr]; exact HE.out)

theorem expr_step (level deep : Nat) (hl : level < 5) (sub : Nat → Ps E) (hmono : ∀ z, Mono (sub z)) (hS : ExOK (level + 1) deep sub) (lv : List (List UInt8)) (hlv : levels[level]? = some lv) (_hdp : deep ≤ 11) :
    ExOK level deep (fun z => stepE (sub z) lv z) := by
  intro w B bp bt z ts h
  have hS' : ∀ (w : World) (B bp bt z : Nat) (ts : List Tok), Par w B bp bt z ts → Calls Tryz.prog 101 #[ptr bp, .int .i64 ((level : Int) + 1), .int .i64 deep] w (Ended w B bp bt z (sub z ts) (EV w)) := fun w B bp bt z ts h => by
    have := hS w B bp bt z ts h
    simpa using this
  have HS := Lib.hid (hS' w B bp bt z ts h)
  have HSS := Lib.hid hS'
  have H := Lib.hid h
  have HLV := Lib.hid hlv
  have key : ∃ off c n, w.cell? ⟨bp, 0, none⟩ = some (.slice (some ⟨bt, off, none⟩) (n + 1) c) ∧ w.cell? ⟨bt, off + 2, none⟩ = some (.int .i64 (hd z ts)) := by
    cases ts with
    | nil => obtain ⟨off, c, c0, _, c2, _⟩ := par_nil h; exact ⟨off, c, 0, c0, c2⟩
    | cons t r => obtain ⟨off, c, _, c0, _, _, c2, _⟩ := par_cons h; exact ⟨off, c, r.length + 1, c0, c2⟩
  obtain ⟨off, c, n, c0, c2⟩ := key
  have hbp := h.bp_lt
  have HM := Lib.hid (hmono z)
  have hne5 : ((level : Int) == 5) = false := by simp; omega
  have hwr : IntKind.i64.wrap ((level : Int) + 1) = (level : Int) + 1 := by
    simp only [IntKind.wrap, IntKind.bits, IntKind.signed]; simp; omega
  clear h hS hS' hlv hmono
  cases hr : sub z ts with
  | bad en p =>
    rw [hr] at HS
    have HR := Lib.hid hr; clear hr
    go_enter Tryz.func101, Tryz.ntmps101
    go_wp2_with fail
    refine HS.out.mono ?_; intro e w1 he
    have HE := Lib.hid he
    obtain ⟨b, rfl⟩ := he.thrown
    clear he
    go_wp2_with fail
    refine ⟨rfl, ?_⟩
    rw [stepE, HR.out]
    exact HE.out
  | ok x r =>
    rw [hr] at HS
    have HR := Lib.hid hr; clear hr
    go_enter Tryz.func101, Tryz.ntmps101
    go_wp2_with fail
    refine HS.out.mono ?_; rintro e w1 ⟨hc1, v, rfl, hv, hp1⟩
    have HC1 := Lib.hid hc1; have HV := Lib.hid hv; have HP1 := Lib.hid hp1
    clear hc1 hv hp1
    go_wp2_with fail
    refine (op_any level lv HLV.out w1 B bp bt z r HP1.out).mono ?_; rintro _ w2 ⟨rfl, rfl⟩
    go_wp2_with fail
    go_loopw [8, 9] (fun v op wr => ∃ (f : Nat) (x' : E) (ts' : List Tok), op = str ((opOf lv ts').getD []) ∧ binL (sub z) lv (hd z ts) (r.length + 1) x r = binL (sub z) lv (hd z ts) f x' ts' ∧ ts'.length < f ∧ EAt wr (New w wr) x' [v] ∧ Par wr B bp bt z ts' ∧ Chg [bp] w wr) (fun _ _ wr => cntOf wr bp)
    case atStart => exact ⟨r.length + 1, x, r, rfl, rfl, Nat.lt_succ_self _, HV.out, HP1.out, HC1.out⟩
    case round =>
      obtain ⟨f, x', ts', rfl, hb, hf, hx, hp, hc⟩ := hrel
      have HB := Lib.hid hb; have HX := Lib.hid hx; have HP := Lib.hid hp; have HC := Lib.hid hc
      clear hb hx hp hc
      obtain ⟨f, rfl⟩ : ∃ f', f = f' + 1 := ⟨f - 1, by omega⟩
      cases ho : opOf lv ts' with
      | none =>
        have HO := Lib.hid ho; clear ho
        simp only [Option.getD_none]
        go_wp2_with fail
        go_ret
        simp only [stepE, HR.out]
        rw [HB.out, binL, HO.out]
        exact ⟨HC.out, _, rfl, HX.out, HP.out⟩
      | some m =>
        have hm := lv_some HLV.out (List.mem_of_find?_eq_some ho)
        have HO := Lib.hid ho
        have hsee := opOf_see ho
        have HMU := Lib.hid (must_any m _ B bp bt z ts' HP.out)
        rw [must, hsee, if_pos rfl] at HMU
        have hst := see_tail hsee
        clear ho hsee
        simp only [Option.getD_some]
        have hm1 : m.isEmpty = false := by cases m; exact absurd rfl hm; rfl
        go_wp2_with fail
        refine HMU.out.mono ?_; rintro _ w3 ⟨hc3, _, rfl, rfl, hp3⟩
        have HC3 := Lib.hid hc3; have HP3 := Lib.hid hp3
        clear hc3 hp3
        have hS3 := HSS.out w3 B bp bt z ts'.tail HP3.out
        cases hsub : sub z ts'.tail with
        | bad en p =>
          rw [hsub] at hS3
          have HS3 := Lib.hid hS3
          have HRR := Lib.hid (show stepE (sub z) lv z ts = .bad en p by simp only [stepE, HR.out]; rw [HB.out, binL, HO.out]; simp only [hsub])
          clear hS3 hsub
          go_wp2_with fail
          refine HS3.out.mono ?_; intro e w4 he
          have HE := Lib.hid he
          obtain ⟨b, rfl⟩ := he.thrown
          clear he
          go_wp2_with fail
          refine ⟨rfl, ?_⟩
          rw [HRR.out]
          exact HE.out.relay (HC.out.then HC3.out)
        | ok y r2 =>
          rw [hsub] at hS3
          have HS3 := Lib.hid hS3
          have hr2 := HM.out _ _ _ hsub
          have HRR := Lib.hid (show binL (sub z) lv (hd z ts) (f + 1) x' ts' = binL (sub z) lv (hd z ts) f (.bin (hd z ts) m x' y) r2 by rw [binL, HO.out]; simp only [hsub])
          clear hS3 hsub
          go_wp2_with fail
          refine HS3.out.mono ?_; rintro e w4 ⟨hc4, v2, rfl, hv2, hp4⟩
          obtain ⟨b2, rfl⟩ := hv2.ptr
          obtain ⟨b1, rfl⟩ := HX.out.ptr
          have HC4 := Lib.hid hc4; have HV2 := Lib.hid hv2; have HP4 := Lib.hid hp4
          clear hc4 hv2 hp4
          go_wp2_with fail
          refine (op_any level lv HLV.out _ B bp bt z r2 (HP4.out.kept ((Chg.refl [] w4).alloc _) (by simp) (by simp) (by simp))).mono ?_; rintro _ w5 ⟨rfl, rfl⟩
          have hx4 := (HX.out.grown hbp (HC3.out.then HC4.out))
          have hs4 : w.heap.size ≤ w3.heap.size := (HC.out.then HC3.out).size
          have hy4 := EAt.later HV2.out hs4
          have hs5 : w.heap.size ≤ w4.heap.size := Nat.le_trans hs4 HC4.out.size
          have HX4 := Lib.hid hx4; have HY4 := Lib.hid hy4
          clear hx4 hy4
          go_wp2_with fail
          refine ⟨⟨f, .bin (hd z ts) m x' y, r2, rfl, HB.out.trans HRR.out, by omega, ?_, HP4.out.kept ((Chg.refl [] w4).alloc _) (by simp) (by simp) (by simp), ((HC.out.then HC3.out).then HC4.out).alloc _⟩, ?_⟩
          · have hca : Chg [bp] w4 (w4.alloc (.cells #[.int .i64 5, .int .i64 (hd z ts), .int .i64 0, str [], str [], str m, ptr b1, ptr b2, nils] 94)) := (Chg.refl _ _).alloc _
            exact ⟨w4.heap.size, ptr b1, ptr b2, rfl, ⟨hs5, by simp⟩, Blk.new _ _ _, HX4.out.grown hbp hca, HY4.out.grown hbp hca⟩
          · rw [(HP4.out.kept ((Chg.refl [] w4).alloc _) (by simp) (by simp) (by simp)).cnt, HP.out.cnt]
            omega
theorem expr_level (deep d : Nat) (hO : OneOK deep d) (hmono : ∀ z, Mono (one z d)) (hdp : deep ≤ 11) : ∀ k, k ≤ 5 → ExOK (5 - k) deep (fun z => expr z (one z d) k) := by
  intro k
  induction k with
  | zero => exact fun _ => expr_base deep d hO
  | succ k ih =>
    intro hk
    have hlv : levels[5 - (k + 1)]? = some (levels.getD (4 - k) []) := by
      rw [show 5 - (k + 1) = 4 - k by omega]
      have : 4 - k < levels.length := by show 4 - k < 5; omega
      simp [this]
    have hS : ExOK (5 - (k + 1) + 1) deep (fun z => expr z (one z d) k) := by rw [show 5 - (k + 1) + 1 = 5 - k by omega]; exact ih (by omega)
    exact expr_step (5 - (k + 1)) deep (by omega) (fun z => expr z (one z d) k) (fun z => expr_mono (hmono z) k) hS _ hlv hdp
end Go.Proofs.YtgnfhognbpifiaaGreatDoor
