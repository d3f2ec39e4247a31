/- The parser's args, over what expr does. -/
import Derived.Test.YtgnfhognbpifiaaGreatDoorTreeW7
namespace Go.Mq.Tree
open Go Go.RowKit Go.Mq
/-- What is said of blocks of a set stays true where others change, and of more blocks. -/
structure Framed (Q : World → (Nat → Prop) → Prop) : Prop where
  mono : ∀ {w : World} {F G : Nat → Prop}, (∀ x, F x → G x) → Q w F → Q w G
  kept : ∀ {S : List Nat} {w w' : World} {F : Nat → Prop}, Chg S w w' → (∀ x ∈ S, ¬ F x) → Q w F → Q w' F
/-- New blocks but for a row's own. -/
def Off (w wr : World) (l : Value) : Nat → Prop := fun b => w.heap.size ≤ b ∧ b < wr.heap.size ∧ b ∉ blk l
section
variable {Q : World → (Nat → Prop) → Prop} {w wr w2 w3 w' : World} {l l' : Value} {o : Obj}
theorem Framed.call (hQ : Framed Q) {bp : Nat} (h : Q wr (Off w wr l)) (hc : Chg [bp] wr w2) (hbp : bp < w.heap.size) : Q w2 (Off w w2 l) :=
  hQ.mono (fun x hx => ⟨hx.1, by have := hc.size; have := hx.2.1; omega, hx.2.2⟩) (hQ.kept hc (fun x hx hn => by simp at hx; have := hn.1; omega) h)
theorem Framed.fresh (hQ : Framed Q) (h : Q w2 (New w3 w2)) (hl : ∀ g ∈ blk l, g < w3.heap.size) (hs : w.heap.size ≤ w3.heap.size) : Q w2 (Off w w2 l) :=
  hQ.mono (fun x hx => ⟨Nat.le_trans hs hx.1, hx.2, fun hm => by have := hl x hm; have := hx.1; omega⟩) h
theorem Framed.app (hQ : Framed Q) (h : Q w2 (Off w w2 l)) (hch : Chg (blk l) (w2.alloc o) w') (hm : Moved (w2.alloc o) l l') : Q w' (Off w w' l') := by
  refine hQ.mono (fun x hx => ⟨hx.1, by have h1 : w2.heap.size ≤ (w2.alloc o).heap.size := (by simp); have := hch.size; have := hx.2.1; omega, fun hm' => ?_⟩) (hQ.kept (((Chg.refl [] w2).alloc o).weak.then hch) (fun x hx hn => hn.2.2 hx) h)
  rcases hm x hm' with h1 | h1
  · exact hx.2.2 h1
  · have := hx.2.1; simp at h1; omega
theorem Framed.done (hQ : Framed Q) (h : Q wr (Off w wr l)) : Q wr (New w wr) := hQ.mono (fun _ hx => ⟨hx.1, hx.2.1⟩) h
end
theorem framed_E (e : E) (us : List Value) : Framed (fun w F => EAt w F e us) := ⟨fun hF h => h.mono hF, fun hc hS h => h.kept hc hS⟩
theorem framed_Es (l : List E) (us : List Value) : Framed (fun w F => EsAt w F l us) := ⟨fun hF h => h.mono hF, fun hc hS h => h.kept hc hS⟩
theorem framed_S (s : S) (cs : List Value) : Framed (fun w F => SAt w F s cs) := ⟨fun hF h => h.mono hF, fun hc hS h => h.kept hc hS⟩
theorem framed_Prs (l : List Proc) (cs : List Value) : Framed (fun w F => PrsAt w F l cs) := ⟨fun hF h => h.mono hF, fun hc hS h => h.kept hc hS⟩
/-- A slice of expressions. -/
def ArgsAt (w : World) (F : Nat → Prop) (l : List E) (v : Value) : Prop := ∃ a c vs, v = .slice a vs.length c ∧ vs.length ≤ c ∧ Row w F a vs ∧ EsAt w F l vs
theorem argsL_mono {z : Nat} {ex : Ps E} (hs : Eats ex) : ∀ f first l, Mono (argsL z ex f first l) := by
  intro f
  induction f with
  | zero => intro first l ts a r h; cases h
  | succ f ih =>
    intro first l ts a r h
    rw [argsL] at h
    cases h1 : see [41] ts with
    | true => rw [h1, if_pos rfl] at h; cases h; simp
    | false =>
      rw [h1, if_neg (by simp)] at h
      split at h
      · cases h
      · split at h
        · cases h
        · rename_i x r2 hx
          have g1 := hs _ _ _ hx
          have g2 := ih _ _ _ _ _ h
          have g3 : (if first = true then ts else ts.tail).length ≤ ts.length := by split <;> simp
          omega
end Go.Mq.Tree
namespace Go.Proofs.YtgnfhognbpifiaaGreatDoor
open Go Go.RowKit Go.Mq Go.Mq.Tree
set_option maxRecDepth 100000
set_option maxHeartbeats 4000000
theorem infoPtr : (Tryz.prog.info? 91).map (fun i => (i.zero, i.size, i.bytes)) = some (some (.pointer none), 1, 8) := by kernel_rfl
theorem ex_next {deep : Nat} {ex : Nat → Ps E} (h : ExOK 0 (deep + 1) ex) : ∀ (w : World) (B bp bt z : Nat) (ts : List Tok), Par w B bp bt z ts → Calls Tryz.prog 101 #[ptr bp, .int .i64 0, .int .i64 ((deep : Int) + 1)] w (Ended w B bp bt z (ex z ts) (EV w)) := fun w B bp bt z ts hp => by
  have := h w B bp bt z ts hp
  simpa using this
theorem wrap_next {deep : Nat} (h : deep ≤ 11) : IntKind.i64.wrap ((deep : Int) + 1) = (deep : Int) + 1 := by
  simp only [IntKind.wrap, IntKind.bits, IntKind.signed]; simp; omega

theorem args_any (deep : Nat) (hdp : deep ≤ 11) (ex : Nat → Ps E) (hE : ExOK 0 (deep + 1) ex) (heats : ∀ z, Eats (ex z)) (w : World) (B bp bt z : Nat) (ts : List Tok) (h : Par w B bp bt z ts) (hsee : see [40] ts = true) :
    Calls Tryz.prog 120 #[ptr bp, .int .i64 deep] w (Ended w B bp bt z (argsL z (ex z) (ts.length + 1) true [] ts.tail) (fun w' l v => ArgsAt w' (New w w') l v)) := by
  have HE := Lib.hid (ex_next hE)
  have H := Lib.hid h
  have HMU := Lib.hid (must_any [40] w B bp bt z ts h)
  rw [must, hsee, if_pos rfl] at HMU
  have hB := h.laid.le
  have hbp := h.bp_lt
  have hbt := h.bt_lt
  have hwr := wrap_next hdp
  have hst := see_tail hsee
  have hfew := h.few
  have HM := Lib.hid (heats z)
  clear h hE hsee heats
  go_enter Tryz.func120, Tryz.ntmps120
  go_wp2_with fail
  refine HMU.out.mono ?_; rintro _ w1 ⟨hc1, _, rfl, rfl, hp1⟩
  have HC1 := Lib.hid hc1; have HP1 := Lib.hid hp1
  clear hc1 hp1
  go_wp2_with fail
  go_loopw [5, 6] (fun l m wr => ∃ (f : Nat) (b : Bool) (acc : List E) (vs : List Value) (ts' : List Tok), m = .bool b ∧ argsL z (ex z) (ts.length + 1) true [] ts.tail = argsL z (ex z) f b acc ts' ∧ ts'.length < f ∧ acc.length + ts'.length ≤ 600 ∧
      Par wr B bp bt z ts' ∧ wr.ownsRow 0 91 1 l acc.length vs ∧ EsAt wr (Off w wr l) acc vs ∧ From w.heap.size l ∧ Chg [bp] w wr) (fun _ _ wr => cntOf wr bp)
  case atStart => exact ⟨ts.length + 1, true, [], [], ts.tail, rfl, rfl, by omega, by simp; omega, HP1.out, World.ownsRow_nil _ _ _ _, rfl, From.nil _, HC1.out⟩
  case round =>
    obtain ⟨f, b, acc, vs, ts', rfl, hr, hf, hlen, hp, ho, hes, hF, hC⟩ := hrel
    have HR := Lib.hid hr; have HP := Lib.hid hp; have HO := Lib.hid ho; have HES := Lib.hid hes; have HF := Lib.hid hF; have HC := Lib.hid hC
    obtain ⟨sa, sc, hs⟩ := slice_of_owns ho
    clear hr hp ho hes hF hC
    subst hs
    obtain ⟨f, rfl⟩ : ∃ f', f = f' + 1 := ⟨f - 1, by omega⟩
    have HT := Lib.hid (take_any [41] wr B bp bt z ts' HP.out)
    cases hsc : see [41] ts' with
    | true =>
      have HRR := Lib.hid (show argsL z (ex z) (ts.length + 1) true [] ts.tail = .ok acc ts'.tail by rw [HR.out, argsL, hsc, if_pos rfl])
      have HI := Lib.hid hsc
      clear hsc
      go_wp2_with fail
      refine HT.out.mono ?_; rintro _ w2 ⟨rfl, hp2, hc2, _⟩
      rw [HI.out]
      rw [skip, HI.out, if_pos rfl] at hp2
      have HP2 := Lib.hid hp2; have HC2 := Lib.hid hc2
      clear hp2 hc2
      go_wp2_with fail
      go_ret
      rw [HRR.out]
      refine ⟨HC.out.then HC2.out, _, rfl, ?_, HP2.out⟩
      have ho2 := owns_kept HO.out HC2.out (fun g hg hm => by have := HF.out g hg; simp at hm; omega)
      obtain ⟨a, c, he, hac, hrow⟩ := Row.of_owns ho2 (new_owns ho2 HF.out)
      have hln := HES.out.len
      exact ⟨a, c, vs, by rw [hln]; exact he, by omega, hrow, (framed_Es acc vs).done ((framed_Es acc vs).call HES.out HC2.out hbp)⟩
    | false =>
      have HI := Lib.hid hsc
      cases b with
      | true =>
        have hlt : ts'.length < f + 1 := hf
        have HRR : Hid (∀ q, ex z ts' = q → argsL z (ex z) (ts.length + 1) true [] ts.tail = match q with | .bad e p => .bad e p | .ok x r => argsL z (ex z) f false (acc ++ [x]) r) := Lib.hid (fun q hq => by rw [HR.out, argsL, hsc, if_neg (by simp), if_neg (by simp), if_pos rfl, hq]; cases q <;> rfl)
        clear hsc
        have HEX := Lib.hid (HE.out wr B bp bt z ts' HP.out)
        cases hx : ex z (ts') with
        | bad en p =>
          have HX := Lib.hid hx
          rw [HX.out] at HEX
          clear hx
          go_wp2_with fail
          refine HT.out.mono ?_; rintro _ w2 ⟨rfl, _, _, hw⟩
          rw [HI.out]
          have hw' := (hw HI.out).symm
          subst hw'
          clear hw
          go_wp2_with fail
          refine HEX.out.mono ?_; intro e w4 he
          have HEE := Lib.hid he
          obtain ⟨b, rfl⟩ := he.thrown
          clear he
          go_wp2_with fail
          refine ⟨rfl, ?_⟩
          rw [HRR.out _ HX.out]
          exact HEE.out.relay (HC.out)
        | ok x r =>
          have HX := Lib.hid hx
          have hxl := HM.out _ _ _ hx
          rw [HX.out] at HEX
          clear hx
          go_wp2_with fail
          refine HT.out.mono ?_; rintro _ w2 ⟨rfl, _, _, hw⟩
          rw [HI.out]
          have hw' := (hw HI.out).symm
          subst hw'
          clear hw
          go_wp2_with fail
          refine HEX.out.mono ?_; rintro e w4 ⟨hc4, v4, rfl, hv4, hp4⟩
          obtain ⟨b4, rfl⟩ := hv4.ptr
          have HC4 := Lib.hid hc4; have HV4 := Lib.hid hv4; have HP4 := Lib.hid hp4
          have ho4 := owns_kept HO.out ((Chg.refl [bp] wr).then hc4) (fun g hg hm => by have := HF.out g hg; simp at hm; omega)
          have ho5 := owns_kept ho4 ((Chg.refl [] w4).alloc (.cells #[ptr b4] 91)) (by simp)
          have HO4 := Lib.hid ho5
          clear hc4 hv4 hp4 ho4 ho5
          go_wp2_with (at_builtin; go_must (refine wpL_append rfl _ _ 92 rfl 91 _ 1 8 infoPtr Tryz.underlying92 rfl (by decide) _ _ _ rfl HO4.out ⟨w4.heap.size, 0, none⟩ 1 1 [_] rfl rfl (cell_new1 _ _ _) (by simp [Value.oneCell']) ?_ ?_ ?_))
          · omega
          · unfold maxLen; omega
          · intro v' w' hown' hch' hmv'
            have HO' := Lib.hid hown'; clear hown'
            obtain ⟨hp5, hc5, hf5⟩ := grow_step hB hbp hbt (HC.out) HC4.out HP4.out HF.out hch' hmv'
            have hlw : ∀ g ∈ blk _, g < wr.heap.size := fun g hg => Nat.lt_of_lt_of_le (owns_lt HO.out g hg) (Chg.refl [bp] wr).size
            have hes4 := (framed_Es acc vs).call HES.out ((Chg.refl [bp] wr).then HC4.out) hbp
            have hx4 := (framed_E x [ptr b4]).fresh HV4.out hlw (HC.out).size
            have hes5 := (framed_Es acc vs).app hes4 hch' hmv'
            have hx5 := (framed_E x [ptr b4]).app hx4 hch' hmv'
            have HES5 := Lib.hid (EsAt.snoc hes5 hx5)
            have HP5 := Lib.hid hp5; have HC5 := Lib.hid hc5; have HF5 := Lib.hid hf5
            clear hch' hmv' hp5 hc5 hf5 hes4 hx4 hes5 hx5 hlw
            go_wp2_with fail
            refine ⟨⟨f, false, acc ++ [x], vs ++ [ptr b4], r, rfl, HRR.out _ HX.out, by omega, by simp; omega, HP5.out, by simpa using HO'.out, HES5.out, HF5.out, HC5.out⟩, ?_⟩
            rw [HP5.out.cnt, HP.out.cnt]
            omega
      | false =>
        have HMU2 := Lib.hid (must_any [44] wr B bp bt z ts' HP.out)
        cases hcm : see [44] ts' with
        | false =>
          have HRR := Lib.hid (show argsL z (ex z) (ts.length + 1) true [] ts.tail = .bad 3 (hd z ts') by rw [HR.out, argsL, hsc, if_neg (by simp), if_pos ⟨rfl, hcm⟩])
          rw [must, hcm, if_neg (by simp)] at HMU2
          clear hsc hcm
          go_wp2_with fail
          refine HT.out.mono ?_; rintro _ w2 ⟨rfl, _, _, hw⟩
          rw [HI.out]
          have hw' := (hw HI.out).symm
          subst hw'
          clear hw
          go_wp2_with fail
          refine HMU2.out.mono ?_; intro e w4 he
          have HEE := Lib.hid he
          obtain ⟨b, rfl⟩ := he.thrown
          clear he
          go_wp2_with fail
          refine ⟨rfl, ?_⟩
          rw [HRR.out]
          exact HEE.out.relay HC.out
        | true =>
          have hct := see_tail hcm
          have HRR : Hid (∀ q, ex z ts'.tail = q → argsL z (ex z) (ts.length + 1) true [] ts.tail = match q with | .bad e p => .bad e p | .ok x r => argsL z (ex z) f false (acc ++ [x]) r) := Lib.hid (fun q hq => by rw [HR.out, argsL, hsc, if_neg (by simp), if_neg (by rw [hcm]; simp), if_neg (by simp), hq]; cases q <;> rfl)
          rw [must, hcm, if_pos rfl] at HMU2
          clear hsc hcm
          go_wp2_with fail
          refine HT.out.mono ?_; rintro _ w2 ⟨rfl, _, _, hw⟩
          rw [HI.out]
          have hw' := (hw HI.out).symm
          subst hw'
          clear hw
          go_wp2_with fail
          refine HMU2.out.mono ?_; rintro _ w3 ⟨hc3, _, rfl, rfl, hp3⟩
          have HC3 := Lib.hid hc3; have HP3 := Lib.hid hp3
          clear hc3 hp3
          have HEX := Lib.hid (HE.out w3 B bp bt z ts'.tail HP3.out)
          cases hx : ex z (ts'.tail) with
          | bad en p =>
            have HX := Lib.hid hx
            rw [HX.out] at HEX
            clear hx
            go_wp2_with fail
            refine HEX.out.mono ?_; intro e w4 he
            have HEE := Lib.hid he
            obtain ⟨b, rfl⟩ := he.thrown
            clear he
            go_wp2_with fail
            refine ⟨rfl, ?_⟩
            rw [HRR.out _ HX.out]
            exact HEE.out.relay (HC.out.then HC3.out)
          | ok x r =>
            have HX := Lib.hid hx
            have hxl := HM.out _ _ _ hx
            rw [HX.out] at HEX
            clear hx
            go_wp2_with fail
            refine HEX.out.mono ?_; rintro e w4 ⟨hc4, v4, rfl, hv4, hp4⟩
            obtain ⟨b4, rfl⟩ := hv4.ptr
            have HC4 := Lib.hid hc4; have HV4 := Lib.hid hv4; have HP4 := Lib.hid hp4
            have ho4 := owns_kept HO.out ((HC3.out).then hc4) (fun g hg hm => by have := HF.out g hg; simp at hm; omega)
            have ho5 := owns_kept ho4 ((Chg.refl [] w4).alloc (.cells #[ptr b4] 91)) (by simp)
            have HO4 := Lib.hid ho5
            clear hc4 hv4 hp4 ho4 ho5
            go_wp2_with (at_builtin; go_must (refine wpL_append rfl _ _ 92 rfl 91 _ 1 8 infoPtr Tryz.underlying92 rfl (by decide) _ _ _ rfl HO4.out ⟨w4.heap.size, 0, none⟩ 1 1 [_] rfl rfl (cell_new1 _ _ _) (by simp [Value.oneCell']) ?_ ?_ ?_))
            · omega
            · unfold maxLen; omega
            · intro v' w' hown' hch' hmv'
              have HO' := Lib.hid hown'; clear hown'
              obtain ⟨hp5, hc5, hf5⟩ := grow_step hB hbp hbt (HC.out.then HC3.out) HC4.out HP4.out HF.out hch' hmv'
              have hlw : ∀ g ∈ blk _, g < w3.heap.size := fun g hg => Nat.lt_of_lt_of_le (owns_lt HO.out g hg) HC3.out.size
              have hes4 := (framed_Es acc vs).call HES.out ((HC3.out).then HC4.out) hbp
              have hx4 := (framed_E x [ptr b4]).fresh HV4.out hlw (HC.out.then HC3.out).size
              have hes5 := (framed_Es acc vs).app hes4 hch' hmv'
              have hx5 := (framed_E x [ptr b4]).app hx4 hch' hmv'
              have HES5 := Lib.hid (EsAt.snoc hes5 hx5)
              have HP5 := Lib.hid hp5; have HC5 := Lib.hid hc5; have HF5 := Lib.hid hf5
              clear hch' hmv' hp5 hc5 hf5 hes4 hx4 hes5 hx5 hlw
              go_wp2_with fail
              refine ⟨⟨f, false, acc ++ [x], vs ++ [ptr b4], r, rfl, HRR.out _ HX.out, by omega, by simp; omega, HP5.out, by simpa using HO'.out, HES5.out, HF5.out, HC5.out⟩, ?_⟩
              rw [HP5.out.cnt, HP.out.cnt]
              omega
end Go.Proofs.YtgnfhognbpifiaaGreatDoor
