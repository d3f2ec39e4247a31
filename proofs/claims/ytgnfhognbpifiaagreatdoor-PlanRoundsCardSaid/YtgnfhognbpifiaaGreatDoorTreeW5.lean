/- The parser's names. -/
import Derived.Test.YtgnfhognbpifiaaGreatDoorTreeW4
namespace Go.Mq.Tree
open Go Go.RowKit Go.Mq
theorem name_len {z : Nat} {ts r : List Tok} {n : List UInt8} (h : name z ts = .ok n r) : r.length + 1 = ts.length := by
  cases ts with
  | nil => cases h
  | cons t l =>
    rw [name] at h
    split at h
    · cases h
    · split at h
      · cases h
      · cases h; rfl
theorem see_tail {s : List UInt8} {ts : List Tok} (h : see s ts = true) : ts.tail.length + 1 = ts.length := by
  cases ts with
  | nil => cases h
  | cons t r => rfl
theorem skip_le (s : List UInt8) (ts : List Tok) : (skip s ts).length ≤ ts.length := by
  unfold skip; split <;> simp
theorem Par.bp_lt {w : World} {B bp bt z : Nat} {ts : List Tok} (h : Par w B bp bt z ts) : bp < w.heap.size := by
  obtain ⟨off, c, hb, _⟩ := h.at_
  exact hb.lt
theorem Par.bt_lt {w : World} {B bp bt z : Nat} {ts : List Tok} (h : Par w B bp bt z ts) : bt < w.heap.size := by
  obtain ⟨off, c, _, _, hc⟩ := h.at_
  cases ts with
  | nil => exact lt_of_cell (hc 0 _ rfl)
  | cons t r => exact lt_of_cell (hc 0 _ rfl)
/-- What an append behind a method's end leaves. -/
theorem grow_step {w wr w2 w' : World} {B bp bt z : Nat} {r : List Tok} {v v' : Value} {o : Obj} (hB : B ≤ w.heap.size) (hbp : bp < w.heap.size) (hbt : bt < w.heap.size)
    (hC : Chg [bp] w wr) (hN : Chg [bp] wr w2) (hP : Par w2 B bp bt z r) (hF : From w.heap.size v) (hch : Chg (blk v) (w2.alloc o) w') (hm : Moved (w2.alloc o) v v') :
    Par w' B bp bt z r ∧ Chg [bp] w w' ∧ From w.heap.size v' := by
  have hs := (hC.then hN).size
  refine ⟨(hP.kept ((Chg.refl [] w2).alloc o) (by simp) (by simp) (by simp)).kept hch (fun x hx => Nat.le_trans hB (hF x hx)) (fun hm => by have := hF _ hm; omega) (fun hm => by have := hF _ hm; omega), ?_, hF.moved hm (by simp; omega)⟩
  exact ((hC.then hN).alloc o).trans hch (fun x hx => .inr (hF x hx))
def lenOf : Value → Nat
  | .slice _ n _ => n
  | _ => 0
theorem lenOf_owns {w : World} {e : TypeId} {size n : Nat} {v : Value} {xs : List Value} (h : w.ownsRow 0 e size v n xs) : lenOf v = n := by
  rcases h.2 with ⟨rfl, rfl⟩ | ⟨g, cap, cur, rfl, _⟩ <;> rfl
theorem slice_of_owns {w : World} {e : TypeId} {size n : Nat} {v : Value} {xs : List Value} (h : w.ownsRow 0 e size v n xs) : ∃ a c, v = .slice a n c := by
  rcases h.2 with ⟨rfl, rfl⟩ | ⟨g, cap, cur, rfl, _⟩
  · exact ⟨_, _, rfl⟩
  · exact ⟨_, _, rfl⟩
theorem new_owns {w w' : World} {e : TypeId} {size n : Nat} {v : Value} {xs : List Value} (h : w'.ownsRow 0 e size v n xs) (hF : From w.heap.size v) : ∀ g ∈ blk v, New w w' g := fun g hg => ⟨hF g hg, owns_lt h g hg⟩
end Go.Mq.Tree
namespace Go.Proofs.YtgnfhognbpifiaaGreatDoor
open Go Go.RowKit Go.Mq Go.Mq.Tree
set_option maxRecDepth 100000
set_option maxHeartbeats 4000000
theorem infoStr : (Tryz.prog.info? 9).map (fun i => (i.zero, i.size, i.bytes)) = some (some (.string ⟨#[]⟩), 1, 16) := by kernel_rfl
theorem names_any (most : Nat) (_hmost : most ≤ 1000) (w : World) (B bp bt z : Nat) (ts : List Tok) (h : Par w B bp bt z ts) :
    Calls Tryz.prog 65 #[ptr bp, .int .i64 most] w (Ended w B bp bt z (names z most ts) (fun w' l v => NamesAt w' (New w w') l v)) := by
  have H := Lib.hid h
  have hB := h.laid.le
  have hbp := h.bp_lt
  have hbt := h.bt_lt
  clear h
  go_enter Tryz.func65, Tryz.ntmps65
  go_wp2_with fail
  go_loopw [5, 6] (fun l m wr => ∃ (f : Nat) (b : Bool) (acc : List (List UInt8)) (ts' : List Tok), m = .bool b ∧ names z most ts = (if b then namesL z most f acc ts' else .ok acc ts') ∧ (b = true → f + acc.length = most + 1) ∧ acc.length ≤ most ∧ acc.length + ts'.length ≤ 600 ∧
      Par wr B bp bt z ts' ∧ wr.ownsRow 0 9 1 l acc.length (acc.map str) ∧ From w.heap.size l ∧ Chg [bp] w wr) (fun l _ _ => most + 1 - lenOf l)
  case atStart => exact ⟨most + 1, true, [], ts, rfl, rfl, fun _ => rfl, Nat.zero_le _, by simpa using H.out.few, H.out, World.ownsRow_nil _ _ _ _, From.nil _, Chg.refl _ _⟩
  case round =>
    obtain ⟨f, b, acc, ts', rfl, hr, hf, ha, hlen, hp, ho, hF, hC⟩ := hrel
    have HR := Lib.hid hr; have HP := Lib.hid hp; have HO := Lib.hid ho; have HF := Lib.hid hF; have HC := Lib.hid hC
    obtain ⟨sa, sc, hs⟩ := slice_of_owns ho
    clear hr hp ho hF hC
    cases b with
    | false =>
      clear hf
      go_wp2_with fail
      go_ret
      rw [HR.out]
      refine ⟨HC.out, _, rfl, ?_, HP.out⟩
      obtain ⟨a, c, rfl, hac, hrow⟩ := Row.of_owns (HO.out) (new_owns HO.out HF.out)
      exact ⟨a, c, by simp, by simpa using hac, hrow⟩
    | true =>
      have hf := hf rfl
      subst hs
      obtain ⟨f, rfl⟩ : ∃ f', f = f' + 1 := ⟨f - 1, by omega⟩
      cases he : decide (acc.length = most) with
      | true =>
        have he1 : ((acc.length : Int) == (most : Int)) = true := by have := of_decide_eq_true he; simp [this]
        have HRR := Lib.hid (show names z most ts = .bad 4 (hd z ts') by rw [HR.out, if_pos rfl, namesL, if_pos (of_decide_eq_true he)])
        clear he
        go_wp2_with fail
        refine (fail_any 4 _ B bp bt z ts' HP.out).mono ?_; intro e w2 he
        have HE := Lib.hid he
        obtain ⟨b, rfl⟩ := he.thrown
        clear he
        go_wp2_with fail
        refine ⟨rfl, ?_⟩
        rw [HRR.out]
        exact HE.out.relay HC.out
      | false =>
        have he1 : ((acc.length : Int) == (most : Int)) = false := by have := of_decide_eq_false he; simp; omega
        have hne := of_decide_eq_false he
        have HN := Lib.hid (name_any _ B bp bt z ts' HP.out)
        clear he
        cases hn : name z ts' with
        | bad en p =>
          have HRR := Lib.hid (show names z most ts = .bad en p by rw [HR.out, if_pos rfl, namesL, if_neg hne, hn])
          rw [hn] at HN
          clear hn hne
          go_wp2_with fail
          refine HN.out.mono ?_; intro e w2 he
          have HE := Lib.hid he
          obtain ⟨b, rfl⟩ := he.thrown
          clear he
          go_wp2_with fail
          refine ⟨rfl, ?_⟩
          rw [HRR.out]
          exact HE.out.relay HC.out
        | ok n r =>
          have hnl := name_len hn
          have ha1 : acc.length + 1 ≤ most := by omega
          have HRR := Lib.hid (show names z most ts = if see [44] r then namesL z most f (acc ++ [n]) r.tail else .ok (acc ++ [n]) r by rw [HR.out, if_pos rfl, namesL, if_neg hne, hn])
          rw [hn] at HN
          clear hn hne
          go_wp2_with fail
          refine HN.out.mono ?_; rintro e w2 ⟨hc2, _, rfl, rfl, hp2⟩
          have HC2 := Lib.hid hc2; have HP2 := Lib.hid hp2
          have ho2 := owns_kept HO.out ((hc2.alloc (.cells #[str n] 9))) (fun g hg hm => by have := HF.out g hg; simp at hm; omega)
          have HO2 := Lib.hid ho2
          clear hc2 hp2 ho2
          go_wp2_with (at_builtin; go_must (refine wpL_append rfl _ _ 22 rfl 9 _ 1 16 infoStr Tryz.underlying22 rfl (by decide) _ _ _ rfl HO2.out ⟨w2.heap.size, 0, none⟩ 1 1 [_] rfl rfl (cell_new1 _ _ _) (by simp [Value.oneCell']) ?_ ?_ ?_))
          · omega
          · unfold maxLen; omega
          · intro v' w' hown' hch' hmv'
            have HO' := Lib.hid hown'; clear hown'
            obtain ⟨hp3, hc3, hf3⟩ := grow_step hB hbp hbt HC.out HC2.out HP2.out HF.out hch' hmv'
            have HP3 := Lib.hid hp3; have HC3 := Lib.hid hc3; have HF3 := Lib.hid hf3
            clear hch' hmv' hp3 hc3 hf3
            go_wp2_with fail
            refine (take_any [44] _ B bp bt z r HP3.out).mono ?_; rintro e w4 ⟨rfl, hp4, hc4, _⟩
            have HP4 := Lib.hid hp4; have HC4 := Lib.hid hc4
            clear hp4 hc4
            go_wp2_with fail
            have ho4 := owns_kept HO'.out HC4.out (fun g hg hm => by have := HF3.out g hg; simp at hm; omega)
            have hl4 : lenOf v' = acc.length + 1 := lenOf_owns HO'.out
            have hsk : (skip [44] r).length ≤ r.length := skip_le _ _
            refine ⟨⟨f, see [44] r, acc ++ [n], skip [44] r, rfl, ?_, fun _ => by simp; omega, by simp; omega, by simp; omega, HP4.out, by simpa using ho4, HF3.out, HC3.out.then HC4.out⟩, ?_⟩
            · rw [HRR.out]; unfold skip; split <;> rfl
            · rw [hl4]; simp only [lenOf]; omega
end Go.Proofs.YtgnfhognbpifiaaGreatDoor
