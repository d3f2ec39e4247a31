/- The parser's small methods: see, take, fail, must. -/
import Derived.Test.YtgnfhognbpifiaaGreatDoorTreeMem
import Derived.Test.YtgnfhognbpifiaaGreatDoorRegion3
namespace Go.Proofs.YtgnfhognbpifiaaGreatDoor
open Go Go.RowKit Go.Mq Go.Mq.Tree
set_option maxRecDepth 100000

theorem par_nil {w : World} {B bp bt z : Nat} (h : Par w B bp bt z []) : ∃ off c, w.cell? ⟨bp, 0, none⟩ = some (.slice (some ⟨bt, off, none⟩) 1 c) ∧ w.cell? ⟨bt, off, none⟩ = some (.int .i64 4) ∧ w.cell? ⟨bt, off + 2, none⟩ = some (.int .i64 z) ∧ 1 ≤ c := by
  obtain ⟨off, c, hb, hl, hc⟩ := h.at_
  exact ⟨off, c, hb.cell 0 _ rfl, hc 0 _ rfl, hc 2 _ rfl, hl⟩
theorem par_cons {w : World} {B bp bt z : Nat} {t : Tok} {r : List Tok} (h : Par w B bp bt z (t :: r)) : ∃ off c, Blk w bp #[.slice (some ⟨bt, off, none⟩) (r.length + 2) c] 73 ∧
    w.cell? ⟨bp, 0, none⟩ = some (.slice (some ⟨bt, off, none⟩) (r.length + 2) c) ∧ w.cell? ⟨bt, off, none⟩ = some (.int .i64 t.kind.num) ∧ w.cell? ⟨bt, off + 1, none⟩ = some (str t.text) ∧ w.cell? ⟨bt, off + 2, none⟩ = some (.int .i64 t.pos) ∧ r.length + 2 ≤ c ∧
    ∀ i v, (toksCells z r)[i]? = some v → w.cell? ⟨bt, off + 3 + i, none⟩ = some v := by
  obtain ⟨off, c, hb, hl, hc⟩ := h.at_
  refine ⟨off, c, hb, hb.cell 0 _ rfl, hc 0 _ rfl, hc 1 _ rfl, hc 2 _ rfl, hl, fun i v hi => ?_⟩
  rw [Nat.add_assoc]
  refine hc (3 + i) v ?_
  simpa [toksCells, Tok.cells, Nat.add_comm 3 i] using hi
theorem kind_ne (k : Kind) : (((k.num : Nat) : Int) != 4) = true := by cases k <;> decide

theorem see_any (s : List UInt8) (w : World) (B bp bt z : Nat) (ts : List Tok) (h : Par w B bp bt z ts) :
    Calls Tryz.prog 67 #[ptr bp, str s] w (fun e w' => e = .returned (.bool (see s ts)) ∧ w' = w) := by
  cases ts with
  | nil =>
    obtain ⟨off, c, c0, c1, _, hl⟩ := par_nil h
    clear h
    go_enter Tryz.func67, Tryz.ntmps67
    go_wp2_with fail
    go_ret
    exact ⟨rfl, rfl⟩
  | cons t r =>
    obtain ⟨off, c, _, c0, c1, c2, _, hl, _⟩ := par_cons h
    have hk := kind_ne t.kind
    clear h
    go_enter Tryz.func67, Tryz.ntmps67
    go_wp2_with fail
    go_ret
    exact ⟨rfl, rfl⟩

/-- What stands behind a token that was taken. -/
theorem par_tail {w : World} {B bp bt z : Nat} {t : Tok} {r : List Tok} {off c : Nat} (h : Par w B bp bt z (t :: r)) (hb : Blk w bp #[.slice (some ⟨bt, off, none⟩) (r.length + 2) c] 73) (hl : r.length + 2 ≤ c)
    (hc : ∀ i v, (toksCells z r)[i]? = some v → w.cell? ⟨bt, off + 3 + i, none⟩ = some v) :
    Par (w.setCell ⟨bp, 0, none⟩ (.slice (some ⟨bt, off + 3, none⟩) (r.length + 1) (c - 1))) B bp bt z r ∧ Chg [bp] w (w.setCell ⟨bp, 0, none⟩ (.slice (some ⟨bt, off + 3, none⟩) (r.length + 1) (c - 1))) := by
  have hch := Chg.set1 w bp 0 (.slice (some ⟨bt, off + 3, none⟩) (r.length + 1) (c - 1))
  have hB := h.bpB
  refine ⟨⟨h.laid.kept hch (fun x hx => by simp at hx; omega), h.bpB, h.btB, h.ne, by have := h.few; simp at this; omega, fun t ht => h.short t (List.mem_cons_of_mem _ ht), off + 3, c - 1, ?_, by omega, fun i v hi => hch.cellSome (hc i v hi) (by simpa using h.ne)⟩, hch⟩
  have := hb.set 0 (.slice (some ⟨bt, off + 3, none⟩) (r.length + 1) (c - 1))
  simpa using this

theorem take_any (s : List UInt8) (w : World) (B bp bt z : Nat) (ts : List Tok) (h : Par w B bp bt z ts) :
    Calls Tryz.prog 64 #[ptr bp, str s] w (fun e w' => e = .returned (.bool (see s ts)) ∧ Par w' B bp bt z (skip s ts) ∧ Chg [bp] w w' ∧ (see s ts = false → w' = w)) := by
  have HS := Lib.hid (see_any s w B bp bt z ts h)
  have H := Lib.hid h
  cases hs : see s ts with
  | false =>
    have HI := Lib.hid hs
    clear h hs
    go_enter Tryz.func64, Tryz.ntmps64
    go_wp2_with fail
    refine HS.out.mono ?_; rintro _ w1 ⟨rfl, rfl⟩
    rw [HI.out]
    go_wp2_with fail
    go_ret
    refine ⟨rfl, ?_, Chg.refl _ _, fun _ => rfl⟩
    rw [skip, HI.out]
    exact H.out
  | true =>
    cases ts with
    | nil => cases hs
    | cons t r =>
      obtain ⟨off, c, hb, c0, c1, c2, _, hl, hc⟩ := par_cons h
      have hf := hb.frozen 0
      have HI := Lib.hid hs
      have HT := Lib.hid (par_tail h hb hl hc)
      clear h hs hc hb c1 c2
      go_enter Tryz.func64, Tryz.ntmps64
      go_wp2_with fail
      refine HS.out.mono ?_; rintro _ w1 ⟨rfl, rfl⟩
      rw [HI.out]
      go_wp2_with fail
      go_ret
      refine ⟨rfl, ?_, HT.out.2, fun h => by cases h⟩
      rw [skip, HI.out]
      exact HT.out.1

theorem fail_any (en : Nat) (w : World) (B bp bt z : Nat) (ts : List Tok) (h : Par w B bp bt z ts) :
    Calls Tryz.prog 36 #[ptr bp, .int .i64 en] w (Ended w B bp bt z (.bad en (hd z ts) : R Unit) (fun _ _ _ => True)) := by
  have key : ∃ off c n, w.cell? ⟨bp, 0, none⟩ = some (.slice (some ⟨bt, off, none⟩) (n + 1) c) ∧ w.cell? ⟨bt, off + 2, none⟩ = some (.int .i64 (hd z ts)) := by
    cases ts with
    | nil => obtain ⟨off, c, c0, _, c2, _⟩ := par_nil h; exact ⟨off, c, 0, c0, c2⟩
    | cons t r => obtain ⟨off, c, _, c0, _, _, c2, _⟩ := par_cons h; exact ⟨off, c, r.length + 1, c0, c2⟩
  obtain ⟨off, c, n, c0, c2⟩ := key
  clear h
  go_enter Tryz.func36, Tryz.ntmps36
  go_wp2_with fail
  refine ⟨rfl, (Chg.refl _ _).alloc _, w.heap.size, rfl, Nat.le_refl _, Blk.new _ _ _⟩

theorem must_any (s : List UInt8) (w : World) (B bp bt z : Nat) (ts : List Tok) (h : Par w B bp bt z ts) :
    Calls Tryz.prog 62 #[ptr bp, str s] w (Ended w B bp bt z (must z s ts) (fun _ _ v => v = .tuple #[])) := by
  have HT := Lib.hid (take_any s w B bp bt z ts h)
  cases hs : see s ts with
  | false =>
    have HI := Lib.hid hs
    have HF := Lib.hid (fail_any 3 w B bp bt z ts h)
    clear h hs
    go_enter Tryz.func62, Tryz.ntmps62
    go_wp2_with fail
    refine HT.out.mono ?_; rintro _ w1 ⟨rfl, _, _, hw⟩
    rw [HI.out]
    have hw' := hw HI.out
    subst hw'
    go_wp2_with fail
    refine HF.out.mono ?_; rintro e w2 ⟨hc, b, rfl, hb⟩
    go_wp2_with fail
    refine ⟨rfl, ?_⟩
    rw [must, HI.out]
    exact ⟨hc, b, rfl, hb⟩
  | true =>
    have HI := Lib.hid hs
    clear h hs
    go_enter Tryz.func62, Tryz.ntmps62
    go_wp2_with fail
    refine HT.out.mono ?_; rintro _ w1 ⟨rfl, hp, hc, _⟩
    rw [HI.out]
    go_wp2_with fail
    refine bodyPost_end (results_none rfl _ _ _) rfl ?_
    rw [must, HI.out]
    refine ⟨hc, _, rfl, rfl, ?_⟩
    rw [skip, HI.out] at hp
    exact hp
end Go.Proofs.YtgnfhognbpifiaaGreatDoor
