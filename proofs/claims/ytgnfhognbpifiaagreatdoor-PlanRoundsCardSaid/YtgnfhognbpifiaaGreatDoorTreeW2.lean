/- Which words are no names. -/
import Derived.Test.YtgnfhognbpifiaaGreatDoorTreeW1
import Derived.MapKept
namespace Go.Mq.Tree
open Go Go.RowKit Go.Mq
def ents (ks : List (List UInt8)) (n : Nat) : List MapEntry := match ks with
  | [] => []
  | k :: r => { key := str k, val := .int .i64 1, born := n } :: ents r (n + 1)
theorem ents_snoc (ks : List (List UInt8)) (k : List UInt8) : ∀ n, ents (ks ++ [k]) n = ents ks n ++ [{ key := str k, val := .int .i64 1, born := n + ks.length }] := by
  induction ks with
  | nil => intro n; simp [ents]
  | cons x r ih => intro n; simp [ents, ih]; omega
/-- The world with the map of the first i words at block m. -/
def mw (w : World) (m i : Nat) : World := { w with heap := w.heap.setIfInBounds m (.map (ents (keptWords.take i) 0).toArray (min i keptWords.length)) }
theorem bs_beq (a b : List UInt8) : (bs a == bs b) = (a == b) := by
  rw [Bool.eq_iff_iff, MapKept.bytes_beq, beq_iff_eq]
  constructor
  · intro h; simpa using congrArg (fun x : ByteArray => x.data.toList) h
  · rintro rfl; rfl
theorem find_ents (k : List UInt8) (ks : List (List UInt8)) : ∀ n i, ∃ j, Instr.findNow .string (str k) (ents ks n) i = some (if ks.contains k then some (j, .int .i64 1) else none) := by
  induction ks with
  | nil => intro n i; exact ⟨0, rfl⟩
  | cons x r ih =>
    intro n i
    simp only [ents, Instr.findNow, Instr.sameNow, str, List.contains_cons]
    have e := bs_beq k x
    cases h : k == x with
    | true => rw [h] at e; exact ⟨i, by simp [e]⟩
    | false =>
      rw [h] at e
      obtain ⟨j, hj⟩ := ih (n + 1) (i + 1)
      refine ⟨j, ?_⟩
      simp only [e, Bool.false_or]
      exact hj
section
variable {P : Program} {T K E : TypeId}
theorem tgetm {w : World} {r : Nat} {es : Array MapEntry} {clock : Nat} (hb : w.heap[r]? = some (.map es clock)) : (getObj r).run P w = .ok (.map es clock) w := by simp [getObj, Sem.run, hb]
theorem tsetm {w : World} {r : Nat} {es : Array MapEntry} {clock : Nat} (o : Obj) (hb : w.heap[r]? = some (.map es clock)) : (setObj r o).run P w = .ok () { w with heap := w.heap.setIfInBounds r o } := by simp [setObj, Sem.run, hb]
theorem run_cks {w : World} (hK : P.underlying K = some .string) (e : Bool) (b : ByteArray) : (Instr.checkKey e 10000 K (.string b)).run P w = .ok () w := by
  rw [show (10000 : Nat) = 9999 + 1 from rfl, Instr.checkKey]
  simp [run_underlying hK]
theorem mw_get (w : World) (m i : Nat) (hm : m < w.heap.size) : (mw w m i).heap[m]? = some (.map (ents (keptWords.take i) 0).toArray (min i keptWords.length)) := by
  simp [mw, hm]
theorem mw_ins (hT : P.underlying T = some (.map K E)) (hK : P.underlying K = some .string) (w : World) (m i : Nat) (k : List UInt8) (hm : m < w.heap.size) (hi : i < keptWords.length) (hk : keptWords[i]? = some k) (hn : (keptWords.take i).contains k = false) :
    (Instr.mapUpdate T (.map (some m)) (str k) (.int .i64 1)).run P (mw w m i) = .ok () (mw w m (i + 1)) := by
  have hb := mw_get w m i hm
  obtain ⟨j, hj⟩ := find_ents k (keptWords.take i) 0 0
  rw [hn] at hj
  simp only [Bool.false_eq_true, if_false] at hj
  simp only [Instr.mapUpdate, Sem.run_bind, run_underlying hT, Result.andThen_ok, tgetm hb, run_cks hK, Instr.findKey, run_underlying hK, hj, Sem.run_pure, tsetm _ hb]
  congr 1
  simp only [mw, World.mk.injEq, and_true, Array.setIfInBounds_setIfInBounds]
  have e2 : keptWords.take (i + 1) = keptWords.take i ++ [k] := by rw [List.take_add_one, hk]; rfl
  have e3 : (keptWords.take i).length = i := by simp; omega
  have e4 : keptWords.length = 21 := rfl
  rw [e2, ents_snoc, e3, e4]
  rw [e4] at hi
  rw [show min (i + 1) 21 = min i 21 + 1 by omega, show min i 21 = i by omega]
  simp
theorem mw_look (hT : P.underlying T = some (.map K E)) (hK : P.underlying K = some .string) (hE : ∀ w, (zeroValue E).run P w = .ok (.int .i64 0) w) (w : World) (m : Nat) (k : List UInt8) (hm : m < w.heap.size) :
    (Instr.lookup T (.map (some m)) (str k) false).run P (mw w m 21) = .ok (.int .i64 (if kept k then 1 else 0)) (mw w m 21) := by
  have hb := mw_get w m 21 hm
  obtain ⟨j, hj⟩ := find_ents k (keptWords.take 21) 0 0
  rw [show keptWords.take 21 = keptWords from rfl] at hj hb
  unfold kept
  cases h : keptWords.contains k <;> rw [h] at hj <;> simp only [Bool.false_eq_true, if_false, if_true] at hj <;>
    simp [Instr.lookup, run_underlying hT, tgetm hb, run_cks hK, Instr.findKey, run_underlying hK, hj, hE]
end
theorem mw_zero (w : World) : w.alloc (.map #[] 0) = mw (w.alloc (.map #[] 0)) w.heap.size 0 := by
  have e : (w.alloc (.map #[] 0)).heap = (w.alloc (.map #[] 0)).heap.setIfInBounds w.heap.size (.map (ents (keptWords.take 0) 0).toArray (min 0 keptWords.length)) := by
    apply Array.ext_getElem?
    intro i
    rw [Array.getElem?_setIfInBounds]
    by_cases h : w.heap.size = i
    · subst h
      rw [heap_alloc_new]
      simp [ents]
    · simp [h]
  unfold mw
  rw [← e]
theorem mw_chg (w : World) (i : Nat) : Chg [] w (mw (w.alloc (.map #[] 0)) w.heap.size i) := by
  refine ⟨rfl, rfl, rfl, by simp [mw], fun k hk _ => ?_⟩
  have : ((w.alloc (.map #[] 0)).heap.setIfInBounds w.heap.size (.map (ents (keptWords.take i) 0).toArray (min i keptWords.length)))[k]? = w.heap[k]? := by
    rw [Array.getElem?_setIfInBounds_ne (by omega)]
    exact Below.heap_alloc w _ k hk
  exact this
end Go.Mq.Tree
namespace Go.Proofs.YtgnfhognbpifiaaGreatDoor
open Go Go.RowKit Go.Mq Go.Mq.Tree
set_option maxRecDepth 100000
set_option maxHeartbeats 2000000
theorem kept_any (s : List UInt8) (w : World) :
    Calls Tryz.prog 90 #[str s] w (fun e w' => e = .returned (.bool (kept s)) ∧ Chg [] w w') := by
  have hmm : ∀ w, (Instr.makeMap 167 none).run Tryz.prog w = .ok (.map (some w.heap.size)) (mw (w.alloc (.map #[] 0)) w.heap.size 0) := fun w => by rw [← mw_zero]; exact run_makeMap _ _
  have hm : w.heap.size < (w.alloc (.map #[] 0)).heap.size := by simp
  have hz : ∀ w, (zeroValue 3).run Tryz.prog w = .ok (.int .i64 0) w := Tryz.zeroValue3
  have h0 := mw_ins (P := Tryz.prog) Tryz.underlying167 Tryz.underlying9 (w.alloc (.map #[] 0)) w.heap.size 0 _ hm (by decide) rfl (by decide)
  have h1 := mw_ins (P := Tryz.prog) Tryz.underlying167 Tryz.underlying9 (w.alloc (.map #[] 0)) w.heap.size 1 _ hm (by decide) rfl (by decide)
  have h2 := mw_ins (P := Tryz.prog) Tryz.underlying167 Tryz.underlying9 (w.alloc (.map #[] 0)) w.heap.size 2 _ hm (by decide) rfl (by decide)
  have h3 := mw_ins (P := Tryz.prog) Tryz.underlying167 Tryz.underlying9 (w.alloc (.map #[] 0)) w.heap.size 3 _ hm (by decide) rfl (by decide)
  have h4 := mw_ins (P := Tryz.prog) Tryz.underlying167 Tryz.underlying9 (w.alloc (.map #[] 0)) w.heap.size 4 _ hm (by decide) rfl (by decide)
  have h5 := mw_ins (P := Tryz.prog) Tryz.underlying167 Tryz.underlying9 (w.alloc (.map #[] 0)) w.heap.size 5 _ hm (by decide) rfl (by decide)
  have h6 := mw_ins (P := Tryz.prog) Tryz.underlying167 Tryz.underlying9 (w.alloc (.map #[] 0)) w.heap.size 6 _ hm (by decide) rfl (by decide)
  have h7 := mw_ins (P := Tryz.prog) Tryz.underlying167 Tryz.underlying9 (w.alloc (.map #[] 0)) w.heap.size 7 _ hm (by decide) rfl (by decide)
  have h8 := mw_ins (P := Tryz.prog) Tryz.underlying167 Tryz.underlying9 (w.alloc (.map #[] 0)) w.heap.size 8 _ hm (by decide) rfl (by decide)
  have h9 := mw_ins (P := Tryz.prog) Tryz.underlying167 Tryz.underlying9 (w.alloc (.map #[] 0)) w.heap.size 9 _ hm (by decide) rfl (by decide)
  have h10 := mw_ins (P := Tryz.prog) Tryz.underlying167 Tryz.underlying9 (w.alloc (.map #[] 0)) w.heap.size 10 _ hm (by decide) rfl (by decide)
  have h11 := mw_ins (P := Tryz.prog) Tryz.underlying167 Tryz.underlying9 (w.alloc (.map #[] 0)) w.heap.size 11 _ hm (by decide) rfl (by decide)
  have h12 := mw_ins (P := Tryz.prog) Tryz.underlying167 Tryz.underlying9 (w.alloc (.map #[] 0)) w.heap.size 12 _ hm (by decide) rfl (by decide)
  have h13 := mw_ins (P := Tryz.prog) Tryz.underlying167 Tryz.underlying9 (w.alloc (.map #[] 0)) w.heap.size 13 _ hm (by decide) rfl (by decide)
  have h14 := mw_ins (P := Tryz.prog) Tryz.underlying167 Tryz.underlying9 (w.alloc (.map #[] 0)) w.heap.size 14 _ hm (by decide) rfl (by decide)
  have h15 := mw_ins (P := Tryz.prog) Tryz.underlying167 Tryz.underlying9 (w.alloc (.map #[] 0)) w.heap.size 15 _ hm (by decide) rfl (by decide)
  have h16 := mw_ins (P := Tryz.prog) Tryz.underlying167 Tryz.underlying9 (w.alloc (.map #[] 0)) w.heap.size 16 _ hm (by decide) rfl (by decide)
  have h17 := mw_ins (P := Tryz.prog) Tryz.underlying167 Tryz.underlying9 (w.alloc (.map #[] 0)) w.heap.size 17 _ hm (by decide) rfl (by decide)
  have h18 := mw_ins (P := Tryz.prog) Tryz.underlying167 Tryz.underlying9 (w.alloc (.map #[] 0)) w.heap.size 18 _ hm (by decide) rfl (by decide)
  have h19 := mw_ins (P := Tryz.prog) Tryz.underlying167 Tryz.underlying9 (w.alloc (.map #[] 0)) w.heap.size 19 _ hm (by decide) rfl (by decide)
  have h20 := mw_ins (P := Tryz.prog) Tryz.underlying167 Tryz.underlying9 (w.alloc (.map #[] 0)) w.heap.size 20 _ hm (by decide) rfl (by decide)
  have hl := mw_look (P := Tryz.prog) Tryz.underlying167 Tryz.underlying9 hz (w.alloc (.map #[] 0)) w.heap.size s hm
  have HC := Lib.hid (mw_chg w 21)
  clear hz
  go_enter Tryz.func90, Tryz.ntmps90
  go_wp2_with fail
  all_goals
    go_ret
    exact ⟨rfl, HC.out⟩
end Go.Proofs.YtgnfhognbpifiaaGreatDoor
