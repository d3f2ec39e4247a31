/- The printer's star and level. -/
import Derived.Test.YtdlhjcnmpcligaaDoorTreeMem
import Derived.Test.YtdlhjcnmpcligaaDoorShelf
import Derived.Test.YtdlhjcnmpcligaaDoorRegion5
namespace Go.Mq.Tree
open Go Go.RowKit Go.Mq
theorem opLevel_of {op : List UInt8} {i : Nat} {l : List (List UInt8)} (hi : levels[i]? = some l) (h : op ∈ l) (hn : ∀ (j : Nat) (l' : List (List UInt8)), j < i → levels[j]? = some l' → op ∉ l') : opLevel op = i := by
  have hlt : i < levels.length := (List.getElem?_eq_some_iff.mp hi).1
  have hg : levels[i] = l := (List.getElem?_eq_some_iff.mp hi).2
  have : levels.findIdx? (fun l => l.contains op) = some i := by
    rw [List.findIdx?_eq_some_iff_getElem]
    refine ⟨hlt, by simpa [hg] using h, ?_⟩
    intro j hj
    have := hn j levels[j] hj (List.getElem?_eq_getElem (by omega))
    simpa using this
  rw [opLevel, this]; rfl
theorem opLevel_none {op : List UInt8} (hn : ∀ (j : Nat) (l' : List (List UInt8)), levels[j]? = some l' → op ∉ l') : opLevel op = 0 := by
  have : levels.findIdx? (fun l => l.contains op) = none := by
    rw [List.findIdx?_eq_none_iff]
    intro l hl
    obtain ⟨j, hj⟩ := List.getElem?_of_mem hl
    have := hn j l hj
    simpa using this
  rw [opLevel, this]; rfl
end Go.Mq.Tree
namespace Go.Proofs.YtdlhjcnmpcligaaDoor
open Go Go.RowKit Go.Mq Go.Mq.Tree
set_option maxRecDepth 100000
set_option maxHeartbeats 4000000
theorem star_any (b : Bool) (w : World) : Calls Tryd.prog 17 #[.bool b] w (fun e w' => e = .returned (str (star b)) ∧ w' = w) := by
  cases b with
  | false =>
    go_enter Tryd.func17, Tryd.ntmps17
    go_wp2_with fail
    go_ret
    exact ⟨rfl, rfl⟩
  | true =>
    go_enter Tryd.func17, Tryd.ntmps17
    go_wp2_with fail
    go_ret
    exact ⟨rfl, rfl⟩
theorem level_any (b : Nat) (k : Int) (hk : k ≠ 5) (w : World) (h0 : w.cell? ⟨b, 0, none⟩ = some (.int .i64 k)) : Calls Tryd.prog 46 #[ptr b] w (fun e w' => e = .returned (.int .i64 5) ∧ w' = w) := by
  have hk1 : (k == 5) = false := by simpa using hk
  clear hk
  go_enter Tryd.func46, Tryd.ntmps46
  go_wp2_with fail
  go_ret
  exact ⟨rfl, rfl⟩
theorem level_bin (b : Nat) (op : List UInt8) (w : World) (B : Nat) (h0 : w.cell? ⟨b, 0, none⟩ = some (.int .i64 5)) (h5 : w.cell? ⟨b, 5, none⟩ = some (str op)) (hL : Laid w B) :
    Calls Tryd.prog 46 #[ptr b] w (fun e w' => e = .returned (.int .i64 (opLevel op)) ∧ w' = w) := by
  obtain ⟨b0, o0, c0, l0, _, k0, m0⟩ := hL.levels 0 _ rfl
  obtain ⟨b1, o1, c1, l1, _, k1, m1⟩ := hL.levels 1 _ rfl
  obtain ⟨b2, o2, c2, l2, _, k2, m2⟩ := hL.levels 2 _ rfl
  obtain ⟨b3, o3, c3, l3, _, k3, m3⟩ := hL.levels 3 _ rfl
  obtain ⟨b4, o4, c4, l4, _, k4, m4⟩ := hL.levels 4 _ rfl
  clear hL k0 k1 k2 k3 k4
  have hkey : ∀ k : Nat, k < 5 → ∃ bk ok ck lk, levels[k]? = some lk ∧ lk.length ≤ 9 ∧ (∀ w, (Instr.index 114 (.agg #[.slice (some ⟨b0, o0, none⟩) 1 c0, .slice (some ⟨b1, o1, none⟩) 1 c1, .slice (some ⟨b2, o2, none⟩) 6 c2, .slice (some ⟨b3, o3, none⟩) 2 c3, .slice (some ⟨b4, o4, none⟩) 3 c4]) (.int .i64 k)).run Tryd.prog w = .ok (.slice (some ⟨bk, ok, none⟩) lk.length ck) w) ∧ ∀ (j : Nat) (m : List UInt8), lk[j]? = some m → w.cell? ⟨bk, ok + j, none⟩ = some (str m) := by
    intro k hk
    match k, hk with
    | 0, _ => exact ⟨b0, o0, c0, _, rfl, by decide, fun _ => rfl, m0⟩
    | 1, _ => exact ⟨b1, o1, c1, _, rfl, by decide, fun _ => rfl, m1⟩
    | 2, _ => exact ⟨b2, o2, c2, _, rfl, by decide, fun _ => rfl, m2⟩
    | 3, _ => exact ⟨b3, o3, c3, _, rfl, by decide, fun _ => rfl, m3⟩
    | 4, _ => exact ⟨b4, o4, c4, _, rfl, by decide, fun _ => rfl, m4⟩
  have HKEY := Lib.hid hkey
  clear m0 m1 m2 m3 m4 hkey
  go_enter Tryd.func46, Tryd.ntmps46
  go_wp2_with fail
  go_loopw [3, 4, 6, 13] (fun _ _ _ i wr => ∃ k : Nat, k ≤ 5 ∧ i = .int .i64 k ∧ (∀ (j : Nat) (l' : List (List UInt8)), j < k → levels[j]? = some l' → op ∉ l') ∧ w = wr) (fun _ _ _ i _ => 5 - (intOf i).toNat)
  case atStart => exact ⟨0, by omega, rfl, fun j l' hj => by omega, rfl⟩
  case round =>
    obtain ⟨k, hk, rfl, hno, rfl⟩ := hrel
    have HN := Lib.hid hno
    clear hno
    cases hc : decide ((k : Int) < 5) with
    | false =>
      have hk5 : k = 5 := by have := of_decide_eq_false hc; omega
      subst hk5
      clear hc
      go_wp2_with fail
      go_ret
      exact ⟨by rw [opLevel_none fun j l' hj => HN.out j l' (by have := (List.getElem?_eq_some_iff.mp hj).1; simpa [levels] using this) hj]; rfl, rfl⟩
    | true =>
      have hk5 : k < 5 := by have := of_decide_eq_true hc; omega
      obtain ⟨bk, ok, ck, lk, hlk, hll, hidx, hm⟩ := HKEY.out k hk5
      have HM := Lib.hid hm
      have HL := Lib.hid hlk
      clear hm hlk
      go_wp2_with fail
      go_loopw [6, 19] (fun _ j wr => ∃ n : Nat, n ≤ lk.length ∧ j = .int .i64 n ∧ (∀ (i : Nat) (m : List UInt8), i < n → lk[i]? = some m → m ≠ op) ∧ w = wr) (fun _ j _ => 10 - (intOf j).toNat)
      case atStart => exact ⟨0, by omega, rfl, fun j l' hj => by omega, rfl⟩
      case round =>
        obtain ⟨n, hn, rfl, hne, rfl⟩ := hrel
        have HE := Lib.hid hne
        clear hne
        by_cases hlt : n < lk.length
        · have hcell := HM.out n lk[n] (List.getElem?_eq_getElem hlt)
          by_cases hmo : lk[n] = op
          · have hmb : (lk[n] == op) = true := by simpa using hmo
            have HRR := Lib.hid (opLevel_of HL.out (hmo ▸ List.getElem_mem hlt) HN.out)
            go_wp2_with fail
            go_ret
            exact ⟨by rw [HRR.out]; rfl, rfl⟩
          · have hmb : (lk[n] == op) = false := by simpa using hmo
            have HMO := Lib.hid hmo
            clear hmo
            go_wp2_with fail
            refine ⟨⟨n + 1, by omega, by go_num, fun i m hi he => ?_, by first | rfl | trivial⟩, by simp [intOf]; omega⟩
            by_cases h : i < n
            · exact HE.out i m h he
            · have : i = n := by omega
              subst this
              rw [List.getElem?_eq_getElem hlt] at he
              cases he
              exact HMO.out
        · have hge : n = lk.length := by omega
          go_wp2_with fail
          refine ⟨⟨k + 1, by omega, by go_num, fun j l' hj he => ?_, by first | rfl | trivial⟩, by simp [intOf]; omega⟩
          by_cases h : j < k
          · exact HN.out j l' h he
          · have : j = k := by omega
            subst this
            rw [HL.out] at he
            cases he
            intro hmem
            obtain ⟨i, hi⟩ := List.getElem?_of_mem hmem
            exact HE.out i op (by rw [hge]; exact (List.getElem?_eq_some_iff.1 hi).1) hi rfl
end Go.Proofs.YtdlhjcnmpcligaaDoor
