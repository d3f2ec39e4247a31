/- The parser's op. -/
import Derived.Test.YtgnfhognbpifiaaGreatDoorTreeW5
namespace Go.Proofs.YtgnfhognbpifiaaGreatDoor
open Go Go.RowKit Go.Mq Go.Mq.Tree
set_option maxRecDepth 100000
set_option maxHeartbeats 4000000
theorem op_any (k : Nat) (lv : List (List UInt8)) (hk : levels[k]? = some lv) (w : World) (B bp bt z : Nat) (ts : List Tok) (h : Par w B bp bt z ts) :
    Calls Tryz.prog 108 #[ptr bp, .int .i64 k] w (fun e w' => e = .returned (str ((opOf lv ts).getD [])) ∧ w' = w) := by
  have H := Lib.hid h
  obtain ⟨b, off, c, c0, _, hc, hcell⟩ := h.laid.levels k lv hk
  have hk5 : k < 5 := (List.getElem?_eq_some_iff.1 hk).1
  have hlv : lv.length ≤ 6 := by
    have : ∀ l ∈ levels, l.length ≤ 6 := by decide
    exact this lv (List.mem_of_getElem? hk)
  have HCE := Lib.hid hcell
  clear h hcell hk
  go_enter Tryz.func108, Tryz.ntmps108
  go_wp2_with fail
  go_loopw [6, 11] (fun _ i wr => ∃ n : Nat, n ≤ lv.length ∧ i = .int .i64 n ∧ wr = w ∧ opOf lv ts = (lv.drop n).find? (fun m => see m ts)) (fun _ i _ => 10 - (intOf i).toNat)
  case atStart => exact ⟨0, Nat.zero_le _, rfl, rfl, rfl⟩
  case round =>
    obtain ⟨n, hn, rfl, rfl, hr⟩ := hrel
    have HR := Lib.hid hr; clear hr
    by_cases hlt : n < lv.length
    · have hm : lv[n]? = some lv[n] := List.getElem?_eq_getElem hlt
      have hcl := HCE.out n _ hm
      have HS := Lib.hid (see_any lv[n] wr B bp bt z ts H.out)
      cases hs : see lv[n] ts with
      | true =>
        have HRR := Lib.hid (show opOf lv ts = some lv[n] by rw [HR.out, List.drop_eq_getElem_cons hlt, List.find?_cons, hs])
        have HI := Lib.hid hs
        clear hs
        go_wp2_with fail
        refine HS.out.mono ?_; rintro _ w2 ⟨rfl, rfl⟩
        rw [HI.out]
        go_wp2_with fail
        go_ret
        rw [HRR.out]
        exact ⟨rfl, rfl⟩
      | false =>
        have HRR := Lib.hid (show opOf lv ts = (lv.drop (n + 1)).find? (fun m => see m ts) by rw [HR.out, List.drop_eq_getElem_cons hlt, List.find?_cons, hs])
        have HI := Lib.hid hs
        clear hs
        go_wp2_with fail
        refine HS.out.mono ?_; rintro _ w2 ⟨rfl, rfl⟩
        rw [HI.out]
        go_wp2_with fail
        exact ⟨⟨n + 1, by omega, by go_num, by first | rfl | trivial, HRR.out⟩, by simp [intOf]; omega⟩
    · have hge : n = lv.length := by omega
      have HRR := Lib.hid (show opOf lv ts = none by rw [HR.out, hge, List.drop_length]; rfl)
      go_wp2_with fail
      go_ret
      rw [HRR.out]
      exact ⟨rfl, rfl⟩
end Go.Proofs.YtgnfhognbpifiaaGreatDoor
