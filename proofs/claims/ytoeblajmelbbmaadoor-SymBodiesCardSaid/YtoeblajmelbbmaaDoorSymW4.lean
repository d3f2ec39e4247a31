/- What others see, looked for; what is needed of it; sums. -/
import Derived.Test.YtoeblajmelbbmaaDoorSymW3
import Derived.Laws.BitsAllLaws
namespace Go.Mq.Sym
open Go Go.RowKit Go.Mq Go.Mq.Tree
/-- Which one, as a number. -/
def findI (l : List Sy) (n : List UInt8) : Int := match findS l n with
  | none => -1
  | some k => k
theorem findI_some {l : List Sy} {n : List UInt8} {k : Nat} {s : Sy} (hk : l[k]? = some s) (hs : s.name = n) (hb : ∀ (i : Nat) (x : Sy), i < k → l[i]? = some x → x.name ≠ n) : findS l n = some k := by
  have hlt := (List.getElem?_eq_some_iff.1 hk).1
  have hg := (List.getElem?_eq_some_iff.1 hk).2
  rw [findS, List.findIdx?_eq_some_iff_getElem]
  refine ⟨hlt, by rw [hg]; simpa using hs, fun i hi => ?_⟩
  have := hb i l[i] hi (List.getElem?_eq_getElem (by omega))
  simpa using this
theorem findI_none {l : List Sy} {n : List UInt8} (hb : ∀ (i : Nat) (x : Sy), l[i]? = some x → x.name ≠ n) : findS l n = none := by
  rw [findS, List.findIdx?_eq_none_iff]
  intro x hx
  obtain ⟨i, hi⟩ := List.getElem?_of_mem hx
  simpa using hb i x hi
theorem findS_lt {l : List Sy} {n : List UInt8} {k : Nat} (h : findS l n = some k) : k < l.length := by
  rw [findS, List.findIdx?_eq_some_iff_getElem] at h
  exact h.1
end Go.Mq.Sym
namespace Go.Proofs.YtoeblajmelbbmaaDoor
open Go Go.RowKit Go.Mq Go.Mq.Tree Go.Mq.Sym
set_option maxRecDepth 100000
set_option maxHeartbeats 2000000
theorem is_any (s : Sy) (n : List UInt8) (b : Nat) (w : World) (hb : w.cell? ⟨b, 0, none⟩ = some (str n)) : Calls Tryd.prog 42 #[.agg #[str s.name, .int .i64 s.len, .int .i64 s.args], ptr b] w (fun e w' => e = .returned (.bool (s.name == n)) ∧ Chg [] w w') := by
  have hlt := lt_of_cell hb
  have hb' := ((Chg.refl [] w).alloc (.cells #[str s.name, .int .i64 s.len, .int .i64 s.args] 44)).cellSome hb (by simp)
  go_enter Tryd.func42, Tryd.ntmps42
  go_wp2_with fail
  go_ret
  exact ⟨rfl, (Chg.refl _ _).alloc _⟩
theorem index_any (l : List Sy) (hl : l.length ≤ 1000) (n : List UInt8) (b : Nat) (F : Nat → Prop) (v : Value) (w : World) (h : SymsAt w F l v) (hb : w.cell? ⟨b, 0, none⟩ = some (str n)) :
    Calls Tryd.prog 41 #[v, .func (.func 42) #[] #[ptr b]] w (fun e w' => e = .returned (.int .i64 (findI l n)) ∧ Chg [] w w') := by
  obtain ⟨a, c, rfl, hac, hrow, _⟩ := h
  have HROW := Lib.hid hrow; have HB := Lib.hid hb
  clear hrow hb
  go_enter Tryd.func41, Tryd.ntmps41
  go_wp2_with fail
  go_loopw [5, 8] (fun _ i wr => ∃ k : Nat, i = .int .i64 k ∧ k ≤ l.length ∧ Chg [] w wr ∧ ∀ (i : Nat) (x : Sy), i < k → l[i]? = some x → x.name ≠ n) (fun _ i _ => l.length - (intOf i).toNat)
  case atStart => exact ⟨0, rfl, Nat.zero_le _, Chg.refl _ _, fun i x hi => by omega⟩
  case round =>
    obtain ⟨k, rfl, hk, hc, hno⟩ := hrel
    have HNO := Lib.hid hno; have HC := Lib.hid hc
    clear hno hc
    by_cases hlt : k < l.length
    · obtain ⟨s, hs⟩ : ∃ s, l[k]? = some s := ⟨l[k], List.getElem?_eq_getElem hlt⟩
      obtain ⟨bb, off, rfl, d0, d1, d2⟩ := sy_cells3 (HROW.out.kept HC.out (by simp)) hs
      have HS := Lib.hid hs
      have HI := Lib.hid (is_any s n b wr (HC.out.cellSome HB.out (by simp)))
      clear hs
      cases hq : (s.name == n) with
      | true =>
        rw [hq] at HI
        have HR := Lib.hid (show findI l n = k by rw [findI, findI_some HS.out (by simpa using hq) HNO.out])
        clear hq
        go_wp2_with fail
        refine HI.out.mono ?_; rintro _ w2 ⟨rfl, hq⟩
        have HQ := Lib.hid (HC.out.then hq); clear hq
        go_wp2_with fail
        go_ret
        exact ⟨by rw [HR.out]; rfl, HQ.out⟩
      | false =>
        rw [hq] at HI
        have HN := Lib.hid (show s.name ≠ n by simpa using hq)
        clear hq
        go_wp2_with fail
        refine HI.out.mono ?_; rintro _ w2 ⟨rfl, hq⟩
        have HQ := Lib.hid (HC.out.then hq); clear hq
        go_wp2_with fail
        refine ⟨⟨k + 1, by go_num, by omega, HQ.out, fun i x hi hx => ?_⟩, by simp [intOf]; omega⟩
        by_cases he : i < k
        · exact HNO.out i x he hx
        · have : i = k := by omega
          subst this
          rw [HS.out] at hx
          cases hx
          exact HN.out
    · have HR := Lib.hid (show findI l n = -1 by rw [findI, findI_none fun i x hx => HNO.out i x (by have := (List.getElem?_eq_some_iff.1 hx).1; omega) hx])
      go_wp2_with fail
      go_ret
      exact ⟨by rw [HR.out]; rfl, HC.out⟩
theorem find_any (l : List Sy) (hl : l.length ≤ 1000) (n : List UInt8) (F : Nat → Prop) (v : Value) (w : World) (h : SymsAt w F l v) :
    Calls Tryd.prog 27 #[v, str n] w (fun e w' => e = .returned (.int .i64 (findI l n)) ∧ Chg [] w w') := by
  have hmf : ∀ (fn : Fn) (first cap : Array Value) (w : World), (Instr.makeFunc fn first cap).run Tryd.prog w = .ok (.func fn first cap) w := fun _ _ _ _ => rfl
  have hc : Chg [] w (w.alloc (.cells #[str n] 9)) := (Chg.refl _ _).alloc _
  have HI := Lib.hid (index_any l hl n w.heap.size F v (w.alloc (.cells #[str n] 9)) (h.kept hc (by simp)) ((Blk.new w #[str n] 9).cell 0 _ rfl))
  have HC := Lib.hid hc
  clear h hc
  go_enter Tryd.func27, Tryd.ntmps27
  go_wp2_with fail
  refine HI.out.mono ?_; rintro _ w2 ⟨rfl, hq⟩
  have HQ := Lib.hid (HC.out.then hq); clear hq
  go_wp2_with fail
  go_ret
  exact ⟨rfl, HQ.out⟩
theorem sum_any (s : List UInt8) (hs : s.length ≤ 1099511627776) (w : World) : Calls Tryd.prog 14 #[str s] w (fun e w' => e = .returned (.int .u32 (fnv s)) ∧ w' = w) := by
  go_enter Tryd.func14, Tryd.ntmps14
  go_wp2_with fail
  go_loopw [3, 4, 7] (fun h _ i wr => ∃ k m : Nat, h = .int .u32 m ∧ i = .int .i64 k ∧ k ≤ s.length ∧ m < 4294967296 ∧ (s.drop k).foldl fnvStep m = fnv s ∧ w = wr) (fun _ _ i _ => s.length - (intOf i).toNat)
  case atStart => exact ⟨0, 2166136261, rfl, rfl, Nat.zero_le _, by omega, rfl, rfl⟩
  case round =>
    obtain ⟨k, m, rfl, rfl, hk, hm, hf, rfl⟩ := hrel
    have HF := Lib.hid hf
    clear hf
    by_cases hlt : k < s.length
    · obtain ⟨c, hc⟩ : ∃ c, s[k]? = some c := ⟨s[k], List.getElem?_eq_getElem hlt⟩
      have hidx := run_index_str (P := Tryd.prog) Tryd.underlying9 (show (bs s)[k]? = some c by rw [bs_get]; exact hc)
      have HD := Lib.hid (show s.drop k = c :: s.drop (k + 1) by
        rw [List.drop_eq_getElem_cons hlt]
        congr 1
        rw [List.getElem?_eq_getElem hlt] at hc
        exact Option.some.inj hc)
      clear hc
      have hc8 : c.toNat < 256 := UInt8.toNat_lt c
      have HX := Lib.hid (show bits BinOp.xor IntKind.u32 (m : Int) ((c.toNat : Int) % 4294967296) * 16777619 % 4294967296 = ((fnvStep m c : Nat) : Int) by
        rw [show ((c.toNat : Int) % 4294967296) = (c.toNat : Int) by omega, u32_xor_nat m c.toNat hm (by omega), fnvStep]
        omega)
      have HFB := Lib.hid (show fnvStep m c < 4294967296 by rw [fnvStep]; omega)
      clear hc8
      go_wp2_with fail
      exact ⟨⟨k + 1, fnvStep m c, congrArg (Value.int .u32) HX.out, by go_num, by omega, HFB.out, by have e := HF.out; rw [HD.out, List.foldl_cons] at e; exact e, by first | rfl | trivial⟩, by simp [intOf]; omega⟩
    · have hke : k = s.length := by omega
      have HR := Lib.hid (show m = fnv s by have e := HF.out; rw [hke, List.drop_length] at e; exact e)
      go_wp2_with fail
      go_ret
      exact ⟨by rw [← HR.out]; rfl, rfl⟩
theorem needs_any (l : List Sy) (hf : ∀ x ∈ l, x.fit) (hl : l.length ≤ 1000) (names : List (List UInt8)) (hn : names.length ≤ 1000) (hs : ∀ n ∈ names, n.length ≤ 1000000) (F F' : Nat → Prop) (v v' : Value) (w : World) (B : Nat) (hL : Laid w B) (h : SymsAt w F l v) (h' : NamesAt w F' names v') :
    Calls Tryd.prog 13 #[v, v'] w (fun e w' => e = .returned (str (needsT l names)) ∧ Chg [] w w') := by
  have HSY := Lib.hid h; have HL := Lib.hid hL; have HFIT := Lib.hid hf; have HSM := Lib.hid hs
  obtain ⟨a, c, rfl, hac, hrow, _⟩ := h
  obtain ⟨a', c', rfl, hac', hrow'⟩ := h'
  have HROW := Lib.hid hrow; have HROW' := Lib.hid hrow'
  clear hrow hrow' hL hf hs
  go_enter Tryd.func13, Tryd.ntmps13
  go_wp2_with fail
  go_loopw [5, 7, 8, 11] (fun s _ _ i wr => ∃ (k : Nat) (u : List UInt8), s = str u ∧ i = .int .i64 k ∧ k ≤ names.length ∧ Chg [] w wr ∧ u = needsT l (names.take k) ∧ u.length ≤ 1000200 * k) (fun _ _ _ i _ => names.length - (intOf i).toNat)
  case atStart => exact ⟨0, [], rfl, rfl, Nat.zero_le _, Chg.refl _ _, by simp [needsT], by simp⟩
  case round =>
    obtain ⟨k, u, rfl, rfl, hk, hc, hu, hul⟩ := hrel
    have HC := Lib.hid hc; have HU := Lib.hid hu
    clear hc hu
    by_cases hlt : k < names.length
    · obtain ⟨n, hn'⟩ : ∃ n, names[k]? = some n := ⟨names[k], List.getElem?_eq_getElem hlt⟩
      have hnz := HSM.out n (List.mem_of_getElem? hn')
      obtain ⟨b', o', rfl, hcell⟩ := HROW'.out.at_ (by simp; omega)
      have hcl := HC.out.cellSome (hcell k (str n) (by rw [List.getElem?_map, hn']; rfl)) (by simp)
      have HFD := Lib.hid (find_any l hl n F _ wr (HSY.out.kept HC.out (by simp)))
      have HNX := Lib.hid (show needsT l (names.take (k + 1)) = needsT l (names.take k) ++ needT l n by rw [List.take_add_one, hn']; simp [needsT])
      obtain ⟨nb, hnb⟩ : ∃ t : ByteArray, t = bs n := ⟨_, rfl⟩
      have hnbz : nb.size ≤ 1000000 := by rw [hnb]; exact hnz
      obtain ⟨ub, hub⟩ : ∃ t : ByteArray, t = bs u := ⟨_, rfl⟩
      have hubz : ub.size ≤ 1000200 * k := by rw [hub]; exact hul
      have HNB := Lib.hid hnb; have HUB := Lib.hid hub
      clear hcell hn'
      cases hq : findS l n with
      | none =>
        have hfi : findI l n = -1 := by rw [findI, hq]
        rw [hfi] at HFD
        have HQ := Lib.hid hq
        clear hq hfi
        have HV := Lib.hid (show Value.string (bs u ++ (bs [110, 111, 110, 101, 32] ++ bs n ++ bs [10])) = str (u ++ needT l n) by rw [← bs_append, ← bs_append, ← bs_append, needT, HQ.out])
        have HLE := Lib.hid (show (needT l n).length ≤ 1000100 by rw [needT, HQ.out]; simp; omega)
        go_wp2_with fail
        refine HFD.out.mono ?_; rintro _ w2 ⟨rfl, hq⟩
        have HC2 := Lib.hid (HC.out.then hq); clear hq
        go_wp2_with fail
        refine ⟨⟨k + 1, u ++ needT l n, HV.out, by go_num, by omega, HC2.out, by rw [HNX.out, HU.out], by have := HLE.out; simp; omega⟩, by simp [intOf]; omega⟩
      | some j =>
        have hfi : findI l n = j := by rw [findI, hq]
        have hjl := findS_lt hq
        rw [hfi] at HFD
        obtain ⟨s, hs⟩ : ∃ s, l[j]? = some s := ⟨l[j], List.getElem?_eq_getElem hjl⟩
        have hnt : needT l n = lineT s := by
          rw [needT, hq]
          show lineT (l.getD j Sy.none) = lineT s
          rw [List.getD_eq_getElem?_getD, hs]; rfl
        have HNT := Lib.hid hnt; have HS := Lib.hid hs
        have hfit := HFIT.out s (List.mem_of_getElem? hs)
        have HFT := Lib.hid hfit
        have HLE := Lib.hid (line_le hfit)
        clear hq hfi hnt hs hfit
        go_wp2_with fail
        refine HFD.out.mono ?_; rintro _ w2 ⟨rfl, hq⟩
        have HC2 := Lib.hid (HC.out.then hq); clear hq
        obtain ⟨bb, off, rfl, d0, d1, d2⟩ := sy_cells3 (HROW.out.kept HC2.out (by simp)) HS.out
        have HLN := Lib.hid (line_any s HFT.out w2 B (HL.out.kept HC2.out (by simp)))
        obtain ⟨t, ht⟩ : ∃ t : ByteArray, t = bs (lineT s) := ⟨_, rfl⟩
        have htz : t.size ≤ 1000100 := by rw [ht]; exact HLE.out
        rw [show str (lineT s) = .string t from congrArg Value.string ht.symm] at HLN
        have HV := Lib.hid (show Value.string (bs u ++ t) = str (u ++ needT l n) by rw [ht, ← bs_append, HNT.out])
        clear ht
        go_wp2_with fail
        refine HLN.out.mono ?_; rintro _ w3 ⟨rfl, hq⟩
        have HC3 := Lib.hid (HC2.out.then hq); clear hq
        go_wp2_with fail
        refine ⟨⟨k + 1, u ++ needT l n, HV.out, by go_num, by omega, HC3.out, by rw [HNX.out, HU.out], by have := HLE.out; rw [HNT.out]; simp; omega⟩, by simp [intOf]; omega⟩
    · have hke : k = names.length := by omega
      have HR := Lib.hid (show u = needsT l names by rw [HU.out, hke, List.take_length])
      go_wp2_with fail
      go_ret
      exact ⟨by rw [← HR.out]; rfl, HC.out⟩
end Go.Proofs.YtoeblajmelbbmaaDoor
