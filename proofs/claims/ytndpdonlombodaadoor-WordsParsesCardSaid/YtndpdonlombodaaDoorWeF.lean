/- WordsOnce. -/
import Derived.Test.YtndpdonlombodaaDoorWeE
import Derived.ChangeMaps5
namespace Go.Proofs.YtndpdonlombodaaDoor
open Go.RowKit Law
set_option linter.unusedVariables false
set_option linter.unusedSimpArgs false

theorem lines_le (s : List UInt8) : (linesL s).length ≤ s.length + 1 := by
  have h := cut_len 10 s
  unfold linesL
  split
  · rw [List.length_dropLast]; omega
  · exact h
theorem goL_len : ∀ (ls : List (List UInt8)) (i : Nat) (acc : List Ac), (goL i acc ls).1.length ≤ acc.length + ls.length
  | [], i, acc => by simp [goL]
  | s :: r, i, acc => by
    unfold goL
    split
    · simp
    · have := goL_len r (i + 1) (acc ++ [(oneL s).1])
      simp at this ⊢
      omega
theorem parse_len (s : List UInt8) : (parseL s).1.length ≤ (linesL s).length := by
  unfold parseL
  split
  · simp
  · split
    · simp
    · have := goL_len (linesL s) 0 []
      simpa using this
/-- Acts that were parsed: each may be, so each is in bounds. -/
theorem str_upto (s : ByteArray) (k : Nat) (hk : k ≤ s.size) (W : World) : (Instr.slice 9 (.string s) none (some (.int .i64 (k : Int))) none).run Tryd.prog W = .ok (.string (s.extract 0 k)) W := by
  have h1 : (0 : Int) ≤ k ∧ (k : Int) ≤ s.size := by omega
  simp [Instr.slice, Instr.sliceBounds, Instr.sliceBound, asIntOf, run_underlying Tryd.underlying9, h1, hk, go_sem]
set_option maxHeartbeats 3200000 in
set_option maxRecDepth 100000 in
theorem walkWOnce (s : ByteArray) (hsz : s.size ≤ 9223372036854775807) (w : World) (hP : P10 w) (hM : MX w) (hE : E7 w) :
    Calls Tryd.prog 6 #[.string s] w fun e w' => e = .returned (.bool true) ∧ Below w.heap.size w w' := by
  obtain ⟨m, hm⟩ : ∃ m, min s.size 3000 = m := ⟨_, rfl⟩
  have hmin : min (s.size : Int) 3000 = (m : Int) := by omega
  have hsl := fun W => str_upto s m (by omega) W
  obtain ⟨t, ht⟩ : ∃ t, s.extract 0 m = t := ⟨_, rfl⟩
  rw [ht] at hsl
  have htl : t.size ≤ 3000 := by rw [← ht, ByteArray.size_extract]; omega
  have hll : (linesL t.data.toList).length ≤ 4096 := by
    have := lines_le t.data.toList
    have e := Lib.size_eq t
    omega
  have C1 := wordsParse t (by omega) hll w hM hE
  have hbk := print_parse t.data.toList
  have HP := Lib.hid (And.intro hP (And.intro hM hE))
  have hlo := parse_len t.data.toList
  obtain ⟨o, ho⟩ : ∃ o, parseL t.data.toList = o := ⟨_, rfl⟩
  rw [ho] at C1 hbk hlo
  unfold ParsePost at C1
  have C1 := Lib.hid C1
  have hbk := Lib.hid hbk
  have hlo := Lib.hid (Nat.le_trans hlo hll)
  clear hm ht ho hll hP hM hE
  go_enter Tryd.func6, Tryd.ntmps6
  go_wp2_with fail
  refine C1.out.mono ?_
  rintro e w1 ⟨A, c, xs, rfl, hxs, hok, hA, hq⟩
  have HQ := Lib.hid (And.intro hq (And.intro hxs (And.intro hok hA)))
  clear hq hxs hok hA
  by_cases he : o.2.2 = 0
  · have heb : (o.2.2 != 0) = false := by simpa using he
    have hlen : xs.length ≤ 10000 := by
      have h1 := congrArg List.length HQ.out.2.1
      unfold acs at h1
      rw [List.length_map] at h1
      have h2 := hlo.out
      omega
    have C2 := wordsPrint A xs.length c xs rfl hlen HQ.out.2.2.1 w1 HQ.out.2.2.2 (HP.out.1.below HQ.out.1)
    rw [HQ.out.2.1] at C2
    have hb2 := hbk.out he
    obtain ⟨L, hL⟩ : ∃ L, printL o.1 = L := ⟨_, rfl⟩
    rw [hL] at C2 hb2
    have C2 := Lib.hid C2
    have HB2 := Lib.hid hb2
    clear hL hb2 hlen
    go_wp2_with fail
    refine C2.out.mono ?_
    rintro e w2 ⟨rfl, hq2⟩
    have H2 := Lib.hid (HQ.out.1.trans (hq2.mono HQ.out.1.size))
    have C5 := Lib.hid (works47 w2 (HP.out.1.below H2.out) (HP.out.2.1.below H2.out) (HP.out.2.2.below H2.out))
    clear hq2
    have hts : (t.toList == L) = decide (L = t.data.toList) := by
      rw [ByteArray.toList_eq, Bool.eq_iff_iff, beq_iff_eq, decide_eq_true_eq]
      exact eq_comm
    by_cases hL1 : L = t.data.toList
    · rw [decide_eq_true hL1] at hts
      clear hL1
      go_wp2_with fail
      refine C5.out.mono ?_
      rintro e w5 ⟨rfl, hq5⟩
      have H5 := Lib.hid (H2.out.trans (hq5.mono H2.out.size))
      clear hq5
      go_wp2
      go_ret
      exact ⟨rfl, H5.out⟩
    · rw [decide_eq_false hL1] at hts
      have hL2 : L = t.data.toList ++ [10] := HB2.out.resolve_left hL1
      have hts3 : ((t ++ (⟨#[10]⟩ : ByteArray)).toList == L) = true := by
        rw [ByteArray.toList_eq, beq_iff_eq, hL2]
        simp
      clear hL1 hL2
      go_wp2_with fail
      refine C5.out.mono ?_
      rintro e w5 ⟨rfl, hq5⟩
      have H5 := Lib.hid (H2.out.trans (hq5.mono H2.out.size))
      clear hq5
      go_wp2
      go_ret
      exact ⟨rfl, H5.out⟩
  · have heb : (o.2.2 != 0) = true := by simpa using he
    have C5 := Lib.hid (works47 w1 (HP.out.1.below HQ.out.1) (HP.out.2.1.below HQ.out.1) (HP.out.2.2.below HQ.out.1))
    go_wp2_with fail
    refine C5.out.mono ?_
    rintro e w5 ⟨rfl, hq5⟩
    have H5 := Lib.hid (HQ.out.1.trans (hq5.mono HQ.out.1.size))
    clear hq5
    go_wp2
    go_ret
    exact ⟨rfl, H5.out⟩
end Go.Proofs.YtndpdonlombodaaDoor
