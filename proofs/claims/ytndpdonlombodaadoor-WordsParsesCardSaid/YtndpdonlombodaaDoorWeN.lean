/- WordsParses. -/
import Derived.Test.YtndpdonlombodaaDoorWeM
import Derived.Test.YtndpdonlombodaaDoorWeF
namespace Go.Proofs.YtndpdonlombodaaDoor
open Go.RowKit Law
set_option linter.unusedVariables false
set_option linter.unusedSimpArgs false

set_option maxHeartbeats 3200000 in
set_option maxRecDepth 100000 in
theorem walkWParses (s : ByteArray) (hsz : s.size ≤ 9223372036854775807) (w : World) (hP : P10 w) (hM : MX w) (hE : E7 w) :
    Calls Tryd.prog 4 #[.string s] w fun e w' => e = .returned (.bool true) ∧ Below w.heap.size w w' := by
  obtain ⟨m, hm⟩ : ∃ m, min s.size 3000 = m := ⟨_, rfl⟩
  have hmin : min (s.size : Int) 3000 = (m : Int) := by omega
  have hsl := fun W => str_upto s m (by omega) W
  obtain ⟨t, ht⟩ : ∃ t, s.extract 0 m = t := ⟨_, rfl⟩
  rw [ht] at hsl
  have htl : t.size ≤ 3000 := by rw [← ht, ByteArray.size_extract]; omega
  have hll : (linesL t.data.toList).length ≤ 4096 := by
    have := lines_le t.data.toList
    have e := Lib.size_eq t
    omega
  have C1 := wordsParse t (by omega) hll w hM hE
  have C2 := fun W => refParse t (by omega) hll W
  have HP := Lib.hid (And.intro hP (And.intro hM hE))
  have hlo := parse_len t.data.toList
  obtain ⟨o, ho⟩ : ∃ o, parseL t.data.toList = o := ⟨_, rfl⟩
  rw [ho] at C1 C2 hlo
  unfold ParsePost at C1 C2
  have C1 := Lib.hid C1
  have C2 := Lib.hid C2
  have hlo := Lib.hid (Nat.le_trans hlo hll)
  clear hm ht ho hll hP hM hE
  go_enter Tryd.func4, Tryd.ntmps4
  go_wp2_with fail
  refine C1.out.mono ?_
  rintro e w1 ⟨A, c, xs, rfl, hxs, hok, hA, hq⟩
  have HQ := Lib.hid (And.intro hq (And.intro hxs (And.intro hok hA)))
  clear hq hxs hok hA
  go_wp2_with fail
  refine (C2.out _).mono ?_
  rintro e w2 ⟨B, d, ys, rfl, hys, hoy, hB, hq2⟩
  have hlx : xs.length ≤ 1000000 := by
    have h1 := congrArg List.length HQ.out.2.1
    unfold acs at h1
    rw [List.length_map] at h1
    have h2 := hlo.out
    omega
  have C3 := all46 A B xs.length ys.length c d xs ys rfl rfl hlx HQ.out.2.2.1 hoy w2 (HQ.out.2.2.2.keep hq2) hB
  rw [decide_eq_true (HQ.out.2.1.trans hys.symm)] at C3
  have C3 := Lib.hid C3
  have H2 := Lib.hid (HQ.out.1.trans (hq2.mono HQ.out.1.size))
  clear hq2 hys hoy hB hlx
  go_wp2_with fail
  refine C3.out.mono ?_
  rintro e w3 ⟨rfl, hq3⟩
  have H3 := Lib.hid (H2.out.trans (hq3.mono H2.out.size))
  have C5 := Lib.hid (works47 w3 (HP.out.1.below H3.out) (HP.out.2.1.below H3.out) (HP.out.2.2.below H3.out))
  clear hq3
  go_wp2_with fail
  refine C5.out.mono ?_
  rintro e w5 ⟨rfl, hq5⟩
  have H5 := Lib.hid (H3.out.trans (hq5.mono H3.out.size))
  clear hq5
  go_wp2
  go_ret
  exact ⟨rfl, H5.out⟩
end Go.Proofs.YtndpdonlombodaaDoor
