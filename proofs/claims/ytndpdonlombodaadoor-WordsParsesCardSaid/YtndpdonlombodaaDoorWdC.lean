/- words.join, words.wide, words.kind; hex digits. -/
import Derived.Test.YtndpdonlombodaaDoorWdB
import Derived.Test.YtndpdonlombodaaDoorWdR
import Derived.Test.YtndpdonlombodaaDoorBuild
namespace Go.Proofs.YtndpdonlombodaaDoor
open Go.RowKit Law
set_option linter.unusedVariables false
set_option linter.unusedSimpArgs false

/-! ### words.join -/
def tailsOf (ns : List Int) : List UInt8 := ns.flatMap fun z => 32 :: Lib.itoa z
theorem tailsOf_snoc (ns : List Int) (k : Nat) (hk : k < ns.length) : tailsOf (ns.take (k + 1)) = tailsOf (ns.take k) ++ 32 :: Lib.itoa ns[k] := by
  unfold tailsOf
  rw [List.take_succ_eq_append_getElem hk, List.flatMap_append]
  simp
theorem tailsOf_len : ∀ (ns : List Int), I64s ns → (tailsOf ns).length ≤ 22 * ns.length
  | [], _ => by simp [tailsOf]
  | n :: l, h => by
    have h1 := h n (by simp)
    have h2 := itoa_len h1.1 h1.2
    have ih := tailsOf_len l (fun z hz => h z (by simp [hz]))
    show ((32 :: Lib.itoa n) ++ tailsOf l).length ≤ _
    rw [List.length_append, List.length_cons, List.length_cons]
    omega
theorem join_arr (p l : List UInt8) : (⟨p.toArray⟩ : ByteArray) ++ ((⟨#[32]⟩ : ByteArray) ++ ⟨l.toArray⟩) = ⟨(p ++ 32 :: l).toArray⟩ := by
  apply ByteArray.ext
  simp
set_option maxHeartbeats 1600000 in
theorem wordsJoin (s : List UInt8) (ns : List Int) (A : Option Addr) (n c : Nat) (hn : ns.length = n) (hm : n ≤ 3) (hs : s.length ≤ 100) (hI : I64s ns) (w : World) (hA : RowAt w A (intV ns)) (hP : P10 w) :
    Calls Tryd.prog 18 #[.string ⟨s.toArray⟩, .slice A n c] w fun e w' => e = .returned (.string ⟨(s ++ tailsOf ns).toArray⟩) ∧ Below w.heap.size w w' := by
  have HX := Lib.hid (And.intro hn (And.intro hI (And.intro hA (And.intro hP hs))))
  clear hn hI hA hP hs
  go_enter Tryd.func18, Tryd.ntmps18
  go_wp2
  go_loopw [0, 9] (fun v i wr => ∃ k : Nat, k ≤ n ∧ i = .int .i64 k ∧ v = .string ⟨(s ++ tailsOf (ns.take k)).toArray⟩ ∧ Below w.heap.size w wr) (fun _ i _ => n - (intOf i).toNat)
  case atStart => exact ⟨0, Nat.zero_le _, rfl, by simp [tailsOf], Below.refl _ _⟩
  case round =>
    obtain ⟨k, hk, rfl, rfl, hb⟩ := hrel
    by_cases hlt : k < n
    · have hlt' : k < ns.length := by rw [HX.out.1]; exact hlt
      obtain ⟨blk, off, rfl, hc⟩ := (HX.out.2.2.1.keep hb) k (.int .i64 ns[k]) (by unfold intV; rw [List.getElem?_map, List.getElem?_eq_getElem hlt']; rfl)
      obtain ⟨z0, z1⟩ := HX.out.2.1 _ (List.getElem_mem hlt')
      have hz := itoa_len z0 z1
      have hE := Lib.hid (tailsOf_snoc ns k hlt')
      have hpl : (s ++ tailsOf (ns.take k)).length ≤ 200 := by
        have h1 := tailsOf_len (ns.take k) (fun z hz => HX.out.2.1 z (List.mem_of_mem_take hz))
        have h2 : (ns.take k).length ≤ k := List.length_take_le _ _
        have h3 := HX.out.2.2.2.2
        rw [List.length_append]; omega
      have hJ := Lib.hid (join_arr (s ++ tailsOf (ns.take k)) (Lib.itoa ns[k]))
      have hP := HX.out.2.2.2.1.below hb
      have C := Lib.hid (fmtInt ns[k] z0 z1 wr hP)
      obtain ⟨p, hp⟩ : ∃ p, s ++ tailsOf (ns.take k) = p := ⟨_, rfl⟩
      rw [hp] at hpl hJ ⊢
      have HP := Lib.hid hp
      clear hP hp
      go_wp2_with fail
      refine C.out.mono ?_
      rintro e w1 ⟨rfl, hq⟩
      have HB := Lib.hid (hb.trans (hq.mono hb.size))
      clear hq
      go_wp2_with fail
      go_roundw
      case rel => exact ⟨k + 1, by omega, by go_num, by rw [hJ.out, hE.out, ← List.append_assoc, HP.out], HB.out⟩
      case measure => simp [intOf]; omega
    · obtain rfl : k = n := by omega
      have HE : Hid (ns.take k = ns) := List.take_of_length_le (by rw [HX.out.1]; exact Nat.le_refl _)
      go_wp2
      go_ret
      exact ⟨ret_str (by rw [HE.out]), hb⟩

/-! ### words.wide, words.kind -/
theorem wordsWide (n : Int) (h0 : -9223372036854775808 ≤ n) (h1 : n ≤ 9223372036854775807) (w : World) :
    Calls Tryd.prog 55 #[.int .i64 n] w fun e w' => e = .returned (.bool (wideN n)) ∧ w = w' := by
  have HW : Hid (wideN n = decide (n % 4294967296 ≠ n)) := rfl
  have hm0 : 0 ≤ n % 4294967296 := by omega
  have hm1 : n % 4294967296 < 4294967296 := by omega
  by_cases h : n % 4294967296 = n
  · have q : (n % 4294967296 != n) = false := by simpa using h
    have HV : Hid (wideN n = false) := by unfold Hid; rw [HW.out]; simpa using h
    clear h
    go_enter Tryd.func55, Tryd.ntmps55
    go_wp2
    go_ret
    exact ⟨ret_bool (by rw [HV.out]), rfl⟩
  · have q : (n % 4294967296 != n) = true := by simpa using h
    have HV : Hid (wideN n = true) := by unfold Hid; rw [HW.out]; simpa using h
    clear h
    go_enter Tryd.func55, Tryd.ntmps55
    go_wp2
    go_ret
    exact ⟨ret_bool (by rw [HV.out]), rfl⟩
set_option maxHeartbeats 1600000 in
theorem wordsKind (s : ByteArray) (w : World) :
    Calls Tryd.prog 38 #[.string s] w fun e w' => e = .returned (.int .i64 (kindL s.data.toList)) ∧ w = w' := by
  have HK : Hid (kindL s.data.toList = if (s.toList == [116, 105, 99, 107]) = true then 1 else if (s.toList == [100, 114, 105, 102, 116]) = true then 2 else if (s.toList == [102, 97, 116, 101]) = true then 3
      else if (s.toList == [99, 114, 97, 115, 104]) = true then 4 else if (s.toList == [114, 101, 115, 116, 97, 114, 116]) = true then 5 else if (s.toList == [115, 101, 110, 100]) = true then 6
      else if (s.toList == [106, 111, 105, 110]) = true then 7 else if (s.toList == [108, 101, 97, 118, 101]) = true then 8 else 0) := by
    unfold Hid kindL
    simp only [ByteArray.toList_eq, beq_iff_eq]
    rfl
  go_enter Tryd.func38, Tryd.ntmps38
  go_wp2
  all_goals
    go_ret
    refine ⟨ret_int ?_, rfl⟩
    rw [HK.out]
    simp [*]
end Go.Proofs.YtndpdonlombodaaDoor
