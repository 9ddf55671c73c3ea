/- The walks of NodesBack and NodesLeast. -/
import Derived.Test.YtckeiihdbabgiaaDoorSetH
namespace Go.Proofs.YtckeiihdbabgiaaDoor
open Go.RowKit Law
set_option linter.unusedVariables false

theorem lits1 (w : World) (x : Int) (t : TypeId) : IntsAt (w.alloc (.cells #[.int .i64 x] t)) (some ⟨w.heap.size, 0, none⟩) [x] := by
  intro k u hu
  refine ⟨w.heap.size, 0, rfl, by simp, ?_⟩
  match k, hu with
  | 0, hu => simp at hu; subst hu; simp
set_option maxHeartbeats 1600000 in
theorem walkBack (s : Nat) (hs : s < 18446744073709551616) (i : Nat) (hi : i ≤ 255) (w : World) (hT : T64 w) :
    Calls Tryd.prog 9 #[.int .u64 (s : Int), .int .u8 (i : Int)] w fun e w' => e = .returned (.bool true) ∧ Below w.heap.size w w' := by
  have hel := elsI_len s
  obtain ⟨k, hk⟩ : ∃ k : Nat, (i : Int) % 64 = (k : Int) := ⟨i % 64, by omega⟩
  have hk64 : k < 64 := by omega
  have hl : I64s [(k : Int)] := fun z hz => by simp at hz; subst hz; omega
  have hwl := withN_lt [(k : Int)] s hs
  have hol := withoutN_lt [(k : Int)] s hs
  have hHa : hasB (withN s [(k : Int)]) (k : Int) = true := by rw [hasB_yes _ _ hk64]; exact back_has s k hk64
  have hHn : hasB (withoutN s [(k : Int)]) (k : Int) = false := by rw [hasB_yes _ _ hk64]; exact back_not s k hk64
  have C1 := Lib.hid (fun W A c (hA : IntsAt W A (elsI s)) => nodesOf A c (elsI s) rfl (by omega) (fun z hz => by
    obtain ⟨y, hy, rfl⟩ := List.mem_map.1 hz
    have := (mem_els.1 hy).1
    constructor
    · show (-9223372036854775808 : Int) ≤ (y : Int); omega
    · show (y : Int) ≤ 9223372036854775807; omega) W hA)
  rw [ofN_elsI hs] at C1
  have C2 := Lib.hid (fun W A (hA : IntsAt W A [(k : Int)]) => nodesWith (n := 1) s hs A 1 [(k : Int)] rfl (by decide) hl W hA)
  have C3 := Lib.hid (fun W A (hA : IntsAt W A [(k : Int)]) => nodesWithout (n := 1) (withN s [(k : Int)]) hwl A 1 [(k : Int)] rfl (by decide) hl W hA)
  rw [back_one hs] at C3
  have C4 := Lib.hid (fun W A (hA : IntsAt W A [(k : Int)]) => nodesWithout (n := 1) s hs A 1 [(k : Int)] rfl (by decide) hl W hA)
  have C5 := Lib.hid (nodesHasB hHa hwl (by omega) (by omega))
  have C6 := Lib.hid (nodesHasB hHn hol (by omega) (by omega))
  obtain ⟨a, ha⟩ : ∃ a, withN s [(k : Int)] = a := ⟨_, rfl⟩
  obtain ⟨b, hb⟩ : ∃ b, withoutN s [(k : Int)] = b := ⟨_, rfl⟩
  rw [ha] at C2 C3 C5
  rw [hb] at C3 C4 C6
  clear hHa hHn hwl hol ha hb hl
  go_enter Tryd.func9, Tryd.ntmps9
  go_wp2_with fail
  refine (nodesList s hs _ hT).mono ?_
  rintro e w1 ⟨v, rfl, hown, hb1⟩
  obtain ⟨A2, c2, rfl, hc2⟩ := own_form hown
  have hA2 := ownInts hown
  clear hown
  go_wp2_with fail
  refine (C1.out _ A2 c2 hA2).mono ?_
  rintro e w' ⟨rfl, rfl⟩
  go_wp2_with fail
  refine (C2.out _ _ (lits1 _ k 3)).mono ?_
  rintro e w2 ⟨rfl, h2⟩
  have hb2 : Below w.heap.size w w2 := by rw [← h2]; exact hb1.alloc hb1.size _
  clear h2
  go_wp2_with fail
  refine (C3.out _ _ (lits1 _ k 3)).mono ?_
  rintro e w3 ⟨rfl, h3⟩
  have hb3 : Below w.heap.size w w3 := by rw [← h3]; exact hb2.alloc hb2.size _
  clear h3
  go_wp2_with fail
  refine (C4.out _ _ (lits1 _ k 3)).mono ?_
  rintro e w4 ⟨rfl, h4⟩
  have hb4 : Below w.heap.size w w4 := by rw [← h4]; exact hb3.alloc hb3.size _
  clear h4
  go_wp2_with fail
  refine (C2.out _ _ (lits1 _ k 3)).mono ?_
  rintro e w5 ⟨rfl, h5⟩
  have hb5 : Below w.heap.size w w5 := by rw [← h5]; exact hb4.alloc hb4.size _
  clear h5
  go_wp2_with fail
  refine (C5.out _).mono ?_
  rintro e w' ⟨rfl, rfl⟩
  go_wp2_with fail
  refine (C4.out _ _ (lits1 _ k 3)).mono ?_
  rintro e w6 ⟨rfl, h6⟩
  have hb6 : Below w.heap.size w w6 := by rw [← h6]; exact hb5.alloc hb5.size _
  clear h6
  go_wp2_with fail
  refine (C6.out _).mono ?_
  rintro e w' ⟨rfl, rfl⟩
  go_wp2_with fail
  refine (works03 _ (hT.below hb6)).mono ?_
  rintro e w7 ⟨rfl, hq7⟩
  go_wp2
  go_ret
  exact ⟨rfl, hb6.trans (hq7.mono hb6.size)⟩

/-! ### NodesLeast -/
set_option maxHeartbeats 1600000 in
theorem walkLeast (s : Nat) (hs : s < 18446744073709551616) (k : Nat) (hk : k ≤ 255) (w : World) (hT : T64 w) :
    Calls Tryd.prog 5 #[.int .u64 (s : Int), .int .u8 (k : Int)] w fun e w' => e = .returned (.bool true) ∧ Below w.heap.size w w' := by
  have hal := firstN_lt k s 0 hs (Nat.two_pow_pos 64)
  have C1 := Lib.hid (nodesFirst s hs (k : Int) (by omega) (by omega))
  rw [Int.toNat_natCast] at C1
  have hn1 := bits_andNot_u64_nat s (firstN k s 0) hs hal
  have hn2 := bits_andNot_u64_nat (firstN k s 0) s hal hs
  rw [first_in hs] at hn2
  have hbl := restN_lt hs k
  have hcnt := first_count hs k
  have C2 := Lib.hid (nodesCount (firstN k s 0) hal)
  have C3 := Lib.hid (nodesCount s hs)
  have hfb := first_below hs k
  have hn3 : bits .andNot .u64 (s : Int) (firstN k s 0 : Int) = ((restN k s : Nat) : Int) := hn1
  have hsl := els_len s
  obtain ⟨a, ha⟩ : ∃ a, firstN k s 0 = a := ⟨_, rfl⟩
  obtain ⟨b, hb⟩ : ∃ b, restN k s = b := ⟨_, rfl⟩
  rw [hb] at hn3 hbl hfb
  rw [ha] at hn2 hn3 hcnt hfb C1 C2 hal
  clear hn1
  obtain ⟨p, hp⟩ : ∃ p, (els a).length = p := ⟨_, rfl⟩
  obtain ⟨q, hq⟩ : ∃ q, (els s).length = q := ⟨_, rfl⟩
  rw [hp] at hcnt hfb C2
  rw [hq] at hcnt hsl C3
  have hmin : min (k : Int) (q : Int) = (p : Int) := by omega
  clear hp hq hcnt ha hb
  have HF := Lib.hid hfb
  clear hfb
  by_cases h0 : b = 0
  · subst h0
    clear HF
    go_enter Tryd.func5, Tryd.ntmps5
    go_wp2_with fail
    refine (C1.out _).mono ?_
    rintro e w' ⟨rfl, rfl⟩
    go_wp2_with fail
    refine (C2.out _).mono ?_
    rintro e w' ⟨rfl, rfl⟩
    go_wp2_with fail
    refine (C3.out _).mono ?_
    rintro e w' ⟨rfl, rfl⟩
    go_wp2_with fail
    refine (works03 _ hT).mono ?_
    rintro e w7 ⟨rfl, hq7⟩
    go_wp2
    go_ret
    exact ⟨rfl, hq7⟩
  · have h0' : ((b : Int) == 0) = false := by simp; omega
    have C4 := Lib.hid (fun W hT => nodesLeast b h0 hbl W hT)
    have hlow : low b < 64 := (low_spec h0 hbl).choose_spec.2
    have C5 := Lib.hid (fun W => nodesBelow a hal (low b : Int) (by omega) (by omega) W)
    rw [HF.out h0] at C5
    clear HF h0
    go_enter Tryd.func5, Tryd.ntmps5
    go_wp2_with fail
    refine (C1.out _).mono ?_
    rintro e w' ⟨rfl, rfl⟩
    go_wp2_with fail
    refine (C2.out _).mono ?_
    rintro e w' ⟨rfl, rfl⟩
    go_wp2_with fail
    refine (C3.out _).mono ?_
    rintro e w' ⟨rfl, rfl⟩
    go_wp2_with fail
    refine (C4.out _ hT).mono ?_
    rintro e w' ⟨rfl, rfl⟩
    go_wp2_with fail
    refine (C5.out _).mono ?_
    rintro e w' ⟨rfl, rfl⟩
    go_wp2_with fail
    refine (C2.out _).mono ?_
    rintro e w' ⟨rfl, rfl⟩
    go_wp2_with fail
    refine (works03 _ hT).mono ?_
    rintro e w7 ⟨rfl, hq7⟩
    go_wp2
    go_ret
    exact ⟨rfl, hq7⟩
end Go.Proofs.YtckeiihdbabgiaaDoor
