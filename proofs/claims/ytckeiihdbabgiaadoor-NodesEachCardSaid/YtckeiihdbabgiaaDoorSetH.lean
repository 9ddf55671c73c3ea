/- The walks of NodesOf, NodesChange, NodesTell, NodesBack, NodesLeast. -/
import Derived.Test.YtckeiihdbabgiaaDoorSetG
import Derived.Test.YtckeiihdbabgiaaDoorSetQ
namespace Go.Proofs.YtckeiihdbabgiaaDoor
open Go.RowKit Law
set_option linter.unusedVariables false

/-! ### NodesOf -/
theorem nodesHasB {s : Nat} {i : Int} {r : Bool} (hr : hasB s i = r) (hs : s < 18446744073709551616) (h0 : -9223372036854775808 ≤ i) (h1 : i ≤ 9223372036854775807) (w : World) :
    Calls Tryd.prog 21 #[.int .u64 (s : Int), .int .i64 i] w fun e w' => e = .returned (.bool r) ∧ w' = w := by
  subst hr; exact nodesHas s hs i h0 h1 w
set_option maxHeartbeats 800000 in
theorem walkNOf_ (r : Bool) (len n : Nat) (A : Option Addr) (c : Nat) (l : List Int) (hn : l.length = n) (hmin : min (len : Int) 80 = (n : Int)) (hc : len ≤ c) (hm : c ≤ maxLen) (hl : I64s l) (i : Int) (h0 : -9223372036854775808 ≤ i) (h1 : i ≤ 9223372036854775807) (w : World) (hA : IntsAt w A l) (hT : T64 w) (hr : hasB (ofN l) i = r) :
    Calls Tryd.prog 6 #[.slice A len c, .int .i64 i] w fun e w' => e = .returned (.bool true) ∧ Below w.heap.size w w' := by
  unfold maxLen at hm
  have hn80 : n ≤ 80 := by omega
  have hmax : max (n : Int) 0 = (n : Int) := by omega
  have hol := ofN_lt l
  have C1 := Lib.hid (fun W hW => nodesOf A c l hn (by omega) hl W hW)
  have C2 := Lib.hid (fun W hW => refOf A c l hn (by omega) W hW)
  have C3 := Lib.hid (nodesHasB hr hol h0 h1)
  have C4 := Lib.hid (refHasB hr hol)
  have C5 := Lib.hid (nodesAll i h0 h1)
  rw [allN_eq] at C5
  have hU : (upToN i).length = min i.toNat 100 := by unfold upToN; rw [List.length_map, List.length_range]
  obtain ⟨q, hq⟩ : ∃ q, ofN l = q := ⟨_, rfl⟩
  rw [hq] at C1 C2 C3 C4
  clear hn hr hol hq
  go_enter Tryd.func6, Tryd.ntmps6
  go_wp2_with fail
  refine (C1.out _ hA).mono ?_
  rintro e w' ⟨rfl, rfl⟩
  go_wp2_with fail
  refine (C2.out _ hA).mono ?_
  rintro e w' ⟨rfl, rfl⟩
  go_wp2_with fail
  refine (C3.out _).mono ?_
  rintro e w' ⟨rfl, rfl⟩
  go_wp2_with fail
  refine (C4.out _).mono ?_
  rintro e w' ⟨rfl, rfl⟩
  cases r
  all_goals
    go_wp2_with fail
    refine (C5.out _).mono ?_
    rintro e w' ⟨rfl, rfl⟩
    go_wp2_with fail
    refine (lawUpto i _).mono ?_
    rintro e w1 ⟨v, rfl, hown, hb1⟩
    obtain ⟨A2, c2, rfl, hc2⟩ := own_form hown
    have hA2 := ownInts hown
    have HU := Lib.hid hU
    clear hU
    go_wp2_with fail
    refine (refOf A2 c2 (upToN i) HU.out (by omega) _ hA2).mono ?_
    rintro e w2 ⟨rfl, rfl⟩
    go_wp2_with fail
    refine (works03 _ (hT.below hb1)).mono ?_
    rintro e w3 ⟨rfl, hq3⟩
    go_wp2
    go_ret
    exact ⟨rfl, hb1.trans (hq3.mono hb1.size)⟩
theorem walkNOf (len n : Nat) (A : Option Addr) (c : Nat) (l : List Int) (hn : l.length = n) (hmin : min (len : Int) 80 = (n : Int)) (hc : len ≤ c) (hm : c ≤ maxLen) (hl : I64s l) (i : Int) (h0 : -9223372036854775808 ≤ i) (h1 : i ≤ 9223372036854775807) (w : World) (hA : IntsAt w A l) (hT : T64 w) :
    Calls Tryd.prog 6 #[.slice A len c, .int .i64 i] w fun e w' => e = .returned (.bool true) ∧ Below w.heap.size w w' :=
  walkNOf_ (hasB (ofN l) i) len n A c l hn hmin hc hm hl i h0 h1 w hA hT rfl

/-! ### NodesChange -/
set_option maxHeartbeats 800000 in
theorem walkChange (s : Nat) (hs : s < 18446744073709551616) (len n : Nat) (A : Option Addr) (c : Nat) (l : List Int) (hn : l.length = n) (hmin : min (len : Int) 80 = (n : Int)) (hc : len ≤ c) (hm : c ≤ maxLen) (hnil : A = none → c = 0) (hl : I64s l) (w : World) (hA : IntsAt w A l) (hT : T64 w) :
    Calls Tryd.prog 7 #[.int .u64 (s : Int), .slice A len c] w fun e w' => e = .returned (.bool true) ∧ Below w.heap.size w w' := by
  unfold maxLen at hm
  have hn80 : n ≤ 80 := by omega
  have hmax : max (n : Int) 0 = (n : Int) := by omega
  have C1 := Lib.hid (fun W hW => nodesWith s hs A c l hn (by omega) hl W hW)
  have C2 := Lib.hid (fun W hW => refWith s hs A c l hn (by omega) W hW hnil (by omega))
  have C3 := Lib.hid (fun W hW => nodesWithout s hs A c l hn (by omega) hl W hW)
  have C4 := Lib.hid (fun W hW => refWithout s hs A c l hn (by omega) W hW)
  rw [withN_eq hs] at C1
  rw [withoutN_eq hs] at C3
  obtain ⟨q, hq⟩ : ∃ q, ofN (elsI s ++ l) = q := ⟨_, rfl⟩
  obtain ⟨q2, hq2⟩ : ∃ q2, ofN (leaves s l) = q2 := ⟨_, rfl⟩
  rw [hq] at C1 C2
  rw [hq2] at C3 C4
  clear hn hq hq2 hnil
  go_enter Tryd.func7, Tryd.ntmps7
  go_wp2_with fail
  refine (C1.out _ hA).mono ?_
  rintro e w' ⟨rfl, rfl⟩
  go_wp2_with fail
  refine (C2.out _ hA).mono ?_
  rintro e w1 ⟨rfl, hb1⟩
  have hA1 := hA.below hb1
  go_wp2_with fail
  refine (C3.out _ hA1).mono ?_
  rintro e w' ⟨rfl, rfl⟩
  go_wp2_with fail
  refine (C4.out _ hA1).mono ?_
  rintro e w2 ⟨rfl, hq2⟩
  have hb2 := hb1.trans (hq2.mono hb1.size)
  go_wp2_with fail
  refine (works03 _ (hT.below hb2)).mono ?_
  rintro e w3 ⟨rfl, hq3⟩
  go_wp2
  go_ret
  exact ⟨rfl, hb2.trans (hq3.mono hb2.size)⟩

/-! ### NodesTell -/
set_option maxHeartbeats 1600000 in
theorem walkTell (s : Nat) (hs : s < 18446744073709551616) (w : World) (hT : T64 w) :
    Calls Tryd.prog 8 #[.int .u64 (s : Int)] w fun e w' => e = .returned (.bool true) ∧ Below w.heap.size w w' := by
  have hel := elsI_len s
  have hcl : (els s).length = (elsI s).length := by unfold elsI; rw [List.length_map]
  have C1 := Lib.hid (nodesCount s hs)
  rw [hcl] at C1
  have HN0 : Hid (s = 0 → (elsI s).length = 0) := fun h => by rw [h]; simp [elsI, els_zero]
  have HN1 : Hid (s ≠ 0 → ∃ r, elsI s = (low s : Int) :: r) := fun h => by
    unfold elsI
    rw [els_cons h hs]
    exact ⟨_, rfl⟩
  obtain ⟨m, hm⟩ : ∃ m, (elsI s).length = m := ⟨_, rfl⟩
  have HM := Lib.hid hm
  rw [hm] at hel C1
  clear hm hcl
  have hts : (textS s).length ≤ 2000 := by
    unfold textS
    split
    · decide
    · exact text_len s
  obtain ⟨T, hTx⟩ : ∃ T, textS s = T := ⟨_, rfl⟩
  have C5 := Lib.hid (nodesText s hs)
  have C6 := Lib.hid (refText s hs)
  rw [hTx] at C5 C6 hts
  clear hTx
  go_enter Tryd.func8, Tryd.ntmps8
  go_wp2_with fail
  refine (refList s hs _).mono ?_
  rintro e w1 ⟨v, rfl, hown, hb1⟩
  obtain ⟨A2, c2, rfl, hc2⟩ := own_form hown
  have hA2 := ownInts hown
  rw [HM.out] at hc2 ⊢
  clear hown
  by_cases h0 : s = 0
  · have H0 : Hid (m = 0) := by
      have := HN0.out h0
      rw [HM.out] at this
      exact this
    obtain rfl := H0.out
    subst h0
    go_wp2_with fail
    refine (C1.out _).mono ?_
    rintro e w' ⟨rfl, rfl⟩
    go_wp2_with fail
    refine (nodesLeast0 _).mono ?_
    rintro e w' ⟨rfl, rfl⟩
    have hT1 := Lib.hid (hT.below hb1)
    go_wp2_with fail
    refine (nodesList 0 hs _ hT1.out).mono ?_
    rintro e w2 ⟨v, rfl, hown, hq2⟩
    obtain ⟨A3, c3, rfl, hc3⟩ := own_form hown
    have hA3 := ownInts hown
    rw [HM.out] at hc3 ⊢
    clear hown
    have hb2 := hb1.trans (hq2.mono hb1.size)
    have hA22 := hA2.below hq2
    go_wp2_with fail
    refine (lawSame A3 c3 (elsI 0) HM.out A2 c2 (by omega) rfl _ hA3 hA22).mono ?_
    rintro e w3 ⟨rfl, hq3⟩
    have hb3 := hb2.trans (hq3.mono hb2.size)
    go_wp2_with fail
    refine (C5.out _ (hT.below hb3)).mono ?_
    rintro e w4 ⟨rfl, hq4⟩
    have hb4 := hb3.trans (hq4.mono hb3.size)
    go_wp2_with fail
    refine (C6.out _).mono ?_
    rintro e w5 ⟨rfl, hq5⟩
    have hb5 := hb4.trans (hq5.mono hb4.size)
    go_wp2_with fail
    refine (works03 _ (hT.below hb5)).mono ?_
    rintro e w6 ⟨rfl, hq6⟩
    go_wp2
    go_ret
    exact ⟨rfl, hb5.trans (hq6.mono hb5.size)⟩
  · obtain ⟨r, hr⟩ := HN1.out h0
    have hmp : 0 < m := by
      have := HM.out
      rw [hr] at this
      simp at this
      omega
    obtain ⟨b, off, hAb, _, c0⟩ := hA2 0 (low s : Int) (by rw [hr]; rfl)
    subst hAb
    rw [Nat.add_zero] at c0
    have HH0 := Lib.hid h0
    clear h0 hr
    go_wp2_with fail
    refine (C1.out _).mono ?_
    rintro e w' ⟨rfl, rfl⟩
    have hT1 := Lib.hid (hT.below hb1)
    go_wp2_with fail
    refine (nodesLeast s HH0.out hs _ hT1.out).mono ?_
    rintro e w' ⟨rfl, rfl⟩
    go_wp2_with fail
    refine (nodesList s hs _ hT1.out).mono ?_
    rintro e w2 ⟨v, rfl, hown, hq2⟩
    obtain ⟨A3, c3, rfl, hc3⟩ := own_form hown
    have hA3 := ownInts hown
    rw [HM.out] at hc3 ⊢
    clear hown
    have hb2 := hb1.trans (hq2.mono hb1.size)
    have hA22 := hA2.below hq2
    clear c0
    go_wp2_with fail
    refine (lawSame A3 c3 (elsI s) HM.out _ c2 (by omega) rfl _ hA3 hA22).mono ?_
    rintro e w3 ⟨rfl, hq3⟩
    have hb3 := hb2.trans (hq3.mono hb2.size)
    go_wp2_with fail
    refine (C5.out _ (hT.below hb3)).mono ?_
    rintro e w4 ⟨rfl, hq4⟩
    have hb4 := hb3.trans (hq4.mono hb3.size)
    go_wp2_with fail
    refine (C6.out _).mono ?_
    rintro e w5 ⟨rfl, hq5⟩
    have hb5 := hb4.trans (hq5.mono hb4.size)
    go_wp2_with fail
    refine (works03 _ (hT.below hb5)).mono ?_
    rintro e w6 ⟨rfl, hq6⟩
    go_wp2
    go_ret
    exact ⟨rfl, hb5.trans (hq6.mono hb5.size)⟩
end Go.Proofs.YtckeiihdbabgiaaDoor
