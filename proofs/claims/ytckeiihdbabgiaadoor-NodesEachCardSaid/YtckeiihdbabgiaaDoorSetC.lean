/- Sets of nodes: With, Without, Of of the package and of the reference; the reference's First, Below; two lists compared; the list below a number. -/
import Derived.Test.YtckeiihdbabgiaaDoorSetB
import Derived.Laws.AppendOwnNone
import Derived.Test.YtckeiihdbabgiaaDoorOwnOr
namespace Go.Proofs.YtckeiihdbabgiaaDoor
open Go.RowKit Law
set_option linter.unusedVariables false

def I64s (l : List Int) : Prop := ∀ z ∈ l, -9223372036854775808 ≤ z ∧ z ≤ 9223372036854775807
theorem withN_take {l : List Int} {k : Nat} (hk : k < l.length) (s : Nat) : withN s (l.take (k + 1)) = withN s (l.take k) ||| bitN l[k] := by
  rw [List.take_succ_eq_append_getElem hk, withN_snoc]
theorem withoutN_take {l : List Int} {k : Nat} (hk : k < l.length) (s : Nat) : withoutN s (l.take (k + 1)) = withoutN s (l.take k) ^^^ (withoutN s (l.take k) &&& bitN l[k]) := by
  rw [List.take_succ_eq_append_getElem hk, withoutN_snoc]
theorem nodesWith {n : Nat} (s : Nat) (hs : s < 18446744073709551616) (A : Option Addr) (c : Nat) (l : List Int) (hn : l.length = n) (hm : n ≤ 140737488355328) (hl : I64s l) (w : World) (hA : IntsAt w A l) :
    Calls Tryd.prog 25 #[.int .u64 (s : Int), .slice A n c] w fun e w' => e = .returned (.int .u64 (withN s l : Int)) ∧ w = w' := by
  have HN := Lib.hid hn
  clear hn
  go_enter Tryd.func25, Tryd.ntmps25
  go_wp2
  go_loop [0, 9] (fun s' i => ∃ k : Nat, k ≤ n ∧ i = .int .i64 k ∧ s' = .int .u64 (withN s (l.take k) : Int)) (fun _ i => n - (intOf i).toNat)
  case atStart => exact ⟨0, Nat.zero_le _, rfl, rfl⟩
  case round =>
    obtain ⟨k, hk, rfl, rfl⟩ := hrel
    have hx := withN_lt (l.take k) s hs
    by_cases hlt : k < n
    · have hlt' : k < l.length := by rw [HN.out]; exact hlt
      obtain ⟨b, off, rfl, c0⟩ := hA.at_ (Below.refl _ _) hlt'
      have HS := Lib.hid (withN_take hlt' s)
      obtain ⟨g0, g1⟩ := hl _ (List.getElem_mem hlt')
      have hob := bits_or_u64_nat (withN s (l.take k)) (bitN l[k]) hx (bitN_lt _)
      go_wp2_with (go_at_call 38; refine (nodesBit _ g0 g1 _).mono ?_; rintro e w' ⟨rfl, rfl⟩)
      go_round
      case rel => exact ⟨k + 1, by omega, by go_num, by rw [HS.out]⟩
      case measure => simp [intOf]; omega
    · have E : Hid (l.take k = l) := List.take_of_length_le (by rw [HN.out]; omega)
      go_wp2
      go_ret
      exact ⟨ret_int (by rw [E.out]), rfl⟩
theorem nodesWithout {n : Nat} (s : Nat) (hs : s < 18446744073709551616) (A : Option Addr) (c : Nat) (l : List Int) (hn : l.length = n) (hm : n ≤ 140737488355328) (hl : I64s l) (w : World) (hA : IntsAt w A l) :
    Calls Tryd.prog 27 #[.int .u64 (s : Int), .slice A n c] w fun e w' => e = .returned (.int .u64 (withoutN s l : Int)) ∧ w = w' := by
  have HN := Lib.hid hn
  clear hn
  go_enter Tryd.func27, Tryd.ntmps27
  go_wp2
  go_loop [0, 9] (fun s' i => ∃ k : Nat, k ≤ n ∧ i = .int .i64 k ∧ s' = .int .u64 (withoutN s (l.take k) : Int)) (fun _ i => n - (intOf i).toNat)
  case atStart => exact ⟨0, Nat.zero_le _, rfl, rfl⟩
  case round =>
    obtain ⟨k, hk, rfl, rfl⟩ := hrel
    have hx := withoutN_lt (l.take k) s hs
    by_cases hlt : k < n
    · have hlt' : k < l.length := by rw [HN.out]; exact hlt
      obtain ⟨b, off, rfl, c0⟩ := hA.at_ (Below.refl _ _) hlt'
      have HS := Lib.hid (withoutN_take hlt' s)
      obtain ⟨g0, g1⟩ := hl _ (List.getElem_mem hlt')
      have hob := bits_andNot_u64_nat (withoutN s (l.take k)) (bitN l[k]) hx (bitN_lt _)
      go_wp2_with (go_at_call 38; refine (nodesBit _ g0 g1 _).mono ?_; rintro e w' ⟨rfl, rfl⟩)
      go_round
      case rel => exact ⟨k + 1, by omega, by go_num, by rw [HS.out]⟩
      case measure => simp [intOf]; omega
    · have E : Hid (l.take k = l) := List.take_of_length_le (by rw [HN.out]; omega)
      go_wp2
      go_ret
      exact ⟨ret_int (by rw [E.out]), rfl⟩
theorem nodesOf {n : Nat} (A : Option Addr) (c : Nat) (l : List Int) (hn : l.length = n) (hm : n ≤ 140737488355328) (hl : I64s l) (w : World) (hA : IntsAt w A l) :
    Calls Tryd.prog 19 #[.slice A n c] w fun e w' => e = .returned (.int .u64 (ofN l : Int)) ∧ w = w' := by
  have C := Lib.hid (fun W hW => nodesWith 0 (by decide) A c l hn hm hl W hW)
  have E := Lib.hid (ofN_eq l)
  clear hn
  go_enter Tryd.func19, Tryd.ntmps19
  go_wp2_with (go_at_call 25; refine (C.out _ hA).mono ?_; rintro e w' ⟨rfl, rfl⟩)
  go_ret
  exact ⟨ret_int (by rw [E.out]), rfl⟩

/-! ### the reference's -/
theorem elsI_len (s : Nat) : (elsI s).length ≤ 64 := by
  have := els_len s
  unfold elsI
  rw [List.length_map]
  exact this
theorem refWith {n : Nat} (s : Nat) (hs : s < 18446744073709551616) (A : Option Addr) (c : Nat) (l : List Int) (hn : l.length = n) (hm : n ≤ 1000000) (w : World) (hA : IntsAt w A l) (hnil : A = none → c = 0) (hc : n ≤ c) :
    Calls Tryd.prog 26 #[.int .u64 (s : Int), .slice A n c] w fun e w' => e = .returned (.int .u64 (ofN (elsI s ++ l) : Int)) ∧ Below w.heap.size w w' := by
  have HN := Lib.hid hn
  clear hn
  obtain ⟨i0, hi, hz0, hz1, hz2⟩ := info_parts intInfo
  have hel := elsI_len s
  go_enter Tryd.func26, Tryd.ntmps26
  go_wp2_with fail
  refine (refList s hs _).mono ?_
  rintro e w1 ⟨v, rfl, hown, hb⟩
  rcases A with _ | a
  · have hc0 := hnil rfl
    obtain rfl : n = 0 := by omega
    have hl0 : Hid (l = []) := List.eq_nil_of_length_eq_zero HN.out
    subst hc0
    clear hnil
    go_wp2_with (at_builtin; refine wpList_append_own_none rfl _ _ 33 rfl w.heap.size 3 i0 1 Tryd.underlying33 hi _ _ _ rfl hown rfl ?_)
    obtain ⟨A2, c2, rfl, hc2⟩ := own_form hown
    have hA2 := ownInts hown
    have HE : Hid (elsI s ++ l = elsI s) := by unfold Hid; rw [hl0.out, List.append_nil]
    go_wp2_with (go_at_call 20; refine (refOf A2 c2 (elsI s) rfl (by omega) _ hA2).mono ?_; rintro e w' ⟨rfl, rfl⟩)
    go_ret
    exact ⟨ret_int (by rw [HE.out]), hb⟩
  · have hnews : ∀ j u, (intV l)[j]? = some u → w1.cell? (a.add j) = some u := by
      intro j u hu
      rw [List.getElem?_map] at hu
      cases hz : l[j]? with
      | none => rw [hz] at hu; cases hu
      | some z =>
        rw [hz] at hu
        obtain ⟨b, off, ha, hlt, hcl⟩ := (hA.below hb) j z hz
        injection ha with ha
        subst ha
        rw [Lib.add_plain]
        have : Value.int .i64 z = u := by simpa using hu
        rw [← this]
        exact hcl
    have HL := Lib.hid (show (elsI s ++ l).length = (elsI s).length + n by rw [List.length_append, HN.out])
    have HM := Lib.hid (show intV (elsI s) ++ intV l = intV (elsI s ++ l) by unfold intV; rw [List.map_append])
    go_wp2_with (at_builtin; refine wpList_append_own _ rfl _ _ 33 rfl w.heap.size 3 i0 (.int .i64 0) 1 8 Tryd.underlying33 hi hz0 hz1 hz2 rfl (by decide) _ _ _ rfl hown a n c (intV l) rfl ?c0 ?c1 ?c2 ?c3 ?c4 ?c5 ?_)
    case c0 => rw [List.length_map, HN.out]; omega
    case c1 => exact hnews
    case c2 => intro u hu; obtain ⟨z, _, rfl⟩ := List.mem_map.1 hu; rfl
    case c3 => unfold maxLen; omega
    case c4 => omega
    case c5 => exact hb.size
    intro v' w2 hown' hgrow _
    rw [HM.out] at hown'
    have hb2 : Below w.heap.size w w2 := hb.grown hgrow hb.size (fun j hj => (hown.lt j hj).1)
    obtain ⟨A2, c2, rfl, hc2⟩ := own_form hown'
    have hA2 := Lib.hid (ownInts hown')
    have HB := Lib.hid hb2
    clear hnews hb2 hown hown' hgrow hb
    go_wp2_with (go_at_call 20; refine (refOf A2 c2 (elsI s ++ l) HL.out (by omega) _ hA2.out).mono ?_; rintro e w' ⟨rfl, rfl⟩)
    go_ret
    exact ⟨rfl, HB.out⟩

/-! ### the reference's Without, First, Below -/
theorem refInB {n : Nat} {A : Option Addr} {c : Nat} {l : List Int} {x : Int} {r : Bool} (hr : inI l x = r) (hn : l.length = n) (hm : n ≤ 140737488355328) (w : World) (hA : IntsAt w A l) :
    Calls Tryd.prog 36 #[.slice A n c, .int .i64 x] w fun e w' => e = .returned (.bool r) ∧ w = w' := by
  subst hr; exact refIn A c l hn x hm w hA
theorem OwnOr.ints {w : World} {base : Nat} {A : Option Addr} {n c : Nat} {zs : List Int} (h : OwnOr w base 3 1 (.slice A n c) n (intV zs)) : IntsAt w A zs := by
  rcases h with h | ⟨b, _, rfl, hx⟩
  · exact ownInts h
  · intro k z hz
    have : zs = [] := by simpa using hx
    subst this
    simp at hz
def leavesK (s : Nat) (l : List Int) (k : Nat) : List Int := ((elsI s).take k).filter fun i => !inI l i
theorem leavesK_len (s : Nat) (l : List Int) (k : Nat) : (leavesK s l k).length ≤ k := by
  have h1 := List.length_filter_le (fun i => !inI l i) ((elsI s).take k)
  have h2 : ((elsI s).take k).length ≤ k := List.length_take_le _ _
  unfold leavesK
  omega
theorem leavesK_yes {s : Nat} {l : List Int} {k : Nat} (hk : k < (elsI s).length) (h : inI l (elsI s)[k] = false) : leavesK s l (k + 1) = leavesK s l k ++ [(elsI s)[k]] := by
  unfold leavesK
  rw [List.take_succ_eq_append_getElem hk, List.filter_append]
  simp [h]
theorem leavesK_no {s : Nat} {l : List Int} {k : Nat} (hk : k < (elsI s).length) (h : inI l (elsI s)[k] = true) : leavesK s l (k + 1) = leavesK s l k := by
  unfold leavesK
  rw [List.take_succ_eq_append_getElem hk, List.filter_append]
  simp [h]
theorem leavesK_all (s : Nat) (l : List Int) {k : Nat} (h : (elsI s).length ≤ k) : leavesK s l k = leaves s l := by
  unfold leavesK
  rw [List.take_of_length_le h]
  rfl
set_option maxHeartbeats 1600000 in
theorem refWithout {n : Nat} (s : Nat) (hs : s < 18446744073709551616) (A : Option Addr) (c : Nat) (l : List Int) (hn : l.length = n) (hm : n ≤ 1000000) (w : World) (hA : IntsAt w A l) :
    Calls Tryd.prog 28 #[.int .u64 (s : Int), .slice A n c] w fun e w' => e = .returned (.int .u64 (ofN (leaves s l) : Int)) ∧ Below w.heap.size w w' := by
  have HN := Lib.hid hn
  clear hn
  obtain ⟨i0, hi, hz0, hz1, hz2⟩ := info_parts intInfo
  have hel := elsI_len s
  have hb0 : Below w.heap.size w (w.alloc (.cells #[] 3)) := (Below.refl _ _).alloc (Nat.le_refl _) _
  go_enter Tryd.func28, Tryd.ntmps28
  go_wp2_with fail
  refine (refList s hs _).mono ?_
  rintro e w1 ⟨v, rfl, hown, hb⟩
  obtain ⟨A2, c2, rfl, hc2⟩ := own_form hown
  have hA2 := ownInts hown
  have hb1 := hb0.trans (hb.mono hb0.size)
  have hA1 := hA.below hb1
  obtain ⟨m, hm2⟩ : ∃ m, (elsI s).length = m := ⟨_, rfl⟩
  have HM := Lib.hid hm2
  rw [hm2] at hel hc2 ⊢
  have hbs := hb1.size
  clear hb0 hb hA hown hm2
  go_wp2
  go_loopw [5, 7] (fun v i wr => ∃ k : Nat, k ≤ m ∧ i = .int .i64 k ∧ OwnOr wr w1.heap.size 3 1 v (leavesK s l k).length (intV (leavesK s l k)) ∧ Below w1.heap.size w1 wr) (fun _ i _ => m - (intOf i).toNat)
  case atStart => exact ⟨0, Nat.zero_le _, rfl, .inr ⟨_, rfl, rfl, rfl⟩, Below.refl _ _⟩
  case round =>
    obtain ⟨k, hk, rfl, hown, hb⟩ := hrel
    have hll := leavesK_len s l k
    by_cases hlt : k < m
    · have hlt' : k < (elsI s).length := by rw [HM.out]; exact hlt
      obtain ⟨b, off, rfl, c0⟩ := hA2.at_ hb hlt'
      have hAr := Lib.hid (hA1.below hb)
      cases hq : inI l (elsI s)[k]
      · have C := Lib.hid (refInB (A := A) (c := c) hq HN.out (by omega) wr hAr.out)
        have HS := Lib.hid (leavesK_yes hlt' hq)
        clear hq
        go_wp2_with fail
        refine C.out.mono ?_
        rintro e w' ⟨rfl, rfl⟩
        go_wp2_with (at_builtin; refine wpList_append_or _ rfl _ _ 33 rfl w1.heap.size 3 i0 (.int .i64 0) 1 8 Tryd.underlying33 hi hz0 hz1 hz2 rfl (by decide) _ _ _ rfl (hown.alloc _) ⟨wr.heap.size, 0, none⟩ 1 1 [.int .i64 (elsI s)[k]] rfl rfl ?c1 ?c2 (by decide) ?c3 ?c4 ?c5 ?_)
        case c1 =>
          intro j u hj
          match j, hj with
          | 0, hj => simp at hj; subst hj; simp [Addr.add]
        case c2 => intro u hu; simp at hu; subst hu; rfl
        case c3 => unfold maxLen; omega
        case c4 => omega
        case c5 => have := hb.size; simp; omega
        intro v' w3 row hown' hgrow hrow
        have hb3 : Below w1.heap.size w1 w3 := (hb.alloc hb.size _).grown hgrow (by have := hb.size; simp; omega) hrow
        go_wp2
        go_roundw
        case rel => exact ⟨k + 1, by omega, by go_num, by rw [HS.out, List.length_append]; unfold intV; rw [List.map_append]; exact .inl hown', hb3⟩
        case measure => simp [intOf]; omega
      · have C := Lib.hid (refInB (A := A) (c := c) hq HN.out (by omega) wr hAr.out)
        have HS := Lib.hid (leavesK_no hlt' hq)
        clear hq
        go_wp2_with fail
        refine C.out.mono ?_
        rintro e w' ⟨rfl, rfl⟩
        go_wp2
        go_roundw
        case rel => exact ⟨k + 1, by omega, by go_num, by rw [HS.out]; exact hown, hb⟩
        case measure => simp [intOf]; omega
    · have HE := Lib.hid (leavesK_all s l (k := k) (by rw [HM.out]; omega))
      obtain ⟨A3, c3, rfl, hc3⟩ := hown.form
      have hA3 := OwnOr.ints hown
      have HB := Lib.hid (hb1.trans (hb.mono hbs))
      clear hown hb
      go_wp2_with (go_at_call 20; refine (refOf A3 c3 (leavesK s l k) rfl (by omega) _ hA3).mono ?_; rintro e w' ⟨rfl, rfl⟩)
      go_ret
      exact ⟨ret_int (by rw [HE.out]), HB.out⟩
theorem refFirst (s : Nat) (hs : s < 18446744073709551616) (k : Int) (h0 : -9223372036854775808 ≤ k) (h1 : k ≤ 9223372036854775807) (w : World) :
    Calls Tryd.prog 11 #[.int .u64 (s : Int), .int .i64 k] w fun e w' => e = .returned (.int .u64 (ofN ((elsI s).take k.toNat) : Int)) ∧ Below w.heap.size w w' := by
  have hel := elsI_len s
  obtain ⟨m, hm2⟩ : ∃ m, (elsI s).length = m := ⟨_, rfl⟩
  have HM := Lib.hid hm2
  rw [hm2] at hel
  clear hm2
  have C := Lib.hid (refList s hs)
  by_cases hk : k < 0
  · have HT : Hid ((elsI s).take k.toNat = []) := by unfold Hid; rw [show k.toNat = 0 by omega]; rfl
    by_cases hm : 0 < m
    · go_enter Tryd.func11, Tryd.ntmps11
      go_wp2_with fail
      refine (C.out _).mono ?_
      rintro e w1 ⟨v, rfl, hown, hb⟩
      obtain ⟨A2, c2, rfl, hc2⟩ := own_form hown
      have hA2 := ((ownInts hown).take 0 : IntsAt w1 A2 [])
      rw [HM.out] at hc2 ⊢
      clear hown
      go_wp2_with (go_at_call 20; refine (refOf (n := 0) A2 c2 [] rfl (by omega) _ hA2).mono ?_; rintro e w' ⟨rfl, rfl⟩)
      go_ret
      exact ⟨ret_int (by rw [HT.out]), hb⟩
    · obtain rfl : m = 0 := by omega
      have HM0 : Hid (elsI s = []) := List.eq_nil_of_length_eq_zero HM.out
      go_enter Tryd.func11, Tryd.ntmps11
      go_wp2_with fail
      refine (C.out _).mono ?_
      rintro e w1 ⟨v, rfl, hown, hb⟩
      obtain ⟨A2, c2, rfl, hc2⟩ := own_form hown
      have hA2 := (by have h := ownInts hown; rw [HM0.out] at h; exact h : IntsAt w1 A2 [])
      rw [HM.out] at hc2 ⊢
      clear hown
      go_wp2_with (go_at_call 20; refine (refOf (n := 0) A2 c2 [] rfl (by omega) _ hA2).mono ?_; rintro e w' ⟨rfl, rfl⟩)
      go_ret
      exact ⟨ret_int (by rw [HT.out]), hb⟩
  · by_cases hm : k < m
    · obtain ⟨j, rfl⟩ : ∃ j : Nat, k = j := ⟨k.toNat, by omega⟩
      have HT : Hid ((elsI s).take (j : Int).toNat = (elsI s).take j) := rfl
      have HL := Lib.hid (show ((elsI s).take j).length = j by rw [List.length_take, HM.out]; omega)
      go_enter Tryd.func11, Tryd.ntmps11
      go_wp2_with fail
      refine (C.out _).mono ?_
      rintro e w1 ⟨v, rfl, hown, hb⟩
      obtain ⟨A2, c2, rfl, hc2⟩ := own_form hown
      have hA2 := (ownInts hown).take j
      rw [HM.out] at hc2 ⊢
      clear hown
      go_wp2_with (go_at_call 20; refine (refOf A2 c2 ((elsI s).take j) HL.out (by omega) _ hA2).mono ?_; rintro e w' ⟨rfl, rfl⟩)
      go_ret
      exact ⟨ret_int (by rw [HT.out]), hb⟩
    · have HT : Hid ((elsI s).take k.toNat = elsI s) := List.take_of_length_le (by rw [HM.out]; omega)
      go_enter Tryd.func11, Tryd.ntmps11
      go_wp2_with fail
      refine (C.out _).mono ?_
      rintro e w1 ⟨v, rfl, hown, hb⟩
      obtain ⟨A2, c2, rfl, hc2⟩ := own_form hown
      have hA2 := ownInts hown
      rw [HM.out] at hc2 ⊢
      clear hown
      go_wp2_with (go_at_call 20; refine (refOf A2 c2 (elsI s) HM.out (by omega) _ hA2).mono ?_; rintro e w' ⟨rfl, rfl⟩)
      go_ret
      exact ⟨ret_int (by rw [HT.out]), hb⟩

def belowK (s : Nat) (i : Int) (k : Nat) : Nat := (((elsI s).take k).filter fun z => decide (z < i)).length
theorem belowK_yes {s : Nat} {i : Int} {k : Nat} (hk : k < (elsI s).length) (h : (elsI s)[k] < i) : belowK s i (k + 1) = belowK s i k + 1 := by
  unfold belowK
  rw [List.take_succ_eq_append_getElem hk, List.filter_append, List.length_append]
  simp [h]
theorem belowK_no {s : Nat} {i : Int} {k : Nat} (hk : k < (elsI s).length) (h : ¬ (elsI s)[k] < i) : belowK s i (k + 1) = belowK s i k := by
  unfold belowK
  rw [List.take_succ_eq_append_getElem hk, List.filter_append, List.length_append]
  simp [h]
theorem belowK_le (s : Nat) (i : Int) (k : Nat) : belowK s i k ≤ k := by
  have h1 := List.length_filter_le (fun z : Int => decide (z < i)) ((elsI s).take k)
  have h2 : ((elsI s).take k).length ≤ k := List.length_take_le _ _
  unfold belowK
  omega
theorem belowK_all (s : Nat) (i : Int) {k : Nat} (h : (elsI s).length ≤ k) : belowK s i k = belowN s i := by
  unfold belowK
  rw [List.take_of_length_le h]
  rfl
theorem refBelow (s : Nat) (hs : s < 18446744073709551616) (i : Int) (w : World) :
    Calls Tryd.prog 13 #[.int .u64 (s : Int), .int .i64 i] w fun e w' => e = .returned (.int .i64 (belowN s i : Int)) ∧ Below w.heap.size w w' := by
  have hel := elsI_len s
  obtain ⟨m, hm2⟩ : ∃ m, (elsI s).length = m := ⟨_, rfl⟩
  have HM := Lib.hid hm2
  rw [hm2] at hel
  clear hm2
  go_enter Tryd.func13, Tryd.ntmps13
  go_wp2_with fail
  refine (refList s hs _).mono ?_
  rintro e w1 ⟨v, rfl, hown, hb⟩
  obtain ⟨A2, c2, rfl, hc2⟩ := own_form hown
  have hA2 := ownInts hown
  rw [HM.out] at hc2 ⊢
  clear hown
  go_wp2
  go_loop [5, 7] (fun v i' => ∃ k : Nat, k ≤ m ∧ i' = .int .i64 k ∧ v = .int .i64 (belowK s i k : Int)) (fun _ i => m - (intOf i).toNat)
  case atStart => exact ⟨0, Nat.zero_le _, rfl, rfl⟩
  case round =>
    obtain ⟨k, hk, rfl, rfl⟩ := hrel
    have hle := belowK_le s i k
    by_cases hlt : k < m
    · have hlt' : k < (elsI s).length := by rw [HM.out]; exact hlt
      obtain ⟨b, off, rfl, c0⟩ := hA2.at_ (Below.refl _ _) hlt'
      by_cases hq : (elsI s)[k] < i
      · have HS := Lib.hid (belowK_yes hlt' hq)
        have hd : decide ((elsI s)[k] < i) = true := by simpa using hq
        go_wp2
        go_round
        case rel => exact ⟨k + 1, by omega, by go_num, by rw [HS.out]; go_num⟩
        case measure => simp [intOf]; omega
      · have HS := Lib.hid (belowK_no hlt' hq)
        have hd : decide ((elsI s)[k] < i) = false := by simpa using hq
        go_wp2
        go_round
        case rel => exact ⟨k + 1, by omega, by go_num, by rw [HS.out]⟩
        case measure => simp [intOf]; omega
    · have HE := Lib.hid (belowK_all s i (k := k) (by rw [HM.out]; omega))
      go_wp2
      go_ret
      exact ⟨ret_int (by rw [HE.out]), hb⟩

/-! ### two lists compared; the list below a number -/
theorem lawSame {n m : Nat} (A : Option Addr) (c : Nat) (l : List Int) (hn : l.length = n) (A2 : Option Addr) (c2 : Nat) (hm : n ≤ 140737488355328) (hnm : n = m) (w : World) (hA : IntsAt w A l) (hA2 : IntsAt w A2 l) :
    Calls Tryd.prog 29 #[.slice A n c, .slice A2 m c2] w fun e w' => e = .returned (.bool true) ∧ Below w.heap.size w w' := by
  have HN := Lib.hid hn
  subst hnm
  clear hn
  go_enter Tryd.func29, Tryd.ntmps29
  go_wp2
  go_loopw [13] (fun i wr => ∃ k : Nat, k ≤ n ∧ i = .int .i64 k ∧ Below w.heap.size w wr) (fun i _ => n - (intOf i).toNat)
  case atStart => exact ⟨0, Nat.zero_le _, rfl, Below.refl _ _⟩
  case round =>
    obtain ⟨k, hk, rfl, hb⟩ := hrel
    by_cases hlt : k < n
    · have hlt' : k < l.length := by rw [HN.out]; exact hlt
      obtain ⟨b, off, rfl, c0⟩ := hA.at_ hb hlt'
      obtain ⟨b2, off2, rfl, c1⟩ := hA2.at_ hb hlt'
      go_wp2
      go_quiet (fail)
      go_wp2
      go_roundw
      case rel => exact ⟨k + 1, by omega, by go_num, below_draws hb _⟩
      case measure => simp [intOf]; omega
    · go_wp2
      go_ret
      exact ⟨rfl, hb⟩
def upK (k : Nat) : List Int := (List.range k).map Int.ofNat
theorem upK_len (k : Nat) : (upK k).length = k := by simp [upK]
theorem upK_succ (k : Nat) : upK (k + 1) = upK k ++ [(k : Int)] := by
  unfold upK
  rw [List.range_succ, List.map_append]
  rfl
theorem lawUpto (n : Int) (w : World) :
    Calls Tryd.prog 24 #[.int .i64 n] w fun e w' => ∃ v, e = .returned v ∧ w'.ownsRow w.heap.size 3 1 v (min n.toNat 100) (intV (upToN n)) ∧ Below w.heap.size w w' := by
  obtain ⟨i0, hi, hz0, hz1, hz2⟩ := info_parts intInfo
  obtain ⟨m, hm⟩ : ∃ m, min n.toNat 100 = m := ⟨_, rfl⟩
  have HU : Hid (upToN n = upK m) := by unfold Hid upToN; rw [hm]; rfl
  rw [hm]
  have hm100 : m ≤ 100 := by omega
  go_enter Tryd.func24, Tryd.ntmps24
  go_wp2
  go_loopw [3, 4] (fun v i wr => ∃ k : Nat, k ≤ m ∧ i = .int .i64 k ∧ wr.ownsRow w.heap.size 3 1 v k (intV (upK k)) ∧ Below w.heap.size w wr) (fun _ i _ => m - (intOf i).toNat)
  case atStart => exact ⟨0, Nat.zero_le _, rfl, World.ownsRow_nil _ _ _ _, Below.refl _ _⟩
  case round =>
    obtain ⟨k, hk, rfl, hown, hb⟩ := hrel
    have HS := Lib.hid (upK_succ k)
    by_cases hlt : k < m
    · have h1 : (k : Int) < n := by omega
      have h2 : (k : Int) < 100 := by omega
      have d1 : decide ((k : Int) < n) = true := by simpa using h1
      have d2 : decide ((k : Int) < 100) = true := by simpa using h2
      have HM := Lib.hid hm
      clear hm
      go_wp2_with (at_builtin; refine wpList_append_own _ rfl _ _ 33 rfl w.heap.size 3 i0 (.int .i64 0) 1 8 Tryd.underlying33 hi hz0 hz1 hz2 rfl (by decide) _ _ _ rfl (hown.alloc _) ⟨wr.heap.size, 0, none⟩ 1 1 [.int .i64 (k : Int)] rfl rfl ?c1 ?c2 ?c3 ?c4 ?c5 ?_)
      case c1 =>
        intro j u hj
        match j, hj with
        | 0, hj => simp at hj; subst hj; simp [Addr.add]
      case c2 => intro u hu; simp at hu; subst hu; rfl
      case c3 => unfold maxLen; omega
      case c4 => omega
      case c5 => have := hb.size; simp; omega
      intro v' w1 hown' hgrow _
      have hb3 : Below w.heap.size w w1 := (hb.alloc hb.size _).grown hgrow (by have := hb.size; simp; omega) (fun j hj => (hown.lt j hj).1)
      go_wp2
      go_roundw
      case rel => exact ⟨k + 1, by omega, by go_num, by rw [HS.out]; unfold intV; rw [List.map_append]; exact hown', hb3⟩
      case measure => simp [intOf]; omega
    · obtain rfl : k = m := by omega
      by_cases h1 : (k : Int) < n
      · have h2 : ¬ (k : Int) < 100 := by omega
        have d1 : decide ((k : Int) < n) = true := by simpa using h1
        have d2 : decide ((k : Int) < 100) = false := by simpa using h2
        have HM := Lib.hid hm
        clear hm
        go_wp2
        go_ret
        exact ⟨_, rfl, by rw [HU.out]; exact hown, hb⟩
      · have d1 : decide ((k : Int) < n) = false := by simpa using h1
        have HM := Lib.hid hm
        clear hm
        go_wp2
        go_ret
        exact ⟨_, rfl, by rw [HU.out]; exact hown, hb⟩
end Go.Proofs.YtckeiihdbabgiaaDoor
