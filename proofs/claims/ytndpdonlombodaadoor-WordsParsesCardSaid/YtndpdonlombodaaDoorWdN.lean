/- The reference's num, digit and bytes. -/
import Derived.Test.YtndpdonlombodaaDoorWdD
namespace Go.Proofs.YtndpdonlombodaaDoor
open Go.RowKit Law
set_option linter.unusedVariables false
set_option linter.unusedSimpArgs false

theorem refDigit (c : UInt8) (cv : Int) (hcv : (c.toNat : Int) = cv) (w : World) : Calls Tryd.prog 58 #[.int .u8 cv] w fun e w' => e = .returned (.int .i64 (digV c)) ∧ w = w' := by
  have hc := c.toNat_lt
  have HV : Hid (digV c = if 48 ≤ cv ∧ cv ≤ 57 then cv - 48 else if 97 ≤ cv ∧ cv ≤ 102 then cv - 87 else -1) := by
    unfold Hid digV
    subst hcv
    have e1 : (48 ≤ c.toNat ∧ c.toNat ≤ 57) ↔ (48 ≤ (c.toNat : Int) ∧ (c.toNat : Int) ≤ 57) := by omega
    have e2 : (97 ≤ c.toNat ∧ c.toNat ≤ 102) ↔ (97 ≤ (c.toNat : Int) ∧ (c.toNat : Int) ≤ 102) := by omega
    simp only [e1, e2]
  have h0 : 0 ≤ cv := by omega
  have h1 : cv < 256 := by omega
  clear hcv hc
  by_cases a1 : 48 ≤ cv
  · by_cases a2 : cv ≤ 57
    · go_enter Tryd.func58, Tryd.ntmps58
      go_wp2
      go_ret
      exact ⟨ret_z (by rw [HV.out, if_pos ⟨a1, a2⟩]), rfl⟩
    · by_cases a3 : 97 ≤ cv
      · by_cases a4 : cv ≤ 102
        · go_enter Tryd.func58, Tryd.ntmps58
          go_wp2
          go_ret
          exact ⟨ret_z (by rw [HV.out, if_neg (by omega), if_pos ⟨a3, a4⟩]; omega), rfl⟩
        · go_enter Tryd.func58, Tryd.ntmps58
          go_wp2
          go_ret
          exact ⟨ret_z (by rw [HV.out, if_neg (by omega), if_neg (by omega)]), rfl⟩
      · go_enter Tryd.func58, Tryd.ntmps58
        go_wp2
        go_ret
        exact ⟨ret_z (by rw [HV.out, if_neg (by omega), if_neg (by omega)]), rfl⟩
  · go_enter Tryd.func58, Tryd.ntmps58
    go_wp2
    go_ret
    exact ⟨ret_z (by rw [HV.out, if_neg (by omega), if_neg (by omega)]), rfl⟩

/-! ### num -/
/-- What num hands back: the number if there is one. -/
def NumPost (o : Option Int) (w : World) (e : Ending) (w' : World) : Prop :=
  match o with
  | some n => e = .returned (.tuple #[.int .i64 n, .bool true]) ∧ Below w.heap.size w w'
  | none => (∃ m : Int, e = .returned (.tuple #[.int .i64 m, .bool false])) ∧ Below w.heap.size w w'
theorem isDig_iff (c : UInt8) : isDig c = true ↔ 48 ≤ c.toNat ∧ c.toNat ≤ 57 := by unfold isDig; simp
theorem valU_take (l : List UInt8) (k : Nat) (hk : k < l.length) : valU 0 (l.take (k + 1)) = valU 0 (l.take k) * 10 + (l[k].toNat - 48) := by
  rw [List.take_succ_eq_append_getElem hk, valU_snoc]
theorem all_take (l : List UInt8) (k : Nat) (hk : k < l.length) : (l.take (k + 1)).all isDig = ((l.take k).all isDig && isDig l[k]) := by
  rw [List.take_succ_eq_append_getElem hk, List.all_append]; simp
theorem val_bound {l : List UInt8} (h : l.all isDig = true) (hl : l.length ≤ 19) : valU 0 l < 10000000000000000000 := by
  have h1 := valU_lt l 0 (fun c hc => List.all_eq_true.1 h c hc)
  have h2 : 10 ^ l.length ≤ 10 ^ 19 := Nat.pow_le_pow_right (by decide) hl
  omega
/-! ### the walk of num (printed by gen_wdn.py) -/
theorem numL_none {s : List UInt8} (h : numOk s = false) : numL s = none := by unfold numL; rw [if_neg (by rw [h]; simp)]
theorem numL_some {s : List UInt8} (h : numOk s = true) : numL s = some (numV s) := by unfold numL; rw [if_pos h]
theorem val_pos {l : List UInt8} (h : l.all isDig = true) (hne : l ≠ []) (h0 : l.head? ≠ some 48) : 1 ≤ valU 0 l := by
  have hv := val_dec l hne h (fun h => absurd h h0)
  rcases Nat.eq_zero_or_pos (valU 0 l) with e | e
  · rw [e, Lib.decDigits_one (by omega)] at hv
    rw [← hv] at h0
    exact absurd rfl h0
  · exact e
theorem all_false {l : List UInt8} (k : Nat) (hk : k < l.length) (h : isDig l[k] = false) : l.all isDig = false := by
  rw [List.all_eq_false]
  exact ⟨l[k], List.getElem_mem hk, by rw [h]; simp⟩
/-- When a text is a number, of its sign and the text behind it. -/
theorem numOk_of (neg : Bool) (s t : List UInt8) (h45 : (s.head? = some 45) ↔ neg = true) (ht : t = if neg then s.tail else s) :
    numOk s = (decide (1 ≤ t.length) && decide (t.length ≤ 19) && !(decide (t.head? = some 48) && (decide (1 < t.length) || neg)) && t.all isDig && (if neg then decide (valU 0 t ≤ 9223372036854775808) else decide (valU 0 t < 9223372036854775808))) ∧
    numV s = (if neg then -(valU 0 t : Int) else (valU 0 t : Int)) := by
  have e : numT s = t := by
    unfold numT
    rw [ht]
    cases neg with
    | true => rw [if_pos (h45.2 rfl)]; rfl
    | false => rw [if_neg (fun h => by cases h45.1 h)]; rfl
  unfold numOk numV
  rw [e]
  cases neg with
  | true =>
    have h := h45.2 rfl
    rw [if_pos h, if_pos h]
    refine ⟨?_, rfl⟩
    have hs : s.length = t.length + 1 := by
      cases s with
      | nil => simp at h
      | cons a r => rw [ht]; simp
    rw [hs]
    by_cases h48 : t.head? = some 48
    · have : 0 < t.length := by cases t with | nil => simp at h48 | cons a r => simp
      simp [h48, this]
    · simp [h48]
  | false =>
    have h : ¬ s.head? = some 45 := fun h => by cases h45.1 h
    rw [if_neg h, if_neg h]
    have hs : s = t := by rw [ht]; rfl
    subst hs
    simp
theorem ret_zb {a b : Int} (h : a = b) : Ending.returned (.tuple #[.int .i64 a, .bool true]) = .returned (.tuple #[.int .i64 b, .bool true]) := by rw [h]
set_option maxHeartbeats 3200000 in
set_option maxRecDepth 100000 in
theorem refNum (s : ByteArray) (hs : s.size ≤ 1048576) (w : World) : Calls Tryd.prog 42 #[.string s] w (NumPost (numL s.data.toList) w) := by
  have HL : Hid (s.data.toList.length = s.size) := by unfold Hid; rw [Lib.size_eq]
  by_cases h0 : s.size = 0
  · have HN : Hid (numL s.data.toList = none) := by
      unfold Hid
      have : s.data.toList = [] := List.eq_nil_of_length_eq_zero (by rw [HL.out]; exact h0)
      rw [this]; rfl
    go_enter Tryd.func42, Tryd.ntmps42
    go_wp2
    go_ret2
    unfold NumPost
    rw [HN.out]
    exact ⟨⟨_, rfl⟩, Below.refl _ _⟩
  · have hp : 0 < s.size := by omega
    have hne : (s.data.toList.head? = some 45) ↔ s[0] = 45 := by
      have e : s.data.toList.head? = some s[0] := by
        rw [List.head?_eq_getElem?]
        rw [List.getElem?_eq_getElem (by rw [HL.out]; exact hp)]
        rfl
      rw [e]; simp
    by_cases h45 : s[0] = 45
    · obtain ⟨t, ht, hsl⟩ : ∃ t : ByteArray, t.data.toList = s.data.toList.tail ∧ ∀ W : World, (Instr.slice 9 (.string s) (some (.int .i64 1)) none none).run Tryd.prog W = .ok (.string t) W := by
        have hp1 : ¬ (s.size : Int) < 1 := by omega
        refine ⟨s.extract 1 s.size, by rw [Lib.extract_to_end, List.drop_one], fun W => ?_⟩
        go_simp
      have HK := Lib.hid (numOk_of true s.data.toList t.data.toList (by rw [hne]; simp [h45]) (by rw [ht]; rfl))
      have q1 : ((s[0].toNat : Int) == 45) = true := by rw [h45]; rfl
      have HLt : Hid (t.data.toList.length = t.size) := by unfold Hid; rw [Lib.size_eq]
      clear ht hne h45
      by_cases a1 : t.size < 1
      · have a1n : t.size = 0 := by omega
        have HN := Lib.hid (numL_none (s := s.data.toList) (by rw [HK.out.1, HLt.out, a1n]; simp))
        clear a1n
        go_enter Tryd.func42, Tryd.ntmps42
        go_wp2
        go_ret2
        unfold NumPost
        rw [HN.out]
        exact ⟨⟨_, rfl⟩, Below.refl _ _⟩
      have hp1 : 0 < t.size := by omega
      have hh : t.data.toList.head? = some t[0] := by
        rw [List.head?_eq_getElem?, List.getElem?_eq_getElem (by rw [HLt.out]; exact hp1)]
        rfl
      by_cases a2 : 19 < t.size
      · have HN := Lib.hid (numL_none (s := s.data.toList) (by rw [HK.out.1]; rw [HLt.out, decide_eq_false (show ¬ t.size ≤ 19 by omega)]; simp))
        go_enter Tryd.func42, Tryd.ntmps42
        go_wp2
        all_goals
          go_ret2
          unfold NumPost
          rw [HN.out]
          exact ⟨⟨_, rfl⟩, Below.refl _ _⟩
      by_cases a3 : t[0] = 48
      · have q2 : ((t[0].toNat : Int) == 48) = true := by rw [a3]; rfl
        have HN := Lib.hid (numL_none (s := s.data.toList) (by rw [HK.out.1]; rw [hh, a3]; simp))
        go_enter Tryd.func42, Tryd.ntmps42
        go_wp2
        all_goals
          go_ret2
          unfold NumPost
          rw [HN.out]
          exact ⟨⟨_, rfl⟩, Below.refl _ _⟩
      have q2 : ((t[0].toNat : Int) == 48) = false := by
        rw [beq_eq_false_iff_ne]
        intro e
        exact a3 (UInt8.toNat_inj.1 (by show t[0].toNat = 48; omega))
      have HH := Lib.hid (show t.data.toList.head? ≠ some 48 by rw [hh]; simpa using a3)
      clear hh a3
      go_enter Tryd.func42, Tryd.ntmps42
      go_wp2
      go_loop [6, 7] (fun u i => ∃ k : Nat, k ≤ t.size ∧ i = .int .i64 k ∧ u = .int .u64 (valU 0 (t.data.toList.take k) : Nat) ∧ (t.data.toList.take k).all isDig = true) (fun _ i => t.size - (intOf i).toNat)
      case atStart => exact ⟨0, Nat.zero_le _, rfl, by simp [valU], by simp⟩
      case round =>
        obtain ⟨k, hk, rfl, rfl, hall⟩ := hrel
        have hbd : valU 0 (t.data.toList.take k) < 10000000000000000000 := val_bound hall (by have := List.length_take_le k t.data.toList; omega)
        by_cases hlt : k < t.size
        · have hlt' : k < t.data.toList.length := by rw [HLt.out]; exact hlt
          have hbd2 : valU 0 (t.data.toList.take k) < 1000000000000000000 := by
            have h1 := valU_lt (t.data.toList.take k) 0 (fun c hc => List.all_eq_true.1 hall c hc)
            have h2 : 10 ^ (t.data.toList.take k).length ≤ 10 ^ 18 := Nat.pow_le_pow_right (by decide) (by rw [List.length_take]; omega)
            omega
          have HV := Lib.hid (valU_take t.data.toList k hlt')
          have HA := Lib.hid (And.intro hall (all_take t.data.toList k hlt'))
          have hg : t.data.toList[k] = t[k] := rfl
          rw [hg] at HV HA
          have hid := isDig_iff t[k]
          have HF := Lib.hid (all_false k hlt')
          rw [hg] at HF
          obtain ⟨U, hU⟩ : ∃ U, valU 0 (t.data.toList.take k) = U := ⟨_, rfl⟩
          rw [hU] at hbd hbd2 HV ⊢
          have hc256 := t[k].toNat_lt
          clear hg hall hU
          by_cases b1 : 48 ≤ t[k].toNat
          · by_cases b2 : t[k].toNat ≤ 57
            · have HD := Lib.hid (hid.2 ⟨b1, b2⟩)
              clear hid HF
              go_wp2
              go_round
              case rel => exact ⟨k + 1, by omega, by go_num, by rw [HV.out]; go_num, by rw [HA.out.2, HA.out.1, HD.out]; rfl⟩
              case measure => simp [intOf]; omega
            · have HN := Lib.hid (numL_none (s := s.data.toList) (by rw [HK.out.1, HF.out (by rw [Bool.eq_false_iff]; intro h; have := hid.1 h; omega)]; simp))
              clear hid HF
              go_wp2
              go_ret2
              unfold NumPost
              rw [HN.out]
              exact ⟨⟨_, rfl⟩, Below.refl _ _⟩
          · have HN := Lib.hid (numL_none (s := s.data.toList) (by rw [HK.out.1, HF.out (by rw [Bool.eq_false_iff]; intro h; have := hid.1 h; omega)]; simp))
            clear hid HF
            go_wp2
            go_ret2
            unfold NumPost
            rw [HN.out]
            exact ⟨⟨_, rfl⟩, Below.refl _ _⟩
        · obtain rfl : k = t.size := by omega
          have hT : t.data.toList.take t.size = t.data.toList := List.take_of_length_le (by rw [HLt.out]; exact Nat.le_refl _)
          rw [hT] at hall hbd ⊢
          have hpos := val_pos hall (fun e => by have h9 := congrArg List.length e; rw [HLt.out, List.length_nil] at h9; omega) HH.out
          have HO : Hid (numOk s.data.toList = (if true then decide (valU 0 t.data.toList ≤ 9223372036854775808) else decide (valU 0 t.data.toList < 9223372036854775808))) := by
            unfold Hid
            rw [HK.out.1, hall, HLt.out, decide_eq_true (show 1 ≤ t.size by omega), decide_eq_true (show t.size ≤ 19 by omega), decide_eq_false HH.out]; simp
          have HV := Lib.hid HK.out.2
          obtain ⟨U, hU⟩ : ∃ U, valU 0 t.data.toList = U := ⟨_, rfl⟩
          rw [hU] at hbd hpos HO HV ⊢
          clear hU hT hall
          by_cases c1 : U ≤ 9223372036854775808
          · have HN := Lib.hid (numL_some (s := s.data.toList) (by rw [HO.out]; simpa using c1))
            go_wp2
            go_ret2
            unfold NumPost
            rw [HN.out]
            refine ⟨?_, Below.refl _ _⟩
            rw [HV.out]
            exact ret_zb (by simp; try omega)
          · have HN := Lib.hid (numL_none (s := s.data.toList) (by rw [HO.out]; simpa using c1))
            go_wp2
            go_ret2
            unfold NumPost
            rw [HN.out]
            exact ⟨⟨_, rfl⟩, Below.refl _ _⟩
    · have HK := Lib.hid (numOk_of false s.data.toList s.data.toList (by rw [hne]; simp [h45]) rfl)
      have q1 : ((s[0].toNat : Int) == 45) = false := by
        rw [beq_eq_false_iff_ne]
        intro e
        exact h45 (UInt8.toNat_inj.1 (by show s[0].toNat = 45; omega))
      clear hne h45
      have a1 : ¬ s.size < 1 := by omega
      have hp1 : 0 < s.size := hp
      have hh : s.data.toList.head? = some s[0] := by
        rw [List.head?_eq_getElem?, List.getElem?_eq_getElem (by rw [HL.out]; exact hp1)]
        rfl
      by_cases a2 : 19 < s.size
      · have HN := Lib.hid (numL_none (s := s.data.toList) (by rw [HK.out.1]; rw [HL.out, decide_eq_false (show ¬ s.size ≤ 19 by omega)]; simp))
        go_enter Tryd.func42, Tryd.ntmps42
        go_wp2
        all_goals
          go_ret2
          unfold NumPost
          rw [HN.out]
          exact ⟨⟨_, rfl⟩, Below.refl _ _⟩
      by_cases a3 : s[0] = 48
      · have q2 : ((s[0].toNat : Int) == 48) = true := by rw [a3]; rfl
        by_cases a4 : 1 < s.size
        · have HN := Lib.hid (numL_none (s := s.data.toList) (by rw [HK.out.1]; rw [hh, a3, HL.out]; simp [a4]))
          go_enter Tryd.func42, Tryd.ntmps42
          go_wp2
          all_goals
            go_ret2
            unfold NumPost
            rw [HN.out]
            exact ⟨⟨_, rfl⟩, Below.refl _ _⟩
        have HZ : Hid (numL s.data.toList = some 0) := by
          have e : s.data.toList = [48] := by
            have h1 : s.data.toList.length = 1 := by rw [HL.out]; omega
            match hh2 : s.data.toList, h1 with
            | [a], _ => rw [hh2] at hh; simp at hh; rw [hh, a3]
          unfold Hid; rw [e]; decide
        have hone : s.size = 1 := by omega
        clear hh a3 a4
        go_enter Tryd.func42, Tryd.ntmps42
        go_wp2
        go_loop [6, 7] (fun u i => ∃ k : Nat, k ≤ s.size ∧ i = .int .i64 k ∧ u = .int .u64 (valU 0 (s.data.toList.take k) : Nat) ∧ (s.data.toList.take k).all isDig = true) (fun _ i => s.size - (intOf i).toNat)
        case atStart => exact ⟨0, Nat.zero_le _, rfl, by simp [valU], by simp⟩
        case round =>
          obtain ⟨k, hk, rfl, rfl, hall⟩ := hrel
          have hbd : valU 0 (s.data.toList.take k) < 10000000000000000000 := val_bound hall (by have := List.length_take_le k s.data.toList; omega)
          by_cases hlt : k < s.size
          · have hlt' : k < s.data.toList.length := by rw [HL.out]; exact hlt
            have hbd2 : valU 0 (s.data.toList.take k) < 1000000000000000000 := by
              have h1 := valU_lt (s.data.toList.take k) 0 (fun c hc => List.all_eq_true.1 hall c hc)
              have h2 : 10 ^ (s.data.toList.take k).length ≤ 10 ^ 18 := Nat.pow_le_pow_right (by decide) (by rw [List.length_take]; omega)
              omega
            have HV := Lib.hid (valU_take s.data.toList k hlt')
            have HA := Lib.hid (And.intro hall (all_take s.data.toList k hlt'))
            have hg : s.data.toList[k] = s[k] := rfl
            rw [hg] at HV HA
            have hid := isDig_iff s[k]
            have HF := Lib.hid (all_false k hlt')
            rw [hg] at HF
            obtain ⟨U, hU⟩ : ∃ U, valU 0 (s.data.toList.take k) = U := ⟨_, rfl⟩
            rw [hU] at hbd hbd2 HV ⊢
            have hc256 := s[k].toNat_lt
            clear hg hall hU
            by_cases b1 : 48 ≤ s[k].toNat
            · by_cases b2 : s[k].toNat ≤ 57
              · have HD := Lib.hid (hid.2 ⟨b1, b2⟩)
                clear hid HF
                go_wp2
                go_round
                case rel => exact ⟨k + 1, by omega, by go_num, by rw [HV.out]; go_num, by rw [HA.out.2, HA.out.1, HD.out]; rfl⟩
                case measure => simp [intOf]; omega
              · have HN := Lib.hid (numL_none (s := s.data.toList) (by rw [HK.out.1, HF.out (by rw [Bool.eq_false_iff]; intro h; have := hid.1 h; omega)]; simp))
                clear hid HF
                go_wp2
                go_ret2
                unfold NumPost
                rw [HN.out]
                exact ⟨⟨_, rfl⟩, Below.refl _ _⟩
            · have HN := Lib.hid (numL_none (s := s.data.toList) (by rw [HK.out.1, HF.out (by rw [Bool.eq_false_iff]; intro h; have := hid.1 h; omega)]; simp))
              clear hid HF
              go_wp2
              go_ret2
              unfold NumPost
              rw [HN.out]
              exact ⟨⟨_, rfl⟩, Below.refl _ _⟩
          · obtain rfl : k = s.size := by omega
            have hT : s.data.toList.take s.size = s.data.toList := List.take_of_length_le (by rw [HL.out]; exact Nat.le_refl _)
            rw [hT] at hall hbd ⊢
            have HU : Hid (valU 0 s.data.toList = 0) := by
              unfold Hid
              have h := HZ.out
              have h2 := HK.out.2
              unfold numL at h
              split at h
              · injection h with h; rw [h] at h2; have h3 : (0 : Int) = (valU 0 s.data.toList : Nat) := h2; omega
              · cases h
            rw [HU.out] at hbd ⊢
            clear hT hall
            go_wp2
            go_ret2
            unfold NumPost
            rw [HZ.out]
            exact ⟨rfl, Below.refl _ _⟩
      have q2 : ((s[0].toNat : Int) == 48) = false := by
        rw [beq_eq_false_iff_ne]
        intro e
        exact a3 (UInt8.toNat_inj.1 (by show s[0].toNat = 48; omega))
      have HH := Lib.hid (show s.data.toList.head? ≠ some 48 by rw [hh]; simpa using a3)
      clear hh a3
      go_enter Tryd.func42, Tryd.ntmps42
      go_wp2
      go_loop [6, 7] (fun u i => ∃ k : Nat, k ≤ s.size ∧ i = .int .i64 k ∧ u = .int .u64 (valU 0 (s.data.toList.take k) : Nat) ∧ (s.data.toList.take k).all isDig = true) (fun _ i => s.size - (intOf i).toNat)
      case atStart => exact ⟨0, Nat.zero_le _, rfl, by simp [valU], by simp⟩
      case round =>
        obtain ⟨k, hk, rfl, rfl, hall⟩ := hrel
        have hbd : valU 0 (s.data.toList.take k) < 10000000000000000000 := val_bound hall (by have := List.length_take_le k s.data.toList; omega)
        by_cases hlt : k < s.size
        · have hlt' : k < s.data.toList.length := by rw [HL.out]; exact hlt
          have hbd2 : valU 0 (s.data.toList.take k) < 1000000000000000000 := by
            have h1 := valU_lt (s.data.toList.take k) 0 (fun c hc => List.all_eq_true.1 hall c hc)
            have h2 : 10 ^ (s.data.toList.take k).length ≤ 10 ^ 18 := Nat.pow_le_pow_right (by decide) (by rw [List.length_take]; omega)
            omega
          have HV := Lib.hid (valU_take s.data.toList k hlt')
          have HA := Lib.hid (And.intro hall (all_take s.data.toList k hlt'))
          have hg : s.data.toList[k] = s[k] := rfl
          rw [hg] at HV HA
          have hid := isDig_iff s[k]
          have HF := Lib.hid (all_false k hlt')
          rw [hg] at HF
          obtain ⟨U, hU⟩ : ∃ U, valU 0 (s.data.toList.take k) = U := ⟨_, rfl⟩
          rw [hU] at hbd hbd2 HV ⊢
          have hc256 := s[k].toNat_lt
          clear hg hall hU
          by_cases b1 : 48 ≤ s[k].toNat
          · by_cases b2 : s[k].toNat ≤ 57
            · have HD := Lib.hid (hid.2 ⟨b1, b2⟩)
              clear hid HF
              go_wp2
              go_round
              case rel => exact ⟨k + 1, by omega, by go_num, by rw [HV.out]; go_num, by rw [HA.out.2, HA.out.1, HD.out]; rfl⟩
              case measure => simp [intOf]; omega
            · have HN := Lib.hid (numL_none (s := s.data.toList) (by rw [HK.out.1, HF.out (by rw [Bool.eq_false_iff]; intro h; have := hid.1 h; omega)]; simp))
              clear hid HF
              go_wp2
              go_ret2
              unfold NumPost
              rw [HN.out]
              exact ⟨⟨_, rfl⟩, Below.refl _ _⟩
          · have HN := Lib.hid (numL_none (s := s.data.toList) (by rw [HK.out.1, HF.out (by rw [Bool.eq_false_iff]; intro h; have := hid.1 h; omega)]; simp))
            clear hid HF
            go_wp2
            go_ret2
            unfold NumPost
            rw [HN.out]
            exact ⟨⟨_, rfl⟩, Below.refl _ _⟩
        · obtain rfl : k = s.size := by omega
          have hT : s.data.toList.take s.size = s.data.toList := List.take_of_length_le (by rw [HL.out]; exact Nat.le_refl _)
          rw [hT] at hall hbd ⊢
          have hpos := val_pos hall (fun e => by have h9 := congrArg List.length e; rw [HL.out, List.length_nil] at h9; omega) HH.out
          have HO : Hid (numOk s.data.toList = (if false then decide (valU 0 s.data.toList ≤ 9223372036854775808) else decide (valU 0 s.data.toList < 9223372036854775808))) := by
            unfold Hid
            rw [HK.out.1, hall, HL.out, decide_eq_true (show 1 ≤ s.size by omega), decide_eq_true (show s.size ≤ 19 by omega), decide_eq_false HH.out]; simp
          have HV := Lib.hid HK.out.2
          obtain ⟨U, hU⟩ : ∃ U, valU 0 s.data.toList = U := ⟨_, rfl⟩
          rw [hU] at hbd hpos HO HV ⊢
          clear hU hT hall
          by_cases c1 : U < 9223372036854775808
          · have HN := Lib.hid (numL_some (s := s.data.toList) (by rw [HO.out]; simpa using c1))
            have d1 : decide ((U : Int) < 9223372036854775808) = true := decide_eq_true (by omega)
            go_wp2
            go_ret2
            unfold NumPost
            rw [HN.out]
            refine ⟨?_, Below.refl _ _⟩
            rw [HV.out]
            exact ret_zb (by simp; try omega)
          · have HN := Lib.hid (numL_none (s := s.data.toList) (by rw [HO.out]; simpa using c1))
            have d1 : decide ((U : Int) < 9223372036854775808) = false := decide_eq_false (by omega)
            go_wp2
            go_ret2
            unfold NumPost
            rw [HN.out]
            exact ⟨⟨_, rfl⟩, Below.refl _ _⟩
end Go.Proofs.YtndpdonlombodaaDoor
