/- cut: the next set of as many nodes; all sets of few nodes; does one of them cut? -/
import Derived.Test.YtjclhjijpailoaaGreatDoorGrE
import Derived.RangeFuncFrom
import Derived.RangeFuncOne
namespace Go.Proofs.YtjclhjijpailoaaGreatDoor
open Go.RowKit Law Go.Shelf
set_option linter.unusedVariables false
set_option linter.unusedSimpArgs false
set_option maxRecDepth 100000
attribute [local go_sem] Oper.semAt_some

/-! ### what it computes -/
def nextN (s : Nat) : Nat := (s + 2 ^ low s) ||| ((s ^^^ (s + 2 ^ low s)) / 2 ^ low s / 4)
def goN (all : Nat) : Nat → Nat → List Nat
  | 0, _ => []
  | f + 1, s => if andNot s all = 0 then s :: goN all f (nextN s) else []
def okN (all : Nat) : Nat → Nat → Bool
  | 0, s => decide (andNot s all ≠ 0) && (decide (s ≠ 0) && decide (s < 4294967296))
  | f + 1, s => (decide (s ≠ 0) && decide (s < 4294967296)) && (if andNot s all = 0 then okN all f (nextN s) else true)
def exactN (n k : Nat) : List Nat := if k = 0 then [0] else goN (allN (n : Int)) 100 (allN (k : Int))
def listN (n : Nat) (f : Nat) : List Nat := (List.range (min n f + 1)).flatMap (exactN n)
theorem ok_all : ∀ n : Nat, n < 9 → ∀ k : Nat, k < 4 → k ≠ 0 → okN (allN (n : Int)) 100 (allN (k : Int)) = true := by decide +kernel
theorem okN_pos {all f s : Nat} (h : okN all f s = true) : s ≠ 0 ∧ s < 4294967296 := by
  cases f with
  | zero => simp only [okN, Bool.and_eq_true, decide_eq_true_eq] at h; exact h.2
  | succ f => simp only [okN, Bool.and_eq_true, decide_eq_true_eq] at h; exact h.1
theorem nextN_pos {s : Nat} (h : s ≠ 0) : nextN s ≠ 0 := by
  unfold nextN
  intro e
  have h1 := Nat.left_le_or (n := s + 2 ^ low s) (m := (s ^^^ (s + 2 ^ low s)) / 2 ^ low s / 4)
  rw [e] at h1
  have := Nat.two_pow_pos (low s)
  omega
theorem low_le {s : Nat} (h0 : s ≠ 0) (hs : s < 2 ^ 64) : 2 ^ low s ≤ s := by
  obtain ⟨m, hm, _⟩ := low_spec h0 hs
  generalize 2 ^ low s = p at *
  rw [hm, Nat.mul_add]
  omega
theorem cNext (s : Nat) (h0 : s ≠ 0) (hs : s < 4294967296) (w : World) : Calls Tryz.prog 93 #[.int .u64 (s : Int)] w fun e w' => e = .returned (.int .u64 (nextN s : Int)) ∧ w' = w := by
  have hs64 : s < 18446744073709551616 := by omega
  have hp : 1 ≤ 2 ^ low s := Nat.two_pow_pos _
  have hle := low_le h0 hs64
  have hna := neg_and s h0 hs64
  have hx : s ^^^ (s + 2 ^ low s) < 18446744073709551616 := Nat.xor_lt_two_pow (n := 64) (by omega) (by omega)
  have hbx := bits_xor_u64_nat s (s + 2 ^ low s) hs64 (by omega)
  have hd1 : (s ^^^ (s + 2 ^ low s)) / 2 ^ low s ≤ s ^^^ (s + 2 ^ low s) := Nat.div_le_self ..
  have hd2 : (s ^^^ (s + 2 ^ low s)) / 2 ^ low s / 4 ≤ (s ^^^ (s + 2 ^ low s)) / 2 ^ low s := Nat.div_le_self ..
  have hbo := bits_or_u64_nat (s + 2 ^ low s) ((s ^^^ (s + 2 ^ low s)) / 2 ^ low s / 4) (by omega) (by omega)
  have HV : Hid (nextN s = (s + 2 ^ low s) ||| ((s ^^^ (s + 2 ^ low s)) / 2 ^ low s / 4)) := rfl
  generalize 2 ^ low s = P at *
  have hup : ((s : Int) + (P : Int) == 0) = false := by simp; omega
  have hP : ((P : Int) == 0) = false := by simp; omega
  clear h0
  go_enter Tryz.func93, Tryz.ntmps93
  have HE : Hid (bits .or .u64 ((s : Int) + (P : Int)) (IntKind.u64.wrap ((bits .xor .u64 (s : Int) ((s : Int) + (P : Int))).tdiv (P : Int)) / 4) = (nextN s : Int)) := by
    unfold Hid
    rw [HV.out, ← Int.natCast_add, hbx, ← Int.ofNat_tdiv, wrap_nat (by omega), show (4 : Int) = ((4 : Nat) : Int) from rfl, ← Int.natCast_ediv, hbo]
  clear hbx hbo HV hd1 hd2
  go_wp2
  go_ret
  exact ⟨ret_int HE.out, rfl⟩

/-! ### all sets of as many nodes -/
abbrev U64n := { x : Nat // x < 18446744073709551616 }
def encU (x : U64n) : Array Value := #[.int .u64 (x.1 : Int)]
def toU (x : Nat) : U64n := ⟨x % 18446744073709551616, Nat.mod_lt _ (by decide)⟩
theorem toU_val {x : Nat} (h : x < 18446744073709551616) : (toU x).1 = x := Nat.mod_eq_of_lt h
def ExactPost (n k : Nat) (J Jx : List U64n → World → Prop) (pre0 : List U64n) (e : Ending) (W' : World) : Prop :=
  (e = .returned (.bool true) ∧ J (pre0 ++ (exactN n k).map toU) W') ∨ (e = .returned (.bool false) ∧ ∃ p, p <+: (exactN n k).map toU ∧ Jx (pre0 ++ p) W')
theorem cExact (n k : Nat) (hn : n < 9) (hk : k < 4) (m l : Nat) (J Jx : List U64n → World → Prop) (pre0 : List U64n) (N : Nat) (hN : pre0.length + (exactN n k).length ≤ N)
    (hY : ∀ pre x W1, J pre W1 → pre.length < N → YieldAt Fence.wide (m - 1) Tryz.prog l (encU x) W1 fun e W' => (e = .returned (.bool true) ∧ J (pre ++ [x]) W') ∨ (e = .returned (.bool false) ∧ Jx (pre ++ [x]) W'))
    (W : World) (hJ : J pre0 W) : CallsIn Fence.wide m Tryz.prog 83 #[.int .i64 (n : Int), .int .i64 (k : Int), .func (.yield l) #[] #[]] W (ExactPost n k J Jx pre0) := by
  have CA := Lib.hid (fun W => nodesAll (n : Int) (by omega) (by omega) W)
  have CB := Lib.hid (fun W => nodesAll (k : Int) (by omega) (by omega) W)
  have ha := allN_lt (n : Int)
  refine callsIn_of_wp Tryz.func83 rfl trivial ?_ rfl
  simp only [Tryz.ntmps83, List.size_toArray, List.length_cons, List.length_nil, Nat.reduceAdd, Nat.reduceSub, Array.replicate_succ, Array.replicate_zero, List.push_toArray, List.append_toArray, List.nil_append, List.cons_append]
  by_cases hk0 : k = 0
  · subst hk0
    have hex : exactN n 0 = [0] := rfl
    rw [hex] at hN
    have hN' : pre0.length + 1 ≤ N := hN
    obtain ⟨fn, tmps, assign, body, hy, hR⟩ := hY pre0 (toU 0) W hJ (by omega)
    have HX : Hid (∀ e W', ((e = .returned (.bool true) ∧ J (pre0 ++ [toU 0]) W') ∨ (e = .returned (.bool false) ∧ Jx (pre0 ++ [toU 0]) W')) → ExactPost n 0 J Jx pre0 e W') := by
      rintro e W' (⟨rfl, h⟩ | ⟨rfl, h⟩)
      · exact .inl ⟨rfl, by rw [hex]; exact h⟩
      · exact .inr ⟨rfl, [toU 0], by rw [hex]; exact List.prefix_rfl, h⟩
    have hy0 : encU (toU 0) = #[.int .u64 0] := rfl
    rw [hy0] at hy
    generalize allN (n : Int) = all at *
    gi_wp2
    refine ⟨trivial, (fun h => by cases h), (callsIn_wide.2 (CA.out _)).mono ?_⟩
    rintro e w' ⟨rfl, rfl⟩
    gi_wp2
    refine ⟨trivial, (fun h => by cases h), (callsIn_wide.2 (CB.out _)).mono ?_⟩
    rintro e w' ⟨rfl, rfl⟩
    gi_wp2
    refine ⟨(fun h => by cases h), hR.mono ?_⟩
    rintro e W3 hp
    have hq := HX.out e W3 hp
    rcases hp with ⟨rfl, _⟩ | ⟨rfl, _⟩
    · have HQ := Lib.hid hq
      clear hq hy hR HX
      gi_wp2
      go_ret
      exact HQ.out
    · have HQ := Lib.hid hq
      clear hq hy hR HX
      gi_wp2
      go_ret
      exact HQ.out
  · have hex : exactN n k = goN (allN (n : Int)) 100 (allN (k : Int)) := by unfold exactN; rw [if_neg hk0]
    have hok := ok_all n hn k hk hk0
    have hk0' : ((k : Int) == 0) = false := by simp; omega
    generalize allN (n : Int) = all at *
    generalize allN (k : Int) = s0 at *
    obtain ⟨L, hL⟩ : ∃ L, exactN n k = L := ⟨_, rfl⟩
    have HP : Hid (∀ e W', ((e = .returned (.bool true) ∧ J (pre0 ++ L.map toU) W') ∨ (e = .returned (.bool false) ∧ ∃ p, p <+: L.map toU ∧ Jx (pre0 ++ p) W')) → ExactPost n k J Jx pre0 e W') := fun e W' h => by unfold ExactPost; rw [hL]; exact h
    rw [hL] at hex hN
    clear hL hk0
    gi_wp2
    refine ⟨trivial, (fun h => by cases h), (callsIn_wide.2 (CA.out _)).mono ?_⟩
    rintro e w' ⟨rfl, rfl⟩
    gi_wp2
    refine ⟨trivial, (fun h => by cases h), (callsIn_wide.2 (CB.out _)).mono ?_⟩
    rintro e w' ⟨rfl, rfl⟩
    gi_wp2
    gi_loopw [8] (fun p wr => ∃ (pre : List Nat) (f s : Nat), p = .int .u64 (s : Int) ∧ okN all f s = true ∧ pre ++ goN all f s = L ∧ J (pre0 ++ pre.map toU) wr) (fun p _ => 4294967296 - (intOf p).toNat)
    case atStart => exact ⟨[], 100, s0, rfl, hok, by rw [hex]; rfl, by simpa using hJ⟩
    case round =>
      obtain ⟨pre, f, s, rfl, hoks, hpre, hJs⟩ := hrel
      obtain ⟨hs0, hs1⟩ := okN_pos hoks
      have hba := bits_andNot_u64_nat s all (by omega) ha
      have hba' : bits .andNot .u64 (s : Int) (all : Int) = (andNot s all : Int) := hba
      by_cases hin : andNot s all = 0
      · obtain ⟨f, rfl⟩ : ∃ f', f = f' + 1 := by
          cases f with
          | zero => simp only [okN, Bool.and_eq_true, decide_eq_true_eq] at hoks; exact absurd hin hoks.1
          | succ f => exact ⟨f, rfl⟩
        have hgo : goN all (f + 1) s = s :: goN all f (nextN s) := by show (if andNot s all = 0 then _ else _) = _; rw [if_pos hin]
        have hok2 : okN all f (nextN s) = true := by
          simp only [okN, Bool.and_eq_true] at hoks
          have := hoks.2
          rwa [if_pos hin] at this
        rw [hgo] at hpre
        have hlen : pre.length < L.length := by rw [← hpre, List.length_append, List.length_cons]; omega
        have hv : encU (toU s) = #[.int .u64 (s : Int)] := by unfold encU; rw [toU_val (by omega)]
        obtain ⟨fn, tmps, assign, body, hy, hR⟩ := hY (pre0 ++ pre.map toU) (toU s) wr hJs (by rw [List.length_append, List.length_map]; omega)
        rw [hv] at hy
        rw [hin] at hba'
        have CX := Lib.hid (fun W => cNext s hs0 hs1 W)
        have hnp := nextN_pos hs0
        have hgt : s < nextN s := by
          have h1 := Nat.left_le_or (n := s + 2 ^ low s) (m := (s ^^^ (s + 2 ^ low s)) / 2 ^ low s / 4)
          have h2 := Nat.two_pow_pos (low s)
          unfold nextN
          omega
        have HN : Hid (J ((pre0 ++ pre.map toU) ++ [toU s]) = J (pre0 ++ (pre ++ [s]).map toU)) := by unfold Hid; rw [List.map_append, List.append_assoc]; rfl
        have HM : Hid ((pre ++ [s]) ++ goN all f (nextN s) = L) := by unfold Hid; rw [← hpre, List.append_assoc]; rfl
        have HPX : Hid (pre.map toU ++ [toU s] <+: L.map toU) := by
          unfold Hid
          rw [← hpre, List.map_append, List.map_cons]
          exact ⟨(goN all f (nextN s)).map toU, by simp⟩
        generalize nextN s = t at *
        have ht0 : ((t : Int) == 0) = false := by simp; omega
        have HT := Lib.hid (And.intro hok2 hgt)
        clear hoks hpre hgo hba hin hok2 hgt hs0 hnp
        gi_wp2
        refine ⟨(fun h => by cases h), hR.mono ?_⟩
        rintro e W3 (⟨rfl, hJ3⟩ | ⟨rfl, hJx3⟩)
        · rw [HN.out] at hJ3
          clear hy hR
          gi_wp2
          refine ⟨trivial, (fun h => by cases h), (callsIn_wide.2 (CX.out _)).mono ?_⟩
          rintro e w' ⟨rfl, rfl⟩
          gi_wp2
          go_roundw
          case rel => exact ⟨pre ++ [s], f, t, rfl, HT.out.1, HM.out, hJ3⟩
          case measure => have := HT.out.2; simp [intOf]; omega
        · clear hy hR
          have HQ := Lib.hid (HP.out _ _ (.inr ⟨rfl, _, HPX.out, by rw [← List.append_assoc]; exact hJx3⟩))
          gi_wp2
          go_ret
          exact HQ.out
      · have hgo : goN all f s = [] := by
          cases f with
          | zero => rfl
          | succ f => show (if andNot s all = 0 then _ else _) = _; rw [if_neg hin]
        rw [hgo, List.append_nil] at hpre
        subst hpre
        have hne : ((andNot s all : Int) == 0) = false := by simp; omega
        have HQ := Lib.hid (HP.out _ _ (.inl ⟨rfl, hJs⟩))
        clear hgo hin hba
        gi_wp2
        go_ret
        exact HQ.out
end Go.Proofs.YtjclhjijpailoaaGreatDoor
