/- Words as plain functions: a text cut at a byte and put together again; numbers and bodies as texts, and back. -/
import Derived.Lib.ItoaMem
import Derived.Lib.SplitLaws
import Derived.Lib.IndexBytes
namespace Go.Proofs.YtndpdonlombodaaDoor
open Go

theorem snocInd {α : Type} {P : List α → Prop} (h0 : P []) (h1 : ∀ l x, P l → P (l ++ [x])) (l : List α) : P l := by
  have h : ∀ r : List α, P r.reverse := fun r => by
    induction r with
    | nil => exact h0
    | cons x r ih => rw [List.reverse_cons]; exact h1 _ _ ih
  have := h l.reverse
  rwa [List.reverse_reverse] at this
theorem head_app {α : Type} {l : List α} (m : List α) (h : l ≠ []) : (l ++ m).head? = l.head? := by
  cases l with
  | nil => exact absurd rfl h
  | cons a l => rfl
/-! ### cutting and joining -/
def cutBy (c : UInt8) : List UInt8 → List (List UInt8)
  | [] => [[]]
  | x :: r => if x = c then [] :: cutBy c r else (x :: (cutBy c r).headD []) :: (cutBy c r).tail
def joinBy (c : UInt8) : List (List UInt8) → List UInt8
  | [] => []
  | [x] => x
  | x :: y :: r => x ++ c :: joinBy c (y :: r)
theorem cutBy_ne (c : UInt8) (s : List UInt8) : cutBy c s ≠ [] := by
  cases s with
  | nil => simp [cutBy]
  | cons x r => unfold cutBy; split <;> simp
theorem cutBy_eta (c : UInt8) (s : List UInt8) : (cutBy c s).headD [] :: (cutBy c s).tail = cutBy c s := by
  have := cutBy_ne c s
  revert this
  cases cutBy c s <;> simp
theorem join_cut (c : UInt8) : ∀ s : List UInt8, joinBy c (cutBy c s) = s
  | [] => rfl
  | x :: r => by
    have ih := join_cut c r
    have he := cutBy_eta c r
    unfold cutBy
    split
    · rename_i h
      subst h
      revert ih
      rw [← he]
      intro ih
      show [] ++ x :: joinBy x _ = _
      rw [ih]; rfl
    · rw [← he] at ih
      cases ht : (cutBy c r).tail with
      | nil => rw [ht] at ih; show x :: _ = _; rw [show (cutBy c r).headD [] = r from ih]
      | cons y ys => rw [ht] at ih; show x :: ((cutBy c r).headD [] ++ c :: joinBy c (y :: ys)) = _; rw [show (cutBy c r).headD [] ++ c :: joinBy c (y :: ys) = r from ih]
theorem cut_free {c : UInt8} : ∀ {x : List UInt8}, c ∉ x → cutBy c x = [x]
  | [], _ => rfl
  | a :: x, h => by
    have h2 : a ≠ c := fun e => h (by simp [e])
    have h3 : c ∉ x := fun e => h (by simp [e])
    unfold cutBy
    rw [if_neg h2, cut_free h3]; rfl
theorem cut_app {c : UInt8} : ∀ {x : List UInt8} (s : List UInt8), c ∉ x → cutBy c (x ++ c :: s) = x :: cutBy c s
  | [], s, _ => by show cutBy c (c :: s) = _; rw [cutBy, if_pos rfl]
  | a :: x, s, h => by
    have h2 : a ≠ c := fun e => h (by simp [e])
    have h3 : c ∉ x := fun e => h (by simp [e])
    show cutBy c (a :: (x ++ c :: s)) = _
    rw [cutBy, if_neg h2, cut_app s h3]; rfl
theorem cut_join {c : UInt8} : ∀ (l : List (List UInt8)), l ≠ [] → (∀ x ∈ l, c ∉ x) → cutBy c (joinBy c l) = l
  | [], h, _ => absurd rfl h
  | [x], _, h => cut_free (h x (by simp))
  | x :: y :: r, _, h => by
    show cutBy c (x ++ c :: joinBy c (y :: r)) = _
    rw [cut_app _ (h x (by simp)), cut_join (y :: r) (by simp) (fun z hz => h z (List.mem_cons_of_mem _ hz))]
theorem mem_cut {c : UInt8} : ∀ {s : List UInt8}, ∀ x ∈ cutBy c s, c ∉ x
  | [], x, h => by simp [cutBy] at h; subst h; simp
  | a :: r, x, h => by
    have ih := @mem_cut c r
    have he := cutBy_eta c r
    unfold cutBy at h
    split at h
    · rcases List.mem_cons.1 h with rfl | h
      · simp
      · exact ih x h
    · rename_i hac
      rcases List.mem_cons.1 h with rfl | h
      · intro hm
        rcases List.mem_cons.1 hm with rfl | hm
        · exact hac rfl
        · exact ih _ (by rw [← he]; simp) hm
      · exact ih x (by rw [← he]; exact List.mem_cons_of_mem _ h)
/-- One byte more. -/
theorem cut_snoc (c x : UInt8) : ∀ s : List UInt8, cutBy c (s ++ [x]) = if x = c then cutBy c s ++ [[]] else (cutBy c s).dropLast ++ [(cutBy c s).getLastD [] ++ [x]]
  | [] => by show cutBy c [x] = _; unfold cutBy; split <;> rfl
  | a :: s => by
    have ih := cut_snoc c x s
    have he := cutBy_eta c s
    show cutBy c (a :: (s ++ [x])) = _
    by_cases ha : a = c
    · rw [cutBy, if_pos ha, ih, cutBy, if_pos ha]
      split
      · rfl
      · rw [← he]; simp [List.dropLast, List.getLastD]
    · rw [cutBy, if_neg ha, ih, cutBy, if_neg ha]
      split
      · rw [← he]; simp
      · rw [← he]
        cases (cutBy c s).tail with
        | nil => simp
        | cons y ys => simp
/-- The text so far: the pieces that are done, then what stands behind the last cut. -/
theorem cut_take (c : UInt8) (s : List UInt8) (i : Nat) (hi : i < s.length) : cutBy c (s.take (i + 1)) = if s[i] = c then cutBy c (s.take i) ++ [[]] else (cutBy c (s.take i)).dropLast ++ [(cutBy c (s.take i)).getLastD [] ++ [s[i]]] := by
  rw [← cut_snoc, List.take_succ_eq_append_getElem hi]
theorem first_of {c : UInt8} : ∀ {s : List UInt8}, c ∈ s → ∃ x r, s = x ++ c :: r ∧ c ∉ x
  | [], h => by simp at h
  | a :: s, h => by
    by_cases ha : a = c
    · exact ⟨[], s, by rw [ha]; rfl, by simp⟩
    · obtain ⟨x, r, hs, hx⟩ := first_of (s := s) (by rcases List.mem_cons.1 h with e | e; exact absurd e.symm ha; exact e)
      exact ⟨a :: x, r, by rw [hs]; rfl, by simp [hx, Ne.symm ha]⟩
theorem ixb_first {c : UInt8} {x r : List UInt8} (hx : c ∉ x) : Lib.indexByte (x ++ c :: r) c = (x.length : Nat) := by
  rw [← Lib.index_one]
  refine Lib.index_first (by simp) ?_ ?_
  · simp [Lib.occAt]
  · intro j hj
    unfold Lib.occAt
    rw [List.drop_append_of_le_length (by omega)]
    cases hd : x.drop j with
    | nil => have := congrArg List.length hd; simp at this; omega
    | cons a t =>
      have hm : a ∈ x := List.mem_of_mem_drop (by rw [hd]; simp)
      have : c ≠ a := fun e => hx (e ▸ hm)
      simp [List.isPrefixOf, this]
/-- strings.Split at one byte. -/
theorem splitK_cut (c : UInt8) (k : Nat) : ∀ s : List UInt8, s.length ≤ k → Lib.splitK [c] 0 (Lib.count s [c]) s = cutBy c s := by
  induction k with
  | zero =>
    intro s h
    have : s = [] := List.eq_nil_of_length_eq_zero (by omega)
    subst this
    rw [Lib.count_one]; rfl
  | succ k ih =>
    intro s hs
    by_cases hm : c ∈ s
    · obtain ⟨x, r, rfl, hx⟩ := first_of hm
      have hi : Lib.index (x ++ c :: r) [c] = (x.length : Nat) := by
        rw [Lib.index_one]
        exact ixb_first hx
      have hct : Lib.count (x ++ c :: r) [c] = Lib.count r [c] + 1 := by
        rw [Lib.count_hit (by simp) hi]
        simp
        omega
      rw [hct, Lib.splitK, hi, if_neg (by simp), cut_app _ hx]
      simp at hs
      have e1 : (x ++ c :: r).take (((x.length : Nat) : Int).toNat + 0) = x := by simp
      have e2 : (x ++ c :: r).drop (((x.length : Nat) : Int).toNat + [c].length) = r := by
        simp [List.drop_append]
      rw [e1, e2, ih r (by omega)]
    · have h0 : Lib.count s [c] = 0 := by rw [Lib.count_one]; exact List.count_eq_zero.2 hm
      rw [h0, cut_free hm]; rfl
/-! ### numbers -/
def isDig (c : UInt8) : Bool := decide (48 ≤ c.toNat) && decide (c.toNat ≤ 57)
def dgV (a : Nat) (c : UInt8) : Nat := a * 10 + (c.toNat - 48)
def valU (acc : Nat) (l : List UInt8) : Nat := l.foldl dgV acc
/-- A number's text without its sign. -/
def numT (s : List UInt8) : List UInt8 := if s.head? = some 45 then s.tail else s
def numOk (s : List UInt8) : Bool :=
  decide (1 ≤ (numT s).length) && decide ((numT s).length ≤ 19) && !(decide ((numT s).head? = some 48) && decide (1 < s.length)) && (numT s).all isDig &&
  (if s.head? = some 45 then decide (valU 0 (numT s) ≤ 9223372036854775808) else decide (valU 0 (numT s) < 9223372036854775808))
def numV (s : List UInt8) : Int := if s.head? = some 45 then -(valU 0 (numT s) : Int) else (valU 0 (numT s) : Int)
def numL (s : List UInt8) : Option Int := if numOk s then some (numV s) else none
theorem valU_cons (c : UInt8) (r : List UInt8) (acc : Nat) : valU acc (c :: r) = valU (acc * 10 + (c.toNat - 48)) r := by unfold valU; rw [List.foldl_cons]; rfl
theorem valU_nil (acc : Nat) : valU acc [] = acc := by unfold valU; rw [List.foldl_nil]
theorem valU_snoc (x : UInt8) (l : List UInt8) : ∀ (acc : Nat), valU acc (l ++ [x]) = valU acc l * 10 + (x.toNat - 48) := by
  induction l with
  | nil => intro acc; rw [List.nil_append, valU_cons, valU_nil, valU_nil]
  | cons c r ih => intro acc; rw [List.cons_append, valU_cons, valU_cons, ih]
theorem valU_lt : ∀ (l : List UInt8) (acc : Nat), (∀ c ∈ l, isDig c = true) → valU acc l < (acc + 1) * 10 ^ l.length
  | [], acc, _ => by rw [valU_nil]; simp
  | c :: r, acc, h => by
    have hc := h c (by simp)
    unfold isDig at hc
    simp at hc
    have ih := valU_lt r (acc * 10 + (c.toNat - 48)) (fun d hd => h d (by simp [hd]))
    rw [valU_cons]
    refine Nat.lt_of_lt_of_le ih ?_
    rw [List.length_cons, Nat.pow_succ, Nat.mul_comm (10 ^ r.length) 10, ← Nat.mul_assoc]
    exact Nat.mul_le_mul_right _ (by omega)
theorem dec_dig (u : Nat) : (Lib.decDigits u).all isDig = true := by
  induction u using Nat.strongRecOn with
  | _ u ih =>
    rw [Lib.decDigits]
    split
    · simp [isDig]; omega
    · rw [List.all_append, ih (u / 10) (by omega)]
      simp [isDig]; omega
theorem dec_val (u : Nat) : valU 0 (Lib.decDigits u) = u := by
  induction u using Nat.strongRecOn with
  | _ u ih =>
    rw [Lib.decDigits]
    split
    · rw [valU_cons, valU_nil]; simp; omega
    · rw [valU_snoc, ih (u / 10) (by omega)]
      simp; omega
theorem dec_ne (u : Nat) : Lib.decDigits u ≠ [] := by
  rw [Lib.decDigits]; split <;> simp
theorem dec_head (u : Nat) : (Lib.decDigits u).head? = some 48 → u = 0 := by
  induction u using Nat.strongRecOn with
  | _ u ih =>
    rw [Lib.decDigits]
    split
    · intro h
      simp at h
      have := congrArg UInt8.toNat h
      simp at this; omega
    · intro h
      have hne := dec_ne (u / 10)
      rw [head_app _ hne] at h
      have := ih (u / 10) (by omega) h
      omega
theorem dec_head45 (u : Nat) : (Lib.decDigits u).head? ≠ some 45 := by
  intro h
  have h2 := dec_dig u
  have hm := List.mem_of_mem_head? (by rw [h]; rfl : (45 : UInt8) ∈ (Lib.decDigits u).head?)
  have := List.all_eq_true.1 h2 45 hm
  simp [isDig] at this
theorem nDig_le (k : Nat) : ∀ n : Nat, n < 10 ^ (k + 1) → Lib.nDigits n ≤ k + 1 := by
  induction k with
  | zero => intro n h; rw [Lib.nDigits_small (by omega)]; omega
  | succ k ih =>
    intro n h
    by_cases hn : n < 10
    · rw [Lib.nDigits_small hn]; omega
    · rw [Lib.nDigits_big hn]
      have := ih (n / 10) (by rw [Nat.div_lt_iff_lt_mul (by omega)]; rw [Nat.pow_succ] at h; exact h)
      omega
theorem dec_len1 (u : Nat) (h : u < 10) : (Lib.decDigits u).length = 1 := by rw [Lib.decDigits_one h]; rfl
/-- A number's text is read as it. -/
theorem num_itoa (n : Int) (h0 : -9223372036854775808 ≤ n) (h1 : n ≤ 9223372036854775807) : numL (Lib.itoa n) = some n := by
  by_cases hn : n < 0
  · have e : Lib.itoa n = 45 :: Lib.decDigits n.natAbs := by unfold Lib.itoa; rw [if_pos hn]
    have ht : numT (45 :: Lib.decDigits n.natAbs) = Lib.decDigits n.natAbs := rfl
    have hl : (Lib.decDigits n.natAbs).length ≤ 19 := by rw [Lib.decDigits_length]; exact nDig_le 18 _ (by omega)
    have hp : 1 ≤ (Lib.decDigits n.natAbs).length := List.length_pos_iff.2 (dec_ne _)
    have hh : (Lib.decDigits n.natAbs).head? ≠ some 48 := fun h => by have := dec_head _ h; omega
    have hv : numV (45 :: Lib.decDigits n.natAbs) = n := by unfold numV; rw [if_pos (by rfl), ht, dec_val]; omega
    have ho : numOk (45 :: Lib.decDigits n.natAbs) = true := by
      unfold numOk
      rw [ht, dec_val, dec_dig, decide_eq_true hp, decide_eq_true hl, decide_eq_false hh, if_pos (by rfl), decide_eq_true (show n.natAbs ≤ 9223372036854775808 by omega)]; rfl
    rw [e]; unfold numL; rw [if_pos ho, hv]
  · have e : Lib.itoa n = Lib.decDigits n.toNat := by unfold Lib.itoa; rw [if_neg hn]
    have h45 := dec_head45 n.toNat
    have ht : numT (Lib.decDigits n.toNat) = Lib.decDigits n.toNat := by unfold numT; rw [if_neg h45]
    have hl : (Lib.decDigits n.toNat).length ≤ 19 := by rw [Lib.decDigits_length]; exact nDig_le 18 _ (by omega)
    have hp : 1 ≤ (Lib.decDigits n.toNat).length := List.length_pos_iff.2 (dec_ne _)
    have hh : (decide ((Lib.decDigits n.toNat).head? = some 48) && decide (1 < (Lib.decDigits n.toNat).length)) = false := by
      by_cases h : (Lib.decDigits n.toNat).head? = some 48
      · have := dec_len1 n.toNat (by have := dec_head _ h; omega)
        rw [this]; simp
      · rw [decide_eq_false h]; rfl
    have hv : numV (Lib.decDigits n.toNat) = n := by unfold numV; rw [if_neg h45, ht, dec_val]; omega
    have ho : numOk (Lib.decDigits n.toNat) = true := by
      unfold numOk
      rw [ht, dec_val, dec_dig, decide_eq_true hp, decide_eq_true hl, hh, if_neg h45, decide_eq_true (show n.toNat < 9223372036854775808 by omega)]; rfl
    rw [e]; unfold numL; rw [if_pos ho, hv]
theorem dig_of (c : UInt8) (h : isDig c = true) : UInt8.ofNat (48 + (c.toNat - 48)) = c := by
  unfold isDig at h
  simp at h
  rw [show 48 + (c.toNat - 48) = c.toNat by omega]
  simp
/-- Digits without a nought ahead are the numeral of their value. -/
theorem val_dec (l : List UInt8) : l ≠ [] → l.all isDig = true → (l.head? = some 48 → l.length = 1) → Lib.decDigits (valU 0 l) = l := by
  generalize hk : l.length = k
  induction k generalizing l with
  | zero => intro h; exact absurd (List.eq_nil_of_length_eq_zero hk) h
  | succ k ih =>
    intro hne hd h0
    obtain ⟨r, x, rfl⟩ : ∃ r x, l = r ++ [x] := ⟨l.dropLast, l.getLast hne, (List.dropLast_concat_getLast hne).symm⟩
    rw [List.all_append, Bool.and_eq_true] at hd
    have hx : isDig x = true := by simpa using hd.2
    have hx2 := hx
    unfold isDig at hx2
    simp at hx2
    rw [valU_snoc]
    by_cases hr : r = []
    · subst hr
      rw [valU_nil, Lib.decDigits_one (by omega)]
      simp only [Nat.zero_mul, Nat.zero_add, List.nil_append]
      rw [dig_of x hx]
    · have hlen : r.length = k := by simp at hk; exact hk
      have hrpos : 0 < r.length := List.length_pos_iff.2 hr
      have hh : r.head? ≠ some 48 := fun h => by
        have := h0 (by rw [head_app _ hr]; exact h)
        omega
      have ih' := ih r hlen hr hd.1 (fun h => absurd h hh)
      have hpos : 1 ≤ valU 0 r := by
        rcases Nat.eq_zero_or_pos (valU 0 r) with h | h
        · rw [h] at ih'
          rw [Lib.decDigits_one (by omega)] at ih'
          rw [← ih'] at hh
          exact absurd rfl hh
        · exact h
      rw [Lib.decDigits, dif_neg (by omega), show (valU 0 r * 10 + (x.toNat - 48)) / 10 = valU 0 r by omega, ih', show (valU 0 r * 10 + (x.toNat - 48)) % 10 = x.toNat - 48 by omega, dig_of x hx]
/-- What was read as a number has its text. -/
theorem itoa_num {s : List UInt8} {n : Int} (h : numL s = some n) : Lib.itoa n = s ∧ -9223372036854775808 ≤ n ∧ n ≤ 9223372036854775807 := by
  unfold numL at h
  split at h
  · rename_i ho
    injection h with h
    subst h
    unfold numOk at ho
    simp only [Bool.and_eq_true, Bool.not_eq_true', decide_eq_true_eq] at ho
    obtain ⟨⟨⟨⟨h1, h2⟩, h3⟩, h4⟩, h5⟩ := ho
    have hne : numT s ≠ [] := List.length_pos_iff.1 (by omega)
    have h0 : (numT s).head? = some 48 → s.length = 1 := fun h => by
      rw [decide_eq_true h, Bool.true_and, decide_eq_false_iff_not] at h3
      have : (numT s).length ≤ s.length := by unfold numT; split <;> simp
      omega
    by_cases hs : s.head? = some 45
    · obtain ⟨t, rfl⟩ : ∃ t, s = 45 :: t := by
        cases s with
        | nil => simp at hs
        | cons a t => exact ⟨t, by simp at hs; rw [hs]⟩
      rw [if_pos hs, decide_eq_true_eq] at h5
      have ht : numT (45 :: t) = t := rfl
      rw [ht] at h1 h2 h3 h4 h5 hne h0
      have hv := val_dec t hne h4 (fun h => by have := h0 h; simp at this; subst this; exact absurd rfl hne)
      have hpos : 1 ≤ valU 0 t := by
        rcases Nat.eq_zero_or_pos (valU 0 t) with h | h
        · rw [h, Lib.decDigits_one (by omega)] at hv
          have := h0 (by rw [← hv]; rfl)
          rw [← hv] at this; simp at this
        · exact h
      unfold numV
      rw [if_pos hs, ht]
      refine ⟨?_, by omega, by omega⟩
      rw [Lib.itoa_neg _ hpos, hv]
    · have ht : numT s = s := by unfold numT; rw [if_neg hs]
      rw [if_neg hs, decide_eq_true_eq] at h5
      rw [ht] at h1 h2 h3 h4 h5 hne h0
      have hv := val_dec s hne h4 h0
      unfold numV
      rw [if_neg hs, ht]
      refine ⟨?_, by omega, by omega⟩
      rw [Lib.itoa_nonneg, hv]
  · cases h
/-! ### bodies -/
def hexDig (n : Nat) : UInt8 := if n < 10 then UInt8.ofNat (48 + n) else UInt8.ofNat (87 + n)
def hexOf : List UInt8 → List UInt8
  | [] => []
  | c :: r => hexDig (c.toNat / 16) :: hexDig (c.toNat % 16) :: hexOf r
def digV (c : UInt8) : Int := if 48 ≤ c.toNat ∧ c.toNat ≤ 57 then (c.toNat : Int) - 48 else if 97 ≤ c.toNat ∧ c.toNat ≤ 102 then (c.toNat : Int) - 87 else -1
/-- The bytes of pairs of digits; none: some are no digits. An odd one behind them is left. -/
def hexP : List UInt8 → Option (List UInt8)
  | a :: b :: r => if digV a < 0 ∨ digV b < 0 then none else (hexP r).map fun l => UInt8.ofNat (16 * (digV a).toNat + (digV b).toNat) :: l
  | _ => some []
def hexOk (s : List UInt8) : Bool := decide (s.length % 2 = 0) && decide (0 < s.length)
def hexL (s : List UInt8) : Option (List UInt8) := if hexOk s then hexP s else none
theorem digV_hex (n : Nat) (h : n < 16) : digV (hexDig n) = n := by
  have : n = 0 ∨ n = 1 ∨ n = 2 ∨ n = 3 ∨ n = 4 ∨ n = 5 ∨ n = 6 ∨ n = 7 ∨ n = 8 ∨ n = 9 ∨ n = 10 ∨ n = 11 ∨ n = 12 ∨ n = 13 ∨ n = 14 ∨ n = 15 := by omega
  rcases this with rfl | rfl | rfl | rfl | rfl | rfl | rfl | rfl | rfl | rfl | rfl | rfl | rfl | rfl | rfl | rfl <;> decide
theorem hexDig_v (c : UInt8) (h : ¬ digV c < 0) : hexDig (digV c).toNat = c ∧ (digV c).toNat < 16 := by
  unfold digV at h ⊢
  split at h
  · rename_i hc
    rw [if_pos hc]
    unfold hexDig
    rw [if_pos (by omega), show 48 + ((c.toNat : Int) - 48).toNat = c.toNat by omega]
    exact ⟨by simp, by omega⟩
  · rename_i hc
    rw [if_neg hc]
    split at h
    · rename_i hd
      rw [if_pos hd]
      unfold hexDig
      rw [if_neg (by omega), show 87 + ((c.toNat : Int) - 87).toNat = c.toNat by omega]
      exact ⟨by simp, by omega⟩
    · omega
theorem hexOf_len : ∀ b : List UInt8, (hexOf b).length = 2 * b.length
  | [] => rfl
  | c :: r => by simp [hexOf, hexOf_len r]; omega
theorem hexP_of : ∀ b : List UInt8, hexP (hexOf b) = some b
  | [] => rfl
  | c :: r => by
    have hc := c.toNat_lt
    have h1 := digV_hex (c.toNat / 16) (by omega)
    have h2 := digV_hex (c.toNat % 16) (by omega)
    unfold hexOf hexP
    rw [h1, h2, if_neg (by omega), hexP_of r]
    simp only [Option.map_some, Int.toNat_natCast]
    rw [show 16 * (c.toNat / 16) + c.toNat % 16 = c.toNat by omega]
    simp
theorem hexL_of (b : List UInt8) (h : b ≠ []) : hexL (hexOf b) = some b := by
  have hp : 0 < b.length := List.length_pos_iff.2 h
  unfold hexL hexOk
  rw [hexOf_len, decide_eq_true (by omega), decide_eq_true (by omega), hexP_of]; rfl
theorem hexOf_P (k : Nat) : ∀ (s b : List UInt8), s.length ≤ k → s.length % 2 = 0 → hexP s = some b → hexOf b = s := by
  induction k with
  | zero =>
    intro s b hk _ h
    have : s = [] := List.eq_nil_of_length_eq_zero (by omega)
    subst this
    injection h with h
    subst h; rfl
  | succ k ih =>
    intro s b hk he h
    match s, hk, he, h with
    | [], _, _, h => injection h with h; subst h; rfl
    | [x], _, he, _ => simp at he
    | x :: y :: r, hk, he, h =>
      unfold hexP at h
      split at h
      · cases h
      · rename_i hd
        obtain ⟨l, hl, rfl⟩ := Option.map_eq_some_iff.1 h
        have hx := hexDig_v x (by omega)
        have hy := hexDig_v y (by omega)
        simp at hk he
        have := ih r l (by omega) (by omega) hl
        unfold hexOf
        have hn : (UInt8.ofNat (16 * (digV x).toNat + (digV y).toNat)).toNat = 16 * (digV x).toNat + (digV y).toNat := by simp; omega
        rw [hn, show (16 * (digV x).toNat + (digV y).toNat) / 16 = (digV x).toNat by omega, show (16 * (digV x).toNat + (digV y).toNat) % 16 = (digV y).toNat by omega, hx.1, hy.1, this]
theorem hexOf_L {s b : List UInt8} (h : hexL s = some b) : hexOf b = s ∧ b ≠ [] := by
  unfold hexL at h
  split at h
  · rename_i ho
    unfold hexOk at ho
    simp at ho
    have := hexOf_P s.length s b (Nat.le_refl _) (by omega) h
    refine ⟨this, fun hb => ?_⟩
    subst hb
    rw [← this] at ho
    simp [hexOf] at ho
  · cases h
theorem hexOf_chars : ∀ b : List UInt8, ∀ x ∈ hexOf b, digV x ≥ 0
  | [], x, h => by simp [hexOf] at h
  | c :: r, x, h => by
    have hc := c.toNat_lt
    have h1 := digV_hex (c.toNat / 16) (by omega)
    have h2 := digV_hex (c.toNat % 16) (by omega)
    unfold hexOf at h
    rcases List.mem_cons.1 h with rfl | h
    · omega
    · rcases List.mem_cons.1 h with rfl | h
      · omega
      · exact hexOf_chars r x h
theorem itoa_chars (n : Int) : ∀ x ∈ Lib.itoa n, isDig x = true ∨ x = 45 := by
  intro x hx
  unfold Lib.itoa at hx
  split at hx
  · rcases List.mem_cons.1 hx with rfl | hx
    · exact Or.inr rfl
    · exact Or.inl (List.all_eq_true.1 (dec_dig _) x hx)
  · exact Or.inl (List.all_eq_true.1 (dec_dig _) x hx)
end Go.Proofs.YtndpdonlombodaaDoor
