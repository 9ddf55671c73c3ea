/- Ledgers folded out of entries, and read as they were written: the plain law. -/
import Derived.Test.YtncmbbkcpmimjaaDoorRdD
namespace Go.Proofs.YtncmbbkcpmimjaaDoor
open Go.RowKit Law
set_option linter.unusedVariables false

/-! ### folding -/
def addS (l : Ld) (x : En × List UInt8) : Ld := if okE x.1 then addL l x.1 x.2 else l
def foldS (l : Ld) (es : List (En × List UInt8)) : Ld := es.foldl addS l
theorem addS_fits {l : Ld} (h : l.Fits) (x : En × List UInt8) : (addS l x).Fits := by
  unfold addS
  split
  · exact addL_fits h _ _
  · exact h
theorem foldS_fits : ∀ (es : List (En × List UInt8)) {l : Ld}, l.Fits → (foldS l es).Fits
  | [], _, h => h
  | x :: es, l, h => foldS_fits es (addS_fits h x)
theorem foldS_snoc (l : Ld) (es : List (En × List UInt8)) (k : Nat) (hk : k < es.length) : foldS l (es.take (k + 1)) = addS (foldS l (es.take k)) es[k] := by
  unfold foldS
  rw [List.take_succ_eq_append_getElem hk, List.foldl_append]
  rfl
theorem foldS_parts (l : Ld) (es : List (En × List UInt8)) (k : Nat) : foldS (foldS l (es.take k)) (es.drop k) = foldS l es := by
  unfold foldS
  rw [← List.foldl_append, List.take_append_drop]
theorem sum_set : ∀ (l : List Nat) (f v : Nat) (hf : f < l.length), (l.set f v).sum + l[f] = l.sum + v
  | a :: l, 0, v, _ => by simp; omega
  | a :: l, f + 1, v, hf => by
    have := sum_set l f v (by simpa using hf)
    simp only [List.set_cons_succ, List.sum_cons, List.getElem_cons_succ]
    omega
theorem le_sum : ∀ (l : List Nat) (f : Nat) (hf : f < l.length), l[f] ≤ l.sum
  | a :: l, 0, _ => by simp
  | a :: l, f + 1, hf => by
    have := le_sum l f (by simpa using hf)
    simp only [List.sum_cons, List.getElem_cons_succ]
    omega
theorem addS_sum {l : Ld} (h : l.Fits) {n : Nat} (h1 : l.count = (l.of.sum : Int)) (h2 : l.of.sum ≤ n) (hn : n < 1000) (x : En × List UInt8) : (addS l x).count = ((addS l x).of.sum : Int) ∧ (addS l x).of.sum ≤ n + 1 := by
  unfold addS
  split
  · rename_i hok
    have hf : x.1.f.toNat < l.of.length := by rw [h.n]; have := hok.1; have := hok.2; omega
    have h3 := le_sum l.of _ hf
    have hg : l.of.getD x.1.f.toNat 0 = l.of[x.1.f.toNat] := by rw [List.getD_eq_getElem?_getD, List.getElem?_eq_getElem hf]; rfl
    have hm : (l.of.getD x.1.f.toNat 0 + 1) % 4294967296 = l.of[x.1.f.toNat] + 1 := by rw [hg]; omega
    have h4 := sum_set l.of x.1.f.toNat (l.of[x.1.f.toNat] + 1) hf
    have hc : (addL l x.1 x.2).count = l.count + 1 := by
      show wrapI (l.count + 1) = _
      unfold wrapI
      rw [IntKind.wrap_i64]
      omega
    have ho : (addL l x.1 x.2).of = l.of.set x.1.f.toNat (l.of[x.1.f.toNat] + 1) := by
      show l.of.set _ ((l.of.getD x.1.f.toNat 0 + 1) % 4294967296) = _
      rw [hm]
    rw [hc, ho]
    omega
  · exact ⟨h1, by omega⟩
theorem foldS_sum : ∀ (es : List (En × List UInt8)) {l : Ld} {n : Nat}, l.Fits → l.count = (l.of.sum : Int) → l.of.sum ≤ n → n + es.length < 1000 → (foldS l es).count = ((foldS l es).of.sum : Int) ∧ 0 ≤ (foldS l es).count
  | [], l, n, _, h1, _, _ => ⟨h1, by show 0 ≤ l.count; omega⟩
  | x :: es, l, n, h, h1, h2, h3 => by
    have h4 := addS_sum h h1 h2 (by simp at h3; omega) x
    exact foldS_sum es (addS_fits h x) h4.1 h4.2 (by simp at h3; omega)
theorem totK_64 {l : Ld} (h : l.Fits) : totK l 64 = l.of.sum := by
  unfold totK
  rw [List.take_of_length_le (by rw [h.n]; omega)]
/-- What is folded from nothing counts what each sent. -/
theorem fold0_tot (es : List (En × List UInt8)) (hl : es.length ≤ 40) : (foldS Ld0 es).count = (totK (foldS Ld0 es) 64 : Int) ∧ 0 ≤ (foldS Ld0 es).count := by
  have h := foldS_sum es (l := Ld0) (n := 0) Ld0.fits (by decide) (by decide) (by omega)
  rw [totK_64 (foldS_fits es Ld0.fits)]
  exact h

/-! ### reading what was written -/
theorem leN_leB : ∀ k x, leN (leB k x) = x % 256 ^ k
  | 0, x => by simp [leB, leN, Nat.mod_one]
  | k + 1, x => by
    show (UInt8.ofNat (x % 256)).toNat + 256 * leN (leB k (x / 256)) = _
    rw [leN_leB k (x / 256), UInt8.toNat_ofNat', show (256 : Nat) ^ (k + 1) = 256 * 256 ^ k by rw [Nat.pow_succ, Nat.mul_comm], Nat.mod_mul]
    omega
theorem cutN_left (a b : List UInt8) (o n : Nat) (h : o + n ≤ a.length) : cutN (a ++ b) o n = cutN a o n := by
  unfold cutN
  rw [List.drop_append_of_le_length (by omega), List.take_append_of_le_length (by rw [List.length_drop]; omega)]
theorem cutN_right (a b : List UInt8) (o n : Nat) (h : a.length = o) (hn : b.length = n) : cutN (a ++ b) o n = leN b := by
  unfold cutN
  rw [List.drop_left' h, List.take_of_length_le (by omega)]
theorem put_count (l : Ld) : ∀ k, cutN (putK l k) 0 8 = (l.count % 18446744073709551616).toNat
  | 0 => by
    unfold putK
    rw [cutN_left _ _ 0 8 (by rw [leB_len]; omega)]
    unfold cutN
    rw [List.drop_zero, List.take_of_length_le (by rw [leB_len]; omega), leN_leB]
    omega
  | k + 1 => by
    show cutN (putK l k ++ _) 0 8 = _
    rw [cutN_left _ _ 0 8 (by rw [putK_len]; omega), put_count l k]
theorem put_sum {l : Ld} (h : l.Fits) : ∀ k, cutN (putK l k) 8 8 = l.sum
  | 0 => by
    unfold putK
    rw [cutN_right _ _ 8 8 (leB_len _ _) (leB_len _ _), leN_leB]
    have := h.s
    omega
  | k + 1 => by
    show cutN (putK l k ++ _) 8 8 = _
    rw [cutN_left _ _ 8 8 (by rw [putK_len]; omega), put_sum h k]
theorem put_of {l : Ld} (h : l.Fits) : ∀ k j, j < k → k ≤ 64 → cutN (putK l k) (16 + 4 * j) 4 = l.of.getD j 0
  | k + 1, j, hj, hk => by
    show cutN (putK l k ++ leB 4 (l.of.getD k 0)) (16 + 4 * j) 4 = _
    by_cases hjk : j = k
    · subst hjk
      rw [cutN_right _ _ _ 4 (putK_len l j) (leB_len _ _), leN_leB]
      have hl : j < l.of.length := by rw [h.n]; omega
      have hg : l.of.getD j 0 = l.of[j] := by rw [List.getD_eq_getElem?_getD, List.getElem?_eq_getElem hl]; rfl
      have := h.o _ (List.getElem_mem hl)
      rw [hg]
      omega
    · rw [cutN_left _ _ _ 4 (by rw [putK_len]; omega)]
      exact put_of h k j (by omega) (by omega)
theorem getL_putK {l : Ld} (h : l.Fits) : getL (putK l 64) 64 = l := by
  obtain ⟨cnt, sum, of⟩ := l
  have h1 := put_count ⟨cnt, sum, of⟩ 64
  have h2 := put_sum h 64
  have h3 : getOf (putK ⟨cnt, sum, of⟩ 64) 64 = of := by
    unfold getOf
    rw [Nat.sub_self, List.replicate_zero, List.append_nil]
    apply List.ext_getElem
    · rw [List.length_map, List.length_range]; exact h.n.symm
    · intro j hj1 hj2
      rw [List.getElem_map, List.getElem_range]
      have hj : j < 64 := by simpa using hj1
      rw [put_of h 64 j hj (Nat.le_refl _)]
      show of.getD j 0 = _
      rw [List.getD_eq_getElem?_getD, List.getElem?_eq_getElem hj2]
      rfl
  unfold getL
  rw [h1, h2, h3]
  have h4 : wrapI (((cnt % 18446744073709551616).toNat : Nat) : Int) = cnt := by
    have := h.c0
    have := h.c1
    unfold wrapI
    rw [IntKind.wrap_i64]
    simp only at *
    omega
  show (⟨wrapI (((cnt % 18446744073709551616).toNat : Nat) : Int), sum, of⟩ : Ld) = _
  rw [h4]
/-- What was written is read. -/
theorem getR_putK {l : Ld} (h : l.Fits) (h0 : 0 ≤ l.count) (ht : l.count = (totK l 64 : Int)) : getR (putK l 64) 64 = (l, 0) := by
  unfold getR
  rw [putK_len, if_neg (by omega), getL_putK h, if_neg (by omega)]
end Go.Proofs.YtncmbbkcpmimjaaDoor
