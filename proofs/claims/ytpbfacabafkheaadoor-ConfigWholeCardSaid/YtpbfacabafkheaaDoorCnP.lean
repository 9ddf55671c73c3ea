/- A graph that is safe: whole without any so many of its nodes, and each node has more links than that, or links to all others. -/
import Derived.Test.YtpbfacabafkheaaDoorCfF
import Derived.Test.YtpbfacabafkheaaDoorRgF
import Derived.Test.YtpbfacabafkheaaDoorRgP
import Derived.Test.YtpbfacabafkheaaDoorCnU
namespace Go.Proofs.YtpbfacabafkheaaDoor
open Go.RowKit Law
set_option linter.unusedVariables false
set_option linter.unusedSimpArgs false

theorem errS_noself {n : Nat} : ∀ (L P : List Pr), errS n P L = 0 → ∀ l ∈ L, l.1 ≠ l.2
  | [], _, _, l, hl => by simp at hl
  | x :: r, P, h, l, hl => by
    unfold errS at h
    split at h
    · cases h
    · split at h
      · cases h
      · rename_i hne
        split at h
        · cases h
        · rcases List.mem_cons.1 hl with rfl | hl
          · exact hne
          · exact errS_noself r _ h l hl
theorem gErr_noself {n : Int} {L : List Pr} (h : gErr n L = 0) : ∀ l ∈ L, l.1 ≠ l.2 := by
  unfold gErr at h
  split at h
  · cases h
  · exact errS_noself L [] h
theorem fault_parts {c : Cn} {L : List Pr} (h : faultN c L = 0) : gErr c.n L = 0 ∧ 2 ≤ c.n ∧ safeB c.n.toNat (nr (nearL c.n.toNat L)) c.f = true := by
  unfold faultN at h
  split at h
  · cases h
  · rename_i h1
    split at h
    · cases h
    · rename_i h2
      refine ⟨by omega, by omega, by simpa using h2⟩
theorem els_mod (s n : Nat) : (els (s % 2 ^ n)).length ≤ (els s).length := by
  have : els (s % 2 ^ n) = (els s).filter fun k => decide (k < n) := by
    unfold els
    rw [List.filter_filter]
    congr 1
    funext k
    rw [Nat.testBit_mod_two_pow]
  rw [this]
  exact List.length_filter_le _ _
theorem PP_mod (n s : Nat) : PP n (s % 2 ^ n) = PP n s := by
  funext k
  unfold PP
  rw [Nat.testBit_mod_two_pow]
  by_cases h : k < n
  · simp [h]
  · simp [h]
theorem safe_whole {n : Nat} (hn : n < 9) {L : List Pr} (hL : ∀ l ∈ L, nodeB n l.1 = true ∧ nodeB n l.2 = true) {f : Int} (h : safeB n (nr (nearL n L)) f = true) :
    0 ≤ f ∧ f ≤ 3 ∧ f < n ∧ ∀ s, (elsI s).length ≤ f.toNat → wholeB n (nr (nearL n L)) s = true := by
  unfold safeB at h
  simp only [Bool.and_eq_true, decide_eq_true_eq, Bool.not_eq_true'] at h
  obtain ⟨h0, h3, hlt, hcut⟩ := h
  refine ⟨h0, h3, hlt, fun s hs => ?_⟩
  rw [hasCut_sets hn (by omega)] at hcut
  have hm : s % 2 ^ n ∈ setsK n (min f.toNat n + 1) := by
    rw [mem_setsK]
    refine ⟨Nat.mod_lt _ (Nat.two_pow_pos n), ?_⟩
    have h1 := els_mod s n
    unfold elsI at hs ⊢
    rw [List.length_map] at hs ⊢
    omega
  have hw : wholeB n (nr (nearL n L)) (s % 2 ^ n) = true := by
    have := List.any_eq_false.1 hcut _ hm
    simpa using this
  rw [whole_iff hL (by omega)] at hw ⊢
  rw [PP_mod] at hw
  exact hw
theorem filter_most (p : Nat → Bool) (i : Nat) : ∀ n : Nat, (∀ j, j < n → j ≠ i → p j = true) → n ≤ ((List.range n).filter p).length + 1
  | 0, _ => by omega
  | n + 1, h => by
    rw [List.range_succ, List.filter_append, List.length_append]
    by_cases hp : p n = true
    · have := filter_most p i n (fun j hj hne => h j (by omega) hne)
      simp [hp]
      omega
    · have hni : n = i := Classical.byContradiction fun hne => hp (h n (by omega) hne)
      have : (List.range n).filter p = List.range n := List.filter_eq_self.2 fun j hj => h j (by have := List.mem_range.1 hj; omega) (by have := List.mem_range.1 hj; omega)
      rw [this, List.length_range]
      omega
theorem els_range {s n : Nat} (hn : n ≤ 64) : ((List.range n).filter s.testBit).length ≤ (els s).length := by
  unfold els
  refine List.Sublist.length_le (List.Sublist.filter _ ?_)
  exact List.range_sublist.2 hn
theorem safe_deg {n : Nat} (hn : n < 9) {L : List Pr} (hL : ∀ l ∈ L, nodeB n l.1 = true ∧ nodeB n l.2 = true) (hself : ∀ l ∈ L, l.1 ≠ l.2) {f : Int} (h : safeB n (nr (nearL n L)) f = true) (i : Nat) (hi : i < n)
    (h1 : ((elsI (nr (nearL n L) i)).length : Int) ≤ f) : ¬ ((elsI (nr (nearL n L) i)).length : Int) < (n : Int) - 1 := by
  intro h2
  obtain ⟨h0, _, _, hw⟩ := safe_whole hn hL h
  obtain ⟨s, hs⟩ : ∃ s, nr (nearL n L) i = s := ⟨_, rfl⟩
  have hbit : ∀ k : Nat, s.testBit k = adjB L (i : Int) (k : Int) := fun k => by rw [← hs]; exact nearL_bits L hL i k
  rw [hs] at h1 h2
  have hc := (whole_iff hL (by omega) s).1 (hw s (by omega))
  have hii : s.testBit i = false := by
    rw [hbit]
    unfold adjB
    rw [List.any_eq_false]
    intro l hl
    have := hself l hl
    simp only [Bool.or_eq_true, Bool.and_eq_true, beq_iff_eq]
    omega
  obtain ⟨j, hj, hji, hjb⟩ : ∃ j, j < n ∧ j ≠ i ∧ s.testBit j = false := by
    refine Classical.byContradiction fun hno => ?_
    have hm := filter_most s.testBit i n (fun j hj hne => by
      cases hb : s.testBit j with
      | true => rfl
      | false => exact absurd ⟨j, hj, hne, hb⟩ hno)
    have hr := els_range (s := s) (n := n) (by omega)
    unfold elsI at h2
    rw [List.length_map] at h2
    omega
  have hr := hc.2 i j ⟨hi, hii⟩ ⟨hj, hjb⟩
  have := hr.closed (S := fun k => k = i) rfl (fun a b ha hab hb => by
    subst ha
    have h3 : adjB L (a : Int) (b : Int) = true := hab
    rw [← hbit, hb.2] at h3
    cases h3)
  exact hji this
theorem els_take {s : Nat} (hs : s < 2 ^ 64) (k : Nat) : (elsI (ofN ((elsI s).take k))).length ≤ k := by
  rw [← firstN_eq hs]
  unfold elsI
  rw [List.length_map, els_first hs]
  exact List.length_take_le _ _
theorem fault_whole {c : Cn} {L : List Pr} (h : faultN c L = 0) (h9 : c.n < 9) (off : Nat) (ho : off < 18446744073709551616) :
    wholeB c.n.toNat (nr (nearL c.n.toNat L)) (ofN ((elsI off).take c.f.toNat)) = true ∧
    ∀ i : Nat, (i : Int) < c.n → ((elsI (nr (nearL c.n.toNat L) i)).length : Int) ≤ c.f → ¬ ((elsI (nr (nearL c.n.toNat L) i)).length : Int) < c.n - 1 := by
  obtain ⟨hg, h2, hs⟩ := fault_parts h
  obtain ⟨_, _, hL⟩ := gErr_zero hg
  obtain ⟨h0, h3, hlt, hw⟩ := safe_whole (by omega) hL hs
  refine ⟨hw _ (els_take ho _), fun i hi h1 h4 => ?_⟩
  exact safe_deg (by omega) hL (gErr_noself hg) hs i (by omega) h1 (by omega)
end Go.Proofs.YtpbfacabafkheaaDoor
