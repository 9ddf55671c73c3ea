/- Keys in order: the order is total; rising lists with the same keys are the same; the reference's list with one more; runs of equal keys struck. Plain Lean but for the names of KeyN. -/
import Derived.Test.YtlkajpmfcibagaaDoorKeyTw
namespace Go.Proofs.YtlkajpmfcibagaaDoor
open Go.RowKit Law
set_option linter.unusedVariables false

def ltK (a b : K) : Prop := a.t < b.t ∨ (a.t = b.t ∧ (a.f < b.f ∨ (a.f = b.f ∧ a.s < b.s)))
theorem K.ext' {a b : K} (h1 : a.t = b.t) (h2 : a.f = b.f) (h3 : a.s = b.s) : a = b := by
  cases a; cases b; simp_all
theorem cmpK_neg (a b : K) : cmpK a b < 0 ↔ ltK a b := by
  unfold cmpK or3 cmpI ltK
  repeat' split
  all_goals omega
theorem lessK_iff (a b : K) : lessK a b = true ↔ ltK a b := by
  unfold lessK
  rw [decide_eq_true_eq]
  exact cmpK_neg a b
theorem lessK_no (a b : K) : lessK a b = false ↔ ¬ ltK a b := by
  rw [← lessK_iff]
  simp
theorem eqK_iff (a b : K) : eqK a b = true ↔ a = b := by
  unfold eqK
  constructor
  · intro h
    simp only [Bool.and_eq_true, beq_iff_eq] at h
    exact K.ext' h.1.1 h.1.2 h.2
  · rintro rfl
    simp
theorem inK_iff (ks : List K) (x : K) : inK ks x = true ↔ x ∈ ks := by
  unfold inK
  rw [List.any_eq_true]
  constructor
  · rintro ⟨y, hy, h⟩
    rw [eqK_iff] at h
    exact h ▸ hy
  · exact fun h => ⟨x, h, (eqK_iff x x).2 rfl⟩
theorem ltK_irrefl (a : K) : ¬ ltK a a := by unfold ltK; omega
theorem ltK_trans {a b c : K} (h : ltK a b) (h' : ltK b c) : ltK a c := by unfold ltK at *; omega
theorem ltK_asymm {a b : K} (h : ltK a b) (h' : ltK b a) : False := ltK_irrefl a (ltK_trans h h')
theorem ltK_total (a b : K) : ltK a b ∨ a = b ∨ ltK b a := by
  by_cases h1 : a.t = b.t
  · by_cases h2 : a.f = b.f
    · by_cases h3 : a.s = b.s
      · exact .inr (.inl (K.ext' h1 h2 h3))
      · unfold ltK; omega
    · unfold ltK; omega
  · unfold ltK; omega
/-- Rising lists with the same keys are the same. -/
theorem rise_unique : ∀ (a b : List K), a.Pairwise ltK → b.Pairwise ltK → (∀ x, x ∈ a ↔ x ∈ b) → a = b
  | [], [], _, _, _ => rfl
  | [], y :: b, _, _, h => by have := (h y).2 (by simp); simp at this
  | x :: a, [], _, _, h => by have := (h x).1 (by simp); simp at this
  | x :: a, y :: b, ha, hb, h => by
    obtain ⟨ha1, ha2⟩ := List.pairwise_cons.1 ha
    obtain ⟨hb1, hb2⟩ := List.pairwise_cons.1 hb
    have hxy : x = y := by
      have h1 := (h x).1 (by simp)
      have h2 := (h y).2 (by simp)
      rcases List.mem_cons.1 h1 with h1 | h1
      · exact h1
      · rcases List.mem_cons.1 h2 with h2 | h2
        · exact h2.symm
        · exact (ltK_asymm (ha1 y h2) (hb1 x h1)).elim
    subst hxy
    congr 1
    refine rise_unique a b ha2 hb2 fun z => ?_
    constructor
    · intro hz
      rcases List.mem_cons.1 ((h z).1 (by simp [hz])) with rfl | h2
      · exact (ltK_irrefl _ (ha1 _ hz)).elim
      · exact h2
    · intro hz
      rcases List.mem_cons.1 ((h z).2 (by simp [hz])) with rfl | h2
      · exact (ltK_irrefl _ (hb1 _ hz)).elim
      · exact h2
theorem rise_nodup {a : List K} (h : a.Pairwise ltK) : a.Nodup := h.imp (fun {x y} (hl : ltK x y) (he : x = y) => ltK_irrefl y (he ▸ hl))

/-! ### rising, nothing twice -/
theorem upTo_all {ks : List K} (h : ks.Pairwise ltK) : ∀ k, k ≤ ks.length → upTo ks k = true
  | 0, _ => rfl
  | k + 1, hk => by
    by_cases h0 : k = 0
    · subst h0; rfl
    · rw [upTo_step (by omega) (by omega), upTo_all h k (by omega), Bool.true_and, lessK_iff]
      exact List.pairwise_iff_getElem.1 h (k - 1) k (by omega) (by omega) (by omega)
theorem scanTo_none {ks : List K} (h : ks.Nodup) : ∀ k, k ≤ ks.length → scanTo ks k = none
  | 0, _ => rfl
  | k + 1, hk => by
    rw [scanTo_step (by omega) (scanTo_none h k (by omega)), if_neg]
    rw [inK_iff]
    intro hm
    obtain ⟨i, hi, he⟩ := List.getElem_of_mem hm
    rw [List.getElem_take] at he
    rw [List.length_take] at hi
    have := (List.getElem_inj h).1 he
    omega

/-! ### the reference's list with one more -/
/-- What the loop has put together of the first k. -/
def insTo (ks : List K) (x : K) : Nat → List K × Bool
  | 0 => ([], false)
  | k + 1 =>
    let p := insTo ks x k
    let y := ks.getD k k0
    if !p.2 && lessK x y then (p.1 ++ [x] ++ [y], true) else (p.1 ++ [y], p.2)
def intoK (ks : List K) (x : K) : List K := if inK ks x then ks else if (insTo ks x ks.length).2 then (insTo ks x ks.length).1 else (insTo ks x ks.length).1 ++ [x]
theorem insTo_hit {ks : List K} {x : K} {k : Nat} (hk : k < ks.length) (h1 : (insTo ks x k).2 = false) (h2 : lessK x ks[k] = true) : insTo ks x (k + 1) = ((insTo ks x k).1 ++ [x] ++ [ks[k]], true) := by
  show (if !(insTo ks x k).2 && lessK x (ks.getD k k0) then _ else _) = _
  rw [getD_at hk, h1, h2]
  rfl
theorem insTo_in {ks : List K} {x : K} {k : Nat} (hk : k < ks.length) (h1 : (insTo ks x k).2 = true) : insTo ks x (k + 1) = ((insTo ks x k).1 ++ [ks[k]], true) := by
  show (if !(insTo ks x k).2 && lessK x (ks.getD k k0) then _ else _) = _
  rw [getD_at hk, h1]
  rfl
theorem insTo_miss {ks : List K} {x : K} {k : Nat} (hk : k < ks.length) (h1 : (insTo ks x k).2 = false) (h2 : lessK x ks[k] = false) : insTo ks x (k + 1) = ((insTo ks x k).1 ++ [ks[k]], false) := by
  show (if !(insTo ks x k).2 && lessK x (ks.getD k k0) then _ else _) = _
  rw [getD_at hk, h1, h2]
  rfl
theorem insTo_len (ks : List K) (x : K) : ∀ k, (insTo ks x k).1.length ≤ k + (if (insTo ks x k).2 then 1 else 0)
  | 0 => by simp [insTo]
  | k + 1 => by
    have ih := insTo_len ks x k
    show (if !(insTo ks x k).2 && lessK x (ks.getD k k0) then _ else _ : List K × Bool).1.length ≤ _
    have e : insTo ks x (k + 1) = if !(insTo ks x k).2 && lessK x (ks.getD k k0) then ((insTo ks x k).1 ++ [x] ++ [ks.getD k k0], true) else ((insTo ks x k).1 ++ [ks.getD k k0], (insTo ks x k).2) := rfl
    rw [e]
    cases h1 : (insTo ks x k).2 <;> cases h2 : lessK x (ks.getD k k0) <;> simp [h1] at ih ⊢ <;> omega
/-- What is put together: the keys so far, and x at its place once something is behind it. -/
theorem insTo_spec {ks : List K} (hs : ks.Pairwise ltK) {x : K} (hx : x ∉ ks) : ∀ k, k ≤ ks.length →
    (insTo ks x k).1.Pairwise ltK ∧ (∀ y, y ∈ (insTo ks x k).1 ↔ y ∈ ks.take k ∨ ((insTo ks x k).2 = true ∧ y = x)) ∧ ((insTo ks x k).2 = false → ∀ y ∈ ks.take k, ltK y x) ∧ ((insTo ks x k).2 = true → ∀ y ∈ ks.drop k, ltK x y)
  | 0, _ => by simp [insTo]
  | k + 1, hk => by
    have hkl : k < ks.length := by omega
    obtain ⟨i1, i2, i3, i4⟩ := insTo_spec hs hx k (by omega)
    have hne : x ≠ ks[k] := fun h => hx (h ▸ List.getElem_mem hkl)
    have htk : ∀ y, y ∈ ks.take (k + 1) ↔ y ∈ ks.take k ∨ y = ks[k] := fun y => by
      rw [List.take_succ_eq_append_getElem hkl, List.mem_append, List.mem_singleton]
    have hlt : ∀ y ∈ ks.take k, ltK y ks[k] := fun y hy => by
      obtain ⟨i, hi, he⟩ := List.getElem_of_mem hy
      rw [List.getElem_take] at he
      rw [List.length_take] at hi
      rw [← he]
      exact List.pairwise_iff_getElem.1 hs i k (by omega) hkl (by omega)
    have hgt : ∀ y ∈ ks.drop (k + 1), ltK ks[k] y := fun y hy => by
      obtain ⟨i, hi, he⟩ := List.getElem_of_mem hy
      rw [List.getElem_drop] at he
      rw [List.length_drop] at hi
      rw [← he]
      exact List.pairwise_iff_getElem.1 hs k (k + 1 + i) hkl (by omega) (by omega)
    cases hin : (insTo ks x k).2 with
    | false =>
      rw [hin] at i2 i3
      have hmem : ∀ y, y ∈ (insTo ks x k).1 ↔ y ∈ ks.take k := fun y => by rw [i2 y]; simp
      cases hl : lessK x ks[k] with
      | true =>
        rw [insTo_hit hkl hin hl]
        have hl' := (lessK_iff _ _).1 hl
        refine ⟨?_, fun y => ?_, (fun h => by cases h), fun _ y hy => ltK_trans hl' (hgt y hy)⟩
        · rw [List.pairwise_append, List.pairwise_append]
          refine ⟨⟨i1, by simp, fun a ha b hb => ?_⟩, by simp, fun a ha b hb => ?_⟩
          · rw [List.mem_singleton] at hb; subst hb
            exact i3 rfl a ((hmem a).1 ha)
          · rw [List.mem_singleton] at hb; subst hb
            rcases List.mem_append.1 ha with ha | ha
            · exact hlt a ((hmem a).1 ha)
            · rw [List.mem_singleton] at ha; subst ha; exact hl'
        · rw [List.mem_append, List.mem_append, List.mem_singleton, List.mem_singleton, hmem, htk]
          constructor
          · rintro ((h | h) | h)
            · exact .inl (.inl h)
            · exact .inr ⟨rfl, h⟩
            · exact .inl (.inr h)
          · rintro ((h | h) | ⟨_, h⟩)
            · exact .inl (.inl h)
            · exact .inr h
            · exact .inl (.inr h)
      | false =>
        rw [insTo_miss hkl hin hl]
        have hl' : ltK ks[k] x := by
          rcases ltK_total x ks[k] with h | h | h
          · exact absurd h ((lessK_no _ _).1 hl)
          · exact absurd h hne
          · exact h
        refine ⟨?_, fun y => ?_, fun _ y hy => ?_, (fun h => by cases h)⟩
        · rw [List.pairwise_append]
          refine ⟨i1, by simp, fun a ha b hb => ?_⟩
          rw [List.mem_singleton] at hb; subst hb
          exact hlt a ((hmem a).1 ha)
        · rw [List.mem_append, List.mem_singleton, hmem, htk]
          simp
        · rcases (htk y).1 hy with h | h
          · exact i3 rfl y h
          · rw [h]; exact hl'
    | true =>
      rw [hin] at i2 i4
      rw [insTo_in hkl hin]
      have hdk : ks.drop k = ks[k] :: ks.drop (k + 1) := List.drop_eq_getElem_cons hkl
      have hx' : ltK x ks[k] := i4 rfl _ (by rw [hdk]; exact List.mem_cons_self)
      refine ⟨?_, fun y => ?_, (fun h => by cases h), fun _ y hy => ltK_trans hx' (hgt y hy)⟩
      · rw [List.pairwise_append]
        refine ⟨i1, by simp, fun a ha b hb => ?_⟩
        rw [List.mem_singleton] at hb; subst hb
        rcases (i2 a).1 ha with h | ⟨_, h⟩
        · exact hlt a h
        · rw [h]; exact hx'
      · rw [List.mem_append, List.mem_singleton, i2 y, htk]
        constructor
        · rintro ((h | h) | h)
          · exact .inl (.inl h)
          · exact .inr h
          · exact .inl (.inr h)
        · rintro ((h | h) | h)
          · exact .inl (.inl h)
          · exact .inr h
          · exact .inl (.inr h)
theorem intoK_spec {ks : List K} (hs : ks.Pairwise ltK) (x : K) : (intoK ks x).Pairwise ltK ∧ ∀ y, y ∈ intoK ks x ↔ y ∈ ks ∨ y = x := by
  unfold intoK
  by_cases hin : inK ks x = true
  · rw [if_pos hin]
    refine ⟨hs, fun y => ?_⟩
    constructor
    · exact .inl
    · rintro (h | h)
      · exact h
      · rw [h]; exact (inK_iff _ _).1 hin
  · rw [if_neg hin]
    have hx : x ∉ ks := fun h => hin ((inK_iff _ _).2 h)
    obtain ⟨i1, i2, i3, i4⟩ := insTo_spec hs hx ks.length (Nat.le_refl _)
    rw [List.take_length] at i2 i3
    by_cases hb : (insTo ks x ks.length).2 = true
    · rw [if_pos hb]
      refine ⟨i1, fun y => ?_⟩
      rw [i2 y, hb]
      simp
    · rw [if_neg hb]
      have hb' : (insTo ks x ks.length).2 = false := by simpa using hb
      have hm : ∀ y, y ∈ (insTo ks x ks.length).1 ↔ y ∈ ks := fun y => by rw [i2 y, hb']; simp
      refine ⟨?_, fun y => ?_⟩
      · rw [List.pairwise_append]
        refine ⟨i1, by simp, fun a ha b hb2 => ?_⟩
        rw [List.mem_singleton] at hb2; subst hb2
        exact i3 hb' a ((hm a).1 ha)
      · rw [List.mem_append, List.mem_singleton, hm]
theorem intoK_len (ks : List K) (x : K) : (intoK ks x).length ≤ ks.length + 1 := by
  have h := insTo_len ks x ks.length
  unfold intoK
  split
  · omega
  · split
    · rename_i h2; rw [if_pos h2] at h; exact h
    · rename_i h2; rw [if_neg h2] at h; rw [List.length_append, List.length_singleton]; omega
/-- The first k, each put into what is there. -/
def wantK (ks : List K) : Nat → List K
  | 0 => []
  | k + 1 => intoK (wantK ks k) (ks.getD k k0)
theorem wantK_succ {ks : List K} {k : Nat} (hk : k < ks.length) : wantK ks (k + 1) = intoK (wantK ks k) ks[k] := by
  show intoK (wantK ks k) (ks.getD k k0) = _
  rw [getD_at hk]
theorem wantK_len (ks : List K) : ∀ k, (wantK ks k).length ≤ k
  | 0 => Nat.le_refl _
  | k + 1 => by
    have h1 := intoK_len (wantK ks k) (ks.getD k k0)
    have h2 := wantK_len ks k
    show (intoK (wantK ks k) (ks.getD k k0)).length ≤ _
    omega
theorem wantK_spec {ks : List K} : ∀ k, k ≤ ks.length → (wantK ks k).Pairwise ltK ∧ ∀ y, y ∈ wantK ks k ↔ y ∈ ks.take k
  | 0, _ => by simp [wantK]
  | k + 1, hk => by
    have hkl : k < ks.length := by omega
    obtain ⟨h1, h2⟩ := wantK_spec (ks := ks) k (by omega)
    obtain ⟨h3, h4⟩ := intoK_spec h1 ks[k]
    rw [wantK_succ hkl]
    refine ⟨h3, fun y => ?_⟩
    rw [h4 y, h2 y, List.take_succ_eq_append_getElem hkl, List.mem_append, List.mem_singleton]
end Go.Proofs.YtlkajpmfcibagaaDoor
