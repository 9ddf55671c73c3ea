/- Plain law: nodes that are reached over links; sets that cut. -/
import Derived.Test.YtfkfheddhnjaaaaGreatSetQ
namespace Go.Proofs.YtfkfheddhnjaaaaGreat
set_option linter.unusedVariables false
set_option linter.unusedSimpArgs false

/-- Is there a link between two nodes? -/
def adjB (L : List (Int × Int)) (a b : Int) : Bool := L.any fun l => (l.1 == a && l.2 == b) || (l.1 == b && l.2 == a)
theorem adjB_symm (L : List (Int × Int)) (a b : Int) : adjB L a b = adjB L b a := by
  unfold adjB
  congr 1
  funext l
  rw [Bool.or_comm]
theorem adjB_snoc (L : List (Int × Int)) (x : Int × Int) (a b : Int) : adjB (L ++ [x]) a b = (adjB L a b || ((x.1 == a && x.2 == b) || (x.1 == b && x.2 == a))) := by
  unfold adjB
  rw [List.any_append]
  simp
/-- What is reached from a node, going over nodes that are there. -/
inductive Rch (P : Nat → Prop) (E : Nat → Nat → Prop) (i : Nat) : Nat → Prop where
  | base : P i → Rch P E i i
  | step {j k : Nat} : Rch P E i j → E j k → P k → Rch P E i k
section
variable {P : Nat → Prop} {E : Nat → Nat → Prop} {i j k : Nat}
theorem Rch.here (h : Rch P E i j) : P i ∧ P j := by
  induction h with
  | base h => exact ⟨h, h⟩
  | step _ _ hk ih => exact ⟨ih.1, hk⟩
theorem Rch.trans (h : Rch P E i j) (h2 : Rch P E j k) : Rch P E i k := by
  induction h2 with
  | base _ => exact h
  | step _ he hk ih => exact .step ih he hk
theorem Rch.symm (hE : ∀ a b, E a b → E b a) (h : Rch P E i j) : Rch P E j i := by
  induction h with
  | base h => exact .base h
  | step hj he hk ih => exact (Rch.step (.base hk) (hE _ _ he) hj.here.2).trans ih
/-- A set that is closed holds all that is reached from one in it. -/
theorem Rch.closed {S : Nat → Prop} (h : Rch P E i j) (hi : S i) (hc : ∀ a b, S a → E a b → P b → S b) : S j := by
  induction h with
  | base _ => exact hi
  | step _ he hk ih => exact hc _ _ ih he hk
end
/-- The graph without some nodes is whole. -/
def Conn (P : Nat → Prop) (E : Nat → Nat → Prop) : Prop := (∃ j, P j) ∧ ∀ i j, P i → P j → Rch P E i j
theorem conn_of_one {P : Nat → Prop} {E : Nat → Nat → Prop} (hE : ∀ a b, E a b → E b a) {i : Nat} (hi : P i) (h : ∀ j, P j → Rch P E i j) : Conn P E :=
  ⟨⟨i, hi⟩, fun a b ha hb => ((h a ha).symm hE).trans (h b hb)⟩

/-! ### rings -/
def andNot (a b : Nat) : Nat := a ^^^ (a &&& b)
theorem testBit_andNot (a b k : Nat) : (andNot a b).testBit k = (a.testBit k && !b.testBit k) := by
  unfold andNot
  rw [Nat.testBit_xor, Nat.testBit_and]
  cases a.testBit k <;> cases b.testBit k <;> rfl
/-- All that the nodes of a set are linked with. -/
def nearsN (near : Nat → Nat) (s : Nat) : List Nat → Nat
  | [] => s
  | i :: r => nearsN near (s ||| near i) r
theorem testBit_nears (near : Nat → Nat) (k : Nat) : ∀ (l : List Nat) (s : Nat), (nearsN near s l).testBit k = (s.testBit k || l.any fun i => (near i).testBit k)
  | [], s => by simp [nearsN]
  | i :: r, s => by
    unfold nearsN
    rw [testBit_nears near k r, Nat.testBit_or, List.any_cons, Bool.or_assoc]
theorem nears_snoc (near : Nat → Nat) : ∀ (l : List Nat) (s i : Nat), nearsN near s (l ++ [i]) = nearsN near s l ||| near i
  | [], s, i => rfl
  | x :: r, s, i => nears_snoc near r (s ||| near x) i
def growN (near : Nat → Nat) (s off : Nat) : Nat := andNot (nearsN near s (els s)) off
def unionL (l : List Nat) : Nat := l.foldl (· ||| ·) 0
theorem unionL_snoc (l : List Nat) (x : Nat) : unionL (l ++ [x]) = unionL l ||| x := by
  unfold unionL; rw [List.foldl_append]; rfl
theorem or_lt64 {a b : Nat} (ha : a < 18446744073709551616) (hb : b < 18446744073709551616) : a ||| b < 18446744073709551616 := by
  have := @or_lt a b ha hb
  exact this
theorem andNot_lt64 {a b : Nat} (ha : a < 18446744073709551616) : andNot a b < 18446744073709551616 := by
  have := @andNot_lt a b ha
  exact this
theorem nears_lt {near : Nat → Nat} (hn : ∀ i, near i < 18446744073709551616) : ∀ (l : List Nat) (s : Nat), s < 18446744073709551616 → nearsN near s l < 18446744073709551616
  | [], s, h => h
  | i :: r, s, h => nears_lt hn r _ (or_lt64 h (hn i))
/-- How the nodes stand while the rings are found: all that came, the last ring. -/
structure RingI (P : Nat → Prop) (E : Nat → Nat → Prop) (i : Nat) (all ring : Nat) : Prop where
  lt1 : all < 18446744073709551616
  lt2 : ring < 18446744073709551616
  sub : ∀ k, k < 64 → (all.testBit k = true ∨ ring.testBit k = true) → Rch P E i k
  apart : ∀ k, k < 64 → ring.testBit k = true → all.testBit k = false
  front : ∀ j k, j < 64 → k < 64 → all.testBit j = true → E j k → P k → all.testBit k = true ∨ ring.testBit k = true
  start : i < 64 → P i → all.testBit i = true ∨ ring.testBit i = true
section
variable {P : Nat → Prop} {E : Nat → Nat → Prop} {i : Nat} {near : Nat → Nat} {off : Nat}
theorem RingI.next (hP : ∀ k, P k → k < 64) (hE : ∀ j k, j < 64 → k < 64 → ((near j).testBit k = true ↔ E j k)) (hn : ∀ j, near j < 18446744073709551616)
    (hoff : ∀ j k, j < 64 → k < 64 → E j k → (off.testBit k = false ↔ P k)) (hoff2 : ∀ k, k < 64 → P k → off.testBit k = false) {all ring : Nat} (h : RingI P E i all ring) : RingI P E i (all ||| ring) (andNot (growN near ring off) (all ||| ring)) := by
  have hb : ∀ k, (andNot (growN near ring off) (all ||| ring)).testBit k = (((ring.testBit k || (els ring).any fun i => (near i).testBit k) && !off.testBit k) && !(all.testBit k || ring.testBit k)) := fun k => by
    unfold growN
    rw [testBit_andNot, testBit_andNot, testBit_nears, Nat.testBit_or]
  refine ⟨or_lt64 h.lt1 h.lt2, andNot_lt64 (by unfold growN; exact andNot_lt64 (nears_lt hn _ _ h.lt2)), fun k hk hor => ?_, fun k hk hr => ?_, fun j k hj hk ha he hp => ?_, fun hi hp => ?_⟩
  · rw [Nat.testBit_or, hb k] at hor
    rcases hor with hor | hor
    · exact h.sub k hk (by simpa using hor)
    · simp only [Bool.and_eq_true, Bool.or_eq_true, Bool.not_eq_true'] at hor
      obtain ⟨⟨h1, h2⟩, h3⟩ := hor
      rcases h1 with h1 | h1
      · exact h.sub k hk (.inr h1)
      · obtain ⟨j, hj, hjk⟩ := List.any_eq_true.1 h1
        obtain ⟨hj64, hjr⟩ := mem_els.1 hj
        have he := (hE j k hj64 hk).1 hjk
        exact .step (h.sub j hj64 (.inr hjr)) he ((hoff j k hj64 hk he).1 h2)
  · rw [hb k] at hr
    simp only [Bool.and_eq_true, Bool.not_eq_true'] at hr
    rw [Nat.testBit_or]; exact hr.2
  · rw [Nat.testBit_or, hb k]
    rw [Nat.testBit_or] at ha
    simp only [Bool.or_eq_true] at ha ⊢
    rcases ha with ha | ha
    · exact .inl (h.front j k hj hk ha he hp)
    · by_cases hin : all.testBit k = true ∨ ring.testBit k = true
      · exact .inl hin
      · refine .inr ?_
        have h1 : ((els ring).any fun i => (near i).testBit k) = true := List.any_eq_true.2 ⟨j, mem_els.2 ⟨hj, ha⟩, (hE j k hj hk).2 he⟩
        have h2 := hoff2 k hk hp
        have h3 : all.testBit k = false := by simpa using fun e => hin (.inl e)
        have h4 : ring.testBit k = false := by simpa using fun e => hin (.inr e)
        rw [h1, h2, h3, h4]; rfl
  · rw [Nat.testBit_or, hb i]
    refine .inl ?_
    simpa using h.start hi hp
theorem RingI.done (hP : ∀ k, P k → k < 64) {all : Nat} (h : RingI P E i all 0) (k : Nat) (hk : k < 64) : all.testBit k = true ↔ Rch P E i k := by
  refine ⟨fun hb => h.sub k hk (.inl hb), fun hr => ?_⟩
  have h0 : ∀ x, (0 : Nat).testBit x = false := fun x => Nat.zero_testBit x
  have hi := hr.here.1
  have hs : all.testBit i = true := by
    rcases h.start (hP i hi) hi with e | e
    · exact e
    · rw [h0] at e; cases e
  refine (Rch.closed (S := fun x => x < 64 ∧ all.testBit x = true) hr ⟨hP i hi, hs⟩ (fun a b ha he hb => ?_)).2
  refine ⟨hP b hb, ?_⟩
  rcases h.front a b ha.1 (hP b hb) ha.2 he hb with e | e
  · exact e
  · rw [h0] at e; cases e
end
/-- A ring that is not empty makes the set of all greater. -/
theorem els_or_lt {a r : Nat} (hr0 : r ≠ 0) (hr : r < 18446744073709551616) (ha : ∀ k, k < 64 → r.testBit k = true → a.testBit k = false) : (els a).length < (els (a ||| r)).length := by
  have hsub : els (a ||| r) = (List.range 64).filter (fun k => a.testBit k || r.testBit k) := by
    unfold els
    apply List.filter_congr
    intro k _
    rw [Nat.testBit_or]
  obtain ⟨k, hk⟩ : ∃ k, k ∈ els r := by
    cases h : els r with
    | nil =>
      have e := els_ofP (s := r) hr
      rw [h] at e
      have : ofP (fun i => ([] : List Nat).contains i) 64 = 0 := by decide +kernel
      rw [this] at e
      exact absurd e.symm hr0
    | cons x l => exact ⟨x, by simp⟩
  obtain ⟨hk64, hkr⟩ := mem_els.1 hk
  have hlen : ∀ l : List Nat, (∀ x ∈ l, x < 64) → (l.filter a.testBit).length + (l.filter r.testBit).length = (l.filter (fun k => a.testBit k || r.testBit k)).length := by
    intro l
    induction l with
    | nil => intro _; rfl
    | cons x l ih =>
      intro hl
      have hx := hl x (by simp)
      have hi := ih (fun y hy => hl y (by simp [hy]))
      have hax := ha x hx
      cases h1 : a.testBit x <;> cases h2 : r.testBit x
      · simp [h1, h2]; exact hi
      · simp [h1, h2]; omega
      · simp [h1, h2]; omega
      · rw [hax h2] at h1; cases h1
  have h1 := hlen (List.range 64) (fun x hx => by simpa using hx)
  have h2 : 0 < ((List.range 64).filter r.testBit).length := List.length_pos_of_mem hk
  rw [hsub]
  show ((List.range 64).filter a.testBit).length < _
  omega
end Go.Proofs.YtfkfheddhnjaaaaGreat
