/- What several texts of this seat lean on, joined: RgP RgD RgE RgF RgG. -/
import Derived.Test.YteahiphmhaedpaaGreatDoorCfF
import Derived.Test.YteahiphmhaedpaaGreatDoorRgB
import Derived.Test.YteahiphmhaedpaaGreatDoorGrX
namespace Go.Proofs.YteahiphmhaedpaaGreatDoor
open Go.RowKit Law
set_option linter.unusedVariables false
set_option linter.unusedSimpArgs false

/-- Nodes that are there. -/
def PP (n off : Nat) (k : Nat) : Prop := k < n ∧ off.testBit k = false
def EE (L : List Pr) (j k : Nat) : Prop := adjB L (j : Int) (k : Int) = true
def gI (d : List Int) (k : Nat) : Int := d.getD k 0
def betterB (L : List Pr) (off : Nat) (d : List Int) (a b : Nat) : Bool := decide (0 ≤ gI d a) && (!hasB off (b : Int) && (adjB L (a : Int) (b : Int) && (decide (gI d b < 0) || decide (gI d b > gI d a + 1))))
def sumI (f : Int → Nat) (d : List Int) : Nat := (d.map f).sum
theorem sumI_set (f : Int → Nat) : ∀ (d : List Int) (b : Nat) (x : Int), b < d.length → sumI f (d.set b x) + f (gI d b) = sumI f d + f x
  | [], b, x, h => by simp at h
  | y :: r, 0, x, h => by simp [sumI, gI]; omega
  | y :: r, b + 1, x, h => by
    have ih := sumI_set f r b x (by simpa using h)
    have hg : gI (y :: r) (b + 1) = gI r b := rfl
    rw [hg]
    simp only [List.set_cons_succ, sumI, List.map_cons, List.sum_cons] at ih ⊢
    omega
def cntI (d : List Int) : Nat := sumI (fun x => if 0 ≤ x then 1 else 0) d
def muI (n : Nat) (d : List Int) : Nat := sumI (fun x => if x < 0 then n else x.toNat) d
theorem cntI_le : ∀ d : List Int, cntI d ≤ d.length
  | [] => by simp [cntI, sumI]
  | x :: r => by
    have ih := cntI_le r
    unfold cntI sumI at ih ⊢
    simp only [List.map_cons, List.sum_cons, List.length_cons]
    split <;> omega
/-- How distances stand. -/
structure DI (n : Nat) (L : List Pr) (off i : Nat) (d : List Int) : Prop where
  len : d.length = n
  start : gI d i = 0
  low : ∀ k, k < n → -1 ≤ gI d k
  bound : ∀ k, k < n → gI d k < (cntI d : Int)
  sound : ∀ k, k < n → 0 ≤ gI d k → Rch (PP n off) (EE L) i k
theorem getD_set' (d : List Int) (b k : Nat) (x : Int) (hb : b < d.length) : gI (d.set b x) k = if b = k then x else gI d k := by
  by_cases e : b = k
  · subst e; simp [gI, hb]
  · simp [gI, e, List.getElem?_set_ne e]
theorem DI.better {n : Nat} {L : List Pr} {off i : Nat} {d : List Int} (h : DI n L off i d) {a b : Nat} (ha : a < n) (hb : b < n) (hb64 : b < 64) (hq : betterB L off d a b = true) : DI n L off i (d.set b (gI d a + 1)) ∧ muI n (d.set b (gI d a + 1)) < muI n d := by
  unfold betterB at hq
  simp only [Bool.and_eq_true, decide_eq_true_eq, Bool.not_eq_true', Bool.or_eq_true] at hq
  obtain ⟨h0, h1, h2, h3⟩ := hq
  have hbl : b < d.length := by rw [h.len]; exact hb
  have hs := h.start
  have hba := h.bound a ha
  have hbb := h.bound b hb
  have hcn : cntI d ≤ n := by have := cntI_le d; rw [h.len] at this; exact this
  have hc := sumI_set (fun x => if 0 ≤ x then 1 else 0) d b (gI d a + 1) hbl
  have hm := sumI_set (fun x => if x < 0 then n else x.toNat) d b (gI d a + 1) hbl
  have hcd : cntI d = sumI (fun x => if 0 ≤ x then 1 else 0) d := rfl
  have hcd2 : cntI (d.set b (gI d a + 1)) = sumI (fun x => if 0 ≤ x then 1 else 0) (d.set b (gI d a + 1)) := rfl
  have hlen := h.low b hb
  have hpb : off.testBit b = false := by
    rw [hasB_yes off b hb64] at h1; exact h1
  have hra := h.sound a ha h0
  simp only [if_pos (show (0 : Int) ≤ gI d a + 1 by omega)] at hc
  simp only [if_neg (show ¬ gI d a + 1 < 0 by omega)] at hm
  refine ⟨⟨by simp [h.len], ?_, fun k hk => ?_, fun k hk => ?_, fun k hk hk0 => ?_⟩, ?_⟩
  · rw [getD_set' _ _ _ _ hbl]
    split
    · rename_i e; rw [e] at h3; clear hc hm; rcases h3 with h3 | h3 <;> omega
    · exact hs
  · rw [getD_set' _ _ _ _ hbl]
    split
    · omega
    · exact h.low k hk
  · rw [getD_set' _ _ _ _ hbl]
    have hbk := h.bound k hk
    split
    · rcases h3 with h3 | h3
      · rw [if_neg (by omega)] at hc; omega
      · rw [if_pos (by omega)] at hc; omega
    · rcases h3 with h3 | h3
      · rw [if_neg (by omega)] at hc; omega
      · rw [if_pos (by omega)] at hc; omega
  · rw [getD_set' _ _ _ _ hbl] at hk0
    split at hk0
    · rename_i e; subst e
      exact .step hra h2 ⟨hb, hpb⟩
    · exact h.sound k hk hk0
  · show sumI _ _ < sumI _ _
    rcases h3 with h3 | h3
    · have hc2 := cntI_le (d.set b (gI d a + 1))
      rw [List.length_set, h.len] at hc2
      rw [if_neg (by omega)] at hc
      rw [if_pos h3] at hm; omega
    · rw [if_neg (by omega)] at hm; omega
theorem DI.done {n : Nat} {L : List Pr} {off i : Nat} {d : List Int} (h : DI n L off i d) (hn : n ≤ 64) (hi : PP n off i) (hno : ∀ a b, a < n → b < n → betterB L off d a b = false) (k : Nat) (hk : k < n) : 0 ≤ gI d k ↔ Rch (PP n off) (EE L) i k := by
  refine ⟨h.sound k hk, fun hr => ?_⟩
  refine (Rch.closed (S := fun x => x < n ∧ 0 ≤ gI d x) hr ⟨hi.1, by rw [h.start]; exact Int.le_refl _⟩ (fun a b ha he hb => ⟨hb.1, ?_⟩)).2
  have h1 := hno a b ha.1 hb.1
  unfold betterB at h1
  have he' : adjB L (a : Int) (b : Int) = true := he
  rw [decide_eq_true ha.2, hasB_yes off b (by have := hb.1; omega), hb.2, he'] at h1
  simp at h1
  omega
/-- To begin with. -/
theorem DI.first {n : Nat} {L : List Pr} {off i : Nat} (hi : PP n off i) : DI n L off i ((List.replicate n (-1)).set i 0) := by
  have hl : i < (List.replicate n (-1 : Int)).length := by simpa using hi.1
  have hg : ∀ k, k < n → gI (List.replicate n (-1)) k = -1 := fun k hk => by simp [gI, hk]
  have hc := sumI_set (fun x => if 0 ≤ x then 1 else 0) (List.replicate n (-1)) i 0 hl
  rw [hg i hi.1] at hc
  have hcd2 : cntI ((List.replicate n (-1)).set i 0) = sumI (fun x => if 0 ≤ x then 1 else 0) ((List.replicate n (-1)).set i 0) := rfl
  simp only [if_neg (show ¬ (0 : Int) ≤ -1 by decide), if_pos (Int.le_refl 0)] at hc
  refine ⟨by simp, ?_, fun k hk => ?_, fun k hk => ?_, fun k hk h0 => ?_⟩
  · rw [getD_set' _ _ _ _ hl, if_pos rfl]
  · rw [getD_set' _ _ _ _ hl]; split
    · omega
    · rw [hg k hk]; omega
  · rw [getD_set' _ _ _ _ hl]; split
    · omega
    · rw [hg k hk]; omega
  · rw [getD_set' _ _ _ _ hl] at h0
    split at h0
    · rename_i e; subst e; exact .base hi
    · rw [hg k hk] at h0; omega
/-- The graph without some nodes is whole just where the program says so. -/
theorem whole_iff {n : Nat} {L : List Pr} (hL : ∀ l ∈ L, nodeB n l.1 = true ∧ nodeB n l.2 = true) (hn : n ≤ 64) (off : Nat) : wholeB n (nr (nearL n L)) off = true ↔ Conn (PP n off) (EE L) := by
  have hall : ∀ k, k < 64 → ((thereN n off).testBit k = true ↔ PP n off k) := fun k hk => by
    unfold thereN
    rw [testBit_andNot]
    have ha : (allN (n : Int)).testBit k = decide (k < n) := by
      unfold allN
      split
      · rename_i h1
        rw [show (18446744073709551615 : Nat) = 2 ^ 64 - 1 from rfl, Nat.testBit_two_pow_sub_one, decide_eq_true hk, decide_eq_true (by omega)]
      · split
        · rename_i h1 h2
          rw [Nat.zero_testBit, decide_eq_false (by omega)]
        · rw [Int.toNat_natCast, Nat.testBit_two_pow_sub_one]
    rw [ha]
    unfold PP
    simp
  have hlt := thereN_lt n off
  have hP : ∀ k, PP n off k → k < 64 := fun k h => by have := h.1; omega
  have hE : ∀ j k, j < 64 → k < 64 → ((nr (nearL n L) j).testBit k = true ↔ EE L j k) := fun j k _ _ => by rw [nearL_bits L hL]; exact Iff.rfl
  have hnl : ∀ j, nr (nearL n L) j < 18446744073709551616 := fun j => pow64 (nearL_pow hL j) hn
  have hoff : ∀ j k, j < 64 → k < 64 → EE L j k → (off.testBit k = false ↔ PP n off k) := fun j k _ _ he => ⟨fun h => ⟨(adj_lt hL he).2, h⟩, fun h => h.2⟩
  have hsym : ∀ a b, EE L a b → EE L b a := fun a b h => by unfold EE at *; rw [adjB_symm]; exact h
  unfold wholeB
  rw [Bool.and_eq_true, decide_eq_true_eq]
  by_cases h0 : thereN n off = 0
  · refine ⟨fun h => absurd h0 h.1, fun h => ?_⟩
    obtain ⟨⟨j, hj⟩, _⟩ := h
    have := (hall j (hP j hj)).2 hj
    rw [h0, Nat.zero_testBit] at this
    cases this
  · obtain ⟨m, hm, hl64⟩ := low_spec h0 hlt
    have hlow : (thereN n off).testBit (low (thereN n off)) = true := by
      have := mem_els.1 (show low (thereN n off) ∈ els (thereN n off) by rw [els_cons h0 hlt]; simp)
      exact this.2
    clear hm
    generalize hi : low (thereN n off) = i at *
    have hPi : PP n off i := (hall i hl64).1 hlow
    have hst : startN n i off = 2 ^ i := by
      refine Nat.eq_of_testBit_eq fun k => ?_
      unfold startN
      rw [testBit_andNot, Nat.testBit_and, Nat.testBit_two_pow]
      by_cases e : i = k
      · subst e
        have h1 : (allN (n : Int)).testBit i = true := by
          have := hlow
          unfold thereN at this
          rw [testBit_andNot] at this
          simp only [Bool.and_eq_true] at this
          exact this.1
        rw [h1, hPi.2]; simp
      · simp [e]
    have hI : RingI (PP n off) (EE L) i 0 (startN n i off) := by
      rw [hst]
      refine ⟨by decide, Nat.pow_lt_pow_right (m := i) (n := 64) (show 1 < 2 by decide) hl64, fun k hk h => ?_, fun k _ _ => Nat.zero_testBit k, fun j k _ _ h _ _ => absurd (h.symm.trans (Nat.zero_testBit j)) (by decide), fun _ _ => .inr (by rw [Nat.testBit_two_pow]; simp)⟩
      rcases h with h | h
      · rw [Nat.zero_testBit] at h; cases h
      · rw [Nat.testBit_two_pow] at h
        have : i = k := by simpa using h
        subst this
        exact .base hPi
    have hun := rings_union hP hE hnl hoff (fun k _ h => h.2) 65 0 (startN n i off) (by rw [els_zero]; decide) hI
    have hfl : fromN n (nr (nearL n L)) off i < 18446744073709551616 := by
      unfold fromN
      exact unionL_lt _ (fun x hx => pow64 (ringsN_lt (nearL_pow hL) 65 0 _ (startN_lt n i off hn) x hx) hn)
    have hfr : ∀ k, k < 64 → ((fromN n (nr (nearL n L)) off i).testBit k = true ↔ Rch (PP n off) (EE L) i k) := fun k hk => by
      have := hun k hk
      rw [Nat.zero_or] at this
      exact this
    constructor
    · rintro ⟨_, h⟩
      have heq : fromN n (nr (nearL n L)) off i = thereN n off := by simpa using h
      refine conn_of_one hsym hPi fun j hj => ?_
      rw [← hfr j (hP j hj), heq, hall j (hP j hj)]
      exact hj
    · intro h
      refine ⟨h0, ?_⟩
      rw [beq_iff_eq]
      refine Nat.eq_of_testBit_eq fun k => ?_
      by_cases hk : k < 64
      · rw [Bool.eq_iff_iff, hfr k hk, hall k hk]
        exact ⟨fun hr => hr.here.2, fun hk' => h.2 i k hPi hk'⟩
      · rw [Nat.testBit_lt_two_pow (Nat.lt_of_lt_of_le hfl (Nat.pow_le_pow_right (show 0 < 2 by decide) (show 64 ≤ k by omega))), Nat.testBit_lt_two_pow (Nat.lt_of_lt_of_le hlt (Nat.pow_le_pow_right (show 0 < 2 by decide) (show 64 ≤ k by omega)))]
end Go.Proofs.YteahiphmhaedpaaGreatDoor

namespace Go.Proofs.YteahiphmhaedpaaGreatDoor
open Go.RowKit Law Go.Shelf
set_option linter.unusedVariables false
set_option linter.unusedSimpArgs false
set_option maxRecDepth 100000
attribute [local go_sem] Oper.semAt_some

theorem intV_at {d : List Int} {j : Nat} (hj : j < d.length) : (intV d)[j]? = some (.int .i64 (gI d j)) := by
  simp [intV, gI, hj]
theorem intV_set (d : List Int) (j : Nat) (x : Int) : (intV d).set j (.int .i64 x) = intV (d.set j x) := by simp [intV, List.map_set]
/-- How it stands while distances are bettered. -/
structure DS (w W : World) (n : Nat) (S : Value) (g cap : Nat) (d : List Int) : Prop where
  bx : BoxF W w.heap.size [.int .i64 (n : Int), S]
  own : W.ownsRow (w.heap.size + 1) 3 1 (.slice (some ⟨g, 0, none⟩) n cap) n (intV d)
  bel : Below w.heap.size w W
section
variable {w W W' : World} {n : Nat} {S : Value} {g cap : Nat} {d : List Int}
theorem DS.keep (h : DS w W n S g cap d) (hb : Below W.heap.size W W') : DS w W' n S g cap d := ⟨h.bx.keep hb, own_below h.own hb, h.bel.trans (hb.mono h.bel.size)⟩
theorem DS.at_ (h : DS w W n S g cap d) (hd : d.length = n) {j : Nat} (hj : j < n) : W.cell? ⟨g, j, none⟩ = some (.int .i64 (gI d j)) := by
  rw [h.own.cellAt j (by omega)]; exact intV_at (by omega)
theorem DS.fr (h : DS w W n S g cap d) (j : Nat) : W.frozen? ⟨g, j, none⟩ = false := h.own.frozenAt j
theorem DS.lt (h : DS w W n S g cap d) : w.heap.size + 1 ≤ g := (h.own.lt g rfl).1
theorem DS.put (h : DS w W n S g cap d) (j : Nat) (x : Int) : DS w (W.setCell ⟨g, j, none⟩ (.int .i64 x)) n S g cap (d.set j x) :=
  ⟨h.bx.other (a := ⟨g, j, none⟩) (by have := h.lt; show g ≠ _; omega) _, by rw [← intV_set]; exact (h.own.stored j _).1, h.bel.setCell (p := ⟨g, j, none⟩) (by have := h.lt; show w.heap.size ≤ g; omega) _⟩
def rowG (n g : Nat) (W : World) : List Int := (List.range n).map fun k => match W.cell? ⟨g, k, none⟩ with | some (.int _ z) => z | _ => 0
theorem DS.row (h : DS w W n S g cap d) (hd : d.length = n) : rowG n g W = d := by
  refine List.ext_getElem (by simp [rowG, hd]) fun k h1 h2 => ?_
  have hk : k < n := by rw [← hd]; exact h2
  have := h.at_ hd hk
  simp only [rowG, List.getElem_map, List.getElem_range, this]
  simp [gI, h2]
end
def mB : Value → Nat
  | .bool true => 1
  | _ => 0
theorem betterB_no1 {L : List Pr} {off : Nat} {d : List Int} {a b : Nat} (h : gI d a < 0) : betterB L off d a b = false := by
  unfold betterB; rw [decide_eq_false (by omega)]; rfl
theorem betterB_no2 {L : List Pr} {off : Nat} {d : List Int} {a b : Nat} (h : hasB off (b : Int) = true) : betterB L off d a b = false := by
  unfold betterB; rw [h]; simp
theorem betterB_no3 {L : List Pr} {off : Nat} {d : List Int} {a b : Nat} (h : adjB L (a : Int) (b : Int) = false) : betterB L off d a b = false := by
  unfold betterB; rw [h]; simp
theorem betterB_no4 {L : List Pr} {off : Nat} {d : List Int} {a b : Nat} (h : ¬ gI d b < 0) (h2 : ¬ gI d b > gI d a + 1) : betterB L off d a b = false := by
  unfold betterB; rw [decide_eq_false h, decide_eq_false h2]; simp
theorem betterB_yes {L : List Pr} {off : Nat} {d : List Int} {a b : Nat} (h0 : ¬ gI d a < 0) (h1 : hasB off (b : Int) = false) (h2 : adjB L (a : Int) (b : Int) = true) (h3 : gI d b < 0 ∨ gI d b > gI d a + 1) : betterB L off d a b = true := by
  unfold betterB
  rw [decide_eq_true (show 0 ≤ gI d a by omega), h1, h2]
  rcases h3 with h3 | h3
  · rw [decide_eq_true h3]; rfl
  · rw [decide_eq_true h3]; simp
theorem DI.fit {n : Nat} {L : List Pr} {off i : Nat} {d : List Int} (h : DI n L off i d) {k : Nat} (hk : k < n) : -1 ≤ gI d k ∧ gI d k < n := by
  have h1 := h.low k hk
  have h2 := h.bound k hk
  have h3 := cntI_le d
  rw [h.len] at h3
  omega
def DistPost (n : Nat) (L : List Pr) (off i : Nat) (w : World) (e : Ending) (w' : World) : Prop :=
  ∃ (v : Value) (d : List Int), e = .returned v ∧ d.length = n ∧ w'.ownsRow w.heap.size 3 1 v n (intV d) ∧ Below w.heap.size w w' ∧ (∀ k, k < n → -1 ≤ gI d k ∧ gI d k < n) ∧ ∀ k, k < n → (0 ≤ gI d k ↔ Rch (PP n off) (EE L) i k)
/-- What stands in the loops within a round: bettered or all as it was. -/
def Rd (n : Nat) (L : List Pr) (off : Nat) (d0 d : List Int) (b : Bool) (k j : Nat) : Prop :=
  (b = true → muI n d < muI n d0) ∧ (b = false → d = d0 ∧ ∀ x y, (x < k ∨ (x = k ∧ y < j)) → y < n → betterB L off d0 x y = false)
theorem Rd.next {n : Nat} {L : List Pr} {off : Nat} {d0 d : List Int} {b : Bool} {k j : Nat} (h : Rd n L off d0 d b k j) (hq : betterB L off d k j = false) : Rd n L off d0 d b k (j + 1) := by
  refine ⟨h.1, fun hb => ⟨(h.2 hb).1, fun x y hxy hy => ?_⟩⟩
  obtain ⟨rfl, h2⟩ := h.2 hb
  rcases hxy with hx | ⟨rfl, hy2⟩
  · exact h2 x y (.inl hx) hy
  · by_cases e : y = j
    · subst e; exact hq
    · exact h2 x y (.inr ⟨rfl, by omega⟩) hy
theorem Rd.row {n : Nat} {L : List Pr} {off : Nat} {d0 d : List Int} {b : Bool} {k : Nat} (h : Rd n L off d0 d b k n) : Rd n L off d0 d b (k + 1) 0 := by
  refine ⟨h.1, fun hb => ⟨(h.2 hb).1, fun x y hxy hy => ?_⟩⟩
  rcases hxy with hx | ⟨_, hy2⟩
  · by_cases e : x = k
    · subst e; exact (h.2 hb).2 x y (.inr ⟨rfl, hy⟩) hy
    · exact (h.2 hb).2 x y (.inl (by omega)) hy
  · omega
theorem Rd.hit {n : Nat} {L : List Pr} {off : Nat} {d0 d : List Int} {b : Bool} {k j : Nat} (h : Rd n L off d0 d b k j) {d' : List Int} (hm : muI n d' < muI n d) : Rd n L off d0 d' true k (j + 1) := by
  refine ⟨fun _ => ?_, fun hb => by cases hb⟩
  cases b with
  | true => have := h.1 rfl; omega
  | false => obtain ⟨rfl, _⟩ := h.2 rfl; exact hm
set_option maxHeartbeats 6400000 in
theorem rDist (n : Nat) (hn : n ≤ 64) (A : Option Addr) (l c : Nat) (L : List Pr) (hl : L.length = l) (hm : l ≤ 140737488355328) (hLB : ∀ p ∈ L, nodeB n p.1 = true ∧ nodeB n p.2 = true) (i off : Nat) (hi : PP n off i) (ho : off < 18446744073709551616) (w : World) (hA : LinksAt w A L) :
    Calls Tryz.prog 319 #[.agg #[.int .i64 (n : Int), .slice A l c], .int .i64 (i : Int), .int .u64 (off : Int)] w (DistPost n L off i w) := by
  obtain ⟨i0, hi0, hz0, hz1, hz2⟩ := info_parts intInfo
  have hin := hi.1
  have CH := Lib.hid (fun W => refHasB (s := off) (i := (i : Int)) (r := false) (by rw [hasB_yes off i (by omega)]; exact hi.2) ho W)
  have CL := Lib.hid (fun (a b : Nat) (W : World) (hW : Below w.heap.size w W) => rLinked (n : Int) A l c L hl hm (a : Int) (b : Int) W (hA.below hW))
  have hb0 := (Below.refl w.heap.size w).alloc (Nat.le_refl _) (.cells #[.int .i64 (n : Int), .slice A l c] 118)
  have hx0 := boxF_made w [.int .i64 (n : Int), .slice A l c] 118
  have h00 := World.ownsRow_made (base := w.heap.size + 1) (e := 3) (size := 1) (w.alloc (.cells #[.int .i64 (n : Int), .slice A l c] 118)) #[] 0 (by simp) (by simp [maxLen]) rfl
  have HX := Lib.hid (hx0.keep ((Below.refl _ (w.alloc (.cells #[.int .i64 (n : Int), .slice A l c] 118))).alloc (Nat.le_refl _) (.cells #[] 3)))
  have HB := Lib.hid (hb0.alloc (by simp) (.cells #[] 3))
  have H0 := Lib.hid h00
  have HPI := Lib.hid hi
  clear hb0 hx0 h00 hi hl
  go_enter Tryz.func319, Tryz.ntmps319
  go_wp2
  go_loopw [7, 8] (fun v i' wr => ∃ k : Nat, k ≤ n ∧ i' = .int .i64 k ∧ BoxF wr w.heap.size [.int .i64 (n : Int), .slice A l c] ∧ wr.ownsRow (w.heap.size + 1) 3 1 v k (intV (List.replicate k (-1))) ∧ Below w.heap.size w wr) (fun _ i' _ => n - (intOf i').toNat)
  case atStart => exact ⟨0, Nat.zero_le _, rfl, HX.out, by simpa using H0.out, HB.out⟩
  case round =>
    obtain ⟨k, hk, rfl, hbx, hown, hb⟩ := hrel
    have b0 := hbx.1 0 _ rfl
    have b1 := hbx.1 1 _ rfl
    have HBX := Lib.hid hbx
    clear hbx
    by_cases hlt : k < n
    · go_wp2_with (at_builtin; refine wpList_append_own _ rfl _ _ 272 rfl (w.heap.size + 1) 3 i0 (.int .i64 0) 1 8 Tryz.underlying272 hi0 hz0 hz1 hz2 rfl (by decide) _ _ _ rfl (hown.alloc _) ⟨wr.heap.size, 0, none⟩ 1 1 [.int .i64 (-1)] rfl rfl ?c1 ?c2 ?c3 ?c4 ?c5 ?_)
      case c1 =>
        intro j u hj
        match j, hj with
        | 0, hj => simp at hj; subst hj; simp [Addr.add]
      case c2 => intro u hu; simp at hu; subst hu; rfl
      case c3 => unfold maxLen; omega
      case c4 => omega
      case c5 => have := HBX.out.lt (by simp); simp; omega
      intro v' w1 hown' hgrow _
      have hb3 : Below w.heap.size w w1 := (hb.alloc hb.size _).grown hgrow (by have := hb.size; simp; omega) (fun j hj => by have := (hown.lt j hj).1; omega)
      have hbx1 : BoxF w1 w.heap.size [.int .i64 (n : Int), .slice A l c] := by
        have hlt3 := HBX.out.lt (by simp)
        have hblk : w1.heap[w.heap.size]? = wr.heap[w.heap.size]? := (hgrow.block _ (by simp; omega) (fun e => by have := (hown.lt _ e.symm).1; omega)).trans (Below.heap_alloc _ _ _ hlt3)
        exact ⟨fun j u hj => by rw [World.cell?_of_block (w := wr) (w' := w1) (a := ⟨w.heap.size, j, none⟩) hblk]; exact HBX.out.1 j u hj, fun j hj => by rw [World.frozen?_of_block (w := wr) (w' := w1) (a := ⟨w.heap.size, j, none⟩) hblk]; exact HBX.out.2 j hj⟩
      have hown2 : w1.ownsRow (w.heap.size + 1) 3 1 v' (k + 1) (intV (List.replicate (k + 1) (-1))) := by
        simpa [intV, List.replicate_succ'] using hown'
      have HR := Lib.hid (And.intro hbx1 (And.intro hown2 hb3))
      clear hbx1 hown2 hb3 hown' hgrow
      go_wp2
      go_roundw
      case rel => exact ⟨k + 1, by omega, by go_num, HR.out⟩
      case measure => simp [intOf]; omega
    · obtain rfl : k = n := by omega
      obtain ⟨g, cap, rfl⟩ := Joins.ownsRow_form hown (by omega)
      have hdi := DI.first (n := k) (L := L) (off := off) (i := i) HPI.out
      have hds : DS w wr k (.slice A l c) g cap (List.replicate k (-1)) := ⟨HBX.out, hown, hb⟩
      have f0 := hds.fr i
      have a0 := hds.at_ (by simp) hin
      have HS := Lib.hid (hds.put i 0)
      have HDI := Lib.hid hdi
      have hltg := hds.lt
      clear hds hdi hown
      go_wp2_with fail
      refine (CH.out _).mono ?_
      rintro e w' ⟨rfl, rfl⟩
      go_wp2
      obtain ⟨W0, hW0⟩ : ∃ W0, wr.setCell ⟨g, i, none⟩ (.int .i64 0) = W0 := ⟨_, rfl⟩
      rw [hW0] at HS ⊢
      clear hW0 f0 a0 b0 b1 HBX hb
      go_loopw [9] (fun m wr => ∃ (b : Bool) (d : List Int), m = .bool b ∧ DI k L off i d ∧ DS w wr k (.slice A l c) g cap d ∧ (b = false → ∀ x y, x < k → y < k → betterB L off d x y = false)) (fun m wr => 2 * muI k (rowG k g wr) + mB m)
      case atStart => exact ⟨true, _, rfl, HDI.out, HS.out, fun h => by cases h⟩
      case round =>
        obtain ⟨b, d, rfl, hdi, hds, hno⟩ := hrel
        obtain ⟨W1, rfl⟩ : ∃ W1, W1 = wr := ⟨_, rfl⟩
        clear HS HDI
        have HNO := Lib.hid hno
        have HDI := Lib.hid hdi
        have HDS := Lib.hid hds
        clear hdi hds hno
        cases b with
        | false =>
          have HP : Hid (DistPost k L off i w (.returned (.slice (some ⟨g, 0, none⟩) k cap)) W1) := ⟨_, d, rfl, HDI.out.len, ownsRow_base HDS.out.own (by omega), HDS.out.bel, fun j hj => HDI.out.fit hj, fun j hj => HDI.out.done hn HPI.out (fun x y hx hy => HNO.out rfl x y hx hy) j hj⟩
          go_wp2
          go_ret
          exact HP.out
        | true =>
          go_wp2
          go_loopw [9, 10] (fun m a' wr => ∃ (b : Bool) (x : Nat) (d' : List Int), m = .bool b ∧ a' = .int .i64 x ∧ x ≤ k ∧ DI k L off i d' ∧ DS w wr k (.slice A l c) g cap d' ∧ Rd k L off d d' b x 0) (fun _ a' _ => k - (intOf a').toNat)
          case atStart => exact ⟨false, 0, d, rfl, rfl, Nat.zero_le _, HDI.out, HDS.out, fun h => (by cases h), fun _ => ⟨rfl, fun x y h _ => by omega⟩⟩
          case round =>
            obtain ⟨b, x, d', rfl, rfl, hx, hdi, hds, hrd⟩ := hrel
            obtain ⟨W2, rfl⟩ : ∃ W2, W2 = wr := ⟨_, rfl⟩
            have b0 := hds.bx.1 0 _ rfl
            have HRD := Lib.hid hrd
            have HDI2 := Lib.hid hdi
            have HDS2 := Lib.hid hds
            clear hdi hds hrd
            by_cases hxk : x < k
            · go_wp2
              go_loopw [9, 11] (fun m a' wr => ∃ (b : Bool) (y : Nat) (d' : List Int), m = .bool b ∧ a' = .int .i64 y ∧ y ≤ k ∧ DI k L off i d' ∧ DS w wr k (.slice A l c) g cap d' ∧ Rd k L off d d' b x y) (fun _ a' _ => k - (intOf a').toNat)
              case atStart => exact ⟨b, 0, d', rfl, rfl, Nat.zero_le _, HDI2.out, HDS2.out, HRD.out⟩
              case round =>
                obtain ⟨b2, y, d2, rfl, rfl, hy, hdi, hds, hrd⟩ := hrel
                obtain ⟨W3, rfl⟩ : ∃ W3, W3 = wr := ⟨_, rfl⟩
                clear HRD HDI2 HDS2 b0
                have b0 := hds.bx.1 0 _ rfl
                by_cases hyk : y < k
                · go_wp2
                  clear b0
                  have b0 := fun U : Later W3 => (hds.bx.keep U.h).1 0 _ rfl
                  have b1 := fun U : Later W3 => (hds.bx.keep U.h).1 1 _ rfl
                  have a0 := fun U : Later W3 => (hds.keep U.h).at_ hdi.len hxk
                  have a1 := fun U : Later W3 => (hds.keep U.h).at_ hdi.len hyk
                  have CN := Lib.hid (fun U : Later W3 => CL.out x y U.val (hds.bel.trans (U.h.mono hds.bel.size)))
                  have CO := Lib.hid (fun W => refHas off ho (y : Int) W)
                  have fx := hdi.fit hxk
                  have fy := hdi.fit hyk
                  have HNX := Lib.hid (fun (h : betterB L off d2 x y = false) => hrd.next h)
                  have HHX := Lib.hid (fun (h : betterB L off d2 x y = true) => And.intro (hdi.better hxk hyk (by omega) h).1 (hrd.hit (hdi.better hxk hyk (by omega) h).2))
                  have HDI3 := Lib.hid hdi
                  have HDS3 := Lib.hid hds
                  have HQ1 := Lib.hid (fun h => betterB_no1 (L := L) (off := off) (d := d2) (a := x) (b := y) h)
                  have HQ2 := Lib.hid (fun h => betterB_no2 (L := L) (off := off) (d := d2) (a := x) (b := y) h)
                  have HQ3 := Lib.hid (fun h => betterB_no3 (L := L) (off := off) (d := d2) (a := x) (b := y) h)
                  have HQ4 := Lib.hid (fun h h2 => betterB_no4 (L := L) (off := off) (d := d2) (a := x) (b := y) h h2)
                  have HQ5 := Lib.hid (fun h h1 h2 h3 => betterB_yes (L := L) (off := off) (d := d2) (a := x) (b := y) h h1 h2 h3)
                  have HGX : Hid (∃ gx, gI d2 x = gx) := ⟨_, rfl⟩
                  have HGY : Hid (∃ gy, gI d2 y = gy) := ⟨_, rfl⟩
                  obtain ⟨gx, hgx⟩ := HGX.out
                  obtain ⟨gy, hgy⟩ := HGY.out
                  rw [hgx] at fx
                  rw [hgy] at fy
                  simp only [hgx] at a0
                  simp only [hgy] at a1
                  have HGX := Lib.hid hgx
                  have HGY := Lib.hid hgy
                  clear hdi hds hrd hgx hgy
                  cases c0 : decide (0 ≤ gx)
                  · refine wp_region_later (by kernel_rfl) (by kernel_rfl) ?_
                    repeat (go_big_quiet_step (first | exact later_of (CN.out _) | exact later_of ((CO.out _).mono fun _ _ ⟨he, hw⟩ => ⟨he, by subst hw; exact Below.refl _ _⟩)))
                    refine wpQuiet_nil ?_
                    rintro W4 ⟨⟨W4_, hb4⟩, rfl⟩
                    try dsimp only
                    have HR := Lib.hid (And.intro HDI3.out (And.intro (HDS3.out.keep hb4) (HNX.out (HQ1.out (by rw [HGX.out]; have := of_decide_eq_false c0; omega)))))
                    go_wp2
                    go_roundw
                    case rel => exact ⟨b2, y + 1, d2, rfl, by go_num, by omega, HR.out⟩
                    case measure => simp [intOf]; omega
                  cases c1 : hasB off (y : Int)
                  rotate_left
                  · rw [c1] at CO
                    refine wp_region_later (by kernel_rfl) (by kernel_rfl) ?_
                    repeat (go_big_quiet_step (first | exact later_of (CN.out _) | exact later_of ((CO.out _).mono fun _ _ ⟨he, hw⟩ => ⟨he, by subst hw; exact Below.refl _ _⟩)))
                    refine wpQuiet_nil ?_
                    rintro W4 ⟨⟨W4_, hb4⟩, rfl⟩
                    try dsimp only
                    have HR := Lib.hid (And.intro HDI3.out (And.intro (HDS3.out.keep hb4) (HNX.out (HQ2.out c1))))
                    go_wp2
                    go_roundw
                    case rel => exact ⟨b2, y + 1, d2, rfl, by go_num, by omega, HR.out⟩
                    case measure => simp [intOf]; omega
                  rw [c1] at CO
                  cases c2 : adjB L (x : Int) (y : Int)
                  · rw [c2] at CN
                    refine wp_region_later (by kernel_rfl) (by kernel_rfl) ?_
                    repeat (go_big_quiet_step (first | exact later_of (CN.out _) | exact later_of ((CO.out _).mono fun _ _ ⟨he, hw⟩ => ⟨he, by subst hw; exact Below.refl _ _⟩)))
                    refine wpQuiet_nil ?_
                    rintro W4 ⟨⟨W4_, hb4⟩, rfl⟩
                    try dsimp only
                    have HR := Lib.hid (And.intro HDI3.out (And.intro (HDS3.out.keep hb4) (HNX.out (HQ3.out c2))))
                    go_wp2
                    go_roundw
                    case rel => exact ⟨b2, y + 1, d2, rfl, by go_num, by omega, HR.out⟩
                    case measure => simp [intOf]; omega
                  rw [c2] at CN
                  cases c3 : decide (gy < 0)
                  rotate_left
                  · refine wp_region_later (by kernel_rfl) (by kernel_rfl) ?_
                    repeat (go_big_quiet_step (first | exact later_of (CN.out _) | exact later_of ((CO.out _).mono fun _ _ ⟨he, hw⟩ => ⟨he, by subst hw; exact Below.refl _ _⟩)))
                    refine wpQuiet_nil ?_
                    rintro W4 ⟨⟨W4_, hb4⟩, rfl⟩
                    try dsimp only
                    have HS4 := HDS3.out.keep hb4
                    have a0' := HS4.at_ HDI3.out.len hxk
                    have a1' := HS4.at_ HDI3.out.len hyk
                    rw [HGX.out] at a0'
                    rw [HGY.out] at a1'
                    have f1' := HS4.fr y
                    have HP4 := Lib.hid (HS4.put y (gI d2 x + 1))
                    rw [HGX.out] at HP4
                    have HH := Lib.hid (HHX.out (HQ5.out (by rw [HGX.out]; have := of_decide_eq_true c0; omega) c1 c2 (by rw [HGX.out, HGY.out]; first | exact .inl (of_decide_eq_true c3) | exact .inr (of_decide_eq_true c4))))
                    rw [HGX.out] at HH
                    clear HS4
                    go_wp2
                    go_roundw
                    case rel => exact ⟨true, y + 1, d2.set y (gx + 1), rfl, by go_num, by omega, HH.out.1, HP4.out, HH.out.2⟩
                    case measure => simp [intOf]; omega
                  cases c4 : decide (gy > gx + 1)
                  · refine wp_region_later (by kernel_rfl) (by kernel_rfl) ?_
                    repeat (go_big_quiet_step (first | exact later_of (CN.out _) | exact later_of ((CO.out _).mono fun _ _ ⟨he, hw⟩ => ⟨he, by subst hw; exact Below.refl _ _⟩)))
                    refine wpQuiet_nil ?_
                    rintro W4 ⟨⟨W4_, hb4⟩, rfl⟩
                    try dsimp only
                    have HR := Lib.hid (And.intro HDI3.out (And.intro (HDS3.out.keep hb4) (HNX.out (HQ4.out (by rw [HGY.out]; exact of_decide_eq_false c3) (by rw [HGX.out, HGY.out]; exact of_decide_eq_false c4)))))
                    go_wp2
                    go_roundw
                    case rel => exact ⟨b2, y + 1, d2, rfl, by go_num, by omega, HR.out⟩
                    case measure => simp [intOf]; omega
                  · refine wp_region_later (by kernel_rfl) (by kernel_rfl) ?_
                    repeat (go_big_quiet_step (first | exact later_of (CN.out _) | exact later_of ((CO.out _).mono fun _ _ ⟨he, hw⟩ => ⟨he, by subst hw; exact Below.refl _ _⟩)))
                    refine wpQuiet_nil ?_
                    rintro W4 ⟨⟨W4_, hb4⟩, rfl⟩
                    try dsimp only
                    have HS4 := HDS3.out.keep hb4
                    have a0' := HS4.at_ HDI3.out.len hxk
                    have a1' := HS4.at_ HDI3.out.len hyk
                    rw [HGX.out] at a0'
                    rw [HGY.out] at a1'
                    have f1' := HS4.fr y
                    have HP4 := Lib.hid (HS4.put y (gI d2 x + 1))
                    rw [HGX.out] at HP4
                    have HH := Lib.hid (HHX.out (HQ5.out (by rw [HGX.out]; have := of_decide_eq_true c0; omega) c1 c2 (by rw [HGX.out, HGY.out]; first | exact .inl (of_decide_eq_true c3) | exact .inr (of_decide_eq_true c4))))
                    rw [HGX.out] at HH
                    clear HS4
                    go_wp2
                    go_roundw
                    case rel => exact ⟨true, y + 1, d2.set y (gx + 1), rfl, by go_num, by omega, HH.out.1, HP4.out, HH.out.2⟩
                    case measure => simp [intOf]; omega
                · obtain rfl : y = k := by omega
                  have HR := Lib.hid (And.intro hdi (And.intro hds hrd.row))
                  clear hdi hds hrd
                  go_wp2
                  go_roundw
                  case rel => exact ⟨b2, x + 1, d2, rfl, by go_num, by omega, HR.out⟩
                  case measure => simp [intOf]; omega
            · obtain rfl : x = k := by omega
              have HM : Hid (2 * muI x (rowG x g W2) + mB (.bool b) < 2 * muI x (rowG x g W1) + mB (.bool true)) := by
                unfold Hid
                rw [HDS2.out.row HDI2.out.len, HDS.out.row HDI.out.len]
                cases b with
                | true => have := HRD.out.1 rfl; simp only [mB]; omega
                | false => obtain ⟨e, _⟩ := HRD.out.2 rfl; rw [e]; simp [mB]
              have HQ : Hid (b = false → ∀ x' y, x' < x → y < x → betterB L off d' x' y = false) := fun hb x' y hx' hy => by
                obtain ⟨e, h⟩ := HRD.out.2 hb
                rw [e]; exact h x' y (.inl hx') hy
              go_wp2
              go_roundw
              case rel => exact ⟨b, d', rfl, HDI2.out, HDS2.out, HQ.out⟩
              case measure => exact HM.out
end Go.Proofs.YteahiphmhaedpaaGreatDoor

namespace Go.Proofs.YteahiphmhaedpaaGreatDoor
open Go.RowKit Law Go.Shelf
set_option linter.unusedVariables false
set_option linter.unusedSimpArgs false
set_option maxRecDepth 100000
attribute [local go_sem] Oper.semAt_some

def WidePost (n : Nat) (L : List Pr) (off : Nat) (w : World) (e : Ending) (w' : World) : Prop :=
  ∃ z : Int, e = .returned (.int .i64 z) ∧ (z < 0 ↔ ¬ Conn (PP n off) (EE L)) ∧ Below w.heap.size w w'
/-- How the outer loop stands. -/
structure WI (n : Nat) (L : List Pr) (off i : Nat) (z : Int) : Prop where
  lo : -1 ≤ z
  hi : z < 64
  pos : (∃ j, j < i ∧ PP n off j) → 0 ≤ z
  some_ : 0 ≤ z → ∃ j, PP n off j
  all : ∀ a, a < i → PP n off a → ∀ b, PP n off b → Rch (PP n off) (EE L) a b
theorem WI.zero (n : Nat) (L : List Pr) (off : Nat) : WI n L off 0 (-1) := ⟨by omega, by omega, fun ⟨j, h, _⟩ => by omega, fun h => by omega, fun a h => by omega⟩
theorem WI.done {n : Nat} {L : List Pr} {off : Nat} {z : Int} (h : WI n L off n z) : z < 0 ↔ ¬ Conn (PP n off) (EE L) := by
  constructor
  · rintro hz ⟨⟨j, hj⟩, _⟩
    have := h.pos ⟨j, hj.1, hj⟩
    omega
  · intro hc
    by_cases hz : z < 0
    · exact hz
    · exact absurd ⟨h.some_ (by omega), fun a b ha hb => h.all a ha.1 ha b hb⟩ hc
theorem WI.skip {n : Nat} {L : List Pr} {off i : Nat} {z : Int} (h : WI n L off i z) (hi : off.testBit i = true) : WI n L off (i + 1) z := by
  refine ⟨h.lo, h.hi, fun ⟨j, hj, hp⟩ => h.pos ⟨j, ?_, hp⟩, h.some_, fun a ha hp => h.all a ?_ hp⟩
  · by_cases e : j = i
    · subst e; exact absurd (hi.symm.trans hp.2) (by decide)
    · omega
  · by_cases e : a = i
    · subst e; exact absurd (hi.symm.trans hp.2) (by decide)
    · omega
/-- How the inner loop stands. -/
structure WJ (n : Nat) (L : List Pr) (off i j : Nat) (z : Int) : Prop where
  wi : WI n L off i z
  pos : (∃ b, b < j ∧ PP n off b) → 0 ≤ z
  all : ∀ b, b < j → PP n off b → Rch (PP n off) (EE L) i b
theorem WJ.zero {n : Nat} {L : List Pr} {off i : Nat} {z : Int} (h : WI n L off i z) : WJ n L off i 0 z := ⟨h, fun ⟨j, h, _⟩ => by omega, fun a h => by omega⟩
theorem WJ.skip {n : Nat} {L : List Pr} {off i j : Nat} {z : Int} (h : WJ n L off i j z) (hj : off.testBit j = true) : WJ n L off i (j + 1) z := by
  refine ⟨h.wi, fun ⟨b, hb, hp⟩ => h.pos ⟨b, ?_, hp⟩, fun b hb hp => h.all b ?_ hp⟩ <;>
  · by_cases e : b = j
    · subst e; exact absurd (hj.symm.trans hp.2) (by decide)
    · omega
theorem WJ.next {n : Nat} {L : List Pr} {off i j : Nat} {z z' : Int} (h : WJ n L off i j z) (hp : PP n off j) (hr : Rch (PP n off) (EE L) i j) (h0 : 0 ≤ z') (h1 : z' < 64) : WJ n L off i (j + 1) z' := by
  refine ⟨⟨by omega, h1, fun _ => h0, fun _ => ⟨j, hp⟩, h.wi.all⟩, fun _ => h0, fun b hb hpb => ?_⟩
  by_cases e : b = j
  · subst e; exact hr
  · exact h.all b (by omega) hpb
theorem WJ.done {n : Nat} {L : List Pr} {off i : Nat} {z : Int} (h : WJ n L off i n z) (hp : PP n off i) : WI n L off (i + 1) z := by
  refine ⟨h.wi.lo, h.wi.hi, fun _ => h.pos ⟨i, hp.1, hp⟩, h.wi.some_, fun a ha hpa b hb => ?_⟩
  by_cases e : a = i
  · subst e; exact h.all b hb.1 hb
  · exact h.wi.all a (by omega) hpa b hb
set_option maxHeartbeats 6400000 in
theorem rWide (n : Nat) (hn : n ≤ 64) (A : Option Addr) (l c : Nat) (L : List Pr) (hl : L.length = l) (hm : l ≤ 140737488355328) (hLB : ∀ p ∈ L, nodeB n p.1 = true ∧ nodeB n p.2 = true) (off : Nat) (ho : off < 18446744073709551616) (w : World) (hA : LinksAt w A L) :
    Calls Tryz.prog 257 #[.agg #[.int .i64 (n : Int), .slice A l c], .int .u64 (off : Int)] w (WidePost n L off w) := by
  have CH := Lib.hid (fun (k : Nat) (hk : k < 64) (r : Bool) (hr : off.testBit k = r) W => refHasB (s := off) (i := (k : Int)) (r := r) (by rw [hasB_yes off k hk]; exact hr) ho W)
  have CD := Lib.hid (fun (i : Nat) (hi : PP n off i) (W : World) (hW : Below w.heap.size w W) => rDist n hn A l c L hl hm hLB i off hi ho W (hA.below hW))
  have HX := Lib.hid (boxF_made w [.int .i64 (n : Int), .slice A l c] 118)
  have HB := Lib.hid ((Below.refl w.heap.size w).alloc (Nat.le_refl _) (.cells #[.int .i64 (n : Int), .slice A l c] 118))
  clear hl
  go_enter Tryz.func257, Tryz.ntmps257
  go_wp2
  go_loopw [5, 6] (fun z i' wr => ∃ (x : Int) (i : Nat), z = .int .i64 x ∧ i' = .int .i64 i ∧ i ≤ n ∧ WI n L off i x ∧ BoxF wr w.heap.size [.int .i64 (n : Int), .slice A l c] ∧ Below w.heap.size w wr) (fun _ i' _ => n - (intOf i').toNat)
  case atStart => exact ⟨-1, 0, rfl, rfl, Nat.zero_le _, WI.zero n L off, HX.out, HB.out⟩
  case round =>
    obtain ⟨x, i, rfl, rfl, hi, hwi, hbx, hb⟩ := hrel
    obtain ⟨W1, rfl⟩ : ∃ W1, W1 = wr := ⟨_, rfl⟩
    clear HX HB
    have b0 := hbx.1 0 _ rfl
    have b1 := hbx.1 1 _ rfl
    by_cases hin : i < n
    · cases hq : off.testBit i
      rotate_left
      · have HR := Lib.hid (And.intro (hwi.skip hq) (And.intro hbx hb))
        have C1 := Lib.hid (CH.out i (by omega) true hq)
        clear hwi hbx hb hq
        go_wp2_with fail
        refine (C1.out _).mono ?_
        rintro e w' ⟨rfl, rfl⟩
        go_wp2
        go_roundw
        case rel => exact ⟨x, i + 1, rfl, by go_num, by omega, HR.out⟩
        case measure => simp [intOf]; omega
      · have HP : Hid (PP n off i) := ⟨hin, hq⟩
        have C1 := Lib.hid (CH.out i (by omega) false hq)
        have HWI := Lib.hid hwi
        have HBX := Lib.hid hbx
        have HB := Lib.hid hb
        clear hwi hbx hb hq
        go_wp2_with fail
        refine (C1.out _).mono ?_
        rintro e w' ⟨rfl, rfl⟩
        go_wp2_with fail
        refine (CD.out i HP.out _ HB.out).mono ?_
        rintro e W2 ⟨v, d, rfl, hd, hown, hb2, hfit, hdr⟩
        obtain ⟨g, cap, rfl⟩ := Joins.ownsRow_form hown (by omega)
        have hbx2 := HBX.out.keep hb2
        have b0' := hbx2.1 0 _ rfl
        have a0 := fun (j : Nat) (hj : j < n) => (hown.cellAt j (by omega)).trans (intV_at (d := d) (by omega))
        have HA0 := Lib.hid a0
        have HFIT := Lib.hid hfit
        have HDR := Lib.hid hdr
        have HBX2 := Lib.hid hbx2
        have HB2 := Lib.hid (HB.out.trans (hb2.mono HB.out.size))
        clear b0 b1 hown a0 hfit hdr hbx2 hb2
        go_wp2
        go_loopw [5, 8] (fun z j' wr => ∃ (x : Int) (j : Nat), z = .int .i64 x ∧ j' = .int .i64 j ∧ j ≤ n ∧ WJ n L off i j x ∧ wr = W2) (fun _ j' _ => n - (intOf j').toNat)
        case atStart => exact ⟨x, 0, rfl, rfl, Nat.zero_le _, WJ.zero HWI.out, rfl⟩
        case round =>
          obtain ⟨x, j, rfl, rfl, hj, hwj, rfl⟩ := hrel
          clear HWI
          by_cases hjn : j < n
          · have a1 := HA0.out j hjn
            have fj := HFIT.out j hjn
            have dj := HDR.out j hjn
            obtain ⟨y, hy⟩ : ∃ y, gI d j = y := ⟨_, rfl⟩
            rw [hy] at a1 fj dj
            clear hy
            have HWJ := Lib.hid hwj
            have hlo := hwj.wi.lo
            have hhi := hwj.wi.hi
            have HDJ := Lib.hid dj
            clear hwj dj
            cases hq : off.testBit j
            rotate_left
            · have HR := Lib.hid (HWJ.out.skip hq)
              have C2 := Lib.hid (CH.out j (by omega) true hq)
              clear hq
              go_wp2_with fail
              refine (C2.out _).mono ?_
              rintro e w' ⟨rfl, rfl⟩
              go_wp2
              go_roundw
              case rel => exact ⟨x, j + 1, rfl, by go_num, by omega, HR.out, by trivial⟩
              case measure => simp [intOf]; omega
            · have HPJ : Hid (PP n off j) := ⟨hjn, hq⟩
              have C2 := Lib.hid (CH.out j (by omega) false hq)
              clear hq
              by_cases hy0 : y < 0
              · have HR : Hid (WidePost n L off w (.returned (.int .i64 (-1))) wr) := ⟨-1, rfl, ⟨fun _ hc => by
                  have := HDJ.out.2 (hc.2 i j HP.out HPJ.out)
                  omega, fun _ => by omega⟩, HB2.out⟩
                go_wp2_with fail
                refine (C2.out _).mono ?_
                rintro e w' ⟨rfl, rfl⟩
                go_wp2
                go_ret
                exact HR.out
              · have HRJ := Lib.hid (HDJ.out.1 (by omega))
                by_cases hyx : y > x
                · have HR := Lib.hid (HWJ.out.next HPJ.out HRJ.out (z' := y) (by omega) (by omega))
                  go_wp2_with fail
                  refine (C2.out _).mono ?_
                  rintro e w' ⟨rfl, rfl⟩
                  go_wp2
                  go_roundw
                  case rel => exact ⟨y, j + 1, rfl, by go_num, by omega, HR.out, by trivial⟩
                  case measure => simp [intOf]; omega
                · have HR := Lib.hid (HWJ.out.next HPJ.out HRJ.out (z' := x) (by omega) (by omega))
                  go_wp2_with fail
                  refine (C2.out _).mono ?_
                  rintro e w' ⟨rfl, rfl⟩
                  go_wp2
                  go_roundw
                  case rel => exact ⟨x, j + 1, rfl, by go_num, by omega, HR.out, by trivial⟩
                  case measure => simp [intOf]; omega
          · obtain rfl : j = n := by omega
            have HR := Lib.hid (And.intro (hwj.done HP.out) (And.intro HBX2.out HB2.out))
            clear hwj
            go_wp2
            go_roundw
            case rel => exact ⟨x, i + 1, rfl, by go_num, by omega, HR.out⟩
            case measure => simp [intOf]; omega
    · obtain rfl : i = n := by omega
      have HR : Hid (WidePost i L off w (.returned (.int .i64 x)) W1) := ⟨x, rfl, hwi.done, hb⟩
      clear hwi hbx hb
      go_wp2
      go_ret
      exact HR.out
theorem rCutsRef (n : Nat) (hn : n ≤ 64) (A : Option Addr) (l c : Nat) (L : List Pr) (hl : L.length = l) (hm : l ≤ 140737488355328) (hLB : ∀ p ∈ L, nodeB n p.1 = true ∧ nodeB n p.2 = true) (off : Nat) (ho : off < 18446744073709551616) (w : World) (hA : LinksAt w A L) :
    Calls Tryz.prog 184 #[.agg #[.int .i64 (n : Int), .slice A l c], .int .u64 (off : Int)] w fun e w' => e = .returned (.bool (!wholeB n (nr (nearL n L)) off)) ∧ Below w.heap.size w w' := by
  have HW := Lib.hid (whole_iff hLB hn off)
  have HB := Lib.hid ((Below.refl w.heap.size w).alloc (Nat.le_refl _) (.cells #[.int .i64 (n : Int), .slice A l c] 118))
  have C := Lib.hid (fun (W : World) (hW : Below w.heap.size w W) => rWide n hn A l c L hl hm hLB off ho W (hA.below hW))
  clear hl
  go_enter Tryz.func184, Tryz.ntmps184
  go_wp2_with fail
  refine (C.out _ HB.out).mono ?_
  rintro e W ⟨z, rfl, hz, hb⟩
  have HZ := Lib.hid hz
  have HB2 := Lib.hid (HB.out.trans (hb.mono HB.out.size))
  clear hz hb
  go_wp2
  go_ret
  refine ⟨ret_bool ?_, HB2.out⟩
  cases hq : wholeB n (nr (nearL n L)) off
  · have : z < 0 := HZ.out.2 (fun hc => by rw [HW.out.2 hc] at hq; cases hq)
    simp [this]
  · have : ¬ z < 0 := fun h => HZ.out.1 h (HW.out.1 hq)
    simp [this]
end Go.Proofs.YteahiphmhaedpaaGreatDoor

namespace Go.Proofs.YteahiphmhaedpaaGreatDoor
open Go.RowKit Law Go.Shelf
set_option linter.unusedVariables false
set_option linter.unusedSimpArgs false
set_option maxRecDepth 100000
attribute [local go_sem] Oper.semAt_some

def rowS (k s : Nat) : List Nat := (List.range s).filter fun x => (elsI x).length == k
def setsK (n K : Nat) : List Nat := (List.range K).flatMap fun k => rowS k (2 ^ n)
theorem rowS_len (k s : Nat) : (rowS k s).length ≤ s := by
  have := List.length_filter_le (fun x => (elsI x).length == k) (List.range s)
  simpa [rowS] using this
theorem rowS_yes {k s : Nat} (h : (elsI s).length = k) : rowS k (s + 1) = rowS k s ++ [s] := by
  unfold rowS; rw [List.range_succ, List.filter_append]; simp [h]
theorem rowS_no {k s : Nat} (h : (elsI s).length ≠ k) : rowS k (s + 1) = rowS k s := by
  unfold rowS; rw [List.range_succ, List.filter_append]; simp [h]
theorem setsK_succ (n K : Nat) : setsK n (K + 1) = setsK n K ++ rowS K (2 ^ n) := by
  unfold setsK; rw [List.range_succ, List.flatMap_append]; simp
theorem setsK_len (n : Nat) : ∀ K : Nat, (setsK n K).length ≤ K * 2 ^ n
  | 0 => by simp [setsK]
  | K + 1 => by
    have h1 := setsK_len n K
    have h2 := rowS_len K (2 ^ n)
    rw [setsK_succ, List.length_append, Nat.add_mul]
    omega
theorem mem_setsK {n K s : Nat} : s ∈ setsK n K ↔ s < 2 ^ n ∧ (elsI s).length < K := by
  unfold setsK rowS
  simp only [List.mem_flatMap, List.mem_range, List.mem_filter, beq_iff_eq]
  constructor
  · rintro ⟨k, hk, hs, rfl⟩; exact ⟨hs, hk⟩
  · rintro ⟨hs, hk⟩; exact ⟨_, hk, hs, rfl⟩
theorem u64V_snoc (l : List Nat) (x : Nat) : u64V (l ++ [x]) = u64V l ++ [.int .u64 (x : Int)] := by simp [u64V]
set_option maxHeartbeats 3200000 in
theorem rSets (n f : Nat) (hn : n < 9) (hf : f < 4) (w : World) :
    Calls Tryz.prog 183 #[.int .i64 (n : Int), .int .i64 (f : Int)] w fun e w' => ∃ v, e = .returned v ∧ w'.ownsRow w.heap.size 68 1 v (setsK n (min f n + 1)).length (u64V (setsK n (min f n + 1))) ∧ Below w.heap.size w w' := by
  obtain ⟨i0, hi, hz0, hz1, hz2⟩ := info_parts (show (Tryz.prog.info? 68).map (fun i => (i.zero, i.size, i.bytes)) = some (some (.int .u64 0), 1, 8) by kernel_rfl)
  have h00 := World.ownsRow_made (base := w.heap.size) (e := 68) (size := 1) w #[] 0 (Nat.le_refl _) (by simp [maxLen]) rfl
  have hb0 : Below w.heap.size w (w.alloc (.cells #[] 68)) := (Below.refl _ _).alloc (Nat.le_refl _) _
  obtain ⟨M, hM⟩ : ∃ M, min f n = M := ⟨_, rfl⟩
  have hMf : M ≤ f := by omega
  have hMn : M ≤ n := by omega
  have hMx : f ≤ M ∨ n ≤ M := by omega
  have hp2 : 2 ^ n ≤ 256 := Nat.pow_le_pow_right (n := 2) (j := 8) (by decide) (by omega)
  have hp1 := Nat.two_pow_pos n
  have hsh : IntKind.u64.wrap (2 ^ n) = ((2 ^ n : Nat) : Int) := by
    have : ((2 ^ n : Nat) : Int) = (2 : Int) ^ n := by simp
    rw [← this, IntKind.wrap_u64]; omega
  obtain ⟨P, hP⟩ : ∃ P, 2 ^ n = P := ⟨_, rfl⟩
  rw [hP] at hsh hp2 hp1
  have HP := Lib.hid hP
  clear hP
  rw [hM]
  go_enter Tryz.func183, Tryz.ntmps183
  go_wp2
  go_loopw [5, 6] (fun v i wr => ∃ k : Nat, k ≤ M + 1 ∧ i = .int .i64 k ∧ wr.ownsRow w.heap.size 68 1 v (setsK n k).length (u64V (setsK n k)) ∧ Below w.heap.size w wr) (fun _ i _ => M + 1 - (intOf i).toNat)
  case atStart => exact ⟨0, Nat.zero_le _, rfl, h00, hb0⟩
  case round =>
    obtain ⟨k, hk, rfl, hown, hb⟩ := hrel
    obtain ⟨W1, rfl⟩ : ∃ W1, W1 = wr := ⟨_, rfl⟩
    clear h00 hb0
    by_cases hlt : k ≤ M
    · have h1 : k ≤ f := by omega
      have h2 : k ≤ n := by omega
      have HOWN := Lib.hid hown
      have HB := Lib.hid hb
      clear hown hb
      go_wp2
      go_loopw [5, 7] (fun v s wr => ∃ x : Nat, x ≤ P ∧ s = .int .u64 x ∧ wr.ownsRow w.heap.size 68 1 v (setsK n k ++ rowS k x).length (u64V (setsK n k ++ rowS k x)) ∧ Below w.heap.size w wr) (fun _ s _ => P - (intOf s).toNat)
      case atStart => exact ⟨0, Nat.zero_le _, rfl, by simpa [rowS] using HOWN.out, HB.out⟩
      case round =>
        obtain ⟨x, hx, rfl, hown, hb⟩ := hrel
        obtain ⟨W2, rfl⟩ : ∃ W2, W2 = wr := ⟨_, rfl⟩
        clear HOWN HB
        by_cases hxl : x < P
        · have C := Lib.hid (fun W => refList x (by omega) W)
          have hk2 : k < 8 := by omega
          have HOWN := Lib.hid hown
          have HB := Lib.hid hb
          have HLEN : Hid ((setsK n k ++ rowS k x).length ≤ 8 * 256 + 256) := by
            unfold Hid
            rw [List.length_append]
            have h1 := setsK_len n k
            rw [HP.out] at h1
            have h2 := rowS_len k x
            have h3 : k * P ≤ 8 * 256 := Nat.mul_le_mul (by omega) hp2
            omega
          clear hown hb
          go_wp2_with fail
          refine (C.out _).mono ?_
          rintro e W3 ⟨v', rfl, hown3, hb3⟩
          obtain ⟨A, c, rfl, hc⟩ := own_form hown3
          have HB3 := Lib.hid (HB.out.trans (hb3.mono HB.out.size))
          have HOWN3 := Lib.hid (own_below HOWN.out hb3)
          have hsz := HB3.out.size
          clear hown3 hb3
          obtain ⟨ln, hln⟩ : ∃ ln, (elsI x).length = ln := ⟨_, rfl⟩
          have HLN := Lib.hid hln
          rw [hln]
          clear hln hc
          by_cases hlk : ln = k
          · have HS := Lib.hid (rowS_yes (k := k) (s := x) (HLN.out.trans hlk))
            have hown := HOWN3.out
            have hlen := HLEN.out
            obtain ⟨lx, hlx⟩ : ∃ lx, (setsK n k ++ rowS k x).length = lx := ⟨_, rfl⟩
            rw [hlx] at hown hlen
            obtain ⟨A5, c5, rfl, hc5⟩ := own_form2 hown
            subst hlk
            go_wp2_with (at_builtin; refine wpList_append_own _ rfl _ _ 279 rfl w.heap.size 68 i0 (.int .u64 0) 1 8 Tryz.underlying279 hi hz0 hz1 hz2 rfl (by decide) _ _ _ rfl (hown.alloc _) ⟨W3.heap.size, 0, none⟩ 1 1 [.int .u64 (x : Int)] rfl rfl ?c1 ?c2 ?c3 ?c4 ?c5 ?_)
            case c1 =>
              intro j u hj
              match j, hj with
              | 0, hj => simp at hj; subst hj; simp [Addr.add]
            case c2 => intro u hu; simp at hu; subst hu; rfl
            case c3 => unfold maxLen; omega
            case c4 => omega
            case c5 => simp; omega
            intro v2 w1 hown' hgrow _
            have hb4 : Below w.heap.size w w1 := (HB3.out.alloc HB3.out.size _).grown hgrow (by simp; omega) (fun j hj => (hown.lt j hj).1)
            have hown2 : w1.ownsRow w.heap.size 68 1 v2 (setsK n ln ++ rowS ln (x + 1)).length (u64V (setsK n ln ++ rowS ln (x + 1))) := by
              rw [HS.out, ← List.append_assoc, u64V_snoc, List.length_append, hlx]
              simpa [u64V] using hown'
            have HR := Lib.hid (And.intro hown2 hb4)
            clear hown2 hb4 hown' hgrow hown
            go_wp2
            go_roundw
            case rel => exact ⟨x + 1, by omega, by go_num, HR.out⟩
            case measure => simp [intOf]; omega
          · have HS := Lib.hid (rowS_no (k := k) (s := x) (by rw [HLN.out]; exact hlk))
            go_wp2
            go_roundw
            case rel => exact ⟨x + 1, by omega, by go_num, by rw [HS.out]; exact HOWN3.out, HB3.out⟩
            case measure => simp [intOf]; omega
        · have hx2 : x = P := by omega
          have HE : Hid (setsK n k ++ rowS k x = setsK n (k + 1)) := by unfold Hid; rw [setsK_succ, hx2, HP.out]
          rw [HE.out] at hown
          have HR := Lib.hid hown
          have HB := Lib.hid hb
          clear hown hb
          go_wp2
          all_goals
            go_roundw
            case rel => exact ⟨k + 1, by omega, by go_num, HR.out, HB.out⟩
            case measure => simp [intOf]; omega
    · obtain rfl : k = M + 1 := by omega
      have HR := Lib.hid (And.intro hown hb)
      clear hown hb
      by_cases hMf' : M + 1 ≤ f
      · have hnM : ¬ M + 1 ≤ n := by omega
        go_wp2
        go_ret
        exact ⟨_, rfl, HR.out⟩
      · go_wp2
        go_ret
        exact ⟨_, rfl, HR.out⟩
theorem mem_sets : ∀ n : Nat, n < 9 → ∀ f : Nat, f < 4 → ∀ s : Nat, s < 2 ^ n → (listN n f).contains s = decide ((elsI s).length < min f n + 1) := by decide +kernel
theorem any_same {α : Type} {l m : List α} (h : ∀ x, x ∈ l ↔ x ∈ m) (p : α → Bool) : l.any p = m.any p := by
  rw [Bool.eq_iff_iff, List.any_eq_true, List.any_eq_true]
  exact ⟨fun ⟨x, hx, hp⟩ => ⟨x, (h x).1 hx, hp⟩, fun ⟨x, hx, hp⟩ => ⟨x, (h x).2 hx, hp⟩⟩
theorem hasCut_sets {n f : Nat} (hn : n < 9) (hf : f < 4) (near : Nat → Nat) : hasCut n near f = (setsK n (min f n + 1)).any fun s => !wholeB n near s := by
  unfold hasCut
  refine any_same (fun s => ?_) _
  rw [mem_setsK]
  constructor
  · intro h
    have hlt := list_lt n hn f hf s h
    have := mem_sets n hn f hf s hlt
    rw [List.contains_iff_mem.2 h] at this
    exact ⟨hlt, by simpa using this.symm⟩
  · rintro ⟨h1, h2⟩
    have := mem_sets n hn f hf s h1
    rw [decide_eq_true h2] at this
    exact List.contains_iff_mem.1 this
end Go.Proofs.YteahiphmhaedpaaGreatDoor

namespace Go.Proofs.YteahiphmhaedpaaGreatDoor
open Go.RowKit Law Go.Shelf
set_option linter.unusedVariables false
set_option linter.unusedSimpArgs false
set_option maxRecDepth 100000
attribute [local go_sem] Oper.semAt_some

theorem u64V_at {l : List Nat} {j : Nat} (hj : j < l.length) : (u64V l)[j]? = some (.int .u64 (l[j] : Int)) := by
  simp [u64V, hj]
set_option maxHeartbeats 6400000 in
theorem rFirstCut (n : Nat) (f : Nat) (hn : n < 9) (hf : f < 4) (A : Option Addr) (l c : Nat) (L : List Pr) (hl : L.length = l) (hm : l ≤ 140737488355328) (hLB : ∀ p ∈ L, nodeB n p.1 = true ∧ nodeB n p.2 = true) (w : World) (hA : LinksAt w A L) :
    Calls Tryz.prog 123 #[.agg #[.int .i64 (n : Int), .slice A l c], .int .i64 (f : Int)] w fun e w' => (∃ x : Nat, e = .returned (.tuple #[.int .u64 (x : Int), .bool (hasCut n (nr (nearL n L)) f)])) ∧ Below w.heap.size w w' := by
  have HH := Lib.hid (hasCut_sets hn hf (nr (nearL n L)))
  have hp2 : 2 ^ n ≤ 256 := Nat.pow_le_pow_right (n := 2) (j := 8) (by decide) (by omega)
  have hpos : 0 < (setsK n (min f n + 1)).length := List.length_pos_of_mem (mem_setsK.2 ⟨Nat.two_pow_pos n, by show (elsI 0).length < _; rw [show (elsI 0).length = 0 by decide]; omega⟩)
  have hlen : (setsK n (min f n + 1)).length ≤ 9 * 256 := Nat.le_trans (setsK_len _ _) (Nat.mul_le_mul (by omega) hp2)
  have hmem : ∀ s ∈ setsK n (min f n + 1), s < 18446744073709551616 := fun s hs => by have := (mem_setsK.1 hs).1; omega
  have CS := Lib.hid (fun W => rSets n f hn hf W)
  obtain ⟨SL, hSL⟩ : ∃ SL, setsK n (min f n + 1) = SL := ⟨_, rfl⟩
  rw [hSL] at HH hpos hlen hmem CS
  have HM := Lib.hid hmem
  have CC := Lib.hid (fun (s : Nat) (hs : s < 18446744073709551616) (W : World) (hW : Below w.heap.size w W) => rCutsRef n (by omega) A l c L hl hm hLB s hs W (hA.below hW))
  generalize hasCut n (nr (nearL n L)) f = HC at *
  have HX := Lib.hid (boxF_made w [.int .i64 (n : Int), .slice A l c] 118)
  have HB := Lib.hid ((Below.refl w.heap.size w).alloc (Nat.le_refl _) (.cells #[.int .i64 (n : Int), .slice A l c] 118))
  clear hl hmem hSL hp2
  go_enter Tryz.func123, Tryz.ntmps123
  go_wp2_with fail
  refine (CS.out _).mono ?_
  rintro e W0 ⟨v, rfl, hown, hb⟩
  obtain ⟨g, cap, rfl⟩ := Joins.ownsRow_form hown hpos
  have HOWN := Lib.hid hown
  have HBX := Lib.hid (HX.out.keep hb)
  have HB2 := Lib.hid (HB.out.trans (hb.mono HB.out.size))
  clear hown hb HB HX
  obtain ⟨ll, hll⟩ : ∃ ll, SL.length = ll := ⟨_, rfl⟩
  rw [hll] at hpos hlen HOWN ⊢
  have HLL := Lib.hid hll
  clear hll
  go_wp2
  go_loopw [7] (fun i wr => ∃ k : Nat, k ≤ ll ∧ i = .int .i64 k ∧ (∀ j s, j < k → SL[j]? = some s → wholeB n (nr (nearL n L)) s = true) ∧ BoxF wr w.heap.size [.int .i64 (n : Int), .slice A l c] ∧ wr.ownsRow (w.heap.size + 1) 68 1 (.slice (some ⟨g, 0, none⟩) ll cap) ll (u64V SL) ∧ Below w.heap.size w wr) (fun i _ => ll - (intOf i).toNat)
  case atStart => exact ⟨0, Nat.zero_le _, rfl, fun j s h => absurd h (Nat.not_lt_zero _), HBX.out, by simpa using HOWN.out, HB2.out⟩
  case round =>
    obtain ⟨k, hk, rfl, hno, hbx, hown, hb⟩ := hrel
    obtain ⟨W1, rfl⟩ : ∃ W1, W1 = wr := ⟨_, rfl⟩
    clear HBX HB2 HOWN
    by_cases hlt : k < ll
    · have hkl : k < SL.length := by rw [HLL.out]; exact hlt
      have b0 := fun U : Later W1 => (hbx.keep U.h).1 0 _ rfl
      have b1 := fun U : Later W1 => (hbx.keep U.h).1 1 _ rfl
      have a0 := fun U : Later W1 => ((own_below hown U.h).cellAt k (by omega)).trans (u64V_at hkl)
      have hs := HM.out _ (List.getElem_mem hkl)
      have CN := Lib.hid (fun U : Later W1 => CC.out SL[k] hs U.val (hb.trans (U.h.mono hb.size)))
      have HNO := Lib.hid (fun (h : wholeB n (nr (nearL n L)) SL[k] = true) j s (hj : j < k + 1) (hjs : SL[j]? = some s) => show wholeB n (nr (nearL n L)) s = true from by
        by_cases e : j = k
        · subst e
          rw [List.getElem?_eq_getElem hkl] at hjs
          injection hjs with hjs
          rw [← hjs]; exact h
        · exact hno j s (by omega) hjs)
      have HYES := Lib.hid (fun (h : wholeB n (nr (nearL n L)) SL[k] = false) => show HC = true from by
        rw [HH.out, List.any_eq_true]
        exact ⟨_, List.getElem_mem hkl, by rw [h]; rfl⟩)
      have HBX := Lib.hid hbx
      have HOWN := Lib.hid hown
      have HB := Lib.hid hb
      obtain ⟨s, hsk⟩ : ∃ s, SL[k] = s := ⟨_, rfl⟩
      rw [hsk] at hs CN HNO HYES
      simp only [hsk] at a0
      clear hno hbx hown hb hsk
      cases hq : wholeB n (nr (nearL n L)) s
      · rw [hq] at CN
        have HZ := Lib.hid (HYES.out hq)
        clear HNO HYES hq
        go_wp2
        refine wp_region_later (by kernel_rfl) (by kernel_rfl) ?_
        repeat (go_big_quiet_step (exact later_of (CN.out _)))
        refine wpQuiet_nil ?_
        rintro W4 ⟨⟨W4_, hb4⟩, rfl⟩
        try dsimp only
        have a0' := a0 ⟨W4, hb4⟩
        have HB4 := Lib.hid (HB.out.trans (hb4.mono HB.out.size))
        clear a0 b0 b1
        go_wp2
        refine bodyPost_ret (v := .tuple #[.int .u64 (s : Int), .bool true]) (by simp [results, Tryz.results123, go_sem]) rfl ?_
        exact ⟨⟨s, by rw [HZ.out]⟩, HB4.out⟩
      · rw [hq] at CN
        have HZ := Lib.hid (HNO.out hq)
        clear HNO HYES hq
        go_wp2
        refine wp_region_later (by kernel_rfl) (by kernel_rfl) ?_
        repeat (go_big_quiet_step (exact later_of (CN.out _)))
        refine wpQuiet_nil ?_
        rintro W4 ⟨⟨W4_, hb4⟩, rfl⟩
        try dsimp only
        have HR := Lib.hid (And.intro (HBX.out.keep hb4) (And.intro (own_below HOWN.out hb4) (HB.out.trans (hb4.mono HB.out.size))))
        clear a0 b0 b1
        go_wp2
        go_roundw
        case rel => exact ⟨k + 1, by omega, by go_num, HZ.out, HR.out⟩
        case measure => simp [intOf]; omega
    · obtain rfl : k = ll := by omega
      have HZ : Hid (HC = false) := by
        unfold Hid
        rw [HH.out, List.any_eq_false]
        intro s hs
        obtain ⟨j, hj, rfl⟩ := List.getElem_of_mem hs
        rw [hno j _ (by rw [← HLL.out]; exact hj) (List.getElem?_eq_getElem hj)]
        decide
      have HB := Lib.hid hb
      clear hno hbx hown hb
      go_wp2
      refine bodyPost_ret (v := .tuple #[.int .u64 0, .bool false]) (by simp [results, Tryz.results123, go_sem]) rfl ?_
      exact ⟨⟨0, by rw [HZ.out]; rfl⟩, HB.out⟩
set_option maxHeartbeats 1600000 in
theorem rSafeRef (n : Nat) (f : Int) (hn : n < 9) (A : Option Addr) (l c : Nat) (L : List Pr) (hl : L.length = l) (hm : l ≤ 140737488355328) (hLB : ∀ p ∈ L, nodeB n p.1 = true ∧ nodeB n p.2 = true) (w : World) (hA : LinksAt w A L) :
    Calls Tryz.prog 54 #[.agg #[.int .i64 (n : Int), .slice A l c], .int .i64 f] w fun e w' => e = .returned (.bool (safeB n (nr (nearL n L)) f)) ∧ Below w.heap.size w w' := by
  have HS : Hid (safeB n (nr (nearL n L)) f = (decide (0 ≤ f) && (decide (f ≤ 3) && (decide (f < n) && !hasCut n (nr (nearL n L)) f.toNat)))) := rfl
  have HB := Lib.hid ((Below.refl w.heap.size w).alloc (Nat.le_refl _) (.cells #[.int .i64 (n : Int), .slice A l c] 118))
  by_cases h0 : f < 0
  · have HX : Hid (safeB n (nr (nearL n L)) f = false) := by unfold Hid; rw [HS.out, decide_eq_false (by omega)]; rfl
    go_enter Tryz.func54, Tryz.ntmps54
    go_wp2
    go_ret
    exact ⟨ret_bool HX.out.symm, HB.out⟩
  by_cases h3 : f > 3
  · have HX : Hid (safeB n (nr (nearL n L)) f = false) := by unfold Hid; rw [HS.out, decide_eq_false (p := f ≤ 3) (by omega)]; simp
    go_enter Tryz.func54, Tryz.ntmps54
    go_wp2
    go_ret
    exact ⟨ret_bool HX.out.symm, HB.out⟩
  obtain ⟨k, rfl⟩ : ∃ k : Nat, f = k := ⟨f.toNat, by omega⟩
  by_cases hn' : n ≤ k
  · have HX : Hid (safeB n (nr (nearL n L)) (k : Int) = false) := by unfold Hid; rw [HS.out, decide_eq_false (p := (k : Int) < n) (by omega)]; simp
    go_enter Tryz.func54, Tryz.ntmps54
    go_wp2
    go_ret
    exact ⟨ret_bool HX.out.symm, HB.out⟩
  · have HX : Hid (safeB n (nr (nearL n L)) (k : Int) = !hasCut n (nr (nearL n L)) k) := by
      unfold Hid
      rw [HS.out, decide_eq_true (p := (0 : Int) ≤ k) (by omega), decide_eq_true (p := (k : Int) ≤ 3) (by omega), decide_eq_true (p := (k : Int) < n) (by omega), Int.toNat_natCast]
      simp
    have C := Lib.hid (fun (W : World) (hW : Below w.heap.size w W) => rFirstCut n k hn (by omega) A l c L hl hm hLB W (hA.below hW))
    generalize hasCut n (nr (nearL n L)) k = HC at *
    go_enter Tryz.func54, Tryz.ntmps54
    go_wp2_with fail
    refine (C.out _ HB.out).mono ?_
    rintro e W ⟨⟨x, rfl⟩, hb⟩
    have HB2 := Lib.hid (HB.out.trans (hb.mono HB.out.size))
    clear hb
    go_wp2
    go_ret
    exact ⟨ret_bool HX.out.symm, HB2.out⟩
end Go.Proofs.YteahiphmhaedpaaGreatDoor
