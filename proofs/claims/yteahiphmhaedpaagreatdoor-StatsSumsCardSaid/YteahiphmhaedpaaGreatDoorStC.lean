/- stats.Of: a cluster's numbers, where nothing was sent. -/
import Derived.Test.YteahiphmhaedpaaGreatDoorStB
import Derived.Test.YteahiphmhaedpaaGreatDoorNdP
import Derived.Test.YteahiphmhaedpaaGreatDoorBase
import Derived.Deep.MidRow
namespace Go.Proofs.YteahiphmhaedpaaGreatDoor
open Go.RowKit Law
set_option linter.unusedVariables false
set_option linter.unusedSimpArgs false
set_option maxRecDepth 100000

/-- What stats.Of asks. -/
structure StIn (w : World) (wv lv : Value) (t : Int) (m : Nat) (c1 c2 c4 c6 : Int) : Prop where
  now : ∀ W, Below w.heap.size w W → Calls Tryz.prog 30 #[wv] W fun e w' => e = .returned (.int .i64 t) ∧ W = w'
  sent : ∀ W, Below w.heap.size w W → Calls Tryz.prog 31 #[wv] W fun e w' => e = .returned (.slice none 0 0) ∧ W = w'
  lost : ∀ W, Below w.heap.size w W → Calls Tryz.prog 32 #[wv] W fun e w' => e = .returned (.int .i64 0) ∧ W = w'
  unf : ∀ W, Below w.heap.size w W → Calls Tryz.prog 33 #[wv] W fun e w' => e = .returned (.int .i64 0) ∧ W = w'
  n : ∀ W, Below w.heap.size w W → Calls Tryz.prog 35 #[wv] W fun e w' => e = .returned (.int .i64 (m : Int)) ∧ W = w'
  up : ∀ i : Nat, i < m → ∀ W, Below w.heap.size w W → Calls Tryz.prog 36 #[wv, .int .i64 (i : Int)] W fun e w' => e = .returned (.bool true) ∧ W = w'
  ph : ∀ i : Nat, i < m → ∀ W, Below w.heap.size w W → Calls Tryz.prog 37 #[wv, .int .i64 (i : Int)] W fun e w' => e = .returned (.int .i64 2) ∧ W = w'
  mem : ∀ i : Nat, i < m → ∀ W, Below w.heap.size w W → Calls Tryz.prog 38 #[wv, .int .i64 (i : Int)] W fun e w' => e = .returned (.bool true) ∧ W = w'
  ref : ∀ e : Nat, e < 20 → ∀ W, Below w.heap.size w W → Calls Tryz.prog 39 #[wv, .int .i64 (e : Int)] W fun e w' => e = .returned (.int .i64 0) ∧ W = w'
  cn1 : ∀ W, Below w.heap.size w W → Calls Tryz.prog 40 #[lv, .int .i64 1] W fun e w' => e = .returned (.int .i64 c1) ∧ Below W.heap.size W w'
  cn2 : ∀ W, Below w.heap.size w W → Calls Tryz.prog 40 #[lv, .int .i64 2] W fun e w' => e = .returned (.int .i64 c2) ∧ Below W.heap.size W w'
  cn4 : ∀ W, Below w.heap.size w W → Calls Tryz.prog 40 #[lv, .int .i64 4] W fun e w' => e = .returned (.int .i64 c4) ∧ Below W.heap.size W w'
  cn6 : ∀ W, Below w.heap.size w W → Calls Tryz.prog 40 #[lv, .int .i64 6] W fun e w' => e = .returned (.int .i64 c6) ∧ Below W.heap.size W w'
def stL (t : Int) (m : Int) (a b c d : Int) : List Value := [.int .i64 t, .int .i64 m, .int .i64 m, .int .i64 m, .int .i64 0, .int .i64 a, .int .i64 b, .int .i64 c, .int .i64 d, .int .i64 0, .int .i64 0, .int .i64 0, .int .i64 0, .int .i64 0, .int .i64 0, .int .i64 0, .int .i64 0, .int .i64 0, .int .i64 0, .int .i64 0, .int .i64 0, .int .i64 0, .int .i64 0, .int .i64 0, .int .i64 0, .int .i64 0, .int .i64 0, .int .i64 0, .int .i64 0, .int .i64 0, .int .i64 0, .int .i64 0]
def StPost (t : Int) (m : Nat) (c1 c2 c4 c6 : Int) (w : World) (e : Ending) (w' : World) : Prop := e = .returned (.agg (stL t m c1 c2 c4 c6).toArray) ∧ Below w.heap.size w w'
theorem st_one {t m a b c d : Int} : ∀ v ∈ stL t m a b c d, v.oneCell' = true := by
  intro v hv
  simp [stL] at hv
  rcases hv with rfl | rfl | rfl | rfl | rfl | rfl | rfl | rfl <;> rfl
theorem st_one2 {t : Int} : ∀ v ∈ ([.int .i64 t, .int .i64 0, .int .i64 0, .int .i64 0, .int .i64 0, .int .i64 0, .int .i64 0, .int .i64 0, .int .i64 0, .int .i64 0, .int .i64 0, .int .i64 0, .int .i64 0, .int .i64 0, .int .i64 0, .int .i64 0, .int .i64 0, .int .i64 0, .int .i64 0, .int .i64 0, .int .i64 0, .int .i64 0, .int .i64 0, .int .i64 0, .int .i64 0, .int .i64 0, .int .i64 0, .int .i64 0, .int .i64 0, .int .i64 0, .int .i64 0, .int .i64 0] : List Value), v.oneCell' = true := by
  intro v hv
  simp at hv
  rcases hv with rfl | rfl <;> rfl
theorem st_one3 {t j c1 c2 c4 c6 : Int} : ∀ v ∈ ([.int .i64 t, .int .i64 j, .int .i64 j, .int .i64 j, .int .i64 0, .int .i64 c1, .int .i64 c2, .int .i64 c4, .int .i64 c6, .int .i64 0, .int .i64 0, .int .i64 0, .int .i64 0, .int .i64 0, .int .i64 0, .int .i64 0, .int .i64 0, .int .i64 0, .int .i64 0, .int .i64 0, .int .i64 0, .int .i64 0, .int .i64 0, .int .i64 0, .int .i64 0, .int .i64 0, .int .i64 0, .int .i64 0, .int .i64 0, .int .i64 0, .int .i64 0, .int .i64 0] : List Value), v.oneCell' = true := st_one (t := t) (m := j) (a := c1) (b := c2) (c := c4) (d := c6)
theorem World.rangeAt_of {w : World} {b : Nat} {cs : List Value} (h : BoxF w b cs) : w.rangeAt b 0 cs := fun j v hj => by rw [Nat.zero_add]; exact h.1 j v hj
theorem st_info : (Tryz.prog.info? 25).map (·.size) = some 32 := by kernel_rfl
theorem zer_set {k : Nat} {L : List Value} (h : L[k]? = some (.int .i64 0)) : L.set k (.int .i64 0) = L := by
  have hkl : k < L.length := (List.getElem?_eq_some_iff.1 h).1
  apply List.ext_getElem?
  intro j
  by_cases e : j = k
  · subst e; rw [List.getElem?_set_self hkl, h]
  · rw [List.getElem?_set_ne (Ne.symm e)]
theorem st_by (t m : Int) {e : Nat} (h : e < 20) : ([.int .i64 t, .int .i64 m, .int .i64 m, .int .i64 m, .int .i64 0, .int .i64 0, .int .i64 0, .int .i64 0, .int .i64 0, .int .i64 0, .int .i64 0, .int .i64 0, .int .i64 0, .int .i64 0, .int .i64 0, .int .i64 0, .int .i64 0, .int .i64 0, .int .i64 0, .int .i64 0, .int .i64 0, .int .i64 0, .int .i64 0, .int .i64 0, .int .i64 0, .int .i64 0, .int .i64 0, .int .i64 0, .int .i64 0, .int .i64 0, .int .i64 0, .int .i64 0] : List Value)[12 + e]? = some (.int .i64 0) := by
  have : e = 0 ∨ e = 1 ∨ e = 2 ∨ e = 3 ∨ e = 4 ∨ e = 5 ∨ e = 6 ∨ e = 7 ∨ e = 8 ∨ e = 9 ∨ e = 10 ∨ e = 11 ∨ e = 12 ∨ e = 13 ∨ e = 14 ∨ e = 15 ∨ e = 16 ∨ e = 17 ∨ e = 18 ∨ e = 19 := by omega
  rcases this with rfl | rfl | rfl | rfl | rfl | rfl | rfl | rfl | rfl | rfl | rfl | rfl | rfl | rfl | rfl | rfl | rfl | rfl | rfl | rfl <;> rfl
theorem frB_below {N b : Nat} {w w' : World} (F : FrB b w w') (h : N ≤ b) (hN : N ≤ w.heap.size) : Below N w w' := ⟨F.os, F.tape, F.output, F.size, fun k hk => F.block k (by omega) (by omega)⟩
/-- A store of a whole struct into a block of one's own. -/
theorem wp_boxStore {ops : Array Oper} {rest : List Oper} {op : Oper} {a : Act} {w : World} {Q : Exit → Act → World → Prop} (hgd : op.guard = none) (T : TypeId) (x y : Operand) (ho : op.op = .store T x y)
    (b : Nat) (cs vs : List Value) (hx : a.eval x = .pointer (some ⟨b, 0, none⟩)) (hy : a.eval y = .agg vs.toArray) (h : BoxF w b cs) (hl : vs.length = cs.length) (hi : (Tryz.prog.info? T).map (·.size) = some vs.length) (h1 : ∀ v ∈ vs, v.oneCell' = true)
    (hk : ∀ w', BoxF w' b vs → w'.heap.size = w.heap.size → FrB b w w' → wpList Tryz.prog ops Q rest (a.put op.dst undef) w') : wpList Tryz.prog ops Q (op :: rest) a w := by
  have hth : w.there b 0 vs.toArray.size := fun j hj => by
    have hj' : j < cs.length := by rw [← hl]; simpa using hj
    rw [Nat.zero_add]
    exact ⟨by rw [h.1 j cs[j] (List.getElem?_eq_getElem hj')]; rfl, h.2 j hj'⟩
  refine wpList_store_mid hgd T x y ho b 0 vs.toArray hx hy hth (by simpa using hi) (all_oneCell_toArray h1) ?_
  have k := BoxF.puts vs 0 h (by omega)
  have hp : putL cs 0 vs = vs := by
    have : ∀ (vs cs pre : List Value), vs.length = cs.length → putL (pre ++ cs) pre.length vs = pre ++ vs := by
      intro vs
      induction vs with
      | nil => intro cs pre hl; cases cs with
        | nil => rfl
        | cons c r => simp at hl
      | cons v r ih => intro cs pre hl; cases cs with
        | nil => simp at hl
        | cons c s =>
          unfold putL
          rw [List.set_append_right _ _ (Nat.le_refl _), Nat.sub_self, List.set_cons_zero]
          have := ih s (pre ++ [v]) (by simpa using hl)
          simpa using this
    exact this vs cs [] hl
  rw [hp] at k
  exact hk _ k (setCells_size vs w 0) (setCells_fr vs w 0)
set_option maxHeartbeats 12800000 in
theorem statsOf {w : World} {wv lv : Value} {t : Int} {m : Nat} {c1 c2 c4 c6 : Int} (h : StIn w wv lv t m c1 c2 c4 c6) (hm : m ≤ 64) : Calls Tryz.prog 10 #[wv, lv] w (StPost t m c1 c2 c4 c6 w) := by
  have HI := Lib.hid h
  clear h
  have b1 := (Below.refl w.heap.size w).alloc (Nat.le_refl _) (.cells #[.int .i64 0, .int .i64 0, .int .i64 0, .int .i64 0, .int .i64 0, .int .i64 0, .int .i64 0, .int .i64 0, .int .i64 0, .int .i64 0, .int .i64 0, .int .i64 0, .int .i64 0, .int .i64 0, .int .i64 0, .int .i64 0, .int .i64 0, .int .i64 0, .int .i64 0, .int .i64 0, .int .i64 0, .int .i64 0, .int .i64 0, .int .i64 0, .int .i64 0, .int .i64 0, .int .i64 0, .int .i64 0, .int .i64 0, .int .i64 0, .int .i64 0, .int .i64 0] 25)
  have k1 := boxF_made w [.int .i64 0, .int .i64 0, .int .i64 0, .int .i64 0, .int .i64 0, .int .i64 0, .int .i64 0, .int .i64 0, .int .i64 0, .int .i64 0, .int .i64 0, .int .i64 0, .int .i64 0, .int .i64 0, .int .i64 0, .int .i64 0, .int .i64 0, .int .i64 0, .int .i64 0, .int .i64 0, .int .i64 0, .int .i64 0, .int .i64 0, .int .i64 0, .int .i64 0, .int .i64 0, .int .i64 0, .int .i64 0, .int .i64 0, .int .i64 0, .int .i64 0, .int .i64 0] 25
  obtain ⟨w1, hw1⟩ : ∃ w1, w.alloc (.cells #[.int .i64 0, .int .i64 0, .int .i64 0, .int .i64 0, .int .i64 0, .int .i64 0, .int .i64 0, .int .i64 0, .int .i64 0, .int .i64 0, .int .i64 0, .int .i64 0, .int .i64 0, .int .i64 0, .int .i64 0, .int .i64 0, .int .i64 0, .int .i64 0, .int .i64 0, .int .i64 0, .int .i64 0, .int .i64 0, .int .i64 0, .int .i64 0, .int .i64 0, .int .i64 0, .int .i64 0, .int .i64 0, .int .i64 0, .int .i64 0, .int .i64 0, .int .i64 0] 25) = w1 := ⟨_, rfl⟩
  have s1 : w1.heap.size = w.heap.size + 1 := by rw [← hw1]; simp
  rw [hw1] at b1
  replace k1 : BoxF w1 w.heap.size [.int .i64 0, .int .i64 0, .int .i64 0, .int .i64 0, .int .i64 0, .int .i64 0, .int .i64 0, .int .i64 0, .int .i64 0, .int .i64 0, .int .i64 0, .int .i64 0, .int .i64 0, .int .i64 0, .int .i64 0, .int .i64 0, .int .i64 0, .int .i64 0, .int .i64 0, .int .i64 0, .int .i64 0, .int .i64 0, .int .i64 0, .int .i64 0, .int .i64 0, .int .i64 0, .int .i64 0, .int .i64 0, .int .i64 0, .int .i64 0, .int .i64 0, .int .i64 0] := hw1 ▸ k1
  have b2 := (Below.refl w1.heap.size w1).alloc (Nat.le_refl _) (.cells #[.int .i64 0, .int .i64 0, .int .i64 0, .int .i64 0, .int .i64 0, .int .i64 0, .int .i64 0, .int .i64 0, .int .i64 0, .int .i64 0, .int .i64 0, .int .i64 0, .int .i64 0, .int .i64 0, .int .i64 0, .int .i64 0, .int .i64 0, .int .i64 0, .int .i64 0, .int .i64 0, .int .i64 0, .int .i64 0, .int .i64 0, .int .i64 0, .int .i64 0, .int .i64 0, .int .i64 0, .int .i64 0, .int .i64 0, .int .i64 0, .int .i64 0, .int .i64 0] 25)
  have HZ2 := Lib.hid (boxF_made w1 [.int .i64 0, .int .i64 0, .int .i64 0, .int .i64 0, .int .i64 0, .int .i64 0, .int .i64 0, .int .i64 0, .int .i64 0, .int .i64 0, .int .i64 0, .int .i64 0, .int .i64 0, .int .i64 0, .int .i64 0, .int .i64 0, .int .i64 0, .int .i64 0, .int .i64 0, .int .i64 0, .int .i64 0, .int .i64 0, .int .i64 0, .int .i64 0, .int .i64 0, .int .i64 0, .int .i64 0, .int .i64 0, .int .i64 0, .int .i64 0, .int .i64 0, .int .i64 0] 25)
  have HB1 := Lib.hid (And.intro b1 (And.intro b2 (k1.keep b2)))
  have HN : Hid (w.heap.size ≠ w1.heap.size ∧ w.heap.size ≤ w1.heap.size) := ⟨by omega, by omega⟩
  clear b1 k1 b2 s1
  go_enter Tryz.func10, Tryz.ntmps10
  go_wp2_with fail
  refine (HI.out.now w1 HB1.out.1).mono ?_
  rintro e w' ⟨rfl, rfl⟩
  go_wp2_with fail
  refine (HI.out.sent w1 HB1.out.1).mono ?_
  rintro e w' ⟨rfl, rfl⟩
  go_wp2_with fail
  refine (HI.out.lost w1 HB1.out.1).mono ?_
  rintro e w' ⟨rfl, rfl⟩
  go_wp2_with fail
  refine (HI.out.unf w1 HB1.out.1).mono ?_
  rintro e w' ⟨rfl, rfl⟩
  go_wp2_with (refine wp_boxStore rfl 25 _ _ rfl w1.heap.size [.int .i64 0, .int .i64 0, .int .i64 0, .int .i64 0, .int .i64 0, .int .i64 0, .int .i64 0, .int .i64 0, .int .i64 0, .int .i64 0, .int .i64 0, .int .i64 0, .int .i64 0, .int .i64 0, .int .i64 0, .int .i64 0, .int .i64 0, .int .i64 0, .int .i64 0, .int .i64 0, .int .i64 0, .int .i64 0, .int .i64 0, .int .i64 0, .int .i64 0, .int .i64 0, .int .i64 0, .int .i64 0, .int .i64 0, .int .i64 0, .int .i64 0, .int .i64 0] [.int .i64 t, .int .i64 0, .int .i64 0, .int .i64 0, .int .i64 0, .int .i64 0, .int .i64 0, .int .i64 0, .int .i64 0, .int .i64 0, .int .i64 0, .int .i64 0, .int .i64 0, .int .i64 0, .int .i64 0, .int .i64 0, .int .i64 0, .int .i64 0, .int .i64 0, .int .i64 0, .int .i64 0, .int .i64 0, .int .i64 0, .int .i64 0, .int .i64 0, .int .i64 0, .int .i64 0, .int .i64 0, .int .i64 0, .int .i64 0, .int .i64 0, .int .i64 0] rfl rfl HZ2.out rfl st_info st_one2 ?_; intro w3 k3 hs3 F3)
  have H3 : Hid (BoxF w3 w1.heap.size [.int .i64 t, .int .i64 0, .int .i64 0, .int .i64 0, .int .i64 0, .int .i64 0, .int .i64 0, .int .i64 0, .int .i64 0, .int .i64 0, .int .i64 0, .int .i64 0, .int .i64 0, .int .i64 0, .int .i64 0, .int .i64 0, .int .i64 0, .int .i64 0, .int .i64 0, .int .i64 0, .int .i64 0, .int .i64 0, .int .i64 0, .int .i64 0, .int .i64 0, .int .i64 0, .int .i64 0, .int .i64 0, .int .i64 0, .int .i64 0, .int .i64 0, .int .i64 0] ∧ BoxF w3 w.heap.size [.int .i64 0, .int .i64 0, .int .i64 0, .int .i64 0, .int .i64 0, .int .i64 0, .int .i64 0, .int .i64 0, .int .i64 0, .int .i64 0, .int .i64 0, .int .i64 0, .int .i64 0, .int .i64 0, .int .i64 0, .int .i64 0, .int .i64 0, .int .i64 0, .int .i64 0, .int .i64 0, .int .i64 0, .int .i64 0, .int .i64 0, .int .i64 0, .int .i64 0, .int .i64 0, .int .i64 0, .int .i64 0, .int .i64 0, .int .i64 0, .int .i64 0, .int .i64 0] ∧ Below w.heap.size w w3) := ⟨k3, F3.box HB1.out.2.2 (by simp) HN.out.1, HB1.out.1.trans ((HB1.out.2.1.mono HB1.out.1.size).trans (frB_below F3 HN.out.2 (Nat.le_trans HB1.out.1.size HB1.out.2.1.size)))⟩
  clear k3 hs3 F3 hw1
  refine (HI.out.n w3 H3.out.2.2).mono ?_
  rintro e w' ⟨rfl, rfl⟩
  go_wp2
  go_loopw [7, 21] (fun s i wr => ∃ j : Nat, j ≤ m ∧ i = .int .i64 (j : Int) ∧ BoxF wr w1.heap.size [.int .i64 t, .int .i64 (j : Int), .int .i64 (j : Int), .int .i64 (j : Int), .int .i64 0, .int .i64 0, .int .i64 0, .int .i64 0, .int .i64 0, .int .i64 0, .int .i64 0, .int .i64 0, .int .i64 0, .int .i64 0, .int .i64 0, .int .i64 0, .int .i64 0, .int .i64 0, .int .i64 0, .int .i64 0, .int .i64 0, .int .i64 0, .int .i64 0, .int .i64 0, .int .i64 0, .int .i64 0, .int .i64 0, .int .i64 0, .int .i64 0, .int .i64 0, .int .i64 0, .int .i64 0] ∧ BoxF wr w.heap.size [.int .i64 0, .int .i64 0, .int .i64 0, .int .i64 0, .int .i64 0, .int .i64 0, .int .i64 0, .int .i64 0, .int .i64 0, .int .i64 0, .int .i64 0, .int .i64 0, .int .i64 0, .int .i64 0, .int .i64 0, .int .i64 0, .int .i64 0, .int .i64 0, .int .i64 0, .int .i64 0, .int .i64 0, .int .i64 0, .int .i64 0, .int .i64 0, .int .i64 0, .int .i64 0, .int .i64 0, .int .i64 0, .int .i64 0, .int .i64 0, .int .i64 0, .int .i64 0] ∧ Below w.heap.size w wr) (fun _ i _ => m - (intOf i).toNat)
  case atStart => exact ⟨0, Nat.zero_le _, rfl, H3.out⟩
  case round =>
    obtain ⟨j, hj, rfl, hb, hz, hB⟩ := hrel
    by_cases hlt : j < m
    · have hltI : (j : Int) < (m : Int) := by omega
      have hj1 : 0 ≤ (j : Int) ∧ (j : Int) ≤ 1000000 := by omega
      have H0 := Lib.hid (And.intro hb (And.intro hz hB))
      have HJ := Lib.hid hj1
      clear hb hz hB hj1
      go_wp2_with fail
      refine (HI.out.up j hlt wr H0.out.2.2).mono ?_
      rintro e w' ⟨rfl, rfl⟩
      go_wp2_with fail
      refine (stOne (k := 1) H0.out.1 rfl HJ.out true w.heap.size HN.out.2 H0.out.2.2.size).mono ?_
      rintro e x1 ⟨rfl, k1, hs1, F1⟩
      simp only [if_true, List.set_cons_succ, List.set_cons_zero] at k1
      have H1 := Lib.hid (And.intro k1 (And.intro (F1.box H0.out.2.1 (by simp) HN.out.1) (H0.out.2.2.trans (frB_below F1 HN.out.2 H0.out.2.2.size))))
      clear k1 hs1 F1
      go_wp2_with fail
      refine (HI.out.ph j hlt x1 H1.out.2.2).mono ?_
      rintro e w' ⟨rfl, rfl⟩
      go_wp2_with fail
      refine (stOne (k := 2) H1.out.1 rfl HJ.out true w.heap.size HN.out.2 H1.out.2.2.size).mono ?_
      rintro e x2 ⟨rfl, k1, hs1, F1⟩
      simp only [if_true, List.set_cons_succ, List.set_cons_zero] at k1
      have H2 := Lib.hid (And.intro k1 (And.intro (F1.box H1.out.2.1 (by simp) HN.out.1) (H1.out.2.2.trans (frB_below F1 HN.out.2 H1.out.2.2.size))))
      clear k1 hs1 F1
      go_wp2_with fail
      refine (HI.out.mem j hlt x2 H2.out.2.2).mono ?_
      rintro e w' ⟨rfl, rfl⟩
      go_wp2_with fail
      refine (stOne (k := 3) H2.out.1 rfl HJ.out true w.heap.size HN.out.2 H2.out.2.2.size).mono ?_
      rintro e x3 ⟨rfl, k1, hs1, F1⟩
      simp only [if_true, List.set_cons_succ, List.set_cons_zero] at k1
      have HR : Hid (BoxF x3 w1.heap.size [.int .i64 t, .int .i64 ((j + 1 : Nat) : Int), .int .i64 ((j + 1 : Nat) : Int), .int .i64 ((j + 1 : Nat) : Int), .int .i64 0, .int .i64 0, .int .i64 0, .int .i64 0, .int .i64 0, .int .i64 0, .int .i64 0, .int .i64 0, .int .i64 0, .int .i64 0, .int .i64 0, .int .i64 0, .int .i64 0, .int .i64 0, .int .i64 0, .int .i64 0, .int .i64 0, .int .i64 0, .int .i64 0, .int .i64 0, .int .i64 0, .int .i64 0, .int .i64 0, .int .i64 0, .int .i64 0, .int .i64 0, .int .i64 0, .int .i64 0] ∧ BoxF x3 w.heap.size [.int .i64 0, .int .i64 0, .int .i64 0, .int .i64 0, .int .i64 0, .int .i64 0, .int .i64 0, .int .i64 0, .int .i64 0, .int .i64 0, .int .i64 0, .int .i64 0, .int .i64 0, .int .i64 0, .int .i64 0, .int .i64 0, .int .i64 0, .int .i64 0, .int .i64 0, .int .i64 0, .int .i64 0, .int .i64 0, .int .i64 0, .int .i64 0, .int .i64 0, .int .i64 0, .int .i64 0, .int .i64 0, .int .i64 0, .int .i64 0, .int .i64 0, .int .i64 0] ∧ Below w.heap.size w x3) := ⟨by push_cast; exact k1, F1.box H2.out.2.1 (by simp) HN.out.1, H2.out.2.2.trans (frB_below F1 HN.out.2 H2.out.2.2.size)⟩
      clear k1 hs1 F1
      go_wp2
      go_roundw
      case rel => exact ⟨j + 1, by omega, by go_num, HR.out⟩
      case measure => simp [intOf]; omega
    · obtain rfl : j = m := by omega
      have H0 := Lib.hid (And.intro hb (And.intro hz hB))
      clear hb hz hB
      go_wp2
      go_loopw [8, 44] (fun s i wr => ∃ q : Nat, q ≤ 20 ∧ i = .int .i64 (q : Int) ∧ BoxF wr w1.heap.size [.int .i64 t, .int .i64 (j : Int), .int .i64 (j : Int), .int .i64 (j : Int), .int .i64 0, .int .i64 0, .int .i64 0, .int .i64 0, .int .i64 0, .int .i64 0, .int .i64 0, .int .i64 0, .int .i64 0, .int .i64 0, .int .i64 0, .int .i64 0, .int .i64 0, .int .i64 0, .int .i64 0, .int .i64 0, .int .i64 0, .int .i64 0, .int .i64 0, .int .i64 0, .int .i64 0, .int .i64 0, .int .i64 0, .int .i64 0, .int .i64 0, .int .i64 0, .int .i64 0, .int .i64 0] ∧ BoxF wr w.heap.size [.int .i64 0, .int .i64 0, .int .i64 0, .int .i64 0, .int .i64 0, .int .i64 0, .int .i64 0, .int .i64 0, .int .i64 0, .int .i64 0, .int .i64 0, .int .i64 0, .int .i64 0, .int .i64 0, .int .i64 0, .int .i64 0, .int .i64 0, .int .i64 0, .int .i64 0, .int .i64 0, .int .i64 0, .int .i64 0, .int .i64 0, .int .i64 0, .int .i64 0, .int .i64 0, .int .i64 0, .int .i64 0, .int .i64 0, .int .i64 0, .int .i64 0, .int .i64 0] ∧ Below w.heap.size w wr) (fun _ i _ => 20 - (intOf i).toNat)
      case atStart => exact ⟨0, by omega, rfl, H0.out⟩
      case round =>
        obtain ⟨q, hq, rfl, hb, hz, hB⟩ := hrel
        by_cases hqt : q < 20
        · have hqI : (q : Int) < 20 := by omega
          have H1 := Lib.hid (And.intro hb (And.intro hz (And.intro hB (st_by t (j : Int) hqt))))
          clear hb hz hB
          go_wp2_with fail
          refine (HI.out.ref q hqt wr H1.out.2.2.1).mono ?_
          rintro e w' ⟨rfl, rfl⟩
          have z1 := H1.out.1.1 (12 + q) _ H1.out.2.2.2
          have f1 := H1.out.1.2 (12 + q) (by simp; omega)
          have k1 := H1.out.1.put (12 + q) (by simp; omega) (.int .i64 0)
          rw [zer_set H1.out.2.2.2] at k1
          have F1 := FrB.set wr w1.heap.size (12 + q) (.int .i64 0)
          obtain ⟨x1, hx1⟩ : ∃ x1, wr.setCell ⟨w1.heap.size, 12 + q, none⟩ (.int .i64 0) = x1 := ⟨_, rfl⟩
          rw [hx1] at k1 F1
          have H2 := Lib.hid (And.intro k1 (And.intro (F1.box H1.out.2.1 (by simp) HN.out.1) (H1.out.2.2.1.trans (frB_below F1 HN.out.2 H1.out.2.2.1.size))))
          have HK : Hid (∀ X, Below x1.heap.size x1 X → BoxF X w1.heap.size [.int .i64 t, .int .i64 (j : Int), .int .i64 (j : Int), .int .i64 (j : Int), .int .i64 0, .int .i64 0, .int .i64 0, .int .i64 0, .int .i64 0, .int .i64 0, .int .i64 0, .int .i64 0, .int .i64 0, .int .i64 0, .int .i64 0, .int .i64 0, .int .i64 0, .int .i64 0, .int .i64 0, .int .i64 0, .int .i64 0, .int .i64 0, .int .i64 0, .int .i64 0, .int .i64 0, .int .i64 0, .int .i64 0, .int .i64 0, .int .i64 0, .int .i64 0, .int .i64 0, .int .i64 0] ∧ BoxF X w.heap.size [.int .i64 0, .int .i64 0, .int .i64 0, .int .i64 0, .int .i64 0, .int .i64 0, .int .i64 0, .int .i64 0, .int .i64 0, .int .i64 0, .int .i64 0, .int .i64 0, .int .i64 0, .int .i64 0, .int .i64 0, .int .i64 0, .int .i64 0, .int .i64 0, .int .i64 0, .int .i64 0, .int .i64 0, .int .i64 0, .int .i64 0, .int .i64 0, .int .i64 0, .int .i64 0, .int .i64 0, .int .i64 0, .int .i64 0, .int .i64 0, .int .i64 0, .int .i64 0] ∧ X.cell? ⟨w1.heap.size, 12 + q, none⟩ = some (.int .i64 0)) := fun X hX => ⟨H2.out.1.keep hX, H2.out.2.1.keep hX, (H2.out.1.keep hX).1 (12 + q) _ H1.out.2.2.2⟩
          have HD : Hid (Below x1.heap.size x1 x1.drew) := (Below.refl _ _).drew
          clear k1 F1
          go_wp2_with fail
          refine wp_region_plan [] [(true, 0), (true, 1), (true, 2), (true, 3), (true, 4), (true, 5), (true, 6), (true, 7)] 8 12 (fun X => Below x1.heap.size x1 X) (by kernel_rfl) (by kernel_rfl) (by intro c a t v w h; exact h) HD.out ?_
          simp only [pickB, pickL, List.drop_succ_cons, List.drop_zero, List.head?_cons, Option.toList_some, List.map_cons, List.map_nil, List.cons_append, List.nil_append]
          refine wpHead_nil ?_
          iterate 8 (first | (refine wpPlan_skip (by rfl) ?_; try simp only [Act.put, List.setIfInBounds_toArray, List.set_cons_zero, List.set_cons_succ]) | (refine wpPlan_rd _ (by rfl) (by intro W hW; have hk := HK.out W hW; have z9 := hk.1.1 9 _ rfl; have zq := hk.2.2; clear hk hW; go_simp; with_reducible rfl) ?_; simp only [Act.put, List.setIfInBounds_toArray, List.set_cons_zero, List.set_cons_succ]))
          refine wpPlan_nil ?_
          have k2 := (HK.out _ HD.out).1
          have z9 := k2.1 9 _ rfl
          have f9 := k2.2 9 (by simp)
          have k3 := k2.put 9 (by simp) (.int .i64 0)
          simp only [List.set_cons_succ, List.set_cons_zero] at k3
          have F3 := FrB.set x1.drew w1.heap.size 9 (.int .i64 0)
          have HR : Hid (BoxF (x1.drew.setCell ⟨w1.heap.size, 9, none⟩ (.int .i64 0)) w1.heap.size [.int .i64 t, .int .i64 (j : Int), .int .i64 (j : Int), .int .i64 (j : Int), .int .i64 0, .int .i64 0, .int .i64 0, .int .i64 0, .int .i64 0, .int .i64 0, .int .i64 0, .int .i64 0, .int .i64 0, .int .i64 0, .int .i64 0, .int .i64 0, .int .i64 0, .int .i64 0, .int .i64 0, .int .i64 0, .int .i64 0, .int .i64 0, .int .i64 0, .int .i64 0, .int .i64 0, .int .i64 0, .int .i64 0, .int .i64 0, .int .i64 0, .int .i64 0, .int .i64 0, .int .i64 0] ∧ BoxF (x1.drew.setCell ⟨w1.heap.size, 9, none⟩ (.int .i64 0)) w.heap.size [.int .i64 0, .int .i64 0, .int .i64 0, .int .i64 0, .int .i64 0, .int .i64 0, .int .i64 0, .int .i64 0, .int .i64 0, .int .i64 0, .int .i64 0, .int .i64 0, .int .i64 0, .int .i64 0, .int .i64 0, .int .i64 0, .int .i64 0, .int .i64 0, .int .i64 0, .int .i64 0, .int .i64 0, .int .i64 0, .int .i64 0, .int .i64 0, .int .i64 0, .int .i64 0, .int .i64 0, .int .i64 0, .int .i64 0, .int .i64 0, .int .i64 0, .int .i64 0] ∧ Below w.heap.size w (x1.drew.setCell ⟨w1.heap.size, 9, none⟩ (.int .i64 0))) := ⟨k3, F3.box (HK.out _ HD.out).2.1 (by simp) HN.out.1, H2.out.2.2.drew.trans (frB_below F3 HN.out.2 H2.out.2.2.drew.size)⟩
          clear k2 k3 F3
          go_wp2
          go_roundw
          case rel => exact ⟨q + 1, by omega, by go_num, HR.out⟩
          case measure => simp [intOf]; omega
        · obtain rfl : q = 20 := by omega
          have H1 := Lib.hid (And.intro hb (And.intro hz hB))
          clear hb hz hB
          go_wp2_with fail
          refine (HI.out.cn1 wr H1.out.2.2).mono ?_
          rintro e x1 ⟨rfl, hx1⟩
          have H2 := Lib.hid (And.intro (H1.out.1.keep hx1) (And.intro (H1.out.2.1.keep hx1) (H1.out.2.2.trans (hx1.mono H1.out.2.2.size))))
          clear hx1
          go_wp2_with fail
          refine (HI.out.cn2 x1 H2.out.2.2).mono ?_
          rintro e x2 ⟨rfl, hx2⟩
          have k2 := H2.out.1.keep hx2
          have f5 := k2.2 5 (by simp)
          have f6 := k2.2 6 (by simp)
          have z5 := k2.1 5 _ rfl
          have z6 := k2.1 6 _ rfl
          have k3 := (k2.put 5 (by simp) (.int .i64 c1)).put 6 (by simp) (.int .i64 c2)
          simp only [List.set_cons_succ, List.set_cons_zero] at k3
          have F3 := (FrB.set x2 w1.heap.size 5 (.int .i64 c1)).trans (FrB.set (x2.setCell ⟨w1.heap.size, 5, none⟩ (.int .i64 c1)) w1.heap.size 6 (.int .i64 c2))
          obtain ⟨x3, hx3⟩ : ∃ x3, (x2.setCell ⟨w1.heap.size, 5, none⟩ (.int .i64 c1)).setCell ⟨w1.heap.size, 6, none⟩ (.int .i64 c2) = x3 := ⟨_, rfl⟩
          rw [hx3] at k3 F3
          have HB2 := H2.out.2.2.trans (hx2.mono H2.out.2.2.size)
          have H3 := Lib.hid (And.intro k3 (And.intro (F3.box (H2.out.2.1.keep hx2) (by simp) HN.out.1) (HB2.trans (frB_below F3 HN.out.2 HB2.size))))
          clear hx2 k2 k3 F3 HB2
          go_wp2_with fail
          refine (HI.out.cn4 x3 H3.out.2.2).mono ?_
          rintro e x4 ⟨rfl, hx4⟩
          have H4 := Lib.hid (And.intro (H3.out.1.keep hx4) (And.intro (H3.out.2.1.keep hx4) (H3.out.2.2.trans (hx4.mono H3.out.2.2.size))))
          clear hx4 hx3 f5 f6 z5 z6
          go_wp2_with fail
          refine (HI.out.cn6 x4 H4.out.2.2).mono ?_
          rintro e x5 ⟨rfl, hx5⟩
          have k2 := H4.out.1.keep hx5
          have f7 := k2.2 7 (by simp)
          have f8 := k2.2 8 (by simp)
          have z7 := k2.1 7 _ rfl
          have z8 := k2.1 8 _ rfl
          have k3 := (k2.put 7 (by simp) (.int .i64 c4)).put 8 (by simp) (.int .i64 c6)
          simp only [List.set_cons_succ, List.set_cons_zero] at k3
          have F3 := (FrB.set x5 w1.heap.size 7 (.int .i64 c4)).trans (FrB.set (x5.setCell ⟨w1.heap.size, 7, none⟩ (.int .i64 c4)) w1.heap.size 8 (.int .i64 c6))
          obtain ⟨x6, hx6⟩ : ∃ x6, (x5.setCell ⟨w1.heap.size, 7, none⟩ (.int .i64 c4)).setCell ⟨w1.heap.size, 8, none⟩ (.int .i64 c6) = x6 := ⟨_, rfl⟩
          rw [hx6] at k3 F3
          have HB2 := H4.out.2.2.trans (hx5.mono H4.out.2.2.size)
          have HZ6 := Lib.hid (F3.box (H4.out.2.1.keep hx5) (by simp) HN.out.1)
          have H6 := Lib.hid (And.intro k3 (HB2.trans (frB_below F3 HN.out.2 HB2.size)))
          have HRA := Lib.hid (World.rangeAt_of H6.out.1)
          clear hx5 k2 k3 F3 HB2
          go_wp2_with (first | (refine wpList_load_mid rfl 25 _ rfl w1.heap.size 0 rfl [.int .i64 t, .int .i64 (j : Int), .int .i64 (j : Int), .int .i64 (j : Int), .int .i64 0, .int .i64 c1, .int .i64 c2, .int .i64 c4, .int .i64 c6, .int .i64 0, .int .i64 0, .int .i64 0, .int .i64 0, .int .i64 0, .int .i64 0, .int .i64 0, .int .i64 0, .int .i64 0, .int .i64 0, .int .i64 0, .int .i64 0, .int .i64 0, .int .i64 0, .int .i64 0, .int .i64 0, .int .i64 0, .int .i64 0, .int .i64 0, .int .i64 0, .int .i64 0, .int .i64 0, .int .i64 0] _ HRA.out Tryz.underlying25 rfl st_info ?_) | (refine wp_boxStore rfl 25 _ _ rfl w.heap.size [.int .i64 0, .int .i64 0, .int .i64 0, .int .i64 0, .int .i64 0, .int .i64 0, .int .i64 0, .int .i64 0, .int .i64 0, .int .i64 0, .int .i64 0, .int .i64 0, .int .i64 0, .int .i64 0, .int .i64 0, .int .i64 0, .int .i64 0, .int .i64 0, .int .i64 0, .int .i64 0, .int .i64 0, .int .i64 0, .int .i64 0, .int .i64 0, .int .i64 0, .int .i64 0, .int .i64 0, .int .i64 0, .int .i64 0, .int .i64 0, .int .i64 0, .int .i64 0] [.int .i64 t, .int .i64 (j : Int), .int .i64 (j : Int), .int .i64 (j : Int), .int .i64 0, .int .i64 c1, .int .i64 c2, .int .i64 c4, .int .i64 c6, .int .i64 0, .int .i64 0, .int .i64 0, .int .i64 0, .int .i64 0, .int .i64 0, .int .i64 0, .int .i64 0, .int .i64 0, .int .i64 0, .int .i64 0, .int .i64 0, .int .i64 0, .int .i64 0, .int .i64 0, .int .i64 0, .int .i64 0, .int .i64 0, .int .i64 0, .int .i64 0, .int .i64 0, .int .i64 0, .int .i64 0] rfl rfl HZ6.out rfl st_info st_one3 ?_; intro x7 k7 hs7 F7))
          have hld : (loadVar 25 ⟨w.heap.size, 0, none⟩).run Tryz.prog x7 = .ok (.agg [.int .i64 t, .int .i64 (j : Int), .int .i64 (j : Int), .int .i64 (j : Int), .int .i64 0, .int .i64 c1, .int .i64 c2, .int .i64 c4, .int .i64 c6, .int .i64 0, .int .i64 0, .int .i64 0, .int .i64 0, .int .i64 0, .int .i64 0, .int .i64 0, .int .i64 0, .int .i64 0, .int .i64 0, .int .i64 0, .int .i64 0, .int .i64 0, .int .i64 0, .int .i64 0, .int .i64 0, .int .i64 0, .int .i64 0, .int .i64 0, .int .i64 0, .int .i64 0, .int .i64 0, .int .i64 0].toArray) x7 := run_loadVar_mid x7 w.heap.size 0 25 [.int .i64 t, .int .i64 (j : Int), .int .i64 (j : Int), .int .i64 (j : Int), .int .i64 0, .int .i64 c1, .int .i64 c2, .int .i64 c4, .int .i64 c6, .int .i64 0, .int .i64 0, .int .i64 0, .int .i64 0, .int .i64 0, .int .i64 0, .int .i64 0, .int .i64 0, .int .i64 0, .int .i64 0, .int .i64 0, .int .i64 0, .int .i64 0, .int .i64 0, .int .i64 0, .int .i64 0, .int .i64 0, .int .i64 0, .int .i64 0, .int .i64 0, .int .i64 0, .int .i64 0, .int .i64 0] _ (fun j v hj => by rw [Nat.zero_add]; exact k7.1 j v hj) Tryz.underlying25 rfl st_info
          have HF : Hid (Below w.heap.size w x7) := H6.out.2.trans (frB_below F7 (Nat.le_refl _) H6.out.2.size)
          clear k7 hs7 F7
          go_wp2
          refine bodyPost_ret (v := .agg [.int .i64 t, .int .i64 (j : Int), .int .i64 (j : Int), .int .i64 (j : Int), .int .i64 0, .int .i64 c1, .int .i64 c2, .int .i64 c4, .int .i64 c6, .int .i64 0, .int .i64 0, .int .i64 0, .int .i64 0, .int .i64 0, .int .i64 0, .int .i64 0, .int .i64 0, .int .i64 0, .int .i64 0, .int .i64 0, .int .i64 0, .int .i64 0, .int .i64 0, .int .i64 0, .int .i64 0, .int .i64 0, .int .i64 0, .int .i64 0, .int .i64 0, .int .i64 0, .int .i64 0, .int .i64 0].toArray) (by simp [results, Tryz.results10, asAddr, Act.put, hld]) rfl ⟨rfl, HF.out⟩
end Go.Proofs.YteahiphmhaedpaaGreatDoor
