/- Some numbers, and the sum of two: stats.Sum. -/
import Derived.Test.YteahiphmhaedpaaGreatDoorStC
import Derived.Test.YteahiphmhaedpaaGreatDoorRegX
namespace Go.Proofs.YteahiphmhaedpaaGreatDoor
open Go.RowKit Law
set_option linter.unusedVariables false
set_option linter.unusedSimpArgs false
set_option maxRecDepth 100000

def gS (l : List Int) (k : Nat) : Int := l.getD k 0
def vL (l : List Int) : List Value := l.map fun (x : Int) => Value.int .i64 x
theorem vL_len (l : List Int) : (vL l).length = l.length := by simp [vL]
theorem vL_at {l : List Int} {k : Nat} (h : k < l.length) : (vL l)[k]? = some (.int .i64 (gS l k)) := by
  unfold vL gS
  rw [List.getElem?_map, List.getElem?_eq_getElem h, List.getD_eq_getElem?_getD, List.getElem?_eq_getElem h]
  rfl
theorem vL_one (l : List Int) : ∀ v ∈ vL l, v.oneCell' = true := by
  intro v hv
  obtain ⟨x, _, rfl⟩ := List.mem_map.1 hv
  rfl
def numL (l : List Int) : List Int := l ++ ([0, 0, 0] ++ (l ++ [0, 0, 0, 0, 0]))
/-- The numbers behind some rounds. -/
def nlL (l : List Int) (j : Nat) : List Value := vL l ++ ([.int .i64 0, .int .i64 0, .int .i64 0] ++ (vL (l.take j) ++ List.replicate (17 - j) (.int .i64 0)))
theorem nl_set (x0 x1 x2 x3 x4 x5 x6 x7 x8 x9 x10 x11 : Int) {j : Nat} (h : j < 12) : (nlL [x0, x1, x2, x3, x4, x5, x6, x7, x8, x9, x10, x11] j).set (12 + (j + 3)) (.int .i64 (gS [x0, x1, x2, x3, x4, x5, x6, x7, x8, x9, x10, x11] j)) = nlL [x0, x1, x2, x3, x4, x5, x6, x7, x8, x9, x10, x11] (j + 1) := by
  have : j = 0 ∨ j = 1 ∨ j = 2 ∨ j = 3 ∨ j = 4 ∨ j = 5 ∨ j = 6 ∨ j = 7 ∨ j = 8 ∨ j = 9 ∨ j = 10 ∨ j = 11 := by omega
  rcases this with rfl | rfl | rfl | rfl | rfl | rfl | rfl | rfl | rfl | rfl | rfl | rfl <;> rfl
theorem x_at (x0 x1 x2 x3 x4 x5 x6 x7 x8 x9 x10 x11 : Int) {j : Nat} (h : j < 12) : ([.int .i32 x0, .int .i32 x1, .int .i32 x2, .int .i32 x3, .int .i32 x4, .int .i32 x5, .int .i32 x6, .int .i32 x7, .int .i32 x8, .int .i32 x9, .int .i32 x10, .int .i32 x11] : List Value)[j]? = some (.int .i32 (gS [x0, x1, x2, x3, x4, x5, x6, x7, x8, x9, x10, x11] j)) := by
  have : j = 0 ∨ j = 1 ∨ j = 2 ∨ j = 3 ∨ j = 4 ∨ j = 5 ∨ j = 6 ∨ j = 7 ∨ j = 8 ∨ j = 9 ∨ j = 10 ∨ j = 11 := by omega
  rcases this with rfl | rfl | rfl | rfl | rfl | rfl | rfl | rfl | rfl | rfl | rfl | rfl <;> rfl
theorem nl_len (x0 x1 x2 x3 x4 x5 x6 x7 x8 x9 x10 x11 : Int) {j : Nat} (h : j ≤ 12) : (nlL [x0, x1, x2, x3, x4, x5, x6, x7, x8, x9, x10, x11] j).length = 32 := by
  simp [nlL, vL]
  omega
/-- A number of 32 bits. -/
def I32 (x : Int) : Prop := -2147483648 ≤ x ∧ x ≤ 2147483647
theorem i32_wrap {x : Int} (h : I32 x) : IntKind.i64.wrap x = x := by
  unfold I32 at h
  rw [IntKind.wrap_i64]
  omega
theorem gS_i32 {l : List Int} (h : ∀ x ∈ l, I32 x) (k : Nat) : I32 (gS l k) := by
  unfold gS
  rw [List.getD_eq_getElem?_getD]
  cases hk : l[k]? with
  | none => exact ⟨by decide, by decide⟩
  | some x => exact h x (List.mem_of_getElem? hk)
theorem v0_one {x0 x1 x2 x3 x4 x5 x6 x7 x8 x9 x10 x11 : Int} : ∀ v ∈ ([.int .i64 x0, .int .i64 x1, .int .i64 x2, .int .i64 x3, .int .i64 x4, .int .i64 x5, .int .i64 x6, .int .i64 x7, .int .i64 x8, .int .i64 x9, .int .i64 x10, .int .i64 x11, .int .i64 0, .int .i64 0, .int .i64 0, .int .i64 0, .int .i64 0, .int .i64 0, .int .i64 0, .int .i64 0, .int .i64 0, .int .i64 0, .int .i64 0, .int .i64 0, .int .i64 0, .int .i64 0, .int .i64 0, .int .i64 0, .int .i64 0, .int .i64 0, .int .i64 0, .int .i64 0] : List Value), v.oneCell' = true := by
  intro v hv
  have : v ∈ nlL [x0, x1, x2, x3, x4, x5, x6, x7, x8, x9, x10, x11] 0 := by simpa [nlL, vL] using hv
  unfold nlL at this
  rcases List.mem_append.1 this with h | h
  · exact vL_one _ v h
  · simp [vL] at h
    subst h
    rfl
set_option maxHeartbeats 12800000 in
theorem wNumbers (x0 x1 x2 x3 x4 x5 x6 x7 x8 x9 x10 x11 : Int) (hx : ∀ x ∈ [x0, x1, x2, x3, x4, x5, x6, x7, x8, x9, x10, x11], I32 x) (w : World) : Calls Tryz.prog 4 #[.agg #[.int .i32 x0, .int .i32 x1, .int .i32 x2, .int .i32 x3, .int .i32 x4, .int .i32 x5, .int .i32 x6, .int .i32 x7, .int .i32 x8, .int .i32 x9, .int .i32 x10, .int .i32 x11]] w fun e w' => e = .returned (.agg (vL (numL [x0, x1, x2, x3, x4, x5, x6, x7, x8, x9, x10, x11])).toArray) ∧ Below w.heap.size w w' := by
  have b1 := (Below.refl w.heap.size w).alloc (Nat.le_refl _) (.cells #[.int .i32 x0, .int .i32 x1, .int .i32 x2, .int .i32 x3, .int .i32 x4, .int .i32 x5, .int .i32 x6, .int .i32 x7, .int .i32 x8, .int .i32 x9, .int .i32 x10, .int .i32 x11] 22)
  have k1 := boxF_made w [.int .i32 x0, .int .i32 x1, .int .i32 x2, .int .i32 x3, .int .i32 x4, .int .i32 x5, .int .i32 x6, .int .i32 x7, .int .i32 x8, .int .i32 x9, .int .i32 x10, .int .i32 x11] 22
  obtain ⟨w1, hw1⟩ : ∃ W_, w.alloc (.cells #[.int .i32 x0, .int .i32 x1, .int .i32 x2, .int .i32 x3, .int .i32 x4, .int .i32 x5, .int .i32 x6, .int .i32 x7, .int .i32 x8, .int .i32 x9, .int .i32 x10, .int .i32 x11] 22) = W_ := ⟨_, rfl⟩
  have sw1 : w1.heap.size = w.heap.size + 1 := by rw [← hw1]; simp
  rw [hw1] at b1
  replace k1 : BoxF w1 w.heap.size [.int .i32 x0, .int .i32 x1, .int .i32 x2, .int .i32 x3, .int .i32 x4, .int .i32 x5, .int .i32 x6, .int .i32 x7, .int .i32 x8, .int .i32 x9, .int .i32 x10, .int .i32 x11] := hw1 ▸ k1
  have b2 := (Below.refl w1.heap.size w1).alloc (Nat.le_refl _) (.cells #[.int .i64 0, .int .i64 0, .int .i64 0, .int .i64 0, .int .i64 0, .int .i64 0, .int .i64 0, .int .i64 0, .int .i64 0, .int .i64 0, .int .i64 0, .int .i64 0, .int .i64 0, .int .i64 0, .int .i64 0, .int .i64 0, .int .i64 0, .int .i64 0, .int .i64 0, .int .i64 0, .int .i64 0, .int .i64 0, .int .i64 0, .int .i64 0, .int .i64 0, .int .i64 0, .int .i64 0, .int .i64 0, .int .i64 0, .int .i64 0, .int .i64 0, .int .i64 0] 25)
  have k2 := boxF_made w1 [.int .i64 0, .int .i64 0, .int .i64 0, .int .i64 0, .int .i64 0, .int .i64 0, .int .i64 0, .int .i64 0, .int .i64 0, .int .i64 0, .int .i64 0, .int .i64 0, .int .i64 0, .int .i64 0, .int .i64 0, .int .i64 0, .int .i64 0, .int .i64 0, .int .i64 0, .int .i64 0, .int .i64 0, .int .i64 0, .int .i64 0, .int .i64 0, .int .i64 0, .int .i64 0, .int .i64 0, .int .i64 0, .int .i64 0, .int .i64 0, .int .i64 0, .int .i64 0] 25
  obtain ⟨w2, hw2⟩ : ∃ W_, w1.alloc (.cells #[.int .i64 0, .int .i64 0, .int .i64 0, .int .i64 0, .int .i64 0, .int .i64 0, .int .i64 0, .int .i64 0, .int .i64 0, .int .i64 0, .int .i64 0, .int .i64 0, .int .i64 0, .int .i64 0, .int .i64 0, .int .i64 0, .int .i64 0, .int .i64 0, .int .i64 0, .int .i64 0, .int .i64 0, .int .i64 0, .int .i64 0, .int .i64 0, .int .i64 0, .int .i64 0, .int .i64 0, .int .i64 0, .int .i64 0, .int .i64 0, .int .i64 0, .int .i64 0] 25) = W_ := ⟨_, rfl⟩
  have sw2 : w2.heap.size = w1.heap.size + 1 := by rw [← hw2]; simp
  rw [hw2] at b2
  replace k2 : BoxF w2 w1.heap.size [.int .i64 0, .int .i64 0, .int .i64 0, .int .i64 0, .int .i64 0, .int .i64 0, .int .i64 0, .int .i64 0, .int .i64 0, .int .i64 0, .int .i64 0, .int .i64 0, .int .i64 0, .int .i64 0, .int .i64 0, .int .i64 0, .int .i64 0, .int .i64 0, .int .i64 0, .int .i64 0, .int .i64 0, .int .i64 0, .int .i64 0, .int .i64 0, .int .i64 0, .int .i64 0, .int .i64 0, .int .i64 0, .int .i64 0, .int .i64 0, .int .i64 0, .int .i64 0] := hw2 ▸ k2
  have hw0 : IntKind.i64.wrap x0 = x0 := i32_wrap (hx x0 (by simp))
  have hw1 : IntKind.i64.wrap x1 = x1 := i32_wrap (hx x1 (by simp))
  have hw2 : IntKind.i64.wrap x2 = x2 := i32_wrap (hx x2 (by simp))
  have hw3 : IntKind.i64.wrap x3 = x3 := i32_wrap (hx x3 (by simp))
  have hw4 : IntKind.i64.wrap x4 = x4 := i32_wrap (hx x4 (by simp))
  have hw5 : IntKind.i64.wrap x5 = x5 := i32_wrap (hx x5 (by simp))
  have hw6 : IntKind.i64.wrap x6 = x6 := i32_wrap (hx x6 (by simp))
  have hw7 : IntKind.i64.wrap x7 = x7 := i32_wrap (hx x7 (by simp))
  have hw8 : IntKind.i64.wrap x8 = x8 := i32_wrap (hx x8 (by simp))
  have hw9 : IntKind.i64.wrap x9 = x9 := i32_wrap (hx x9 (by simp))
  have hw10 : IntKind.i64.wrap x10 = x10 := i32_wrap (hx x10 (by simp))
  have hw11 : IntKind.i64.wrap x11 = x11 := i32_wrap (hx x11 (by simp))
  have hwj : ∀ j, IntKind.i64.wrap (gS [x0, x1, x2, x3, x4, x5, x6, x7, x8, x9, x10, x11] j) = gS [x0, x1, x2, x3, x4, x5, x6, x7, x8, x9, x10, x11] j := fun j => i32_wrap (gS_i32 hx j)
  have k12 := k1.keep b2
  have y0 := k12.1 0 _ rfl
  have y1 := k12.1 1 _ rfl
  have y2 := k12.1 2 _ rfl
  have y3 := k12.1 3 _ rfl
  have y4 := k12.1 4 _ rfl
  have y5 := k12.1 5 _ rfl
  have y6 := k12.1 6 _ rfl
  have y7 := k12.1 7 _ rfl
  have y8 := k12.1 8 _ rfl
  have y9 := k12.1 9 _ rfl
  have y10 := k12.1 10 _ rfl
  have y11 := k12.1 11 _ rfl
  have HZ := Lib.hid (boxF_made w2 [.int .i64 0, .int .i64 0, .int .i64 0, .int .i64 0, .int .i64 0, .int .i64 0, .int .i64 0, .int .i64 0, .int .i64 0, .int .i64 0, .int .i64 0, .int .i64 0, .int .i64 0, .int .i64 0, .int .i64 0, .int .i64 0, .int .i64 0, .int .i64 0, .int .i64 0, .int .i64 0, .int .i64 0, .int .i64 0, .int .i64 0, .int .i64 0, .int .i64 0, .int .i64 0, .int .i64 0, .int .i64 0, .int .i64 0, .int .i64 0, .int .i64 0, .int .i64 0] 25)
  have b3 := (Below.refl w2.heap.size w2).alloc (Nat.le_refl _) (.cells #[.int .i64 0, .int .i64 0, .int .i64 0, .int .i64 0, .int .i64 0, .int .i64 0, .int .i64 0, .int .i64 0, .int .i64 0, .int .i64 0, .int .i64 0, .int .i64 0, .int .i64 0, .int .i64 0, .int .i64 0, .int .i64 0, .int .i64 0, .int .i64 0, .int .i64 0, .int .i64 0, .int .i64 0, .int .i64 0, .int .i64 0, .int .i64 0, .int .i64 0, .int .i64 0, .int .i64 0, .int .i64 0, .int .i64 0, .int .i64 0, .int .i64 0, .int .i64 0] 25)
  have H2 := Lib.hid (And.intro k12 (And.intro k2 (And.intro (b1.trans (b2.mono b1.size)) b3)))
  have HN : Hid (w.heap.size < w2.heap.size ∧ w1.heap.size < w2.heap.size ∧ w.heap.size ≤ w1.heap.size) := ⟨by omega, by omega, by omega⟩
  have HX := Lib.hid (And.intro hwj (nl_len x0 x1 x2 x3 x4 x5 x6 x7 x8 x9 x10 x11 (j := 0) (by omega)))
  clear k1 k2 k12 b1 b2 b3 sw1 sw2 hwj hx
  go_enter Tryz.func4, Tryz.ntmps4
  go_wp2_with (refine wp_boxStore rfl 25 _ _ rfl w2.heap.size [.int .i64 0, .int .i64 0, .int .i64 0, .int .i64 0, .int .i64 0, .int .i64 0, .int .i64 0, .int .i64 0, .int .i64 0, .int .i64 0, .int .i64 0, .int .i64 0, .int .i64 0, .int .i64 0, .int .i64 0, .int .i64 0, .int .i64 0, .int .i64 0, .int .i64 0, .int .i64 0, .int .i64 0, .int .i64 0, .int .i64 0, .int .i64 0, .int .i64 0, .int .i64 0, .int .i64 0, .int .i64 0, .int .i64 0, .int .i64 0, .int .i64 0, .int .i64 0] [.int .i64 x0, .int .i64 x1, .int .i64 x2, .int .i64 x3, .int .i64 x4, .int .i64 x5, .int .i64 x6, .int .i64 x7, .int .i64 x8, .int .i64 x9, .int .i64 x10, .int .i64 x11, .int .i64 0, .int .i64 0, .int .i64 0, .int .i64 0, .int .i64 0, .int .i64 0, .int .i64 0, .int .i64 0, .int .i64 0, .int .i64 0, .int .i64 0, .int .i64 0, .int .i64 0, .int .i64 0, .int .i64 0, .int .i64 0, .int .i64 0, .int .i64 0, .int .i64 0, .int .i64 0] rfl rfl HZ.out rfl st_info v0_one ?_; intro w3 k3 hs3 F3; clear y0 y1 y2 y3 y4 y5 y6 y7 y8 y9 y10 y11)
  have hB3 : Below w2.heap.size w2 w3 := H2.out.2.2.2.trans (frB_below F3 (Nat.le_refl _) H2.out.2.2.2.size)
  have H3 : Hid (BoxF w3 w2.heap.size (nlL [x0, x1, x2, x3, x4, x5, x6, x7, x8, x9, x10, x11] 0) ∧ BoxF w3 w.heap.size [.int .i32 x0, .int .i32 x1, .int .i32 x2, .int .i32 x3, .int .i32 x4, .int .i32 x5, .int .i32 x6, .int .i32 x7, .int .i32 x8, .int .i32 x9, .int .i32 x10, .int .i32 x11] ∧ BoxF w3 w1.heap.size [.int .i64 0, .int .i64 0, .int .i64 0, .int .i64 0, .int .i64 0, .int .i64 0, .int .i64 0, .int .i64 0, .int .i64 0, .int .i64 0, .int .i64 0, .int .i64 0, .int .i64 0, .int .i64 0, .int .i64 0, .int .i64 0, .int .i64 0, .int .i64 0, .int .i64 0, .int .i64 0, .int .i64 0, .int .i64 0, .int .i64 0, .int .i64 0, .int .i64 0, .int .i64 0, .int .i64 0, .int .i64 0, .int .i64 0, .int .i64 0, .int .i64 0, .int .i64 0] ∧ Below w.heap.size w w3) := ⟨k3, H2.out.1.keep hB3, H2.out.2.1.keep hB3, H2.out.2.2.1.trans (hB3.mono H2.out.2.2.1.size)⟩
  clear k3 hs3 F3 hB3 hw1 hw2
  go_loopw [4, 42] (fun s i wr => ∃ j : Nat, j ≤ 12 ∧ i = .int .i64 (j : Int) ∧ BoxF wr w2.heap.size (nlL [x0, x1, x2, x3, x4, x5, x6, x7, x8, x9, x10, x11] j) ∧ BoxF wr w.heap.size [.int .i32 x0, .int .i32 x1, .int .i32 x2, .int .i32 x3, .int .i32 x4, .int .i32 x5, .int .i32 x6, .int .i32 x7, .int .i32 x8, .int .i32 x9, .int .i32 x10, .int .i32 x11] ∧ BoxF wr w1.heap.size [.int .i64 0, .int .i64 0, .int .i64 0, .int .i64 0, .int .i64 0, .int .i64 0, .int .i64 0, .int .i64 0, .int .i64 0, .int .i64 0, .int .i64 0, .int .i64 0, .int .i64 0, .int .i64 0, .int .i64 0, .int .i64 0, .int .i64 0, .int .i64 0, .int .i64 0, .int .i64 0, .int .i64 0, .int .i64 0, .int .i64 0, .int .i64 0, .int .i64 0, .int .i64 0, .int .i64 0, .int .i64 0, .int .i64 0, .int .i64 0, .int .i64 0, .int .i64 0] ∧ Below w.heap.size w wr) (fun _ i _ => 12 - (intOf i).toNat)
  case atStart => exact ⟨0, Nat.zero_le _, rfl, H3.out⟩
  case round =>
    obtain ⟨j, hj, rfl, hb, hp, hz, hB⟩ := hrel
    by_cases hlt : j < 12
    · have hltI : (j : Int) < 12 := by omega
      obtain ⟨q, hq⟩ : ∃ q, j + 3 = q := ⟨_, rfl⟩
      have hqi : (j : Int) + 3 = (q : Int) := by omega
      have hq20 : (q : Int) < 20 := by omega
      have hwq := HX.out.1 j
      have y := hp.1 j _ (x_at x0 x1 x2 x3 x4 x5 x6 x7 x8 x9 x10 x11 hlt)
      have hlen := nl_len x0 x1 x2 x3 x4 x5 x6 x7 x8 x9 x10 x11 (j := j) (by omega)
      have f := hb.2 (12 + q) (by omega)
      have k4 := hb.put (12 + q) (by omega) (.int .i64 (gS [x0, x1, x2, x3, x4, x5, x6, x7, x8, x9, x10, x11] j))
      rw [← hq, nl_set x0 x1 x2 x3 x4 x5 x6 x7 x8 x9 x10 x11 hlt, hq] at k4
      have F4 := FrB.set wr w2.heap.size (12 + q) (.int .i64 (gS [x0, x1, x2, x3, x4, x5, x6, x7, x8, x9, x10, x11] j))
      obtain ⟨cq, hcq⟩ : ∃ v, (nlL [x0, x1, x2, x3, x4, x5, x6, x7, x8, x9, x10, x11] j)[12 + q]? = some v := ⟨_, List.getElem?_eq_getElem (by omega)⟩
      have cz := hb.1 (12 + q) _ hcq
      obtain ⟨gx, hgx⟩ : ∃ gx, gS [x0, x1, x2, x3, x4, x5, x6, x7, x8, x9, x10, x11] j = gx := ⟨_, rfl⟩
      rw [hgx] at k4 F4 y hwq
      have HR : Hid (BoxF (wr.setCell ⟨w2.heap.size, 12 + q, none⟩ (.int .i64 gx)) w2.heap.size (nlL [x0, x1, x2, x3, x4, x5, x6, x7, x8, x9, x10, x11] (j + 1)) ∧ BoxF (wr.setCell ⟨w2.heap.size, 12 + q, none⟩ (.int .i64 gx)) w.heap.size [.int .i32 x0, .int .i32 x1, .int .i32 x2, .int .i32 x3, .int .i32 x4, .int .i32 x5, .int .i32 x6, .int .i32 x7, .int .i32 x8, .int .i32 x9, .int .i32 x10, .int .i32 x11] ∧ BoxF (wr.setCell ⟨w2.heap.size, 12 + q, none⟩ (.int .i64 gx)) w1.heap.size [.int .i64 0, .int .i64 0, .int .i64 0, .int .i64 0, .int .i64 0, .int .i64 0, .int .i64 0, .int .i64 0, .int .i64 0, .int .i64 0, .int .i64 0, .int .i64 0, .int .i64 0, .int .i64 0, .int .i64 0, .int .i64 0, .int .i64 0, .int .i64 0, .int .i64 0, .int .i64 0, .int .i64 0, .int .i64 0, .int .i64 0, .int .i64 0, .int .i64 0, .int .i64 0, .int .i64 0, .int .i64 0, .int .i64 0, .int .i64 0, .int .i64 0, .int .i64 0] ∧ Below w.heap.size w (wr.setCell ⟨w2.heap.size, 12 + q, none⟩ (.int .i64 gx))) :=
        ⟨k4, F4.box hp (by simp) (by have := HN.out; omega), F4.box hz (by simp) (by have := HN.out; omega), hB.trans (frB_below F4 (by have := HN.out; omega) hB.size)⟩
      clear hb hp hz hB hlen k4 F4 hq hgx hcq
      go_wp2
      go_roundw
      case rel => exact ⟨j + 1, by omega, by go_num, HR.out⟩
      case measure => simp [intOf]; omega
    · obtain rfl : j = 12 := by omega
      have HZ6 := Lib.hid hz
      have H6 := Lib.hid hB
      have HRA := Lib.hid (World.rangeAt_of hb)
      obtain ⟨L, hL⟩ : ∃ L, nlL [x0, x1, x2, x3, x4, x5, x6, x7, x8, x9, x10, x11] 12 = L := ⟨_, rfl⟩
      have HL : Hid (L = vL (numL [x0, x1, x2, x3, x4, x5, x6, x7, x8, x9, x10, x11])) := hL ▸ rfl
      have HLN : Hid (L.length = 32) := hL ▸ nl_len x0 x1 x2 x3 x4 x5 x6 x7 x8 x9 x10 x11 (j := 12) (by omega)
      rw [hL] at HRA
      clear hb hp hz hB hL
      go_wp2_with (first | (refine wpList_load_mid rfl 25 _ rfl w2.heap.size 0 rfl L _ HRA.out Tryz.underlying25 rfl (by rw [HLN.out]; exact st_info) ?_) | (refine wp_boxStore rfl 25 _ _ rfl w1.heap.size [.int .i64 0, .int .i64 0, .int .i64 0, .int .i64 0, .int .i64 0, .int .i64 0, .int .i64 0, .int .i64 0, .int .i64 0, .int .i64 0, .int .i64 0, .int .i64 0, .int .i64 0, .int .i64 0, .int .i64 0, .int .i64 0, .int .i64 0, .int .i64 0, .int .i64 0, .int .i64 0, .int .i64 0, .int .i64 0, .int .i64 0, .int .i64 0, .int .i64 0, .int .i64 0, .int .i64 0, .int .i64 0, .int .i64 0, .int .i64 0, .int .i64 0, .int .i64 0] L rfl rfl HZ6.out HLN.out (by rw [HLN.out]; exact st_info) (by rw [HL.out]; exact vL_one _) ?_; intro x7 k7 hs7 F7))
      have hld : (loadVar 25 ⟨w1.heap.size, 0, none⟩).run Tryz.prog x7 = .ok (.agg L.toArray) x7 := run_loadVar_mid x7 w1.heap.size 0 25 L _ (fun j v hj => by rw [Nat.zero_add]; exact k7.1 j v hj) Tryz.underlying25 rfl (by rw [HLN.out]; exact st_info)
      have HF : Hid (Below w.heap.size w x7) := H6.out.trans (frB_below F7 HN.out.2.2 H6.out.size)
      clear k7 hs7 F7
      go_wp2
      refine bodyPost_ret (v := .agg L.toArray) (by simp [results, Tryz.results4, asAddr, Act.put, hld]) rfl ⟨by rw [HL.out], HF.out⟩
end Go.Proofs.YteahiphmhaedpaaGreatDoor
