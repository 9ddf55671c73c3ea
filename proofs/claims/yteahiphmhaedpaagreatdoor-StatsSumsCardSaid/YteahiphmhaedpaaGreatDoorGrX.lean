/- What several texts of this seat lean on, joined: GrC GrD GrE GrF GrG. -/
import Derived.Test.YteahiphmhaedpaaGreatDoorGrB
import Derived.Test.YteahiphmhaedpaaGreatDoorBase
import Derived.ScopeJumps
import Derived.WalkMore
import Derived.RangeFuncFrom
import Derived.RangeFuncOne
import Derived.Shelf.Strings.BuilderK
namespace Go.Proofs.YteahiphmhaedpaaGreatDoor
open Go.RowKit Law Go.Shelf
set_option linter.unusedVariables false
set_option linter.unusedSimpArgs false
set_option maxRecDepth 100000
attribute [local go_sem] Oper.semAt_some

abbrev nr (near : List Nat) (j : Nat) : Nat := near.getD j 0
theorem nr_lt {w : World} {G R : Nat} {near : List Nat} (h : GrAt w G R near) (j : Nat) : nr near j < 18446744073709551616 := by
  unfold nr
  by_cases hj : j < near.length
  · rw [show near.getD j 0 = near[j] by simp [hj]]; exact h.lt _ (List.getElem_mem hj)
  · rw [show near.getD j 0 = 0 by simp [hj]]; decide
theorem of1 (b : Nat) (hb : b < 64) (B : Nat) (W : World) (hc : W.cell? ⟨B, 0, none⟩ = some (.int .i64 (b : Int))) :
    Calls Tryz.prog 445 #[.slice (some ⟨B, 0, none⟩) 1 1] W fun e w' => e = .returned (.int .u64 ((2 ^ b : Nat) : Int)) ∧ W = w' := by
  have C := Lib.hid (fun W hc => with1 0 b (by decide) hb B W hc)
  have E : Hid (0 ||| 2 ^ b = 2 ^ b) := Nat.zero_or _
  rw [E.out] at C
  go_enter Tryz.func445, Tryz.ntmps445
  go_wp2_with fail
  refine (C.out _ hc).mono ?_
  rintro e w' ⟨rfl, rfl⟩
  go_wp2
  go_ret
  exact ⟨rfl, rfl⟩
def startN (n i off : Nat) : Nat := andNot (2 ^ i &&& allN (n : Int)) off
theorem rStart {w : World} {G R : Nat} {near : List Nat} (i off : Nat) (hi : i < 64) (ho : off < 18446744073709551616) (h : GrAt w G R near) :
    Calls Tryz.prog 432 #[.pointer (some ⟨G, 0, none⟩), .int .i64 (i : Int), .int .u64 (off : Int)] w fun e w' => e = .returned (.int .u64 (startN near.length i off : Int)) ∧ Below w.heap.size w w' := by
  have hp : 2 ^ i < 18446744073709551616 := Nat.pow_lt_pow_right (m := i) (n := 64) (by decide) hi
  have hal := allN_lt (near.length : Int)
  have b1 := bits_and_u64_nat (2 ^ i) (allN (near.length : Int)) hp hal
  have b2 := bits_andNot_u64_nat (2 ^ i &&& allN (near.length : Int)) off (Nat.lt_of_le_of_lt Nat.and_le_left hp) ho
  have HS : Hid (startN near.length i off = (2 ^ i &&& allN (near.length : Int)) ^^^ ((2 ^ i &&& allN (near.length : Int)) &&& off)) := rfl
  have hle := h.le
  have CN := Lib.hid (fun W (hW : Below w.heap.size w W) => grN (h.keep hW))
  have CA := Lib.hid (fun W => nodesAll (near.length : Int) (by omega) (by omega) W)
  have CO := Lib.hid (fun B W hc => of1 i hi B W hc)
  generalize 2 ^ i = P at *
  go_enter Tryz.func432, Tryz.ntmps432
  go_wp2_with fail
  refine (CO.out _ _ (by simp)).mono ?_
  rintro e w' ⟨rfl, rfl⟩
  go_wp2_with fail
  refine (CN.out _ ((Below.refl _ _).alloc (Nat.le_refl _) _)).mono ?_
  rintro e w' ⟨rfl, rfl⟩
  go_wp2_with fail
  refine (CA.out _).mono ?_
  rintro e w' ⟨rfl, rfl⟩
  go_wp2
  go_ret
  exact ⟨ret_int (by rw [HS.out]), (Below.refl _ _).alloc (Nat.le_refl _) _⟩

/-! ### grow -/
theorem nears_cast (near : List Nat) (s : Nat) (k : Nat) (hk : k < (els s).length) : nearsN (nr near) s ((els s).take (k + 1)) = nearsN (nr near) s ((els s).take k) ||| nr near (els s)[k] := by
  rw [List.take_succ_eq_append_getElem hk, nears_snoc]
def GrowI (w : World) (G : Nat) (near : List Nat) (s : Nat) (k : Nat) (W : World) : Prop :=
  BoxIs w.heap.size (.pointer (some ⟨G, 0, none⟩)) W ∧ BoxIs (w.heap.size + 1) (.int .u64 (nearsN (nr near) s ((els s).take k) : Int)) W ∧ Below w.heap.size w W
theorem keeps_of_below {W W' : World} (h : Below W.heap.size W W') : KeepsOthers W W' := ⟨h.size, fun j o hj _ => (h.block j (Array.getElem?_eq_some_iff.1 hj).1).trans hj⟩
theorem boxIs_new (W : World) (u : Value) (t : TypeId) : BoxIs W.heap.size u (W.alloc (.cells #[u] t)) := ⟨by simp, by simp⟩
theorem box_alloc {W : World} {B : Nat} {u : Value} (h : BoxIs B u W) (o : Obj) : BoxIs B u (W.alloc o) := h.kept (Below.heap_alloc _ _ _ h.lt)
theorem box_keep {W W' : World} {B : Nat} {u : Value} (h : Below W.heap.size W W') (hb : BoxIs B u W) : BoxIs B u W' := hb.kept (h.block B hb.lt)
set_option maxHeartbeats 1600000 in
theorem rGrow {w : World} {G R : Nat} {near : List Nat} (s off : Nat) (hs : s < 18446744073709551616) (hsn : ∀ i ∈ els s, i < near.length) (ho : off < 18446744073709551616) (h : GrAt w G R near) (hTw : T64 w) :
    Calls Tryz.prog 433 #[.pointer (some ⟨G, 0, none⟩), .int .u64 (s : Int), .int .u64 (off : Int)] w fun e w' => e = .returned (.int .u64 (growN (nr near) s off : Int)) ∧ Below w.heap.size w w' := by
  have hnl := nears_lt (nr_lt h) (els s) s hs
  refine (callsIn_wide (n := 9)).1 ?_
  refine callsIn_of_wp_marks Tryz.func433 rfl trivial ?_ rfl
  simp only [Tryz.ntmps433, List.size_toArray, List.length_cons, List.length_nil, Nat.reduceAdd, Nat.reduceSub, Array.replicate_succ, Array.replicate_zero, List.push_toArray, List.append_toArray, List.nil_append, List.cons_append]
  gi_wp2
  refine ⟨trivial, (callsIn_wide.2 (nodesEach s _)).mono ?_⟩
  rintro e w' ⟨rfl, hw'⟩
  simp only [World.size_alloc]
  have hsz : w'.heap.size = w.heap.size + 3 := by rw [hw']; simp
  have hbw : Below w.heap.size w w' := by rw [hw']; exact (((Below.refl _ w).alloc (Nat.le_refl _) _).alloc (by simp) _).alloc (by simp only [World.size_alloc]; omega) _
  have hbox : BoxIs (w.heap.size + 2) (.int .u64 (s : Int)) w' := by rw [hw']; have h0 := boxIs_new ((w.alloc (.cells #[.pointer (some ⟨G, 0, none⟩)] 126)).alloc (.cells #[.int .u64 (s : Int)] 69)) (.int .u64 (s : Int)) 69; simp only [World.size_alloc] at h0; exact h0
  have hbx1 : BoxIs (w.heap.size + 1) (.int .u64 (s : Int)) w' := by rw [hw']; have h0 := boxIs_new (w.alloc (.cells #[.pointer (some ⟨G, 0, none⟩)] 126)) (.int .u64 (s : Int)) 69; simp only [World.size_alloc] at h0; exact box_alloc h0 _
  have hbx0 : BoxIs w.heap.size (.pointer (some ⟨G, 0, none⟩)) w' := by rw [hw']; exact box_alloc (box_alloc (boxIs_new _ _ _) _) _
  clear hw'
  gi_wp2
  refine wp_rangeBox (gf := 393) (B := w.heap.size + 2) (u0 := .int .u64 (s : Int)) (zs := intV (elsI s)) (T := T64) (by simp [Act.eval]) (enters_of Tryz.func393 (by kernel_rfl) rfl) (eachSeq _ s hs) rfl hbox
    (GrowI w G near s) (fun _ _ _ => False) ?hI (fun _ _ _ _ h _ => h.elim) ?hT ?h0
    (fun x => { tmps := #[.pointer (some ⟨G, 0, none⟩), .int .u64 (s : Int), .int .u64 (off : Int), .pointer (some ⟨w.heap.size, 0, none⟩), undef, undef, .int .u64 0, .pointer (some ⟨w.heap.size + 1, 0, none⟩), x, .int .u64 (s : Int), .int .u64 (s : Int), .func (.func 393) #[] #[.pointer (some ⟨w.heap.size + 2, 0, none⟩)], x, undef, undef, undef, undef, undef, undef, undef, undef], defers := [] }) ?assign ?body ?done (fun _ _ _ _ _ _ h => h.elim)
  case hI =>
    rintro k W W' ⟨h1, h2, h3⟩ hS
    exact ⟨hS.cell (by omega) (by omega) h1, hS.cell (by omega) (by omega) h2, hS.below (by omega) (by omega) h3 h3.size⟩
  case hT =>
    rintro k W ⟨h1, h2, h3⟩
    exact hTw.below h3
  case h0 => exact ⟨hbx0, hbx1, hbw⟩
  case assign =>
    intro l x W K hK
    gi_wp2
    exact hK
  case body =>
    rintro l k x W ⟨hg0, hbx, hb⟩ hx hlt
    have hk : k < (els s).length := by
      have := (List.getElem?_eq_some_iff.1 hx).1
      simpa [intV, elsI] using this
    obtain rfl : x = .int .i64 ((els s)[k] : Int) := by
      unfold intV elsI at hx
      rw [List.map_map, List.getElem?_map, List.getElem?_eq_getElem hk] at hx
      exact (Option.some.inj hx).symm
    have hi := hsn _ (List.getElem_mem hk)
    have HS : Hid (nearsN (nr near) s ((els s).take (k + 1)) = nearsN (nr near) s ((els s).take k) ||| near.getD (els s)[k] 0) := nears_cast near s k hk
    have hnk := nears_lt (nr_lt h) ((els s).take k) s hs
    have hil : near.getD (els s)[k] 0 < 18446744073709551616 := nr_lt h (els s)[k]
    have hor := bits_or_u64_nat _ _ hnk hil
    have hG := h.keep hb
    have CN := Lib.hid (fun U : Later W => later_of (W := U) ((grNear _ hi (hG.keep U.h)).mono fun _ _ ⟨he, hw⟩ => ⟨he, by subst hw; exact Below.refl _ _⟩))
    generalize nearsN (nr near) s ((els s).take k) = X at *
    generalize near.getD (els s)[k] 0 = y at *
    generalize (els s)[k] = i at *
    have l0 := fun U : Later W => Later.cell hg0.1 U
    have l1 := fun U : Later W => Later.cell hbx.1 U
    have l2 := fun U : Later W => Later.frozen hbx.2 hbx.lt U
    have HK := Lib.hid (fun U : Later W => keeps_of_below U.h)
    have HX := Lib.hid (fun U : Later W => box_keep U.h hg0)
    have HY := Lib.hid (fun U : Later W => box_keep U.h hbx)
    have HB := Lib.hid (fun U : Later W => hb.trans (U.h.mono hb.size))
    have HU := Lib.hid (fun (U : Later W) (u : Value) (B : Nat) (hu : BoxIs B u W) => box_keep U.h hu)
    clear hG hx hg0 hbx hb
    gi_wp2
    refine wpIn_region_later_tail 5 (by kernel_rfl) (by kernel_rfl) (by kernel_rfl) (fun _ _ h => h) ?_
    simp only [List.take_succ_cons, List.take_zero, List.drop_succ_cons, List.drop_zero]
    repeat (go_big_quiet_step (exact CN.out _))
    refine wpQuiet_nil ?_
    intro U
    go_wp2
    refine ⟨(HK.out U).trans (KeepsOthers.setCell _ _ _), fun u hu => (HU.out U u _ hu).kept (Below.heap_setCell _ _ _ _ (by simp)), (HX.out U).kept (Below.heap_setCell _ _ _ _ (by simp)), ⟨?_, ?_⟩, (HB.out U).setCell (p := ⟨w.heap.size + 1, 0, none⟩) (by simp) _⟩
    · rw [HS.out]; exact World.cell?_setCell_same' _ _ _ (by rw [(HY.out U).1]; rfl)
    · rw [World.frozen?_setCell]; exact (HY.out U).2
  case done =>
    rintro D W hD ⟨hg0, hbx, hb⟩ hK
    have HT : Hid ((els s).take (intV (elsI s)).length = els s) := List.take_of_length_le (by simp [intV, elsI])
    rw [HT.out] at hbx
    have hc := hbx.1
    have hd := bits_andNot_u64_nat _ _ hnl ho
    have HV : Hid (growN (nr near) s off = nearsN (nr near) s (els s) ^^^ (nearsN (nr near) s (els s) &&& off)) := rfl
    generalize nearsN (nr near) s (els s) = X at *
    gi_wp2
    refine ⟨by simp, .inl ⟨_, _, rfl, run_takeDeferred hK, ?_⟩⟩
    exact ⟨_, results_tmp rfl _ _ _, by rw [HV.out]; rfl, hb.trans (belowK_b (w := w) (Nat.le_refl _) W D _ _ (by omega) hK rfl rfl)⟩
end Go.Proofs.YteahiphmhaedpaaGreatDoor

namespace Go.Proofs.YteahiphmhaedpaaGreatDoor
open Go.RowKit Law Go.Shelf
set_option linter.unusedVariables false
set_option linter.unusedSimpArgs false
set_option maxRecDepth 100000

/-! ### what it computes -/
def ringsN (near : Nat → Nat) (off : Nat) : Nat → Nat → Nat → List Nat
  | 0, _, _ => []
  | f + 1, all, ring => if ring = 0 then [] else ring :: ringsN near off f (all ||| ring) (andNot (growN near ring off) (all ||| ring))
theorem ringsN_zero (near : Nat → Nat) (off f all : Nat) : ringsN near off f all 0 = [] := by cases f <;> simp [ringsN]
theorem ringsN_step {near : Nat → Nat} {off f all ring : Nat} (h : ring ≠ 0) : ringsN near off (f + 1) all ring = ring :: ringsN near off f (all ||| ring) (andNot (growN near ring off) (all ||| ring)) := by
  show (if ring = 0 then _ else _) = _
  rw [if_neg h]
theorem unionL_acc (l : List Nat) : ∀ a : Nat, l.foldl (· ||| ·) a = a ||| unionL l := by
  induction l with
  | nil => intro a; simp [unionL]
  | cons x l ih =>
    intro a
    unfold unionL
    rw [List.foldl_cons, List.foldl_cons, ih, ih (0 ||| x), Nat.zero_or, Nat.or_assoc]
theorem unionL_cons (x : Nat) (l : List Nat) : unionL (x :: l) = x ||| unionL l := by
  show (x :: l).foldl (· ||| ·) 0 = _
  rw [List.foldl_cons, unionL_acc, Nat.zero_or]
theorem unionL_lt : ∀ l : List Nat, (∀ x ∈ l, x < 18446744073709551616) → unionL l < 18446744073709551616
  | [], _ => by decide
  | x :: l, h => by rw [unionL_cons]; exact or_lt64 (h x (by simp)) (unionL_lt l (fun y hy => h y (by simp [hy])))
section
variable {P : Nat → Prop} {E : Nat → Nat → Prop} {i : Nat} {near : Nat → Nat} {off : Nat}
theorem rings_union (hP : ∀ k, P k → k < 64) (hE : ∀ j k, j < 64 → k < 64 → ((near j).testBit k = true ↔ E j k)) (hn : ∀ j, near j < 18446744073709551616)
    (hoff : ∀ j k, j < 64 → k < 64 → E j k → (off.testBit k = false ↔ P k)) (hoff2 : ∀ k, k < 64 → P k → off.testBit k = false) : ∀ (f all ring : Nat), 65 ≤ f + (els all).length → RingI P E i all ring → ∀ k, k < 64 → ((all ||| unionL (ringsN near off f all ring)).testBit k = true ↔ Rch P E i k)
  | 0, all, ring, hf, h, k, hk => by have := els_len all; omega
  | f + 1, all, ring, hf, h, k, hk => by
    by_cases hr : ring = 0
    · subst hr
      rw [ringsN_zero]
      have : unionL [] = 0 := rfl
      rw [this, Nat.or_zero]
      exact h.done hP k hk
    · rw [ringsN_step hr, unionL_cons, ← Nat.or_assoc]
      refine rings_union hP hE hn hoff hoff2 f _ _ ?_ (h.next hP hE hn hoff hoff2) k hk
      have := els_or_lt hr h.lt2 h.apart
      omega
end
def fromN (n : Nat) (near : Nat → Nat) (off i : Nat) : Nat := unionL (ringsN near off 65 0 (startN n i off))
def thereN (n off : Nat) : Nat := andNot (allN (n : Int)) off
def wholeB (n : Nat) (near : Nat → Nat) (off : Nat) : Bool := decide (thereN n off ≠ 0) && fromN n near off (low (thereN n off)) == thereN n off

/-! ### rings -/
theorem els_lt_pow {x n : Nat} (h : x < 2 ^ n) : ∀ i ∈ els x, i < n := fun i hi => by
  rcases Nat.lt_or_ge i n with h1 | h1
  · exact h1
  · have := Nat.testBit_lt_two_pow (x := x) (i := i) (Nat.lt_of_lt_of_le h (Nat.pow_le_pow_right (by decide) h1))
    rw [(mem_els.1 hi).2] at this
    cases this
theorem nears_pow {near : Nat → Nat} {n : Nat} (hn : ∀ j, near j < 2 ^ n) : ∀ (l : List Nat) (s : Nat), s < 2 ^ n → nearsN near s l < 2 ^ n
  | [], s, h => h
  | i :: r, s, h => nears_pow hn r _ (Nat.or_lt_two_pow h (hn i))
theorem grow_pow {near : Nat → Nat} {n s off : Nat} (hn : ∀ j, near j < 2 ^ n) (hs : s < 2 ^ n) : growN near s off < 2 ^ n := by
  unfold growN andNot
  exact Nat.xor_lt_two_pow (nears_pow hn _ _ hs) (Nat.lt_of_le_of_lt Nat.and_le_left (nears_pow hn _ _ hs))
def RingsPost (w : World) (l : List Nat) (e : Ending) (w' : World) : Prop := l.length ≤ 64 ∧ ∃ v, e = .returned v ∧ w'.ownsRow w.heap.size 69 1 v l.length (u64V l) ∧ Below w.heap.size w w'
/-- How it stands at the label. -/
def RingJ (w : World) (near : List Nat) (off s0 : Nat) (v : Value) (all ring : Nat) (wr : World) : Prop :=
  ∃ (pre : List Nat) (f : Nat), 65 ≤ f + (els all).length ∧ pre.length ≤ (els all).length ∧ all < 18446744073709551616 ∧ ring < 2 ^ near.length ∧ (∀ k, k < 64 → ring.testBit k = true → all.testBit k = false) ∧
    pre ++ ringsN (nr near) off f all ring = ringsN (nr near) off 65 0 s0 ∧ wr.ownsRow w.heap.size 69 1 v pre.length (u64V pre) ∧ Below w.heap.size w wr
theorem own_below' {w w' : World} {base size n : Nat} {e : TypeId} {v : Value} {xs : List Value} (h : w.ownsRow base e size v n xs) (hb : Below w.heap.size w w') : w'.ownsRow base e size v n xs := own_below h hb
theorem pow64 {x n : Nat} (h : x < 2 ^ n) (hn : n ≤ 64) : x < 18446744073709551616 := Nat.lt_of_lt_of_le h (Nat.pow_le_pow_right (by decide) hn)
set_option maxHeartbeats 3200000 in
theorem rRings {w : World} {G R : Nat} {near : List Nat} (i off : Nat) (hi64 : i < 64) (ho : off < 18446744073709551616) (hnp : ∀ j, nr near j < 2 ^ near.length) (h : GrAt w G R near) (hTw : T64 w) :
    Calls Tryz.prog 426 #[.pointer (some ⟨G, 0, none⟩), .int .i64 (i : Int), .int .u64 (off : Int)] w (RingsPost w (ringsN (nr near) off 65 0 (startN near.length i off))) := by
  obtain ⟨i0, hi, hz0, hz1, hz2⟩ := info_parts setInfo
  have hle := h.le
  have CS := Lib.hid (rStart i off hi64 ho h)
  have hs0 : startN near.length i off < 2 ^ near.length := by
    unfold startN andNot
    have ha : allN (near.length : Int) ≤ 2 ^ near.length - 1 := by
      unfold allN
      split
      · rename_i h1; rw [show near.length = 64 by omega]; decide
      · split
        · omega
        · simp
    have hp := Nat.two_pow_pos near.length
    have h1 : 2 ^ i &&& allN (near.length : Int) < 2 ^ near.length := Nat.lt_of_le_of_lt Nat.and_le_right (by omega)
    exact Nat.xor_lt_two_pow h1 (Nat.lt_of_le_of_lt Nat.and_le_left h1)
  generalize startN near.length i off = s0 at *
  go_enter Tryz.func426, Tryz.ntmps426
  go_wp2
  refine wp_scope_jumps 0 (fun a' wr => ∃ (v : Value) (all ring : Nat) (u14 u15 u16 u17 u18 u19 u20 u21 u22 u23 u24 u25 u26 u27 u28 : Value), a' = { tmps := #[.pointer (some ⟨G, 0, none⟩), .int .i64 (i : Int), .int .u64 (off : Int), undef, undef, undef, .slice none 0 0, v, .int .u64 (all : Int), .int .u64 (ring : Int), .pointer (some ⟨G, 0, none⟩), .int .i64 (i : Int), .int .u64 (off : Int), .int .u64 (s0 : Int), u14, u15, u16, u17, u18, u19, u20, u21, u22, u23, u24, u25, u26, u27, u28, undef], defers := [] } ∧ RingJ w near off s0 v all ring wr) (fun a' _ => 64 - (els (intOf (a'.tmps.getD 8 undef)).toNat).length) rfl ?_ ?_
  · go_wp2_with fail
    refine CS.out.mono ?_
    rintro e wr ⟨rfl, hb0⟩
    have hal : (0 : Nat) < 18446744073709551616 := by decide
    have hJ : RingJ w near off s0 (.slice none 0 0) 0 s0 wr := ⟨[], 65, by rw [els_zero]; decide, Nat.zero_le _, by decide, hs0, fun k _ _ => Nat.zero_testBit k, rfl, World.ownsRow_nil _ _ _ _, hb0⟩
    obtain ⟨pre, f, hf, hpl, hal, hrn, hap, heq, hown, hb⟩ := hJ
    have hr64 := pow64 hrn hle
    have hpl64 : pre.length ≤ 64 := Nat.le_trans hpl (els_len 0)
    by_cases hr0 : s0 = 0
    · have hzz : ringsN (nr near) off f 0 s0 = [] := by rw [hr0]; exact ringsN_zero ..
      rw [hzz, List.append_nil] at heq
      have hne : ((s0 : Int) != 0) = false := by simp; omega
      have HP : Hid (RingsPost w (ringsN (nr near) off 65 0 s0) (.returned (.slice none 0 0)) wr) := ⟨by rw [← heq]; have := els_len 0; omega, _, rfl, by rw [← heq]; exact hown, hb⟩
      clear heq hown hb hap 
      go_wp2
      go_step3
      go_wp2
      simp only [Exit.jump]
      go_ret
      exact HP.out
    · have hne : ((s0 : Int) != 0) = true := by simp; omega
      obtain ⟨f', rfl⟩ : ∃ f', f = f' + 1 := ⟨f - 1, by have := els_len 0; omega⟩
      rw [ringsN_step hr0] at heq
      have hgr := els_or_lt hr0 hr64 hap
      have hol := or_lt64 hal hr64
      have hel := els_len (0 ||| s0)
      have hbo : bits .or .u64 0 (s0 : Int) = ((0 ||| s0 : Nat) : Int) := bits_or_u64_nat 0 s0 (by decide) hr64
      have hgp := grow_pow (off := off) hnp hrn
      have hg64 := pow64 hgp hle
      have hba := bits_andNot_u64_nat (growN (nr near) s0 off) (0 ||| s0) hg64 hol
      have HA : Hid (andNot (growN (nr near) s0 off) (0 ||| s0) = growN (nr near) s0 off ^^^ (growN (nr near) s0 off &&& (0 ||| s0))) := rfl
      have hG := h.keep hb
      have HCG := Lib.hid (fun (W : World) (hW : Below wr.heap.size wr W) => rGrow s0 off hr64 (els_lt_pow hrn) ho (hG.keep hW) (hTw.below (hb.trans (hW.mono hb.size))))
      have HN : Hid (∀ x, x = andNot (growN (nr near) s0 off) (0 ||| s0) → 65 ≤ f' + (els (0 ||| s0)).length ∧ (pre ++ [s0]).length ≤ (els (0 ||| s0)).length ∧ x < 2 ^ near.length ∧ (∀ k, k < 64 → x.testBit k = true → (0 ||| s0).testBit k = false) ∧ (pre ++ [s0]) ++ ringsN (nr near) off f' (0 ||| s0) x = ringsN (nr near) off 65 0 s0) := fun x hx => by
        subst hx
        refine ⟨by omega, by rw [List.length_append, List.length_singleton]; omega, Nat.xor_lt_two_pow hgp (Nat.lt_of_le_of_lt Nat.and_le_left hgp), fun k _ hk => ?_, by rw [← heq, List.append_assoc]; rfl⟩
        rw [testBit_andNot] at hk
        simpa using (Bool.and_eq_true_iff.1 hk).2
      have HM : Hid ((els 0).length < (els (0 ||| s0)).length) := hgr
      clear heq hap hgr  hf
      obtain ⟨gw, hgw⟩ : ∃ gw, growN (nr near) s0 off = gw := ⟨_, rfl⟩
      rw [hgw] at HA HN hba hgp hg64
      have HGW := Lib.hid hgw
      clear hgw
      obtain ⟨orr, horr⟩ : ∃ orr, 0 ||| s0 = orr := ⟨_, rfl⟩
      rw [horr] at HA HN hba hbo HM hol hel
      clear horr
      go_wp2
      go_step3
      go_wp2_with (at_builtin; refine wpList_append_own _ rfl _ _ 203 rfl w.heap.size 69 i0 (.int .u64 0) 1 8 Tryz.underlying203 hi hz0 hz1 hz2 rfl (by decide) _ _ _ rfl (hown.alloc _) ⟨wr.heap.size, 0, none⟩ 1 1 [.int .u64 (s0 : Int)] rfl rfl ?c1 ?c2 ?c3 ?c4 ?c5 ?_)
      case c1 =>
        intro j u hj
        match j, hj with
        | 0, hj => simp at hj; subst hj; simp [Addr.add]
      case c2 => intro u hu; simp at hu; subst hu; rfl
      case c3 => unfold maxLen; omega
      case c4 => omega
      case c5 => have := hb.size; simp; omega
      intro v' w1 hown' hgrow _
      have hb3 : Below w.heap.size w w1 := (hb.alloc hb.size _).grown hgrow (by have := hb.size; simp; omega) (fun j hj => (hown.lt j hj).1)
      have CG1 := Lib.hid (rGrow (w := w1) s0 off hr64 (els_lt_pow hrn) ho (h.keep hb3) (hTw.below hb3))
      rw [HGW.out] at CG1
      clear hgrow hown hG HCG
      go_wp2_with fail
      refine CG1.out.mono ?_
      rintro e w2 ⟨rfl, hb4⟩
      have HO := Lib.hid (And.intro (own_below hown' hb4) (hb3.trans (hb4.mono hb3.size)))
      clear hown' hb4 hb3
      go_wp2
      go_step3
      refine ⟨rfl, v', orr, _, _, _, _, _, _, _, _, _, _, _, _, _, _, _, _, rfl, pre ++ [s0], f', ?_⟩
      obtain ⟨q1, q2, q3, q4, q5⟩ := HN.out _ rfl
      rw [← HA.out]
      exact ⟨q1, q2, hol, q3, q4, q5, by rw [List.length_append]; unfold u64V; rw [List.map_append]; exact HO.out.1, HO.out.2⟩
  · rintro a' wr ⟨v, all, ring, u14, u15, u16, u17, u18, u19, u20, u21, u22, u23, u24, u25, u26, u27, u28, rfl, hJ⟩
    obtain ⟨pre, f, hf, hpl, hal, hrn, hap, heq, hown, hb⟩ := hJ
    have hr64 := pow64 hrn hle
    have hpl64 : pre.length ≤ 64 := Nat.le_trans hpl (els_len all)
    by_cases hr0 : ring = 0
    · subst hr0
      rw [ringsN_zero, List.append_nil] at heq
      have hne : (((0 : Nat) : Int) != 0) = false := rfl
      have HP : Hid (RingsPost w (ringsN (nr near) off 65 0 s0) (.returned v) wr) := ⟨by rw [← heq]; have := els_len all; omega, v, rfl, by rw [← heq]; exact hown, hb⟩
      clear heq hown hb hap
      go_wp2
      simp only [Exit.jump]
      go_ret
      exact HP.out
    · have hne : ((ring : Int) != 0) = true := by simp; omega
      obtain ⟨f', rfl⟩ : ∃ f', f = f' + 1 := ⟨f - 1, by have := els_len all; omega⟩
      rw [ringsN_step hr0] at heq
      have hgr := els_or_lt hr0 hr64 hap
      have hol := or_lt64 hal hr64
      have hel := els_len (all ||| ring)
      have hbo := bits_or_u64_nat all ring hal hr64
      have hgp := grow_pow (off := off) hnp hrn
      have hg64 := pow64 hgp hle
      have hba := bits_andNot_u64_nat (growN (nr near) ring off) (all ||| ring) hg64 hol
      have HA : Hid (andNot (growN (nr near) ring off) (all ||| ring) = growN (nr near) ring off ^^^ (growN (nr near) ring off &&& (all ||| ring))) := rfl
      have hG := h.keep hb
      have HCG := Lib.hid (fun (W : World) (hW : Below wr.heap.size wr W) => rGrow ring off hr64 (els_lt_pow hrn) ho (hG.keep hW) (hTw.below (hb.trans (hW.mono hb.size))))
      have HN : Hid (∀ x, x = andNot (growN (nr near) ring off) (all ||| ring) → 65 ≤ f' + (els (all ||| ring)).length ∧ (pre ++ [ring]).length ≤ (els (all ||| ring)).length ∧ x < 2 ^ near.length ∧ (∀ k, k < 64 → x.testBit k = true → (all ||| ring).testBit k = false) ∧ (pre ++ [ring]) ++ ringsN (nr near) off f' (all ||| ring) x = ringsN (nr near) off 65 0 s0) := fun x hx => by
        subst hx
        refine ⟨by omega, by rw [List.length_append, List.length_singleton]; omega, Nat.xor_lt_two_pow hgp (Nat.lt_of_le_of_lt Nat.and_le_left hgp), fun k _ hk => ?_, by rw [← heq, List.append_assoc]; rfl⟩
        rw [testBit_andNot] at hk
        simpa using (Bool.and_eq_true_iff.1 hk).2
      have HM : Hid ((els all).length < (els (all ||| ring)).length) := hgr
      clear heq hap hgr hf
      obtain ⟨gw, hgw⟩ : ∃ gw, growN (nr near) ring off = gw := ⟨_, rfl⟩
      rw [hgw] at HA HN hba hgp hg64
      have HGW := Lib.hid hgw
      clear hgw
      obtain ⟨orr, horr⟩ : ∃ orr, all ||| ring = orr := ⟨_, rfl⟩
      rw [horr] at HA HN hba hbo HM hol hel
      clear horr
      go_wp2_with (at_builtin; refine wpList_append_own _ rfl _ _ 203 rfl w.heap.size 69 i0 (.int .u64 0) 1 8 Tryz.underlying203 hi hz0 hz1 hz2 rfl (by decide) _ _ _ rfl (hown.alloc _) ⟨wr.heap.size, 0, none⟩ 1 1 [.int .u64 (ring : Int)] rfl rfl ?c1 ?c2 ?c3 ?c4 ?c5 ?_)
      case c1 =>
        intro j u hj
        match j, hj with
        | 0, hj => simp at hj; subst hj; simp [Addr.add]
      case c2 => intro u hu; simp at hu; subst hu; rfl
      case c3 => unfold maxLen; omega
      case c4 => omega
      case c5 => have := hb.size; simp; omega
      intro v' w1 hown' hgrow _
      have hb3 : Below w.heap.size w w1 := (hb.alloc hb.size _).grown hgrow (by have := hb.size; simp; omega) (fun j hj => (hown.lt j hj).1)
      have CG1 := Lib.hid (rGrow (w := w1) ring off hr64 (els_lt_pow hrn) ho (h.keep hb3) (hTw.below hb3))
      rw [HGW.out] at CG1
      clear hgrow hown hG HCG
      go_wp2_with fail
      refine CG1.out.mono ?_
      rintro e w2 ⟨rfl, hb4⟩
      have HO := Lib.hid (And.intro (own_below hown' hb4) (hb3.trans (hb4.mono hb3.size)))
      clear hown' hb4 hb3
      go_wp2
      go_step3
      refine ⟨rfl, ⟨v', orr, _, _, _, _, _, _, _, _, _, _, _, _, _, _, _, _, rfl, pre ++ [ring], f', ?_⟩, ?_⟩
      · obtain ⟨q1, q2, q3, q4, q5⟩ := HN.out _ rfl
        rw [← HA.out]
        exact ⟨q1, q2, hol, q3, q4, q5, by rw [List.length_append]; unfold u64V; rw [List.map_append]; exact HO.out.1, HO.out.2⟩
      · have := HM.out
        simp [intOf]
        omega
end Go.Proofs.YteahiphmhaedpaaGreatDoor

namespace Go.Proofs.YteahiphmhaedpaaGreatDoor
open Go.RowKit Law Go.Shelf
set_option linter.unusedVariables false
set_option linter.unusedSimpArgs false
set_option maxRecDepth 100000

theorem unionL_take (l : List Nat) {k : Nat} (hk : k < l.length) : unionL (l.take (k + 1)) = unionL (l.take k) ||| l[k] := by
  rw [List.take_succ_eq_append_getElem hk, unionL_snoc]
theorem ringsN_lt {near : Nat → Nat} {off n : Nat} (hn : ∀ j, near j < 2 ^ n) : ∀ (f all ring : Nat), ring < 2 ^ n → ∀ x ∈ ringsN near off f all ring, x < 2 ^ n
  | 0, _, _, _, x, hx => by simp [ringsN] at hx
  | f + 1, all, ring, hr, x, hx => by
    by_cases h : ring = 0
    · subst h; rw [ringsN_zero] at hx; simp at hx
    · rw [ringsN_step h] at hx
      rcases List.mem_cons.1 hx with rfl | hx
      · exact hr
      · exact ringsN_lt hn f _ _ (Nat.xor_lt_two_pow (grow_pow hn hr) (Nat.lt_of_le_of_lt Nat.and_le_left (grow_pow hn hr))) x hx
theorem startN_lt (n i off : Nat) (hn : n ≤ 64) : startN n i off < 2 ^ n := by
  unfold startN andNot
  have ha : allN (n : Int) ≤ 2 ^ n - 1 := by
    unfold allN
    split
    · rename_i h1; rw [show n = 64 by omega]; decide
    · split
      · omega
      · simp
  have hp := Nat.two_pow_pos n
  have h1 : 2 ^ i &&& allN (n : Int) < 2 ^ n := Nat.lt_of_le_of_lt Nat.and_le_right (by omega)
  exact Nat.xor_lt_two_pow h1 (Nat.lt_of_le_of_lt Nat.and_le_left h1)
set_option maxHeartbeats 1600000 in
theorem rBall {w : World} {G R : Nat} {near : List Nat} (i off : Nat) (hi64 : i < 64) (ho : off < 18446744073709551616) (hnp : ∀ j, nr near j < 2 ^ near.length) (h : GrAt w G R near) (hTw : T64 w) :
    Calls Tryz.prog 411 #[.pointer (some ⟨G, 0, none⟩), .int .i64 (i : Int), .int .i64 64, .int .u64 (off : Int)] w fun e w' => e = .returned (.int .u64 (fromN near.length (nr near) off i : Int)) ∧ Below w.heap.size w w' := by
  have hle := h.le
  have CR := Lib.hid (rRings i off hi64 ho hnp h hTw)
  have HL := Lib.hid (fun x hx => pow64 (ringsN_lt (off := off) hnp 65 0 _ (startN_lt near.length i off hle) x hx) hle)
  have HF : Hid (fromN near.length (nr near) off i = unionL (ringsN (nr near) off 65 0 (startN near.length i off))) := rfl
  generalize fromN near.length (nr near) off i = F at *
  obtain ⟨l, hl⟩ : ∃ l, ringsN (nr near) off 65 0 (startN near.length i off) = l := ⟨_, rfl⟩
  rw [hl] at CR HL HF
  clear hl
  go_enter Tryz.func411, Tryz.ntmps411
  go_wp2_with fail
  refine CR.out.mono ?_
  rintro e w1 ⟨hlen, v, rfl, hown, hb⟩
  obtain ⟨A, c, rfl, hcap⟩ := own_form hown
  have hat : ∀ k (hk : k < l.length), ∃ g, A = some ⟨g, 0, none⟩ ∧ w1.cell? ⟨g, k, none⟩ = some (.int .u64 (l[k] : Int)) := fun k hk => by
    obtain ⟨g, cap, hv⟩ := Joins.ownsRow_form hown (by omega)
    obtain rfl : A = some ⟨g, 0, none⟩ := by injection hv
    refine ⟨g, rfl, ?_⟩
    have := hown.cells (g := g) rfl k (.int .u64 (l[k] : Int)) (by rw [List.getElem?_map, List.getElem?_eq_getElem hk]; rfl)
    rwa [Lib.add_plain, Nat.zero_add] at this
  obtain ⟨n, hn⟩ : ∃ n, l.length = n := ⟨_, rfl⟩
  have HN := Lib.hid hn
  rw [hn] at hlen hcap ⊢
  have HAT := Lib.hid hat
  have HB := Lib.hid hb
  clear hown hat hb hn
  go_wp2
  go_loop [9, 17] (fun s i => ∃ k : Nat, k ≤ n ∧ i = .int .i64 k ∧ s = .int .u64 (unionL (l.take k) : Int)) (fun _ i => n - (intOf i).toNat)
  case atStart => exact ⟨0, Nat.zero_le _, rfl, rfl⟩
  case round =>
    obtain ⟨k, hk, rfl, rfl⟩ := hrel
    by_cases hlt : k < n
    · have hlt' : k < l.length := by rw [HN.out]; exact hlt
      obtain ⟨g, rfl, c0⟩ := HAT.out k hlt'
      have HS := Lib.hid (unionL_take l hlt')
      have h1 := HL.out _ (List.getElem_mem hlt')
      have h2 := unionL_lt (l.take k) (fun x hx => HL.out _ (List.mem_of_mem_take hx))
      have hor := bits_or_u64_nat _ _ h2 h1
      generalize unionL (l.take k) = X at *
      generalize l[k] = y at *
      go_wp2
      go_round
      case rel => exact ⟨k + 1, by omega, by go_num, by rw [HS.out]⟩
      case measure => simp [intOf]; omega
    · have HT : Hid (l.take k = l) := List.take_of_length_le (by rw [HN.out]; omega)
      rw [HT.out]
      go_wp2
      go_ret
      exact ⟨ret_int (by rw [HF.out]), HB.out⟩
theorem rFrom {w : World} {G R : Nat} {near : List Nat} (i off : Nat) (hi64 : i < 64) (ho : off < 18446744073709551616) (hnp : ∀ j, nr near j < 2 ^ near.length) (h : GrAt w G R near) (hTw : T64 w) :
    Calls Tryz.prog 372 #[.pointer (some ⟨G, 0, none⟩), .int .i64 (i : Int), .int .u64 (off : Int)] w fun e w' => e = .returned (.int .u64 (fromN near.length (nr near) off i : Int)) ∧ Below w.heap.size w w' := by
  have C := Lib.hid (rBall i off hi64 ho hnp h hTw)
  generalize fromN near.length (nr near) off i = F at *
  go_enter Tryz.func372, Tryz.ntmps372
  go_wp2_with fail
  refine C.out.mono ?_
  rintro e w1 ⟨rfl, hb⟩
  go_wp2
  go_ret
  exact ⟨rfl, hb⟩
theorem thereN_lt (n off : Nat) : thereN n off < 18446744073709551616 := andNot_lt64 (allN_lt _)
theorem rWhole {w : World} {G R : Nat} {near : List Nat} (off : Nat) (ho : off < 18446744073709551616) (hnp : ∀ j, nr near j < 2 ^ near.length) (h : GrAt w G R near) (hTw : T64 w) :
    Calls Tryz.prog 322 #[.pointer (some ⟨G, 0, none⟩), .int .u64 (off : Int)] w fun e w' => e = .returned (.bool (wholeB near.length (nr near) off)) ∧ Below w.heap.size w w' := by
  have hle := h.le
  have hal := allN_lt (near.length : Int)
  have hba := bits_andNot_u64_nat (allN (near.length : Int)) off hal ho
  have CN := Lib.hid (grN h)
  have CA := Lib.hid (fun W => nodesAll (near.length : Int) (by omega) (by omega) W)
  have HT : Hid (thereN near.length off = allN (near.length : Int) ^^^ (allN (near.length : Int) &&& off)) := rfl
  by_cases h0 : thereN near.length off = 0
  · have HW : Hid (wholeB near.length (nr near) off = false) := by unfold Hid wholeB; rw [decide_eq_false (by simp [h0])]; rfl
    rw [← HT.out, h0] at hba
    generalize allN (near.length : Int) = al at *
    go_enter Tryz.func322, Tryz.ntmps322
    go_wp2_with fail
    refine CN.out.mono ?_
    rintro e w1 ⟨rfl, rfl⟩
    go_wp2_with fail
    refine (CA.out _).mono ?_
    rintro e w1 ⟨rfl, rfl⟩
    go_wp2
    go_ret
    exact ⟨ret_bool (by rw [HW.out]), Below.refl _ _⟩
  · have hTl := thereN_lt near.length off
    have hl64 : low (thereN near.length off) < 64 := by obtain ⟨_, _, hx⟩ := low_spec h0 hTl; exact hx
    have CF := Lib.hid (rFrom (low (thereN near.length off)) off hl64 ho hnp h hTw)
    have CL := Lib.hid (nodesLeast (thereN near.length off) h0 hTl w hTw)
    have HW : Hid (wholeB near.length (nr near) off = (fromN near.length (nr near) off (low (thereN near.length off)) == thereN near.length off)) := by unfold Hid wholeB; rw [decide_eq_true h0]; rfl
    have hne : ((thereN near.length off : Int) != 0) = true := by simp; omega
    rw [← HT.out] at hba
    generalize thereN near.length off = th at *
    generalize fromN near.length (nr near) off (low th) = fr at *
    generalize low th = lo at *
    generalize allN (near.length : Int) = al at *
    clear h0
    go_enter Tryz.func322, Tryz.ntmps322
    go_wp2_with fail
    refine CN.out.mono ?_
    rintro e w1 ⟨rfl, rfl⟩
    go_wp2_with fail
    refine (CA.out _).mono ?_
    rintro e w1 ⟨rfl, rfl⟩
    go_wp2_with fail
    refine CL.out.mono ?_
    rintro e w1 ⟨rfl, rfl⟩
    go_wp2_with fail
    refine CF.out.mono ?_
    rintro e w1 ⟨rfl, hb⟩
    go_wp2
    go_ret
    exact ⟨ret_bool (by rw [HW.out]; rw [Bool.eq_iff_iff]; simp; omega), hb⟩
theorem rCuts {w : World} {G R : Nat} {near : List Nat} (off : Nat) (ho : off < 18446744073709551616) (hnp : ∀ j, nr near j < 2 ^ near.length) (h : GrAt w G R near) (hTw : T64 w) :
    Calls Tryz.prog 259 #[.pointer (some ⟨G, 0, none⟩), .int .u64 (off : Int)] w fun e w' => e = .returned (.bool (!wholeB near.length (nr near) off)) ∧ Below w.heap.size w w' := by
  have C := Lib.hid (rWhole off ho hnp h hTw)
  generalize wholeB near.length (nr near) off = F at *
  go_enter Tryz.func259, Tryz.ntmps259
  go_wp2_with fail
  refine C.out.mono ?_
  rintro e w1 ⟨rfl, hb⟩
  go_wp2
  go_ret
  exact ⟨rfl, hb⟩
end Go.Proofs.YteahiphmhaedpaaGreatDoor

namespace Go.Proofs.YteahiphmhaedpaaGreatDoor
open Go.RowKit Law Go.Shelf
set_option linter.unusedVariables false
set_option linter.unusedSimpArgs false
set_option maxRecDepth 100000
attribute [local go_sem] Oper.semAt_some

/-! ### what it computes -/
def nextN (s : Nat) : Nat := (s + 2 ^ low s) ||| ((s ^^^ (s + 2 ^ low s)) / 2 ^ low s / 4)
def goN (all : Nat) : Nat → Nat → List Nat
  | 0, _ => []
  | f + 1, s => if andNot s all = 0 then s :: goN all f (nextN s) else []
def okN (all : Nat) : Nat → Nat → Bool
  | 0, s => decide (andNot s all ≠ 0) && (decide (s ≠ 0) && decide (s < 4294967296))
  | f + 1, s => (decide (s ≠ 0) && decide (s < 4294967296)) && (if andNot s all = 0 then okN all f (nextN s) else true)
def exactN (n k : Nat) : List Nat := if k = 0 then [0] else goN (allN (n : Int)) 100 (allN (k : Int))
def listN (n : Nat) (f : Nat) : List Nat := (List.range (min n f + 1)).flatMap (exactN n)
theorem ok_all : ∀ n : Nat, n < 9 → ∀ k : Nat, k < 4 → k ≠ 0 → okN (allN (n : Int)) 100 (allN (k : Int)) = true := by decide +kernel
theorem okN_pos {all f s : Nat} (h : okN all f s = true) : s ≠ 0 ∧ s < 4294967296 := by
  cases f with
  | zero => simp only [okN, Bool.and_eq_true, decide_eq_true_eq] at h; exact h.2
  | succ f => simp only [okN, Bool.and_eq_true, decide_eq_true_eq] at h; exact h.1
theorem nextN_pos {s : Nat} (h : s ≠ 0) : nextN s ≠ 0 := by
  unfold nextN
  intro e
  have h1 := Nat.left_le_or (n := s + 2 ^ low s) (m := (s ^^^ (s + 2 ^ low s)) / 2 ^ low s / 4)
  rw [e] at h1
  have := Nat.two_pow_pos (low s)
  omega
theorem low_le {s : Nat} (h0 : s ≠ 0) (hs : s < 2 ^ 64) : 2 ^ low s ≤ s := by
  obtain ⟨m, hm, _⟩ := low_spec h0 hs
  generalize 2 ^ low s = p at *
  rw [hm, Nat.mul_add]
  omega
theorem cNext (s : Nat) (h0 : s ≠ 0) (hs : s < 4294967296) (w : World) : Calls Tryz.prog 371 #[.int .u64 (s : Int)] w fun e w' => e = .returned (.int .u64 (nextN s : Int)) ∧ w' = w := by
  have hs64 : s < 18446744073709551616 := by omega
  have hp : 1 ≤ 2 ^ low s := Nat.two_pow_pos _
  have hle := low_le h0 hs64
  have hna := neg_and s h0 hs64
  have hx : s ^^^ (s + 2 ^ low s) < 18446744073709551616 := Nat.xor_lt_two_pow (n := 64) (by omega) (by omega)
  have hbx := bits_xor_u64_nat s (s + 2 ^ low s) hs64 (by omega)
  have hd1 : (s ^^^ (s + 2 ^ low s)) / 2 ^ low s ≤ s ^^^ (s + 2 ^ low s) := Nat.div_le_self ..
  have hd2 : (s ^^^ (s + 2 ^ low s)) / 2 ^ low s / 4 ≤ (s ^^^ (s + 2 ^ low s)) / 2 ^ low s := Nat.div_le_self ..
  have hbo := bits_or_u64_nat (s + 2 ^ low s) ((s ^^^ (s + 2 ^ low s)) / 2 ^ low s / 4) (by omega) (by omega)
  have HV : Hid (nextN s = (s + 2 ^ low s) ||| ((s ^^^ (s + 2 ^ low s)) / 2 ^ low s / 4)) := rfl
  generalize 2 ^ low s = P at *
  have hup : ((s : Int) + (P : Int) == 0) = false := by simp; omega
  have hP : ((P : Int) == 0) = false := by simp; omega
  clear h0
  go_enter Tryz.func371, Tryz.ntmps371
  have HE : Hid (bits .or .u64 ((s : Int) + (P : Int)) (IntKind.u64.wrap ((bits .xor .u64 (s : Int) ((s : Int) + (P : Int))).tdiv (P : Int)) / 4) = (nextN s : Int)) := by
    unfold Hid
    rw [HV.out, ← Int.natCast_add, hbx, ← Int.ofNat_tdiv, wrap_nat (by omega), show (4 : Int) = ((4 : Nat) : Int) from rfl, ← Int.natCast_ediv, hbo]
  clear hbx hbo HV hd1 hd2
  go_wp2
  go_ret
  exact ⟨ret_int HE.out, rfl⟩

/-! ### all sets of as many nodes -/
abbrev U64n := { x : Nat // x < 18446744073709551616 }
def encU (x : U64n) : Array Value := #[.int .u64 (x.1 : Int)]
def toU (x : Nat) : U64n := ⟨x % 18446744073709551616, Nat.mod_lt _ (by decide)⟩
theorem toU_val {x : Nat} (h : x < 18446744073709551616) : (toU x).1 = x := Nat.mod_eq_of_lt h
def ExactPost (n k : Nat) (J Jx : List U64n → World → Prop) (pre0 : List U64n) (e : Ending) (W' : World) : Prop :=
  (e = .returned (.bool true) ∧ J (pre0 ++ (exactN n k).map toU) W') ∨ (e = .returned (.bool false) ∧ ∃ p, p <+: (exactN n k).map toU ∧ Jx (pre0 ++ p) W')
theorem cExact (n k : Nat) (hn : n < 9) (hk : k < 4) (m l : Nat) (J Jx : List U64n → World → Prop) (pre0 : List U64n) (N : Nat) (hN : pre0.length + (exactN n k).length ≤ N)
    (hY : ∀ pre x W1, J pre W1 → pre.length < N → YieldAt Fence.wide (m - 1) Tryz.prog l (encU x) W1 fun e W' => (e = .returned (.bool true) ∧ J (pre ++ [x]) W') ∨ (e = .returned (.bool false) ∧ Jx (pre ++ [x]) W'))
    (W : World) (hJ : J pre0 W) : CallsIn Fence.wide m Tryz.prog 321 #[.int .i64 (n : Int), .int .i64 (k : Int), .func (.yield l) #[] #[]] W (ExactPost n k J Jx pre0) := by
  have CA := Lib.hid (fun W => nodesAll (n : Int) (by omega) (by omega) W)
  have CB := Lib.hid (fun W => nodesAll (k : Int) (by omega) (by omega) W)
  have ha := allN_lt (n : Int)
  refine callsIn_of_wp Tryz.func321 rfl trivial ?_ rfl
  simp only [Tryz.ntmps321, List.size_toArray, List.length_cons, List.length_nil, Nat.reduceAdd, Nat.reduceSub, Array.replicate_succ, Array.replicate_zero, List.push_toArray, List.append_toArray, List.nil_append, List.cons_append]
  by_cases hk0 : k = 0
  · subst hk0
    have hex : exactN n 0 = [0] := rfl
    rw [hex] at hN
    have hN' : pre0.length + 1 ≤ N := hN
    obtain ⟨fn, tmps, assign, body, hy, hR⟩ := hY pre0 (toU 0) W hJ (by omega)
    have HX : Hid (∀ e W', ((e = .returned (.bool true) ∧ J (pre0 ++ [toU 0]) W') ∨ (e = .returned (.bool false) ∧ Jx (pre0 ++ [toU 0]) W')) → ExactPost n 0 J Jx pre0 e W') := by
      rintro e W' (⟨rfl, h⟩ | ⟨rfl, h⟩)
      · exact .inl ⟨rfl, by rw [hex]; exact h⟩
      · exact .inr ⟨rfl, [toU 0], by rw [hex]; exact List.prefix_rfl, h⟩
    have hy0 : encU (toU 0) = #[.int .u64 0] := rfl
    rw [hy0] at hy
    generalize allN (n : Int) = all at *
    gi_wp2
    refine ⟨trivial, (fun h => by cases h), (callsIn_wide.2 (CA.out _)).mono ?_⟩
    rintro e w' ⟨rfl, rfl⟩
    gi_wp2
    refine ⟨trivial, (fun h => by cases h), (callsIn_wide.2 (CB.out _)).mono ?_⟩
    rintro e w' ⟨rfl, rfl⟩
    gi_wp2
    refine ⟨(fun h => by cases h), hR.mono ?_⟩
    rintro e W3 hp
    have hq := HX.out e W3 hp
    rcases hp with ⟨rfl, _⟩ | ⟨rfl, _⟩
    · have HQ := Lib.hid hq
      clear hq hy hR HX
      gi_wp2
      go_ret
      exact HQ.out
    · have HQ := Lib.hid hq
      clear hq hy hR HX
      gi_wp2
      go_ret
      exact HQ.out
  · have hex : exactN n k = goN (allN (n : Int)) 100 (allN (k : Int)) := by unfold exactN; rw [if_neg hk0]
    have hok := ok_all n hn k hk hk0
    have hk0' : ((k : Int) == 0) = false := by simp; omega
    generalize allN (n : Int) = all at *
    generalize allN (k : Int) = s0 at *
    obtain ⟨L, hL⟩ : ∃ L, exactN n k = L := ⟨_, rfl⟩
    have HP : Hid (∀ e W', ((e = .returned (.bool true) ∧ J (pre0 ++ L.map toU) W') ∨ (e = .returned (.bool false) ∧ ∃ p, p <+: L.map toU ∧ Jx (pre0 ++ p) W')) → ExactPost n k J Jx pre0 e W') := fun e W' h => by unfold ExactPost; rw [hL]; exact h
    rw [hL] at hex hN
    clear hL hk0
    gi_wp2
    refine ⟨trivial, (fun h => by cases h), (callsIn_wide.2 (CA.out _)).mono ?_⟩
    rintro e w' ⟨rfl, rfl⟩
    gi_wp2
    refine ⟨trivial, (fun h => by cases h), (callsIn_wide.2 (CB.out _)).mono ?_⟩
    rintro e w' ⟨rfl, rfl⟩
    gi_wp2
    gi_loopw [8] (fun p wr => ∃ (pre : List Nat) (f s : Nat), p = .int .u64 (s : Int) ∧ okN all f s = true ∧ pre ++ goN all f s = L ∧ J (pre0 ++ pre.map toU) wr) (fun p _ => 4294967296 - (intOf p).toNat)
    case atStart => exact ⟨[], 100, s0, rfl, hok, by rw [hex]; rfl, by simpa using hJ⟩
    case round =>
      obtain ⟨pre, f, s, rfl, hoks, hpre, hJs⟩ := hrel
      obtain ⟨hs0, hs1⟩ := okN_pos hoks
      have hba := bits_andNot_u64_nat s all (by omega) ha
      have hba' : bits .andNot .u64 (s : Int) (all : Int) = (andNot s all : Int) := hba
      by_cases hin : andNot s all = 0
      · obtain ⟨f, rfl⟩ : ∃ f', f = f' + 1 := by
          cases f with
          | zero => simp only [okN, Bool.and_eq_true, decide_eq_true_eq] at hoks; exact absurd hin hoks.1
          | succ f => exact ⟨f, rfl⟩
        have hgo : goN all (f + 1) s = s :: goN all f (nextN s) := by show (if andNot s all = 0 then _ else _) = _; rw [if_pos hin]
        have hok2 : okN all f (nextN s) = true := by
          simp only [okN, Bool.and_eq_true] at hoks
          have := hoks.2
          rwa [if_pos hin] at this
        rw [hgo] at hpre
        have hlen : pre.length < L.length := by rw [← hpre, List.length_append, List.length_cons]; omega
        have hv : encU (toU s) = #[.int .u64 (s : Int)] := by unfold encU; rw [toU_val (by omega)]
        obtain ⟨fn, tmps, assign, body, hy, hR⟩ := hY (pre0 ++ pre.map toU) (toU s) wr hJs (by rw [List.length_append, List.length_map]; omega)
        rw [hv] at hy
        rw [hin] at hba'
        have CX := Lib.hid (fun W => cNext s hs0 hs1 W)
        have hnp := nextN_pos hs0
        have hgt : s < nextN s := by
          have h1 := Nat.left_le_or (n := s + 2 ^ low s) (m := (s ^^^ (s + 2 ^ low s)) / 2 ^ low s / 4)
          have h2 := Nat.two_pow_pos (low s)
          unfold nextN
          omega
        have HN : Hid (J ((pre0 ++ pre.map toU) ++ [toU s]) = J (pre0 ++ (pre ++ [s]).map toU)) := by unfold Hid; rw [List.map_append, List.append_assoc]; rfl
        have HM : Hid ((pre ++ [s]) ++ goN all f (nextN s) = L) := by unfold Hid; rw [← hpre, List.append_assoc]; rfl
        have HPX : Hid (pre.map toU ++ [toU s] <+: L.map toU) := by
          unfold Hid
          rw [← hpre, List.map_append, List.map_cons]
          exact ⟨(goN all f (nextN s)).map toU, by simp⟩
        generalize nextN s = t at *
        have ht0 : ((t : Int) == 0) = false := by simp; omega
        have HT := Lib.hid (And.intro hok2 hgt)
        clear hoks hpre hgo hba hin hok2 hgt hs0 hnp
        gi_wp2
        refine ⟨(fun h => by cases h), hR.mono ?_⟩
        rintro e W3 (⟨rfl, hJ3⟩ | ⟨rfl, hJx3⟩)
        · rw [HN.out] at hJ3
          clear hy hR
          gi_wp2
          refine ⟨trivial, (fun h => by cases h), (callsIn_wide.2 (CX.out _)).mono ?_⟩
          rintro e w' ⟨rfl, rfl⟩
          gi_wp2
          go_roundw
          case rel => exact ⟨pre ++ [s], f, t, rfl, HT.out.1, HM.out, hJ3⟩
          case measure => have := HT.out.2; simp [intOf]; omega
        · clear hy hR
          have HQ := Lib.hid (HP.out _ _ (.inr ⟨rfl, _, HPX.out, by rw [← List.append_assoc]; exact hJx3⟩))
          gi_wp2
          go_ret
          exact HQ.out
      · have hgo : goN all f s = [] := by
          cases f with
          | zero => rfl
          | succ f => show (if andNot s all = 0 then _ else _) = _; rw [if_neg hin]
        rw [hgo, List.append_nil] at hpre
        subst hpre
        have hne : ((andNot s all : Int) == 0) = false := by simp; omega
        have HQ := Lib.hid (HP.out _ _ (.inl ⟨rfl, hJs⟩))
        clear hgo hin hba
        gi_wp2
        go_ret
        exact HQ.out
end Go.Proofs.YteahiphmhaedpaaGreatDoor

namespace Go.Proofs.YteahiphmhaedpaaGreatDoor
open Go.RowKit Law Go.Shelf
set_option linter.unusedVariables false
set_option linter.unusedSimpArgs false
set_option maxRecDepth 100000
attribute [local go_sem] Oper.semAt_some

theorem cEach (n f : Nat) (hn : n < 9) (hf : f < 4) (w : World) : Calls Tryz.prog 258 #[.int .i64 (n : Int), .int .i64 (f : Int)] w fun e w' =>
    e = .returned (.func (.func 320) #[] #[.pointer (some ⟨w.heap.size, 0, none⟩), .pointer (some ⟨w.heap.size + 1, 0, none⟩)]) ∧ BoxIs w.heap.size (.int .i64 (n : Int)) w' ∧ BoxIs (w.heap.size + 1) (.int .i64 (f : Int)) w' ∧ w'.heap.size = w.heap.size + 2 ∧ Below w.heap.size w w' := by
  have hm1 : max (n : Int) 0 = n := by omega
  have hm2 : min (n : Int) 64 = n := by omega
  go_enter Tryz.func258, Tryz.ntmps258
  go_wp2
  go_ret
  have h0 := boxIs_new w (.int .i64 (n : Int)) 3
  have h1 := boxIs_new (w.alloc (.cells #[.int .i64 (n : Int)] 3)) (.int .i64 (f : Int)) 3
  rw [World.size_alloc] at h1
  have h0' := box_alloc h0 (.cells #[.int .i64 (f : Int)] 3)
  exact ⟨rfl, h0', h1, by simp, ((Below.refl _ w).alloc (Nat.le_refl _) _).alloc (by simp) _⟩
theorem yieldAny {P : Program} {m m' l : Nat} {args : Array Value} {W : World} {R : Ending → World → Prop} (h : YieldAt Fence.wide m P l args W R) : YieldAt Fence.wide m' P l args W R := by
  obtain ⟨fn, tmps, assign, body, hy, hR⟩ := h
  exact ⟨fn, tmps, assign, body, hy, hR.1, fun c cs _ => hR.2 c cs (room_wide _)⟩
def listK (n k : Nat) : List Nat := (List.range k).flatMap (exactN n)
theorem listK_succ (n k : Nat) : listK n (k + 1) = listK n k ++ exactN n k := by
  unfold listK; rw [List.range_succ, List.flatMap_append]; simp
theorem listK_pre (n : Nat) {k j : Nat} (h : k ≤ j) : listK n k <+: listK n j := by
  induction j with
  | zero => obtain rfl : k = 0 := by omega
            exact List.prefix_rfl
  | succ j ih =>
    by_cases e : k = j + 1
    · subst e; exact List.prefix_rfl
    · rw [listK_succ]; exact (ih (by omega)).trans (List.prefix_append ..)
theorem listN_eq (n f : Nat) : listN n f = listK n (min n f + 1) := rfl
abbrev listU (n f : Nat) : List U64n := (listN n f).map toU
set_option maxHeartbeats 1600000 in
theorem eachStops (n f : Nat) (hn : n < 9) (hf : f < 4) (m B1 B2 : Nat) (w : World) (h1 : BoxIs B1 (.int .i64 (n : Int)) w) (h2 : BoxIs B2 (.int .i64 (f : Int)) w) :
    SeqStopsK Fence.wide m Tryz.prog 320 #[.pointer (some ⟨B1, 0, none⟩), .pointer (some ⟨B2, 0, none⟩)] encU (Below w.heap.size) (fun xs => xs = listU n f) (fun p => p <+: listU n f) (listN n f).length w := by
  intro l J Jx W hW hJ hJx hY h0
  have hY2 : ∀ (mm : Nat) (pre : List U64n) (x : U64n) (W1 : World), (J pre W1 ∧ Below w.heap.size w W1) → pre.length < (listN n f).length → YieldAt Fence.wide mm Tryz.prog l (encU x) W1 fun e W' => (e = .returned (.bool true) ∧ (J (pre ++ [x]) W' ∧ Below w.heap.size w W')) ∨ (e = .returned (.bool false) ∧ Jx (pre ++ [x]) W') := fun mm pre x W1 hj hl =>
    yieldAny ((hY pre x W1 hj.1 hl).mono fun e W' hp => by
      rcases hp with ⟨rfl, h3, h4⟩ | ⟨rfl, h3⟩
      · exact .inl ⟨rfl, h3, hj.2.trans h4⟩
      · exact .inr ⟨rfl, h3⟩)
  refine callsIn_of_wp Tryz.func320 rfl trivial ?_ rfl
  simp only [Tryz.ntmps320, List.size_toArray, List.length_cons, List.length_nil, Nat.reduceAdd, Nat.reduceSub, Array.replicate_succ, Array.replicate_zero, List.push_toArray, List.append_toArray, List.nil_append, List.cons_append]
  gi_wp2
  gi_loopw [4] (fun p wr => ∃ k : Nat, k ≤ min n f + 1 ∧ p = .int .i64 (k : Int) ∧ J ((listK n k).map toU) wr ∧ Below w.heap.size w wr) (fun p _ => 100 - (intOf p).toNat)
  case atStart => exact ⟨0, Nat.zero_le _, rfl, h0, hW⟩
  case round =>
    obtain ⟨k, hk, rfl, hJk, hb⟩ := hrel
    have c1 := (box_keep hb h1).1
    have c2 := (box_keep hb h2).1
    have hmin : min (n : Int) (f : Int) = ((min n f : Nat) : Int) := by omega
    obtain ⟨M, hM⟩ : ∃ M, min n f = M := ⟨_, rfl⟩
    rw [hM] at hk hmin
    have hN : listN n f = listK n (M + 1) := by rw [← hM]; rfl
    have hMf : M < 4 := by omega
    by_cases hlt : k ≤ M
    · have hpr := listK_pre n (show k + 1 ≤ M + 1 by omega)
      have CE := Lib.hid (fun mm => cExact n k hn (by omega) mm l (fun pre W => J pre W ∧ Below w.heap.size w W) Jx ((listK n k).map toU) (listN n f).length (by
        have h3 := hpr.length_le
        rw [listK_succ, List.length_append] at h3
        rw [List.length_map, hN]; exact h3) (fun pre x W1 hj hl => hY2 _ pre x W1 hj hl) wr ⟨hJk, hb⟩)
      have HS : Hid ((listK n k).map toU ++ (exactN n k).map toU = (listK n (k + 1)).map toU) := by unfold Hid; rw [listK_succ, List.map_append]
      have HPX : Hid (∀ p, p <+: (exactN n k).map toU → (listK n k).map toU ++ p <+: listU n f) := fun p hp => by
        unfold listU
        rw [hN]
        refine List.IsPrefix.trans ?_ (hpr.map toU)
        rw [← HS.out]
        exact (List.prefix_append_right_inj _).2 hp
      clear hY hY2 hpr hJk
      gi_wp2
      refine ⟨trivial, (fun h => by cases h), (CE.out _).mono ?_⟩
      rintro e W3 (⟨rfl, hJ3, hb3⟩ | ⟨rfl, p, hp, hJx3⟩)
      · rw [HS.out] at hJ3
        gi_wp2
        go_roundw
        case rel => exact ⟨k + 1, by omega, by go_num, hJ3, hb3⟩
        case measure => simp [intOf]; omega
      · have HQ := Lib.hid (HPX.out p hp)
        gi_wp2
        refine bodyPost_ret (results_none rfl _ _ _) rfl ?_
        exact ⟨⟨_, rfl⟩, .inr ⟨_, HQ.out, hJx3⟩⟩
    · obtain rfl : k = M + 1 := by omega
      have HQ : Hid (∃ xs, xs = listU n f ∧ J xs wr) := ⟨_, rfl, by unfold listU; rw [hN]; exact hJk⟩
      clear hY hY2 hJk
      gi_wp2
      go_end0
      exact ⟨⟨_, rfl⟩, .inl HQ.out⟩

/-! ### First, Safe -/
theorem list_lt : ∀ n : Nat, n < 9 → ∀ f : Nat, f < 4 → ∀ s ∈ listN n f, s < 2 ^ n := by decide +kernel
theorem listN_lt {n f : Nat} (hn : n < 9) (hf : f < 4) (s : Nat) (hs : s ∈ listN n f) : s < 18446744073709551616 := Nat.lt_of_lt_of_le (list_lt n hn f hf s hs) (Nat.pow_le_pow_right (by decide) (show n ≤ 64 by omega))
def hasCut (n : Nat) (near : Nat → Nat) (f : Nat) : Bool := (listN n f).any fun s => !wholeB n near s
def safeB (n : Nat) (near : Nat → Nat) (f : Int) : Bool := decide (0 ≤ f) && (decide (f ≤ 3) && (decide (f < n) && !hasCut n near f.toNat))
def FirstI (w : World) (G : Nat) (n : Nat) (near : Nat → Nat) (pre : List U64n) (W : World) : Prop :=
  (BoxIs w.heap.size (.pointer (some ⟨G, 0, none⟩)) W ∧ BoxIs (w.heap.size + 1) (.int .u64 0) W ∧ BoxIs (w.heap.size + 1 + 1) (.bool false) W ∧ (∀ s ∈ pre, wholeB n near s.1 = true) ∧ w.heap.size + 5 ≤ W.heap.size) ∧ Below w.heap.size w W
def FirstX (w : World) (n : Nat) (near : Nat → Nat) (c : Code) (pre : List U64n) (W : World) : Prop :=
  (c = .ret ∧ (∃ x : Nat, BoxIs (w.heap.size + 1) (.int .u64 (x : Int)) W) ∧ BoxIs (w.heap.size + 1 + 1) (.bool true) W ∧ (∃ s ∈ pre, wholeB n near s.1 = false)) ∧ Below w.heap.size w W
set_option maxHeartbeats 3200000 in
theorem cFirst {w : World} {G R : Nat} {near : List Nat} (f : Nat) (hn : near.length < 9) (hf : f < 4) (hnp : ∀ j, nr near j < 2 ^ near.length) (h : GrAt w G R near) (hTw : T64 w) :
    Calls Tryz.prog 186 #[.pointer (some ⟨G, 0, none⟩), .int .i64 (f : Int)] w fun e w' => (∃ x : Nat, e = .returned (.tuple #[.int .u64 (x : Int), .bool (hasCut near.length (nr near) f)])) ∧ Below w.heap.size w w' := by
  refine (callsIn_wide (n := 9)).1 ?_
  refine callsIn_of_wp_marks Tryz.func186 rfl trivial ?_ rfl
  simp only [Tryz.ntmps186, List.size_toArray, List.length_cons, List.length_nil, Nat.reduceAdd, Nat.reduceSub, Array.replicate_succ, Array.replicate_zero, List.push_toArray, List.append_toArray, List.nil_append, List.cons_append]
  have hb1 : Below w.heap.size w (((w.alloc (.cells #[.pointer (some ⟨G, 0, none⟩)] 126)).alloc (.cells #[.int .u64 0] 69)).alloc (.cells #[.bool false] 4)) := (((Below.refl _ w).alloc (Nat.le_refl _) _).alloc (by simp) _).alloc (by simp only [World.size_alloc]; omega) _
  have x0 := box_alloc (box_alloc (boxIs_new w (.pointer (some ⟨G, 0, none⟩)) 126) (.cells #[.int .u64 0] 69)) (.cells #[.bool false] 4)
  have x1 := box_alloc (boxIs_new (w.alloc (.cells #[.pointer (some ⟨G, 0, none⟩)] 126)) (.int .u64 0) 69) (.cells #[.bool false] 4)
  have x2 := boxIs_new ((w.alloc (.cells #[.pointer (some ⟨G, 0, none⟩)] 126)).alloc (.cells #[.int .u64 0] 69)) (.bool false) 4
  simp only [World.size_alloc] at x1 x2
  obtain ⟨W1, hW1⟩ : ∃ W1, ((w.alloc (.cells #[.pointer (some ⟨G, 0, none⟩)] 126)).alloc (.cells #[.int .u64 0] 69)).alloc (.cells #[.bool false] 4) = W1 := ⟨_, rfl⟩
  have hsz1 : W1.heap.size = w.heap.size + 3 := by rw [← hW1]; simp
  rw [hW1] at hb1 x0 x1 x2
  have c0 := x0.1
  have CN := Lib.hid (grN (h.keep hb1))
  have hmin : min (f : Int) 3 = (f : Int) := by omega
  gi_wp2
  refine ⟨trivial, (callsIn_wide.2 CN.out).mono ?_⟩
  rintro e w' ⟨rfl, rfl⟩
  gi_wp2
  refine ⟨trivial, (callsIn_wide.2 (cEach near.length f hn hf _)).mono ?_⟩
  rintro e W2 ⟨rfl, e1, e2, hsz2, hb2⟩
  rw [hsz1] at e1 e2 hsz2 hb2
  gi_wp2
  have H0 := Lib.hid h
  refine wpIn_rangeFunc_ownF rfl (by omega) (gf := 320) (lb := #[.pointer (some ⟨w.heap.size + 3, 0, none⟩), .pointer (some ⟨w.heap.size + 3 + 1, 0, none⟩)]) (by simp [Act.eval]) trivial (enters_of Tryz.func320 (by kernel_rfl) rfl) (eachStops near.length f hn hf _ _ _ W2 e1 e2)
    belowK_t (belowK_b (Nat.le_refl _)) (Below.refl _ _) (fun _ => rfl) (FirstI w G near.length (nr near)) (FirstX w near.length (nr near))
    ?hI ?hIx ?h0 (fun x => { tmps := #[.pointer (some ⟨G, 0, none⟩), .int .i64 (f : Int), .pointer (some ⟨w.heap.size, 0, none⟩), undef, .pointer (some ⟨w.heap.size + 1, 0, none⟩), .pointer (some ⟨w.heap.size + 1 + 1, 0, none⟩), .int .u64 (x.1 : Int), .pointer (some ⟨G, 0, none⟩), .int .i64 (near.length : Int), .int .i64 (f : Int), .int .i64 (f : Int), .func (.func 320) #[] #[.pointer (some ⟨w.heap.size + 3, 0, none⟩), .pointer (some ⟨w.heap.size + 3 + 1, 0, none⟩)], .int .u64 (x.1 : Int), undef, undef, undef, undef], defers := [] }) ?assign ?body ?done ?stop
  case hI =>
    refine OwnFrom.and (Own.from (fun s A B row hs hg hr => ?_) _) (ownFrom_below (Nat.le_refl _) (by omega))
    exact ⟨⟨cell_kept hs.1.1 hg hr, (frozen_kept hs.1.1 hg hr).trans hs.1.2⟩, ⟨cell_kept hs.2.1.1 hg hr, (frozen_kept hs.2.1.1 hg hr).trans hs.2.1.2⟩, ⟨cell_kept hs.2.2.1.1 hg hr, (frozen_kept hs.2.2.1.1 hg hr).trans hs.2.2.1.2⟩, hs.2.2.2.1, Nat.le_trans hs.2.2.2.2 hg.size⟩
  case hIx =>
    intro c
    refine OwnFrom.and (Own.from (fun s A B row hs hg hr => ?_) _) (ownFrom_below (Nat.le_refl _) (by omega))
    obtain ⟨hc, ⟨x, hx⟩, hy, hz⟩ := hs
    exact ⟨hc, ⟨x, cell_kept hx.1 hg hr, (frozen_kept hx.1 hg hr).trans hx.2⟩, ⟨cell_kept hy.1 hg hr, (frozen_kept hy.1 hg hr).trans hy.2⟩, hz⟩
  case h0 => exact ⟨⟨box_keep (hb2.mono (by omega)) x0, box_keep (hb2.mono (by omega)) x1, box_keep (hb2.mono (by omega)) x2, fun s hs => by simp at hs, by omega⟩, hb1.trans (hb2.mono (by omega))⟩
  case assign =>
    intro l x W K hK
    simp only [encU]
    gi_wp2
    exact hK
  case body =>
    rintro l pre x W ⟨⟨b0, b1, b2, hall, hsW⟩, hb⟩ hlt
    have d0 := b0.1
    have d1 := b1.1
    have d2 := b2.1
    have d3 := b1.2
    have d4 := b2.2
    have CC := Lib.hid (rCuts x.1 x.2 hnp (H0.out.keep hb) (hTw.below hb))
    have HB := Lib.hid (And.intro b0 (And.intro b1 (And.intro b2 hb)))
    have hlt1 := b1.lt
    have hlt2 := b2.lt
    have hW2 : W2.heap.size = w.heap.size + 5 := by omega
    have HSW := Lib.hid hsW
    cases hq : wholeB near.length (nr near) x.1
    · rw [hq] at CC
      have HX : Hid (∃ s ∈ pre ++ [x], wholeB near.length (nr near) s.1 = false) := ⟨x, by simp, hq⟩
      clear hq hall b0 b1 b2 hb
      gi_wp2
      refine ⟨trivial, (CallsIn.inRound l (callsIn_wide.2 CC.out)).mono ?_⟩
      rintro e W3 ⟨rfl, hb3⟩
      have HK := Lib.hid (keeps_of_below hb3)
      have y0 := box_keep hb3 HB.out.1
      have y1 := box_keep hb3 HB.out.2.1
      have y2 := box_keep hb3 HB.out.2.2.1
      have c1 := y1.1
      have c2 := y2.1
      have c3 := y1.2
      have c4 := y2.2
      have HY := Lib.hid (And.intro y1 (And.intro y2 (HB.out.2.2.2.trans (hb3.mono HB.out.2.2.2.size))))
      clear hb3 y1 y2 y0 d0 d1 d2 d3 d4
      gi_wp2
      refine ⟨HK.out.trans ((KeepsOthers.setCell _ _ _).trans (KeepsOthers.setCell _ _ _)), ⟨rfl, ⟨x.1, ?_⟩, ?_, HX.out⟩, (HY.out.2.2.setCell (p := ⟨w.heap.size + 1, 0, none⟩) (by simp) _).setCell (p := ⟨w.heap.size + 1 + 1, 0, none⟩) (by simp only []; omega) _⟩
      · exact BoxIs.kept ⟨World.cell?_setCell_same' _ _ _ (by rw [HY.out.1.1]; rfl), by rw [World.frozen?_setCell]; exact HY.out.1.2⟩ (Below.heap_setCell _ _ _ _ (by simp))
      · have hz := HY.out.2.1.kept (Below.heap_setCell W3 ⟨w.heap.size + 1, 0, none⟩ (.int .u64 (x.1 : Int)) (w.heap.size + 1 + 1) (by simp))
        exact ⟨World.cell?_setCell_same' _ _ _ (by rw [hz.1]; rfl), by rw [World.frozen?_setCell]; exact hz.2⟩
    · rw [hq] at CC
      have HX : Hid (∀ s ∈ pre ++ [x], wholeB near.length (nr near) s.1 = true) := fun s hs => by
        rcases List.mem_append.1 hs with hs | hs
        · exact hall s hs
        · simp at hs; subst hs; exact hq
      clear hq hall b0 b1 b2 hb
      gi_wp2
      refine ⟨trivial, (CallsIn.inRound l (callsIn_wide.2 CC.out)).mono ?_⟩
      rintro e W3 ⟨rfl, hb3⟩
      have HK := Lib.hid (keeps_of_below hb3)
      have HY := Lib.hid (And.intro (box_keep hb3 HB.out.1) (And.intro (box_keep hb3 HB.out.2.1) (And.intro (box_keep hb3 HB.out.2.2.1) (HB.out.2.2.2.trans (hb3.mono HB.out.2.2.2.size)))))
      have HKp : Hid (Below W2.heap.size W W3) := hb3.mono (by omega)
      clear hb3
      gi_wp2
      exact ⟨HK.out, HKp.out, ⟨HY.out.1, HY.out.2.1, HY.out.2.2.1, HX.out, Nat.le_trans HSW.out HK.out.size⟩, HY.out.2.2.2⟩
  case done =>
    rintro D xs W hD rfl ⟨⟨b0, b1, b2, hall, hsW⟩, hb⟩ hK
    have d1 := b1.1
    have d2 := b2.1
    have d3 := b1.2
    have d4 := b2.2
    have hlt1 := b1.lt
    have hlt2 := b2.lt
    have HV : Hid (hasCut near.length (nr near) f = false) := by
      unfold Hid hasCut
      rw [List.any_eq_false]
      intro s hs
      have h1 := hall (toU s) (List.mem_map.2 ⟨s, hs, rfl⟩)
      rw [toU_val (listN_lt hn hf s hs)] at h1
      simp [h1]
    have HB := Lib.hid (And.intro b1 (And.intro b2 hb))
    have HD : Hid (w.heap.size + 5 ≤ D) := by unfold Hid; omega
    clear b0 b1 b2 hb hall
    have hKf := (KeepsOthers.setCell (W.setCell ⟨w.heap.size + 1, 0, none⟩ (.int .u64 0)) ⟨w.heap.size + 1 + 1, 0, none⟩ (.bool false)).same D _ ((KeepsOthers.setCell W ⟨w.heap.size + 1, 0, none⟩ (.int .u64 0)).same D _ hK rfl) rfl
    have r1 : ((W.setCell ⟨w.heap.size + 1, 0, none⟩ (.int .u64 0)).setCell ⟨w.heap.size + 1 + 1, 0, none⟩ (.bool false)).cell? ⟨w.heap.size + 1, 0, none⟩ = some (.int .u64 0) := by
      rw [World.cell?_setCell_other _ _ _ _ (by simp)]; exact World.cell?_setCell_same' _ _ _ (by rw [HB.out.1.1]; rfl)
    have r2 : ((W.setCell ⟨w.heap.size + 1, 0, none⟩ (.int .u64 0)).setCell ⟨w.heap.size + 1 + 1, 0, none⟩ (.bool false)).cell? ⟨w.heap.size + 1 + 1, 0, none⟩ = some (.bool false) :=
      World.cell?_setCell_same' _ _ _ (by rw [World.cell?_setCell_other _ _ _ _ (by simp), HB.out.2.1.1]; rfl)
    have hbf := (HB.out.2.2.setCell (p := ⟨w.heap.size + 1, 0, none⟩) (by simp) (.int .u64 0)).setCell (p := ⟨w.heap.size + 1 + 1, 0, none⟩) (by simp only []; omega) (.bool false)
    gi_wp2
    refine ⟨by simp, .inl ⟨_, _, rfl, run_takeDeferred hKf, ?_⟩⟩
    refine ⟨.tuple #[.int .u64 0, .bool false], ?_, ⟨0, by first | (rw [HV.out]; done) | (rw [HV.out]; rfl)⟩, hbf.trans (belowK_b (w := w) (Nat.le_refl _) _ D _ _ (by have := HD.out; omega) hKf rfl rfl)⟩
    have e1 := cell_kept r1 (grownBy_putObj' _ D (.deferred none)) (fun r e => by cases e; exact ⟨_, hKf, rfl⟩)
    have e2 := cell_kept r2 (grownBy_putObj' _ D (.deferred none)) (fun r e => by cases e; exact ⟨_, hKf, rfl⟩)
    simp [results, Tryz.results186, go_sem, e1, e2]
  case stop =>
    rintro D c pre W hD hp ⟨⟨rfl, ⟨x, b1⟩, b2, s, hs, hw⟩, hb⟩ hKf
    have d1 := b1.1
    have d2 := b2.1
    have HV : Hid (hasCut near.length (nr near) f = true) := by
      unfold Hid hasCut
      rw [List.any_eq_true]
      obtain ⟨y, hy, rfl⟩ := List.mem_map.1 (hp.subset hs)
      rw [toU_val (listN_lt hn hf y hy)] at hw
      exact ⟨y, hy, by simp [hw]⟩
    have HD : Hid (w.heap.size + 5 ≤ D) := by unfold Hid; omega
    gi_wp2
    refine ⟨by simp, .inl ⟨_, _, rfl, run_takeDeferred hKf, ?_⟩⟩
    refine ⟨.tuple #[.int .u64 (x : Int), .bool true], ?_, ⟨x, by first | (rw [HV.out]; done) | (rw [HV.out]; rfl)⟩, hb.trans (belowK_b (w := w) (Nat.le_refl _) _ D _ _ (by have := HD.out; omega) hKf rfl rfl)⟩
    have e1 := cell_kept d1 (grownBy_putObj' _ D (.deferred none)) (fun r e => by cases e; exact ⟨_, hKf, rfl⟩)
    have e2 := cell_kept d2 (grownBy_putObj' _ D (.deferred none)) (fun r e => by cases e; exact ⟨_, hKf, rfl⟩)
    simp [results, Tryz.results186, go_sem, e1, e2]
set_option maxHeartbeats 800000 in
theorem cSafe {w : World} {G R : Nat} {near : List Nat} (f : Int) (hn : near.length < 9) (hnp : ∀ j, nr near j < 2 ^ near.length) (h : GrAt w G R near) (hTw : T64 w) :
    Calls Tryz.prog 124 #[.pointer (some ⟨G, 0, none⟩), .int .i64 f] w fun e w' => e = .returned (.bool (safeB near.length (nr near) f)) ∧ Below w.heap.size w w' := by
  have CN := Lib.hid (grN h)
  have HS : Hid (safeB near.length (nr near) f = (decide (0 ≤ f) && (decide (f ≤ 3) && (decide (f < near.length) && !hasCut near.length (nr near) f.toNat)))) := rfl
  by_cases h0 : f < 0
  · have HX : Hid (safeB near.length (nr near) f = false) := by unfold Hid; rw [HS.out, decide_eq_false (by omega)]; rfl
    go_enter Tryz.func124, Tryz.ntmps124
    go_wp2
    go_ret
    exact ⟨ret_bool (by rw [HX.out]), Below.refl _ _⟩
  by_cases h3 : f > 3
  · have HX : Hid (safeB near.length (nr near) f = false) := by unfold Hid; rw [HS.out, decide_eq_false (p := f ≤ 3) (by omega)]; simp
    go_enter Tryz.func124, Tryz.ntmps124
    go_wp2
    go_ret
    exact ⟨ret_bool (by rw [HX.out]), Below.refl _ _⟩
  obtain ⟨k, rfl⟩ : ∃ k : Nat, f = k := ⟨f.toNat, by omega⟩
  by_cases hl : (near.length : Int) ≤ (k : Int)
  · have HX : Hid (safeB near.length (nr near) (k : Int) = false) := by unfold Hid; rw [HS.out, decide_eq_false (p := (k : Int) < near.length) (by omega)]; simp
    generalize near.length = n at *
    go_enter Tryz.func124, Tryz.ntmps124
    go_wp2_with fail
    refine CN.out.mono ?_
    rintro e w1 ⟨rfl, rfl⟩
    go_wp2
    go_ret
    exact ⟨ret_bool (by rw [HX.out]), Below.refl _ _⟩
  · have CF := Lib.hid (cFirst k hn (by omega) hnp h hTw)
    have HX : Hid (safeB near.length (nr near) (k : Int) = !hasCut near.length (nr near) k) := by
      unfold Hid; rw [HS.out, decide_eq_true (p := (k : Int) < near.length) (by omega), decide_eq_true (p := (k : Int) ≤ 3) (by omega), decide_eq_true (p := (0 : Int) ≤ (k : Int)) (by omega)]; simp
    generalize hasCut near.length (nr near) k = hc at *
    generalize near.length = n at *
    go_enter Tryz.func124, Tryz.ntmps124
    go_wp2_with fail
    refine CN.out.mono ?_
    rintro e w1 ⟨rfl, rfl⟩
    go_wp2_with fail
    refine CF.out.mono ?_
    rintro e w1 ⟨⟨x, rfl⟩, hb⟩
    go_wp2
    go_ret
    exact ⟨ret_bool (by rw [HX.out]), hb⟩
end Go.Proofs.YteahiphmhaedpaaGreatDoor
