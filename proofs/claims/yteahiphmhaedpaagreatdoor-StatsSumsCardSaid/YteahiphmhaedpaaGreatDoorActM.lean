/- What several texts of this seat lean on, joined: ActA ActB U8 ActC ActD ActE. -/
import Derived.Test.YteahiphmhaedpaaGreatDoorBase
import Derived.Laws.StructEq
import Derived.Deep.WholeRow
import Derived.Test.YteahiphmhaedpaaGreatDoorLaw
import Derived.Lib.ItoaMem
import Derived.Laws.IdiomStrings
import Derived.Lib.SmallJoins
import Derived.Lib.Hide
import Derived.Deep.DrawnRows
namespace Go.Proofs.YteahiphmhaedpaaGreatDoor
open Go.RowKit Law
set_option linter.unusedVariables false
set_option linter.unusedSimpArgs false

structure Fa where
  k : Int
  d : Int
  a : Int
  p : Nat
  b : Nat
  deriving DecidableEq
def Fa.cells (f : Fa) : List Value := [.int .i64 f.k, .int .i64 f.d, .int .i64 f.a, .int .u32 (f.p : Int), .int .u32 (f.b : Int)]
def Fa0 : Fa := ⟨0, 0, 0, 0, 0⟩
def goodF (f : Fa) : Bool :=
  if f.k = 1 then decide (f = ⟨1, 0, 0, 0, 0⟩)
  else if f.k < 0 ∨ 3 < f.k ∨ f.d < 1 ∨ 64 < f.d then false
  else if f.k = 2 then decide (1 ≤ f.a ∧ f.a ≤ 64 ∧ f.p = 0 ∧ f.b = 0)
  else decide (f.a = 0 ∧ (f.k = 3 ∨ (f.p = 0 ∧ f.b = 0)))
end Go.Proofs.YteahiphmhaedpaaGreatDoor

namespace Go.Proofs.YteahiphmhaedpaaGreatDoor
open Go.RowKit Law
set_option linter.unusedVariables false
set_option linter.unusedSimpArgs false

theorem delayT {d : Int} (h : 1 ≤ d ∧ d ≤ 64) (w : World) : Calls Tryz.prog 139 #[.int .i64 d] w fun e w' => e = .returned (.bool true) ∧ w = w' := by
  obtain ⟨h1, h2⟩ := h
  go_enter Tryz.func139, Tryz.ntmps139
  go_wp2
  go_ret
  exact ⟨by simp [h1, h2], rfl⟩
theorem delayF {d : Int} (h : ¬ (1 ≤ d ∧ d ≤ 64)) (w : World) : Calls Tryz.prog 139 #[.int .i64 d] w fun e w' => e = .returned (.bool false) ∧ w = w' := by
  by_cases h1 : 1 ≤ d
  · have h2 : ¬ d ≤ 64 := by omega
    clear h
    go_enter Tryz.func139, Tryz.ntmps139
    go_wp2
    go_ret
    exact ⟨by simp [h2], rfl⟩
  · clear h
    go_enter Tryz.func139, Tryz.ntmps139
    go_wp2
    go_ret
    exact ⟨rfl, rfl⟩
set_option maxHeartbeats 3200000 in
theorem fateGood (f : Fa) (w : World) : Calls Tryz.prog 80 #[.agg f.cells.toArray] w fun e w' => e = .returned (.bool (goodF f)) ∧ Below w.heap.size w w' := by
  obtain ⟨hz, -⟩ := zero_of_info (show (Tryz.prog.info? 45).map (fun i => (i.zero, i.size)) = some (some (.agg #[.int .i64 0, .int .i64 0, .int .i64 0, .int .u32 0, .int .u32 0]), 5) by kernel_rfl)
  obtain ⟨k, d, a, p, b⟩ := f
  unfold Fa.cells
  by_cases h1 : k = 1
  · subst h1
    have HG : Hid (goodF ⟨1, d, a, p, b⟩ = decide ((⟨1, d, a, p, b⟩ : Fa) = ⟨1, 0, 0, 0, 0⟩)) := by unfold Hid goodF; simp only []; rw [if_pos trivial]
    go_enter Tryz.func80, Tryz.ntmps80
    go_wp2
    all_goals
      go_ret
      refine ⟨ret_bool (Eq.trans ?_ HG.out.symm), ((Below.refl _ _).alloc (Nat.le_refl _) _).alloc (by simp) _⟩
      first | rfl | (rw [Bool.eq_iff_iff]; simp; omega) | (simp; omega)
  · by_cases h2 : k = 2
    · subst h2
      by_cases h3 : 1 ≤ d ∧ d ≤ 64
      · have C1 := Lib.hid (delayT h3)
        have D3 := Lib.hid h3
        clear h3 h1
        by_cases h5 : 1 ≤ a ∧ a ≤ 64
        · have C2 := Lib.hid (delayT h5)
          have D5 := Lib.hid h5
          clear h5
          have HG : Hid (goodF ⟨2, d, a, p, b⟩ = decide (p = 0 ∧ b = 0)) := by unfold Hid goodF; simp only []; have q3 := D3.out; have q5 := D5.out; rw [if_neg (by decide), if_neg (by omega), if_pos trivial, Bool.eq_iff_iff]; simp; omega
          go_enter Tryz.func80, Tryz.ntmps80
          go_wp2_with (go_at_call 139; first | ((with_reducible refine (C2.out _).mono ?_); rintro e w' ⟨rfl, rfl⟩) | ((with_reducible refine (C1.out _).mono ?_); rintro e w' ⟨rfl, rfl⟩))
          all_goals
            go_ret
            refine ⟨ret_bool (Eq.trans ?_ HG.out.symm), ((Below.refl _ _).alloc (Nat.le_refl _) _).alloc (by simp) _⟩
            first | rfl | (rw [Bool.eq_iff_iff]; simp; omega) | (simp; omega)
        · have C2 := Lib.hid (delayF h5)
          have D5 := Lib.hid h5
          clear h5
          have HG : Hid (goodF ⟨2, d, a, p, b⟩ = false) := by unfold Hid goodF; simp only []; have q3 := D3.out; have q5 := D5.out; rw [if_neg (by decide), if_neg (by omega), if_pos trivial, decide_eq_false_iff_not]; omega
          go_enter Tryz.func80, Tryz.ntmps80
          go_wp2_with (go_at_call 139; first | ((with_reducible refine (C2.out _).mono ?_); rintro e w' ⟨rfl, rfl⟩) | ((with_reducible refine (C1.out _).mono ?_); rintro e w' ⟨rfl, rfl⟩))
          all_goals
            go_ret
            refine ⟨ret_bool (Eq.trans ?_ HG.out.symm), ((Below.refl _ _).alloc (Nat.le_refl _) _).alloc (by simp) _⟩
            first | rfl | (rw [Bool.eq_iff_iff]; simp; omega) | (simp; omega)
      · have C1 := Lib.hid (delayF h3)
        have D3 := Lib.hid h3
        clear h3 h1
        by_cases h5 : 1 ≤ a ∧ a ≤ 64
        · have C2 := Lib.hid (delayT h5)
          clear h5
          have HG : Hid (goodF ⟨2, d, a, p, b⟩ = false) := by unfold Hid goodF; simp only []; have q3 := D3.out; rw [if_neg (by decide), if_pos (by omega)]
          go_enter Tryz.func80, Tryz.ntmps80
          go_wp2_with (go_at_call 139; first | ((with_reducible refine (C2.out _).mono ?_); rintro e w' ⟨rfl, rfl⟩) | ((with_reducible refine (C1.out _).mono ?_); rintro e w' ⟨rfl, rfl⟩))
          all_goals
            go_ret
            refine ⟨ret_bool (Eq.trans ?_ HG.out.symm), ((Below.refl _ _).alloc (Nat.le_refl _) _).alloc (by simp) _⟩
            first | rfl | (rw [Bool.eq_iff_iff]; simp; omega) | (simp; omega)
        · have C2 := Lib.hid (delayF h5)
          clear h5
          have HG : Hid (goodF ⟨2, d, a, p, b⟩ = false) := by unfold Hid goodF; simp only []; have q3 := D3.out; rw [if_neg (by decide), if_pos (by omega)]
          go_enter Tryz.func80, Tryz.ntmps80
          go_wp2_with (go_at_call 139; first | ((with_reducible refine (C2.out _).mono ?_); rintro e w' ⟨rfl, rfl⟩) | ((with_reducible refine (C1.out _).mono ?_); rintro e w' ⟨rfl, rfl⟩))
          all_goals
            go_ret
            refine ⟨ret_bool (Eq.trans ?_ HG.out.symm), ((Below.refl _ _).alloc (Nat.le_refl _) _).alloc (by simp) _⟩
            first | rfl | (rw [Bool.eq_iff_iff]; simp; omega) | (simp; omega)
    · by_cases h0 : k = 0
      · subst h0
        by_cases h3 : 1 ≤ d ∧ d ≤ 64
        · have C1 := Lib.hid (delayT h3)
          have D3 := Lib.hid h3
          clear h3
          have HG : Hid (goodF ⟨0, d, a, p, b⟩ = decide (a = 0 ∧ (p = 0 ∧ b = 0))) := by unfold Hid goodF; simp only []; have q3 := D3.out; rw [if_neg (by decide), if_neg (by omega), if_neg (by decide)]; simp
          go_enter Tryz.func80, Tryz.ntmps80
          go_wp2_with (go_at_call 139; first | ((with_reducible refine (C1.out _).mono ?_); rintro e w' ⟨rfl, rfl⟩))
          all_goals
            go_ret
            refine ⟨ret_bool (Eq.trans ?_ HG.out.symm), ((Below.refl _ _).alloc (Nat.le_refl _) _).alloc (by simp) _⟩
            first | rfl | (rw [Bool.eq_iff_iff]; simp; omega) | (simp; omega)
        · have C1 := Lib.hid (delayF h3)
          have D3 := Lib.hid h3
          clear h3
          have HG : Hid (goodF ⟨0, d, a, p, b⟩ = false) := by unfold Hid goodF; simp only []; have q3 := D3.out; rw [if_neg (by decide), if_pos (by omega)]
          go_enter Tryz.func80, Tryz.ntmps80
          go_wp2_with (go_at_call 139; first | ((with_reducible refine (C1.out _).mono ?_); rintro e w' ⟨rfl, rfl⟩))
          all_goals
            go_ret
            refine ⟨ret_bool (Eq.trans ?_ HG.out.symm), ((Below.refl _ _).alloc (Nat.le_refl _) _).alloc (by simp) _⟩
            first | rfl | (rw [Bool.eq_iff_iff]; simp; omega) | (simp; omega)
      · by_cases h4 : k = 3
        · subst h4
          by_cases h3 : 1 ≤ d ∧ d ≤ 64
          · have C1 := Lib.hid (delayT h3)
            have D3 := Lib.hid h3
            clear h3
            have HG : Hid (goodF ⟨3, d, a, p, b⟩ = decide (a = 0)) := by unfold Hid goodF; simp only []; have q3 := D3.out; rw [if_neg (by decide), if_neg (by omega), if_neg (by decide)]; simp
            go_enter Tryz.func80, Tryz.ntmps80
            go_wp2_with (go_at_call 139; first | ((with_reducible refine (C1.out _).mono ?_); rintro e w' ⟨rfl, rfl⟩))
            all_goals
              go_ret
              refine ⟨ret_bool (Eq.trans ?_ HG.out.symm), ((Below.refl _ _).alloc (Nat.le_refl _) _).alloc (by simp) _⟩
              first | rfl | (rw [Bool.eq_iff_iff]; simp; omega) | (simp; omega)
          · have C1 := Lib.hid (delayF h3)
            have D3 := Lib.hid h3
            clear h3
            have HG : Hid (goodF ⟨3, d, a, p, b⟩ = false) := by unfold Hid goodF; simp only []; have q3 := D3.out; rw [if_neg (by decide), if_pos (by omega)]
            go_enter Tryz.func80, Tryz.ntmps80
            go_wp2_with (go_at_call 139; first | ((with_reducible refine (C1.out _).mono ?_); rintro e w' ⟨rfl, rfl⟩))
            all_goals
              go_ret
              refine ⟨ret_bool (Eq.trans ?_ HG.out.symm), ((Below.refl _ _).alloc (Nat.le_refl _) _).alloc (by simp) _⟩
              first | rfl | (rw [Bool.eq_iff_iff]; simp; omega) | (simp; omega)
        · have D4 := Lib.hid (And.intro h1 (And.intro h2 (And.intro h0 h4)))
          have HG : Hid (goodF ⟨k, d, a, p, b⟩ = false) := by unfold Hid goodF; simp only []; rw [if_neg h1, if_pos (by omega)]
          go_enter Tryz.func80, Tryz.ntmps80
          go_wp2
          all_goals
            go_ret
            refine ⟨ret_bool (Eq.trans ?_ HG.out.symm), ((Below.refl _ _).alloc (Nat.le_refl _) _).alloc (by simp) _⟩
            first | rfl | (rw [Bool.eq_iff_iff]; simp; omega) | (simp; omega)
end Go.Proofs.YteahiphmhaedpaaGreatDoor

namespace Go.Proofs.YteahiphmhaedpaaGreatDoor
open Go.RowKit Law
set_option linter.unusedVariables false
set_option linter.unusedSimpArgs false

/-- A slice value's address and the bytes that it reads as. -/
def U8At (w : World) (A : Option Addr) (l : List UInt8) : Prop :=
  ∀ (k : Nat) (b : UInt8), l[k]? = some b → ∃ blk off, A = some ⟨blk, off, none⟩ ∧ w.cell? ⟨blk, off + k, none⟩ = some (.int .u8 b.toNat)
theorem U8At.at_ {w : World} {A : Option Addr} {l : List UInt8} (h : U8At w A l) {k : Nat} (hk : k < l.length) : ∃ blk off, A = some ⟨blk, off, none⟩ ∧ w.cell? ⟨blk, off + k, none⟩ = some (.int .u8 l[k].toNat) := h k l[k] (List.getElem?_eq_getElem hk)
theorem U8At.keep {w w' : World} {A : Option Addr} {l : List UInt8} (h : U8At w A l) (hb : Below w.heap.size w w') : U8At w' A l := fun k b hk => by
  obtain ⟨blk, off, rfl, hc⟩ := h k b hk
  exact ⟨blk, off, rfl, (hb.cell (p := ⟨blk, off + k, none⟩) (World.block_lt_of_cell? _ _ hc)).trans hc⟩
theorem U8At.take {w : World} {A : Option Addr} {b : List UInt8} (h : U8At w A b) (n : Nat) : U8At w A (b.take n) := fun k e he => h k e (by
  rw [List.getElem?_take] at he
  split at he
  · exact he
  · cases he)
theorem U8At.nil (w : World) (A : Option Addr) : U8At w A [] := fun k e he => by simp at he
theorem u8Info : (Tryz.prog.info? 5).map (fun i => (i.zero, i.size, i.bytes)) = some (some (.int .u8 0), 1, 1) := by kernel_rfl
def u8V (b : List UInt8) : List Value := b.map fun c => .int .u8 (c.toNat : Int)
theorem ownU8 {w : World} {base : Nat} {A : Option Addr} {n c : Nat} {b : List UInt8} (h : w.ownsRow base 5 1 (.slice A n c) n (u8V b)) (hn : b.length = n) : U8At w A b := by
  intro k e he
  have hk : k < b.length := (List.getElem?_eq_some_iff.1 he).1
  obtain ⟨g, cap, hv⟩ := Joins.ownsRow_form h (by omega)
  obtain rfl : A = some ⟨g, 0, none⟩ := by injection hv
  refine ⟨g, 0, rfl, ?_⟩
  have := h.cells (g := g) rfl k (.int .u8 (e.toNat : Int)) (by unfold u8V; rw [List.getElem?_map, he]; rfl)
  rwa [Lib.add_plain] at this
theorem U8At.other {w : World} {A : Option Addr} {b : List UInt8} (h : U8At w A b) {a : Addr} (hne : ∀ ad, A = some ad → ad.block ≠ a.block) (v : Value) : U8At (w.setCell a v) A b := fun k e hk => by
  obtain ⟨blk, off, rfl, hc⟩ := h k e hk
  exact ⟨blk, off, rfl, by rw [World.cell?_setCell_other _ _ _ _ (fun e => hne _ rfl (by rw [e]))]; exact hc⟩
theorem U8At.flat {w : World} {A : Option Addr} {b : List UInt8} (h : U8At w A b) (ad : Addr) (hA : A = some ad) (j : Nat) (u : Value) (hu : (u8V b)[j]? = some u) : w.cell? (ad.add j) = some u := by
  unfold u8V at hu
  rw [List.getElem?_map] at hu
  obtain ⟨c, hc, rfl⟩ := Option.map_eq_some_iff.1 hu
  obtain ⟨blk, off, hA2, hcell⟩ := h j c hc
  rw [hA] at hA2
  injection hA2 with hA2
  subst hA2
  rw [Lib.add_plain]
  exact hcell
theorem u8_one {b : List UInt8} : ∀ u ∈ u8V b, u.oneCell' = true := by
  intro u hu
  obtain ⟨c, _, rfl⟩ := List.mem_map.1 hu
  rfl
/-- Bytes as a string. -/
theorem conv_u8 {w : World} {A : Option Addr} {n c : Nat} {b : List UInt8} (h : U8At w A b) (hn : b.length = n) : (convert 46 9 (.slice A n c)).run Tryz.prog w = .ok (.string ⟨b.toArray⟩) w := by
  subst hn
  cases A with
  | some ad => exact run_convert_bytes_back (P := Tryz.prog) w 46 9 5 ad c b Tryz.underlying46 Tryz.underlying5 Tryz.underlying9 (fun j hj => h.flat ad rfl j _ (by unfold u8V; rw [List.getElem?_map, List.getElem?_eq_getElem hj]; rfl))
  | none =>
    have hb : b = [] := by
      cases b with
      | nil => rfl
      | cons x l =>
        obtain ⟨_, _, h1, _⟩ := h 0 x rfl
        cases h1
    subst hb
    rw [run_convert_bytes_string w 46 9 5 none _ c Tryz.underlying46 Tryz.underlying5 Tryz.underlying9]
    simp [Conv.bytesToString]
    rfl
end Go.Proofs.YteahiphmhaedpaaGreatDoor

namespace Go.Proofs.YteahiphmhaedpaaGreatDoor
open Go.RowKit Law
set_option linter.unusedVariables false
set_option linter.unusedSimpArgs false

structure Ac where
  k : Int
  node : Int
  n : Int
  f : Fa
  b : List UInt8
  deriving DecidableEq
def faB (f g : Fa) : Bool := decide (f = g)
theorem run_eqFa (f g : Fa) (w : World) : (binOp .eql 45 (.agg f.cells.toArray) (.agg g.cells.toArray)).run Tryz.prog w = .ok (.bool (faB f g)) w := by
  obtain ⟨k, d, a, p, b⟩ := f
  obtain ⟨k', d', a', p', b'⟩ := g
  unfold Fa.cells faB
  go_simp
  by_cases h1 : k = k' <;> by_cases h2 : d = d' <;> by_cases h3 : a = a' <;> by_cases h4 : p = p' <;> by_cases h5 : b = b' <;> simp [h1, h2, h3, h4, h5, Int.natCast_inj]
/-! ### the comparison as a rule of the walk -/
def faOf : Value → Option Fa
  | .agg a => match a.toList with
    | [.int .i64 k, .int .i64 d, .int .i64 x, .int .u32 p, .int .u32 b] => some ⟨k, d, x, p.toNat, b.toNat⟩
    | _ => none
  | _ => none
def IsFa (v : Value) : Prop := ∃ f : Fa, v = .agg f.cells.toArray
theorem isFa_mk (k d a : Int) (p b : Nat) : IsFa (.agg #[.int .i64 k, .int .i64 d, .int .i64 a, .int .u32 (p : Int), .int .u32 (b : Int)]) := ⟨⟨k, d, a, p, b⟩, rfl⟩
def faEq (v u : Value) : Bool := match faOf v, faOf u with
  | some f, some g => faB f g
  | _, _ => false
theorem faOf_mk (f : Fa) : faOf (.agg f.cells.toArray) = some f := by
  obtain ⟨k, d, a, p, b⟩ := f
  simp [faOf, Fa.cells]
theorem faEq_mk (k d a : Int) (p b : Nat) (k' d' a' : Int) (p' b' : Nat) : faEq (.agg #[.int .i64 k, .int .i64 d, .int .i64 a, .int .u32 (p : Int), .int .u32 (b : Int)]) (.agg #[.int .i64 k', .int .i64 d', .int .i64 a', .int .u32 (p' : Int), .int .u32 (b' : Int)]) = faB ⟨k, d, a, p, b⟩ ⟨k', d', a', p', b'⟩ := by
  have h1 := faOf_mk ⟨k, d, a, p, b⟩
  have h2 := faOf_mk ⟨k', d', a', p', b'⟩
  unfold Fa.cells at h1 h2
  unfold faEq
  rw [h1, h2]
theorem exec_eqFa {ev : Operand → Value} {x y : Operand} {dst : Option Tmp} {ty yt : TypeId} {pos : String} {after : Array Edge} {guard : Option (Nat × Bool)} {w : World} (hx : IsFa (ev x)) (hy : IsFa (ev y)) :
    (execOp ev ⟨dst, .binOp .eql 45 x y yt, ty, pos, after, guard⟩).run Tryz.prog w = .ok (.value (.bool (faEq (ev x) (ev y)))) w := by
  obtain ⟨f, hf⟩ := hx
  obtain ⟨g, hg⟩ := hy
  have h1 := run_eqFa f g w
  have h0 : ∀ (p q : Operand), (eqGuard .eql 45 p q (.agg f.cells.toArray) (.agg g.cells.toArray)).run Tryz.prog w = .ok () w := fun p q => run_eqGuard_agg (P := Tryz.prog) (w := w) .eql 45 p q _ _ (by kernel_rfl)
  have h2 : faEq (ev x) (ev y) = faB f g := by rw [hf, hg]; unfold faEq; rw [faOf_mk, faOf_mk]
  unfold execOp
  rw [h2]
  simp only [hf, hg, Sem.run_bind, h0, h1, Result.andThen_ok, Sem.run_pure]

/-! ### the reference's Same -/
def Ac.cells (x : Ac) (A : Option Addr) (n c : Nat) : List Value := [.int .i64 x.k, .int .i64 x.node, .int .i64 x.n, .int .i64 x.f.k, .int .i64 x.f.d, .int .i64 x.f.a, .int .u32 (x.f.p : Int), .int .u32 (x.f.b : Int), .slice A n c]
def acB (x y : Ac) : Bool := decide (x = y)
section
attribute [local go_sem ↓] exec_eqFa
attribute [local go_sem] isFa_mk faEq_mk
set_option maxHeartbeats 1600000 in
end
end Go.Proofs.YteahiphmhaedpaaGreatDoor

namespace Go.Proofs.YteahiphmhaedpaaGreatDoor
open Go.RowKit Law
set_option linter.unusedVariables false
set_option linter.unusedSimpArgs false

/-- Which acts may be. -/
def goodA (x : Ac) : Bool :=
  if x.k = 1 then acB x ⟨1, 0, x.n, Fa0, []⟩ && (decide (0 < x.n) && decide (x.n < 65))
  else if x.k = 3 then acB x ⟨3, 0, 0, x.f, []⟩ && goodF x.f
  else if x.k < 1 ∨ 8 < x.k ∨ x.node < 0 ∨ 63 < x.node then false
  else if x.k = 2 then acB x ⟨2, x.node, x.n, Fa0, []⟩ && (decide (-1048576 ≤ x.n) && decide (x.n ≤ 1048576))
  else if x.k = 6 then acB x ⟨6, x.node, 0, Fa0, x.b⟩ && decide (x.b.length < 1025)
  else acB x ⟨x.k, x.node, 0, Fa0, []⟩
end Go.Proofs.YteahiphmhaedpaaGreatDoor

namespace Go.Proofs.YteahiphmhaedpaaGreatDoor
open Go.RowKit Law
set_option linter.unusedVariables false
set_option linter.unusedSimpArgs false

def Ac.rest (x : Ac) : List Value := [.int .i64 x.k, .int .i64 x.node, .int .i64 x.n, .int .i64 x.f.k, .int .i64 x.f.d, .int .i64 x.f.a, .int .u32 (x.f.p : Int), .int .u32 (x.f.b : Int)]
theorem scriptOf (x : Ac) (A : Option Addr) (n c : Nat) (w : World) :
    Calls Tryz.prog 140 #[.agg (x.cells A n c).toArray] w fun e w' => e = .returned (.agg x.rest.toArray) ∧ Below w.heap.size w w' := by
  obtain ⟨k, node, N, ⟨fk, fd, fa, fp, fb⟩, b⟩ := x
  unfold Ac.cells Ac.rest
  obtain ⟨hz, hsz⟩ := zero_of_info (show (Tryz.prog.info? 248).map (fun i => (i.zero, i.size)) = some (some (.agg #[.int .i64 0, .int .i64 0, .int .i64 0, .int .i64 0, .int .i64 0, .int .i64 0, .int .u32 0, .int .u32 0]), 8) by kernel_rfl)
  go_enter Tryz.func140, Tryz.ntmps140
  go_wp2
  exact bodyPost_ret (v := .agg #[.int .i64 k, .int .i64 node, .int .i64 N, .int .i64 fk, .int .i64 fd, .int .i64 fa, .int .u32 (fp : Int), .int .u32 (fb : Int)]) (by simp [results, Tryz.results140, go_sem]) rfl ⟨rfl, ((Below.refl _ _).alloc (Nat.le_refl _) _).alloc (by simp) _⟩
def restB (x y : Ac) : Bool := decide (x.k = y.k ∧ x.node = y.node ∧ x.n = y.n ∧ x.f = y.f)
theorem run_eqRest (x y : Ac) (w : World) : (binOp .eql 248 (.agg x.rest.toArray) (.agg y.rest.toArray)).run Tryz.prog w = .ok (.bool (restB x y)) w := by
  obtain ⟨k, node, N, ⟨fk, fd, fa, fp, fb⟩, b⟩ := x
  obtain ⟨k', node', N', ⟨fk', fd', fa', fp', fb'⟩, b'⟩ := y
  unfold Ac.rest restB
  go_simp
  by_cases h1 : k = k' <;> by_cases h2 : node = node' <;> by_cases h3 : N = N' <;> by_cases h4 : fk = fk' <;> by_cases h5 : fd = fd' <;> by_cases h6 : fa = fa' <;> by_cases h7 : fp = fp' <;> by_cases h8 : fb = fb' <;> simp [h1, h2, h3, h4, h5, h6, h7, h8, Int.natCast_inj]
set_option maxHeartbeats 3200000 in
set_option maxRecDepth 100000 in
theorem scriptSame (x y : Ac) (A B : Option Addr) (n m c d : Nat) (w : World) (hA : U8At w A x.b) (hn : x.b.length = n) (hB : U8At w B y.b) (hm : y.b.length = m) :
    Calls Tryz.prog 81 #[.agg (x.cells A n c).toArray, .agg (y.cells B m d).toArray] w fun e w' => e = .returned (.bool (acB x y)) ∧ Below w.heap.size w w' := by
  have hE := fun W => run_eqRest x y W
  have hO1 := fun W => scriptOf x A n c W
  have hO2 := fun W => scriptOf y B m d W
  have hR : (restB x y = true ∧ x.b = y.b) ↔ acB x y = true := by
    unfold restB acB
    rw [decide_eq_true_eq, decide_eq_true_eq]
    exact ⟨fun ⟨⟨h1, h2, h3, h4⟩, h5⟩ => by cases x; cases y; simp at *; exact ⟨h1, h2, h3, h4, h5⟩, fun h => by rw [h]; exact ⟨⟨rfl, rfl, rfl, rfl⟩, rfl⟩⟩
  obtain ⟨v, hv⟩ : ∃ v, restB x y = v := ⟨_, rfl⟩
  rw [hv] at hE hR
  obtain ⟨r, hr⟩ : ∃ r, acB x y = r := ⟨_, rfl⟩
  rw [hr] at hR ⊢
  clear hr hv
  obtain ⟨k, node, N, ⟨fk, fd, fa, fp, fb⟩, b⟩ := x
  obtain ⟨k', node', N', ⟨fk', fd', fa', fp', fb'⟩, b'⟩ := y
  unfold Ac.cells Ac.rest at hO1 hO2
  unfold Ac.rest at hE
  unfold Ac.cells
  simp only at hA hn hB hm hR hE hO1 hO2 ⊢
  have hb2 : Below w.heap.size w ((w.alloc (.cells #[.int .i64 k, .int .i64 node, .int .i64 N, .int .i64 fk, .int .i64 fd, .int .i64 fa, .int .u32 (fp : Int), .int .u32 (fb : Int), .slice A n c] 48)).alloc (.cells #[.int .i64 k', .int .i64 node', .int .i64 N', .int .i64 fk', .int .i64 fd', .int .i64 fa', .int .u32 (fp' : Int), .int .u32 (fb' : Int), .slice B m d] 48)) := ((Below.refl _ _).alloc (Nat.le_refl _) _).alloc (by simp) _
  have hA2 := hA.keep hb2
  have hB2 := hB.keep hb2
  obtain ⟨w2, hw2⟩ : ∃ w2, (w.alloc (.cells #[.int .i64 k, .int .i64 node, .int .i64 N, .int .i64 fk, .int .i64 fd, .int .i64 fa, .int .u32 (fp : Int), .int .u32 (fb : Int), .slice A n c] 48)).alloc (.cells #[.int .i64 k', .int .i64 node', .int .i64 N', .int .i64 fk', .int .i64 fd', .int .i64 fa', .int .u32 (fp' : Int), .int .u32 (fb' : Int), .slice B m d] 48) = w2 := ⟨_, rfl⟩
  have hz2 : w2.heap.size = w.heap.size + 2 := by rw [← hw2]; simp
  have c1 := fun W : Later w2 => conv_u8 (c := c) ((hw2 ▸ hA2).keep W.h) hn
  have c2 := fun W : Later w2 => conv_u8 (c := d) ((hw2 ▸ hB2).keep W.h) hm
  obtain ⟨s, hs⟩ : ∃ s : ByteArray, (⟨b.toArray⟩ : ByteArray) = s := ⟨_, rfl⟩
  obtain ⟨s', hs'⟩ : ∃ s : ByteArray, (⟨b'.toArray⟩ : ByteArray) = s := ⟨_, rfl⟩
  rw [hs] at c1
  rw [hs'] at c2
  have HSS : Hid ((s.toList == s'.toList) = decide (b = b')) := by
    unfold Hid; rw [← hs, ← hs', ByteArray.toList_eq, ByteArray.toList_eq, Bool.eq_iff_iff, beq_iff_eq, decide_eq_true_eq]
  have CB := fun W : Later w2 => Tryz.bytes_Equal_strs (.slice A n c) (.slice B m d) s s' W.val (c1 W) (c2 W)
  have cells : ∀ W : Later w2, W.val.cell? ⟨w.heap.size, 0, none⟩ = some (.int .i64 k) ∧ W.val.cell? ⟨w.heap.size, 1, none⟩ = some (.int .i64 node) ∧ W.val.cell? ⟨w.heap.size, 2, none⟩ = some (.int .i64 N) ∧ W.val.cell? ⟨w.heap.size, 3, none⟩ = some (.int .i64 fk) ∧ W.val.cell? ⟨w.heap.size, 4, none⟩ = some (.int .i64 fd) ∧ W.val.cell? ⟨w.heap.size, 5, none⟩ = some (.int .i64 fa) ∧ W.val.cell? ⟨w.heap.size, 6, none⟩ = some (.int .u32 (fp : Int)) ∧ W.val.cell? ⟨w.heap.size, 7, none⟩ = some (.int .u32 (fb : Int)) ∧ W.val.cell? ⟨w.heap.size, 8, none⟩ = some (.slice A n c) ∧ W.val.cell? ⟨w.heap.size + 1, 0, none⟩ = some (.int .i64 k') ∧ W.val.cell? ⟨w.heap.size + 1, 1, none⟩ = some (.int .i64 node') ∧ W.val.cell? ⟨w.heap.size + 1, 2, none⟩ = some (.int .i64 N') ∧ W.val.cell? ⟨w.heap.size + 1, 3, none⟩ = some (.int .i64 fk') ∧ W.val.cell? ⟨w.heap.size + 1, 4, none⟩ = some (.int .i64 fd') ∧ W.val.cell? ⟨w.heap.size + 1, 5, none⟩ = some (.int .i64 fa') ∧ W.val.cell? ⟨w.heap.size + 1, 6, none⟩ = some (.int .u32 (fp' : Int)) ∧ W.val.cell? ⟨w.heap.size + 1, 7, none⟩ = some (.int .u32 (fb' : Int)) ∧ W.val.cell? ⟨w.heap.size + 1, 8, none⟩ = some (.slice B m d) :=
    fun W => ⟨Later.cell (by rw [← hw2]; simp) W, Later.cell (by rw [← hw2]; simp) W, Later.cell (by rw [← hw2]; simp) W, Later.cell (by rw [← hw2]; simp) W, Later.cell (by rw [← hw2]; simp) W, Later.cell (by rw [← hw2]; simp) W, Later.cell (by rw [← hw2]; simp) W, Later.cell (by rw [← hw2]; simp) W, Later.cell (by rw [← hw2]; simp) W, Later.cell (by rw [← hw2]; simp) W, Later.cell (by rw [← hw2]; simp) W, Later.cell (by rw [← hw2]; simp) W, Later.cell (by rw [← hw2]; simp) W, Later.cell (by rw [← hw2]; simp) W, Later.cell (by rw [← hw2]; simp) W, Later.cell (by rw [← hw2]; simp) W, Later.cell (by rw [← hw2]; simp) W, Later.cell (by rw [← hw2]; simp) W⟩
  have HC := Lib.hid (And.intro hO1 (And.intro hO2 CB))
  have HR := Lib.hid hR
  have HB := Lib.hid (hw2 ▸ hb2)
  clear hA hB hA2 hB2 c1 c2 hn hm hb2 hs hs' CB hO1 hO2 hR
  go_enter Tryz.func81, Tryz.ntmps81
  go_wp2_with fail
  rcases v with _ | _
  · refine wp_region_later (by kernel_rfl) (by kernel_rfl) ?_
    go_big_quiet_step (fail)
    go_big_quiet_step (exact later_of (HC.out.1 _))
    go_big_quiet_step (fail)
    go_big_quiet_step (exact later_of (HC.out.2.1 _))
    repeat (go_big_quiet_step (fail))
    refine wpQuiet_nil ?_
    rintro w9 ⟨⟨W, hW⟩, rfl⟩
    clear cells
    go_wp2
    go_ret
    refine ⟨ret_bool ?_, HB.out.trans (hW.mono HB.out.size)⟩
    have := HR.out
    cases r
    · rfl
    · simp at this
  · refine wp_region_later (by kernel_rfl) (by kernel_rfl) ?_
    go_big_quiet_step (fail)
    go_big_quiet_step (exact later_of (HC.out.1 _))
    go_big_quiet_step (fail)
    go_big_quiet_step (exact later_of (HC.out.2.1 _))
    repeat (go_big_quiet_step (fail))
    go_big_quiet_step (exact later_of (below_of_same (HC.out.2.2 _)))
    repeat (go_big_quiet_step (fail))
    refine wpQuiet_nil ?_
    rintro w9 ⟨⟨W, hW⟩, rfl⟩
    clear cells
    go_wp2
    go_ret
    refine ⟨ret_bool ?_, HB.out.trans (hW.mono HB.out.size)⟩
    have := HR.out
    rw [HSS.out]
    cases r
    · rw [decide_eq_false_iff_not]; intro h; simp [h] at this
    · rw [decide_eq_true_eq]; simpa using this
theorem scriptSameV (x y : Ac) (A B : Option Addr) (n m c d : Nat) (v : Bool) (hv : acB x y = v) (w : World) (hA : U8At w A x.b) (hn : x.b.length = n) (hB : U8At w B y.b) (hm : y.b.length = m) :
    Calls Tryz.prog 81 #[.agg (x.cells A n c).toArray, .agg (y.cells B m d).toArray] w fun e w' => e = .returned (.bool v) ∧ Below w.heap.size w w' := by
  subst hv
  exact scriptSame x y A B n m c d w hA hn hB hm
end Go.Proofs.YteahiphmhaedpaaGreatDoor
