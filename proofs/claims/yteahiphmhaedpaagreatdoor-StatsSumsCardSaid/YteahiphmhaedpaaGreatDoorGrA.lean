/- A graph as it lies: its object, its row of neighbours; who is a node; a link made. -/
import Derived.Test.YteahiphmhaedpaaGreatDoorCfB
import Derived.Test.YteahiphmhaedpaaGreatDoorBase
import Derived.Deep.RegionHeld3
import Derived.Deep.DrawnRows
import Derived.Maps.AppendAt
namespace Go.Proofs.YteahiphmhaedpaaGreatDoor
open Go.RowKit Law
set_option linter.unusedVariables false
set_option linter.unusedSimpArgs false
set_option maxRecDepth 100000

abbrev u64V (l : List Nat) : List Value := l.map fun (x : Nat) => Value.int .u64 (x : Int)
/-- A graph: its object at G, its row of neighbours at R. -/
structure GrAt (w : World) (G R : Nat) (near : List Nat) : Prop where
  box : BoxF w G [.slice (some ⟨R, 0, none⟩) near.length near.length]
  row : BoxF w R (u64V near)
  lt : ∀ x ∈ near, x < 18446744073709551616
  ne : G ≠ R
  le : near.length ≤ 64
theorem GrAt.keep {w w' : World} {G R : Nat} {near : List Nat} (h : GrAt w G R near) (hb : Below w.heap.size w w') : GrAt w' G R near := ⟨h.box.keep hb, h.row.keep hb, h.lt, h.ne, h.le⟩
theorem GrAt.at_ {w : World} {G R : Nat} {near : List Nat} (h : GrAt w G R near) {i : Nat} (hi : i < near.length) : w.cell? ⟨R, i, none⟩ = some (.int .u64 (near[i] : Int)) :=
  h.row.1 i _ (by rw [List.getElem?_map, List.getElem?_eq_getElem hi]; rfl)
theorem GrAt.fz {w : World} {G R : Nat} {near : List Nat} (h : GrAt w G R near) {i : Nat} (hi : i < near.length) : w.frozen? ⟨R, i, none⟩ = false := h.row.2 i (by simpa using hi)
theorem GrAt.hd {w : World} {G R : Nat} {near : List Nat} (h : GrAt w G R near) : w.cell? ⟨G, 0, none⟩ = some (.slice (some ⟨R, 0, none⟩) near.length near.length) := h.box.1 0 _ rfl
theorem GrAt.ltG {w : World} {G R : Nat} {near : List Nat} (h : GrAt w G R near) : G < w.heap.size := h.box.lt (by simp)

theorem grLink (a b : Int) (w : World) : Calls Tryz.prog 126 #[.agg #[.int .i64 a, .int .i64 b]] w fun e w' => e = .returned (.agg #[.int .i64 (min a b), .int .i64 (max a b)]) ∧ Below w.heap.size w w' := by
  rcases Int.lt_trichotomy a b with h | h | h
  · rw [show min a b = a by omega, show max a b = b by omega]
    go_enter Tryz.func126, Tryz.ntmps126
    go_wp2
    refine bodyPost_ret (v := .agg #[.int .i64 a, .int .i64 b]) (by simp [results, Tryz.results126, go_sem] <;> omega) rfl ⟨rfl, ?_⟩
    repeat (first | exact Below.refl _ _ | (refine Below.setCell ?_ (by simp) _) | (refine Below.alloc ?_ (by simp) _))
  · subst h
    rw [show min a a = a by omega, show max a a = a by omega]
    go_enter Tryz.func126, Tryz.ntmps126
    go_wp2
    refine bodyPost_ret (v := .agg #[.int .i64 a, .int .i64 a]) (by simp [results, Tryz.results126, go_sem] <;> omega) rfl ⟨rfl, ?_⟩
    repeat (first | exact Below.refl _ _ | (refine Below.setCell ?_ (by simp) _) | (refine Below.alloc ?_ (by simp) _))
  · rw [show min a b = b by omega, show max a b = a by omega]
    go_enter Tryz.func126, Tryz.ntmps126
    go_wp2
    refine bodyPost_ret (v := .agg #[.int .i64 b, .int .i64 a]) (by simp [results, Tryz.results126, go_sem] <;> omega) rfl ⟨rfl, ?_⟩
    repeat (first | exact Below.refl _ _ | (refine Below.setCell ?_ (by simp) _) | (refine Below.alloc ?_ (by simp) _))
def nodeB (n : Nat) (i : Int) : Bool := decide (0 ≤ i) && decide (i < n)
theorem grNode {w : World} {G R : Nat} {near : List Nat} (i : Int) (h : GrAt w G R near) : Calls Tryz.prog 127 #[.pointer (some ⟨G, 0, none⟩), .int .i64 i] w fun e w' => e = .returned (.bool (nodeB near.length i)) ∧ w = w' := by
  have c0 := h.hd
  have HG : Hid (nodeB near.length i = (decide (0 ≤ i) && decide (i < (near.length : Int)))) := rfl
  generalize near.length = n at *
  go_enter Tryz.func127, Tryz.ntmps127
  go_wp2
  all_goals
    go_ret
    refine ⟨ret_bool ?_, rfl⟩
    rw [HG.out]
    first | (simp [*]; done) | (simp [*]; omega)
theorem grN {w : World} {G R : Nat} {near : List Nat} (h : GrAt w G R near) : Calls Tryz.prog 185 #[.pointer (some ⟨G, 0, none⟩)] w fun e w' => e = .returned (.int .i64 (near.length : Int)) ∧ w = w' := by
  have c0 := h.hd
  generalize near.length = n at *
  go_enter Tryz.func185, Tryz.ntmps185
  go_wp2
  go_ret
  exact ⟨rfl, rfl⟩
theorem grNear {w : World} {G R : Nat} {near : List Nat} (i : Nat) (hi : i < near.length) (h : GrAt w G R near) : Calls Tryz.prog 59 #[.pointer (some ⟨G, 0, none⟩), .int .i64 (i : Int)] w fun e w' => e = .returned (.int .u64 (near.getD i 0 : Int)) ∧ w = w' := by
  have c0 := h.hd
  have c1 := h.at_ hi
  have C := Lib.hid (grNode (i : Int) h)
  have hn : Hid (nodeB near.length (i : Int) = true) := by unfold Hid nodeB; simp; exact hi
  rw [hn.out] at C
  have HV : Hid (near.getD i 0 = near[i]) := by unfold Hid; simp [hi]
  have hl := h.le
  generalize hq : near[i] = x at *
  clear hq
  generalize near.length = n at *
  go_enter Tryz.func59, Tryz.ntmps59
  go_wp2_with fail
  refine C.out.mono ?_
  rintro e w' ⟨rfl, rfl⟩
  go_wp2
  go_ret
  exact ⟨by rw [HV.out]; rfl, rfl⟩

/-! ### a link made -/
def joinL (near : List Nat) (a b : Nat) : List Nat := (near.set a (near.getD a 0 ||| 2 ^ b)).set b ((near.set a (near.getD a 0 ||| 2 ^ b)).getD b 0 ||| 2 ^ a)
theorem with_one (s b : Nat) (hb : b < 64) : withN s [(b : Int)] = s ||| 2 ^ b := by
  have h : (b : Int) < 64 := by omega
  simp [withN, bitN, h]
theorem with1 (s b : Nat) (hs : s < 18446744073709551616) (hb : b < 64) (B : Nat) (W : World) (hc : W.cell? ⟨B, 0, none⟩ = some (.int .i64 (b : Int))) :
    Calls Tryz.prog 91 #[.int .u64 (s : Int), .slice (some ⟨B, 0, none⟩) 1 1] W fun e w' => e = .returned (.int .u64 ((s ||| 2 ^ b : Nat) : Int)) ∧ W = w' := by
  have h := nodesWith s hs (some ⟨B, 0, none⟩) 1 [(b : Int)] (n := 1) rfl (by omega) (fun x hx => by simp at hx; subst hx; omega) W (fun k z hz => by
    match k, hz with
    | 0, hz => simp at hz; subst hz; exact ⟨B, 0, rfl, World.block_lt_of_cell? _ _ hc, hc⟩)
  rw [with_one s b hb] at h
  exact h
theorem joinL_len (near : List Nat) (a b : Nat) : (joinL near a b).length = near.length := by simp [joinL]
theorem u64V_set (near : List Nat) (a x : Nat) : (u64V near).set a (.int .u64 (x : Int)) = u64V (near.set a x) := by simp [u64V, List.map_set]
theorem GrAt.put {w : World} {G R : Nat} {near : List Nat} (h : GrAt w G R near) {a : Nat} (ha : a < near.length) {x : Nat} (hx : x < 18446744073709551616) : GrAt (w.setCell ⟨R, a, none⟩ (.int .u64 (x : Int))) G R (near.set a x) := by
  refine ⟨?_, ?_, ?_, h.ne, by simpa using h.le⟩
  · rw [List.length_set]
    exact h.box.other (fun e => h.ne e.symm) _
  · rw [← u64V_set]
    exact h.row.put a (by simpa using ha) _
  · intro y hy
    rcases List.mem_or_eq_of_mem_set hy with hy | rfl
    · exact h.lt y hy
    · exact hx
theorem grown_of_below {w w' : World} {row : Option Nat} (h : Below w.heap.size w w') : w.grownBy w' row := ⟨h.os, h.tape, h.output, h.size, fun i hi _ => h.block i hi⟩
theorem grownBy_setC (W : World) (b k : Nat) (v : Value) : W.grownBy (W.setCell ⟨b, k, none⟩ v) (some b) :=
  ⟨rfl, rfl, rfl, (KeepsWalks.setCell W _ v).size, fun i _ hk => Below.heap_setCell _ _ _ i (fun e => hk (by rw [e]))⟩
set_option maxHeartbeats 3200000 in
attribute [local go_sem ↓] Go.wp_at_zero Go.wp_at_succ in
theorem grJoin {w : World} {G R : Nat} {near : List Nat} (a b : Nat) (ha : a < near.length) (hb : b < near.length) (h : GrAt w G R near) : Calls Tryz.prog 128 #[.pointer (some ⟨G, 0, none⟩), .agg #[.int .i64 (a : Int), .int .i64 (b : Int)]] w fun e w' => (∃ v, e = .returned v) ∧ GrAt w' G R (joinL near a b) ∧ w.grownBy w' (some R) := by
  have hle := h.le
  have hltG := h.ltG
  have h1 := h.keep ((Below.refl _ w).alloc (Nat.le_refl _) (.cells #[.int .i64 (a : Int), .int .i64 (b : Int)] 58))
  have hxa := h.lt _ (List.getElem_mem ha)
  have hb64 : b < 64 := by omega
  have ha64 : a < 64 := by omega
  have pa : 2 ^ a < 18446744073709551616 := Nat.pow_lt_pow_right (m := a) (n := 64) (by decide) ha64
  have pb : 2 ^ b < 18446744073709551616 := Nat.pow_lt_pow_right (m := b) (n := 64) (by decide) hb64
  have gr0 := World.grownBy_alloc w (.cells #[.int .i64 (a : Int), .int .i64 (b : Int)] 58) (some R)
  obtain ⟨W1, hW1⟩ : ∃ W1, w.alloc (.cells #[.int .i64 (a : Int), .int .i64 (b : Int)] 58) = W1 := ⟨_, rfl⟩
  have b0 : W1.cell? ⟨w.heap.size, 0, none⟩ = some (.int .i64 (a : Int)) := by rw [← hW1]; simp
  have b1 : W1.cell? ⟨w.heap.size, 1, none⟩ = some (.int .i64 (b : Int)) := by rw [← hW1]; simp
  have hne1 : some w.heap.size ≠ some R := fun e => by injection e with e; have := h.row.lt (by rw [List.length_map]; omega); omega
  rw [hW1] at h1 gr0
  have g1 := h1
  go_enter Tryz.func128, Tryz.ntmps128
  go_wp2
  have q0 := g1.hd
  have q1 := g1.at_ ha
  have l0 := fun U : Later W1 => Later.cell b0 U
  have l1 := fun U : Later W1 => Later.cell b1 U
  have l2 := fun U : Later W1 => Later.cell q0 U
  have l3 := fun U : Later W1 => Later.cell q1 U
  refine wp_region_head 16 18 (fun W => ∃ U : Later W1, W = U.val) (by kernel_rfl) (by kernel_rfl) (by intro c a t v w h; exact h) ⟨⟨_, (Below.refl _ _).drew⟩, rfl⟩ ?_
  simp only [List.take_succ_cons, List.take_zero, List.drop_succ_cons, List.drop_zero, Nat.reduceSub]
  iterate 16 (refine wpHead_step _ (by rfl) (by rintro _ ⟨U, rfl⟩; go_simp; with_reducible rfl) ?_; simp only [Act.put, List.setIfInBounds_toArray, List.set_cons_zero, List.set_cons_succ])
  refine wpHead_nil ?_
  refine ⟨by rfl, ?_⟩
  go_simp
  refine ⟨⟨⟨_, ((Below.refl _ _).alloc (Nat.le_refl _) _).drew⟩, rfl⟩, by rfl, ?_⟩
  go_simp
  go_at_call 91
  refine (with1 _ b hxa hb64 _ _ (by simp)).mono ?_
  rintro e w' ⟨rfl, rfl⟩
  refine ⟨⟨⟨_, ((Below.refl _ _).alloc (Nat.le_refl _) _).drew⟩, rfl⟩, ?_⟩
  refine wpMid_nil ?_
  have gk1 := g1.keep (((Below.refl W1.heap.size W1).alloc (Nat.le_refl _) (.cells #[.int .i64 (b : Int)] 3)))
  have qc := gk1.at_ ha
  have qf := gk1.fz ha
  have g2 := (gk1.put ha (x := near[a] ||| 2 ^ b) (or_lt64 hxa pb)).keep (Below.refl _ _).drew
  have gr2 := ((World.grownBy_alloc W1 (.cells #[.int .i64 (b : Int)] 3) (some R)).trans (grownBy_setC _ R a (.int .u64 ((near[a] ||| 2 ^ b : Nat) : Int)))).trans (grown_of_below (Below.refl _ _).drew)
  clear l0 l1 l2 l3 q0 q1
  obtain ⟨N2, hN2⟩ : ∃ N2, near.set a (near[a] ||| 2 ^ b) = N2 := ⟨_, rfl⟩
  have hl2 : N2.length = near.length := by rw [← hN2]; simp
  rw [hN2] at g2
  obtain ⟨W2, hW2⟩ : ∃ W2, ((W1.alloc (.cells #[.int .i64 (b : Int)] 3)).setCell ⟨R, a, none⟩ (.int .u64 ((near[a] ||| 2 ^ b : Nat) : Int))).drew = W2 := ⟨_, rfl⟩
  rw [hW2] at g2 gr2
  have HN := Lib.hid hN2
  clear hN2 gk1 g1 h1
  have b0 := gr2.cell b0 hne1
  have b1 := gr2.cell b1 hne1
  have hb2 : b < N2.length := by omega
  have hxb := g2.lt _ (List.getElem_mem hb2)
  have hle2 : N2.length ≤ 64 := by omega
  clear hW1
  go_wp2_with fail
  clear qc qf
  have q0 := g2.hd
  have q1 := g2.at_ hb2
  have l0 := fun U : Later W2 => Later.cell b0 U
  have l1 := fun U : Later W2 => Later.cell b1 U
  have l2 := fun U : Later W2 => Later.cell q0 U
  have l3 := fun U : Later W2 => Later.cell q1 U
  refine wp_region_head 16 18 (fun W => ∃ U : Later W2, W = U.val) (by kernel_rfl) (by kernel_rfl) (by intro c a t v w h; exact h) ⟨⟨_, (Below.refl _ _).drew⟩, rfl⟩ ?_
  simp only [List.take_succ_cons, List.take_zero, List.drop_succ_cons, List.drop_zero, Nat.reduceSub]
  iterate 16 (refine wpHead_step _ (by rfl) (by rintro _ ⟨U, rfl⟩; go_simp; with_reducible rfl) ?_; simp only [Act.put, List.setIfInBounds_toArray, List.set_cons_zero, List.set_cons_succ])
  refine wpHead_nil ?_
  refine ⟨by rfl, ?_⟩
  go_simp
  refine ⟨⟨⟨_, ((Below.refl _ _).alloc (Nat.le_refl _) _).drew⟩, rfl⟩, by rfl, ?_⟩
  go_simp
  go_at_call 91
  refine (with1 _ a hxb ha64 _ _ (by simp)).mono ?_
  rintro e w' ⟨rfl, rfl⟩
  refine ⟨⟨⟨_, ((Below.refl _ _).alloc (Nat.le_refl _) _).drew⟩, rfl⟩, ?_⟩
  refine wpMid_nil ?_
  have gk2 := g2.keep (((Below.refl W2.heap.size W2).alloc (Nat.le_refl _) (.cells #[.int .i64 (a : Int)] 3)))
  have qc := gk2.at_ hb2
  have qf := gk2.fz hb2
  have g3 := (gk2.put hb2 (x := N2[b] ||| 2 ^ a) (or_lt64 hxb pa)).keep (Below.refl _ _).drew
  have gr3 := ((World.grownBy_alloc W2 (.cells #[.int .i64 (a : Int)] 3) (some R)).trans (grownBy_setC _ R b (.int .u64 ((N2[b] ||| 2 ^ a : Nat) : Int)))).trans (grown_of_below (Below.refl _ _).drew)
  clear l0 l1 l2 l3 q0 q1
  have GF := Lib.hid (And.intro g3 (gr0.trans (gr2.trans gr3)))
  clear g3 g2 gr3 gr2 gr0 gk2
  have HJ : Hid (joinL near a b = N2.set b (N2[b] ||| 2 ^ a)) := by
    unfold Hid joinL
    have e1 : near.getD a 0 = near[a] := by simp [ha]
    rw [e1, HN.out]
    have e2 : N2.getD b 0 = N2[b] := by simp [hb2]
    rw [e2]
  go_wp2
  go_end0
  exact ⟨⟨_, rfl⟩, by rw [HJ.out]; exact GF.out.1, GF.out.2⟩
end Go.Proofs.YteahiphmhaedpaaGreatDoor
