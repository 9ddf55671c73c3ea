/- The reference's Bytes of a ledger. -/
import Derived.Test.YtncmbbkcpmimjaaDoorBufH
import Derived.Deep.RegionHeld3
import Derived.Deep.AppendLies
import Derived.Deep.DrawnRows
namespace Go.Proofs.YtncmbbkcpmimjaaDoor
open Go.RowKit Law
set_option linter.unusedVariables false

theorem grown_keep {w w3 : World} {base n s : Nat} {e : TypeId} {v x : Value} {xs : List Value} {a : Addr} (hown : w.ownsRow base e s v n xs) (hg : w.grownBy w3 v.ownBlock) (h : w.cell? a = some x) (hlt : a.block < base) : w3.cell? a = some x := by
  rw [hg.cell_far a (World.block_lt_of_cell? _ _ h) (fun he => by have := (hown.lt a.block he.symm).1; omega)]
  exact h
theorem LdAt.belowN {w w' : World} {b B : Nat} {l : Ld} (h : LdAt w b l) (hlt : b < B) (hb : Below B w w') : LdAt w' b l := fun j v hj => by
  rw [hb.cell (p := ⟨b, 0 + j, none⟩) hlt]
  exact h j v hj
theorem refFixedS (x n : Nat) (hx : x < 18446744073709551616) (hn0 : 0 < n) (hn : n ≤ 8) (w : World) :
    Calls Tryd.prog 40 #[.int .u64 (x : Int), .int .i64 (n : Int)] w fun e w' => ∃ g c, e = .returned (.slice (some ⟨g, 0, none⟩) n c) ∧ w'.ownsRow w.heap.size 5 1 (.slice (some ⟨g, 0, none⟩) n c) n (u8V (leB n x)) ∧ Below w.heap.size w w' :=
  (refFixed x n hx hn w).mono fun e w' ⟨v, he, hown, hb⟩ => by
    obtain ⟨g, c, hv, _, _⟩ := hown.form hn0
    exact ⟨g, c, by rw [he, hv], by rw [← hv]; exact hown, hb⟩
theorem refFixed8 (x : Nat) (hx : x < 18446744073709551616) (w : World) :
    Calls Tryd.prog 40 #[.int .u64 (x : Int), .int .i64 8] w fun e w' => ∃ g c, e = .returned (.slice (some ⟨g, 0, none⟩) 8 c) ∧ w'.ownsRow w.heap.size 5 1 (.slice (some ⟨g, 0, none⟩) 8 c) 8 (u8V (leB 8 x)) ∧ Below w.heap.size w w' := refFixedS x 8 hx (by omega) (by omega) w
theorem refFixed4 (x : Nat) (hx : x < 18446744073709551616) (w : World) :
    Calls Tryd.prog 40 #[.int .u64 (x : Int), .int .i64 4] w fun e w' => ∃ g c, e = .returned (.slice (some ⟨g, 0, none⟩) 4 c) ∧ w'.ownsRow w.heap.size 5 1 (.slice (some ⟨g, 0, none⟩) 4 c) 4 (u8V (leB 4 x)) ∧ Below w.heap.size w w' := refFixedS x 4 hx (by omega) (by omega) w
section
attribute [local go_sem ↓] Go.wp_at_zero Go.wp_at_succ
set_option maxHeartbeats 3200000 in
set_option maxRecDepth 100000 in
theorem refBytes (l : Ld) (hf : l.Fits) (n : Int) (w : World) :
    Calls Tryd.prog 16 #[l.val, .int .i64 n] w fun e w' => ∃ v, e = .returned v ∧ w'.ownsRow w.heap.size 5 1 v (putK l (clampN n)).length (u8V (putK l (clampN n))) ∧ Below w.heap.size w w' := by
  obtain ⟨i0, hi, hz0, hz1, hz2⟩ := info_parts u8Info
  have hA := LdAt.new w l 26
  have hc0 := hA.count
  have hc1 := hA.sum
  have HA := Lib.hid hA
  obtain ⟨q, hq⟩ : ∃ q, clampN n = q := ⟨_, rfl⟩
  have hq64 := clampN_le n
  have CN := refNodes n
  rw [hq] at hq64 CN ⊢
  have CN := Lib.hid CN
  clear hq
  obtain ⟨m, hm⟩ : ∃ m, (l.count % 18446744073709551616).toNat = m := ⟨_, rfl⟩
  have hm64 : m < 18446744073709551616 := by omega
  have hwm : IntKind.u64.wrap l.count = (m : Int) := by rw [IntKind.wrap_u64]; omega
  have hb0 : Below w.heap.size w (w.alloc (.cells l.cells.toArray 26)) := (Below.refl _ _).alloc (Nat.le_refl _) _
  have C1 := Lib.hid (refFixed8 m hm64)
  have C2 := Lib.hid (refFixed8 l.sum hf.s)
  have HM := Lib.hid hm
  have HB0 := Lib.hid hb0
  clear hA hm hb0
  unfold Ld.val
  go_enter Tryd.func16, Tryd.ntmps16
  go_wp2_with fail
  go_region_held3 (fun w' => w'.cell? ⟨w.heap.size, 0, none⟩ = some (.int .i64 l.count) ∧ w'.cell? ⟨w.heap.size, 1, none⟩ = some (.int .u64 (l.sum : Int)))
    (first
      | go_keep
      | (go_split_ands; refine ⟨?_, ?_⟩ <;> (rw [hb1.cell (World.block_lt_of_cell? _ _ (by assumption))]; assumption))
      | (go_split_ands; refine ⟨?_, ?_⟩ <;> (rw [hb2.cell (World.block_lt_of_cell? _ _ (by assumption))]; assumption))
      | (go_split_ands; refine ⟨?_, ?_⟩ <;> exact grown_keep (ownsRow_kept hown1 hb2) hgrow (by assumption) (by simp)))
    ((first
      | (refine step_append_lies _ (by rfl) _ _ 29 (by rfl) _ 5 i0 (.int .u8 0) 1 1 Tryd.underlying29 hi hz0 hz1 hz2 rfl (by decide) (.slice (some ⟨g1, 0, none⟩) 8 c1) 8 (u8V (leB 8 m)) (by rfl) (ownsRow_kept hown1 hb2) ⟨g2, 0, none⟩ 8 c2 (u8V (leB 8 l.sum)) (by rfl) (by unfold u8V; rw [List.length_map, leB_len]) ((ownU8 hown2 rfl).flat _ rfl) u8_one (by decide) (by unfold maxLen; omega) (by omega) (Nat.le_trans hb1.size hb2.size) w2.heap.size rfl ?_; intro g cap w3 hown3 hgrow hat hlt)
      | (go_at_call 40; (with_reducible refine (C1.out _).mono ?_); rintro e w1 ⟨g1, c1, rfl, hown1, hb1⟩)
      | (go_at_call 40; (with_reducible refine (C2.out _).mono ?_); rintro e w2 ⟨g2, c2, rfl, hown2, hb2⟩)))
  have hB3 : Below (w.heap.size + 1) (w.alloc (.cells l.cells.toArray 26)) w3 := by
    have e : ((w.alloc (.cells l.cells.toArray 26)).drew).heap.size = w.heap.size + 1 := by simp
    have e2 : Below (w.heap.size + 1) ((w.alloc (.cells l.cells.toArray 26)).drew) w2 := by
      have := hb1.trans (hb2.mono hb1.size)
      rwa [e] at this
    exact (below_draws (Below.refl _ (w.alloc (.cells l.cells.toArray 26))) 1).trans (e2.grown hgrow (by have h1 := hb1.size; have h2 := hb2.size; rw [e] at h1; omega) (fun j hj => by have := (hown1.lt j hj).1; rw [e] at this; exact this))
  have hown4 : w3.ownsRow (w.heap.size + 1) 5 1 (.slice (some ⟨g, 0, none⟩) (8 + 8) cap) (8 + 8) (u8V (putK l 0)) := by
    have h := ownsRow_base (base' := w.heap.size + 1) hown3 (by simp)
    rw [← u8V_app] at h
    have e : putK l 0 = leB 8 m ++ leB 8 l.sum := by unfold putK; rw [HM.out]
    rw [e]
    exact h
  have HL3 := Lib.hid (And.intro hown4 (And.intro (HA.out.below (hB3.mono (by simp))) ((HB0.out).trans (hB3.mono (by omega)))))
  clear hown1 hb1 hown2 hb2 hown3 hgrow hat hlt hB3 hown4 C1 C2
  clear hc0 hc1 hwm HM HB0 HA
  simp only [Nat.reduceAdd]
  go_wp2_with fail
  go_loopw [5, 6] (fun b i wr => ∃ (k : Nat), k ≤ q ∧ i = .int .i64 k ∧ wr.ownsRow (w.heap.size + 1) 5 1 b (16 + 4 * k) (u8V (putK l k)) ∧ LdAt wr w.heap.size l ∧ Below w.heap.size w wr) (fun _ i _ => q - (intOf i).toNat)
  case atStart => exact ⟨0, Nat.zero_le _, rfl, HL3.out⟩
  case round =>
    obtain ⟨k, hk, rfl, hown, hL, hB⟩ := hrel
    by_cases hlt : k < q
    · have hlt' : k < l.of.length := by rw [hf.n]; omega
      have hc := hL.of hlt'
      have hcf := hf.o _ (List.getElem_mem hlt')
      obtain ⟨c, hce⟩ : ∃ c, l.of[k] = c := ⟨_, rfl⟩
      have hgd : l.of.getD k 0 = c := by rw [List.getD_eq_getElem?_getD, List.getElem?_eq_getElem hlt', hce]; rfl
      rw [hce] at hc hcf
      have HP : Hid (putK l (k + 1) = putK l k ++ leB 4 c) := by unfold Hid; rw [← hgd]; rfl
      have C4 := Lib.hid (refFixed4 c (by omega))
      have HK := Lib.hid (And.intro hown (And.intro hL hB))
      clear hown hL hB hce hgd
      go_wp2_with fail
      refine (CN.out _).mono ?_
      rintro e w4 ⟨rfl, rfl⟩
      go_wp2_with fail
      refine (C4.out _).mono ?_
      rintro e w5 ⟨g5, c5, rfl, hown5, hb5⟩
      have hownk := ownsRow_kept HK.out.1 hb5
      clear hc
      go_wp2_with (at_builtin; refine wpList_append_own _ rfl _ _ 29 rfl (w.heap.size + 1) 5 i0 (.int .u8 0) 1 1 Tryd.underlying29 hi hz0 hz1 hz2 rfl (by decide) _ _ _ rfl hownk ⟨g5, 0, none⟩ 4 c5 (u8V (leB 4 c)) rfl ?c1 ?c2 ?c3 ?c4 ?c5 ?c6 ?_)
      case c1 => unfold u8V; rw [List.length_map, leB_len]
      case c2 => exact (ownU8 hown5 rfl).flat _ rfl
      case c3 => exact u8_one
      case c4 => unfold maxLen; omega
      case c5 => omega
      case c6 => have h1 := HK.out.2.1.lt; have h2 := hb5.size; omega
      intro v' w6 hown6 hgrow6 _
      have hb6 : Below (w.heap.size + 1) _ w6 := (hb5.mono (Nat.succ_le_of_lt HK.out.2.1.lt)).grown hgrow6 (Nat.le_trans (Nat.succ_le_of_lt HK.out.2.1.lt) hb5.size) (fun j hj => (hownk.lt j hj).1)
      have HF := Lib.hid (And.intro hown6 (And.intro (HK.out.2.1.belowN (Nat.lt_succ_self _) hb6) (HK.out.2.2.trans (hb6.mono (Nat.le_succ _)))))
      clear hownk hown5 hb5 hown6 hgrow6 hb6
      go_wp2
      go_roundw
      case rel => exact ⟨k + 1, by omega, by go_num, by rw [HP.out, u8V_app]; exact HF.out.1, HF.out.2.1, HF.out.2.2⟩
      case measure => simp [intOf]; omega
    · obtain rfl : k = q := by omega
      have HK := Lib.hid (And.intro (ownsRow_base (base' := w.heap.size) hown (Nat.le_succ _)) hB)
      clear hown hL hB
      go_wp2_with fail
      refine (CN.out _).mono ?_
      rintro e w4 ⟨rfl, rfl⟩
      go_wp2
      go_ret
      exact ⟨_, rfl, by rw [putK_len]; exact HK.out.1, HK.out.2⟩
end
end Go.Proofs.YtncmbbkcpmimjaaDoor
