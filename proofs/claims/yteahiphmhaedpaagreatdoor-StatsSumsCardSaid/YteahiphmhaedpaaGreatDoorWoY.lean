/- What several texts of this seat lean on, joined: WoG WoH WoI WoN WoO WoP. -/
import Derived.Test.YteahiphmhaedpaaGreatDoorWoX
import Derived.Test.YteahiphmhaedpaaGreatDoorActF
import Derived.Test.YteahiphmhaedpaaGreatDoorRhD
import Derived.Test.YteahiphmhaedpaaGreatDoorBase
import Derived.Deep.AppendLies
namespace Go.Proofs.YteahiphmhaedpaaGreatDoor
open Go.RowKit Law
set_option linter.unusedVariables false
set_option linter.unusedSimpArgs false
set_option maxRecDepth 100000

/-- Places some ticks later. -/
def tickI (ps : List PlV) : Nat → List PlV
  | 0 => ps
  | k + 1 => (tickI ps k).map tickP
theorem tickI_len (ps : List PlV) : ∀ k, (tickI ps k).length = ps.length
  | 0 => rfl
  | k + 1 => by rw [tickI, List.length_map, tickI_len ps k]
theorem tickI_at {ps : List PlV} : ∀ (k : Nat) {i : Nat} {q : PlV}, (tickI ps k)[i]? = some q → ∃ p, ps[i]? = some p ∧ q.at_ = p.at_ + 1024 * k ∧ q.lo = p.lo ∧ q.hi = p.hi ∧ q.P = p.P ∧ q.hd = p.hd ∧ q.downs = p.downs
  | 0, i, q, h => ⟨q, h, by simp, rfl, rfl, rfl, rfl, rfl⟩
  | k + 1, i, q, h => by
    rw [tickI, List.getElem?_map] at h
    obtain ⟨z, hz, rfl⟩ := Option.map_eq_some_iff.1 h
    obtain ⟨p, hp, h1, h2, h3, h4, h5, h6⟩ := tickI_at k hz
    exact ⟨p, hp, by show z.at_ + 1024 = _; rw [h1]; omega, h2, h3, h4, h5, h6⟩
theorem tickI_iv {ps : List PlV} (k : Nat) {i : Nat} {p : PlV} (h : ps[i]? = some p) : ∃ q, (tickI ps k)[i]? = some q ∧ q.lo = p.lo ∧ q.hi = p.hi := by
  have hi : i < (tickI ps k).length := by rw [tickI_len]; exact (List.getElem?_eq_some_iff.1 h).1
  obtain ⟨p', hp', _, h2, h3, _⟩ := tickI_at k (List.getElem?_eq_getElem hi)
  rw [h] at hp'
  obtain rfl := Option.some.inj hp'
  exact ⟨_, List.getElem?_eq_getElem hi, h2, h3⟩
/-- What is not the cluster's may be turned. -/
theorem WdAt.away {w : World} {base W : Nat} {c : Cn} {A : Option Addr} {l k : Nat} {t : Int} {R cap : Nat} {ps : List PlV} {air : Nat} {ev : Value} {cr : Int} (h : WdAt w base W c A l k t R cap ps air ev cr) {w' : World} {B : Nat} (F : FrB B w w') (h1 : B ≠ W) (h2 : B ≠ air) (h3 : B ≠ R) (h4 : ∀ (i : Nat) (p : PlV), ps[i]? = some p → B < p.lo ∨ p.hi ≤ B) : WdAt w' base W c A l k t R cap ps air ev cr :=
  { h with box := F.box h.box (by unfold wdL; simp) (Ne.symm h1), row := fun i p hp => (cell_sm (F.block R h.lR (Ne.symm h3))).trans (h.row i p hp), airb := F.box h.airb (by simp) (Ne.symm h2), pl := fun i p hp => (h.pl i p hp).kept F.size (fun q a1 a2 => F.block q (Nat.lt_of_lt_of_le a2 (h.pl i p hp).top) (by have := h4 i p hp; omega)), lR := Nat.lt_of_lt_of_le h.lR F.size }
theorem asksTick (w : World) : Calls Tryz.prog 24 #[.int .i64 1] w fun e w' => e = .returned (.bool false) ∧ w = w' := by
  go_enter Tryz.func24, Tryz.ntmps24
  go_wp2
  go_ret
  exact ⟨rfl, rfl⟩
/-- There is time for some ticks more. -/
def RoomI (c : Cn) (m : Nat) (p : PlV) : Prop := p.at_ + 1024 * m < c.round ∧ p.at_ + 1024 * m < perEvery c.attend
def ActPost (base W : Nat) (c : Cn) (A : Option Addr) (l k : Nat) (t : Int) (R cap : Nat) (ps qs : List PlV) (air : Nat) (ev : Value) (cr : Int) (er : Int) (w : World) (e : Ending) (w' : World) : Prop := e = .returned (.tuple #[.agg #[.int .i64 0, .int .i64 0, .int .u32 0], .int .i64 er]) ∧ WdAt w' base W c A l k t R cap qs air ev cr ∧ FrC W ps w w'
set_option maxHeartbeats 12800000 in
theorem actTick {w : World} {base W : Nat} {c : Cn} {A : Option Addr} {l k : Nat} {t : Int} {R cap : Nat} {ps : List PlV} {air : Nat} {ev : Value} {cr : Int} (h : WdAt w base W c A l k t R cap ps air ev cr) (hlen : ps.length ≤ 64) (m : Nat) (hm : m ≤ 64) (hg : goodA ⟨1, 0, (m : Int), Fa0, []⟩ = true) (ht0 : 0 ≤ t) (ht1 : t ≤ 900000000) (hM : c.round ≤ 1152921504606846976) (hr : ∀ (i : Nat) (p : PlV), ps[i]? = some p → RoomI c m p) :
    Calls Tryz.prog 9 #[.pointer (some ⟨W, 0, none⟩), .agg #[.int .i64 1, .int .i64 0, .int .i64 (m : Int), .int .i64 0, .int .i64 0, .int .i64 0, .int .u32 0, .int .u32 0, .slice none 0 0]] w (ActPost base W c A l k (t + m) R cap ps (tickI ps m) air ev cr 0 w) := by
  have HP : Hid (∀ w', WdAt w' base W c A l k (t + m) R cap (tickI ps m) air ev cr → FrC W ps w w' → ActPost base W c A l k (t + m) R cap ps (tickI ps m) air ev cr 0 w (.returned (.tuple #[.agg #[.int .i64 0, .int .i64 0, .int .u32 0], .int .i64 0])) w') := fun w' h1 h2 => ⟨rfl, h1, h2⟩
  have HG := Lib.hid (fun W2 => scriptGoodV ⟨1, 0, (m : Int), Fa0, []⟩ none 0 0 true hg W2 (U8At.nil _ _) rfl)
  have k0 := boxF_made w [.int .i64 1, .int .i64 0, .int .i64 (m : Int), .int .i64 0, .int .i64 0, .int .i64 0, .int .u32 0, .int .u32 0, .slice none 0 0] 48
  have k1 := boxF_made (w.alloc (.cells #[.int .i64 1, .int .i64 0, .int .i64 (m : Int), .int .i64 0, .int .i64 0, .int .i64 0, .int .u32 0, .int .u32 0, .slice none 0 0] 48)) [.int .i64 0, .int .i64 0, .int .u32 0] 41
  have b1 := ((Below.refl w.heap.size w).alloc (Nat.le_refl _) (.cells #[.int .i64 1, .int .i64 0, .int .i64 (m : Int), .int .i64 0, .int .i64 0, .int .i64 0, .int .u32 0, .int .u32 0, .slice none 0 0] 48)).alloc (by simp) (.cells #[.int .i64 0, .int .i64 0, .int .u32 0] 41)
  have k0' := k0.keep ((Below.refl _ _).alloc (Nat.le_refl _) (.cells #[.int .i64 0, .int .i64 0, .int .u32 0] 41))
  rw [show (w.alloc (.cells [.int .i64 1, .int .i64 0, .int .i64 (m : Int), .int .i64 0, .int .i64 0, .int .i64 0, .int .u32 0, .int .u32 0, .slice none 0 0].toArray 48)).heap.size = w.heap.size + 1 by simp] at k1
  obtain ⟨w1, hw1⟩ : ∃ w1, (w.alloc (.cells #[.int .i64 1, .int .i64 0, .int .i64 (m : Int), .int .i64 0, .int .i64 0, .int .i64 0, .int .u32 0, .int .u32 0, .slice none 0 0] 48)).alloc (.cells #[.int .i64 0, .int .i64 0, .int .u32 0] 41) = w1 := ⟨_, rfl⟩
  rw [hw1] at b1
  replace k0' : BoxF w1 w.heap.size [.int .i64 1, .int .i64 0, .int .i64 (m : Int), .int .i64 0, .int .i64 0, .int .i64 0, .int .u32 0, .int .u32 0, .slice none 0 0] := hw1 ▸ k0'
  replace k1 : BoxF w1 (w.heap.size + 1) [.int .i64 0, .int .i64 0, .int .u32 0] := hw1 ▸ k1
  have a0_ := k0'.1 0 _ rfl
  have a1_ := k0'.1 1 _ rfl
  have a2_ := k0'.1 2 _ rfl
  have a3_ := k0'.1 3 _ rfl
  have a4_ := k0'.1 4 _ rfl
  have a5_ := k0'.1 5 _ rfl
  have a6_ := k0'.1 6 _ rfl
  have a7_ := k0'.1 7 _ rfl
  have a8_ := k0'.1 8 _ rfl
  have H1 := Lib.hid (And.intro (h.below b1) (And.intro k0' (And.intro k1 b1)))
  have HR := Lib.hid (And.intro hr (And.intro hM (And.intro ht0 (And.intro ht1 hm))))
  have HW0 : Hid (W < w.heap.size ∧ air < w.heap.size ∧ R < w.heap.size ∧ ∀ (i : Nat) (p : PlV), ps[i]? = some p → p.hi ≤ w.heap.size) := ⟨h.box.lt (by unfold wdL; simp), h.airb.lt (by simp), h.lR, fun i p hp => (h.pl i p hp).top⟩
  have HLEN := Lib.hid hlen
  have hm64 : (m : Int) ≤ 64 := by omega
  clear hlen h k0 k0' k1 b1 hr hM ht0 ht1 hm hg
  go_enter Tryz.func9, Tryz.ntmps9
  go_wp2_with fail
  refine (HG.out _).mono ?_
  rintro e w2 ⟨rfl, hb2⟩
  have HKA : Hid (∀ X, Below w2.heap.size w2 X → BoxF X w.heap.size [.int .i64 1, .int .i64 0, .int .i64 (m : Int), .int .i64 0, .int .i64 0, .int .i64 0, .int .u32 0, .int .u32 0, .slice none 0 0] ∧ BoxF X (w.heap.size + 1) [.int .i64 0, .int .i64 0, .int .u32 0]) := fun X hX => ⟨(H1.out.2.1.keep hb2).keep hX, (H1.out.2.2.1.keep hb2).keep hX⟩
  have HD : Hid (Below w2.heap.size w2 w2.drew) := (Below.refl _ _).drew
  have HB2 : Hid (Below w.heap.size w w2) := H1.out.2.2.2.trans (hb2.mono H1.out.2.2.2.size)
  have H2 := Lib.hid (H1.out.1.below hb2)
  clear hb2 hw1 a0_ a1_ a2_ a3_ a4_ a5_ a6_ a7_ a8_
  go_wp2_with fail
  refine wp_region_plan [] [(true, 0), (true, 1), (false, 2), (true, 3), (true, 4), (true, 5), (true, 6), (true, 7), (true, 8), (true, 9), (true, 10), (true, 11), (true, 12), (true, 13)] 14 12 (fun X => Below w2.heap.size w2 X) (by kernel_rfl) (by kernel_rfl) (by intro c a t v w h; exact h) HD.out ?_
  simp only [pickB, pickL, List.drop_succ_cons, List.drop_zero, List.head?_cons, Option.toList_some, List.map_cons, List.map_nil, List.cons_append, List.nil_append]
  refine wpHead_nil ?_
  iterate 2 (refine wpPlan_rd _ (by rfl) (by intro W hW; have hk := HKA.out W hW; have z0 := hk.1.1 0 _ rfl; clear hk hW; go_simp; with_reducible rfl) ?_; simp only [Act.put, List.setIfInBounds_toArray, List.set_cons_zero, List.set_cons_succ])
  refine wpPlan_do (by rfl) ?_
  go_simp
  go_at_call 24
  refine (asksTick _).mono ?_
  rintro e w' ⟨rfl, rfl⟩
  refine ⟨HD.out, ?_⟩
  iterate 1 (refine wpPlan_rd _ (by rfl) (by intro W hW; have hk := HKA.out W hW; have z0 := hk.1.1 0 _ rfl; clear hk hW; go_simp; with_reducible rfl) ?_; simp only [Act.put, List.setIfInBounds_toArray, List.set_cons_zero, List.set_cons_succ])
  iterate 8 (refine wpPlan_skip (by rfl) ?_; simp only [Act.put, List.setIfInBounds_toArray, List.set_cons_zero, List.set_cons_succ])
  iterate 2 (refine wpPlan_rd _ (by rfl) (by intro W hW; have hk := HKA.out W hW; have z0 := hk.1.1 0 _ rfl; clear hk hW; go_simp; with_reducible rfl) ?_; simp only [Act.put, List.setIfInBounds_toArray, List.set_cons_zero, List.set_cons_succ])
  refine wpPlan_nil ?_
  have HK3 := Lib.hid (HKA.out _ HD.out)
  have H3 := Lib.hid (H2.out.below HD.out)
  have HB3 : Hid (Below w.heap.size w w2.drew) := HB2.out.drew
  obtain ⟨w3, hw3⟩ : ∃ w3, w2.drew = w3 := ⟨_, rfl⟩
  rw [hw3] at HK3 H3 HB3 ⊢
  have a0 := HK3.out.1.1 0 _ rfl
  have a2 := HK3.out.1.1 2 _ rfl
  clear hw3
  go_wp2
  clear a0 a2
  go_loopw [41] (fun i wr => ∃ j : Nat, j ≤ m ∧ i = .int .i64 j ∧ WdAt wr base W c A l k (t + j) R cap (tickI ps j) air ev cr ∧ FrC W ps w3 wr) (fun i _ => m - (intOf i).toNat)
  case atStart => exact ⟨0, Nat.zero_le _, rfl, by rw [show t + ((0 : Nat) : Int) = t by omega]; exact H3.out, FrC.refl _ _ _⟩
  case round =>
    obtain ⟨j, hj, rfl, hW, hB⟩ := hrel
    by_cases hlt : j < m
    · have hltI : (j : Int) < (m : Int) := by omega
      have C := Lib.hid (worldTick hW (by rw [tickI_len]; exact HLEN.out) (by have := HR.out; omega) (by have := HR.out; omega) HR.out.2.1 (fun i q hq => by
        obtain ⟨p, hp, h1, -⟩ := tickI_at j hq
        obtain ⟨r1, r2⟩ := HR.out.1 i p hp
        unfold Room
        rw [h1]
        constructor <;> omega))
      have HX := Lib.hid hB
      clear hW hB
      go_wp2_with fail
      refine C.out.mono ?_
      rintro e w5 ⟨rfl, h5, F5⟩
      have HN : Hid (WdAt w5 base W c A l k (t + ((j + 1 : Nat) : Int)) R cap (tickI ps (j + 1)) air ev cr ∧ FrC W ps w3 w5) := by
        rw [show t + ((j + 1 : Nat) : Int) = t + (j : Int) + 1 by omega]
        refine ⟨h5, HX.out.trans (F5.same fun i q hq => ?_)⟩
        obtain ⟨p, hp, h1, h2, h3, -⟩ := tickI_at j hq
        exact ⟨p, hp, h2.symm, h3.symm⟩
      clear h5 F5
      go_wp2
      go_roundw
      case rel => exact ⟨j + 1, by omega, by go_num, HN.out.1, HN.out.2⟩
      case measure => simp [intOf]; omega
    · obtain rfl : j = m := by omega
      have hkb : wr.heap[w.heap.size + 1]? = w3.heap[w.heap.size + 1]? := hB.block _ (HK3.out.2.lt (by simp)) (by have := HW0.out.1; omega) (fun i p hp => by have := HW0.out.2.2.2 i p hp; omega)
      have kk := HK3.out.2.same hkb
      have e0 := kk.1 0 _ rfl
      have e1 := kk.1 1 _ rfl
      have e2 := kk.1 2 _ rfl
      have g0 := kk.2 0 (by simp)
      have g1 := kk.2 1 (by simp)
      have g2 := kk.2 2 (by simp)
      have zp := storeN_box (w.heap.size + 1) [.int .i64 0, .int .i64 0, .int .u32 0] wr [] [.int .i64 0, .int .i64 0, .int .u32 0] rfl kk
      have FF : FrB (w.heap.size + 1) wr (storeN (w.heap.size + 1) wr [.int .i64 0, .int .i64 0, .int .u32 0] 0) := ((FrB.set _ _ _ _).trans (FrB.set _ _ _ _)).trans (FrB.set _ _ _ _)
      obtain ⟨wf, hwf⟩ : ∃ wf, storeN (w.heap.size + 1) wr [.int .i64 0, .int .i64 0, .int .u32 0] 0 = wf := ⟨_, rfl⟩
      rw [show ([] : List Value).length = 0 from rfl, List.nil_append, hwf] at zp
      rw [hwf] at FF
      simp only [storeN, Nat.reduceAdd] at hwf
      have z0 := zp.1 0 _ rfl
      have z1 := zp.1 1 _ rfl
      have z2 := zp.1 2 _ rfl
      have HF := Lib.hid (HP.out wf (hW.away FF (by have := HW0.out.1; omega) (by have := HW0.out.2.1; omega) (by have := HW0.out.2.2.1; omega) (fun i q hq => by
        obtain ⟨p, hp, h1, h2, h3, -⟩ := tickI_at j hq
        have := HW0.out.2.2.2 i p hp
        omega)) (by
        have h0 : FrC W ps w wr := (FrC.of HB3.out).trans hB
        exact ⟨FF.os.trans h0.os, FF.tape.trans h0.tape, FF.output.trans h0.output, Nat.le_trans h0.size FF.size, fun q h1 h2 h3 => (FF.block q (Nat.lt_of_lt_of_le h1 h0.size) (by omega)).trans (h0.block q h1 h2 h3)⟩))
      clear hW hB hkb kk zp FF
      go_wp2
      refine bodyPost_ret (v := .tuple #[.agg #[.int .i64 0, .int .i64 0, .int .u32 0], .int .i64 0]) (by simp [results, Tryz.results9, go_sem, z0, z1, z2]) rfl HF.out
end Go.Proofs.YteahiphmhaedpaaGreatDoor

namespace Go.Proofs.YteahiphmhaedpaaGreatDoor
open Go.RowKit Law
set_option linter.unusedVariables false
set_option linter.unusedSimpArgs false
set_option maxRecDepth 100000

theorem evInfo : (Tryz.prog.info? 186).map (fun i => (i.zero, i.size, i.bytes)) = some (some (.agg #[.int .i64 0, .int .i64 0, .int .i64 0, .int .i64 0, .int .i64 0, .int .u32 0, .int .i64 0, .int .i64 0]), 8, 64) := by kernel_rfl
def EventPost (base W : Nat) (c : Cn) (A : Option Addr) (l k : Nat) (t : Int) (R cap : Nat) (ps : List PlV) (air : Nat) (cr : Int) (w : World) (e : Ending) (w' : World) : Prop := e = .returned (.tuple #[]) ∧ ∃ g cap2, WdAt w' base W c A l k t R cap ps air (.slice (some ⟨g, 0, none⟩) 1 cap2) cr ∧ FrC W ps w w'
set_option maxHeartbeats 6400000 in
theorem worldEvent0 {w : World} {base W : Nat} {c : Cn} {A : Option Addr} {l k : Nat} {t : Int} {R cap : Nat} {ps : List PlV} {air : Nat} {ev : Value} {cr : Int} (h : WdAt w base W c A l k t R cap ps air ev cr) (he : ev = .slice none 0 0) (i : Nat) (kd : Int) :
    Calls Tryz.prog 92 #[.pointer (some ⟨W, 0, none⟩), .int .i64 (i : Int), .agg #[.int .i64 0, .int .i64 0, .int .i64 kd, .int .i64 0, .int .i64 0, .int .u32 0, .int .i64 0, .int .i64 0]] w (EventPost base W c A l k t R cap ps air cr w) := by
  subst he
  obtain ⟨i0, hi, hz0, hz1, hz2⟩ := info_parts evInfo
  have HP : Hid (∀ g cap2 w', WdAt w' base W c A l k t R cap ps air (.slice (some ⟨g, 0, none⟩) 1 cap2) cr → FrC W ps w w' → EventPost base W c A l k t R cap ps air cr w (.returned (.tuple #[])) w') := fun g cap2 w' h1 h2 => ⟨rfl, g, cap2, h1, h2⟩
  have k1 := boxF_made w [.int .i64 t, .int .i64 (i : Int), .int .i64 kd, .int .i64 0, .int .i64 0, .int .u32 0, .int .i64 0, .int .i64 0] 186
  have b1 := (Below.refl w.heap.size w).alloc (Nat.le_refl _) (.cells #[.int .i64 t, .int .i64 (i : Int), .int .i64 kd, .int .i64 0, .int .i64 0, .int .u32 0, .int .i64 0, .int .i64 0] 186)
  have c15 : w.cell? ⟨W, 15, none⟩ = some (.int .i64 t) := h.box.1 15 _ rfl
  have hlt : W < w.heap.size := h.box.lt (by unfold wdL; simp)
  have hne : W ≠ w.heap.size := Nat.ne_of_lt hlt
  obtain ⟨w1, hw1⟩ : ∃ w1, w.alloc (.cells #[.int .i64 t, .int .i64 (i : Int), .int .i64 kd, .int .i64 0, .int .i64 0, .int .u32 0, .int .i64 0, .int .i64 0] 186) = w1 := ⟨_, rfl⟩
  rw [hw1] at b1
  replace k1 : BoxF w1 w.heap.size [.int .i64 t, .int .i64 (i : Int), .int .i64 kd, .int .i64 0, .int .i64 0, .int .u32 0, .int .i64 0, .int .i64 0] := hw1 ▸ k1
  have h1 := h.below b1
  have HKE : Hid (∀ X, Below w1.heap.size w1 X → X.cell? ⟨W, 43, none⟩ = some (.slice none 0 0) ∧ BoxF X w.heap.size [.int .i64 t, .int .i64 (i : Int), .int .i64 kd, .int .i64 0, .int .i64 0, .int .u32 0, .int .i64 0, .int .i64 0] ∧ X.frozen? ⟨W, 43, none⟩ = false) := fun X hX => ⟨(h1.below hX).box.1 43 _ rfl, k1.keep hX, (h1.below hX).box.2 43 (by unfold wdL; simp)⟩
  have HD : Hid (Below w1.heap.size w1 w1.drew) := (Below.refl _ _).drew
  have H1 := Lib.hid (And.intro h1 (And.intro b1 h))
  clear h h1 b1 k1
  go_enter Tryz.func92, Tryz.ntmps92
  go_wp2_with fail
  refine wp_region_plan [] [(true, 0), (true, 1), (true, 2), (true, 3), (true, 4), (true, 5), (false, 6), (false, 7), (true, 8), (true, 9)] 10 12 (fun X => Below w1.heap.size w1 X) (by kernel_rfl) (by kernel_rfl) (by intro c a t v w h; exact h) HD.out ?_
  simp only [pickB, pickL, List.drop_succ_cons, List.drop_zero, List.head?_cons, Option.toList_some, List.map_cons, List.map_nil, List.cons_append, List.nil_append]
  refine wpHead_nil ?_
  iterate 6 (refine wpPlan_rd _ (by rfl) (by intro W hW; have hk := HKE.out W hW; have z0 := hk.2.1.1 0 _ rfl; have z1 := hk.2.1.1 1 _ rfl; have z2 := hk.2.1.1 2 _ rfl; have z3 := hk.2.1.1 3 _ rfl; have z4 := hk.2.1.1 4 _ rfl; have z5 := hk.2.1.1 5 _ rfl; have z6 := hk.2.1.1 6 _ rfl; have z7 := hk.2.1.1 7 _ rfl; have z43 := hk.1; clear hk hW; go_simp; with_reducible rfl) ?_; simp only [Act.put, List.setIfInBounds_toArray, List.set_cons_zero, List.set_cons_succ])
  have b2 := ((Below.refl w1.heap.size w1).alloc (Nat.le_refl _) (.cells #[.int .i64 t, .int .i64 (i : Int), .int .i64 kd, .int .i64 0, .int .i64 0, .int .u32 0, .int .i64 0, .int .i64 0] 186)).drew
  have h2n : ((w1.alloc (.cells #[.int .i64 t, .int .i64 (i : Int), .int .i64 kd, .int .i64 0, .int .i64 0, .int .u32 0, .int .i64 0, .int .i64 0] 186)).drew).heap[w1.heap.size]? = some (.cells #[.int .i64 t, .int .i64 (i : Int), .int .i64 kd, .int .i64 0, .int .i64 0, .int .u32 0, .int .i64 0, .int .i64 0] 186) := heap_alloc_new w1 _
  obtain ⟨x2, hx2⟩ : ∃ x2, (w1.alloc (.cells #[.int .i64 t, .int .i64 (i : Int), .int .i64 kd, .int .i64 0, .int .i64 0, .int .u32 0, .int .i64 0, .int .i64 0] 186)).drew = x2 := ⟨_, rfl⟩
  rw [hx2] at b2 h2n
  have HD2 : Hid (Below w1.heap.size w1 x2) := b2
  have HX2 := Lib.hid h2n
  clear b2 h2n
  refine wpPlan_do (by rfl) ?_
  go_simp
  refine ⟨HD2.out, ?_⟩
  clear hx2
  refine wpPlan_do (by rfl) ?_
  refine wp_append_lies x2 _ _ 67 (by rfl) w1.heap.size 186 i0 _ 8 64 Tryz.underlying67 hi hz0 hz1 hz2 rfl (by decide) (.slice none 0 0) 0 [] (by rfl) (World.ownsRow_nil _ _ _ _) ⟨w1.heap.size, 0, none⟩ 1 1 [.int .i64 t, .int .i64 (i : Int), .int .i64 kd, .int .i64 0, .int .i64 0, .int .u32 0, .int .i64 0, .int .i64 0] (by rfl) (by rfl) (World.news_of_block HX2.out) ?_ (by decide) (by decide) (by decide) HD2.out.size _ rfl ?_
  · intro u hu
    simp only [List.mem_cons, List.not_mem_nil, or_false] at hu
    rcases hu with rfl | rfl | rfl | rfl | rfl | rfl | rfl | rfl <;> rfl
  intro gg cap2 x3 hown hgrow hat hlt3
  have HD3 : Hid (Below w1.heap.size w1 x3) := HD2.out.grown hgrow HD2.out.size (fun j hj => by cases hj)
  clear hown hgrow hat hlt3
  refine ⟨HD3.out, ?_⟩
  iterate 2 (refine wpPlan_rd _ (by rfl) (by intro W hW; have hk := HKE.out W hW; have z0 := hk.2.1.1 0 _ rfl; have z1 := hk.2.1.1 1 _ rfl; have z2 := hk.2.1.1 2 _ rfl; have z3 := hk.2.1.1 3 _ rfl; have z4 := hk.2.1.1 4 _ rfl; have z5 := hk.2.1.1 5 _ rfl; have z6 := hk.2.1.1 6 _ rfl; have z7 := hk.2.1.1 7 _ rfl; have z43 := hk.1; clear hk hW; go_simp; with_reducible rfl) ?_; simp only [Act.put, List.setIfInBounds_toArray, List.set_cons_zero, List.set_cons_succ])
  refine wpPlan_nil ?_
  have c43 := (HKE.out _ HD3.out).1
  have f43 := (HKE.out _ HD3.out).2.2
  have HF : Hid (EventPost base W c A l k t R cap ps air cr w (.returned (.tuple #[])) (x3.setCell ⟨W, 43, none⟩ (.slice (some ⟨gg, 0, none⟩) (0 + 1) cap2))) := by
    have h3 := H1.out.1.below HD3.out
    exact HP.out gg cap2 _ (h3.own (FrB.set _ _ _ _) (h3.box.put 43 (by unfold wdL; simp) (.slice (some ⟨gg, 0, none⟩) 1 cap2))) (((FrC.of H1.out.2.1).trans (FrC.of HD3.out)).trans (FrC.ofB (FrB.set _ _ _ _)))
  go_wp2
  go_end0
  exact HF.out
end Go.Proofs.YteahiphmhaedpaaGreatDoor

namespace Go.Proofs.YteahiphmhaedpaaGreatDoor
open Go.RowKit Law
set_option linter.unusedVariables false
set_option linter.unusedSimpArgs false
set_option maxRecDepth 100000

/-- A place whose node is down. -/
def PlV.down (p : PlV) : PlV := { p with nd := none, downs := p.downs + 1 }
theorem wdL_old (c : Cn) (A : Option Addr) (l k : Nat) (t : Int) (pl : Value) (air : Nat) (ev : Value) (cr : Int) {j : Nat} (hj : j < 20) : (wdL c A l k t pl air ev cr)[22 + j]? = some (.int .i64 0) := by
  have hh : j = 0 ∨ j = 1 ∨ j = 2 ∨ j = 3 ∨ j = 4 ∨ j = 5 ∨ j = 6 ∨ j = 7 ∨ j = 8 ∨ j = 9 ∨ j = 10 ∨ j = 11 ∨ j = 12 ∨ j = 13 ∨ j = 14 ∨ j = 15 ∨ j = 16 ∨ j = 17 ∨ j = 18 ∨ j = 19 := by omega
  rcases hh with rfl | rfl | rfl | rfl | rfl | rfl | rfl | rfl | rfl | rfl | rfl | rfl | rfl | rfl | rfl | rfl | rfl | rfl | rfl | rfl <;> rfl
def CrashPost (base W : Nat) (c : Cn) (A : Option Addr) (l k : Nat) (t : Int) (R cap : Nat) (ps qs : List PlV) (air : Nat) (w : World) (e : Ending) (w' : World) : Prop := e = .returned (.int .i64 0) ∧ ∃ g cap2 cr, WdAt w' base W c A l k t R cap qs air (.slice (some ⟨g, 0, none⟩) 1 cap2) cr ∧ FrC W ps w w'
set_option maxHeartbeats 12800000 in
theorem worldCrash {w : World} {base W : Nat} {c : Cn} {A : Option Addr} {l k : Nat} {t : Int} {R cap : Nat} {ps : List PlV} {air : Nat} {ev : Value} {cr : Int} (h : WdAt w base W c A l k t R cap ps air ev cr) (he : ev = .slice none 0 0) (hcr : cr = 0) {i : Nat} {p : PlV} {n : NdI} (hp : ps[i]? = some p) (hn : p.nd = some n) (hi64 : i < 64) (hd0 : p.downs = 0) :
    Calls Tryz.prog 27 #[.pointer (some ⟨W, 0, none⟩), .int .i64 (i : Int)] w (CrashPost base W c A l k t R cap ps (ps.set i p.down) air w) := by
  subst he hcr
  have HP : Hid (∀ g cap2 cr w', WdAt w' base W c A l k t R cap (ps.set i p.down) air (.slice (some ⟨g, 0, none⟩) 1 cap2) cr → FrC W ps w w' → CrashPost base W c A l k t R cap ps (ps.set i p.down) air w (.returned (.int .i64 0)) w') := fun g cap2 cr w' h1 h2 => ⟨rfl, g, cap2, cr, h1, h2⟩
  have c16 := h.plC
  have hrow := h.row i p hp
  have hlt : i < ps.length := (List.getElem?_eq_some_iff.1 hp).1
  have HIL := Lib.hid hlt
  have hpl := h.pl i p hp
  have hc0 := hpl.pb.1 0 _ rfl
  rw [show p.ndV = pB n.b.N by unfold PlV.ndV; rw [hn]] at hc0
  obtain ⟨m, hm⟩ : ∃ m, ps.length = m := ⟨_, rfl⟩
  rw [hm] at c16 hlt
  have hltI : (i : Int) < (m : Int) := by omega
  have H0 := Lib.hid (And.intro h (And.intro hp (And.intro hn (And.intro hi64 hd0))))
  clear h hp hn hi64 hd0 hpl hm hlt
  go_enter Tryz.func27, Tryz.ntmps27
  go_wp2
  clear c16 hrow hc0
  go_loopw [6, 19] (fun a jv wr => ∃ j : Nat, j ≤ 20 ∧ jv = .int .i64 (j : Int) ∧ WdAt wr base W c A l k t R cap ps air (.slice none 0 0) 0 ∧ FrC W ps w wr) (fun _ jv _ => 20 - (intOf jv).toNat)
  case atStart => exact ⟨0, by decide, rfl, H0.out.1, FrC.refl _ _ _⟩
  case round =>
    obtain ⟨j, hj, rfl, hW, hB⟩ := hrel
    by_cases hlt : j < 20
    · have hltI2 : (j : Int) < 20 := by omega
      have HX := Lib.hid (And.intro hW hB)
      have HD : Hid (Below wr.heap.size wr wr.drew) := (Below.refl _ _).drew
      have HKC : Hid (∀ X, Below wr.heap.size wr X → X.cell? ⟨W, 22 + j, none⟩ = some (.int .i64 0) ∧ X.cell? ⟨p.P, 0, none⟩ = some (pB n.b.N)) := fun X hX => ⟨(hW.below hX).box.1 (22 + j) _ (wdL_old _ _ _ _ _ _ _ _ _ hlt), by
        have := ((hW.below hX).pl i p H0.out.2.1).pb.1 0 _ rfl
        rw [show p.ndV = pB n.b.N by unfold PlV.ndV; rw [H0.out.2.2.1]] at this
        exact this⟩
      have CR : Hid (∀ X, Below wr.heap.size wr X → Calls Tryz.prog 90 #[.pointer (some ⟨n.b.N, 0, none⟩), .int .i64 (j : Int)] X fun en w' => en = .returned (.int .i64 0) ∧ X = w') := fun X hX => by
        have hk := ((hW.below hX).pl i p H0.out.2.1).nd n H0.out.2.2.1
        exact nodeRefused0 hk.idle.nd hk.cnt (j : Int) (by omega) (by omega)
      have f22 : wr.drew.frozen? ⟨W, 22 + j, none⟩ = false := (hW.below HD.out).box.2 (22 + j) (by unfold wdL; simp; omega)
      have c22 := (HKC.out _ HD.out).1
      clear hW hB
      go_wp2_with fail
      refine wp_region_plan [] [(true, 0), (true, 1), (true, 2), (true, 3), (true, 4), (true, 5), (true, 6), (true, 7), (true, 8), (true, 9), (true, 10), (true, 13), (true, 14), (false, 11), (true, 12), (true, 15)] 16 12 (fun X => Below wr.heap.size wr X) (by kernel_rfl) (by kernel_rfl) (by intro c a t v w h; exact h) HD.out ?_
      simp only [pickB, pickL, List.drop_succ_cons, List.drop_zero, List.head?_cons, Option.toList_some, List.map_cons, List.map_nil, List.cons_append, List.nil_append]
      refine wpHead_nil ?_
      iterate 13 (refine wpPlan_rd _ (by rfl) (by intro W hW; have hk := HKC.out W hW; have z0 := hk.1; have z1 := hk.2; clear hk hW; go_simp; with_reducible rfl) ?_; simp only [Act.put, List.setIfInBounds_toArray, List.set_cons_zero, List.set_cons_succ])
      refine wpPlan_do (by rfl) ?_
      go_simp
      go_at_call 90
      refine (CR.out _ HD.out).mono ?_
      rintro e w' ⟨rfl, rfl⟩
      refine ⟨HD.out, ?_⟩
      iterate 2 (refine wpPlan_rd _ (by rfl) (by intro W hW; have hk := HKC.out W hW; have z0 := hk.1; have z1 := hk.2; clear hk hW; go_simp; with_reducible rfl) ?_; simp only [Act.put, List.setIfInBounds_toArray, List.set_cons_zero, List.set_cons_succ])
      refine wpPlan_nil ?_
      have HN : Hid (WdAt (wr.drew.setCell ⟨W, 22 + j, none⟩ (.int .i64 0)) base W c A l k t R cap ps air (.slice none 0 0) 0 ∧ FrC W ps w (wr.drew.setCell ⟨W, 22 + j, none⟩ (.int .i64 0))) := by
        have h3 := HX.out.1.below HD.out
        have hb := h3.box.put (22 + j) (by unfold wdL; simp; omega) (.int .i64 0)
        rw [set_self _ _ _ (wdL_old _ _ _ _ _ _ _ _ _ hlt)] at hb
        exact ⟨h3.own (FrB.set _ _ _ _) hb, (HX.out.2.trans (FrC.of HD.out)).trans (FrC.ofB (FrB.set _ _ _ _))⟩
      go_wp2
      go_roundw
      case rel => exact ⟨j + 1, by omega, by go_num, HN.out.1, HN.out.2⟩
      case measure => simp [intOf]; omega
    · obtain rfl : j = 20 := by omega
      have hpl := hW.pl i p H0.out.2.1
      have c0 := hpl.pb.1 0 _ rfl
      have c2 := hpl.pb.1 2 _ rfl
      rw [H0.out.2.2.2.2] at c2
      have f0 := hpl.pb.2 0 (by simp)
      have f2 := hpl.pb.2 2 (by simp)
      have k2 := (hpl.pb.put 0 (by simp) (.pointer none)).put 2 (by simp) (.int .i64 1)
      simp only [List.set_cons_succ, List.set_cons_zero] at k2
      have FP : FrB p.P wr ((wr.setCell ⟨p.P, 0, none⟩ (.pointer none)).setCell ⟨p.P, 2, none⟩ (.int .i64 1)) := (FrB.set _ _ _ _).trans (FrB.set _ _ _ _)
      have hne := hpl.ne
      have h4 : WdAt ((wr.setCell ⟨p.P, 0, none⟩ (.pointer none)).setCell ⟨p.P, 2, none⟩ (.int .i64 1)) base W c A l k t R cap (ps.set i p.down) air (.slice none 0 0) 0 :=
        hW.turn H0.out.2.1 (FrI.ofB FP hpl.a0 hpl.a1) { pb := by show BoxF _ p.P [.pointer none, pB p.hd, .int .i64 (p.downs + 1)]; rw [H0.out.2.2.2.2]; exact k2, hb := FP.box hpl.hb (by simp) (Ne.symm hne), a0 := hpl.a0, a1 := hpl.a1, b0 := hpl.b0, b1 := hpl.b1, ne := hpl.ne, t0 := hpl.t0, top := Nat.le_trans hpl.top FP.size, nd := fun n' hn' => by cases hn' } rfl rfl rfl
      have F4 : FrC W ps w ((wr.setCell ⟨p.P, 0, none⟩ (.pointer none)).setCell ⟨p.P, 2, none⟩ (.int .i64 1)) := hB.trans (FrC.ofI (FrI.ofB FP hpl.a0 hpl.a1) H0.out.2.1)
      obtain ⟨w4, hw4⟩ : ∃ w4, (wr.setCell ⟨p.P, 0, none⟩ (.pointer none)).setCell ⟨p.P, 2, none⟩ (.int .i64 1) = w4 := ⟨_, rfl⟩
      rw [hw4] at h4 F4
      have c44 : w4.cell? ⟨W, 44, none⟩ = some (.int .u64 0) := h4.box.1 44 _ rfl
      have f44 : w4.frozen? ⟨W, 44, none⟩ = false := h4.box.2 44 (by unfold wdL; simp)
      have H4 := Lib.hid (And.intro h4 F4)
      clear hW hB hpl k2 FP hne h4 F4
      go_wp2_with fail
      have b5 := (Below.refl w4.heap.size w4).alloc (Nat.le_refl _) (.cells #[.int .i64 (i : Int)] 3)
      have k5 := boxF_made w4 [.int .i64 (i : Int)] 3
      obtain ⟨w5, hw5⟩ : ∃ w5, w4.alloc (.cells #[.int .i64 (i : Int)] 3) = w5 := ⟨_, rfl⟩
      rw [hw5] at b5
      rw [show w4.alloc (.cells [.int .i64 (i : Int)].toArray 3) = w5 from hw5] at k5
      have hIA : IntsAt w5 (some ⟨w4.heap.size, 0, none⟩) [(i : Int)] := fun q z hz => by
        match q, hz with
        | 0, hz =>
          injection hz with hz
          subst hz
          exact ⟨w4.heap.size, 0, rfl, k5.lt (by simp), k5.1 0 _ rfl⟩
      have CW : Calls Tryz.prog 91 #[.int .u64 0, .slice (some ⟨w4.heap.size, 0, none⟩) 1 1] w5 fun e w' => e = .returned (.int .u64 (withN 0 [(i : Int)] : Int)) ∧ w5 = w' := nodesWith (n := 1) 0 (by decide) (some ⟨w4.heap.size, 0, none⟩) 1 [(i : Int)] rfl (by decide) (fun z hz => by simp only [List.mem_cons, List.not_mem_nil, or_false] at hz; subst hz; have := H0.out.2.2.2.1; omega) w5 hIA
      obtain ⟨cr', hcr'⟩ : ∃ cr' : Int, (withN 0 [(i : Int)] : Int) = cr' := ⟨_, rfl⟩
      rw [hcr'] at CW
      have CW := Lib.hid CW
      have h5 := H4.out.1.below b5
      have c44' : w5.cell? ⟨W, 44, none⟩ = some (.int .u64 0) := h5.box.1 44 _ rfl
      have f44' : w5.frozen? ⟨W, 44, none⟩ = false := h5.box.2 44 (by unfold wdL; simp)
      have h6 := h5.own (FrB.set w5 W 44 (.int .u64 cr')) (h5.box.put 44 (by unfold wdL; simp) (.int .u64 cr'))
      have F6 : FrC W ps w (w5.setCell ⟨W, 44, none⟩ (.int .u64 cr')) := (H4.out.2.trans (FrC.of b5)).trans (FrC.ofB (FrB.set _ _ _ _))
      obtain ⟨w6, hw6⟩ : ∃ w6, w5.setCell ⟨W, 44, none⟩ (.int .u64 cr') = w6 := ⟨_, rfl⟩
      rw [hw6] at h6 F6
      have C7 := Lib.hid (worldEvent0 h6 rfl i 4)
      have HF6 := Lib.hid F6
      clear b5 k5 hIA hcr' h5 h6 F6
      rw [hw5]
      clear hw5
      refine CW.out.mono ?_
      rintro e w' ⟨rfl, rfl⟩
      go_wp2_with fail
      refine C7.out.mono ?_
      rintro e w7 ⟨rfl, g, cap2, h7, F7⟩
      have HF : Hid (CrashPost base W c A l k t R cap ps (ps.set i p.down) air w (.returned (.int .i64 0)) w7) := by
        refine HP.out g cap2 _ w7 h7 (HF6.out.trans (F7.same fun z q hq => ?_))
        by_cases e : z = i
        · subst e
          rw [List.getElem?_set_self HIL.out] at hq
          obtain rfl := Option.some.inj hq
          exact ⟨p, H0.out.2.1, rfl, rfl⟩
        · rw [List.getElem?_set_ne (Ne.symm e)] at hq
          exact ⟨q, hq, rfl, rfl⟩
      clear h7 F7
      go_wp2
      go_ret
      exact HF.out
end Go.Proofs.YteahiphmhaedpaaGreatDoor

namespace Go.Proofs.YteahiphmhaedpaaGreatDoor
open Go.RowKit Law
set_option linter.unusedVariables false
set_option linter.unusedSimpArgs false
set_option maxRecDepth 100000

theorem asksCrash (w : World) : Calls Tryz.prog 24 #[.int .i64 4] w fun e w' => e = .returned (.bool true) ∧ w = w' := by
  go_enter Tryz.func24, Tryz.ntmps24
  go_wp2
  go_ret
  exact ⟨rfl, rfl⟩
def ActCPost (base W : Nat) (c : Cn) (A : Option Addr) (l k : Nat) (t : Int) (R cap : Nat) (ps qs : List PlV) (air : Nat) (w : World) (e : Ending) (w' : World) : Prop := e = .returned (.tuple #[.agg #[.int .i64 0, .int .i64 0, .int .u32 0], .int .i64 0]) ∧ ∃ g cap2 cr, WdAt w' base W c A l k t R cap qs air (.slice (some ⟨g, 0, none⟩) 1 cap2) cr ∧ FrC W ps w w'
set_option maxHeartbeats 12800000 in
theorem actCrash {w : World} {base W : Nat} {c : Cn} {A : Option Addr} {l k : Nat} {t : Int} {R cap : Nat} {ps : List PlV} {air : Nat} {ev : Value} {cr : Int} (h : WdAt w base W c A l k t R cap ps air ev cr) (he : ev = .slice none 0 0) (hcr : cr = 0) {i : Nat} {p : PlV} {n : NdI} (hp : ps[i]? = some p) (hnd : p.nd = some n) (hi64 : i < 64) (hd0 : p.downs = 0) (hg : goodA ⟨4, (i : Int), 0, Fa0, []⟩ = true) (hin : (i : Int) < c.n) :
    Calls Tryz.prog 9 #[.pointer (some ⟨W, 0, none⟩), .agg #[.int .i64 4, .int .i64 (i : Int), .int .i64 0, .int .i64 0, .int .i64 0, .int .i64 0, .int .u32 0, .int .u32 0, .slice none 0 0]] w (ActCPost base W c A l k t R cap ps (ps.set i p.down) air w) := by
  have HP : Hid (∀ g cap2 cr w', WdAt w' base W c A l k t R cap (ps.set i p.down) air (.slice (some ⟨g, 0, none⟩) 1 cap2) cr → FrC W ps w w' → ActCPost base W c A l k t R cap ps (ps.set i p.down) air w (.returned (.tuple #[.agg #[.int .i64 0, .int .i64 0, .int .u32 0], .int .i64 0])) w') := fun g cap2 cr w' h1 h2 => ⟨rfl, g, cap2, cr, h1, h2⟩
  have HG := Lib.hid (fun W2 => scriptGoodV ⟨4, (i : Int), 0, Fa0, []⟩ none 0 0 true hg W2 (U8At.nil _ _) rfl)
  have k0 := boxF_made w [.int .i64 4, .int .i64 (i : Int), .int .i64 0, .int .i64 0, .int .i64 0, .int .i64 0, .int .u32 0, .int .u32 0, .slice none 0 0] 48
  have k1 := boxF_made (w.alloc (.cells #[.int .i64 4, .int .i64 (i : Int), .int .i64 0, .int .i64 0, .int .i64 0, .int .i64 0, .int .u32 0, .int .u32 0, .slice none 0 0] 48)) [.int .i64 0, .int .i64 0, .int .u32 0] 41
  have b1 := ((Below.refl w.heap.size w).alloc (Nat.le_refl _) (.cells #[.int .i64 4, .int .i64 (i : Int), .int .i64 0, .int .i64 0, .int .i64 0, .int .i64 0, .int .u32 0, .int .u32 0, .slice none 0 0] 48)).alloc (by simp) (.cells #[.int .i64 0, .int .i64 0, .int .u32 0] 41)
  have k0' := k0.keep ((Below.refl _ _).alloc (Nat.le_refl _) (.cells #[.int .i64 0, .int .i64 0, .int .u32 0] 41))
  rw [show (w.alloc (.cells [.int .i64 4, .int .i64 (i : Int), .int .i64 0, .int .i64 0, .int .i64 0, .int .i64 0, .int .u32 0, .int .u32 0, .slice none 0 0].toArray 48)).heap.size = w.heap.size + 1 by simp] at k1
  obtain ⟨w1, hw1⟩ : ∃ w1, (w.alloc (.cells #[.int .i64 4, .int .i64 (i : Int), .int .i64 0, .int .i64 0, .int .i64 0, .int .i64 0, .int .u32 0, .int .u32 0, .slice none 0 0] 48)).alloc (.cells #[.int .i64 0, .int .i64 0, .int .u32 0] 41) = w1 := ⟨_, rfl⟩
  rw [hw1] at b1
  replace k0' : BoxF w1 w.heap.size [.int .i64 4, .int .i64 (i : Int), .int .i64 0, .int .i64 0, .int .i64 0, .int .i64 0, .int .u32 0, .int .u32 0, .slice none 0 0] := hw1 ▸ k0'
  replace k1 : BoxF w1 (w.heap.size + 1) [.int .i64 0, .int .i64 0, .int .u32 0] := hw1 ▸ k1
  have a0_ := k0'.1 0 _ rfl
  have a1_ := k0'.1 1 _ rfl
  have a2_ := k0'.1 2 _ rfl
  have a3_ := k0'.1 3 _ rfl
  have a4_ := k0'.1 4 _ rfl
  have a5_ := k0'.1 5 _ rfl
  have a6_ := k0'.1 6 _ rfl
  have a7_ := k0'.1 7 _ rfl
  have a8_ := k0'.1 8 _ rfl
  have H1 := Lib.hid (And.intro (h.below b1) (And.intro k0' (And.intro k1 b1)))
  have HR := Lib.hid (And.intro he (And.intro hcr (And.intro hp (And.intro hnd (And.intro hi64 hd0)))))
  have HW0 : Hid (W < w.heap.size ∧ air < w.heap.size ∧ R < w.heap.size ∧ ∀ (i : Nat) (p : PlV), ps[i]? = some p → p.hi ≤ w.heap.size) := ⟨h.box.lt (by unfold wdL; simp), h.airb.lt (by simp), h.lR, fun i p hp => (h.pl i p hp).top⟩
  have hinN : ¬ (c.n ≤ (i : Int)) := by omega
  obtain ⟨cn, hcn⟩ : ∃ cn, c.n = cn := ⟨_, rfl⟩
  have HCN := Lib.hid hcn
  rw [hcn] at hinN
  clear h k0 k0' k1 b1 he hcr hp hnd hi64 hd0 hg hin hcn
  go_enter Tryz.func9, Tryz.ntmps9
  go_wp2_with fail
  refine (HG.out _).mono ?_
  rintro e w2 ⟨rfl, hb2⟩
  have HKA : Hid (∀ X, Below w2.heap.size w2 X → BoxF X w.heap.size [.int .i64 4, .int .i64 (i : Int), .int .i64 0, .int .i64 0, .int .i64 0, .int .i64 0, .int .u32 0, .int .u32 0, .slice none 0 0] ∧ BoxF X (w.heap.size + 1) [.int .i64 0, .int .i64 0, .int .u32 0]) := fun X hX => ⟨(H1.out.2.1.keep hb2).keep hX, (H1.out.2.2.1.keep hb2).keep hX⟩
  have HD : Hid (Below w2.heap.size w2 w2.drew) := (Below.refl _ _).drew
  have HB2 : Hid (Below w.heap.size w w2) := H1.out.2.2.2.trans (hb2.mono H1.out.2.2.2.size)
  have H2 := Lib.hid (H1.out.1.below hb2)
  have HN0 : Hid (∀ X, Below w2.heap.size w2 X → X.cell? ⟨W, 0, none⟩ = some (.int .i64 cn)) := fun X hX => by rw [← HCN.out]; exact (H2.out.below hX).box.1 0 _ rfl
  clear hb2 hw1 a0_ a1_ a2_ a3_ a4_ a5_ a6_ a7_ a8_
  go_wp2_with fail
  refine wp_region_plan [] [(true, 0), (true, 1), (false, 2), (true, 3), (true, 4), (true, 5), (true, 6), (true, 7), (true, 8), (true, 9), (true, 10), (true, 11), (true, 12), (true, 13)] 14 12 (fun X => Below w2.heap.size w2 X) (by kernel_rfl) (by kernel_rfl) (by intro c a t v w h; exact h) HD.out ?_
  simp only [pickB, pickL, List.drop_succ_cons, List.drop_zero, List.head?_cons, Option.toList_some, List.map_cons, List.map_nil, List.cons_append, List.nil_append]
  refine wpHead_nil ?_
  iterate 2 (refine wpPlan_rd _ (by rfl) (by intro W hW; have hk := HKA.out W hW; have z0 := hk.1.1 0 _ rfl; have z1 := hk.1.1 1 _ rfl; have zn := HN0.out W hW; clear hk hW; go_simp; with_reducible rfl) ?_; simp only [Act.put, List.setIfInBounds_toArray, List.set_cons_zero, List.set_cons_succ])
  refine wpPlan_do (by rfl) ?_
  go_simp
  go_at_call 24
  refine (asksCrash _).mono ?_
  rintro e w' ⟨rfl, rfl⟩
  refine ⟨HD.out, ?_⟩
  iterate 11 (refine wpPlan_rd _ (by rfl) (by intro W hW; have hk := HKA.out W hW; have z0 := hk.1.1 0 _ rfl; have z1 := hk.1.1 1 _ rfl; have zn := HN0.out W hW; clear hk hW; go_simp; with_reducible rfl) ?_; simp only [Act.put, List.setIfInBounds_toArray, List.set_cons_zero, List.set_cons_succ])
  refine wpPlan_nil ?_
  have HK3 := Lib.hid (HKA.out _ HD.out)
  have H3 := Lib.hid (H2.out.below HD.out)
  have HB3 : Hid (Below w.heap.size w w2.drew) := HB2.out.drew
  obtain ⟨w3, hw3⟩ : ∃ w3, w2.drew = w3 := ⟨_, rfl⟩
  rw [hw3] at HK3 H3 HB3 ⊢
  have C := Lib.hid (worldCrash H3.out HR.out.1 HR.out.2.1 HR.out.2.2.1 HR.out.2.2.2.1 HR.out.2.2.2.2.1 HR.out.2.2.2.2.2)
  have a0 := HK3.out.1.1 0 _ rfl
  have a1 := HK3.out.1.1 1 _ rfl
  clear hw3
  go_wp2_with fail
  clear a0 a1
  refine C.out.mono ?_
  rintro e wr ⟨rfl, g, cap2, cr2, hW, hB⟩
  have hkb : wr.heap[w.heap.size + 1]? = w3.heap[w.heap.size + 1]? := hB.block _ (HK3.out.2.lt (by simp)) (by have := HW0.out.1; omega) (fun i p hp => by have := HW0.out.2.2.2 i p hp; omega)
  have kk := HK3.out.2.same hkb
  have e0 := kk.1 0 _ rfl
  have e1 := kk.1 1 _ rfl
  have e2 := kk.1 2 _ rfl
  have g0 := kk.2 0 (by simp)
  have g1 := kk.2 1 (by simp)
  have g2 := kk.2 2 (by simp)
  have zp := storeN_box (w.heap.size + 1) [.int .i64 0, .int .i64 0, .int .u32 0] wr [] [.int .i64 0, .int .i64 0, .int .u32 0] rfl kk
  have FF : FrB (w.heap.size + 1) wr (storeN (w.heap.size + 1) wr [.int .i64 0, .int .i64 0, .int .u32 0] 0) := ((FrB.set _ _ _ _).trans (FrB.set _ _ _ _)).trans (FrB.set _ _ _ _)
  obtain ⟨wf, hwf⟩ : ∃ wf, storeN (w.heap.size + 1) wr [.int .i64 0, .int .i64 0, .int .u32 0] 0 = wf := ⟨_, rfl⟩
  rw [show ([] : List Value).length = 0 from rfl, List.nil_append, hwf] at zp
  rw [hwf] at FF
  simp only [storeN, Nat.reduceAdd] at hwf
  have z0 := zp.1 0 _ rfl
  have z1 := zp.1 1 _ rfl
  have z2 := zp.1 2 _ rfl
  have HF := Lib.hid (HP.out g cap2 cr2 wf (hW.away FF (by have := HW0.out.1; omega) (by have := HW0.out.2.1; omega) (by have := HW0.out.2.2.1; omega) (fun j q hq => by
    refine .inr ?_
    by_cases e : j = i
    · subst e
      rw [List.getElem?_set_self (List.getElem?_eq_some_iff.1 HR.out.2.2.1).1] at hq
      obtain rfl := Option.some.inj hq
      have := HW0.out.2.2.2 _ _ HR.out.2.2.1
      show p.hi ≤ _
      omega
    · rw [List.getElem?_set_ne (Ne.symm e)] at hq
      have := HW0.out.2.2.2 j q hq
      omega)) (by
    have h0 : FrC W ps w wr := (FrC.of HB3.out).trans hB
    exact ⟨FF.os.trans h0.os, FF.tape.trans h0.tape, FF.output.trans h0.output, Nat.le_trans h0.size FF.size, fun q h1 h2 h3 => (FF.block q (Nat.lt_of_lt_of_le h1 h0.size) (by omega)).trans (h0.block q h1 h2 h3)⟩))
  clear hW hB hkb kk zp FF
  go_wp2
  refine bodyPost_ret (v := .tuple #[.agg #[.int .i64 0, .int .i64 0, .int .u32 0], .int .i64 0]) (by simp [results, Tryz.results9, go_sem, z0, z1, z2]) rfl HF.out
def RunTPost (base W : Nat) (c : Cn) (A : Option Addr) (l k : Nat) (t : Int) (R cap : Nat) (ps qs : List PlV) (air : Nat) (ev : Value) (cr : Int) (w : World) (e : Ending) (w' : World) : Prop := e = .returned (.bool true) ∧ WdAt w' base W c A l k t R cap qs air ev cr ∧ FrC W ps w w'
def RunCPost (base W : Nat) (c : Cn) (A : Option Addr) (l k : Nat) (t : Int) (R cap : Nat) (ps qs : List PlV) (air : Nat) (w : World) (e : Ending) (w' : World) : Prop := e = .returned (.bool true) ∧ ∃ g cap2 cr, WdAt w' base W c A l k t R cap qs air (.slice (some ⟨g, 0, none⟩) 1 cap2) cr ∧ FrC W ps w w'
end Go.Proofs.YteahiphmhaedpaaGreatDoor

namespace Go.Proofs.YteahiphmhaedpaaGreatDoor
open Go.RowKit Law
set_option linter.unusedVariables false
set_option linter.unusedSimpArgs false
set_option maxRecDepth 100000

/-- The same intervals. -/
def IvEq (ps qs : List PlV) : Prop := ∀ (i : Nat) (p : PlV), ps[i]? = some p → ∃ q, qs[i]? = some q ∧ q.lo = p.lo ∧ q.hi = p.hi
theorem IvEq.trans {a b c : List PlV} (h : IvEq a b) (k : IvEq b c) : IvEq a c := fun i p hp => by
  obtain ⟨q, h1, h2, h3⟩ := h i p hp
  obtain ⟨r, k1, k2, k3⟩ := k i q h1
  exact ⟨r, k1, k2.trans h2, k3.trans h3⟩
theorem IvEq.tickI (ps : List PlV) (k : Nat) : IvEq (tickI ps k) ps := fun i q hq => by
  obtain ⟨p, hp, h1, h2, h3, -⟩ := tickI_at k hq
  exact ⟨p, hp, h2.symm, h3.symm⟩
theorem IvEq.down {ps : List PlV} {i : Nat} {p : PlV} (h : ps[i]? = some p) : IvEq (ps.set i p.down) ps := fun j q hq => by
  by_cases e : j = i
  · subst e
    rw [List.getElem?_set_self (List.getElem?_eq_some_iff.1 h).1] at hq
    obtain rfl := Option.some.inj hq
    exact ⟨p, h, rfl, rfl⟩
  · rw [List.getElem?_set_ne (Ne.symm e)] at hq
    exact ⟨q, hq, rfl, rfl⟩
theorem FrC.keepB {W : Nat} {ps : List PlV} {w w' : World} {B : Nat} (F : FrC W ps w w') (hB : B < w.heap.size) (h1 : B ≠ W) (h2 : ∀ (i : Nat) (p : PlV), ps[i]? = some p → B < p.lo ∨ p.hi ≤ B) : w'.heap[B]? = w.heap[B]? := F.block B hB h1 h2
def RunPost (base W : Nat) (c : Cn) (A : Option Addr) (l k : Nat) (t : Int) (R cap : Nat) (ps qs : List PlV) (air : Nat) (w : World) (e : Ending) (w' : World) : Prop := e = .returned (.int .i64 3) ∧ ∃ ev cr, WdAt w' base W c A l k t R cap qs air ev cr ∧ FrC W ps w w'
end Go.Proofs.YteahiphmhaedpaaGreatDoor

namespace Go.Proofs.YteahiphmhaedpaaGreatDoor
open Go.RowKit Law
set_option linter.unusedVariables false
set_option linter.unusedSimpArgs false
set_option maxRecDepth 100000

theorem refNil (e : Int) (w : World) : Calls Tryz.prog 90 #[.pointer none, .int .i64 e] w fun en w' => en = .returned (.int .i64 0) ∧ w = w' := by
  go_enter Tryz.func90, Tryz.ntmps90
  go_wp2
  go_ret
  exact ⟨rfl, rfl⟩
theorem placeRefused {w : World} {c : Cn} {p : PlV} (h : PlAt w c p) (e : Nat) (he : e < 20) : Calls Tryz.prog 90 #[p.ndV, .int .i64 (e : Int)] w fun en w' => en = .returned (.int .i64 0) ∧ w = w' := by
  cases hn : p.nd with
  | none => rw [show p.ndV = .pointer none by unfold PlV.ndV; rw [hn]]; exact refNil _ w
  | some n =>
    rw [show p.ndV = pB n.b.N by unfold PlV.ndV; rw [hn]]
    have hk := h.nd n hn
    exact nodeRefused0 hk.idle.nd hk.cnt (e : Int) (by omega) (by omega)
set_option maxHeartbeats 3200000 in
theorem worldRefused {w : World} {base W : Nat} {c : Cn} {A : Option Addr} {l k : Nat} {t : Int} {R cap : Nat} {ps : List PlV} {air : Nat} {ev : Value} {cr : Int} (h : WdAt w base W c A l k t R cap ps air ev cr) (hlen : ps.length ≤ 64) (e : Nat) (he : e < 20) : Calls Tryz.prog 39 #[.pointer (some ⟨W, 0, none⟩), .int .i64 (e : Int)] w fun en w' => en = .returned (.int .i64 0) ∧ w = w' := by
  have c22 : w.cell? ⟨W, 22 + e, none⟩ = some (.int .i64 0) := h.box.1 (22 + e) _ (wdL_old _ _ _ _ _ _ _ _ _ he)
  have c16 := h.plC
  have heI : (e : Int) < 20 := by omega
  obtain ⟨m, hm⟩ : ∃ m, ps.length = m := ⟨_, rfl⟩
  rw [hm] at c16
  have hm64 : (m : Int) ≤ 64 := by omega
  have H := Lib.hid (And.intro h (And.intro hm he))
  clear h hm he hlen
  go_enter Tryz.func39, Tryz.ntmps39
  go_wp2
  clear c22
  go_loop [5, 7, 29] (fun s a i => ∃ j : Nat, j ≤ m ∧ i = .int .i64 (j : Int) ∧ s = .int .i64 0) (fun _ _ i => m - (intOf i).toNat)
  case atStart => exact ⟨0, Nat.zero_le _, rfl, rfl⟩
  case round =>
    obtain ⟨j, hj, rfl, rfl⟩ := hrel
    by_cases hlt : j < m
    · have hltI : (j : Int) < (m : Int) := by omega
      obtain ⟨p, hp⟩ : ∃ p, ps[j]? = some p := ⟨_, List.getElem?_eq_getElem (by rw [H.out.2.1]; exact hlt)⟩
      have hrow := H.out.1.row j p hp
      have hpl := H.out.1.pl j p hp
      have c0 := hpl.pb.1 0 _ rfl
      have C := Lib.hid (placeRefused hpl e H.out.2.2)
      clear hpl hp
      go_wp2_with fail
      refine C.out.mono ?_
      rintro en w' ⟨rfl, rfl⟩
      go_wp2
      go_round
      case rel => exact ⟨j + 1, by omega, by go_num, rfl⟩
      case measure => simp [intOf]; omega
    · obtain rfl : j = m := by omega
      go_wp2
      go_ret
      exact ⟨rfl, rfl⟩
theorem worldUnfair {w : World} {base W : Nat} {c : Cn} {A : Option Addr} {l k : Nat} {t : Int} {R cap : Nat} {ps : List PlV} {air : Nat} {ev : Value} {cr : Int} (h : WdAt w base W c A l k t R cap ps air ev cr) : Calls Tryz.prog 33 #[.pointer (some ⟨W, 0, none⟩)] w fun en w' => en = .returned (.int .i64 0) ∧ w = w' := by
  have c21 : w.cell? ⟨W, 21, none⟩ = some (.int .i64 0) := h.box.1 21 _ rfl
  clear h
  go_enter Tryz.func33, Tryz.ntmps33
  go_wp2
  go_ret
  exact ⟨rfl, rfl⟩
theorem worldLost {w : World} {base W : Nat} {c : Cn} {A : Option Addr} {l k : Nat} {t : Int} {R cap : Nat} {ps : List PlV} {air : Nat} {ev : Value} {cr : Int} (h : WdAt w base W c A l k t R cap ps air ev cr) : Calls Tryz.prog 32 #[.pointer (some ⟨W, 0, none⟩)] w fun en w' => en = .returned (.int .i64 0) ∧ w = w' := by
  have c20 : w.cell? ⟨W, 20, none⟩ = some (.int .i64 0) := h.box.1 20 _ rfl
  clear h
  go_enter Tryz.func32, Tryz.ntmps32
  go_wp2
  go_ret
  exact ⟨rfl, rfl⟩
end Go.Proofs.YteahiphmhaedpaaGreatDoor
