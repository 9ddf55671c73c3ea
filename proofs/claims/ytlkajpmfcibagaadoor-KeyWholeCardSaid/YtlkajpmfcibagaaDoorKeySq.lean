/- slices.Compact at keys: runs of equal keys struck, in place. -/
import Derived.Test.YtlkajpmfcibagaaDoorKeySp
import Derived.Lib.SliceRun
namespace Go.Proofs.YtlkajpmfcibagaaDoor
open Go.RowKit Law
set_option linter.unusedVariables false

/-! ### plain -/
def uniqTo (ks : List K) : Nat → List K
  | 0 => []
  | m + 1 => if m = 0 ∨ eqK (ks.getD m k0) (ks.getD (m - 1) k0) = false then uniqTo ks m ++ [ks.getD m k0] else uniqTo ks m
theorem uniqTo_new {ks : List K} {m : Nat} (h : eqK (ks.getD m k0) (ks.getD (m - 1) k0) = false) : uniqTo ks (m + 1) = uniqTo ks m ++ [ks.getD m k0] := by
  show (if _ then _ else _) = _
  rw [if_pos (.inr h)]
theorem uniqTo_same {ks : List K} {m : Nat} (h0 : 0 < m) (h : eqK (ks.getD m k0) (ks.getD (m - 1) k0) = true) : uniqTo ks (m + 1) = uniqTo ks m := by
  show (if _ then _ else _) = _
  rw [if_neg (by rw [h]; simp; omega)]
theorem uniqTo_len (ks : List K) : ∀ m, (uniqTo ks m).length ≤ m
  | 0 => Nat.le_refl _
  | m + 1 => by
    have ih := uniqTo_len ks m
    show (if _ then _ else _ : List K).length ≤ _
    split
    · rw [List.length_append, List.length_singleton]; omega
    · omega
theorem uniqTo_one {ks : List K} (h : 0 < ks.length) : uniqTo ks 1 = ks.take 1 := by
  show (if _ then _ else _) = _
  rw [if_pos (.inl rfl), List.take_succ_eq_append_getElem h, getD_at h]
  rfl
theorem uniqTo_spec {ks : List K} (hs : ∀ i j, i < j → j < ks.length → ¬ ltK (ks.getD j k0) (ks.getD i k0)) : ∀ m, m ≤ ks.length →
    (uniqTo ks m).Pairwise ltK ∧ (∀ y, y ∈ uniqTo ks m ↔ y ∈ ks.take m) ∧ (∀ y ∈ uniqTo ks m, ¬ ltK (ks.getD (m - 1) k0) y)
  | 0, _ => by simp [uniqTo]
  | m + 1, hm => by
    have hml : m < ks.length := by omega
    obtain ⟨i1, i2, i3⟩ := uniqTo_spec hs m (by omega)
    have htk : ∀ y, y ∈ ks.take (m + 1) ↔ y ∈ ks.take m ∨ y = ks.getD m k0 := fun y => by
      rw [List.take_succ_eq_append_getElem hml, List.mem_append, List.mem_singleton, getD_at hml]
    rw [Nat.add_sub_cancel]
    by_cases h0 : m = 0
    · subst h0
      rw [uniqTo_one (by omega)]
      have e : ks.take 1 = [ks.getD 0 k0] := by rw [List.take_succ_eq_append_getElem hml, getD_at hml]; rfl
      rw [e]
      refine ⟨by simp, fun y => Iff.rfl, fun y hy => ?_⟩
      rw [List.mem_singleton] at hy
      rw [hy]
      exact ltK_irrefl _
    · have hle : ∀ y ∈ uniqTo ks m, ¬ ltK (ks.getD m k0) y := fun y hy => by
        obtain ⟨i, hi, he⟩ := List.getElem_of_mem ((i2 y).1 hy)
        rw [List.getElem_take] at he
        rw [List.length_take] at hi
        rw [← he, ← getD_at (show i < ks.length by omega)]
        exact hs i m (by omega) hml
      cases hq : eqK (ks.getD m k0) (ks.getD (m - 1) k0) with
      | false =>
        rw [uniqTo_new hq]
        have hlt : ∀ y ∈ uniqTo ks m, ltK y (ks.getD m k0) := fun y hy => by
          rcases ltK_total y (ks.getD m k0) with h | h | h
          · exact h
          · exfalso
            have h2 := i3 y hy
            have h3 := hs (m - 1) m (by omega) hml
            rw [h] at h2
            have hne : ks.getD m k0 ≠ ks.getD (m - 1) k0 := fun h => by rw [(eqK_iff _ _).2 h] at hq; cases hq
            rcases ltK_total (ks.getD (m - 1) k0) (ks.getD m k0) with h4 | h4 | h4
            · exact h2 h4
            · exact hne h4.symm
            · exact h3 h4
          · exact absurd h (hle y hy)
        refine ⟨?_, fun y => ?_, fun y hy => ?_⟩
        · rw [List.pairwise_append]
          refine ⟨i1, by simp, fun a ha b hb => ?_⟩
          rw [List.mem_singleton] at hb
          rw [hb]
          exact hlt a ha
        · rw [List.mem_append, List.mem_singleton, i2 y, htk]
        · rcases List.mem_append.1 hy with h | h
          · exact hle y h
          · rw [List.mem_singleton] at h; rw [h]; exact ltK_irrefl _
      | true =>
        rw [uniqTo_same (by omega) hq]
        have he := (eqK_iff _ _).1 hq
        refine ⟨i1, fun y => ?_, hle⟩
        rw [i2 y, htk]
        constructor
        · exact .inl
        · rintro (h | h)
          · exact h
          · rw [h, he, getD_at (show m - 1 < ks.length by omega)]
            rw [List.mem_iff_getElem]
            exact ⟨m - 1, by rw [List.length_take]; omega, List.getElem_take⟩

/-! ### the row -/
def KAt (w : World) (b o : Nat) (x : K) : Prop :=
  (w.cell? ⟨b, o, none⟩ = some (.int .i64 x.t) ∧ w.cell? ⟨b, o + 1, none⟩ = some (.int .i64 x.f) ∧ w.cell? ⟨b, o + 2, none⟩ = some (.int .u32 x.s)) ∧
  w.frozen? ⟨b, o, none⟩ = false ∧ w.frozen? ⟨b, o + 1, none⟩ = false ∧ w.frozen? ⟨b, o + 2, none⟩ = false
def RowF (w : World) (g : Nat) (r : Nat → K) (n : Nat) : Prop := ∀ p, p < n → KAt w g (p * 3) (r p)
theorem RowF.drewN {w : World} {g : Nat} {r : Nat → K} {n : Nat} (h : RowF w g r n) (q : Nat) : RowF (w.drewN q) g r n := h
theorem RowF.set {w : World} {g : Nat} {r : Nat → K} {n : Nat} (h : RowF w g r n) (k : Nat) (y : K) (hk : k < n) :
    RowF (((w.setCell ⟨g, k * 3, none⟩ (.int .i64 y.t)).setCell ⟨g, k * 3 + 1, none⟩ (.int .i64 y.f)).setCell ⟨g, k * 3 + 2, none⟩ (.int .u32 y.s)) g (fun p => if p = k then y else r p) n := by
  intro p hp
  obtain ⟨⟨h0, h1, h2⟩, g0, g1, g2⟩ := h p hp
  show KAt _ g (p * 3) (if p = k then y else r p)
  unfold KAt
  simp only [World.frozen?_setCell]
  by_cases hpk : p = k
  · subst hpk
    rw [if_pos rfl]
    refine ⟨⟨?_, ?_, ?_⟩, g0, g1, g2⟩
    · rw [World.cell?_setCell_other _ _ _ _ (by simp), World.cell?_setCell_other _ _ _ _ (by simp)]
      exact World.cell?_setCell_same' _ _ _ (by rw [h0]; rfl)
    · rw [World.cell?_setCell_other _ _ _ _ (by simp)]
      exact World.cell?_setCell_same' _ _ _ (by rw [World.cell?_setCell_other _ _ _ _ (by simp), h1]; rfl)
    · exact World.cell?_setCell_same' _ _ _ (by rw [World.cell?_setCell_other _ _ _ _ (by simp), World.cell?_setCell_other _ _ _ _ (by simp), h2]; rfl)
  · rw [if_neg hpk]
    refine ⟨⟨?_, ?_, ?_⟩, g0, g1, g2⟩
    · rw [World.cell?_setCell_other _ _ _ _ (fun e => by injection e with _ e2 _; omega), World.cell?_setCell_other _ _ _ _ (fun e => by injection e with _ e2 _; omega), World.cell?_setCell_other _ _ _ _ (fun e => by injection e with _ e2 _; omega)]; exact h0
    · rw [World.cell?_setCell_other _ _ _ _ (fun e => by injection e with _ e2 _; omega), World.cell?_setCell_other _ _ _ _ (fun e => by injection e with _ e2 _; omega), World.cell?_setCell_other _ _ _ _ (fun e => by injection e with _ e2 _; omega)]; exact h1
    · rw [World.cell?_setCell_other _ _ _ _ (fun e => by injection e with _ e2 _; omega), World.cell?_setCell_other _ _ _ _ (fun e => by injection e with _ e2 _; omega), World.cell?_setCell_other _ _ _ _ (fun e => by injection e with _ e2 _; omega)]; exact h2
def zeroK : List Value := [.int .i64 0, .int .i64 0, .int .u32 0]
theorem zeroCells_key (n : Nat) : (Builtin.zeroCells #[.int .i64 0, .int .i64 0, .int .u32 0] n).toList.length = n * 3 ∧ ∀ v ∈ (Builtin.zeroCells #[.int .i64 0, .int .i64 0, .int .u32 0] n).toList, v.oneCell' = true := by
  constructor
  · rw [Array.length_toList, size_zeroCells]
    rfl
  · intro v hv
    have hm := Array.mem_toList_iff.1 hv
    unfold Builtin.zeroCells at hm
    simp only [Array.mem_map, Array.mem_range] at hm
    obtain ⟨i, hi, rfl⟩ := hm
    have h3 : i % 3 = 0 ∨ i % 3 = 1 ∨ i % 3 = 2 := by omega
    show Value.oneCell' (#[Value.int .i64 0, Value.int .i64 0, Value.int .u32 0][i % 3]!) = true
    rcases h3 with h | h | h <;> rw [h] <;> rfl
theorem run_clear_keys (w : World) (ty : TypeId) (b o n c : Nat) (hn : 0 < n) (hc : ∀ j, j < n * 3 → (w.cell? ⟨b, o + j, none⟩).isSome = true) (hf : ∀ j, j < n * 3 → w.frozen? ⟨b, o + j, none⟩ = false) :
    (Builtin.clear_ #[35] ty #[.slice (some ⟨b, o, none⟩) n c]).run Tryd.prog w = .ok (.tuple #[]) (w.setCells b o (Builtin.zeroCells #[.int .i64 0, .int .i64 0, .int .u32 0] n).toList) := by
  obtain ⟨hl, h1⟩ := zeroCells_key n
  have hst := run_storeCells_cells (P := Tryd.prog) b o (Builtin.zeroCells #[.int .i64 0, .int .i64 0, .int .u32 0] n).toList 0 w (by rw [hl]; simpa using hc) (by rw [hl]; simpa using hf) h1
  simp only [Nat.add_zero] at hst
  have hv : (zeroValue 24).run Tryd.prog w = .ok (.agg #[.int .i64 0, .int .i64 0, .int .u32 0]) w := Tryd.zeroValue24 w
  obtain ⟨m, rfl⟩ : ∃ m, n = m + 1 := ⟨n - 1, by omega⟩
  simp [Builtin.clear_, run_underlying Tryd.underlying35, hv, Value.cells, hst, Result.andThen]

theorem KAt.key {w : World} {g : Nat} {ks : List K} (hg : g < w.heap.size) (h : ∀ p, p < ks.length → (w.cell? ⟨g, p * 3, none⟩ = some (.int .i64 (ks.getD p k0).t) ∧ w.cell? ⟨g, p * 3 + 1, none⟩ = some (.int .i64 (ks.getD p k0).f) ∧ w.cell? ⟨g, p * 3 + 2, none⟩ = some (.int .u32 (ks.getD p k0).s))) : KeyAt w (some ⟨g, 0, none⟩) ks := by
  intro k e he
  obtain ⟨hk, hke⟩ := List.getElem?_eq_some_iff.1 he
  obtain ⟨h0, h1, h2⟩ := h k hk
  rw [getD_at hk, hke] at h0 h1 h2
  refine ⟨g, 0, rfl, hg, fun j v hv => ?_⟩
  rw [Nat.zero_add]
  match j, hv with
  | 0, hv => simp [K.cells] at hv; subst hv; exact h0
  | 1, hv => simp [K.cells] at hv; subst hv; exact h1
  | 2, hv => simp [K.cells] at hv; subst hv; exact h2
theorem size_setCells (g : Nat) : ∀ (vs : List Value) (o : Nat) (w : World), (w.setCells g o vs).heap.size = w.heap.size
  | [], _, _ => rfl
  | v :: vs, o, w => by
    rw [World.setCells, size_setCells g vs]
    show (w.heap.modify _ _).size = _
    rw [Array.size_modify]
/-! ### the walk -/
theorem slice_at (g o n c k : Nat) (hk : k ≤ n) (hc : k < c) (W : World) : (Instr.slice 35 (.slice (some ⟨g, o, none⟩) n c) (some (.int .i64 (k : Int))) none none).run Tryd.prog W = .ok (.slice (some ⟨g, o + k * 3, none⟩) (n - k) (c - k)) W := by
  have h1 : (0 : Int) ≤ k ∧ (k : Int) ≤ n := by omega
  have hne : c ≠ k := by omega
  simp [Instr.slice, Instr.sliceBounds, Instr.sliceBound, asIntOf, run_underlying Tryd.underlying35, Tryd.sizeOf24, h1, hk, go_sem, hne, Addr.add]
theorem below_setCells {B : Nat} {a : World} (g : Nat) (hg : B ≤ g) : ∀ (vs : List Value) (o : Nat) (w : World), Below B a w → Below B a (w.setCells g o vs)
  | [], _, _, h => h
  | v :: vs, o, w, h => below_setCells g hg vs (o + 1) _ (h.setCell (p := ⟨g, o, none⟩) hg v)
set_option maxHeartbeats 1600000 in
theorem compactSmall (A : Option Addr) (n c : Nat) (hn : n < 2) (w : World) :
    Calls Tryd.prog 37 #[.slice A n c] w fun e w' => e = .returned (.slice A n c) ∧ w = w' := by
  have hd : decide ((n : Int) < 2) = true := by simp; omega
  go_enter Tryd.func37, Tryd.ntmps37
  go_wp2
  go_ret
  exact ⟨rfl, rfl⟩
set_option maxHeartbeats 6400000 in
set_option maxRecDepth 100000 in
theorem keyCompact (n cap g : Nat) (ks : List K) (hn : ks.length = n) (h2 : 2 ≤ n) (hcap : n ≤ cap) (hcm : cap ≤ maxLen) (hm : n ≤ 1000000) (w : World) (hg : g < w.heap.size) (hR : RowF w g (fun p => ks.getD p k0) n) :
    Calls Tryd.prog 37 #[.slice (some ⟨g, 0, none⟩) n cap] w fun e w' =>
      e = .returned (.slice (some ⟨g, 0, none⟩) (uniqTo ks n).length cap) ∧ KeyAt w' (some ⟨g, 0, none⟩) (uniqTo ks n) ∧ w.heap.size ≤ w'.heap.size ∧ ∀ N, N ≤ g → N ≤ w.heap.size → Below N w w' := by
  unfold maxLen at hcm
  have HN := Lib.hid hn
  clear hn
  go_enter Tryd.func37, Tryd.ntmps37
  go_wp2
  go_loopw [3] (fun i wr => ∃ k : Nat, 1 ≤ k ∧ k ≤ n ∧ i = .int .i64 k ∧ uniqTo ks k = ks.take k ∧ ∃ q, wr = w.drewN q) (fun i _ => n - (intOf i).toNat)
  case atStart => exact ⟨1, Nat.le_refl _, by omega, rfl, uniqTo_one (by have := HN.out; omega), 0, rfl⟩
  case round =>
    obtain ⟨k, hk1, hk, rfl, hu, q, rfl⟩ := hrel
    by_cases hlt : k < n
    · obtain ⟨⟨a0, a1, a2⟩, -⟩ := hR k hlt
      obtain ⟨⟨b0, b1, b2⟩, -⟩ := hR (k - 1) (by omega)
      obtain ⟨x, hx⟩ : ∃ x, ks.getD k k0 = x := ⟨_, rfl⟩
      obtain ⟨y, hy⟩ : ∃ y, ks.getD (k - 1) k0 = y := ⟨_, rfl⟩
      simp only [hx] at a0 a1 a2
      simp only [hy] at b0 b1 b2
      have hk1' : ((k : Int) - 1).toNat = k - 1 := by omega
      have HX := Lib.hid (And.intro hx hy)
      have HU := Lib.hid hu
      have he := run_eqK x y
      have HLT : Hid (k < ks.length) := by have := HN.out; unfold Hid; omega
      clear hx hy hu
      cases hq : eqK x y
      · rw [hq] at he
        have HS : Hid (uniqTo ks (k + 1) = ks.take (k + 1)) := by
          unfold Hid
          rw [uniqTo_new (by rw [HX.out.1, HX.out.2]; exact hq), HU.out, List.take_succ_eq_append_getElem HLT.out, getD_at HLT.out]
        clear hq
        go_wp2
        go_quiet (fail)
        go_wp2
        go_roundw
        case rel => exact ⟨k + 1, by omega, by omega, by go_num, HS.out, _, by first | rfl | (rw [World.drewN_drewN])⟩
        case measure => simp [intOf]; omega
      · rw [hq] at he
        have hsl := slice_at g 0 n cap k (by omega) (by omega)
        rw [Nat.zero_add] at hsl
        have HS : Hid (uniqTo ks (k + 1) = ks.take k) := by
          unfold Hid
          rw [uniqTo_same (by omega) (by rw [HX.out.1, HX.out.2]; exact hq), HU.out]
        clear hq
        go_wp2
        go_quiet (fail)
        go_wp2
        clear hsl
        clear a0 a1 a2 b0 b1 b2 he
        go_loopw [3, 5] (fun i j wr => ∃ (kk k2 : Nat) (r : Nat → K), 1 ≤ k2 ∧ k + k2 ≤ n ∧ i = .int .i64 kk ∧ j = .int .i64 k2 ∧ (uniqTo ks (k + k2)).length = kk ∧ kk + 1 ≤ k + k2 ∧ RowF wr g r n ∧
          (∀ p, p < kk → r p = (uniqTo ks (k + k2)).getD p k0) ∧ (∀ p, k + k2 ≤ p + 1 → p < n → r p = ks.getD p k0) ∧ wr.heap.size = w.heap.size ∧ ∀ N, N ≤ g → N ≤ w.heap.size → Below N w wr) (fun _ j _ => n - k - (intOf j).toNat)
        case atStart =>
          have hl : (ks.take k).length = k := by rw [List.length_take]; have := HLT.out; omega
          refine ⟨k, 1, fun p => ks.getD p k0, Nat.le_refl _, by omega, rfl, rfl, by rw [HS.out]; exact hl, Nat.le_refl _, hR, fun p hp => ?_, fun _ _ _ => rfl, rfl, fun N _ hN => below_draws (Below.refl _ _) _⟩
          rw [HS.out]
          simp only [List.getD_eq_getElem?_getD]
          rw [List.getElem?_take, if_pos hp]
        case round =>
          obtain ⟨kk, k2, r, h21, h2n, rfl, rfl, hlen, hkk, hrow, hr1, hr2, hsz, hbel⟩ := hrel
          by_cases hlt2 : k2 < n - k
          · obtain ⟨⟨a0, a1, a2⟩, -⟩ := hrow (k + k2) (by omega)
            obtain ⟨⟨b0, b1, b2⟩, -⟩ := hrow (k + k2 - 1) (by omega)
            obtain ⟨⟨d0, d1, d2⟩, f0, f1, f2⟩ := hrow kk (by omega)
            obtain ⟨z, hz⟩ : ∃ z, r kk = z := ⟨_, rfl⟩
            rw [hz] at d0 d1 d2
            clear hz
            obtain ⟨x, hx⟩ : ∃ x, r (k + k2) = x := ⟨_, rfl⟩
            obtain ⟨y, hy⟩ : ∃ y, r (k + k2 - 1) = y := ⟨_, rfl⟩
            rw [hx, Nat.add_mul] at a0 a1 a2
            rw [hy, show (k + k2 - 1) * 3 = k * 3 + (k2 - 1) * 3 by omega] at b0 b1 b2
            have hx2 : ks.getD (k + k2) k0 = x := by rw [← hx, hr2 _ (by omega) (by omega)]
            have hy2 : ks.getD (k + k2 - 1) k0 = y := by rw [← hy, hr2 _ (by omega) (by omega)]
            have hk1' : ((k2 : Int) - 1).toNat = k2 - 1 := by omega
            have he := run_neK x y
            have HR := Lib.hid (And.intro hrow (And.intro hr1 (And.intro hr2 (And.intro hsz (And.intro hbel (And.intro hlen (And.intro hx2 hy2)))))))
            clear hx hy hx2 hy2 hrow hr1 hr2 hsz hbel hlen
            cases hq : eqK x y
            · rw [hq] at he
              have HS2 : Hid (uniqTo ks (k + k2 + 1) = uniqTo ks (k + k2) ++ [x]) := by
                unfold Hid
                rw [uniqTo_new (by rw [HR.out.2.2.2.2.2.2.1, HR.out.2.2.2.2.2.2.2]; exact hq), HR.out.2.2.2.2.2.2.1]
              have HROW := Lib.hid (HR.out.1.set kk x (by omega))
              clear hq
              go_wp2
              go_quiet (fail)
              go_wp2
              go_roundw
              case rel =>
                obtain ⟨_, g1, g2, g3, g4, g5, _⟩ := HR.out
                refine ⟨kk + 1, k2 + 1, fun p => if p = kk then x else r p, by omega, by omega, by go_num, by go_num, ?_, by omega, HROW.out, fun p hp => ?_, fun p hp hpn => ?_, by simp; exact g3, fun N hN hNw => ?_⟩
                · rw [show k + (k2 + 1) = k + k2 + 1 by omega, HS2.out, List.length_append, List.length_singleton, g5]
                · rw [show k + (k2 + 1) = k + k2 + 1 by omega, HS2.out]
                  simp only [List.getD_eq_getElem?_getD]
                  by_cases hpk : p = kk
                  · subst hpk
                    rw [if_pos rfl, List.getElem?_append_right (by omega), g5, Nat.sub_self]
                    rfl
                  · rw [if_neg hpk, List.getElem?_append_left (by omega), g1 p (by omega), List.getD_eq_getElem?_getD]
                · show (if p = kk then x else r p) = _
                  rw [if_neg (by omega), g2 p (by omega) hpn]
                · exact (((below_draws (g4 N hN hNw) _).setCell (p := ⟨g, kk * 3, none⟩) hN _).setCell (p := ⟨g, kk * 3 + 1, none⟩) hN _).setCell (p := ⟨g, kk * 3 + 2, none⟩) hN _
              case measure => simp [intOf]; omega
            · rw [hq] at he
              have HS2 : Hid (uniqTo ks (k + k2 + 1) = uniqTo ks (k + k2)) := uniqTo_same (by omega) (by rw [HR.out.2.2.2.2.2.2.1, HR.out.2.2.2.2.2.2.2]; exact hq)
              clear hq
              go_wp2
              go_quiet (fail)
              go_wp2
              go_roundw
              case rel =>
                obtain ⟨g0, g1, g2, g3, g4, g5, _⟩ := HR.out
                refine ⟨kk, k2 + 1, r, by omega, by omega, rfl, by go_num, ?_, by omega, g0, fun p hp => ?_, fun p hp hpn => g2 p (by omega) hpn, g3, fun N hN hNw => below_draws (g4 N hN hNw) _⟩
                · rw [show k + (k2 + 1) = k + k2 + 1 by omega, HS2.out, g5]
                · rw [show k + (k2 + 1) = k + k2 + 1 by omega, HS2.out]
                  exact g1 p hp
              case measure => simp [intOf]; omega
          · have hkn : k + k2 = n := by omega
            rw [hkn] at hlen hr1
            have hsl := slice_at g 0 n cap kk (by omega) (by omega)
            rw [Nat.zero_add] at hsl
            have hclr : ∀ ty, (Builtin.clear_ #[35] ty #[.slice (some ⟨g, kk * 3, none⟩) (n - kk) (cap - kk)]).run Tryd.prog wr = .ok (.tuple #[]) (wr.setCells g (kk * 3) (Builtin.zeroCells #[.int .i64 0, .int .i64 0, .int .u32 0] (n - kk)).toList) := by
              intro ty
              have hj : ∀ j, j < (n - kk) * 3 → ∃ v, wr.cell? ⟨g, kk * 3 + j, none⟩ = some v ∧ wr.frozen? ⟨g, kk * 3 + j, none⟩ = false := by
                intro j hj
                obtain ⟨⟨c0, c1, c2⟩, f0, f1, f2⟩ := hrow (kk + j / 3) (by omega)
                have h3 : j % 3 = 0 ∨ j % 3 = 1 ∨ j % 3 = 2 := by omega
                rcases h3 with h | h | h
                · rw [show (kk + j / 3) * 3 = kk * 3 + j by omega] at c0 f0
                  exact ⟨_, c0, f0⟩
                · rw [show (kk + j / 3) * 3 + 1 = kk * 3 + j by omega] at c1 f1
                  exact ⟨_, c1, f1⟩
                · rw [show (kk + j / 3) * 3 + 2 = kk * 3 + j by omega] at c2 f2
                  exact ⟨_, c2, f2⟩
              refine run_clear_keys wr ty g (kk * 3) (n - kk) (cap - kk) (by omega) (fun j hjj => ?_) (fun j hjj => ?_)
              · obtain ⟨v, hv, _⟩ := hj j hjj
                rw [hv]; rfl
              · obtain ⟨v, _, hv⟩ := hj j hjj
                exact hv
            have HB : Hid (KeyAt (wr.setCells g (kk * 3) (Builtin.zeroCells #[.int .i64 0, .int .i64 0, .int .u32 0] (n - kk)).toList) (some ⟨g, 0, none⟩) (uniqTo ks n) ∧ w.heap.size ≤ (wr.setCells g (kk * 3) (Builtin.zeroCells #[.int .i64 0, .int .i64 0, .int .u32 0] (n - kk)).toList).heap.size ∧ ∀ N, N ≤ g → N ≤ w.heap.size → Below N w (wr.setCells g (kk * 3) (Builtin.zeroCells #[.int .i64 0, .int .i64 0, .int .u32 0] (n - kk)).toList)) := by
              refine ⟨KAt.key (by rw [size_setCells, hsz]; exact hg) fun p hp => ?_, by rw [size_setCells, hsz]; exact Nat.le_refl _, fun N hN hNw => below_setCells g hN _ _ _ (hbel N hN hNw)⟩
              have hp2 : p < kk := by omega
              obtain ⟨⟨c0, c1, c2⟩, -⟩ := hrow p (by omega)
              rw [hr1 p hp2] at c0 c1 c2
              refine ⟨?_, ?_, ?_⟩
              · rw [World.cell?_setCells_out g _ _ _ _ (fun _ _ => .inl (by show p * 3 < kk * 3; omega))]; exact c0
              · rw [World.cell?_setCells_out g _ _ _ _ (fun _ _ => .inl (by show p * 3 + 1 < kk * 3; omega))]; exact c1
              · rw [World.cell?_setCells_out g _ _ _ _ (fun _ _ => .inl (by show p * 3 + 2 < kk * 3; omega))]; exact c2
            have HL := Lib.hid hlen
            have hkkc : kk ≤ cap := by omega
            generalize hW9 : wr.setCells g (kk * 3) (Builtin.zeroCells #[.int .i64 0, .int .i64 0, .int .u32 0] (n - kk)).toList = W9 at *
            clear hlen hr1 hr2 hrow hsz hbel hW9 hkn
            go_wp2
            go_ret
            rw [HL.out]
            exact ⟨rfl, HB.out⟩
    · obtain rfl : k = n := by omega
      have HL : Hid (uniqTo ks k = ks) := by
        unfold Hid
        rw [hu]
        exact List.take_of_length_le (by rw [HN.out]; exact Nat.le_refl _)
      have HKA : Hid (KeyAt (w.drewN q) (some ⟨g, 0, none⟩) ks) := KAt.key hg fun p hp => (hR p (by have := HN.out; omega)).1
      clear hu
      go_wp2
      go_ret
      rw [HL.out, HN.out]
      exact ⟨rfl, HKA.out, Nat.le_refl _, fun N _ _ => below_draws (Below.refl _ _) _⟩
end Go.Proofs.YtlkajpmfcibagaaDoor
