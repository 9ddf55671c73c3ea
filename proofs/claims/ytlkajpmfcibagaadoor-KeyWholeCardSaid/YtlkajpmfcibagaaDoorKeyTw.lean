/- key.Twice. -/
import Derived.Test.YtlkajpmfcibagaaDoorKeyMapB
import Derived.Lib.Builder
namespace Go.Proofs.YtlkajpmfcibagaaDoor
open Go.RowKit Law
open Go.ChangeMaps (setBlock)
set_option linter.unusedVariables false

/-- The first key that stands twice among the first k. -/
def scanTo (ks : List K) : Nat → Option K
  | 0 => none
  | k + 1 => match scanTo ks k with
    | some x => some x
    | none => if inK (ks.take k) (ks.getD k k0) then some (ks.getD k k0) else none
theorem scanTo_step {ks : List K} {k : Nat} (hk : k < ks.length) (h : scanTo ks k = none) : scanTo ks (k + 1) = if inK (ks.take k) ks[k] then some ks[k] else none := by
  show (match scanTo ks k with | some x => some x | none => if inK (ks.take k) (ks.getD k k0) then some (ks.getD k k0) else none) = _
  rw [h, getD_at hk]
theorem scanTo_some {ks : List K} {k : Nat} {x : K} (h : scanTo ks k = some x) : scanTo ks (k + 1) = some x := by
  show (match scanTo ks k with | some x => some x | none => if inK (ks.take k) (ks.getD k k0) then some (ks.getD k k0) else none) = _
  rw [h]
theorem scanTo_mono {ks : List K} {k n : Nat} (hkn : k ≤ n) {x : K} (h : scanTo ks k = some x) : scanTo ks n = some x := by
  induction n with
  | zero => obtain rfl : k = 0 := by omega
            exact h
  | succ n ih =>
    by_cases hk : k = n + 1
    · subst hk; exact h
    · exact scanTo_some (ih (by omega))
def keyR (o : Option K) : Value := .tuple #[(o.getD k0).val, .bool o.isSome]

theorem make_map (W : World) : (Instr.makeMap 53 none).run Tryd.prog W = .ok (.map (some W.heap.size)) (W.alloc (.map #[] 0)) := by
  simp [Instr.makeMap, newObj, Sem.run]
theorem below_setBlock {B b : Nat} {a w : World} (h : Below B a w) (hb : B ≤ b) (o : Obj) : Below B a (setBlock w b o) :=
  h.trans ⟨rfl, rfl, rfl, by simp [setBlock], fun i hi => by simp [setBlock, Array.getElem?_setIfInBounds]; omega⟩
theorem at_setBlock {w : World} {b : Nat} {o o0 : Obj} (h : w.heap[b]? = some o0) : (setBlock w b o).heap[b]? = some o := by
  have hlt : b < w.heap.size := (Array.getElem?_eq_some_iff.1 h).1
  simp [setBlock, hlt]
theorem at_setBlock_ne {w : World} {b i : Nat} {o : Obj} (h : i ≠ b) : (setBlock w b o).heap[i]? = w.heap[i]? := by
  simp [setBlock, Array.getElem?_setIfInBounds, Ne.symm h]
set_option maxHeartbeats 800000 in
theorem keyTwice {n : Nat} (A : Option Addr) (c : Nat) (ks : List K) (hn : ks.length = n) (hfit : ∀ k ∈ ks, k.Fits) (hm : n ≤ 1000000) (w : World) (hA : KeyAt w A ks) :
    Calls Tryd.prog 20 #[.slice A n c] w fun e w' => e = .returned (keyR (scanTo ks n)) ∧ Below w.heap.size w w' := by
  have HN := Lib.hid hn
  clear hn
  go_enter Tryd.func20, Tryd.ntmps20
  have hmk := make_map (w.alloc (.cells #[.int .i64 0, .int .i64 0, .int .u32 0] 24))
  go_wp2
  clear hmk
  go_loopw [10] (fun i wr => ∃ k : Nat, k ≤ n ∧ i = .int .i64 k ∧ scanTo ks k = none ∧ wr.heap[w.heap.size]? = some (.cells #[.int .i64 0, .int .i64 0, .int .u32 0] 24 (0, 0)) ∧
    wr.heap[w.heap.size + 1]? = some (.map (entriesOf (ks.take k)).toArray k) ∧ Below w.heap.size w wr) (fun i _ => n - (intOf i).toNat)
  case atStart =>
    refine ⟨0, Nat.zero_le _, rfl, rfl, ?_, ?_, ((Below.refl _ w).alloc (Nat.le_refl _) _).alloc (by simp) _⟩
    · rw [heap_alloc_old _ _ (by simp)]
      exact (MapKept.heap_alloc w _).1
    · have h := (MapKept.heap_alloc (w.alloc (.cells #[.int .i64 0, .int .i64 0, .int .u32 0] 24)) (.map #[] 0)).1
      simpa [entriesOf] using h
  case round =>
    obtain ⟨k, hk, rfl, hsc, hb2, hbm, hb⟩ := hrel
    by_cases hlt : k < n
    · have hlt' : k < ks.length := by rw [HN.out]; exact hlt
      obtain ⟨b, off, rfl, c0, c1, c2⟩ := hA.at_ hb hlt'
      have hfk := hfit ks[k] (List.getElem_mem hlt')
      have hlm : w.heap.size + 1 < wr.heap.size := (Array.getElem?_eq_some_iff.1 hbm).1
      have hbm1 : (wr.alloc (.cells ks[k].cells 24)).heap[w.heap.size + 1]? = some (.map (entriesOf (ks.take k)).toArray k) := by rw [heap_alloc_old _ _ hlm]; exact hbm
      have hfe : ∀ e ∈ entriesOf (ks.take k), ∃ x : K, x.Fits ∧ e.key = x.val := fun e he => by
        obtain ⟨x, hx, hek, _⟩ := entriesOf_mem he
        exact ⟨x, hfit x (List.mem_of_mem_take hx), hek⟩
      cases hin : inK (ks.take k) ks[k]
      · have hno : ∀ e ∈ entriesOf (ks.take k), e.key ≠ ks[k].val := fun e he hek => by
          obtain ⟨x, hx, hex, _⟩ := entriesOf_mem he
          have h1 : eqK x ks[k] = true := val_inj.1 (hex.symm.trans hek)
          have h2 : inK (ks.take k) ks[k] = true := by
            unfold inK
            rw [List.any_eq_true]
            exact ⟨x, hx, h1⟩
          rw [hin] at h2
          cases h2
        have hlook := look_val hbm1 hfe ks[k] hfk (.int .i64 0) (fun e he hek => absurd hek (hno e he)) (.inl rfl)
        have hbmd : (wr.alloc (.cells ks[k].cells 24)).drew.heap[w.heap.size + 1]? = some (.map (entriesOf (ks.take k)).toArray k) := hbm1
        have hlookd := look_val hbmd hfe ks[k] hfk (.int .i64 0) (fun e he hek => absurd hek (hno e he)) (.inl rfl)
        have hentd := entry_new hbmd hfe ks[k] hfk hno
        have hsb : ∀ W : World, W.heap[w.heap.size + 1]? = some (.map (entriesOf (ks.take k)).toArray k) → (setBlock W (w.heap.size + 1) (.map ((entriesOf (ks.take k)).toArray.push ⟨ks[k].val, .int .i64 0, k⟩) (k + 1))).heap[w.heap.size + 1]? = some (.map ((entriesOf (ks.take k)).toArray.push ⟨ks[k].val, .int .i64 0, k⟩) (k + 1)) := by
          intro W hW
          have hlt2 : w.heap.size + 1 < W.heap.size := (Array.getElem?_eq_some_iff.1 hW).1
          simp [setBlock, hlt2]
        have hs1 := hsb _ hbmd
        have hs1' := hs1
        rw [List.push_toArray] at hs1'
        have hlooks := look_val hs1' (fun e he => by
          rcases List.mem_append.1 he with he | he
          · exact hfe e he
          · simp at he; subst he; exact ⟨ks[k], hfk, rfl⟩) ks[k] hfk (.int .i64 0) (fun e he hek => by
          rcases List.mem_append.1 he with he | he
          · exact absurd hek (hno e he)
          · simp at he; subst he; rfl) (.inl rfl)
        have hstore := store_new hs1 (fun e he => by
          obtain ⟨x, hx, _, _, hbn⟩ := entriesOf_mem he
          have := List.length_take_le k ks
          omega) (entriesOf_nodup _) (.int .i64 1)
        clear hs1 hs1' hsb
        simp only [List.push_toArray, goInt] at hentd hlooks hstore
        unfold K.val K.cells at hlook hlookd hentd hlooks hstore
        have HSC := Lib.hid (show scanTo ks (k + 1) = none by rw [scanTo_step hlt' hsc, hin]; rfl)
        have HEN : Hid (entriesOf (ks.take (k + 1)) = entriesOf (ks.take k) ++ [⟨ks[k].val, one, k⟩]) := by
          unfold Hid
          rw [List.take_succ_eq_append_getElem hlt', entriesOf_snoc, List.length_take]
          congr 3
          omega
        have HBM := Lib.hid hbmd
        have HB2 : Hid ((wr.alloc (.cells ks[k].cells 24)).drew.heap[w.heap.size]? = some (.cells #[.int .i64 0, .int .i64 0, .int .u32 0] 24 (0, 0))) := by
          unfold Hid
          show (wr.alloc (.cells ks[k].cells 24)).heap[w.heap.size]? = _
          rw [heap_alloc_old _ _ (by omega)]
          exact hb2
        have HBB := Lib.hid ((hb.alloc hb.size (.cells ks[k].cells 24)).drew)
        clear hin hno hsc hfe hbm hbm1 hb2 hb hbmd
        go_wp2
        go_region
        all_goals
          go_wp2
          go_roundw
          case rel =>
            refine ⟨k + 1, by omega, by go_num, HSC.out, ?_, ?_, ?_⟩
            · rw [at_setBlock_ne (by omega), at_setBlock_ne (by omega)]
              exact HB2.out
            · rw [HEN.out]
              exact at_setBlock (at_setBlock HBM.out)
            · exact below_setBlock (below_setBlock HBB.out (by omega) _) (by omega) _
          case measure => simp [intOf]; omega
      · obtain ⟨e0, he0, hek0⟩ : ∃ e ∈ entriesOf (ks.take k), e.key = ks[k].val := by
          have h1 := hin
          unfold inK at h1
          obtain ⟨x, hx, hq⟩ := List.any_eq_true.1 h1
          rw [← val_inj.2 hq]
          exact entriesOf_has hx
        have hlook := look_val hbm1 hfe ks[k] hfk (.int .i64 1) (fun e he hek => by
          obtain ⟨x, hx, _, hv, _⟩ := entriesOf_mem he
          exact hv) (.inr ⟨e0, he0, hek0⟩)
        have HSC : Hid (scanTo ks n = some ks[k]) := scanTo_mono (k := k + 1) (by omega) (by rw [scanTo_step hlt' hsc, hin]; rfl)
        unfold K.val K.cells at hlook
        have HBB := Lib.hid (hb.alloc hb.size (.cells ks[k].cells 24))
        have hlw : w.heap.size < wr.heap.size := by omega
        have d0 : wr.cell? ⟨w.heap.size, 0, none⟩ = some (.int .i64 0) := by rw [Lib.cell_of_heap hb2]; rfl
        have d1 : wr.cell? ⟨w.heap.size, 1, none⟩ = some (.int .i64 0) := by rw [Lib.cell_of_heap hb2]; rfl
        have d2 : wr.cell? ⟨w.heap.size, 2, none⟩ = some (.int .u32 0) := by rw [Lib.cell_of_heap hb2]; rfl
        have f0 : wr.frozen? ⟨w.heap.size, 0, none⟩ = false := Lib.frozen_of_heap hb2 0
        have f1 : wr.frozen? ⟨w.heap.size, 1, none⟩ = false := Lib.frozen_of_heap hb2 1
        have f2 : wr.frozen? ⟨w.heap.size, 2, none⟩ = false := Lib.frozen_of_heap hb2 2
        have HB := Lib.hid hb
        have D := Lib.hid (And.intro d0 (And.intro d1 d2))
        have HV : Hid (keyR (scanTo ks n) = .tuple #[.agg #[.int .i64 ks[k].t, .int .i64 ks[k].f, .int .u32 ks[k].s], .bool true]) := by
          unfold Hid
          rw [HSC.out]
          rfl
        clear hin hsc hfe hbm hbm1 hb2 hb hek0 he0
        go_wp2
        have e0 : ∀ v, (wr.setCell ⟨w.heap.size, 0, none⟩ v).cell? ⟨w.heap.size, 0, none⟩ = some v := fun v => World.cell?_setCell_same' _ _ _ (by rw [D.out.1]; rfl)
        have e1 : ∀ u v, ((wr.setCell ⟨w.heap.size, 0, none⟩ u).setCell ⟨w.heap.size, 1, none⟩ v).cell? ⟨w.heap.size, 1, none⟩ = some v := fun u v => World.cell?_setCell_same' _ _ _ (by rw [World.cell?_setCell_other _ _ _ _ (by simp), D.out.2.1]; rfl)
        have e2 : ∀ u v x, (((wr.setCell ⟨w.heap.size, 0, none⟩ u).setCell ⟨w.heap.size, 1, none⟩ v).setCell ⟨w.heap.size, 2, none⟩ x).cell? ⟨w.heap.size, 2, none⟩ = some x := fun u v x => World.cell?_setCell_same' _ _ _ (by rw [World.cell?_setCell_other _ _ _ _ (by simp), World.cell?_setCell_other _ _ _ _ (by simp), D.out.2.2]; rfl)
        rw [HV.out]
        refine bodyPost_ret (v := .tuple #[.agg #[.int .i64 ks[k].t, .int .i64 ks[k].f, .int .u32 ks[k].s], .bool true]) (by simp [results, Tryd.results20, go_sem, hlw, e0, e1, e2]) rfl ⟨rfl, ?_⟩
        exact (((HB.out.setCell (p := ⟨w.heap.size, 0, none⟩) (Nat.le_refl _) _).setCell (p := ⟨w.heap.size, 1, none⟩) (Nat.le_refl _) _).setCell (p := ⟨w.heap.size, 2, none⟩) (Nat.le_refl _) _).alloc (by simp; omega) _
    · have HSC : Hid (scanTo ks n = none) := by
        unfold Hid
        rw [show n = k by omega]
        exact hsc
      have d0 : wr.cell? ⟨w.heap.size, 0, none⟩ = some (.int .i64 0) := by rw [Lib.cell_of_heap hb2]; rfl
      have d1 : wr.cell? ⟨w.heap.size, 1, none⟩ = some (.int .i64 0) := by rw [Lib.cell_of_heap hb2]; rfl
      have d2 : wr.cell? ⟨w.heap.size, 2, none⟩ = some (.int .u32 0) := by rw [Lib.cell_of_heap hb2]; rfl
      have f0 : wr.frozen? ⟨w.heap.size, 0, none⟩ = false := Lib.frozen_of_heap hb2 0
      have f1 : wr.frozen? ⟨w.heap.size, 1, none⟩ = false := Lib.frozen_of_heap hb2 1
      have f2 : wr.frozen? ⟨w.heap.size, 2, none⟩ = false := Lib.frozen_of_heap hb2 2
      have HB := Lib.hid hb
      have D := Lib.hid (And.intro d0 (And.intro d1 d2))
      have HV : Hid (keyR (scanTo ks n) = .tuple #[.agg #[.int .i64 0, .int .i64 0, .int .u32 0], .bool false]) := by
        unfold Hid
        rw [HSC.out]
        rfl
      clear hsc hbm hb2 hb
      go_wp2
      have e0 : ∀ v, (wr.setCell ⟨w.heap.size, 0, none⟩ v).cell? ⟨w.heap.size, 0, none⟩ = some v := fun v => World.cell?_setCell_same' _ _ _ (by rw [D.out.1]; rfl)
      have e1 : ∀ u v, ((wr.setCell ⟨w.heap.size, 0, none⟩ u).setCell ⟨w.heap.size, 1, none⟩ v).cell? ⟨w.heap.size, 1, none⟩ = some v := fun u v => World.cell?_setCell_same' _ _ _ (by rw [World.cell?_setCell_other _ _ _ _ (by simp), D.out.2.1]; rfl)
      have e2 : ∀ u v x, (((wr.setCell ⟨w.heap.size, 0, none⟩ u).setCell ⟨w.heap.size, 1, none⟩ v).setCell ⟨w.heap.size, 2, none⟩ x).cell? ⟨w.heap.size, 2, none⟩ = some x := fun u v x => World.cell?_setCell_same' _ _ _ (by rw [World.cell?_setCell_other _ _ _ _ (by simp), World.cell?_setCell_other _ _ _ _ (by simp), D.out.2.2]; rfl)
      rw [HV.out]
      refine bodyPost_ret (v := .tuple #[.agg #[.int .i64 0, .int .i64 0, .int .u32 0], .bool false]) (by simp [results, Tryd.results20, go_sem, e0, e1, e2]) rfl ⟨rfl, ?_⟩
      exact ((HB.out.setCell (p := ⟨w.heap.size, 0, none⟩) (Nat.le_refl _) _).setCell (p := ⟨w.heap.size, 1, none⟩) (Nat.le_refl _) _).setCell (p := ⟨w.heap.size, 2, none⟩) (Nat.le_refl _) _
end Go.Proofs.YtlkajpmfcibagaaDoor
