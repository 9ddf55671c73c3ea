/- The reference's shape of a line's words. -/
import Derived.Test.YtndpdonlombodaaDoorWdC
import Derived.BigQuiet
import Derived.Handy
import Derived.RegionTactic
import Derived.BigRegion
namespace Go.Proofs.YtndpdonlombodaaDoor
open Go.RowKit Law
set_option linter.unusedVariables false
set_option linter.unusedSimpArgs false

/-- A line's kind, its fate's kind, how many words are ahead of its numbers, how many numbers. -/
def ShapePost (k f h n : Int) (w : World) (e : Ending) (w' : World) : Prop := e = .returned (.tuple #[.int .i64 k, .int .i64 f, .int .i64 h, .int .i64 n]) ∧ Below w.heap.size w w'
def nmL (m : Nat) : List UInt8 := ([[], wTick, wDrift, [], wCrash, wRestart, wSend, wJoin, wLeave] : List (List UInt8)).getD m []
def ftL (m : Nat) : List UInt8 := ([wGo, wDrop, wTwin, wBend] : List (List UInt8)).getD m []
theorem names_at (w : World) (m : Nat) (hm : m < 9) (W : World) (hW : Below (w.alloc (.cells #[.string ⟨#[]⟩, .string ⟨#[116, 105, 99, 107]⟩, .string ⟨#[100, 114, 105, 102, 116]⟩, .string ⟨#[]⟩, .string ⟨#[99, 114, 97, 115, 104]⟩, .string ⟨#[114, 101, 115, 116, 97, 114, 116]⟩, .string ⟨#[115, 101, 110, 100]⟩, .string ⟨#[106, 111, 105, 110]⟩, .string ⟨#[108, 101, 97, 118, 101]⟩] 9)).heap.size (w.alloc (.cells #[.string ⟨#[]⟩, .string ⟨#[116, 105, 99, 107]⟩, .string ⟨#[100, 114, 105, 102, 116]⟩, .string ⟨#[]⟩, .string ⟨#[99, 114, 97, 115, 104]⟩, .string ⟨#[114, 101, 115, 116, 97, 114, 116]⟩, .string ⟨#[115, 101, 110, 100]⟩, .string ⟨#[106, 111, 105, 110]⟩, .string ⟨#[108, 101, 97, 118, 101]⟩] 9)) W) : W.cell? ⟨w.heap.size, m, none⟩ = some (.string ⟨(nmL m).toArray⟩) := by
  rw [hW.cell (p := ⟨w.heap.size, m, none⟩) (by simp), World.cell?_alloc_at _ _ _ _ (by simp)]
  have h : m = 0 ∨ m = 1 ∨ m = 2 ∨ m = 3 ∨ m = 4 ∨ m = 5 ∨ m = 6 ∨ m = 7 ∨ m = 8 := by omega
  rcases h with rfl | rfl | rfl | rfl | rfl | rfl | rfl | rfl | rfl <;> rfl
theorem fates_at (w : World) (m : Nat) (hm : m < 4) (W : World) (hW : Below (w.alloc (.cells #[.string ⟨#[103, 111]⟩, .string ⟨#[100, 114, 111, 112]⟩, .string ⟨#[116, 119, 105, 110]⟩, .string ⟨#[98, 101, 110, 100]⟩] 9)).heap.size (w.alloc (.cells #[.string ⟨#[103, 111]⟩, .string ⟨#[100, 114, 111, 112]⟩, .string ⟨#[116, 119, 105, 110]⟩, .string ⟨#[98, 101, 110, 100]⟩] 9)) W) : W.cell? ⟨w.heap.size, m, none⟩ = some (.string ⟨(ftL m).toArray⟩) := by
  rw [hW.cell (p := ⟨w.heap.size, m, none⟩) (by simp), World.cell?_alloc_at _ _ _ _ (by simp)]
  have h : m = 0 ∨ m = 1 ∨ m = 2 ∨ m = 3 := by omega
  rcases h with rfl | rfl | rfl | rfl <;> rfl
theorem nm_test (v : List UInt8) (m : Nat) (sv sn : ByteArray) (hv : sv.data.toList = v) (hn : sn.data.toList = nmL m) : (sn.toList == []) = (nmL m == []) ∧ (sv.toList == sn.toList) = (v == nmL m) := by
  simp only [ByteArray.toList_eq, hv, hn, and_self]
set_option maxHeartbeats 1600000 in
set_option maxRecDepth 100000 in
theorem shape_hit_two (v : List UInt8) (sv : ByteArray) (hv : sv.data.toList = v) (blk off n c : Nat) (h1 : 0 < n) (w : World) (p0 : w.cell? ⟨blk, off, none⟩ = some (.string sv)) (K : Nat) (hK1 : 1 ≤ K) (hK : K < 9) (q2 : ((K : Int) == 2) = true) (hnm : ∀ m, 1 ≤ m → m < K → ¬ (nmL m ≠ [] ∧ v = nmL m)) (hit : nmL K ≠ [] ∧ v = nmL K) :
    Calls Tryd.prog 41 #[.slice (some ⟨blk, off, none⟩) n c] w (ShapePost K 0 1 2 w) := by
  have HV := Lib.hid hv
  have hne : (nmL K == []) = false := beq_eq_false_iff_ne.2 hit.1
  have hve : (v == nmL K) = true := beq_iff_eq.2 hit.2
  clear hit hv
  have hlt := World.block_lt_of_cell? _ _ p0
  simp only at hlt
  have HP : Hid (∀ W, Below w.heap.size w W → W.cell? ⟨blk, off, none⟩ = some (.string sv)) := fun W hW => (hW.cell (p := ⟨blk, off, none⟩) hlt).trans p0
  have HN := Lib.hid (names_at w)
  obtain ⟨W0, hW0⟩ : ∃ W0, w.alloc (.cells #[.string ⟨#[]⟩, .string ⟨#[116, 105, 99, 107]⟩, .string ⟨#[100, 114, 105, 102, 116]⟩, .string ⟨#[]⟩, .string ⟨#[99, 114, 97, 115, 104]⟩, .string ⟨#[114, 101, 115, 116, 97, 114, 116]⟩, .string ⟨#[115, 101, 110, 100]⟩, .string ⟨#[106, 111, 105, 110]⟩, .string ⟨#[108, 101, 97, 118, 101]⟩] 9) = W0 := ⟨_, rfl⟩
  have hb0 : Below w.heap.size w W0 := hW0 ▸ (Below.refl _ _).alloc (Nat.le_refl _) _
  have HW := Lib.hid hW0
  rw [hW0] at HN
  have HB := Lib.hid hb0
  clear hW0 hb0 p0
  go_enter Tryd.func41, Tryd.ntmps41
  go_wp2_with fail
  rw [HW.out]
  go_loopw [7] (fun i wr => ∃ m : Nat, 1 ≤ m ∧ m ≤ K ∧ i = .int .i64 m ∧ Below W0.heap.size W0 wr) (fun i _ => 9 - (intOf i).toNat)
  case atStart => exact ⟨1, Nat.le_refl _, by omega, rfl, Below.refl _ _⟩
  case round =>
    obtain ⟨m, hm1, hm2, rfl, hb⟩ := hrel
    have hq0 := HP.out wr (HB.out.trans (hb.mono HB.out.size))
    have hcw := fun W : Later wr => HP.out W.val ((HB.out.trans (hb.mono HB.out.size)).trans (W.h.mono (HB.out.trans (hb.mono HB.out.size)).size))
    by_cases hlt2 : m < K
    · skip
      have hnc := fun (W : Later wr) => HN.out m (by omega) W.val (hb.trans (W.h.mono hb.size))
      obtain ⟨sn, hsn⟩ : ∃ sn : ByteArray, (⟨(nmL m).toArray⟩ : ByteArray) = sn := ⟨_, rfl⟩
      rw [hsn] at hnc
      obtain ⟨t1, t2⟩ := nm_test v m sv sn HV.out (by rw [← hsn])
      have hno := hnm m hm1 (by omega)
      have t3 : (nmL m == []) = true ∨ ((nmL m == []) = false ∧ (v == nmL m) = false) := by
        by_cases e : nmL m = []
        · exact .inl (by rw [e]; rfl)
        · refine .inr ⟨beq_eq_false_iff_ne.2 e, beq_eq_false_iff_ne.2 (fun e2 => hno ⟨e, e2⟩)⟩
      have HBw := Lib.hid hb
      clear hsn hno hb
      rcases t3 with t3 | ⟨t3, t4⟩
      · rw [t3] at t1
        clear t2 t3
        go_wp2_with fail
        refine wp_region_later (by kernel_rfl) (by kernel_rfl) ?_
        repeat (go_big_quiet_step (fail))
        refine wpQuiet_nil ?_
        rintro W1 ⟨⟨W2, hW⟩, rfl⟩
        go_wp2_with fail
        go_roundw
        case rel => exact ⟨m + 1, by omega, by omega, by go_num, HBw.out.trans (hW.mono HBw.out.size)⟩
        case measure => simp [intOf]; omega
      · rw [t3] at t1
        rw [t4] at t2
        clear t3 t4
        go_wp2_with fail
        refine wp_region_later (by kernel_rfl) (by kernel_rfl) ?_
        repeat (go_big_quiet_step (fail))
        refine wpQuiet_nil ?_
        rintro W1 ⟨⟨W2, hW⟩, rfl⟩
        go_wp2_with fail
        go_roundw
        case rel => exact ⟨m + 1, by omega, by omega, by go_num, HBw.out.trans (hW.mono HBw.out.size)⟩
        case measure => simp [intOf]; omega
    · obtain rfl : m = K := by omega
      have hnc := fun (W : Later wr) => HN.out m (by omega) W.val (hb.trans (W.h.mono hb.size))
      obtain ⟨sn, hsn⟩ : ∃ sn : ByteArray, (⟨(nmL m).toArray⟩ : ByteArray) = sn := ⟨_, rfl⟩
      rw [hsn] at hnc
      obtain ⟨t1, t2⟩ := nm_test v m sv sn HV.out (by rw [← hsn])
      rw [hne] at t1
      rw [hve] at t2
      have HBw := Lib.hid (HB.out.trans (hb.mono HB.out.size))
      clear hsn hb hne hve hnm
      go_wp2_with fail
      refine wp_region_later (by kernel_rfl) (by kernel_rfl) ?_
      repeat (go_big_quiet_step (fail))
      refine wpQuiet_nil ?_
      rintro W1 ⟨⟨W2, hW⟩, rfl⟩
      go_wp2_with fail
      refine bodyPost_ret (v := .tuple #[.int .i64 m, .int .i64 0, .int .i64 1, .int .i64 2]) (by simp [results, Tryd.results41, go_sem]) rfl ?_
      exact ⟨rfl, HBw.out.trans (hW.mono HBw.out.size)⟩
set_option maxHeartbeats 1600000 in
set_option maxRecDepth 100000 in
theorem shape_hit_one (v : List UInt8) (sv : ByteArray) (hv : sv.data.toList = v) (blk off n c : Nat) (h1 : 0 < n) (w : World) (p0 : w.cell? ⟨blk, off, none⟩ = some (.string sv)) (K : Nat) (hK1 : 1 ≤ K) (hK : K < 9) (q2 : ((K : Int) == 2) = false) (hnm : ∀ m, 1 ≤ m → m < K → ¬ (nmL m ≠ [] ∧ v = nmL m)) (hit : nmL K ≠ [] ∧ v = nmL K) :
    Calls Tryd.prog 41 #[.slice (some ⟨blk, off, none⟩) n c] w (ShapePost K 0 1 1 w) := by
  have HV := Lib.hid hv
  have hne : (nmL K == []) = false := beq_eq_false_iff_ne.2 hit.1
  have hve : (v == nmL K) = true := beq_iff_eq.2 hit.2
  clear hit hv
  have hlt := World.block_lt_of_cell? _ _ p0
  simp only at hlt
  have HP : Hid (∀ W, Below w.heap.size w W → W.cell? ⟨blk, off, none⟩ = some (.string sv)) := fun W hW => (hW.cell (p := ⟨blk, off, none⟩) hlt).trans p0
  have HN := Lib.hid (names_at w)
  obtain ⟨W0, hW0⟩ : ∃ W0, w.alloc (.cells #[.string ⟨#[]⟩, .string ⟨#[116, 105, 99, 107]⟩, .string ⟨#[100, 114, 105, 102, 116]⟩, .string ⟨#[]⟩, .string ⟨#[99, 114, 97, 115, 104]⟩, .string ⟨#[114, 101, 115, 116, 97, 114, 116]⟩, .string ⟨#[115, 101, 110, 100]⟩, .string ⟨#[106, 111, 105, 110]⟩, .string ⟨#[108, 101, 97, 118, 101]⟩] 9) = W0 := ⟨_, rfl⟩
  have hb0 : Below w.heap.size w W0 := hW0 ▸ (Below.refl _ _).alloc (Nat.le_refl _) _
  have HW := Lib.hid hW0
  rw [hW0] at HN
  have HB := Lib.hid hb0
  clear hW0 hb0 p0
  go_enter Tryd.func41, Tryd.ntmps41
  go_wp2_with fail
  rw [HW.out]
  go_loopw [7] (fun i wr => ∃ m : Nat, 1 ≤ m ∧ m ≤ K ∧ i = .int .i64 m ∧ Below W0.heap.size W0 wr) (fun i _ => 9 - (intOf i).toNat)
  case atStart => exact ⟨1, Nat.le_refl _, by omega, rfl, Below.refl _ _⟩
  case round =>
    obtain ⟨m, hm1, hm2, rfl, hb⟩ := hrel
    have hq0 := HP.out wr (HB.out.trans (hb.mono HB.out.size))
    have hcw := fun W : Later wr => HP.out W.val ((HB.out.trans (hb.mono HB.out.size)).trans (W.h.mono (HB.out.trans (hb.mono HB.out.size)).size))
    by_cases hlt2 : m < K
    · skip
      have hnc := fun (W : Later wr) => HN.out m (by omega) W.val (hb.trans (W.h.mono hb.size))
      obtain ⟨sn, hsn⟩ : ∃ sn : ByteArray, (⟨(nmL m).toArray⟩ : ByteArray) = sn := ⟨_, rfl⟩
      rw [hsn] at hnc
      obtain ⟨t1, t2⟩ := nm_test v m sv sn HV.out (by rw [← hsn])
      have hno := hnm m hm1 (by omega)
      have t3 : (nmL m == []) = true ∨ ((nmL m == []) = false ∧ (v == nmL m) = false) := by
        by_cases e : nmL m = []
        · exact .inl (by rw [e]; rfl)
        · refine .inr ⟨beq_eq_false_iff_ne.2 e, beq_eq_false_iff_ne.2 (fun e2 => hno ⟨e, e2⟩)⟩
      have HBw := Lib.hid hb
      clear hsn hno hb
      rcases t3 with t3 | ⟨t3, t4⟩
      · rw [t3] at t1
        clear t2 t3
        go_wp2_with fail
        refine wp_region_later (by kernel_rfl) (by kernel_rfl) ?_
        repeat (go_big_quiet_step (fail))
        refine wpQuiet_nil ?_
        rintro W1 ⟨⟨W2, hW⟩, rfl⟩
        go_wp2_with fail
        go_roundw
        case rel => exact ⟨m + 1, by omega, by omega, by go_num, HBw.out.trans (hW.mono HBw.out.size)⟩
        case measure => simp [intOf]; omega
      · rw [t3] at t1
        rw [t4] at t2
        clear t3 t4
        go_wp2_with fail
        refine wp_region_later (by kernel_rfl) (by kernel_rfl) ?_
        repeat (go_big_quiet_step (fail))
        refine wpQuiet_nil ?_
        rintro W1 ⟨⟨W2, hW⟩, rfl⟩
        go_wp2_with fail
        go_roundw
        case rel => exact ⟨m + 1, by omega, by omega, by go_num, HBw.out.trans (hW.mono HBw.out.size)⟩
        case measure => simp [intOf]; omega
    · obtain rfl : m = K := by omega
      have hnc := fun (W : Later wr) => HN.out m (by omega) W.val (hb.trans (W.h.mono hb.size))
      obtain ⟨sn, hsn⟩ : ∃ sn : ByteArray, (⟨(nmL m).toArray⟩ : ByteArray) = sn := ⟨_, rfl⟩
      rw [hsn] at hnc
      obtain ⟨t1, t2⟩ := nm_test v m sv sn HV.out (by rw [← hsn])
      rw [hne] at t1
      rw [hve] at t2
      have HBw := Lib.hid (HB.out.trans (hb.mono HB.out.size))
      clear hsn hb hne hve hnm
      go_wp2_with fail
      refine wp_region_later (by kernel_rfl) (by kernel_rfl) ?_
      repeat (go_big_quiet_step (fail))
      refine wpQuiet_nil ?_
      rintro W1 ⟨⟨W2, hW⟩, rfl⟩
      go_wp2_with fail
      refine bodyPost_ret (v := .tuple #[.int .i64 m, .int .i64 0, .int .i64 1, .int .i64 1]) (by simp [results, Tryd.results41, go_sem]) rfl ?_
      exact ⟨rfl, HBw.out.trans (hW.mono HBw.out.size)⟩
set_option maxHeartbeats 1600000 in
set_option maxRecDepth 100000 in
theorem shape_no1 (v : List UInt8) (sv : ByteArray) (hv : sv.data.toList = v) (blk off n c : Nat) (h1 : 0 < n) (w : World) (p0 : w.cell? ⟨blk, off, none⟩ = some (.string sv)) (hnm : ∀ m, 1 ≤ m → m < 9 → ¬ (nmL m ≠ [] ∧ v = nmL m)) (hf : v ≠ wFate) :
    Calls Tryd.prog 41 #[.slice (some ⟨blk, off, none⟩) n c] w (ShapePost 0 0 0 0 w) := by
  have HV := Lib.hid hv
  have s1 : (sv.toList == [102, 97, 116, 101]) = false := by
    rw [ByteArray.toList_eq, hv]; exact beq_eq_false_iff_ne.2 hf
  clear hf
  clear hv
  have hlt := World.block_lt_of_cell? _ _ p0
  simp only at hlt
  have HP : Hid (∀ W, Below w.heap.size w W → W.cell? ⟨blk, off, none⟩ = some (.string sv)) := fun W hW => (hW.cell (p := ⟨blk, off, none⟩) hlt).trans p0
  have HN := Lib.hid (names_at w)
  obtain ⟨W0, hW0⟩ : ∃ W0, w.alloc (.cells #[.string ⟨#[]⟩, .string ⟨#[116, 105, 99, 107]⟩, .string ⟨#[100, 114, 105, 102, 116]⟩, .string ⟨#[]⟩, .string ⟨#[99, 114, 97, 115, 104]⟩, .string ⟨#[114, 101, 115, 116, 97, 114, 116]⟩, .string ⟨#[115, 101, 110, 100]⟩, .string ⟨#[106, 111, 105, 110]⟩, .string ⟨#[108, 101, 97, 118, 101]⟩] 9) = W0 := ⟨_, rfl⟩
  have hb0 : Below w.heap.size w W0 := hW0 ▸ (Below.refl _ _).alloc (Nat.le_refl _) _
  have HW := Lib.hid hW0
  rw [hW0] at HN
  have HB := Lib.hid hb0
  clear hW0 hb0 p0
  go_enter Tryd.func41, Tryd.ntmps41
  go_wp2_with fail
  rw [HW.out]
  go_loopw [7] (fun i wr => ∃ m : Nat, 1 ≤ m ∧ m ≤ 9 ∧ i = .int .i64 m ∧ Below W0.heap.size W0 wr) (fun i _ => 9 - (intOf i).toNat)
  case atStart => exact ⟨1, Nat.le_refl _, by omega, rfl, Below.refl _ _⟩
  case round =>
    obtain ⟨m, hm1, hm2, rfl, hb⟩ := hrel
    have hq0 := HP.out wr (HB.out.trans (hb.mono HB.out.size))
    have hcw := fun W : Later wr => HP.out W.val ((HB.out.trans (hb.mono HB.out.size)).trans (W.h.mono (HB.out.trans (hb.mono HB.out.size)).size))
    by_cases hlt2 : m < 9
    · skip
      have hnc := fun (W : Later wr) => HN.out m (by omega) W.val (hb.trans (W.h.mono hb.size))
      obtain ⟨sn, hsn⟩ : ∃ sn : ByteArray, (⟨(nmL m).toArray⟩ : ByteArray) = sn := ⟨_, rfl⟩
      rw [hsn] at hnc
      obtain ⟨t1, t2⟩ := nm_test v m sv sn HV.out (by rw [← hsn])
      have hno := hnm m hm1 (by omega)
      have t3 : (nmL m == []) = true ∨ ((nmL m == []) = false ∧ (v == nmL m) = false) := by
        by_cases e : nmL m = []
        · exact .inl (by rw [e]; rfl)
        · refine .inr ⟨beq_eq_false_iff_ne.2 e, beq_eq_false_iff_ne.2 (fun e2 => hno ⟨e, e2⟩)⟩
      have HBw := Lib.hid hb
      clear hsn hno hb
      rcases t3 with t3 | ⟨t3, t4⟩
      · rw [t3] at t1
        clear t2 t3
        go_wp2_with fail
        refine wp_region_later (by kernel_rfl) (by kernel_rfl) ?_
        repeat (go_big_quiet_step (fail))
        refine wpQuiet_nil ?_
        rintro W1 ⟨⟨W2, hW⟩, rfl⟩
        go_wp2_with fail
        go_roundw
        case rel => exact ⟨m + 1, by omega, by omega, by go_num, HBw.out.trans (hW.mono HBw.out.size)⟩
        case measure => simp [intOf]; omega
      · rw [t3] at t1
        rw [t4] at t2
        clear t3 t4
        go_wp2_with fail
        refine wp_region_later (by kernel_rfl) (by kernel_rfl) ?_
        repeat (go_big_quiet_step (fail))
        refine wpQuiet_nil ?_
        rintro W1 ⟨⟨W2, hW⟩, rfl⟩
        go_wp2_with fail
        go_roundw
        case rel => exact ⟨m + 1, by omega, by omega, by go_num, HBw.out.trans (hW.mono HBw.out.size)⟩
        case measure => simp [intOf]; omega
    · obtain rfl : m = 9 := by omega
      have HBw := Lib.hid (HB.out.trans (hb.mono HB.out.size))
      have HFt := Lib.hid (fates_at wr)
      obtain ⟨W3, hW3⟩ : ∃ W3, wr.alloc (.cells #[.string ⟨#[103, 111]⟩, .string ⟨#[100, 114, 111, 112]⟩, .string ⟨#[116, 119, 105, 110]⟩, .string ⟨#[98, 101, 110, 100]⟩] 9) = W3 := ⟨_, rfl⟩
      have hb3 : Below w.heap.size w W3 := hW3 ▸ HBw.out.alloc HBw.out.size _
      have H3 := Lib.hid hW3
      rw [hW3] at HFt
      have HB3 := Lib.hid hb3
      clear hW3 hb3 hb hq0 hcw hnm
      go_wp2_with fail
      rw [H3.out]
      go_loopw [9] (fun i wr => ∃ m : Nat, m ≤ 4 ∧ i = .int .i64 m ∧ Below W3.heap.size W3 wr) (fun i _ => 4 - (intOf i).toNat)
      case atStart => exact ⟨0, Nat.zero_le _, rfl, Below.refl _ _⟩
      case round =>
        obtain ⟨m, hm2, rfl, hb⟩ := hrel
        have hcw := fun W : Later wr => HP.out W.val ((HB3.out.trans (hb.mono HB3.out.size)).trans (W.h.mono (HB3.out.trans (hb.mono HB3.out.size)).size))
        by_cases hlt3 : m < 4
        · skip
          have HBm := Lib.hid hb
          clear hb
          go_wp2_with fail
          refine wp_region_later (by kernel_rfl) (by kernel_rfl) ?_
          repeat (go_big_quiet_step (fail))
          refine wpQuiet_nil ?_
          rintro W1 ⟨⟨W2, hW⟩, rfl⟩
          go_wp2_with fail
          go_roundw
          case rel => exact ⟨m + 1, by omega, by go_num, HBm.out.trans (hW.mono HBm.out.size)⟩
          case measure => simp [intOf]; omega
        · obtain rfl : m = 4 := by omega
          have HBm := Lib.hid (HB3.out.trans (hb.mono HB3.out.size))
          clear hb
          go_wp2_with fail
          refine bodyPost_ret (v := .tuple #[.int .i64 0, .int .i64 0, .int .i64 0, .int .i64 0]) (by simp [results, Tryd.results41, go_sem]) rfl ?_
          exact ⟨rfl, HBm.out⟩
set_option maxHeartbeats 1600000 in
set_option maxRecDepth 100000 in
theorem shape_no2 (v : List UInt8) (sv : ByteArray) (hv : sv.data.toList = v) (blk off n c : Nat) (h1 : 0 < n) (w : World) (p0 : w.cell? ⟨blk, off, none⟩ = some (.string sv)) (hnm : ∀ m, 1 ≤ m → m < 9 → ¬ (nmL m ≠ [] ∧ v = nmL m)) (hf : v = wFate) (hn1 : n = 1) :
    Calls Tryd.prog 41 #[.slice (some ⟨blk, off, none⟩) n c] w (ShapePost 0 0 0 0 w) := by
  have HV := Lib.hid hv
  have s1 : (sv.toList == [102, 97, 116, 101]) = true := by
    rw [ByteArray.toList_eq, hv]; exact beq_iff_eq.2 hf
  clear hf
  have g1 : ¬ 1 < n := by omega
  have g2 : decide ((1 : Int) < (n : Int)) = false := decide_eq_false (by omega)
  have g3 : decide (1 < n) = false := decide_eq_false g1
  clear hv
  have hlt := World.block_lt_of_cell? _ _ p0
  simp only at hlt
  have HP : Hid (∀ W, Below w.heap.size w W → W.cell? ⟨blk, off, none⟩ = some (.string sv)) := fun W hW => (hW.cell (p := ⟨blk, off, none⟩) hlt).trans p0
  have HN := Lib.hid (names_at w)
  obtain ⟨W0, hW0⟩ : ∃ W0, w.alloc (.cells #[.string ⟨#[]⟩, .string ⟨#[116, 105, 99, 107]⟩, .string ⟨#[100, 114, 105, 102, 116]⟩, .string ⟨#[]⟩, .string ⟨#[99, 114, 97, 115, 104]⟩, .string ⟨#[114, 101, 115, 116, 97, 114, 116]⟩, .string ⟨#[115, 101, 110, 100]⟩, .string ⟨#[106, 111, 105, 110]⟩, .string ⟨#[108, 101, 97, 118, 101]⟩] 9) = W0 := ⟨_, rfl⟩
  have hb0 : Below w.heap.size w W0 := hW0 ▸ (Below.refl _ _).alloc (Nat.le_refl _) _
  have HW := Lib.hid hW0
  rw [hW0] at HN
  have HB := Lib.hid hb0
  clear hW0 hb0 p0
  go_enter Tryd.func41, Tryd.ntmps41
  go_wp2_with fail
  rw [HW.out]
  go_loopw [7] (fun i wr => ∃ m : Nat, 1 ≤ m ∧ m ≤ 9 ∧ i = .int .i64 m ∧ Below W0.heap.size W0 wr) (fun i _ => 9 - (intOf i).toNat)
  case atStart => exact ⟨1, Nat.le_refl _, by omega, rfl, Below.refl _ _⟩
  case round =>
    obtain ⟨m, hm1, hm2, rfl, hb⟩ := hrel
    have hq0 := HP.out wr (HB.out.trans (hb.mono HB.out.size))
    have hcw := fun W : Later wr => HP.out W.val ((HB.out.trans (hb.mono HB.out.size)).trans (W.h.mono (HB.out.trans (hb.mono HB.out.size)).size))
    by_cases hlt2 : m < 9
    · skip
      have hnc := fun (W : Later wr) => HN.out m (by omega) W.val (hb.trans (W.h.mono hb.size))
      obtain ⟨sn, hsn⟩ : ∃ sn : ByteArray, (⟨(nmL m).toArray⟩ : ByteArray) = sn := ⟨_, rfl⟩
      rw [hsn] at hnc
      obtain ⟨t1, t2⟩ := nm_test v m sv sn HV.out (by rw [← hsn])
      have hno := hnm m hm1 (by omega)
      have t3 : (nmL m == []) = true ∨ ((nmL m == []) = false ∧ (v == nmL m) = false) := by
        by_cases e : nmL m = []
        · exact .inl (by rw [e]; rfl)
        · refine .inr ⟨beq_eq_false_iff_ne.2 e, beq_eq_false_iff_ne.2 (fun e2 => hno ⟨e, e2⟩)⟩
      have HBw := Lib.hid hb
      clear hsn hno hb
      rcases t3 with t3 | ⟨t3, t4⟩
      · rw [t3] at t1
        clear t2 t3
        go_wp2_with fail
        refine wp_region_later (by kernel_rfl) (by kernel_rfl) ?_
        repeat (go_big_quiet_step (fail))
        refine wpQuiet_nil ?_
        rintro W1 ⟨⟨W2, hW⟩, rfl⟩
        go_wp2_with fail
        go_roundw
        case rel => exact ⟨m + 1, by omega, by omega, by go_num, HBw.out.trans (hW.mono HBw.out.size)⟩
        case measure => simp [intOf]; omega
      · rw [t3] at t1
        rw [t4] at t2
        clear t3 t4
        go_wp2_with fail
        refine wp_region_later (by kernel_rfl) (by kernel_rfl) ?_
        repeat (go_big_quiet_step (fail))
        refine wpQuiet_nil ?_
        rintro W1 ⟨⟨W2, hW⟩, rfl⟩
        go_wp2_with fail
        go_roundw
        case rel => exact ⟨m + 1, by omega, by omega, by go_num, HBw.out.trans (hW.mono HBw.out.size)⟩
        case measure => simp [intOf]; omega
    · obtain rfl : m = 9 := by omega
      have HBw := Lib.hid (HB.out.trans (hb.mono HB.out.size))
      have HFt := Lib.hid (fates_at wr)
      obtain ⟨W3, hW3⟩ : ∃ W3, wr.alloc (.cells #[.string ⟨#[103, 111]⟩, .string ⟨#[100, 114, 111, 112]⟩, .string ⟨#[116, 119, 105, 110]⟩, .string ⟨#[98, 101, 110, 100]⟩] 9) = W3 := ⟨_, rfl⟩
      have hb3 : Below w.heap.size w W3 := hW3 ▸ HBw.out.alloc HBw.out.size _
      have H3 := Lib.hid hW3
      rw [hW3] at HFt
      have HB3 := Lib.hid hb3
      clear hW3 hb3 hb hq0 hcw hnm
      go_wp2_with fail
      rw [H3.out]
      go_loopw [9] (fun i wr => ∃ m : Nat, m ≤ 4 ∧ i = .int .i64 m ∧ Below W3.heap.size W3 wr) (fun i _ => 4 - (intOf i).toNat)
      case atStart => exact ⟨0, Nat.zero_le _, rfl, Below.refl _ _⟩
      case round =>
        obtain ⟨m, hm2, rfl, hb⟩ := hrel
        have hcw := fun W : Later wr => HP.out W.val ((HB3.out.trans (hb.mono HB3.out.size)).trans (W.h.mono (HB3.out.trans (hb.mono HB3.out.size)).size))
        by_cases hlt3 : m < 4
        · skip
          have HBm := Lib.hid hb
          clear hb
          go_wp2_with fail
          refine wp_region_later (by kernel_rfl) (by kernel_rfl) ?_
          repeat (go_big_quiet_step (fail))
          refine wpQuiet_nil ?_
          rintro W1 ⟨⟨W2, hW⟩, rfl⟩
          go_wp2_with fail
          go_roundw
          case rel => exact ⟨m + 1, by omega, by go_num, HBm.out.trans (hW.mono HBm.out.size)⟩
          case measure => simp [intOf]; omega
        · obtain rfl : m = 4 := by omega
          have HBm := Lib.hid (HB3.out.trans (hb.mono HB3.out.size))
          clear hb
          go_wp2_with fail
          refine bodyPost_ret (v := .tuple #[.int .i64 0, .int .i64 0, .int .i64 0, .int .i64 0]) (by simp [results, Tryd.results41, go_sem]) rfl ?_
          exact ⟨rfl, HBm.out⟩
set_option maxHeartbeats 1600000 in
set_option maxRecDepth 100000 in
theorem shape_no3 (v : List UInt8) (sv : ByteArray) (hv : sv.data.toList = v) (blk off n c : Nat) (h1 : 0 < n) (w : World) (p0 : w.cell? ⟨blk, off, none⟩ = some (.string sv)) (hnm : ∀ m, 1 ≤ m → m < 9 → ¬ (nmL m ≠ [] ∧ v = nmL m)) (hf : v = wFate) (hn2 : 1 < n) (u : List UInt8) (su : ByteArray) (hu : su.data.toList = u) (p1 : w.cell? ⟨blk, off + 1, none⟩ = some (.string su)) (hno : ∀ m, m < 4 → u ≠ ftL m) :
    Calls Tryd.prog 41 #[.slice (some ⟨blk, off, none⟩) n c] w (ShapePost 0 0 0 0 w) := by
  have HV := Lib.hid hv
  have s1 : (sv.toList == [102, 97, 116, 101]) = true := by
    rw [ByteArray.toList_eq, hv]; exact beq_iff_eq.2 hf
  clear hf
  have hlt1 := World.block_lt_of_cell? _ _ p1
  simp only at hlt1
  have HU : Hid (∀ W, Below w.heap.size w W → W.cell? ⟨blk, off + 1, none⟩ = some (.string su)) := fun W hW => (hW.cell (p := ⟨blk, off + 1, none⟩) hlt1).trans p1
  have HUU := Lib.hid hu
  have g2 : decide ((1 : Int) < (n : Int)) = true := decide_eq_true (by omega)
  have g3 : decide (1 < n) = true := decide_eq_true hn2
  clear p1 hu hlt1
  clear hv
  have hlt := World.block_lt_of_cell? _ _ p0
  simp only at hlt
  have HP : Hid (∀ W, Below w.heap.size w W → W.cell? ⟨blk, off, none⟩ = some (.string sv)) := fun W hW => (hW.cell (p := ⟨blk, off, none⟩) hlt).trans p0
  have HN := Lib.hid (names_at w)
  obtain ⟨W0, hW0⟩ : ∃ W0, w.alloc (.cells #[.string ⟨#[]⟩, .string ⟨#[116, 105, 99, 107]⟩, .string ⟨#[100, 114, 105, 102, 116]⟩, .string ⟨#[]⟩, .string ⟨#[99, 114, 97, 115, 104]⟩, .string ⟨#[114, 101, 115, 116, 97, 114, 116]⟩, .string ⟨#[115, 101, 110, 100]⟩, .string ⟨#[106, 111, 105, 110]⟩, .string ⟨#[108, 101, 97, 118, 101]⟩] 9) = W0 := ⟨_, rfl⟩
  have hb0 : Below w.heap.size w W0 := hW0 ▸ (Below.refl _ _).alloc (Nat.le_refl _) _
  have HW := Lib.hid hW0
  rw [hW0] at HN
  have HB := Lib.hid hb0
  clear hW0 hb0 p0
  go_enter Tryd.func41, Tryd.ntmps41
  go_wp2_with fail
  rw [HW.out]
  go_loopw [7] (fun i wr => ∃ m : Nat, 1 ≤ m ∧ m ≤ 9 ∧ i = .int .i64 m ∧ Below W0.heap.size W0 wr) (fun i _ => 9 - (intOf i).toNat)
  case atStart => exact ⟨1, Nat.le_refl _, by omega, rfl, Below.refl _ _⟩
  case round =>
    obtain ⟨m, hm1, hm2, rfl, hb⟩ := hrel
    have hq0 := HP.out wr (HB.out.trans (hb.mono HB.out.size))
    have hcw := fun W : Later wr => HP.out W.val ((HB.out.trans (hb.mono HB.out.size)).trans (W.h.mono (HB.out.trans (hb.mono HB.out.size)).size))
    by_cases hlt2 : m < 9
    · skip
      have hnc := fun (W : Later wr) => HN.out m (by omega) W.val (hb.trans (W.h.mono hb.size))
      obtain ⟨sn, hsn⟩ : ∃ sn : ByteArray, (⟨(nmL m).toArray⟩ : ByteArray) = sn := ⟨_, rfl⟩
      rw [hsn] at hnc
      obtain ⟨t1, t2⟩ := nm_test v m sv sn HV.out (by rw [← hsn])
      have hno := hnm m hm1 (by omega)
      have t3 : (nmL m == []) = true ∨ ((nmL m == []) = false ∧ (v == nmL m) = false) := by
        by_cases e : nmL m = []
        · exact .inl (by rw [e]; rfl)
        · refine .inr ⟨beq_eq_false_iff_ne.2 e, beq_eq_false_iff_ne.2 (fun e2 => hno ⟨e, e2⟩)⟩
      have HBw := Lib.hid hb
      clear hsn hno hb
      rcases t3 with t3 | ⟨t3, t4⟩
      · rw [t3] at t1
        clear t2 t3
        go_wp2_with fail
        refine wp_region_later (by kernel_rfl) (by kernel_rfl) ?_
        repeat (go_big_quiet_step (fail))
        refine wpQuiet_nil ?_
        rintro W1 ⟨⟨W2, hW⟩, rfl⟩
        go_wp2_with fail
        go_roundw
        case rel => exact ⟨m + 1, by omega, by omega, by go_num, HBw.out.trans (hW.mono HBw.out.size)⟩
        case measure => simp [intOf]; omega
      · rw [t3] at t1
        rw [t4] at t2
        clear t3 t4
        go_wp2_with fail
        refine wp_region_later (by kernel_rfl) (by kernel_rfl) ?_
        repeat (go_big_quiet_step (fail))
        refine wpQuiet_nil ?_
        rintro W1 ⟨⟨W2, hW⟩, rfl⟩
        go_wp2_with fail
        go_roundw
        case rel => exact ⟨m + 1, by omega, by omega, by go_num, HBw.out.trans (hW.mono HBw.out.size)⟩
        case measure => simp [intOf]; omega
    · obtain rfl : m = 9 := by omega
      have HBw := Lib.hid (HB.out.trans (hb.mono HB.out.size))
      have HFt := Lib.hid (fates_at wr)
      obtain ⟨W3, hW3⟩ : ∃ W3, wr.alloc (.cells #[.string ⟨#[103, 111]⟩, .string ⟨#[100, 114, 111, 112]⟩, .string ⟨#[116, 119, 105, 110]⟩, .string ⟨#[98, 101, 110, 100]⟩] 9) = W3 := ⟨_, rfl⟩
      have hb3 : Below w.heap.size w W3 := hW3 ▸ HBw.out.alloc HBw.out.size _
      have H3 := Lib.hid hW3
      rw [hW3] at HFt
      have HB3 := Lib.hid hb3
      clear hW3 hb3 hb hq0 hcw hnm
      go_wp2_with fail
      rw [H3.out]
      go_loopw [9] (fun i wr => ∃ m : Nat, m ≤ 4 ∧ i = .int .i64 m ∧ Below W3.heap.size W3 wr) (fun i _ => 4 - (intOf i).toNat)
      case atStart => exact ⟨0, Nat.zero_le _, rfl, Below.refl _ _⟩
      case round =>
        obtain ⟨m, hm2, rfl, hb⟩ := hrel
        have hcw := fun W : Later wr => HP.out W.val ((HB3.out.trans (hb.mono HB3.out.size)).trans (W.h.mono (HB3.out.trans (hb.mono HB3.out.size)).size))
        have huw := fun W : Later wr => HU.out W.val ((HB3.out.trans (hb.mono HB3.out.size)).trans (W.h.mono (HB3.out.trans (hb.mono HB3.out.size)).size))
        by_cases hlt3 : m < 4
        · skip
          have hfc := fun (W : Later wr) => HFt.out m (by omega) W.val (hb.trans (W.h.mono hb.size))
          obtain ⟨sn, hsn⟩ : ∃ sn : ByteArray, (⟨(ftL m).toArray⟩ : ByteArray) = sn := ⟨_, rfl⟩
          rw [hsn] at hfc
          have t2 : (su.toList == sn.toList) = false := by
            rw [ByteArray.toList_eq, ByteArray.toList_eq, HUU.out, show sn.data.toList = ftL m by rw [← hsn]]
            exact beq_eq_false_iff_ne.2 (hno m hlt3)
          clear hsn
          have HBm := Lib.hid hb
          clear hb
          go_wp2_with fail
          refine wp_region_later (by kernel_rfl) (by kernel_rfl) ?_
          repeat (go_big_quiet_step (fail))
          refine wpQuiet_nil ?_
          rintro W1 ⟨⟨W2, hW⟩, rfl⟩
          go_wp2_with fail
          go_roundw
          case rel => exact ⟨m + 1, by omega, by go_num, HBm.out.trans (hW.mono HBm.out.size)⟩
          case measure => simp [intOf]; omega
        · obtain rfl : m = 4 := by omega
          have HBm := Lib.hid (HB3.out.trans (hb.mono HB3.out.size))
          clear hb
          go_wp2_with fail
          refine bodyPost_ret (v := .tuple #[.int .i64 0, .int .i64 0, .int .i64 0, .int .i64 0]) (by simp [results, Tryd.results41, go_sem]) rfl ?_
          exact ⟨rfl, HBm.out⟩
set_option maxHeartbeats 1600000 in
set_option maxRecDepth 100000 in
theorem shape_f0 (v : List UInt8) (sv : ByteArray) (hv : sv.data.toList = v) (blk off n c : Nat) (h1 : 0 < n) (w : World) (p0 : w.cell? ⟨blk, off, none⟩ = some (.string sv)) (hnm : ∀ m, 1 ≤ m → m < 9 → ¬ (nmL m ≠ [] ∧ v = nmL m)) (hf : v = wFate) (hn2 : 1 < n) (u : List UInt8) (su : ByteArray) (hu : su.data.toList = u) (p1 : w.cell? ⟨blk, off + 1, none⟩ = some (.string su)) (hno : ∀ m, m < 0 → u ≠ ftL m) (hyes : u = ftL 0) :
    Calls Tryd.prog 41 #[.slice (some ⟨blk, off, none⟩) n c] w (ShapePost 3 0 2 1 w) := by
  have HV := Lib.hid hv
  have s1 : (sv.toList == [102, 97, 116, 101]) = true := by
    rw [ByteArray.toList_eq, hv]; exact beq_iff_eq.2 hf
  clear hf
  have hlt1 := World.block_lt_of_cell? _ _ p1
  simp only at hlt1
  have HU : Hid (∀ W, Below w.heap.size w W → W.cell? ⟨blk, off + 1, none⟩ = some (.string su)) := fun W hW => (hW.cell (p := ⟨blk, off + 1, none⟩) hlt1).trans p1
  have HUU := Lib.hid hu
  have g2 : decide ((1 : Int) < (n : Int)) = true := decide_eq_true (by omega)
  have g3 : decide (1 < n) = true := decide_eq_true hn2
  clear p1 hu hlt1
  clear hv
  have hlt := World.block_lt_of_cell? _ _ p0
  simp only at hlt
  have HP : Hid (∀ W, Below w.heap.size w W → W.cell? ⟨blk, off, none⟩ = some (.string sv)) := fun W hW => (hW.cell (p := ⟨blk, off, none⟩) hlt).trans p0
  have HN := Lib.hid (names_at w)
  obtain ⟨W0, hW0⟩ : ∃ W0, w.alloc (.cells #[.string ⟨#[]⟩, .string ⟨#[116, 105, 99, 107]⟩, .string ⟨#[100, 114, 105, 102, 116]⟩, .string ⟨#[]⟩, .string ⟨#[99, 114, 97, 115, 104]⟩, .string ⟨#[114, 101, 115, 116, 97, 114, 116]⟩, .string ⟨#[115, 101, 110, 100]⟩, .string ⟨#[106, 111, 105, 110]⟩, .string ⟨#[108, 101, 97, 118, 101]⟩] 9) = W0 := ⟨_, rfl⟩
  have hb0 : Below w.heap.size w W0 := hW0 ▸ (Below.refl _ _).alloc (Nat.le_refl _) _
  have HW := Lib.hid hW0
  rw [hW0] at HN
  have HB := Lib.hid hb0
  clear hW0 hb0 p0
  go_enter Tryd.func41, Tryd.ntmps41
  go_wp2_with fail
  rw [HW.out]
  go_loopw [7] (fun i wr => ∃ m : Nat, 1 ≤ m ∧ m ≤ 9 ∧ i = .int .i64 m ∧ Below W0.heap.size W0 wr) (fun i _ => 9 - (intOf i).toNat)
  case atStart => exact ⟨1, Nat.le_refl _, by omega, rfl, Below.refl _ _⟩
  case round =>
    obtain ⟨m, hm1, hm2, rfl, hb⟩ := hrel
    have hq0 := HP.out wr (HB.out.trans (hb.mono HB.out.size))
    have hcw := fun W : Later wr => HP.out W.val ((HB.out.trans (hb.mono HB.out.size)).trans (W.h.mono (HB.out.trans (hb.mono HB.out.size)).size))
    by_cases hlt2 : m < 9
    · skip
      have hnc := fun (W : Later wr) => HN.out m (by omega) W.val (hb.trans (W.h.mono hb.size))
      obtain ⟨sn, hsn⟩ : ∃ sn : ByteArray, (⟨(nmL m).toArray⟩ : ByteArray) = sn := ⟨_, rfl⟩
      rw [hsn] at hnc
      obtain ⟨t1, t2⟩ := nm_test v m sv sn HV.out (by rw [← hsn])
      have hno := hnm m hm1 (by omega)
      have t3 : (nmL m == []) = true ∨ ((nmL m == []) = false ∧ (v == nmL m) = false) := by
        by_cases e : nmL m = []
        · exact .inl (by rw [e]; rfl)
        · refine .inr ⟨beq_eq_false_iff_ne.2 e, beq_eq_false_iff_ne.2 (fun e2 => hno ⟨e, e2⟩)⟩
      have HBw := Lib.hid hb
      clear hsn hno hb
      rcases t3 with t3 | ⟨t3, t4⟩
      · rw [t3] at t1
        clear t2 t3
        go_wp2_with fail
        refine wp_region_later (by kernel_rfl) (by kernel_rfl) ?_
        repeat (go_big_quiet_step (fail))
        refine wpQuiet_nil ?_
        rintro W1 ⟨⟨W2, hW⟩, rfl⟩
        go_wp2_with fail
        go_roundw
        case rel => exact ⟨m + 1, by omega, by omega, by go_num, HBw.out.trans (hW.mono HBw.out.size)⟩
        case measure => simp [intOf]; omega
      · rw [t3] at t1
        rw [t4] at t2
        clear t3 t4
        go_wp2_with fail
        refine wp_region_later (by kernel_rfl) (by kernel_rfl) ?_
        repeat (go_big_quiet_step (fail))
        refine wpQuiet_nil ?_
        rintro W1 ⟨⟨W2, hW⟩, rfl⟩
        go_wp2_with fail
        go_roundw
        case rel => exact ⟨m + 1, by omega, by omega, by go_num, HBw.out.trans (hW.mono HBw.out.size)⟩
        case measure => simp [intOf]; omega
    · obtain rfl : m = 9 := by omega
      have HBw := Lib.hid (HB.out.trans (hb.mono HB.out.size))
      have HFt := Lib.hid (fates_at wr)
      obtain ⟨W3, hW3⟩ : ∃ W3, wr.alloc (.cells #[.string ⟨#[103, 111]⟩, .string ⟨#[100, 114, 111, 112]⟩, .string ⟨#[116, 119, 105, 110]⟩, .string ⟨#[98, 101, 110, 100]⟩] 9) = W3 := ⟨_, rfl⟩
      have hb3 : Below w.heap.size w W3 := hW3 ▸ HBw.out.alloc HBw.out.size _
      have H3 := Lib.hid hW3
      rw [hW3] at HFt
      have HB3 := Lib.hid hb3
      clear hW3 hb3 hb hq0 hcw hnm
      go_wp2_with fail
      rw [H3.out]
      go_loopw [9] (fun i wr => ∃ m : Nat, m ≤ 0 ∧ i = .int .i64 m ∧ Below W3.heap.size W3 wr) (fun i _ => 4 - (intOf i).toNat)
      case atStart => exact ⟨0, Nat.zero_le _, rfl, Below.refl _ _⟩
      case round =>
        obtain ⟨m, hm2, rfl, hb⟩ := hrel
        have hcw := fun W : Later wr => HP.out W.val ((HB3.out.trans (hb.mono HB3.out.size)).trans (W.h.mono (HB3.out.trans (hb.mono HB3.out.size)).size))
        have huw := fun W : Later wr => HU.out W.val ((HB3.out.trans (hb.mono HB3.out.size)).trans (W.h.mono (HB3.out.trans (hb.mono HB3.out.size)).size))
        · skip
          obtain rfl : m = 0 := by omega
          have hfc := fun (W : Later wr) => HFt.out 0 (by omega) W.val (hb.trans (W.h.mono hb.size))
          obtain ⟨sn, hsn⟩ : ∃ sn : ByteArray, (⟨(ftL 0).toArray⟩ : ByteArray) = sn := ⟨_, rfl⟩
          rw [hsn] at hfc
          have t2 : (su.toList == sn.toList) = true := by
            rw [ByteArray.toList_eq, ByteArray.toList_eq, HUU.out, show sn.data.toList = ftL 0 by rw [← hsn]]
            exact beq_iff_eq.2 hyes
          clear hsn
          have HBm := Lib.hid (HB3.out.trans (hb.mono HB3.out.size))
          clear hb
          go_wp2_with fail
          refine wp_region_later (by kernel_rfl) (by kernel_rfl) ?_
          repeat (go_big_quiet_step (fail))
          refine wpQuiet_nil ?_
          rintro W1 ⟨⟨W2, hW⟩, rfl⟩
          have HB4 := Lib.hid (HBm.out.trans (hW.mono HBm.out.size))
          go_wp2_with fail
          go_big_region
          go_wp2_with fail
          refine bodyPost_ret (v := .tuple #[.int .i64 3, .int .i64 0, .int .i64 2, .int .i64 1]) (by simp [results, Tryd.results41, go_sem]) rfl ?_
          refine ⟨rfl, ?_⟩
          · skip
            repeat (first | with_reducible refine Below.drew ?_ | with_reducible refine below_drewN ?_ _ | with_reducible refine Below.alloc ?_ (HB4.out.size) _)
            exact HB4.out
set_option maxHeartbeats 1600000 in
set_option maxRecDepth 100000 in
theorem shape_f1 (v : List UInt8) (sv : ByteArray) (hv : sv.data.toList = v) (blk off n c : Nat) (h1 : 0 < n) (w : World) (p0 : w.cell? ⟨blk, off, none⟩ = some (.string sv)) (hnm : ∀ m, 1 ≤ m → m < 9 → ¬ (nmL m ≠ [] ∧ v = nmL m)) (hf : v = wFate) (hn2 : 1 < n) (u : List UInt8) (su : ByteArray) (hu : su.data.toList = u) (p1 : w.cell? ⟨blk, off + 1, none⟩ = some (.string su)) (hno : ∀ m, m < 1 → u ≠ ftL m) (hyes : u = ftL 1) :
    Calls Tryd.prog 41 #[.slice (some ⟨blk, off, none⟩) n c] w (ShapePost 3 1 2 0 w) := by
  have HV := Lib.hid hv
  have s1 : (sv.toList == [102, 97, 116, 101]) = true := by
    rw [ByteArray.toList_eq, hv]; exact beq_iff_eq.2 hf
  clear hf
  have hlt1 := World.block_lt_of_cell? _ _ p1
  simp only at hlt1
  have HU : Hid (∀ W, Below w.heap.size w W → W.cell? ⟨blk, off + 1, none⟩ = some (.string su)) := fun W hW => (hW.cell (p := ⟨blk, off + 1, none⟩) hlt1).trans p1
  have HUU := Lib.hid hu
  have g2 : decide ((1 : Int) < (n : Int)) = true := decide_eq_true (by omega)
  have g3 : decide (1 < n) = true := decide_eq_true hn2
  clear p1 hu hlt1
  clear hv
  have hlt := World.block_lt_of_cell? _ _ p0
  simp only at hlt
  have HP : Hid (∀ W, Below w.heap.size w W → W.cell? ⟨blk, off, none⟩ = some (.string sv)) := fun W hW => (hW.cell (p := ⟨blk, off, none⟩) hlt).trans p0
  have HN := Lib.hid (names_at w)
  obtain ⟨W0, hW0⟩ : ∃ W0, w.alloc (.cells #[.string ⟨#[]⟩, .string ⟨#[116, 105, 99, 107]⟩, .string ⟨#[100, 114, 105, 102, 116]⟩, .string ⟨#[]⟩, .string ⟨#[99, 114, 97, 115, 104]⟩, .string ⟨#[114, 101, 115, 116, 97, 114, 116]⟩, .string ⟨#[115, 101, 110, 100]⟩, .string ⟨#[106, 111, 105, 110]⟩, .string ⟨#[108, 101, 97, 118, 101]⟩] 9) = W0 := ⟨_, rfl⟩
  have hb0 : Below w.heap.size w W0 := hW0 ▸ (Below.refl _ _).alloc (Nat.le_refl _) _
  have HW := Lib.hid hW0
  rw [hW0] at HN
  have HB := Lib.hid hb0
  clear hW0 hb0 p0
  go_enter Tryd.func41, Tryd.ntmps41
  go_wp2_with fail
  rw [HW.out]
  go_loopw [7] (fun i wr => ∃ m : Nat, 1 ≤ m ∧ m ≤ 9 ∧ i = .int .i64 m ∧ Below W0.heap.size W0 wr) (fun i _ => 9 - (intOf i).toNat)
  case atStart => exact ⟨1, Nat.le_refl _, by omega, rfl, Below.refl _ _⟩
  case round =>
    obtain ⟨m, hm1, hm2, rfl, hb⟩ := hrel
    have hq0 := HP.out wr (HB.out.trans (hb.mono HB.out.size))
    have hcw := fun W : Later wr => HP.out W.val ((HB.out.trans (hb.mono HB.out.size)).trans (W.h.mono (HB.out.trans (hb.mono HB.out.size)).size))
    by_cases hlt2 : m < 9
    · skip
      have hnc := fun (W : Later wr) => HN.out m (by omega) W.val (hb.trans (W.h.mono hb.size))
      obtain ⟨sn, hsn⟩ : ∃ sn : ByteArray, (⟨(nmL m).toArray⟩ : ByteArray) = sn := ⟨_, rfl⟩
      rw [hsn] at hnc
      obtain ⟨t1, t2⟩ := nm_test v m sv sn HV.out (by rw [← hsn])
      have hno := hnm m hm1 (by omega)
      have t3 : (nmL m == []) = true ∨ ((nmL m == []) = false ∧ (v == nmL m) = false) := by
        by_cases e : nmL m = []
        · exact .inl (by rw [e]; rfl)
        · refine .inr ⟨beq_eq_false_iff_ne.2 e, beq_eq_false_iff_ne.2 (fun e2 => hno ⟨e, e2⟩)⟩
      have HBw := Lib.hid hb
      clear hsn hno hb
      rcases t3 with t3 | ⟨t3, t4⟩
      · rw [t3] at t1
        clear t2 t3
        go_wp2_with fail
        refine wp_region_later (by kernel_rfl) (by kernel_rfl) ?_
        repeat (go_big_quiet_step (fail))
        refine wpQuiet_nil ?_
        rintro W1 ⟨⟨W2, hW⟩, rfl⟩
        go_wp2_with fail
        go_roundw
        case rel => exact ⟨m + 1, by omega, by omega, by go_num, HBw.out.trans (hW.mono HBw.out.size)⟩
        case measure => simp [intOf]; omega
      · rw [t3] at t1
        rw [t4] at t2
        clear t3 t4
        go_wp2_with fail
        refine wp_region_later (by kernel_rfl) (by kernel_rfl) ?_
        repeat (go_big_quiet_step (fail))
        refine wpQuiet_nil ?_
        rintro W1 ⟨⟨W2, hW⟩, rfl⟩
        go_wp2_with fail
        go_roundw
        case rel => exact ⟨m + 1, by omega, by omega, by go_num, HBw.out.trans (hW.mono HBw.out.size)⟩
        case measure => simp [intOf]; omega
    · obtain rfl : m = 9 := by omega
      have HBw := Lib.hid (HB.out.trans (hb.mono HB.out.size))
      have HFt := Lib.hid (fates_at wr)
      obtain ⟨W3, hW3⟩ : ∃ W3, wr.alloc (.cells #[.string ⟨#[103, 111]⟩, .string ⟨#[100, 114, 111, 112]⟩, .string ⟨#[116, 119, 105, 110]⟩, .string ⟨#[98, 101, 110, 100]⟩] 9) = W3 := ⟨_, rfl⟩
      have hb3 : Below w.heap.size w W3 := hW3 ▸ HBw.out.alloc HBw.out.size _
      have H3 := Lib.hid hW3
      rw [hW3] at HFt
      have HB3 := Lib.hid hb3
      clear hW3 hb3 hb hq0 hcw hnm
      go_wp2_with fail
      rw [H3.out]
      go_loopw [9] (fun i wr => ∃ m : Nat, m ≤ 1 ∧ i = .int .i64 m ∧ Below W3.heap.size W3 wr) (fun i _ => 4 - (intOf i).toNat)
      case atStart => exact ⟨0, Nat.zero_le _, rfl, Below.refl _ _⟩
      case round =>
        obtain ⟨m, hm2, rfl, hb⟩ := hrel
        have hcw := fun W : Later wr => HP.out W.val ((HB3.out.trans (hb.mono HB3.out.size)).trans (W.h.mono (HB3.out.trans (hb.mono HB3.out.size)).size))
        have huw := fun W : Later wr => HU.out W.val ((HB3.out.trans (hb.mono HB3.out.size)).trans (W.h.mono (HB3.out.trans (hb.mono HB3.out.size)).size))
        by_cases hlt3 : m < 1
        · skip
          have hfc := fun (W : Later wr) => HFt.out m (by omega) W.val (hb.trans (W.h.mono hb.size))
          obtain ⟨sn, hsn⟩ : ∃ sn : ByteArray, (⟨(ftL m).toArray⟩ : ByteArray) = sn := ⟨_, rfl⟩
          rw [hsn] at hfc
          have t2 : (su.toList == sn.toList) = false := by
            rw [ByteArray.toList_eq, ByteArray.toList_eq, HUU.out, show sn.data.toList = ftL m by rw [← hsn]]
            exact beq_eq_false_iff_ne.2 (hno m hlt3)
          clear hsn
          have HBm := Lib.hid hb
          clear hb
          go_wp2_with fail
          refine wp_region_later (by kernel_rfl) (by kernel_rfl) ?_
          repeat (go_big_quiet_step (fail))
          refine wpQuiet_nil ?_
          rintro W1 ⟨⟨W2, hW⟩, rfl⟩
          go_wp2_with fail
          go_roundw
          case rel => exact ⟨m + 1, by omega, by go_num, HBm.out.trans (hW.mono HBm.out.size)⟩
          case measure => simp [intOf]; omega
        · skip
          obtain rfl : m = 1 := by omega
          have hfc := fun (W : Later wr) => HFt.out 1 (by omega) W.val (hb.trans (W.h.mono hb.size))
          obtain ⟨sn, hsn⟩ : ∃ sn : ByteArray, (⟨(ftL 1).toArray⟩ : ByteArray) = sn := ⟨_, rfl⟩
          rw [hsn] at hfc
          have t2 : (su.toList == sn.toList) = true := by
            rw [ByteArray.toList_eq, ByteArray.toList_eq, HUU.out, show sn.data.toList = ftL 1 by rw [← hsn]]
            exact beq_iff_eq.2 hyes
          clear hsn
          have HBm := Lib.hid (HB3.out.trans (hb.mono HB3.out.size))
          clear hb
          go_wp2_with fail
          refine wp_region_later (by kernel_rfl) (by kernel_rfl) ?_
          repeat (go_big_quiet_step (fail))
          refine wpQuiet_nil ?_
          rintro W1 ⟨⟨W2, hW⟩, rfl⟩
          have HB4 := Lib.hid (HBm.out.trans (hW.mono HBm.out.size))
          go_wp2_with fail
          go_big_region
          go_wp2_with fail
          refine bodyPost_ret (v := .tuple #[.int .i64 3, .int .i64 1, .int .i64 2, .int .i64 0]) (by simp [results, Tryd.results41, go_sem]) rfl ?_
          refine ⟨rfl, ?_⟩
          · skip
            repeat (first | with_reducible refine Below.drew ?_ | with_reducible refine below_drewN ?_ _ | with_reducible refine Below.alloc ?_ (HB4.out.size) _)
            exact HB4.out
set_option maxHeartbeats 1600000 in
set_option maxRecDepth 100000 in
theorem shape_f2 (v : List UInt8) (sv : ByteArray) (hv : sv.data.toList = v) (blk off n c : Nat) (h1 : 0 < n) (w : World) (p0 : w.cell? ⟨blk, off, none⟩ = some (.string sv)) (hnm : ∀ m, 1 ≤ m → m < 9 → ¬ (nmL m ≠ [] ∧ v = nmL m)) (hf : v = wFate) (hn2 : 1 < n) (u : List UInt8) (su : ByteArray) (hu : su.data.toList = u) (p1 : w.cell? ⟨blk, off + 1, none⟩ = some (.string su)) (hno : ∀ m, m < 2 → u ≠ ftL m) (hyes : u = ftL 2) :
    Calls Tryd.prog 41 #[.slice (some ⟨blk, off, none⟩) n c] w (ShapePost 3 2 2 2 w) := by
  have HV := Lib.hid hv
  have s1 : (sv.toList == [102, 97, 116, 101]) = true := by
    rw [ByteArray.toList_eq, hv]; exact beq_iff_eq.2 hf
  clear hf
  have hlt1 := World.block_lt_of_cell? _ _ p1
  simp only at hlt1
  have HU : Hid (∀ W, Below w.heap.size w W → W.cell? ⟨blk, off + 1, none⟩ = some (.string su)) := fun W hW => (hW.cell (p := ⟨blk, off + 1, none⟩) hlt1).trans p1
  have HUU := Lib.hid hu
  have g2 : decide ((1 : Int) < (n : Int)) = true := decide_eq_true (by omega)
  have g3 : decide (1 < n) = true := decide_eq_true hn2
  clear p1 hu hlt1
  clear hv
  have hlt := World.block_lt_of_cell? _ _ p0
  simp only at hlt
  have HP : Hid (∀ W, Below w.heap.size w W → W.cell? ⟨blk, off, none⟩ = some (.string sv)) := fun W hW => (hW.cell (p := ⟨blk, off, none⟩) hlt).trans p0
  have HN := Lib.hid (names_at w)
  obtain ⟨W0, hW0⟩ : ∃ W0, w.alloc (.cells #[.string ⟨#[]⟩, .string ⟨#[116, 105, 99, 107]⟩, .string ⟨#[100, 114, 105, 102, 116]⟩, .string ⟨#[]⟩, .string ⟨#[99, 114, 97, 115, 104]⟩, .string ⟨#[114, 101, 115, 116, 97, 114, 116]⟩, .string ⟨#[115, 101, 110, 100]⟩, .string ⟨#[106, 111, 105, 110]⟩, .string ⟨#[108, 101, 97, 118, 101]⟩] 9) = W0 := ⟨_, rfl⟩
  have hb0 : Below w.heap.size w W0 := hW0 ▸ (Below.refl _ _).alloc (Nat.le_refl _) _
  have HW := Lib.hid hW0
  rw [hW0] at HN
  have HB := Lib.hid hb0
  clear hW0 hb0 p0
  go_enter Tryd.func41, Tryd.ntmps41
  go_wp2_with fail
  rw [HW.out]
  go_loopw [7] (fun i wr => ∃ m : Nat, 1 ≤ m ∧ m ≤ 9 ∧ i = .int .i64 m ∧ Below W0.heap.size W0 wr) (fun i _ => 9 - (intOf i).toNat)
  case atStart => exact ⟨1, Nat.le_refl _, by omega, rfl, Below.refl _ _⟩
  case round =>
    obtain ⟨m, hm1, hm2, rfl, hb⟩ := hrel
    have hq0 := HP.out wr (HB.out.trans (hb.mono HB.out.size))
    have hcw := fun W : Later wr => HP.out W.val ((HB.out.trans (hb.mono HB.out.size)).trans (W.h.mono (HB.out.trans (hb.mono HB.out.size)).size))
    by_cases hlt2 : m < 9
    · skip
      have hnc := fun (W : Later wr) => HN.out m (by omega) W.val (hb.trans (W.h.mono hb.size))
      obtain ⟨sn, hsn⟩ : ∃ sn : ByteArray, (⟨(nmL m).toArray⟩ : ByteArray) = sn := ⟨_, rfl⟩
      rw [hsn] at hnc
      obtain ⟨t1, t2⟩ := nm_test v m sv sn HV.out (by rw [← hsn])
      have hno := hnm m hm1 (by omega)
      have t3 : (nmL m == []) = true ∨ ((nmL m == []) = false ∧ (v == nmL m) = false) := by
        by_cases e : nmL m = []
        · exact .inl (by rw [e]; rfl)
        · refine .inr ⟨beq_eq_false_iff_ne.2 e, beq_eq_false_iff_ne.2 (fun e2 => hno ⟨e, e2⟩)⟩
      have HBw := Lib.hid hb
      clear hsn hno hb
      rcases t3 with t3 | ⟨t3, t4⟩
      · rw [t3] at t1
        clear t2 t3
        go_wp2_with fail
        refine wp_region_later (by kernel_rfl) (by kernel_rfl) ?_
        repeat (go_big_quiet_step (fail))
        refine wpQuiet_nil ?_
        rintro W1 ⟨⟨W2, hW⟩, rfl⟩
        go_wp2_with fail
        go_roundw
        case rel => exact ⟨m + 1, by omega, by omega, by go_num, HBw.out.trans (hW.mono HBw.out.size)⟩
        case measure => simp [intOf]; omega
      · rw [t3] at t1
        rw [t4] at t2
        clear t3 t4
        go_wp2_with fail
        refine wp_region_later (by kernel_rfl) (by kernel_rfl) ?_
        repeat (go_big_quiet_step (fail))
        refine wpQuiet_nil ?_
        rintro W1 ⟨⟨W2, hW⟩, rfl⟩
        go_wp2_with fail
        go_roundw
        case rel => exact ⟨m + 1, by omega, by omega, by go_num, HBw.out.trans (hW.mono HBw.out.size)⟩
        case measure => simp [intOf]; omega
    · obtain rfl : m = 9 := by omega
      have HBw := Lib.hid (HB.out.trans (hb.mono HB.out.size))
      have HFt := Lib.hid (fates_at wr)
      obtain ⟨W3, hW3⟩ : ∃ W3, wr.alloc (.cells #[.string ⟨#[103, 111]⟩, .string ⟨#[100, 114, 111, 112]⟩, .string ⟨#[116, 119, 105, 110]⟩, .string ⟨#[98, 101, 110, 100]⟩] 9) = W3 := ⟨_, rfl⟩
      have hb3 : Below w.heap.size w W3 := hW3 ▸ HBw.out.alloc HBw.out.size _
      have H3 := Lib.hid hW3
      rw [hW3] at HFt
      have HB3 := Lib.hid hb3
      clear hW3 hb3 hb hq0 hcw hnm
      go_wp2_with fail
      rw [H3.out]
      go_loopw [9] (fun i wr => ∃ m : Nat, m ≤ 2 ∧ i = .int .i64 m ∧ Below W3.heap.size W3 wr) (fun i _ => 4 - (intOf i).toNat)
      case atStart => exact ⟨0, Nat.zero_le _, rfl, Below.refl _ _⟩
      case round =>
        obtain ⟨m, hm2, rfl, hb⟩ := hrel
        have hcw := fun W : Later wr => HP.out W.val ((HB3.out.trans (hb.mono HB3.out.size)).trans (W.h.mono (HB3.out.trans (hb.mono HB3.out.size)).size))
        have huw := fun W : Later wr => HU.out W.val ((HB3.out.trans (hb.mono HB3.out.size)).trans (W.h.mono (HB3.out.trans (hb.mono HB3.out.size)).size))
        by_cases hlt3 : m < 2
        · skip
          have hfc := fun (W : Later wr) => HFt.out m (by omega) W.val (hb.trans (W.h.mono hb.size))
          obtain ⟨sn, hsn⟩ : ∃ sn : ByteArray, (⟨(ftL m).toArray⟩ : ByteArray) = sn := ⟨_, rfl⟩
          rw [hsn] at hfc
          have t2 : (su.toList == sn.toList) = false := by
            rw [ByteArray.toList_eq, ByteArray.toList_eq, HUU.out, show sn.data.toList = ftL m by rw [← hsn]]
            exact beq_eq_false_iff_ne.2 (hno m hlt3)
          clear hsn
          have HBm := Lib.hid hb
          clear hb
          go_wp2_with fail
          refine wp_region_later (by kernel_rfl) (by kernel_rfl) ?_
          repeat (go_big_quiet_step (fail))
          refine wpQuiet_nil ?_
          rintro W1 ⟨⟨W2, hW⟩, rfl⟩
          go_wp2_with fail
          go_roundw
          case rel => exact ⟨m + 1, by omega, by go_num, HBm.out.trans (hW.mono HBm.out.size)⟩
          case measure => simp [intOf]; omega
        · skip
          obtain rfl : m = 2 := by omega
          have hfc := fun (W : Later wr) => HFt.out 2 (by omega) W.val (hb.trans (W.h.mono hb.size))
          obtain ⟨sn, hsn⟩ : ∃ sn : ByteArray, (⟨(ftL 2).toArray⟩ : ByteArray) = sn := ⟨_, rfl⟩
          rw [hsn] at hfc
          have t2 : (su.toList == sn.toList) = true := by
            rw [ByteArray.toList_eq, ByteArray.toList_eq, HUU.out, show sn.data.toList = ftL 2 by rw [← hsn]]
            exact beq_iff_eq.2 hyes
          clear hsn
          have HBm := Lib.hid (HB3.out.trans (hb.mono HB3.out.size))
          clear hb
          go_wp2_with fail
          refine wp_region_later (by kernel_rfl) (by kernel_rfl) ?_
          repeat (go_big_quiet_step (fail))
          refine wpQuiet_nil ?_
          rintro W1 ⟨⟨W2, hW⟩, rfl⟩
          have HB4 := Lib.hid (HBm.out.trans (hW.mono HBm.out.size))
          go_wp2_with fail
          go_big_region
          go_wp2_with fail
          refine bodyPost_ret (v := .tuple #[.int .i64 3, .int .i64 2, .int .i64 2, .int .i64 2]) (by simp [results, Tryd.results41, go_sem]) rfl ?_
          refine ⟨rfl, ?_⟩
          · skip
            repeat (first | with_reducible refine Below.drew ?_ | with_reducible refine below_drewN ?_ _ | with_reducible refine Below.alloc ?_ (HB4.out.size) _)
            exact HB4.out
set_option maxHeartbeats 1600000 in
set_option maxRecDepth 100000 in
theorem shape_f3 (v : List UInt8) (sv : ByteArray) (hv : sv.data.toList = v) (blk off n c : Nat) (h1 : 0 < n) (w : World) (p0 : w.cell? ⟨blk, off, none⟩ = some (.string sv)) (hnm : ∀ m, 1 ≤ m → m < 9 → ¬ (nmL m ≠ [] ∧ v = nmL m)) (hf : v = wFate) (hn2 : 1 < n) (u : List UInt8) (su : ByteArray) (hu : su.data.toList = u) (p1 : w.cell? ⟨blk, off + 1, none⟩ = some (.string su)) (hno : ∀ m, m < 3 → u ≠ ftL m) (hyes : u = ftL 3) :
    Calls Tryd.prog 41 #[.slice (some ⟨blk, off, none⟩) n c] w (ShapePost 3 3 2 3 w) := by
  have HV := Lib.hid hv
  have s1 : (sv.toList == [102, 97, 116, 101]) = true := by
    rw [ByteArray.toList_eq, hv]; exact beq_iff_eq.2 hf
  clear hf
  have hlt1 := World.block_lt_of_cell? _ _ p1
  simp only at hlt1
  have HU : Hid (∀ W, Below w.heap.size w W → W.cell? ⟨blk, off + 1, none⟩ = some (.string su)) := fun W hW => (hW.cell (p := ⟨blk, off + 1, none⟩) hlt1).trans p1
  have HUU := Lib.hid hu
  have g2 : decide ((1 : Int) < (n : Int)) = true := decide_eq_true (by omega)
  have g3 : decide (1 < n) = true := decide_eq_true hn2
  clear p1 hu hlt1
  clear hv
  have hlt := World.block_lt_of_cell? _ _ p0
  simp only at hlt
  have HP : Hid (∀ W, Below w.heap.size w W → W.cell? ⟨blk, off, none⟩ = some (.string sv)) := fun W hW => (hW.cell (p := ⟨blk, off, none⟩) hlt).trans p0
  have HN := Lib.hid (names_at w)
  obtain ⟨W0, hW0⟩ : ∃ W0, w.alloc (.cells #[.string ⟨#[]⟩, .string ⟨#[116, 105, 99, 107]⟩, .string ⟨#[100, 114, 105, 102, 116]⟩, .string ⟨#[]⟩, .string ⟨#[99, 114, 97, 115, 104]⟩, .string ⟨#[114, 101, 115, 116, 97, 114, 116]⟩, .string ⟨#[115, 101, 110, 100]⟩, .string ⟨#[106, 111, 105, 110]⟩, .string ⟨#[108, 101, 97, 118, 101]⟩] 9) = W0 := ⟨_, rfl⟩
  have hb0 : Below w.heap.size w W0 := hW0 ▸ (Below.refl _ _).alloc (Nat.le_refl _) _
  have HW := Lib.hid hW0
  rw [hW0] at HN
  have HB := Lib.hid hb0
  clear hW0 hb0 p0
  go_enter Tryd.func41, Tryd.ntmps41
  go_wp2_with fail
  rw [HW.out]
  go_loopw [7] (fun i wr => ∃ m : Nat, 1 ≤ m ∧ m ≤ 9 ∧ i = .int .i64 m ∧ Below W0.heap.size W0 wr) (fun i _ => 9 - (intOf i).toNat)
  case atStart => exact ⟨1, Nat.le_refl _, by omega, rfl, Below.refl _ _⟩
  case round =>
    obtain ⟨m, hm1, hm2, rfl, hb⟩ := hrel
    have hq0 := HP.out wr (HB.out.trans (hb.mono HB.out.size))
    have hcw := fun W : Later wr => HP.out W.val ((HB.out.trans (hb.mono HB.out.size)).trans (W.h.mono (HB.out.trans (hb.mono HB.out.size)).size))
    by_cases hlt2 : m < 9
    · skip
      have hnc := fun (W : Later wr) => HN.out m (by omega) W.val (hb.trans (W.h.mono hb.size))
      obtain ⟨sn, hsn⟩ : ∃ sn : ByteArray, (⟨(nmL m).toArray⟩ : ByteArray) = sn := ⟨_, rfl⟩
      rw [hsn] at hnc
      obtain ⟨t1, t2⟩ := nm_test v m sv sn HV.out (by rw [← hsn])
      have hno := hnm m hm1 (by omega)
      have t3 : (nmL m == []) = true ∨ ((nmL m == []) = false ∧ (v == nmL m) = false) := by
        by_cases e : nmL m = []
        · exact .inl (by rw [e]; rfl)
        · refine .inr ⟨beq_eq_false_iff_ne.2 e, beq_eq_false_iff_ne.2 (fun e2 => hno ⟨e, e2⟩)⟩
      have HBw := Lib.hid hb
      clear hsn hno hb
      rcases t3 with t3 | ⟨t3, t4⟩
      · rw [t3] at t1
        clear t2 t3
        go_wp2_with fail
        refine wp_region_later (by kernel_rfl) (by kernel_rfl) ?_
        repeat (go_big_quiet_step (fail))
        refine wpQuiet_nil ?_
        rintro W1 ⟨⟨W2, hW⟩, rfl⟩
        go_wp2_with fail
        go_roundw
        case rel => exact ⟨m + 1, by omega, by omega, by go_num, HBw.out.trans (hW.mono HBw.out.size)⟩
        case measure => simp [intOf]; omega
      · rw [t3] at t1
        rw [t4] at t2
        clear t3 t4
        go_wp2_with fail
        refine wp_region_later (by kernel_rfl) (by kernel_rfl) ?_
        repeat (go_big_quiet_step (fail))
        refine wpQuiet_nil ?_
        rintro W1 ⟨⟨W2, hW⟩, rfl⟩
        go_wp2_with fail
        go_roundw
        case rel => exact ⟨m + 1, by omega, by omega, by go_num, HBw.out.trans (hW.mono HBw.out.size)⟩
        case measure => simp [intOf]; omega
    · obtain rfl : m = 9 := by omega
      have HBw := Lib.hid (HB.out.trans (hb.mono HB.out.size))
      have HFt := Lib.hid (fates_at wr)
      obtain ⟨W3, hW3⟩ : ∃ W3, wr.alloc (.cells #[.string ⟨#[103, 111]⟩, .string ⟨#[100, 114, 111, 112]⟩, .string ⟨#[116, 119, 105, 110]⟩, .string ⟨#[98, 101, 110, 100]⟩] 9) = W3 := ⟨_, rfl⟩
      have hb3 : Below w.heap.size w W3 := hW3 ▸ HBw.out.alloc HBw.out.size _
      have H3 := Lib.hid hW3
      rw [hW3] at HFt
      have HB3 := Lib.hid hb3
      clear hW3 hb3 hb hq0 hcw hnm
      go_wp2_with fail
      rw [H3.out]
      go_loopw [9] (fun i wr => ∃ m : Nat, m ≤ 3 ∧ i = .int .i64 m ∧ Below W3.heap.size W3 wr) (fun i _ => 4 - (intOf i).toNat)
      case atStart => exact ⟨0, Nat.zero_le _, rfl, Below.refl _ _⟩
      case round =>
        obtain ⟨m, hm2, rfl, hb⟩ := hrel
        have hcw := fun W : Later wr => HP.out W.val ((HB3.out.trans (hb.mono HB3.out.size)).trans (W.h.mono (HB3.out.trans (hb.mono HB3.out.size)).size))
        have huw := fun W : Later wr => HU.out W.val ((HB3.out.trans (hb.mono HB3.out.size)).trans (W.h.mono (HB3.out.trans (hb.mono HB3.out.size)).size))
        by_cases hlt3 : m < 3
        · skip
          have hfc := fun (W : Later wr) => HFt.out m (by omega) W.val (hb.trans (W.h.mono hb.size))
          obtain ⟨sn, hsn⟩ : ∃ sn : ByteArray, (⟨(ftL m).toArray⟩ : ByteArray) = sn := ⟨_, rfl⟩
          rw [hsn] at hfc
          have t2 : (su.toList == sn.toList) = false := by
            rw [ByteArray.toList_eq, ByteArray.toList_eq, HUU.out, show sn.data.toList = ftL m by rw [← hsn]]
            exact beq_eq_false_iff_ne.2 (hno m hlt3)
          clear hsn
          have HBm := Lib.hid hb
          clear hb
          go_wp2_with fail
          refine wp_region_later (by kernel_rfl) (by kernel_rfl) ?_
          repeat (go_big_quiet_step (fail))
          refine wpQuiet_nil ?_
          rintro W1 ⟨⟨W2, hW⟩, rfl⟩
          go_wp2_with fail
          go_roundw
          case rel => exact ⟨m + 1, by omega, by go_num, HBm.out.trans (hW.mono HBm.out.size)⟩
          case measure => simp [intOf]; omega
        · skip
          obtain rfl : m = 3 := by omega
          have hfc := fun (W : Later wr) => HFt.out 3 (by omega) W.val (hb.trans (W.h.mono hb.size))
          obtain ⟨sn, hsn⟩ : ∃ sn : ByteArray, (⟨(ftL 3).toArray⟩ : ByteArray) = sn := ⟨_, rfl⟩
          rw [hsn] at hfc
          have t2 : (su.toList == sn.toList) = true := by
            rw [ByteArray.toList_eq, ByteArray.toList_eq, HUU.out, show sn.data.toList = ftL 3 by rw [← hsn]]
            exact beq_iff_eq.2 hyes
          clear hsn
          have HBm := Lib.hid (HB3.out.trans (hb.mono HB3.out.size))
          clear hb
          go_wp2_with fail
          refine wp_region_later (by kernel_rfl) (by kernel_rfl) ?_
          repeat (go_big_quiet_step (fail))
          refine wpQuiet_nil ?_
          rintro W1 ⟨⟨W2, hW⟩, rfl⟩
          have HB4 := Lib.hid (HBm.out.trans (hW.mono HBm.out.size))
          go_wp2_with fail
          go_big_region
          go_wp2_with fail
          refine bodyPost_ret (v := .tuple #[.int .i64 3, .int .i64 3, .int .i64 2, .int .i64 3]) (by simp [results, Tryd.results41, go_sem]) rfl ?_
          refine ⟨rfl, ?_⟩
          · skip
            repeat (first | with_reducible refine Below.drew ?_ | with_reducible refine below_drewN ?_ _ | with_reducible refine Below.alloc ?_ (HB4.out.size) _)
            exact HB4.out
end Go.Proofs.YtndpdonlombodaaDoor
