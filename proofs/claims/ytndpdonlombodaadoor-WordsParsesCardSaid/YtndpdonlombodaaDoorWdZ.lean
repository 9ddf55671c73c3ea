/- words.fated. -/
import Derived.Test.YtndpdonlombodaaDoorWdY
import Derived.RegionTactic
import Derived.BigRegion
namespace Go.Proofs.YtndpdonlombodaaDoor
open Go.RowKit Law
set_option linter.unusedVariables false
set_option linter.unusedSimpArgs false

theorem str_slice_from (A : Option Addr) (n c k : Nat) (hk : k ≤ n) (W : World) : (Instr.slice 56 (.slice A n c) (some (.int .i64 (k : Int))) none none).run Tryd.prog W = .ok (.slice (if c = k then A else A.map (·.add (k * 1))) (n - k) (c - k)) W := by
  have h1 : (0 : Int) ≤ k ∧ (k : Int) ≤ n := by omega
  simp [Instr.slice, Instr.sliceBounds, Instr.sliceBound, asIntOf, run_underlying Tryd.underlying56, Tryd.sizeOf9, h1, hk, go_sem]
theorem str_slice_upto (A : Option Addr) (n c k : Nat) (hk : k ≤ c) (W : World) : (Instr.slice 56 (.slice A n c) none (some (.int .i64 (k : Int))) none).run Tryd.prog W = .ok (.slice A k c) W := by
  have h1 : (0 : Int) ≤ k ∧ (k : Int) ≤ c := by omega
  simp [Instr.slice, Instr.sliceBounds, Instr.sliceBound, asIntOf, run_underlying Tryd.underlying56, Tryd.sizeOf9, h1, hk, go_sem]
theorem RowAt.drop {w : World} {A : Option Addr} {vs : List Value} (h : RowAt w A vs) (k c : Nat) (hc : vs.length ≤ c) : RowAt w (if c = k then A else A.map (·.add (k * 1))) (vs.drop k) := by
  by_cases hck : c = k
  · have : vs.drop k = [] := List.drop_eq_nil_of_le (by omega)
    rw [this]
    exact RowAt.nil _ _
  · rw [if_neg hck]
    intro i v hv
    rw [List.getElem?_drop] at hv
    obtain ⟨b, off, rfl, hcell⟩ := h (k + i) v hv
    refine ⟨b, off + k, by rw [Option.map_some, Lib.add_plain, Nat.mul_one], ?_⟩
    rw [show off + k + i = off + (k + i) by omega]
    exact hcell
theorem tail_slice {w : World} {A : Option Addr} {ws : List (List UInt8)} (n c : Nat) (hn : ws.length = n) (h1 : 1 ≤ n) (hc : n ≤ c) (h : RowAt w A (strV ws)) :
    ∃ A1, RowAt w A1 (strV ws.tail) ∧ ∀ W, (Instr.slice 56 (.slice A n c) (some (.int .i64 1)) none none).run Tryd.prog W = .ok (.slice A1 (n - 1) (c - 1)) W := by
  refine ⟨_, ?_, str_slice_from A n c 1 h1⟩
  have := h.drop 1 c (by simp [strV]; omega)
  rw [show (strV ws).drop 1 = strV ws.tail by cases ws <;> rfl] at this
  exact this
/-- What fated hands back: a fate, and the error; with no error it is that fate. -/
def FatedPost (o : Fa × Int) (w : World) (e : Ending) (w' : World) : Prop := ∃ f : Fa, e = .returned (.tuple #[.agg f.cells.toArray, .int .i64 o.2]) ∧ (o.2 = 0 → f = o.1) ∧ Below w.heap.size w w'
theorem fatedPost_of {o : Fa × Int} {w w' : World} {e : Ending} (f : Fa) (k : Int) (he : e = .returned (.tuple #[.agg f.cells.toArray, .int .i64 k])) (hk : k = o.2) (hf : o.2 = 0 → f = o.1) (hb : Below w.heap.size w w') : FatedPost o w e w' := by
  subst hk; exact ⟨f, he, hf, hb⟩
theorem fated_nil (A : Option Addr) (c : Nat) (w : World) : Calls Tryd.prog 39 #[.slice A 0 c] w (FatedPost (fatedW []) w) := by
  obtain ⟨hz, hsz⟩ := zero_of_info (show (Tryd.prog.info? 26).map (fun i => (i.zero, i.size)) = some (some (.agg #[.int .i64 0, .int .i64 0, .int .i64 0, .int .u32 0, .int .u32 0]), 5) by kernel_rfl)
  go_enter Tryd.func39, Tryd.ntmps39
  go_wp2
  refine bodyPost_ret (v := .tuple #[.agg #[.int .i64 0, .int .i64 0, .int .i64 0, .int .u32 0, .int .u32 0], .int .i64 19]) (by simp [results, Tryd.results39, go_sem]) rfl ?_
  refine fatedPost_of Fa0 19 rfl rfl (by decide) ?_
  exact (Below.refl _ _).alloc (Nat.le_refl _) _
set_option maxHeartbeats 3200000 in
set_option maxRecDepth 100000 in
theorem fated_none (s : ByteArray) (q0 : (s.toList == [103, 111]) = false) (q1 : (s.toList == [100, 114, 111, 112]) = false) (q2 : (s.toList == [116, 119, 105, 110]) = false) (q3 : (s.toList == [98, 101, 110, 100]) = false) (blk off n c : Nat) (w : World) (h0 : w.cell? ⟨blk, off, none⟩ = some (.string s)) (hn1 : 1 ≤ n) (hn2 : n ≤ 2000000) :
    Calls Tryd.prog 39 #[.slice (some ⟨blk, off, none⟩) n c] w (FatedPost (Fa0, 19) w) := by
  obtain ⟨hz, hsz⟩ := zero_of_info (show (Tryd.prog.info? 26).map (fun i => (i.zero, i.size)) = some (some (.agg #[.int .i64 0, .int .i64 0, .int .i64 0, .int .u32 0, .int .u32 0]), 5) by kernel_rfl)
  have hne0 : (n : Int) ≠ 0 := by omega
  have hni : (0 : Int) < (n : Int) := by omega
  have hnb := World.new_ne w ⟨blk, off, none⟩ h0
  have hlt := World.block_lt_of_cell? _ _ h0
  have hne2 : ¬ blk = w.heap.size := by intro e; simp only at hlt; omega
  go_enter Tryd.func39, Tryd.ntmps39
  go_wp2
  refine bodyPost_ret (v := .tuple #[.agg #[.int .i64 0, .int .i64 0, .int .i64 0, .int .u32 0, .int .u32 0], .int .i64 19]) (by simp [results, Tryd.results39, go_sem]) rfl ?_
  refine fatedPost_of Fa0 19 rfl rfl (by decide) ?_
  exact ((Below.refl _ _).alloc (Nat.le_refl _) _).alloc (by simp) _
set_option maxHeartbeats 3200000 in
set_option maxRecDepth 100000 in
theorem fated_go_len (s : ByteArray) (q0 : (s.toList == [103, 111]) = true) (blk off n c : Nat) (w : World) (h0 : w.cell? ⟨blk, off, none⟩ = some (.string s)) (hn1 : 1 ≤ n) (hn2 : n ≤ 2000000) (hm : (n : Int) ≠ 2) :
    Calls Tryd.prog 39 #[.slice (some ⟨blk, off, none⟩) n c] w (FatedPost (Fa0, 19) w) := by
  obtain ⟨hz, hsz⟩ := zero_of_info (show (Tryd.prog.info? 26).map (fun i => (i.zero, i.size)) = some (some (.agg #[.int .i64 0, .int .i64 0, .int .i64 0, .int .u32 0, .int .u32 0]), 5) by kernel_rfl)
  have hne0 : (n : Int) ≠ 0 := by omega
  have hni : (0 : Int) < (n : Int) := by omega
  have hnb := World.new_ne w ⟨blk, off, none⟩ h0
  have hlt := World.block_lt_of_cell? _ _ h0
  have hne2 : ¬ blk = w.heap.size := by intro e; simp only at hlt; omega
  have hmb : ((n : Int) != 2) = true := by simpa using hm
  go_enter Tryd.func39, Tryd.ntmps39
  go_wp2
  refine bodyPost_ret (v := .tuple #[.agg #[.int .i64 0, .int .i64 0, .int .i64 0, .int .u32 0, .int .u32 0], .int .i64 19]) (by simp [results, Tryd.results39, go_sem]) rfl ?_
  refine fatedPost_of ⟨0, 0, 0, 0, 0⟩ 19 rfl rfl (by decide) ?_
  exact ((Below.refl _ _).alloc (Nat.le_refl _) _).alloc (by simp) _
set_option maxHeartbeats 3200000 in
set_option maxRecDepth 100000 in
theorem fated_drop_len (s : ByteArray) (q0 : (s.toList == [103, 111]) = false) (q1 : (s.toList == [100, 114, 111, 112]) = true) (blk off n c : Nat) (w : World) (h0 : w.cell? ⟨blk, off, none⟩ = some (.string s)) (hn1 : 1 ≤ n) (hn2 : n ≤ 2000000) (hm : (n : Int) ≠ 1) :
    Calls Tryd.prog 39 #[.slice (some ⟨blk, off, none⟩) n c] w (FatedPost (Fa0, 19) w) := by
  obtain ⟨hz, hsz⟩ := zero_of_info (show (Tryd.prog.info? 26).map (fun i => (i.zero, i.size)) = some (some (.agg #[.int .i64 0, .int .i64 0, .int .i64 0, .int .u32 0, .int .u32 0]), 5) by kernel_rfl)
  have hne0 : (n : Int) ≠ 0 := by omega
  have hni : (0 : Int) < (n : Int) := by omega
  have hnb := World.new_ne w ⟨blk, off, none⟩ h0
  have hlt := World.block_lt_of_cell? _ _ h0
  have hne2 : ¬ blk = w.heap.size := by intro e; simp only at hlt; omega
  have hmb : ((n : Int) != 1) = true := by simpa using hm
  go_enter Tryd.func39, Tryd.ntmps39
  go_wp2
  refine bodyPost_ret (v := .tuple #[.agg #[.int .i64 1, .int .i64 0, .int .i64 0, .int .u32 0, .int .u32 0], .int .i64 19]) (by simp [results, Tryd.results39, go_sem]) rfl ?_
  refine fatedPost_of ⟨1, 0, 0, 0, 0⟩ 19 rfl rfl (by decide) ?_
  exact ((Below.refl _ _).alloc (Nat.le_refl _) _).alloc (by simp) _
set_option maxHeartbeats 3200000 in
set_option maxRecDepth 100000 in
theorem fated_twin_len (s : ByteArray) (q0 : (s.toList == [103, 111]) = false) (q1 : (s.toList == [100, 114, 111, 112]) = false) (q2 : (s.toList == [116, 119, 105, 110]) = true) (blk off n c : Nat) (w : World) (h0 : w.cell? ⟨blk, off, none⟩ = some (.string s)) (hn1 : 1 ≤ n) (hn2 : n ≤ 2000000) (hm : (n : Int) ≠ 3) :
    Calls Tryd.prog 39 #[.slice (some ⟨blk, off, none⟩) n c] w (FatedPost (Fa0, 19) w) := by
  obtain ⟨hz, hsz⟩ := zero_of_info (show (Tryd.prog.info? 26).map (fun i => (i.zero, i.size)) = some (some (.agg #[.int .i64 0, .int .i64 0, .int .i64 0, .int .u32 0, .int .u32 0]), 5) by kernel_rfl)
  have hne0 : (n : Int) ≠ 0 := by omega
  have hni : (0 : Int) < (n : Int) := by omega
  have hnb := World.new_ne w ⟨blk, off, none⟩ h0
  have hlt := World.block_lt_of_cell? _ _ h0
  have hne2 : ¬ blk = w.heap.size := by intro e; simp only at hlt; omega
  have hmb : ((n : Int) != 3) = true := by simpa using hm
  go_enter Tryd.func39, Tryd.ntmps39
  go_wp2
  refine bodyPost_ret (v := .tuple #[.agg #[.int .i64 2, .int .i64 0, .int .i64 0, .int .u32 0, .int .u32 0], .int .i64 19]) (by simp [results, Tryd.results39, go_sem]) rfl ?_
  refine fatedPost_of ⟨2, 0, 0, 0, 0⟩ 19 rfl rfl (by decide) ?_
  exact ((Below.refl _ _).alloc (Nat.le_refl _) _).alloc (by simp) _
set_option maxHeartbeats 3200000 in
set_option maxRecDepth 100000 in
theorem fated_bend_len (s : ByteArray) (q0 : (s.toList == [103, 111]) = false) (q1 : (s.toList == [100, 114, 111, 112]) = false) (q2 : (s.toList == [116, 119, 105, 110]) = false) (q3 : (s.toList == [98, 101, 110, 100]) = true) (blk off n c : Nat) (w : World) (h0 : w.cell? ⟨blk, off, none⟩ = some (.string s)) (hn1 : 1 ≤ n) (hn2 : n ≤ 2000000) (hm : (n : Int) ≠ 4) :
    Calls Tryd.prog 39 #[.slice (some ⟨blk, off, none⟩) n c] w (FatedPost (Fa0, 19) w) := by
  obtain ⟨hz, hsz⟩ := zero_of_info (show (Tryd.prog.info? 26).map (fun i => (i.zero, i.size)) = some (some (.agg #[.int .i64 0, .int .i64 0, .int .i64 0, .int .u32 0, .int .u32 0]), 5) by kernel_rfl)
  have hne0 : (n : Int) ≠ 0 := by omega
  have hni : (0 : Int) < (n : Int) := by omega
  have hnb := World.new_ne w ⟨blk, off, none⟩ h0
  have hlt := World.block_lt_of_cell? _ _ h0
  have hne2 : ¬ blk = w.heap.size := by intro e; simp only at hlt; omega
  have hmb : ((n : Int) != 4) = true := by simpa using hm
  go_enter Tryd.func39, Tryd.ntmps39
  go_wp2
  refine bodyPost_ret (v := .tuple #[.agg #[.int .i64 3, .int .i64 0, .int .i64 0, .int .u32 0, .int .u32 0], .int .i64 19]) (by simp [results, Tryd.results39, go_sem]) rfl ?_
  refine fatedPost_of ⟨3, 0, 0, 0, 0⟩ 19 rfl rfl (by decide) ?_
  exact ((Below.refl _ _).alloc (Nat.le_refl _) _).alloc (by simp) _
set_option maxHeartbeats 3200000 in
set_option maxRecDepth 100000 in
theorem fated_go_bad (s : ByteArray) (q0 : (s.toList == [103, 111]) = true) (blk off n c : Nat) (w : World) (h0 : w.cell? ⟨blk, off, none⟩ = some (.string s)) (hn1 : 1 ≤ n) (hn2 : n ≤ 2000000) (A1 : Option Addr) (r : List (List UInt8)) (hn : n = 2) (hsl : ∀ W, (Instr.slice 56 (.slice (some ⟨blk, off, none⟩) n c) (some (.int .i64 1)) none none).run Tryd.prog W = .ok (.slice A1 (n - 1) (c - 1)) W) (hC : ∀ W, Below w.heap.size w W → Calls Tryd.prog 54 #[.slice A1 (n - 1) (c - 1)] W (NumsPost (numsL r) W)) (hN : numsL r = none) :
    Calls Tryd.prog 39 #[.slice (some ⟨blk, off, none⟩) n c] w (FatedPost (Fa0, 5) w) := by
  obtain ⟨hz, hsz⟩ := zero_of_info (show (Tryd.prog.info? 26).map (fun i => (i.zero, i.size)) = some (some (.agg #[.int .i64 0, .int .i64 0, .int .i64 0, .int .u32 0, .int .u32 0]), 5) by kernel_rfl)
  subst hn
  simp only [Nat.reduceSub, Nat.sub_self] at hsl hC
  have hnb := World.new_ne w ⟨blk, off, none⟩ h0
  have hlt := World.block_lt_of_cell? _ _ h0
  have hne2 : ¬ blk = w.heap.size := by intro e; simp only at hlt; omega
  have hb1 : Below w.heap.size w ((w.alloc (.cells #[.int .i64 0, .int .i64 0, .int .i64 0, .int .u32 0, .int .u32 0] 26)).alloc (.cells #[.int .i64 0, .int .i64 0, .int .i64 0, .int .u32 0, .int .u32 0] 26)) := ((Below.refl _ _).alloc (Nat.le_refl _) _).alloc (by simp) _
  have C1 := hC _ hb1
  rw [hN] at C1
  unfold NumsPost at C1
  have C1 := Lib.hid (And.intro C1 hb1)
  clear hC hN hb1
  go_enter Tryd.func39, Tryd.ntmps39
  go_wp2_with fail
  refine C1.out.1.mono ?_
  rintro e w2 ⟨rfl, hq⟩
  have u0 := (hq.cell (p := ⟨w.heap.size, 0, none⟩) (by simp <;> omega)).trans (show _ = some (.int .i64 0) by simp)
  have fu0 := (hq.frozen (p := ⟨w.heap.size, 0, none⟩) (by simp <;> omega)).trans (show _ = false by simp)
  have u1 := (hq.cell (p := ⟨w.heap.size, 1, none⟩) (by simp <;> omega)).trans (show _ = some (.int .i64 0) by simp)
  have fu1 := (hq.frozen (p := ⟨w.heap.size, 1, none⟩) (by simp <;> omega)).trans (show _ = false by simp)
  have u2 := (hq.cell (p := ⟨w.heap.size, 2, none⟩) (by simp <;> omega)).trans (show _ = some (.int .i64 0) by simp)
  have fu2 := (hq.frozen (p := ⟨w.heap.size, 2, none⟩) (by simp <;> omega)).trans (show _ = false by simp)
  have u3 := (hq.cell (p := ⟨w.heap.size, 3, none⟩) (by simp <;> omega)).trans (show _ = some (.int .u32 0) by simp)
  have fu3 := (hq.frozen (p := ⟨w.heap.size, 3, none⟩) (by simp <;> omega)).trans (show _ = false by simp)
  have u4 := (hq.cell (p := ⟨w.heap.size, 4, none⟩) (by simp <;> omega)).trans (show _ = some (.int .u32 0) by simp)
  have fu4 := (hq.frozen (p := ⟨w.heap.size, 4, none⟩) (by simp <;> omega)).trans (show _ = false by simp)
  have v0 := (hq.cell (p := ⟨w.heap.size + 1, 0, none⟩) (by simp <;> omega)).trans (show _ = some (.int .i64 0) by simp)
  have fv0 := (hq.frozen (p := ⟨w.heap.size + 1, 0, none⟩) (by simp <;> omega)).trans (show _ = false by simp)
  have v1 := (hq.cell (p := ⟨w.heap.size + 1, 1, none⟩) (by simp <;> omega)).trans (show _ = some (.int .i64 0) by simp)
  have fv1 := (hq.frozen (p := ⟨w.heap.size + 1, 1, none⟩) (by simp <;> omega)).trans (show _ = false by simp)
  have v2 := (hq.cell (p := ⟨w.heap.size + 1, 2, none⟩) (by simp <;> omega)).trans (show _ = some (.int .i64 0) by simp)
  have fv2 := (hq.frozen (p := ⟨w.heap.size + 1, 2, none⟩) (by simp <;> omega)).trans (show _ = false by simp)
  have v3 := (hq.cell (p := ⟨w.heap.size + 1, 3, none⟩) (by simp <;> omega)).trans (show _ = some (.int .u32 0) by simp)
  have fv3 := (hq.frozen (p := ⟨w.heap.size + 1, 3, none⟩) (by simp <;> omega)).trans (show _ = false by simp)
  have v4 := (hq.cell (p := ⟨w.heap.size + 1, 4, none⟩) (by simp <;> omega)).trans (show _ = some (.int .u32 0) by simp)
  have fv4 := (hq.frozen (p := ⟨w.heap.size + 1, 4, none⟩) (by simp <;> omega)).trans (show _ = false by simp)
  have HB := Lib.hid (C1.out.2.trans (hq.mono C1.out.2.size))
  clear hq
  go_wp2
  refine bodyPost_ret (v := .tuple #[.agg #[.int .i64 0, .int .i64 0, .int .i64 0, .int .u32 0, .int .u32 0], .int .i64 5]) (by simp [results, Tryd.results39, go_sem, *]) rfl ?_
  refine fatedPost_of ⟨0, 0, 0, 0, 0⟩ 5 rfl rfl (by decide) ?_
  · skip
    repeat (first | with_reducible refine Below.setCell ?_ (by first | exact Nat.le_refl _ | exact Nat.le_succ _) _ | with_reducible refine Below.drew ?_ | with_reducible refine below_drewN ?_ _)
    exact HB.out
set_option maxHeartbeats 3200000 in
set_option maxRecDepth 100000 in
theorem fated_go_ok (s : ByteArray) (q0 : (s.toList == [103, 111]) = true) (blk off n c : Nat) (w : World) (h0 : w.cell? ⟨blk, off, none⟩ = some (.string s)) (hn1 : 1 ≤ n) (hn2 : n ≤ 2000000) (a : Int) (A1 : Option Addr) (r : List (List UInt8)) (hn : n = 2) (hsl : ∀ W, (Instr.slice 56 (.slice (some ⟨blk, off, none⟩) n c) (some (.int .i64 1)) none none).run Tryd.prog W = .ok (.slice A1 (n - 1) (c - 1)) W) (hC : ∀ W, Below w.heap.size w W → Calls Tryd.prog 54 #[.slice A1 (n - 1) (c - 1)] W (NumsPost (numsL r) W)) (hN : numsL r = some [a]) :
    Calls Tryd.prog 39 #[.slice (some ⟨blk, off, none⟩) n c] w (FatedPost (⟨0, a, 0, 0, 0⟩, 0) w) := by
  obtain ⟨hz, hsz⟩ := zero_of_info (show (Tryd.prog.info? 26).map (fun i => (i.zero, i.size)) = some (some (.agg #[.int .i64 0, .int .i64 0, .int .i64 0, .int .u32 0, .int .u32 0]), 5) by kernel_rfl)
  subst hn
  simp only [Nat.reduceSub, Nat.sub_self] at hsl hC
  have hnb := World.new_ne w ⟨blk, off, none⟩ h0
  have hlt := World.block_lt_of_cell? _ _ h0
  have hne2 : ¬ blk = w.heap.size := by intro e; simp only at hlt; omega
  have hb1 : Below w.heap.size w ((w.alloc (.cells #[.int .i64 0, .int .i64 0, .int .i64 0, .int .u32 0, .int .u32 0] 26)).alloc (.cells #[.int .i64 0, .int .i64 0, .int .i64 0, .int .u32 0, .int .u32 0] 26)) := ((Below.refl _ _).alloc (Nat.le_refl _) _).alloc (by simp) _
  have C1 := hC _ hb1
  rw [hN] at C1
  unfold NumsPost at C1
  have C1 := Lib.hid (And.intro C1 hb1)
  clear hC hN hb1
  go_enter Tryd.func39, Tryd.ntmps39
  go_wp2_with fail
  refine C1.out.1.mono ?_
  rintro e w2 ⟨A2, c2, rfl, hap, hrow, hq⟩
  have u0 := (hq.cell (p := ⟨w.heap.size, 0, none⟩) (by simp <;> omega)).trans (show _ = some (.int .i64 0) by simp)
  have fu0 := (hq.frozen (p := ⟨w.heap.size, 0, none⟩) (by simp <;> omega)).trans (show _ = false by simp)
  have u1 := (hq.cell (p := ⟨w.heap.size, 1, none⟩) (by simp <;> omega)).trans (show _ = some (.int .i64 0) by simp)
  have fu1 := (hq.frozen (p := ⟨w.heap.size, 1, none⟩) (by simp <;> omega)).trans (show _ = false by simp)
  have u2 := (hq.cell (p := ⟨w.heap.size, 2, none⟩) (by simp <;> omega)).trans (show _ = some (.int .i64 0) by simp)
  have fu2 := (hq.frozen (p := ⟨w.heap.size, 2, none⟩) (by simp <;> omega)).trans (show _ = false by simp)
  have u3 := (hq.cell (p := ⟨w.heap.size, 3, none⟩) (by simp <;> omega)).trans (show _ = some (.int .u32 0) by simp)
  have fu3 := (hq.frozen (p := ⟨w.heap.size, 3, none⟩) (by simp <;> omega)).trans (show _ = false by simp)
  have u4 := (hq.cell (p := ⟨w.heap.size, 4, none⟩) (by simp <;> omega)).trans (show _ = some (.int .u32 0) by simp)
  have fu4 := (hq.frozen (p := ⟨w.heap.size, 4, none⟩) (by simp <;> omega)).trans (show _ = false by simp)
  have v0 := (hq.cell (p := ⟨w.heap.size + 1, 0, none⟩) (by simp <;> omega)).trans (show _ = some (.int .i64 0) by simp)
  have fv0 := (hq.frozen (p := ⟨w.heap.size + 1, 0, none⟩) (by simp <;> omega)).trans (show _ = false by simp)
  have v1 := (hq.cell (p := ⟨w.heap.size + 1, 1, none⟩) (by simp <;> omega)).trans (show _ = some (.int .i64 0) by simp)
  have fv1 := (hq.frozen (p := ⟨w.heap.size + 1, 1, none⟩) (by simp <;> omega)).trans (show _ = false by simp)
  have v2 := (hq.cell (p := ⟨w.heap.size + 1, 2, none⟩) (by simp <;> omega)).trans (show _ = some (.int .i64 0) by simp)
  have fv2 := (hq.frozen (p := ⟨w.heap.size + 1, 2, none⟩) (by simp <;> omega)).trans (show _ = false by simp)
  have v3 := (hq.cell (p := ⟨w.heap.size + 1, 3, none⟩) (by simp <;> omega)).trans (show _ = some (.int .u32 0) by simp)
  have fv3 := (hq.frozen (p := ⟨w.heap.size + 1, 3, none⟩) (by simp <;> omega)).trans (show _ = false by simp)
  have v4 := (hq.cell (p := ⟨w.heap.size + 1, 4, none⟩) (by simp <;> omega)).trans (show _ = some (.int .u32 0) by simp)
  have fv4 := (hq.frozen (p := ⟨w.heap.size + 1, 4, none⟩) (by simp <;> omega)).trans (show _ = false by simp)
  have HB := Lib.hid (C1.out.2.trans (hq.mono C1.out.2.size))
  obtain ⟨b2, o2, rfl, hc0⟩ := hrow 0 _ rfl
  have hap := hap _ rfl
  have hap2 : ¬ b2 = w.heap.size ∧ ¬ b2 = w.heap.size + 1 := by simp at hap; omega
  obtain ⟨hap3, hap4⟩ := hap2
  simp only [Nat.add_zero] at hc0
  clear hq hrow hap
  go_wp2
  refine bodyPost_ret (v := .tuple #[.agg #[.int .i64 0, .int .i64 a, .int .i64 0, .int .u32 0, .int .u32 0], .int .i64 0]) (by simp [results, Tryd.results39, go_sem, *]) rfl ?_
  refine fatedPost_of ⟨0, a, 0, 0, 0⟩ 0 rfl rfl (by first | decide | exact (fun h => absurd h (by decide)) | exact fun _ => rfl) ?_
  · skip
    repeat (first | with_reducible refine Below.setCell ?_ (by first | exact Nat.le_refl _ | exact Nat.le_succ _) _ | with_reducible refine Below.drew ?_ | with_reducible refine below_drewN ?_ _)
    exact HB.out
set_option maxHeartbeats 3200000 in
set_option maxRecDepth 100000 in
theorem fated_drop_ok (s : ByteArray) (q0 : (s.toList == [103, 111]) = false) (q1 : (s.toList == [100, 114, 111, 112]) = true) (blk off n c : Nat) (w : World) (h0 : w.cell? ⟨blk, off, none⟩ = some (.string s)) (hn1 : 1 ≤ n) (hn2 : n ≤ 2000000) (A1 : Option Addr) (r : List (List UInt8)) (hn : n = 1) (hsl : ∀ W, (Instr.slice 56 (.slice (some ⟨blk, off, none⟩) n c) (some (.int .i64 1)) none none).run Tryd.prog W = .ok (.slice A1 (n - 1) (c - 1)) W) (hC : ∀ W, Below w.heap.size w W → Calls Tryd.prog 54 #[.slice A1 (n - 1) (c - 1)] W (NumsPost (numsL r) W)) (hN : numsL r = some []) :
    Calls Tryd.prog 39 #[.slice (some ⟨blk, off, none⟩) n c] w (FatedPost (⟨1, 0, 0, 0, 0⟩, 0) w) := by
  obtain ⟨hz, hsz⟩ := zero_of_info (show (Tryd.prog.info? 26).map (fun i => (i.zero, i.size)) = some (some (.agg #[.int .i64 0, .int .i64 0, .int .i64 0, .int .u32 0, .int .u32 0]), 5) by kernel_rfl)
  subst hn
  simp only [Nat.reduceSub, Nat.sub_self] at hsl hC
  have hnb := World.new_ne w ⟨blk, off, none⟩ h0
  have hlt := World.block_lt_of_cell? _ _ h0
  have hne2 : ¬ blk = w.heap.size := by intro e; simp only at hlt; omega
  have hb1 : Below w.heap.size w ((w.alloc (.cells #[.int .i64 0, .int .i64 0, .int .i64 0, .int .u32 0, .int .u32 0] 26)).alloc (.cells #[.int .i64 1, .int .i64 0, .int .i64 0, .int .u32 0, .int .u32 0] 26)) := ((Below.refl _ _).alloc (Nat.le_refl _) _).alloc (by simp) _
  have C1 := hC _ hb1
  rw [hN] at C1
  unfold NumsPost at C1
  have C1 := Lib.hid (And.intro C1 hb1)
  clear hC hN hb1
  go_enter Tryd.func39, Tryd.ntmps39
  go_wp2_with fail
  refine C1.out.1.mono ?_
  rintro e w2 ⟨A2, c2, rfl, hap, hrow, hq⟩
  have u0 := (hq.cell (p := ⟨w.heap.size, 0, none⟩) (by simp <;> omega)).trans (show _ = some (.int .i64 0) by simp)
  have fu0 := (hq.frozen (p := ⟨w.heap.size, 0, none⟩) (by simp <;> omega)).trans (show _ = false by simp)
  have u1 := (hq.cell (p := ⟨w.heap.size, 1, none⟩) (by simp <;> omega)).trans (show _ = some (.int .i64 0) by simp)
  have fu1 := (hq.frozen (p := ⟨w.heap.size, 1, none⟩) (by simp <;> omega)).trans (show _ = false by simp)
  have u2 := (hq.cell (p := ⟨w.heap.size, 2, none⟩) (by simp <;> omega)).trans (show _ = some (.int .i64 0) by simp)
  have fu2 := (hq.frozen (p := ⟨w.heap.size, 2, none⟩) (by simp <;> omega)).trans (show _ = false by simp)
  have u3 := (hq.cell (p := ⟨w.heap.size, 3, none⟩) (by simp <;> omega)).trans (show _ = some (.int .u32 0) by simp)
  have fu3 := (hq.frozen (p := ⟨w.heap.size, 3, none⟩) (by simp <;> omega)).trans (show _ = false by simp)
  have u4 := (hq.cell (p := ⟨w.heap.size, 4, none⟩) (by simp <;> omega)).trans (show _ = some (.int .u32 0) by simp)
  have fu4 := (hq.frozen (p := ⟨w.heap.size, 4, none⟩) (by simp <;> omega)).trans (show _ = false by simp)
  have v0 := (hq.cell (p := ⟨w.heap.size + 1, 0, none⟩) (by simp <;> omega)).trans (show _ = some (.int .i64 1) by simp)
  have fv0 := (hq.frozen (p := ⟨w.heap.size + 1, 0, none⟩) (by simp <;> omega)).trans (show _ = false by simp)
  have v1 := (hq.cell (p := ⟨w.heap.size + 1, 1, none⟩) (by simp <;> omega)).trans (show _ = some (.int .i64 0) by simp)
  have fv1 := (hq.frozen (p := ⟨w.heap.size + 1, 1, none⟩) (by simp <;> omega)).trans (show _ = false by simp)
  have v2 := (hq.cell (p := ⟨w.heap.size + 1, 2, none⟩) (by simp <;> omega)).trans (show _ = some (.int .i64 0) by simp)
  have fv2 := (hq.frozen (p := ⟨w.heap.size + 1, 2, none⟩) (by simp <;> omega)).trans (show _ = false by simp)
  have v3 := (hq.cell (p := ⟨w.heap.size + 1, 3, none⟩) (by simp <;> omega)).trans (show _ = some (.int .u32 0) by simp)
  have fv3 := (hq.frozen (p := ⟨w.heap.size + 1, 3, none⟩) (by simp <;> omega)).trans (show _ = false by simp)
  have v4 := (hq.cell (p := ⟨w.heap.size + 1, 4, none⟩) (by simp <;> omega)).trans (show _ = some (.int .u32 0) by simp)
  have fv4 := (hq.frozen (p := ⟨w.heap.size + 1, 4, none⟩) (by simp <;> omega)).trans (show _ = false by simp)
  have HB := Lib.hid (C1.out.2.trans (hq.mono C1.out.2.size))
  clear hq hrow hap
  go_wp2
  refine bodyPost_ret (v := .tuple #[.agg #[.int .i64 1, .int .i64 0, .int .i64 0, .int .u32 0, .int .u32 0], .int .i64 0]) (by simp [results, Tryd.results39, go_sem, *]) rfl ?_
  refine fatedPost_of ⟨1, 0, 0, 0, 0⟩ 0 rfl rfl (by first | decide | exact (fun h => absurd h (by decide)) | exact fun _ => rfl) ?_
  · skip
    repeat (first | with_reducible refine Below.setCell ?_ (by first | exact Nat.le_refl _ | exact Nat.le_succ _) _ | with_reducible refine Below.drew ?_ | with_reducible refine below_drewN ?_ _)
    exact HB.out
set_option maxHeartbeats 3200000 in
set_option maxRecDepth 100000 in
theorem fated_twin_bad (s : ByteArray) (q0 : (s.toList == [103, 111]) = false) (q1 : (s.toList == [100, 114, 111, 112]) = false) (q2 : (s.toList == [116, 119, 105, 110]) = true) (blk off n c : Nat) (w : World) (h0 : w.cell? ⟨blk, off, none⟩ = some (.string s)) (hn1 : 1 ≤ n) (hn2 : n ≤ 2000000) (A1 : Option Addr) (r : List (List UInt8)) (hn : n = 3) (hsl : ∀ W, (Instr.slice 56 (.slice (some ⟨blk, off, none⟩) n c) (some (.int .i64 1)) none none).run Tryd.prog W = .ok (.slice A1 (n - 1) (c - 1)) W) (hC : ∀ W, Below w.heap.size w W → Calls Tryd.prog 54 #[.slice A1 (n - 1) (c - 1)] W (NumsPost (numsL r) W)) (hN : numsL r = none) :
    Calls Tryd.prog 39 #[.slice (some ⟨blk, off, none⟩) n c] w (FatedPost (Fa0, 5) w) := by
  obtain ⟨hz, hsz⟩ := zero_of_info (show (Tryd.prog.info? 26).map (fun i => (i.zero, i.size)) = some (some (.agg #[.int .i64 0, .int .i64 0, .int .i64 0, .int .u32 0, .int .u32 0]), 5) by kernel_rfl)
  subst hn
  simp only [Nat.reduceSub, Nat.sub_self] at hsl hC
  have hnb := World.new_ne w ⟨blk, off, none⟩ h0
  have hlt := World.block_lt_of_cell? _ _ h0
  have hne2 : ¬ blk = w.heap.size := by intro e; simp only at hlt; omega
  have hb1 : Below w.heap.size w ((w.alloc (.cells #[.int .i64 0, .int .i64 0, .int .i64 0, .int .u32 0, .int .u32 0] 26)).alloc (.cells #[.int .i64 2, .int .i64 0, .int .i64 0, .int .u32 0, .int .u32 0] 26)) := ((Below.refl _ _).alloc (Nat.le_refl _) _).alloc (by simp) _
  have C1 := hC _ hb1
  rw [hN] at C1
  unfold NumsPost at C1
  have C1 := Lib.hid (And.intro C1 hb1)
  clear hC hN hb1
  go_enter Tryd.func39, Tryd.ntmps39
  go_wp2_with fail
  refine C1.out.1.mono ?_
  rintro e w2 ⟨rfl, hq⟩
  have u0 := (hq.cell (p := ⟨w.heap.size, 0, none⟩) (by simp <;> omega)).trans (show _ = some (.int .i64 0) by simp)
  have fu0 := (hq.frozen (p := ⟨w.heap.size, 0, none⟩) (by simp <;> omega)).trans (show _ = false by simp)
  have u1 := (hq.cell (p := ⟨w.heap.size, 1, none⟩) (by simp <;> omega)).trans (show _ = some (.int .i64 0) by simp)
  have fu1 := (hq.frozen (p := ⟨w.heap.size, 1, none⟩) (by simp <;> omega)).trans (show _ = false by simp)
  have u2 := (hq.cell (p := ⟨w.heap.size, 2, none⟩) (by simp <;> omega)).trans (show _ = some (.int .i64 0) by simp)
  have fu2 := (hq.frozen (p := ⟨w.heap.size, 2, none⟩) (by simp <;> omega)).trans (show _ = false by simp)
  have u3 := (hq.cell (p := ⟨w.heap.size, 3, none⟩) (by simp <;> omega)).trans (show _ = some (.int .u32 0) by simp)
  have fu3 := (hq.frozen (p := ⟨w.heap.size, 3, none⟩) (by simp <;> omega)).trans (show _ = false by simp)
  have u4 := (hq.cell (p := ⟨w.heap.size, 4, none⟩) (by simp <;> omega)).trans (show _ = some (.int .u32 0) by simp)
  have fu4 := (hq.frozen (p := ⟨w.heap.size, 4, none⟩) (by simp <;> omega)).trans (show _ = false by simp)
  have v0 := (hq.cell (p := ⟨w.heap.size + 1, 0, none⟩) (by simp <;> omega)).trans (show _ = some (.int .i64 2) by simp)
  have fv0 := (hq.frozen (p := ⟨w.heap.size + 1, 0, none⟩) (by simp <;> omega)).trans (show _ = false by simp)
  have v1 := (hq.cell (p := ⟨w.heap.size + 1, 1, none⟩) (by simp <;> omega)).trans (show _ = some (.int .i64 0) by simp)
  have fv1 := (hq.frozen (p := ⟨w.heap.size + 1, 1, none⟩) (by simp <;> omega)).trans (show _ = false by simp)
  have v2 := (hq.cell (p := ⟨w.heap.size + 1, 2, none⟩) (by simp <;> omega)).trans (show _ = some (.int .i64 0) by simp)
  have fv2 := (hq.frozen (p := ⟨w.heap.size + 1, 2, none⟩) (by simp <;> omega)).trans (show _ = false by simp)
  have v3 := (hq.cell (p := ⟨w.heap.size + 1, 3, none⟩) (by simp <;> omega)).trans (show _ = some (.int .u32 0) by simp)
  have fv3 := (hq.frozen (p := ⟨w.heap.size + 1, 3, none⟩) (by simp <;> omega)).trans (show _ = false by simp)
  have v4 := (hq.cell (p := ⟨w.heap.size + 1, 4, none⟩) (by simp <;> omega)).trans (show _ = some (.int .u32 0) by simp)
  have fv4 := (hq.frozen (p := ⟨w.heap.size + 1, 4, none⟩) (by simp <;> omega)).trans (show _ = false by simp)
  have HB := Lib.hid (C1.out.2.trans (hq.mono C1.out.2.size))
  clear hq
  go_wp2
  refine bodyPost_ret (v := .tuple #[.agg #[.int .i64 2, .int .i64 0, .int .i64 0, .int .u32 0, .int .u32 0], .int .i64 5]) (by simp [results, Tryd.results39, go_sem, *]) rfl ?_
  refine fatedPost_of ⟨2, 0, 0, 0, 0⟩ 5 rfl rfl (by decide) ?_
  · skip
    repeat (first | with_reducible refine Below.setCell ?_ (by first | exact Nat.le_refl _ | exact Nat.le_succ _) _ | with_reducible refine Below.drew ?_ | with_reducible refine below_drewN ?_ _)
    exact HB.out
set_option maxHeartbeats 3200000 in
set_option maxRecDepth 100000 in
theorem fated_twin_ok (s : ByteArray) (q0 : (s.toList == [103, 111]) = false) (q1 : (s.toList == [100, 114, 111, 112]) = false) (q2 : (s.toList == [116, 119, 105, 110]) = true) (blk off n c : Nat) (w : World) (h0 : w.cell? ⟨blk, off, none⟩ = some (.string s)) (hn1 : 1 ≤ n) (hn2 : n ≤ 2000000) (a b : Int) (A1 : Option Addr) (r : List (List UInt8)) (hn : n = 3) (hsl : ∀ W, (Instr.slice 56 (.slice (some ⟨blk, off, none⟩) n c) (some (.int .i64 1)) none none).run Tryd.prog W = .ok (.slice A1 (n - 1) (c - 1)) W) (hC : ∀ W, Below w.heap.size w W → Calls Tryd.prog 54 #[.slice A1 (n - 1) (c - 1)] W (NumsPost (numsL r) W)) (hN : numsL r = some [a, b]) :
    Calls Tryd.prog 39 #[.slice (some ⟨blk, off, none⟩) n c] w (FatedPost (⟨2, a, b, 0, 0⟩, 0) w) := by
  obtain ⟨hz, hsz⟩ := zero_of_info (show (Tryd.prog.info? 26).map (fun i => (i.zero, i.size)) = some (some (.agg #[.int .i64 0, .int .i64 0, .int .i64 0, .int .u32 0, .int .u32 0]), 5) by kernel_rfl)
  subst hn
  simp only [Nat.reduceSub, Nat.sub_self] at hsl hC
  have hnb := World.new_ne w ⟨blk, off, none⟩ h0
  have hlt := World.block_lt_of_cell? _ _ h0
  have hne2 : ¬ blk = w.heap.size := by intro e; simp only at hlt; omega
  have hb1 : Below w.heap.size w ((w.alloc (.cells #[.int .i64 0, .int .i64 0, .int .i64 0, .int .u32 0, .int .u32 0] 26)).alloc (.cells #[.int .i64 2, .int .i64 0, .int .i64 0, .int .u32 0, .int .u32 0] 26)) := ((Below.refl _ _).alloc (Nat.le_refl _) _).alloc (by simp) _
  have C1 := hC _ hb1
  rw [hN] at C1
  unfold NumsPost at C1
  have C1 := Lib.hid (And.intro C1 hb1)
  clear hC hN hb1
  go_enter Tryd.func39, Tryd.ntmps39
  go_wp2_with fail
  refine C1.out.1.mono ?_
  rintro e w2 ⟨A2, c2, rfl, hap, hrow, hq⟩
  have u0 := (hq.cell (p := ⟨w.heap.size, 0, none⟩) (by simp <;> omega)).trans (show _ = some (.int .i64 0) by simp)
  have fu0 := (hq.frozen (p := ⟨w.heap.size, 0, none⟩) (by simp <;> omega)).trans (show _ = false by simp)
  have u1 := (hq.cell (p := ⟨w.heap.size, 1, none⟩) (by simp <;> omega)).trans (show _ = some (.int .i64 0) by simp)
  have fu1 := (hq.frozen (p := ⟨w.heap.size, 1, none⟩) (by simp <;> omega)).trans (show _ = false by simp)
  have u2 := (hq.cell (p := ⟨w.heap.size, 2, none⟩) (by simp <;> omega)).trans (show _ = some (.int .i64 0) by simp)
  have fu2 := (hq.frozen (p := ⟨w.heap.size, 2, none⟩) (by simp <;> omega)).trans (show _ = false by simp)
  have u3 := (hq.cell (p := ⟨w.heap.size, 3, none⟩) (by simp <;> omega)).trans (show _ = some (.int .u32 0) by simp)
  have fu3 := (hq.frozen (p := ⟨w.heap.size, 3, none⟩) (by simp <;> omega)).trans (show _ = false by simp)
  have u4 := (hq.cell (p := ⟨w.heap.size, 4, none⟩) (by simp <;> omega)).trans (show _ = some (.int .u32 0) by simp)
  have fu4 := (hq.frozen (p := ⟨w.heap.size, 4, none⟩) (by simp <;> omega)).trans (show _ = false by simp)
  have v0 := (hq.cell (p := ⟨w.heap.size + 1, 0, none⟩) (by simp <;> omega)).trans (show _ = some (.int .i64 2) by simp)
  have fv0 := (hq.frozen (p := ⟨w.heap.size + 1, 0, none⟩) (by simp <;> omega)).trans (show _ = false by simp)
  have v1 := (hq.cell (p := ⟨w.heap.size + 1, 1, none⟩) (by simp <;> omega)).trans (show _ = some (.int .i64 0) by simp)
  have fv1 := (hq.frozen (p := ⟨w.heap.size + 1, 1, none⟩) (by simp <;> omega)).trans (show _ = false by simp)
  have v2 := (hq.cell (p := ⟨w.heap.size + 1, 2, none⟩) (by simp <;> omega)).trans (show _ = some (.int .i64 0) by simp)
  have fv2 := (hq.frozen (p := ⟨w.heap.size + 1, 2, none⟩) (by simp <;> omega)).trans (show _ = false by simp)
  have v3 := (hq.cell (p := ⟨w.heap.size + 1, 3, none⟩) (by simp <;> omega)).trans (show _ = some (.int .u32 0) by simp)
  have fv3 := (hq.frozen (p := ⟨w.heap.size + 1, 3, none⟩) (by simp <;> omega)).trans (show _ = false by simp)
  have v4 := (hq.cell (p := ⟨w.heap.size + 1, 4, none⟩) (by simp <;> omega)).trans (show _ = some (.int .u32 0) by simp)
  have fv4 := (hq.frozen (p := ⟨w.heap.size + 1, 4, none⟩) (by simp <;> omega)).trans (show _ = false by simp)
  have HB := Lib.hid (C1.out.2.trans (hq.mono C1.out.2.size))
  obtain ⟨b2, o2, rfl, hc0⟩ := hrow 0 _ rfl
  have hap := hap _ rfl
  have hap2 : ¬ b2 = w.heap.size ∧ ¬ b2 = w.heap.size + 1 := by simp at hap; omega
  obtain ⟨hap3, hap4⟩ := hap2
  have hc1 : w2.cell? ⟨b2, o2 + 1, none⟩ = some (.int .i64 b) := by
    obtain ⟨b3, o3, he, hc⟩ := hrow 1 _ rfl
    injection he with he
    injection he with h1 h2 h3
    subst h1 h2
    exact hc
  simp only [Nat.add_zero] at hc0
  clear hq hrow hap
  go_wp2
  refine bodyPost_ret (v := .tuple #[.agg #[.int .i64 2, .int .i64 a, .int .i64 b, .int .u32 0, .int .u32 0], .int .i64 0]) (by simp [results, Tryd.results39, go_sem, *]) rfl ?_
  refine fatedPost_of ⟨2, a, b, 0, 0⟩ 0 rfl rfl (by first | decide | exact (fun h => absurd h (by decide)) | exact fun _ => rfl) ?_
  · skip
    repeat (first | with_reducible refine Below.setCell ?_ (by first | exact Nat.le_refl _ | exact Nat.le_succ _) _ | with_reducible refine Below.drew ?_ | with_reducible refine below_drewN ?_ _)
    exact HB.out
set_option maxHeartbeats 3200000 in
set_option maxRecDepth 100000 in
theorem fated_bend_bad (s : ByteArray) (q0 : (s.toList == [103, 111]) = false) (q1 : (s.toList == [100, 114, 111, 112]) = false) (q2 : (s.toList == [116, 119, 105, 110]) = false) (q3 : (s.toList == [98, 101, 110, 100]) = true) (blk off n c : Nat) (w : World) (h0 : w.cell? ⟨blk, off, none⟩ = some (.string s)) (hn1 : 1 ≤ n) (hn2 : n ≤ 2000000) (A1 : Option Addr) (r : List (List UInt8)) (hn : n = 4) (hsl : ∀ W, (Instr.slice 56 (.slice (some ⟨blk, off, none⟩) n c) (some (.int .i64 1)) none none).run Tryd.prog W = .ok (.slice A1 (n - 1) (c - 1)) W) (hC : ∀ W, Below w.heap.size w W → Calls Tryd.prog 54 #[.slice A1 (n - 1) (c - 1)] W (NumsPost (numsL r) W)) (hN : numsL r = none) :
    Calls Tryd.prog 39 #[.slice (some ⟨blk, off, none⟩) n c] w (FatedPost (Fa0, 5) w) := by
  obtain ⟨hz, hsz⟩ := zero_of_info (show (Tryd.prog.info? 26).map (fun i => (i.zero, i.size)) = some (some (.agg #[.int .i64 0, .int .i64 0, .int .i64 0, .int .u32 0, .int .u32 0]), 5) by kernel_rfl)
  subst hn
  simp only [Nat.reduceSub, Nat.sub_self] at hsl hC
  have hnb := World.new_ne w ⟨blk, off, none⟩ h0
  have hlt := World.block_lt_of_cell? _ _ h0
  have hne2 : ¬ blk = w.heap.size := by intro e; simp only at hlt; omega
  have hb1 : Below w.heap.size w ((w.alloc (.cells #[.int .i64 0, .int .i64 0, .int .i64 0, .int .u32 0, .int .u32 0] 26)).alloc (.cells #[.int .i64 3, .int .i64 0, .int .i64 0, .int .u32 0, .int .u32 0] 26)) := ((Below.refl _ _).alloc (Nat.le_refl _) _).alloc (by simp) _
  have C1 := hC _ hb1
  rw [hN] at C1
  unfold NumsPost at C1
  have C1 := Lib.hid (And.intro C1 hb1)
  clear hC hN hb1
  go_enter Tryd.func39, Tryd.ntmps39
  go_wp2_with fail
  refine C1.out.1.mono ?_
  rintro e w2 ⟨rfl, hq⟩
  have u0 := (hq.cell (p := ⟨w.heap.size, 0, none⟩) (by simp <;> omega)).trans (show _ = some (.int .i64 0) by simp)
  have fu0 := (hq.frozen (p := ⟨w.heap.size, 0, none⟩) (by simp <;> omega)).trans (show _ = false by simp)
  have u1 := (hq.cell (p := ⟨w.heap.size, 1, none⟩) (by simp <;> omega)).trans (show _ = some (.int .i64 0) by simp)
  have fu1 := (hq.frozen (p := ⟨w.heap.size, 1, none⟩) (by simp <;> omega)).trans (show _ = false by simp)
  have u2 := (hq.cell (p := ⟨w.heap.size, 2, none⟩) (by simp <;> omega)).trans (show _ = some (.int .i64 0) by simp)
  have fu2 := (hq.frozen (p := ⟨w.heap.size, 2, none⟩) (by simp <;> omega)).trans (show _ = false by simp)
  have u3 := (hq.cell (p := ⟨w.heap.size, 3, none⟩) (by simp <;> omega)).trans (show _ = some (.int .u32 0) by simp)
  have fu3 := (hq.frozen (p := ⟨w.heap.size, 3, none⟩) (by simp <;> omega)).trans (show _ = false by simp)
  have u4 := (hq.cell (p := ⟨w.heap.size, 4, none⟩) (by simp <;> omega)).trans (show _ = some (.int .u32 0) by simp)
  have fu4 := (hq.frozen (p := ⟨w.heap.size, 4, none⟩) (by simp <;> omega)).trans (show _ = false by simp)
  have v0 := (hq.cell (p := ⟨w.heap.size + 1, 0, none⟩) (by simp <;> omega)).trans (show _ = some (.int .i64 3) by simp)
  have fv0 := (hq.frozen (p := ⟨w.heap.size + 1, 0, none⟩) (by simp <;> omega)).trans (show _ = false by simp)
  have v1 := (hq.cell (p := ⟨w.heap.size + 1, 1, none⟩) (by simp <;> omega)).trans (show _ = some (.int .i64 0) by simp)
  have fv1 := (hq.frozen (p := ⟨w.heap.size + 1, 1, none⟩) (by simp <;> omega)).trans (show _ = false by simp)
  have v2 := (hq.cell (p := ⟨w.heap.size + 1, 2, none⟩) (by simp <;> omega)).trans (show _ = some (.int .i64 0) by simp)
  have fv2 := (hq.frozen (p := ⟨w.heap.size + 1, 2, none⟩) (by simp <;> omega)).trans (show _ = false by simp)
  have v3 := (hq.cell (p := ⟨w.heap.size + 1, 3, none⟩) (by simp <;> omega)).trans (show _ = some (.int .u32 0) by simp)
  have fv3 := (hq.frozen (p := ⟨w.heap.size + 1, 3, none⟩) (by simp <;> omega)).trans (show _ = false by simp)
  have v4 := (hq.cell (p := ⟨w.heap.size + 1, 4, none⟩) (by simp <;> omega)).trans (show _ = some (.int .u32 0) by simp)
  have fv4 := (hq.frozen (p := ⟨w.heap.size + 1, 4, none⟩) (by simp <;> omega)).trans (show _ = false by simp)
  have HB := Lib.hid (C1.out.2.trans (hq.mono C1.out.2.size))
  clear hq
  go_wp2
  refine bodyPost_ret (v := .tuple #[.agg #[.int .i64 3, .int .i64 0, .int .i64 0, .int .u32 0, .int .u32 0], .int .i64 5]) (by simp [results, Tryd.results39, go_sem, *]) rfl ?_
  refine fatedPost_of ⟨3, 0, 0, 0, 0⟩ 5 rfl rfl (by decide) ?_
  · skip
    repeat (first | with_reducible refine Below.setCell ?_ (by first | exact Nat.le_refl _ | exact Nat.le_succ _) _ | with_reducible refine Below.drew ?_ | with_reducible refine below_drewN ?_ _)
    exact HB.out
set_option maxHeartbeats 3200000 in
set_option maxRecDepth 100000 in
theorem fated_bend_w1 (s : ByteArray) (q0 : (s.toList == [103, 111]) = false) (q1 : (s.toList == [100, 114, 111, 112]) = false) (q2 : (s.toList == [116, 119, 105, 110]) = false) (q3 : (s.toList == [98, 101, 110, 100]) = true) (blk off n c : Nat) (w : World) (h0 : w.cell? ⟨blk, off, none⟩ = some (.string s)) (hn1 : 1 ≤ n) (hn2 : n ≤ 2000000) (a b d : Int) (A1 : Option Addr) (r : List (List UInt8)) (hn : n = 4) (hsl : ∀ W, (Instr.slice 56 (.slice (some ⟨blk, off, none⟩) n c) (some (.int .i64 1)) none none).run Tryd.prog W = .ok (.slice A1 (n - 1) (c - 1)) W) (hC : ∀ W, Below w.heap.size w W → Calls Tryd.prog 54 #[.slice A1 (n - 1) (c - 1)] W (NumsPost (numsL r) W)) (hN : numsL r = some [a, b, d]) (hx0 : -9223372036854775808 ≤ b) (hx1 : b ≤ 9223372036854775807) (hd0 : -9223372036854775808 ≤ d) (hd1 : d ≤ 9223372036854775807) (hw1 : wideN b = true) :
    Calls Tryd.prog 39 #[.slice (some ⟨blk, off, none⟩) n c] w (FatedPost (Fa0, 2) w) := by
  obtain ⟨hz, hsz⟩ := zero_of_info (show (Tryd.prog.info? 26).map (fun i => (i.zero, i.size)) = some (some (.agg #[.int .i64 0, .int .i64 0, .int .i64 0, .int .u32 0, .int .u32 0]), 5) by kernel_rfl)
  subst hn
  simp only [Nat.reduceSub, Nat.sub_self] at hsl hC
  have hnb := World.new_ne w ⟨blk, off, none⟩ h0
  have hlt := World.block_lt_of_cell? _ _ h0
  have hne2 : ¬ blk = w.heap.size := by intro e; simp only at hlt; omega
  have hb1 : Below w.heap.size w ((w.alloc (.cells #[.int .i64 0, .int .i64 0, .int .i64 0, .int .u32 0, .int .u32 0] 26)).alloc (.cells #[.int .i64 3, .int .i64 0, .int .i64 0, .int .u32 0, .int .u32 0] 26)) := ((Below.refl _ _).alloc (Nat.le_refl _) _).alloc (by simp) _
  have C1 := hC _ hb1
  rw [hN] at C1
  unfold NumsPost at C1
  have C1 := Lib.hid (And.intro C1 hb1)
  have CWb := fun W => wordsWide b hx0 hx1 W
  have CWd := fun W => wordsWide d hd0 hd1 W
  rw [hw1] at CWb
  have CWb := Lib.hid CWb
  have CWd := Lib.hid CWd
  clear hC hN hb1
  go_enter Tryd.func39, Tryd.ntmps39
  go_wp2_with fail
  refine C1.out.1.mono ?_
  rintro e w2 ⟨A2, c2, rfl, hap, hrow, hq⟩
  have u0 := (hq.cell (p := ⟨w.heap.size, 0, none⟩) (by simp <;> omega)).trans (show _ = some (.int .i64 0) by simp)
  have fu0 := (hq.frozen (p := ⟨w.heap.size, 0, none⟩) (by simp <;> omega)).trans (show _ = false by simp)
  have u1 := (hq.cell (p := ⟨w.heap.size, 1, none⟩) (by simp <;> omega)).trans (show _ = some (.int .i64 0) by simp)
  have fu1 := (hq.frozen (p := ⟨w.heap.size, 1, none⟩) (by simp <;> omega)).trans (show _ = false by simp)
  have u2 := (hq.cell (p := ⟨w.heap.size, 2, none⟩) (by simp <;> omega)).trans (show _ = some (.int .i64 0) by simp)
  have fu2 := (hq.frozen (p := ⟨w.heap.size, 2, none⟩) (by simp <;> omega)).trans (show _ = false by simp)
  have u3 := (hq.cell (p := ⟨w.heap.size, 3, none⟩) (by simp <;> omega)).trans (show _ = some (.int .u32 0) by simp)
  have fu3 := (hq.frozen (p := ⟨w.heap.size, 3, none⟩) (by simp <;> omega)).trans (show _ = false by simp)
  have u4 := (hq.cell (p := ⟨w.heap.size, 4, none⟩) (by simp <;> omega)).trans (show _ = some (.int .u32 0) by simp)
  have fu4 := (hq.frozen (p := ⟨w.heap.size, 4, none⟩) (by simp <;> omega)).trans (show _ = false by simp)
  have v0 := (hq.cell (p := ⟨w.heap.size + 1, 0, none⟩) (by simp <;> omega)).trans (show _ = some (.int .i64 3) by simp)
  have fv0 := (hq.frozen (p := ⟨w.heap.size + 1, 0, none⟩) (by simp <;> omega)).trans (show _ = false by simp)
  have v1 := (hq.cell (p := ⟨w.heap.size + 1, 1, none⟩) (by simp <;> omega)).trans (show _ = some (.int .i64 0) by simp)
  have fv1 := (hq.frozen (p := ⟨w.heap.size + 1, 1, none⟩) (by simp <;> omega)).trans (show _ = false by simp)
  have v2 := (hq.cell (p := ⟨w.heap.size + 1, 2, none⟩) (by simp <;> omega)).trans (show _ = some (.int .i64 0) by simp)
  have fv2 := (hq.frozen (p := ⟨w.heap.size + 1, 2, none⟩) (by simp <;> omega)).trans (show _ = false by simp)
  have v3 := (hq.cell (p := ⟨w.heap.size + 1, 3, none⟩) (by simp <;> omega)).trans (show _ = some (.int .u32 0) by simp)
  have fv3 := (hq.frozen (p := ⟨w.heap.size + 1, 3, none⟩) (by simp <;> omega)).trans (show _ = false by simp)
  have v4 := (hq.cell (p := ⟨w.heap.size + 1, 4, none⟩) (by simp <;> omega)).trans (show _ = some (.int .u32 0) by simp)
  have fv4 := (hq.frozen (p := ⟨w.heap.size + 1, 4, none⟩) (by simp <;> omega)).trans (show _ = false by simp)
  have HB := Lib.hid (C1.out.2.trans (hq.mono C1.out.2.size))
  obtain ⟨b2, o2, rfl, hc0⟩ := hrow 0 _ rfl
  have hap := hap _ rfl
  have hap2 : ¬ b2 = w.heap.size ∧ ¬ b2 = w.heap.size + 1 := by simp at hap; omega
  obtain ⟨hap3, hap4⟩ := hap2
  have hc1 : w2.cell? ⟨b2, o2 + 1, none⟩ = some (.int .i64 b) := by
    obtain ⟨b3, o3, he, hc⟩ := hrow 1 _ rfl
    injection he with he
    injection he with h1 h2 h3
    subst h1 h2
    exact hc
  have hc2 : w2.cell? ⟨b2, o2 + 2, none⟩ = some (.int .i64 d) := by
    obtain ⟨b3, o3, he, hc⟩ := hrow 2 _ rfl
    injection he with he
    injection he with h1 h2 h3
    subst h1 h2
    exact hc
  simp only [Nat.add_zero] at hc0
  clear hq hrow hap
  go_wp2_with fail
  refine (CWb.out _).mono ?_
  rintro e w3 ⟨rfl, hw3⟩
  subst w3
  go_wp2
  refine bodyPost_ret (v := .tuple #[.agg #[.int .i64 3, .int .i64 a, .int .i64 0, .int .u32 0, .int .u32 0], .int .i64 2]) (by simp [results, Tryd.results39, go_sem, *]) rfl ?_
  refine fatedPost_of ⟨3, a, 0, 0, 0⟩ 2 rfl rfl (by first | decide | exact (fun h => absurd h (by decide)) | exact fun _ => rfl) ?_
  · skip
    repeat (first | with_reducible refine Below.setCell ?_ (by first | exact Nat.le_refl _ | exact Nat.le_succ _) _ | with_reducible refine Below.drew ?_ | with_reducible refine below_drewN ?_ _)
    exact HB.out
set_option maxHeartbeats 3200000 in
set_option maxRecDepth 100000 in
theorem fated_bend_w2 (s : ByteArray) (q0 : (s.toList == [103, 111]) = false) (q1 : (s.toList == [100, 114, 111, 112]) = false) (q2 : (s.toList == [116, 119, 105, 110]) = false) (q3 : (s.toList == [98, 101, 110, 100]) = true) (blk off n c : Nat) (w : World) (h0 : w.cell? ⟨blk, off, none⟩ = some (.string s)) (hn1 : 1 ≤ n) (hn2 : n ≤ 2000000) (a b d : Int) (A1 : Option Addr) (r : List (List UInt8)) (hn : n = 4) (hsl : ∀ W, (Instr.slice 56 (.slice (some ⟨blk, off, none⟩) n c) (some (.int .i64 1)) none none).run Tryd.prog W = .ok (.slice A1 (n - 1) (c - 1)) W) (hC : ∀ W, Below w.heap.size w W → Calls Tryd.prog 54 #[.slice A1 (n - 1) (c - 1)] W (NumsPost (numsL r) W)) (hN : numsL r = some [a, b, d]) (hx0 : -9223372036854775808 ≤ b) (hx1 : b ≤ 9223372036854775807) (hd0 : -9223372036854775808 ≤ d) (hd1 : d ≤ 9223372036854775807) (hw1 : wideN b = false) (hw2 : wideN d = true) :
    Calls Tryd.prog 39 #[.slice (some ⟨blk, off, none⟩) n c] w (FatedPost (Fa0, 2) w) := by
  obtain ⟨hz, hsz⟩ := zero_of_info (show (Tryd.prog.info? 26).map (fun i => (i.zero, i.size)) = some (some (.agg #[.int .i64 0, .int .i64 0, .int .i64 0, .int .u32 0, .int .u32 0]), 5) by kernel_rfl)
  subst hn
  simp only [Nat.reduceSub, Nat.sub_self] at hsl hC
  have hnb := World.new_ne w ⟨blk, off, none⟩ h0
  have hlt := World.block_lt_of_cell? _ _ h0
  have hne2 : ¬ blk = w.heap.size := by intro e; simp only at hlt; omega
  have hb1 : Below w.heap.size w ((w.alloc (.cells #[.int .i64 0, .int .i64 0, .int .i64 0, .int .u32 0, .int .u32 0] 26)).alloc (.cells #[.int .i64 3, .int .i64 0, .int .i64 0, .int .u32 0, .int .u32 0] 26)) := ((Below.refl _ _).alloc (Nat.le_refl _) _).alloc (by simp) _
  have C1 := hC _ hb1
  rw [hN] at C1
  unfold NumsPost at C1
  have C1 := Lib.hid (And.intro C1 hb1)
  have CWb := fun W => wordsWide b hx0 hx1 W
  have CWd := fun W => wordsWide d hd0 hd1 W
  rw [hw1] at CWb
  rw [hw2] at CWd
  have CWb := Lib.hid CWb
  have CWd := Lib.hid CWd
  clear hC hN hb1
  go_enter Tryd.func39, Tryd.ntmps39
  go_wp2_with fail
  refine C1.out.1.mono ?_
  rintro e w2 ⟨A2, c2, rfl, hap, hrow, hq⟩
  have u0 := (hq.cell (p := ⟨w.heap.size, 0, none⟩) (by simp <;> omega)).trans (show _ = some (.int .i64 0) by simp)
  have fu0 := (hq.frozen (p := ⟨w.heap.size, 0, none⟩) (by simp <;> omega)).trans (show _ = false by simp)
  have u1 := (hq.cell (p := ⟨w.heap.size, 1, none⟩) (by simp <;> omega)).trans (show _ = some (.int .i64 0) by simp)
  have fu1 := (hq.frozen (p := ⟨w.heap.size, 1, none⟩) (by simp <;> omega)).trans (show _ = false by simp)
  have u2 := (hq.cell (p := ⟨w.heap.size, 2, none⟩) (by simp <;> omega)).trans (show _ = some (.int .i64 0) by simp)
  have fu2 := (hq.frozen (p := ⟨w.heap.size, 2, none⟩) (by simp <;> omega)).trans (show _ = false by simp)
  have u3 := (hq.cell (p := ⟨w.heap.size, 3, none⟩) (by simp <;> omega)).trans (show _ = some (.int .u32 0) by simp)
  have fu3 := (hq.frozen (p := ⟨w.heap.size, 3, none⟩) (by simp <;> omega)).trans (show _ = false by simp)
  have u4 := (hq.cell (p := ⟨w.heap.size, 4, none⟩) (by simp <;> omega)).trans (show _ = some (.int .u32 0) by simp)
  have fu4 := (hq.frozen (p := ⟨w.heap.size, 4, none⟩) (by simp <;> omega)).trans (show _ = false by simp)
  have v0 := (hq.cell (p := ⟨w.heap.size + 1, 0, none⟩) (by simp <;> omega)).trans (show _ = some (.int .i64 3) by simp)
  have fv0 := (hq.frozen (p := ⟨w.heap.size + 1, 0, none⟩) (by simp <;> omega)).trans (show _ = false by simp)
  have v1 := (hq.cell (p := ⟨w.heap.size + 1, 1, none⟩) (by simp <;> omega)).trans (show _ = some (.int .i64 0) by simp)
  have fv1 := (hq.frozen (p := ⟨w.heap.size + 1, 1, none⟩) (by simp <;> omega)).trans (show _ = false by simp)
  have v2 := (hq.cell (p := ⟨w.heap.size + 1, 2, none⟩) (by simp <;> omega)).trans (show _ = some (.int .i64 0) by simp)
  have fv2 := (hq.frozen (p := ⟨w.heap.size + 1, 2, none⟩) (by simp <;> omega)).trans (show _ = false by simp)
  have v3 := (hq.cell (p := ⟨w.heap.size + 1, 3, none⟩) (by simp <;> omega)).trans (show _ = some (.int .u32 0) by simp)
  have fv3 := (hq.frozen (p := ⟨w.heap.size + 1, 3, none⟩) (by simp <;> omega)).trans (show _ = false by simp)
  have v4 := (hq.cell (p := ⟨w.heap.size + 1, 4, none⟩) (by simp <;> omega)).trans (show _ = some (.int .u32 0) by simp)
  have fv4 := (hq.frozen (p := ⟨w.heap.size + 1, 4, none⟩) (by simp <;> omega)).trans (show _ = false by simp)
  have HB := Lib.hid (C1.out.2.trans (hq.mono C1.out.2.size))
  obtain ⟨b2, o2, rfl, hc0⟩ := hrow 0 _ rfl
  have hap := hap _ rfl
  have hap2 : ¬ b2 = w.heap.size ∧ ¬ b2 = w.heap.size + 1 := by simp at hap; omega
  obtain ⟨hap3, hap4⟩ := hap2
  have hc1 : w2.cell? ⟨b2, o2 + 1, none⟩ = some (.int .i64 b) := by
    obtain ⟨b3, o3, he, hc⟩ := hrow 1 _ rfl
    injection he with he
    injection he with h1 h2 h3
    subst h1 h2
    exact hc
  have hc2 : w2.cell? ⟨b2, o2 + 2, none⟩ = some (.int .i64 d) := by
    obtain ⟨b3, o3, he, hc⟩ := hrow 2 _ rfl
    injection he with he
    injection he with h1 h2 h3
    subst h1 h2
    exact hc
  simp only [Nat.add_zero] at hc0
  clear hq hrow hap
  go_wp2_with fail
  refine (CWb.out _).mono ?_
  rintro e w3 ⟨rfl, hw3⟩
  subst w3
  go_wp2_with fail
  refine (CWd.out _).mono ?_
  rintro e w3 ⟨rfl, hw3⟩
  subst w3
  go_wp2
  refine bodyPost_ret (v := .tuple #[.agg #[.int .i64 3, .int .i64 a, .int .i64 0, .int .u32 0, .int .u32 0], .int .i64 2]) (by simp [results, Tryd.results39, go_sem, *]) rfl ?_
  refine fatedPost_of ⟨3, a, 0, 0, 0⟩ 2 rfl rfl (by first | decide | exact (fun h => absurd h (by decide)) | exact fun _ => rfl) ?_
  · skip
    repeat (first | with_reducible refine Below.setCell ?_ (by first | exact Nat.le_refl _ | exact Nat.le_succ _) _ | with_reducible refine Below.drew ?_ | with_reducible refine below_drewN ?_ _)
    exact HB.out
set_option maxHeartbeats 3200000 in
set_option maxRecDepth 100000 in
theorem fated_bend_ok (s : ByteArray) (q0 : (s.toList == [103, 111]) = false) (q1 : (s.toList == [100, 114, 111, 112]) = false) (q2 : (s.toList == [116, 119, 105, 110]) = false) (q3 : (s.toList == [98, 101, 110, 100]) = true) (blk off n c : Nat) (w : World) (h0 : w.cell? ⟨blk, off, none⟩ = some (.string s)) (hn1 : 1 ≤ n) (hn2 : n ≤ 2000000) (a b d : Int) (A1 : Option Addr) (r : List (List UInt8)) (hn : n = 4) (hsl : ∀ W, (Instr.slice 56 (.slice (some ⟨blk, off, none⟩) n c) (some (.int .i64 1)) none none).run Tryd.prog W = .ok (.slice A1 (n - 1) (c - 1)) W) (hC : ∀ W, Below w.heap.size w W → Calls Tryd.prog 54 #[.slice A1 (n - 1) (c - 1)] W (NumsPost (numsL r) W)) (hN : numsL r = some [a, b, d]) (hx0 : -9223372036854775808 ≤ b) (hx1 : b ≤ 9223372036854775807) (hd0 : -9223372036854775808 ≤ d) (hd1 : d ≤ 9223372036854775807) (hw1 : wideN b = false) (hw2 : wideN d = false) (lb ld : Nat) (e1 : b % 4294967296 = (lb : Int)) (e2 : d % 4294967296 = (ld : Int)) :
    Calls Tryd.prog 39 #[.slice (some ⟨blk, off, none⟩) n c] w (FatedPost (⟨3, a, 0, lb, ld⟩, 0) w) := by
  obtain ⟨hz, hsz⟩ := zero_of_info (show (Tryd.prog.info? 26).map (fun i => (i.zero, i.size)) = some (some (.agg #[.int .i64 0, .int .i64 0, .int .i64 0, .int .u32 0, .int .u32 0]), 5) by kernel_rfl)
  subst hn
  simp only [Nat.reduceSub, Nat.sub_self] at hsl hC
  have hnb := World.new_ne w ⟨blk, off, none⟩ h0
  have hlt := World.block_lt_of_cell? _ _ h0
  have hne2 : ¬ blk = w.heap.size := by intro e; simp only at hlt; omega
  have hb1 : Below w.heap.size w ((w.alloc (.cells #[.int .i64 0, .int .i64 0, .int .i64 0, .int .u32 0, .int .u32 0] 26)).alloc (.cells #[.int .i64 3, .int .i64 0, .int .i64 0, .int .u32 0, .int .u32 0] 26)) := ((Below.refl _ _).alloc (Nat.le_refl _) _).alloc (by simp) _
  have C1 := hC _ hb1
  rw [hN] at C1
  unfold NumsPost at C1
  have C1 := Lib.hid (And.intro C1 hb1)
  have CWb := fun W => wordsWide b hx0 hx1 W
  have CWd := fun W => wordsWide d hd0 hd1 W
  rw [hw1] at CWb
  rw [hw2] at CWd
  have CWb := Lib.hid CWb
  have CWd := Lib.hid CWd
  clear hC hN hb1
  go_enter Tryd.func39, Tryd.ntmps39
  go_wp2_with fail
  refine C1.out.1.mono ?_
  rintro e w2 ⟨A2, c2, rfl, hap, hrow, hq⟩
  have u0 := (hq.cell (p := ⟨w.heap.size, 0, none⟩) (by simp <;> omega)).trans (show _ = some (.int .i64 0) by simp)
  have fu0 := (hq.frozen (p := ⟨w.heap.size, 0, none⟩) (by simp <;> omega)).trans (show _ = false by simp)
  have u1 := (hq.cell (p := ⟨w.heap.size, 1, none⟩) (by simp <;> omega)).trans (show _ = some (.int .i64 0) by simp)
  have fu1 := (hq.frozen (p := ⟨w.heap.size, 1, none⟩) (by simp <;> omega)).trans (show _ = false by simp)
  have u2 := (hq.cell (p := ⟨w.heap.size, 2, none⟩) (by simp <;> omega)).trans (show _ = some (.int .i64 0) by simp)
  have fu2 := (hq.frozen (p := ⟨w.heap.size, 2, none⟩) (by simp <;> omega)).trans (show _ = false by simp)
  have u3 := (hq.cell (p := ⟨w.heap.size, 3, none⟩) (by simp <;> omega)).trans (show _ = some (.int .u32 0) by simp)
  have fu3 := (hq.frozen (p := ⟨w.heap.size, 3, none⟩) (by simp <;> omega)).trans (show _ = false by simp)
  have u4 := (hq.cell (p := ⟨w.heap.size, 4, none⟩) (by simp <;> omega)).trans (show _ = some (.int .u32 0) by simp)
  have fu4 := (hq.frozen (p := ⟨w.heap.size, 4, none⟩) (by simp <;> omega)).trans (show _ = false by simp)
  have v0 := (hq.cell (p := ⟨w.heap.size + 1, 0, none⟩) (by simp <;> omega)).trans (show _ = some (.int .i64 3) by simp)
  have fv0 := (hq.frozen (p := ⟨w.heap.size + 1, 0, none⟩) (by simp <;> omega)).trans (show _ = false by simp)
  have v1 := (hq.cell (p := ⟨w.heap.size + 1, 1, none⟩) (by simp <;> omega)).trans (show _ = some (.int .i64 0) by simp)
  have fv1 := (hq.frozen (p := ⟨w.heap.size + 1, 1, none⟩) (by simp <;> omega)).trans (show _ = false by simp)
  have v2 := (hq.cell (p := ⟨w.heap.size + 1, 2, none⟩) (by simp <;> omega)).trans (show _ = some (.int .i64 0) by simp)
  have fv2 := (hq.frozen (p := ⟨w.heap.size + 1, 2, none⟩) (by simp <;> omega)).trans (show _ = false by simp)
  have v3 := (hq.cell (p := ⟨w.heap.size + 1, 3, none⟩) (by simp <;> omega)).trans (show _ = some (.int .u32 0) by simp)
  have fv3 := (hq.frozen (p := ⟨w.heap.size + 1, 3, none⟩) (by simp <;> omega)).trans (show _ = false by simp)
  have v4 := (hq.cell (p := ⟨w.heap.size + 1, 4, none⟩) (by simp <;> omega)).trans (show _ = some (.int .u32 0) by simp)
  have fv4 := (hq.frozen (p := ⟨w.heap.size + 1, 4, none⟩) (by simp <;> omega)).trans (show _ = false by simp)
  have HB := Lib.hid (C1.out.2.trans (hq.mono C1.out.2.size))
  obtain ⟨b2, o2, rfl, hc0⟩ := hrow 0 _ rfl
  have hap := hap _ rfl
  have hap2 : ¬ b2 = w.heap.size ∧ ¬ b2 = w.heap.size + 1 := by simp at hap; omega
  obtain ⟨hap3, hap4⟩ := hap2
  have hc1 : w2.cell? ⟨b2, o2 + 1, none⟩ = some (.int .i64 b) := by
    obtain ⟨b3, o3, he, hc⟩ := hrow 1 _ rfl
    injection he with he
    injection he with h1 h2 h3
    subst h1 h2
    exact hc
  have hc2 : w2.cell? ⟨b2, o2 + 2, none⟩ = some (.int .i64 d) := by
    obtain ⟨b3, o3, he, hc⟩ := hrow 2 _ rfl
    injection he with he
    injection he with h1 h2 h3
    subst h1 h2
    exact hc
  simp only [Nat.add_zero] at hc0
  clear hq hrow hap
  go_wp2_with fail
  refine (CWb.out _).mono ?_
  rintro e w3 ⟨rfl, hw3⟩
  subst w3
  go_wp2_with fail
  refine (CWd.out _).mono ?_
  rintro e w3 ⟨rfl, hw3⟩
  subst w3
  go_wp2_with fail
  go_big_region
  go_wp2
  refine bodyPost_ret (v := .tuple #[.agg #[.int .i64 3, .int .i64 a, .int .i64 0, .int .u32 (lb : Int), .int .u32 (ld : Int)], .int .i64 0]) (by simp [results, Tryd.results39, go_sem, *]) rfl ?_
  refine fatedPost_of ⟨3, a, 0, lb, ld⟩ 0 rfl rfl (by first | decide | exact (fun h => absurd h (by decide)) | exact fun _ => rfl) ?_
  · skip
    repeat (first | with_reducible refine Below.setCell ?_ (by first | exact Nat.le_refl _ | exact Nat.le_succ _) _ | with_reducible refine Below.drew ?_ | with_reducible refine below_drewN ?_ _)
    exact HB.out
theorem numsL_rng : ∀ (ws : List (List UInt8)) (l : List Int), numsL ws = some l → ∀ z ∈ l, -9223372036854775808 ≤ z ∧ z ≤ 9223372036854775807
  | [], l, h => by injection h with h; subst h; intro z hz; simp at hz
  | s :: r, l, h => by
    unfold numsL at h
    cases hs : numL s with
    | none => rw [hs] at h; cases h
    | some n =>
      cases hr : numsL r with
      | none => rw [hs, hr] at h; cases h
      | some l2 =>
        rw [hs, hr] at h
        injection h with h
        subst h
        intro z hz
        rcases List.mem_cons.1 hz with rfl | hz
        · exact (itoa_num hs).2
        · exact numsL_rng r l2 hr z hz
theorem wordsFated (ws : List (List UInt8)) (A : Option Addr) (n c : Nat) (hn : ws.length = n) (hm : n ≤ 1048577) (hc : n ≤ c) (hs : ∀ x ∈ ws, x.length ≤ 1048576) (w : World) (hA : RowAt w A (strV ws)) (hE : E7 w) :
    Calls Tryd.prog 39 #[.slice A n c] w (FatedPost (fatedW ws) w) := by
  cases ws with
  | nil => obtain rfl : 0 = n := hn; exact fated_nil A c w
  | cons v r =>
    have hn1 : 1 ≤ n := by rw [← hn]; simp
    obtain ⟨blk, off, rfl, hcell⟩ := hA 0 _ rfl
    obtain ⟨A1, hR, hsl⟩ := tail_slice n c hn hn1 hc hA
    have hrl : r.length = n - 1 := by rw [← hn]; simp
    have hC := fun (W : World) (hW : Below w.heap.size w W) => wordsNumbers r A1 (n - 1) (c - 1) hrl (by omega) (fun x hx => hs x (by simp [hx])) W (hR.keep hW) (hE.below hW)
    rw [Nat.add_zero] at hcell
    have q : ∀ l : List UInt8, ((⟨v.toArray⟩ : ByteArray).toList == l) = decide (v = l) := fun l => by rw [ByteArray.toList_eq, Bool.eq_iff_iff, beq_iff_eq, decide_eq_true_eq]
    obtain ⟨f0, f1, f2, f3, lo, hi⟩ := @fateK_eq v
    have hnn : ∀ m : Nat, r.length ≠ m → (n : Int) ≠ (m : Int) + 1 := fun m h e => h (by omega)
    have hne : ∀ m : Nat, r.length = m → n = m + 1 := fun m h => by omega
    by_cases k0 : v = wGo
    · subst k0
      have hk : fateK wGo = 0 := by decide
      by_cases hl : r.length = 1
      · cases hN : numsL r with
        | none =>
          rw [show fatedW (wGo :: r) = (Fa0, 5) by simp [fatedW, hk, manyF, hl, hN]]
          exact fated_go_bad _ (by rw [q]; decide) blk off n c w hcell hn1 (by omega) A1 r (hne 1 hl) hsl hC hN
        | some l =>
          have hll := (numsL_len hN).1
          rw [hl] at hll
          match l, hll, hN with
          | [a], _, hN =>
            rw [show fatedW (wGo :: r) = (⟨0, a, 0, 0, 0⟩, 0) by simp [fatedW, hk, manyF, hl, hN]]
            exact fated_go_ok _ (by rw [q]; decide) blk off n c w hcell hn1 (by omega) a A1 r (hne 1 hl) hsl hC hN
      · rw [show fatedW (wGo :: r) = (Fa0, 19) by simp [fatedW, hk, manyF, hl]]
        exact fated_go_len _ (by rw [q]; decide) blk off n c w hcell hn1 (by omega) (hnn 1 hl)
    by_cases k1 : v = wDrop
    · subst k1
      have hk : fateK wDrop = 1 := by decide
      by_cases hl : r.length = 0
      · obtain rfl : r = [] := List.eq_nil_of_length_eq_zero hl
        rw [show fatedW [wDrop] = (⟨1, 0, 0, 0, 0⟩, 0) by decide]
        exact fated_drop_ok _ (by rw [q]; decide) (by rw [q]; decide) blk off n c w hcell hn1 (by omega) A1 [] (hne 0 rfl) hsl hC rfl
      · rw [show fatedW (wDrop :: r) = (Fa0, 19) by simp [fatedW, hk, manyF]; intro h; exact absurd (by rw [h]; rfl) hl]
        exact fated_drop_len _ (by rw [q]; decide) (by rw [q]; decide) blk off n c w hcell hn1 (by omega) (hnn 0 hl)
    by_cases k2 : v = wTwin
    · subst k2
      have hk : fateK wTwin = 2 := by decide
      by_cases hl : r.length = 2
      · cases hN : numsL r with
        | none =>
          rw [show fatedW (wTwin :: r) = (Fa0, 5) by simp [fatedW, hk, manyF, hl, hN]]
          exact fated_twin_bad _ (by rw [q]; decide) (by rw [q]; decide) (by rw [q]; decide) blk off n c w hcell hn1 (by omega) A1 r (hne 2 hl) hsl hC hN
        | some l =>
          have hll := (numsL_len hN).1
          rw [hl] at hll
          match l, hll, hN with
          | [a, b], _, hN =>
            rw [show fatedW (wTwin :: r) = (⟨2, a, b, 0, 0⟩, 0) by simp [fatedW, hk, manyF, hl, hN]]
            exact fated_twin_ok _ (by rw [q]; decide) (by rw [q]; decide) (by rw [q]; decide) blk off n c w hcell hn1 (by omega) a b A1 r (hne 2 hl) hsl hC hN
      · rw [show fatedW (wTwin :: r) = (Fa0, 19) by simp [fatedW, hk, manyF, hl]]
        exact fated_twin_len _ (by rw [q]; decide) (by rw [q]; decide) (by rw [q]; decide) blk off n c w hcell hn1 (by omega) (hnn 2 hl)
    by_cases k3 : v = wBend
    · subst k3
      have hk : fateK wBend = 3 := by decide
      by_cases hl : r.length = 3
      · cases hN : numsL r with
        | none =>
          rw [show fatedW (wBend :: r) = (Fa0, 5) by simp [fatedW, hk, manyF, hl, hN]]
          exact fated_bend_bad _ (by rw [q]; decide) (by rw [q]; decide) (by rw [q]; decide) (by rw [q]; decide) blk off n c w hcell hn1 (by omega) A1 r (hne 3 hl) hsl hC hN
        | some l =>
          have hll := (numsL_len hN).1
          have hrg := numsL_rng r l hN
          rw [hl] at hll
          match l, hll, hN, hrg with
          | [a, b, d], _, hN, hrg =>
            obtain ⟨x0, x1⟩ := hrg b (by simp)
            obtain ⟨y0, y1⟩ := hrg d (by simp)
            cases hw1 : wideN b with
            | true =>
              rw [show fatedW (wBend :: r) = (Fa0, 2) by simp [fatedW, hk, manyF, hl, hN, hw1]]
              exact fated_bend_w1 _ (by rw [q]; decide) (by rw [q]; decide) (by rw [q]; decide) (by rw [q]; decide) blk off n c w hcell hn1 (by omega) a b d A1 r (hne 3 hl) hsl hC hN x0 x1 y0 y1 hw1
            | false =>
              cases hw2 : wideN d with
              | true =>
                rw [show fatedW (wBend :: r) = (Fa0, 2) by simp [fatedW, hk, manyF, hl, hN, hw1, hw2]]
                exact fated_bend_w2 _ (by rw [q]; decide) (by rw [q]; decide) (by rw [q]; decide) (by rw [q]; decide) blk off n c w hcell hn1 (by omega) a b d A1 r (hne 3 hl) hsl hC hN x0 x1 y0 y1 hw1 hw2
              | false =>
                rw [show fatedW (wBend :: r) = (⟨3, a, 0, lowN b, lowN d⟩, 0) by simp [fatedW, hk, manyF, hl, hN, hw1, hw2]]
                exact fated_bend_ok _ (by rw [q]; decide) (by rw [q]; decide) (by rw [q]; decide) (by rw [q]; decide) blk off n c w hcell hn1 (by omega) a b d A1 r (hne 3 hl) hsl hC hN x0 x1 y0 y1 hw1 hw2 _ _ (by unfold lowN; omega) (by unfold lowN; omega)
      · rw [show fatedW (wBend :: r) = (Fa0, 19) by simp [fatedW, hk, manyF, hl]]
        exact fated_bend_len _ (by rw [q]; decide) (by rw [q]; decide) (by rw [q]; decide) (by rw [q]; decide) blk off n c w hcell hn1 (by omega) (hnn 3 hl)
    · have hk : fateK v = -1 := by unfold fateK; rw [if_neg k0, if_neg k1, if_neg k2, if_neg k3]
      rw [show fatedW (v :: r) = (Fa0, 19) by simp [fatedW, hk]]
      exact fated_none _ (by rw [q]; exact decide_eq_false k0) (by rw [q]; exact decide_eq_false k1) (by rw [q]; exact decide_eq_false k2) (by rw [q]; exact decide_eq_false k3) blk off n c w hcell hn1 (by omega)
end Go.Proofs.YtndpdonlombodaaDoor
