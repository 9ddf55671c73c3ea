/- unit.Bytes: the eight bytes of a number, by value. -/
import Derived.Test.YtncmbbkcpmimjaaDoorBufB
namespace Go.Proofs.YtncmbbkcpmimjaaDoor
open Go.RowKit Law
set_option linter.unusedVariables false

def RowBox (w : World) (b : Nat) (cs : List Value) : Prop := w.rangeAt b 0 cs ∧ ∀ j, j < cs.length → w.frozen? ⟨b, j, none⟩ = false
theorem RowBox.set {w : World} {b : Nat} {cs : List Value} (h : RowBox w b cs) (j : Nat) (v : Value) (hj : j < cs.length) : RowBox (w.setCell ⟨b, j, none⟩ v) b (cs.set j v) := by
  refine ⟨fun i u hi => ?_, fun i hi => by rw [World.frozen?_setCell]; exact h.2 i (by simpa using hi)⟩
  rw [List.getElem?_set] at hi
  rw [Nat.zero_add]
  by_cases hij : j = i
  · subst hij
    rw [if_pos rfl, if_pos hj] at hi
    cases hi
    have h2 := h.1 j cs[j] (List.getElem?_eq_getElem hj)
    rw [Nat.zero_add] at h2
    exact World.cell?_setCell_same' _ _ _ (by rw [h2]; rfl)
  · rw [if_neg hij] at hi
    rw [World.cell?_setCell_other _ _ _ _ (fun e => by injection e with _ e2; omega)]
    have h2 := h.1 i u hi
    rwa [Nat.zero_add] at h2
theorem RowBox.new (w : World) (cs : Array Value) (t : TypeId) : RowBox (w.alloc (.cells cs t)) w.heap.size cs.toList :=
  ⟨fun j v hj => by rw [World.cell?_alloc_at _ _ _ _ rfl]; simpa using hj, fun j _ => by simp⟩
theorem RowBox.below {w w' : World} {b : Nat} {cs : List Value} (h : RowBox w b cs) (hlt : b < w.heap.size) (hb : Below w.heap.size w w') : RowBox w' b cs :=
  ⟨fun j v hj => (hb.cell (p := ⟨b, 0 + j, none⟩) hlt).trans (h.1 j v hj), fun j hj => (hb.frozen (p := ⟨b, j, none⟩) hlt).trans (h.2 j hj)⟩
/-- The bytes that are there already, and noughts. -/
def upB (k x : Nat) : List Value := u8V (leB k x) ++ List.replicate (8 - k) (.int .u8 0)
theorem upB_len {k : Nat} (hk : k ≤ 8) (x : Nat) : (upB k x).length = 8 := by
  unfold upB u8V
  rw [List.length_append, List.length_map, leB_len, List.length_replicate]
  omega
theorem upB_set {k : Nat} (hk : k < 8) (x : Nat) : (upB k x).set k (.int .u8 ((UInt8.ofNat (x / 256 ^ k % 256)).toNat : Int)) = upB (k + 1) x := by
  unfold upB
  have hl : (u8V (leB k x)).length = k := by unfold u8V; rw [List.length_map, leB_len]
  rw [leB_snoc, u8V_snoc, List.set_append_right _ _ (by omega), hl, Nat.sub_self]
  obtain ⟨m, hm⟩ : ∃ m, 8 - k = m + 1 := ⟨7 - k, by omega⟩
  rw [hm, show 8 - (k + 1) = m by omega, List.replicate_succ, List.set_cons_zero, List.append_assoc]
  rfl
theorem b8_of (y : Nat) : ((UInt8.ofNat (y % 256)).toNat : Int) = ((y % 256 : Nat) : Int) := by
  rw [UInt8.toNat_ofNat']
  omega
set_option maxHeartbeats 3200000 in
set_option maxRecDepth 100000 in
theorem unitBytes (x : Nat) (hx : x < 18446744073709551616) (w : World) :
    Calls Tryd.prog 57 #[.int .u64 (x : Int)] w fun e w' => e = .returned (.agg (u8V (leB 8 x)).toArray) ∧ Below w.heap.size w w' := by
  obtain ⟨hz, hsz⟩ := zero_of_info a8Zero
  have hR := RowBox.new (w.alloc (.cells #[.int .u8 0, .int .u8 0, .int .u8 0, .int .u8 0, .int .u8 0, .int .u8 0, .int .u8 0, .int .u8 0] 98)) #[.int .u8 0, .int .u8 0, .int .u8 0, .int .u8 0, .int .u8 0, .int .u8 0, .int .u8 0, .int .u8 0] 98
  have hR0 : RowBox ((w.alloc (.cells #[.int .u8 0, .int .u8 0, .int .u8 0, .int .u8 0, .int .u8 0, .int .u8 0, .int .u8 0, .int .u8 0] 98)).alloc (.cells #[.int .u8 0, .int .u8 0, .int .u8 0, .int .u8 0, .int .u8 0, .int .u8 0, .int .u8 0, .int .u8 0] 98)) (w.heap.size + 1) (upB 0 x) := by
    rw [World.size_alloc] at hR
    exact hR
  have HR := Lib.hid hR0
  clear hR hR0
  go_enter Tryd.func57, Tryd.ntmps57
  go_wp2
  go_loopw [5] (fun i wr => ∃ k : Nat, k ≤ 8 ∧ i = .int .i64 k ∧ RowBox wr (w.heap.size + 1) (upB k x) ∧ Below (w.heap.size + 1) (w.alloc (.cells #[.int .u8 0, .int .u8 0, .int .u8 0, .int .u8 0, .int .u8 0, .int .u8 0, .int .u8 0, .int .u8 0] 98)) wr) (fun i _ => 8 - (intOf i).toNat)
  case atStart => exact ⟨0, Nat.zero_le _, rfl, HR.out, (Below.refl _ _).alloc (by simp) _⟩
  case round =>
    obtain ⟨k, hk, rfl, hrow, hb⟩ := hrel
    by_cases hlt : k < 8
    · have hS := Lib.hid (hrow.set k (.int .u8 ((UInt8.ofNat (x / 256 ^ k % 256)).toNat : Int)) (by rw [upB_len hk]; exact hlt))
      have hEQ := Lib.hid (upB_set hlt x)
      have h0 : ∃ v0, wr.cell? ⟨w.heap.size + 1, k, none⟩ = some v0 := by
        have := hrow.1 k ((upB k x)[k]'(by rw [upB_len hk]; exact hlt)) (List.getElem?_eq_getElem _)
        rw [Nat.zero_add] at this
        exact ⟨_, this⟩
      obtain ⟨v0, h0⟩ := h0
      have g0 := hrow.2 k (by rw [upB_len hk]; exact hlt)
      have HB := Lib.hid hb
      rw [b8_of] at hS
      clear hrow hb
      have h8 : k = 0 ∨ k = 1 ∨ k = 2 ∨ k = 3 ∨ k = 4 ∨ k = 5 ∨ k = 6 ∨ k = 7 := by omega
      rcases h8 with rfl | rfl | rfl | rfl | rfl | rfl | rfl | rfl
      · obtain ⟨d, hd⟩ : ∃ d, x / 256 ^ 0 % 256 = d := ⟨_, rfl⟩
        have hw : IntKind.u8.wrap (x : Int) = (d : Int) := by rw [IntKind.wrap_u8]; omega
        rw [hd] at hS
        have HD := Lib.hid hd
        clear hd
        go_wp2
        go_roundw
        case rel =>
          refine ⟨1, by omega, by go_num, ?_, HB.out.setCell (p := ⟨w.heap.size + 1, 0, none⟩) (Nat.le_refl _) _⟩
          rw [← hEQ.out, b8_of, HD.out]
          exact hS.out
        case measure => simp [intOf]
      · obtain ⟨d, hd⟩ : ∃ d, x / 256 ^ 1 % 256 = d := ⟨_, rfl⟩
        have hw : IntKind.u8.wrap ((x : Int) / 256) = (d : Int) := by rw [IntKind.wrap_u8]; omega
        rw [hd] at hS
        have HD := Lib.hid hd
        clear hd
        go_wp2
        go_roundw
        case rel =>
          refine ⟨2, by omega, by go_num, ?_, HB.out.setCell (p := ⟨w.heap.size + 1, 1, none⟩) (Nat.le_refl _) _⟩
          rw [← hEQ.out, b8_of, HD.out]
          exact hS.out
        case measure => simp [intOf]
      · obtain ⟨d, hd⟩ : ∃ d, x / 256 ^ 2 % 256 = d := ⟨_, rfl⟩
        have hw : IntKind.u8.wrap ((x : Int) / 65536) = (d : Int) := by rw [IntKind.wrap_u8]; omega
        rw [hd] at hS
        have HD := Lib.hid hd
        clear hd
        go_wp2
        go_roundw
        case rel =>
          refine ⟨3, by omega, by go_num, ?_, HB.out.setCell (p := ⟨w.heap.size + 1, 2, none⟩) (Nat.le_refl _) _⟩
          rw [← hEQ.out, b8_of, HD.out]
          exact hS.out
        case measure => simp [intOf]
      · obtain ⟨d, hd⟩ : ∃ d, x / 256 ^ 3 % 256 = d := ⟨_, rfl⟩
        have hw : IntKind.u8.wrap ((x : Int) / 16777216) = (d : Int) := by rw [IntKind.wrap_u8]; omega
        rw [hd] at hS
        have HD := Lib.hid hd
        clear hd
        go_wp2
        go_roundw
        case rel =>
          refine ⟨4, by omega, by go_num, ?_, HB.out.setCell (p := ⟨w.heap.size + 1, 3, none⟩) (Nat.le_refl _) _⟩
          rw [← hEQ.out, b8_of, HD.out]
          exact hS.out
        case measure => simp [intOf]
      · obtain ⟨d, hd⟩ : ∃ d, x / 256 ^ 4 % 256 = d := ⟨_, rfl⟩
        have hw : IntKind.u8.wrap ((x : Int) / 4294967296) = (d : Int) := by rw [IntKind.wrap_u8]; omega
        rw [hd] at hS
        have HD := Lib.hid hd
        clear hd
        go_wp2
        go_roundw
        case rel =>
          refine ⟨5, by omega, by go_num, ?_, HB.out.setCell (p := ⟨w.heap.size + 1, 4, none⟩) (Nat.le_refl _) _⟩
          rw [← hEQ.out, b8_of, HD.out]
          exact hS.out
        case measure => simp [intOf]
      · obtain ⟨d, hd⟩ : ∃ d, x / 256 ^ 5 % 256 = d := ⟨_, rfl⟩
        have hw : IntKind.u8.wrap ((x : Int) / 1099511627776) = (d : Int) := by rw [IntKind.wrap_u8]; omega
        rw [hd] at hS
        have HD := Lib.hid hd
        clear hd
        go_wp2
        go_roundw
        case rel =>
          refine ⟨6, by omega, by go_num, ?_, HB.out.setCell (p := ⟨w.heap.size + 1, 5, none⟩) (Nat.le_refl _) _⟩
          rw [← hEQ.out, b8_of, HD.out]
          exact hS.out
        case measure => simp [intOf]
      · obtain ⟨d, hd⟩ : ∃ d, x / 256 ^ 6 % 256 = d := ⟨_, rfl⟩
        have hw : IntKind.u8.wrap ((x : Int) / 281474976710656) = (d : Int) := by rw [IntKind.wrap_u8]; omega
        rw [hd] at hS
        have HD := Lib.hid hd
        clear hd
        go_wp2
        go_roundw
        case rel =>
          refine ⟨7, by omega, by go_num, ?_, HB.out.setCell (p := ⟨w.heap.size + 1, 6, none⟩) (Nat.le_refl _) _⟩
          rw [← hEQ.out, b8_of, HD.out]
          exact hS.out
        case measure => simp [intOf]
      · obtain ⟨d, hd⟩ : ∃ d, x / 256 ^ 7 % 256 = d := ⟨_, rfl⟩
        have hw : IntKind.u8.wrap ((x : Int) / 72057594037927936) = (d : Int) := by rw [IntKind.wrap_u8]; omega
        rw [hd] at hS
        have HD := Lib.hid hd
        clear hd
        go_wp2
        go_roundw
        case rel =>
          refine ⟨8, by omega, by go_num, ?_, HB.out.setCell (p := ⟨w.heap.size + 1, 7, none⟩) (Nat.le_refl _) _⟩
          rw [← hEQ.out, b8_of, HD.out]
          exact hS.out
        case measure => simp [intOf]
    · obtain rfl : k = 8 := by omega
      have h8 : upB 8 x = u8V (leB 8 x) := by unfold upB; simp
      rw [h8] at hrow
      have hl8 : (u8V (leB 8 x)).length = 8 := by unfold u8V; rw [List.length_map, leB_len]
      have hi8 : (Tryd.prog.info? 98).map (·.size) = some (u8V (leB 8 x)).length := by rw [hl8]; exact hsz
      have hth : wr.there w.heap.size 0 8 := fun j hj => by
        rw [Nat.zero_add]
        have h1 := hb.cell (p := ⟨w.heap.size, j, none⟩) (by simp)
        have h2 := hb.frozen (p := ⟨w.heap.size, j, none⟩) (by simp)
        have h3 : (w.alloc (.cells #[.int .u8 0, .int .u8 0, .int .u8 0, .int .u8 0, .int .u8 0, .int .u8 0, .int .u8 0, .int .u8 0] 98)).cell? ⟨w.heap.size, j, none⟩ = #[Value.int .u8 0, .int .u8 0, .int .u8 0, .int .u8 0, .int .u8 0, .int .u8 0, .int .u8 0, .int .u8 0][j]? := World.cell?_alloc_at _ _ _ _ rfl
        refine ⟨?_, by rw [h2]; simp⟩
        rw [h1, h3]
        simp [hj]
      obtain ⟨X, hX⟩ : ∃ X, u8V (leB 8 x) = X := ⟨_, rfl⟩
      rw [hX] at hrow hl8 hi8
      have HXE := Lib.hid hX
      have hX1 : X.toArray.all (·.oneCell') = true := by
        rw [Array.all_eq_true_iff_forall_mem]
        intro v hv
        rw [← hX] at hv
        exact u8_one v (by simpa using hv)
      have HB := Lib.hid (And.intro hrow.1 (And.intro hth hb))
      have HX := Lib.hid (And.intro hX1 (And.intro hl8 hi8))
      clear hX hrow hth hb hX1 hl8 hi8 h8
      go_wp2_with (first | (refine wpList_load_mid rfl 98 _ rfl (w.heap.size + 1) 0 rfl X _ HB.out.1 Tryd.underlying98 rfl HX.out.2.2 ?_) | (refine wpList_store_mid rfl 98 _ _ rfl w.heap.size 0 X.toArray rfl rfl (by simpa [HX.out.2.1] using HB.out.2.1) (by simpa using HX.out.2.2) HX.out.1 ?_))
      have hld := run_loadVar_mid (P := Tryd.prog) (wr.setCells w.heap.size 0 X) w.heap.size 0 98 X _ (World.rangeAt_setCells_same _ _ _ _ (by rw [HX.out.2.1]; exact HB.out.2.1)) Tryd.underlying98 rfl HX.out.2.2
      refine bodyPost_ret (v := .agg X.toArray) (by simp [results, Tryd.results57, asAddr, hld, Act.put]) rfl ⟨by rw [HXE.out], ?_⟩
      refine below_setCells (Nat.le_refl _) _ _ _ ?_
      exact ((Below.refl _ w).alloc (Nat.le_refl _) _).trans (HB.out.2.2.mono (by simp))
end Go.Proofs.YtncmbbkcpmimjaaDoor
