/- buf.Writer.Fixed where there is room. -/
import Derived.Test.YtncmbbkcpmimjaaDoorBufE
namespace Go.Proofs.YtncmbbkcpmimjaaDoor
open Go.RowKit Law
set_option linter.unusedVariables false

theorem leB_take : ∀ (n m x : Nat), (leB (n + m) x).take n = leB n x
  | 0, _, _ => by simp [leB]
  | n + 1, m, x => by
    rw [show n + 1 + m = (n + m) + 1 by omega]
    show List.take (n + 1) (UInt8.ofNat (x % 256) :: leB (n + m) (x / 256)) = _
    rw [List.take_succ_cons, leB_take n m (x / 256)]
    rfl
theorem Fr.ahead {bw : Nat} {v : Value} {w w1 w' : World} (hb : Below w.heap.size w w1) (h : Fr bw v w1 w') : Fr bw v w w' :=
  ⟨h.os.trans hb.os, h.tape.trans hb.tape, h.output.trans hb.output, Nat.le_trans hb.size h.size, fun k hk hne hno => (h.block k (Nat.lt_of_lt_of_le hk hb.size) hne hno).trans (hb.block k hk)⟩
set_option maxHeartbeats 1600000 in
set_option maxRecDepth 100000 in
theorem wrFixed (bw base : Nat) (T : List UInt8) (v : Value) (x n : Nat) (hx : x < 18446744073709551616) (hn1 : 1 ≤ n) (hn8 : n ≤ 8) (w : World) (h : WrSt w bw base T v) (hr : T.length + n ≤ 400) :
    Calls Tryd.prog 38 #[.pointer (some ⟨bw, 0, none⟩), .int .u64 (x : Int), .int .i64 (n : Int)] w fun e w' => e = .returned (.tuple #[]) ∧ ∃ v', WrSt w' bw base (T ++ leB n x) v' ∧ Fr bw v w w' := by
  obtain ⟨hz, hsz⟩ := zero_of_info a8Zero
  have C := Lib.hid (unitBytes x hx w)
  have hl8 : (u8V (leB 8 x)).length = 8 := by unfold u8V; rw [List.length_map, leB_len]
  have hi8 : (Tryd.prog.info? 98).map (·.size) = some (u8V (leB 8 x)).length := by rw [hl8]; exact hsz
  have hX1 : (u8V (leB 8 x)).toArray.all (·.oneCell') = true := by
    rw [Array.all_eq_true_iff_forall_mem]
    intro v hv
    exact u8_one v (by simpa using hv)
  have hel : ∀ (j : Nat) (c : UInt8), (leB n x)[j]? = some c → (u8V (leB 8 x))[j]? = some (Value.int .u8 (c.toNat : Int)) := by
    intro j c hj
    have e := leB_take n (8 - n) x
    rw [show n + (8 - n) = 8 by omega] at e
    rw [← e, List.getElem?_take] at hj
    split at hj
    · unfold u8V; rw [List.getElem?_map, hj]; rfl
    · cases hj
  have HE := Lib.hid hel
  obtain ⟨X, hX⟩ : ∃ X, u8V (leB 8 x) = X := ⟨_, rfl⟩
  rw [hX] at C hl8 hi8 hX1 HE
  have HX := Lib.hid (And.intro hX1 (And.intro hl8 hi8))
  have H := Lib.hid h
  have hal : Tryd.prog.arrayLen 98 = 8 := by kernel_rfl
  have hsl : ∀ (B : Nat) (W : World), (Instr.sliceAt 98 (.pointer (some ⟨B, 0, none⟩)) none (some (.int .i64 (n : Int))) none).run Tryd.prog W = .ok (.slice (some ⟨B, 0, none⟩) n 8) W := fun B W => by
    rw [run_sliceAt_array_h W 98 ⟨B, 0, none⟩ (by simp [Program.arrayLen, Program.elem, Tryd.underlying98]) .i64 (n : Int) (by omega) (by rw [hal]; omega)]
    have he : Tryd.prog.elem 98 = 5 := by kernel_rfl
    rw [he, hal]
    simp [go_sem, Tryd.sizeOf5, Addr.add, slicedAt]
  clear hX hX1 hl8 hi8 hel h hal
  go_enter Tryd.func38, Tryd.ntmps38
  go_wp2_with fail
  refine C.out.mono ?_
  rintro e w1 ⟨rfl, hb1⟩
  have hR := RowBox.new w1 #[.int .u8 0, .int .u8 0, .int .u8 0, .int .u8 0, .int .u8 0, .int .u8 0, .int .u8 0, .int .u8 0] 98
  have hth : (w1.alloc (.cells #[.int .u8 0, .int .u8 0, .int .u8 0, .int .u8 0, .int .u8 0, .int .u8 0, .int .u8 0, .int .u8 0] 98)).there w1.heap.size 0 8 := fun j hj => by
    rw [Nat.zero_add]
    refine ⟨?_, hR.2 j hj⟩
    have := hR.1 j _ (List.getElem?_eq_getElem hj)
    rw [Nat.zero_add] at this
    rw [this]; rfl
  have HT := Lib.hid (And.intro hth hb1)
  clear hR hth hb1
  go_wp2_with (refine wpList_store_mid rfl 98 _ _ rfl w1.heap.size 0 X.toArray rfl rfl (by simpa [HX.out.2.1] using HT.out.1) (by simpa using HX.out.2.2) HX.out.1 ?_)
  have hb3 : Below w.heap.size w ((w1.alloc (.cells #[.int .u8 0, .int .u8 0, .int .u8 0, .int .u8 0, .int .u8 0, .int .u8 0, .int .u8 0, .int .u8 0] 98)).setCells w1.heap.size 0 X) := below_setCells HT.out.2.size _ _ _ (HT.out.2.alloc HT.out.2.size _)
  have hA3 : U8At ((w1.alloc (.cells #[.int .u8 0, .int .u8 0, .int .u8 0, .int .u8 0, .int .u8 0, .int .u8 0, .int .u8 0, .int .u8 0] 98)).setCells w1.heap.size 0 X) (some ⟨w1.heap.size, 0, none⟩) (leB n x) := fun j c hj =>
    ⟨w1.heap.size, 0, rfl, World.rangeAt_setCells_same _ _ _ _ (by rw [HX.out.2.1]; exact HT.out.1) j _ (HE.out j c hj)⟩
  have HB3 := Lib.hid hb3
  refine (wrByte bw base T v ⟨w1.heap.size, 0, none⟩ 8 (leB n x) (leB_len n x) _ (H.out.kept hb3) hr hA3).mono ?_
  rintro e w4 ⟨rfl, v', hw4, hfr⟩
  have HF := Lib.hid (And.intro hw4 (Fr.ahead HB3.out hfr))
  clear hw4 hfr hb3 hA3
  go_wp2
  go_end0
  exact ⟨rfl, v', HF.out⟩
end Go.Proofs.YtncmbbkcpmimjaaDoor
