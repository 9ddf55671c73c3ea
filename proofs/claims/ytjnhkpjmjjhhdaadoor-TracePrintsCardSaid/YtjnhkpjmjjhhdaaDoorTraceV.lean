/- The reference's Print, and TracePrints. -/
import Derived.Test.YtjnhkpjmjjhhdaaDoorTraceR
namespace Go.Proofs.YtjnhkpjmjjhhdaaDoor
open Go.RowKit Law
set_option linter.unusedVariables false

theorem refLineE (e : Ev) (he : e.Fits) (w : World) : Calls Tryd.prog 16 #[.agg #[.int .i64 e.tick, .int .i64 e.node, .int .i64 e.kind, .int .i64 e.key.t, .int .i64 e.key.f, .int .u32 e.key.s, .int .i64 e.no, .int .i64 e.err]] w fun r w' => r = .returned (.string ⟨(lineOf e).toArray⟩) ∧ Below w.heap.size w w' := refLine e he w
theorem print_arr (p l : List UInt8) : (⟨p.toArray⟩ : ByteArray) ++ ⟨l.toArray⟩ ++ ⟨#[10]⟩ = ⟨(p ++ (l ++ [10])).toArray⟩ := by
  apply ByteArray.ext
  simp
set_option maxHeartbeats 1600000 in
theorem refPrint {n : Nat} (A : Option Addr) (c : Nat) (es : List Ev) (hn : es.length = n) (w : World) (hA : EvAt w A es) (hfit : ∀ e ∈ es, e.Fits) (hl : n ≤ 60) :
    Calls Tryd.prog 17 #[.slice A n c] w fun e w' => e = .returned (.string ⟨(printOf es).toArray⟩) ∧ Below w.heap.size w w' := by
  have HN := Lib.hid hn
  clear hn
  go_enter Tryd.func17, Tryd.ntmps17
  go_wp2
  go_loopw [3, 4] (fun v i wr => ∃ k : Nat, k ≤ n ∧ i = .int .i64 k ∧ v = .string ⟨(printOf (es.take k)).toArray⟩ ∧ Below w.heap.size w wr) (fun _ i _ => n - (intOf i).toNat)
  case atStart => exact ⟨0, Nat.zero_le _, rfl, rfl, Below.refl _ _⟩
  case round =>
    obtain ⟨k, hk, rfl, rfl, hb⟩ := hrel
    by_cases hlt : k < n
    · have hlt' : k < es.length := by rw [HN.out]; exact hlt
      obtain ⟨b, off, rfl, c0, c1, c2, c3, c4, c5, c6, c7⟩ := hA.at_ hb hlt'
      have hE := hfit es[k] (List.getElem_mem hlt')
      have hll := lineOf_len hE
      have hpl := printOf_take_len hfit k (by omega)
      have hsn := Lib.hid (printOf_snoc es k hlt')
      have hpa := Lib.hid (print_arr (printOf (es.take k)) (lineOf es[k]))
      have HE := Lib.hid (fun wx => refLineE es[k] hE wx)
      generalize printOf (es.take k) = p at *
      go_wp2_with (go_at_call 16; refine (HE.out _).mono ?_; rintro e w1 ⟨rfl, hq1⟩)
      go_roundw
      case rel => exact ⟨k + 1, by omega, by go_num, by rw [hsn.out, ← hpa.out], hb.trans (hq1.mono hb.size)⟩
      case measure => simp [intOf]; omega
    · have ht : es.take k = es := List.take_of_length_le (by rw [HN.out]; omega)
      rw [ht]
      go_wp2
      go_ret
      exact ⟨rfl, hb⟩

theorem refSumB (cap : Nat) (l : List UInt8) (hm : l.length ≤ 1000000) (W : World) :
    Calls Tryd.prog 19 #[.slice (some ⟨W.heap.size, 0, none⟩) l.length cap] (Lib.bytesWorld W 5 ⟨l.toArray⟩) fun e w' => e = .returned (.int .u32 (sumOf l : Nat)) ∧ w' = Lib.bytesWorld W 5 ⟨l.toArray⟩ :=
  refSum _ cap l rfl hm _ (bytes_at l W)

set_option maxHeartbeats 3200000 in
theorem walkPrints (len n : Nat) (A : Option Addr) (c : Nat) (es : List Ev) (hn : es.length = n) (hmin : min (len : Int) 60 = (n : Int)) (hc : len ≤ c) (hm : c ≤ maxLen) (w : World) (hA : EvAt w A es) (hfit : ∀ e ∈ es, e.Fits) (h : Tabs w) :
    Calls Tryd.prog 6 #[.slice A len c] w fun e w' => e = .returned (.bool true) ∧ Below w.heap.size w w' := by
  unfold maxLen at hm
  have hn60 : n ≤ 60 := by omega
  have hmax : max (n : Int) 0 = (n : Int) := by omega
  have HN := Lib.hid hn
  have HT := Lib.hid h
  clear h hn
  go_enter Tryd.func6, Tryd.ntmps6
  go_wp2_with fail
  go_loopw [13] (fun i wr => ∃ k : Nat, k ≤ n ∧ i = .int .i64 k ∧ Below w.heap.size w wr) (fun i _ => n - (intOf i).toNat)
  case atStart => exact ⟨0, Nat.zero_le _, rfl, Below.refl _ _⟩
  case round =>
    obtain ⟨k, hk, rfl, hb⟩ := hrel
    by_cases hlt : k < n
    · have hlt' : k < es.length := by rw [HN.out]; exact hlt
      obtain ⟨b, off, rfl, c0, c1, c2, c3, c4, c5, c6, c7⟩ := hA.at_ hb hlt'
      have hE := hfit es[k] (List.getElem_mem hlt')
      have hb1 := Lib.hid (hb.alloc hb.size (.cells es[k].cells 32))
      have hT := HT.out.below hb1.out
      have C1 := fun W : Later (wr.alloc (.cells es[k].cells 32)) => traceLineE es[k] hE W.val (hT.later W)
      have C2 := fun W : Later (wr.alloc (.cells es[k].cells 32)) => refLineE es[k] hE W.val
      have HC := Lib.hid (And.intro C1 C2)
      have c8 : ∀ W : Later (wr.alloc (.cells es[k].cells 32)),
        W.val.cell? ⟨wr.heap.size, 0, none⟩ = some (.int .i64 es[k].tick) ∧ W.val.cell? ⟨wr.heap.size, 1, none⟩ = some (.int .i64 es[k].node) ∧ W.val.cell? ⟨wr.heap.size, 2, none⟩ = some (.int .i64 es[k].kind) ∧
        W.val.cell? ⟨wr.heap.size, 3, none⟩ = some (.int .i64 es[k].key.t) ∧ W.val.cell? ⟨wr.heap.size, 4, none⟩ = some (.int .i64 es[k].key.f) ∧ W.val.cell? ⟨wr.heap.size, 5, none⟩ = some (.int .u32 es[k].key.s) ∧
        W.val.cell? ⟨wr.heap.size, 6, none⟩ = some (.int .i64 es[k].no) ∧ W.val.cell? ⟨wr.heap.size, 7, none⟩ = some (.int .i64 es[k].err) :=
        fun W => ⟨Later.cell (by simp [Ev.cells]) W, Later.cell (by simp [Ev.cells]) W, Later.cell (by simp [Ev.cells]) W, Later.cell (by simp [Ev.cells]) W, Later.cell (by simp [Ev.cells]) W, Later.cell (by simp [Ev.cells]) W, Later.cell (by simp [Ev.cells]) W, Later.cell (by simp [Ev.cells]) W⟩
      clear C1 C2 hT
      unfold Ev.cells at *
      go_wp2_with fail
      refine wp_region_later (by kernel_rfl) (by kernel_rfl) ?_
      go_big_quiet_step (fail)
      go_big_quiet_step (exact later_of (HC.out.1 _))
      go_big_quiet_step (fail)
      go_big_quiet_step (exact later_of (HC.out.2 _))
      repeat (go_big_quiet_step (fail))
      refine wpQuiet_nil ?_
      rintro _ ⟨⟨W, hW⟩, rfl⟩
      clear c8
      have hb2 := Lib.hid (hb1.out.trans (hW.mono hb1.out.size))
      go_wp2_with fail
      go_roundw
      case rel => exact ⟨k + 1, by omega, by go_num, hb2.out⟩
      case measure => simp [intOf]; omega
    · have hpl := printOf_len es hfit
      rw [HN.out] at hpl
      have HP := Lib.hid (refPrint A c es HN.out _ (hA.below hb) hfit hn60)
      have HQ := Lib.hid (fun wx (hbx : Below w.heap.size w wx) => tracePrint A c es HN.out wx (hA.below hbx) hfit hn60 (HT.out.below hbx))
      have HS := Lib.hid (fun wx (hbx : Below w.heap.size w wx) => traceSum A c es HN.out wx (hA.below hbx) hfit hn60 (HT.out.below hbx))
      have hfit' := Lib.hid hfit
      clear hA hfit
      generalize printOf es = pl at *
      have hcv := conv_bytes ⟨pl.toArray⟩
      have HR := Lib.hid (fun cap W => refSumB cap pl (by omega) W)
      go_wp2_with (go_at_call 17; refine HP.out.mono ?_)
      rintro e w1 ⟨rfl, hq1⟩
      have hb1 := Lib.hid (hb.trans (hq1.mono hb.size))
      go_wp2_with (go_at_call 14; refine (HQ.out _ hb1.out).mono ?_)
      rintro e w2 ⟨rfl, hq2⟩
      have hb2 := Lib.hid (hb1.out.trans (hq2.mono hb1.out.size))
      go_wp2_with (go_at_call 18; refine (HS.out _ hb2.out).mono ?_)
      rintro e w3 ⟨rfl, hq3⟩
      have hb3 := Lib.hid (hb2.out.trans (hq3.mono hb2.out.size))
      go_wp2_with (go_at_call 19; refine (HR.out _ w3).mono ?_)
      rintro e w4 ⟨rfl, rfl⟩
      have hb4 := Lib.hid (hb3.out.trans ((Lib.bytesWorld_below w3 5 ⟨pl.toArray⟩).mono hb3.out.size))
      go_wp2_with (go_at_call 11; refine (works50 _ (HT.out.below hb4.out)).mono ?_)
      rintro e w5 ⟨rfl, hq5⟩
      go_wp2
      go_ret
      exact ⟨rfl, hb4.out.trans (hq5.mono hb4.out.size)⟩
end Go.Proofs.YtjnhkpjmjjhhdaaDoor
