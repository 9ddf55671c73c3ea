/- trace.Sum. -/
import Derived.Test.YtjnhkpjmjjhhdaaDoorTraceP
import Derived.Test.YtjnhkpjmjjhhdaaDoorCrcR
import Derived.Lib.AtoiErrMem
namespace Go.Proofs.YtjnhkpjmjjhhdaaDoor
open Go.RowKit Law
set_option linter.unusedVariables false

def sumOf (l : List UInt8) : Nat := notC (foldC 4294967295 l)
theorem sumOf_lt (l : List UInt8) : sumOf l < 4294967296 := notC_lt _
theorem sumOf_nil : sumOf [] = 0 := rfl
theorem sumOf_app (l m : List UInt8) : notC (foldC (notC (sumOf l)) m) = sumOf (l ++ m) := by
  unfold sumOf
  rw [notC_notC (foldC_lt l (by decide)), foldC_app]
theorem conv_bytes (s : ByteArray) (W : World) : (convert 9 41 (.string s)).run Tryd.prog W = .ok (.slice (some ⟨W.heap.size, 0, none⟩) s.size (grownCap W s.size 0 5)) (Lib.bytesWorld W 5 s) :=
  Lib.run_convert_string_bytes W _ _ _ s Tryd.underlying9 Tryd.underlying41 Tryd.underlying5
theorem bytes_at (l : List UInt8) (W : World) : U8At (Lib.bytesWorld W 5 ⟨l.toArray⟩) (some ⟨W.heap.size, 0, none⟩) l := fun k b hb => by
  refine ⟨_, _, rfl, ?_⟩
  have hk : k < l.length := (List.getElem?_eq_some_iff.1 hb).1
  rw [Nat.zero_add, Lib.bytesWorld_cell W 5 ⟨l.toArray⟩ k (by simpa [ByteArray.size] using hk)]
  simp [List.getD_eq_getElem?_getD, hb]
theorem line_nl (l : List UInt8) : (⟨l.toArray⟩ : ByteArray) ++ ⟨#[10]⟩ = ⟨(l ++ [10]).toArray⟩ := str_app l [10]
theorem crcMoreB (c : Nat) (hc : c < 4294967296) (cap : Nat) (l : List UInt8) (hm : l.length ≤ 1000000) (W : World) :
    Calls Tryd.prog 28 #[.int .u32 (c : Int), .slice (some ⟨W.heap.size, 0, none⟩) l.length cap] (Lib.bytesWorld W 5 ⟨l.toArray⟩) fun e w' => e = .returned (.int .u32 (notC (foldC (notC c) l) : Nat)) ∧ w' = Lib.bytesWorld W 5 ⟨l.toArray⟩ :=
  crcMore c hc _ cap l rfl hm _ (bytes_at l W)

set_option maxHeartbeats 1600000 in
theorem traceSum {n : Nat} (A : Option Addr) (c : Nat) (es : List Ev) (hn : es.length = n) (w : World) (hA : EvAt w A es) (hfit : ∀ e ∈ es, e.Fits) (hl : n ≤ 60) (h : Tabs w) :
    Calls Tryd.prog 18 #[.slice A n c] w fun e w' => e = .returned (.int .u32 (sumOf (printOf es) : Nat)) ∧ Below w.heap.size w w' := by
  have HN := Lib.hid hn
  have HT := Lib.hid h
  clear hn h
  go_enter Tryd.func18, Tryd.ntmps18
  go_wp2
  go_loopw [3, 8] (fun v i wr => ∃ k : Nat, k ≤ n ∧ i = .int .i64 k ∧ v = .int .u32 (sumOf (printOf (es.take k)) : Nat) ∧ Below w.heap.size w wr) (fun _ i _ => n - (intOf i).toNat)
  case atStart => exact ⟨0, Nat.zero_le _, rfl, by rw [List.take_zero, show printOf [] = [] from rfl, sumOf_nil]; rfl, Below.refl _ _⟩
  case round =>
    obtain ⟨k, hk, rfl, rfl, hb⟩ := hrel
    by_cases hlt : k < n
    · have hlt' : k < es.length := by rw [HN.out]; exact hlt
      obtain ⟨b, off, rfl, c0, c1, c2, c3, c4, c5, c6, c7⟩ := hA.at_ hb hlt'
      have hE := hfit es[k] (List.getElem_mem hlt')
      have hll := lineOf_len hE
      obtain ⟨m, hm⟩ : ∃ m, lineOf es[k] ++ [10] = m := ⟨_, rfl⟩
      have hl2 : m.length ≤ 1000000 := by rw [← hm]; simp; omega
      have HS : Hid (notC (foldC (notC (sumOf (printOf (es.take k)))) m) = sumOf (printOf (es.take (k + 1)))) := by
        unfold Hid
        rw [sumOf_app, printOf_snoc es k hlt', hm]
      have hb1 := Lib.hid (hb.alloc hb.size (.cells es[k].cells 32))
      have hsl := sumOf_lt (printOf (es.take k))
      have hnl := line_nl (lineOf es[k])
      rw [hm] at hnl
      clear hm
      have hcv := conv_bytes ⟨m.toArray⟩
      have HM := Lib.hid (fun cap W => crcMoreB (sumOf (printOf (es.take k))) hsl cap m hl2 W)
      generalize sumOf (printOf (es.take k)) = f at *
      go_wp2_with (go_at_call 15; refine (traceLineE es[k] hE _ (HT.out.below hb1.out)).mono ?_)
      rintro e w1 ⟨rfl, hq1⟩
      have hb2 := Lib.hid (hb1.out.trans (hq1.mono hb1.out.size))
      go_wp2_with (go_at_call 28; refine (HM.out _ w1).mono ?_)
      rintro e w2 ⟨rfl, rfl⟩
      go_wp2
      go_roundw
      case rel => exact ⟨k + 1, by omega, by go_num, by rw [HS.out], hb2.out.trans ((Lib.bytesWorld_below _ _ _).mono hb2.out.size)⟩
      case measure => simp [intOf]; omega
    · have ht : es.take k = es := List.take_of_length_le (by rw [HN.out]; omega)
      rw [ht]
      go_wp2
      go_ret
      exact ⟨rfl, hb⟩
end Go.Proofs.YtjnhkpjmjjhhdaaDoor
