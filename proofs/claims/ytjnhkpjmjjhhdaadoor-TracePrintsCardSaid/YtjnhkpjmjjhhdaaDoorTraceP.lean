/- trace.Print: the lines of a slice of events, through a strings.Builder. -/
import Derived.Test.YtjnhkpjmjjhhdaaDoorTraceD
import Derived.Test.YtjnhkpjmjjhhdaaDoorBuild
namespace Go.Proofs.YtjnhkpjmjjhhdaaDoor
open Go.RowKit Law
set_option linter.unusedVariables false

theorem IsB.below {B b : Nat} {bs : List Value} {w w' : World} (h : IsB B b bs w) (hb : Below w.heap.size w w') : IsB B b bs w' := by
  have H : ∀ p, Lib.BuilderAtF 48 5 B b p bs w → Lib.BuilderAtF 48 5 B b p bs w' := by
    rintro p h1
    have hlt := h1.lt
    obtain ⟨hB, v, hbk, hown, hne⟩ := h1
    refine ⟨hB, v, by rw [hb.block b hlt]; exact hbk, ?_, hne⟩
    exact hown.kept (row := none) ⟨hb.os, hb.tape, hb.output, hb.size, fun i hi _ => hb.block i hi⟩ (by cases hv : v.ownBlock <;> simp)
  exact h.elim (fun x => .inl (H _ x)) (fun x => .inr (H _ x))
theorem AtB.is {B b : Nat} {bs : List Value} {w : World} (h : AtB B b bs w) : IsB B b bs w := .inr h

def printOf (es : List Ev) : List UInt8 := es.flatMap fun e => lineOf e ++ [10]
theorem printOf_snoc (es : List Ev) (k : Nat) (hk : k < es.length) : printOf (es.take (k + 1)) = printOf (es.take k) ++ (lineOf es[k] ++ [10]) := by
  unfold printOf
  rw [List.take_succ_eq_append_getElem hk, List.flatMap_append]
  simp
theorem lineOf_len {e : Ev} (h : e.Fits) : (lineOf e).length ≤ 150 := by
  have l1 := itoa_len h.tick.1 h.tick.2
  have l2 := itoa_len h.node.1 h.node.2
  have l3 := nameOf_len e.kind
  have l4 := moreOf_len h
  unfold lineOf
  simp only [List.length_append, List.length_cons, List.length_nil]
  omega
theorem printOf_len : ∀ (es : List Ev), (∀ e ∈ es, e.Fits) → (printOf es).length ≤ 151 * es.length
  | [], _ => by simp [printOf]
  | e :: es, h => by
    have h1 := lineOf_len (h e (by simp))
    have h2 := printOf_len es (fun x hx => h x (by simp [hx]))
    have : printOf (e :: es) = (lineOf e ++ [10]) ++ printOf es := by simp [printOf]
    rw [this]
    simp only [List.length_append, List.length_cons, List.length_nil]
    omega
theorem printOf_take_len {es : List Ev} (h : ∀ e ∈ es, e.Fits) (k : Nat) (hk : k ≤ 60) : (printOf (es.take k)).length ≤ 9060 := by
  have h1 := printOf_len (es.take k) (fun e he => h e (List.mem_of_mem_take he))
  have h2 : (es.take k).length ≤ k := List.length_take_le _ _
  omega
theorem cells_line (l m : List UInt8) : (Lib.byteCells l ++ Lib.strCells ⟨m.toArray⟩) ++ [.int .u8 10] = Lib.byteCells (l ++ (m ++ [10])) := by
  rw [byteCells_str, byteCells_app]
  simp [Lib.byteCells]
theorem traceLineE (e : Ev) (he : e.Fits) (w : World) (h : Tabs w) : Calls Tryd.prog 15 #[.agg #[.int .i64 e.tick, .int .i64 e.node, .int .i64 e.kind, .int .i64 e.key.t, .int .i64 e.key.f, .int .u32 e.key.s, .int .i64 e.no, .int .i64 e.err]] w fun r w' => r = .returned (.string ⟨(lineOf e).toArray⟩) ∧ Below w.heap.size w w' := traceLine e he w h

set_option maxHeartbeats 1600000 in
theorem tracePrint {n : Nat} (A : Option Addr) (c : Nat) (es : List Ev) (hn : es.length = n) (w : World) (hA : EvAt w A es) (hfit : ∀ e ∈ es, e.Fits) (hl : n ≤ 60) (h : Tabs w) :
    Calls Tryd.prog 14 #[.slice A n c] w fun e w' => e = .returned (.string ⟨(printOf es).toArray⟩) ∧ Below w.heap.size w w' := by
  have HN := Lib.hid hn
  have HT := Lib.hid h
  clear hn h
  have hB0 := newB w
  have hbB : Below w.heap.size w (w.alloc (.cells #[.pointer none, .slice none 0 0] 48)) := (Below.refl _ w).alloc (Nat.le_refl _) _
  go_enter Tryd.func14, Tryd.ntmps14
  go_wp2
  go_loopw [8] (fun i wr => ∃ k : Nat, k ≤ n ∧ i = .int .i64 k ∧ IsB w.heap.size w.heap.size (Lib.byteCells (printOf (es.take k))) wr ∧ Below w.heap.size w wr) (fun i _ => n - (intOf i).toNat)
  case atStart => exact ⟨0, Nat.zero_le _, rfl, hB0, hbB⟩
  case round =>
    obtain ⟨k, hk, rfl, hIs, hb⟩ := hrel
    clear hB0 hbB
    by_cases hlt : k < n
    · have hlt' : k < es.length := by rw [HN.out]; exact hlt
      obtain ⟨b, off, rfl, c0, c1, c2, c3, c4, c5, c6, c7⟩ := hA.at_ hb hlt'
      have hsn := Lib.hid (printOf_snoc es k hlt')
      have hE := hfit es[k] (List.getElem_mem hlt')
      have hll := lineOf_len hE
      have hpl := printOf_take_len hfit k (by omega)
      have hIs1 := Lib.hid (hIs.alloc (.cells es[k].cells 32))
      have hb1 := Lib.hid (hb.alloc hb.size (.cells es[k].cells 32))
      have hL1 : (Lib.byteCells (printOf (es.take k))).length + (⟨(lineOf es[k]).toArray⟩ : ByteArray).size ≤ 140737488355328 := by
        rw [Lib.byteCells_length, ByteArray.size]
        simp only [List.size_toArray]
        omega
      have hL2 : (Lib.byteCells (printOf (es.take k)) ++ Lib.strCells ⟨(lineOf es[k]).toArray⟩).length + 1 ≤ 140737488355328 := by
        rw [List.length_append, Lib.byteCells_length, Lib.strCells_length, ByteArray.size]
        simp only [List.size_toArray]
        omega
      clear hIs
      go_wp2_with (go_at_call 15; refine (traceLineE es[k] hE _ (HT.out.below hb1.out)).mono ?_)
      rintro e w1 ⟨rfl, hq1⟩
      have hIs2 := Lib.hid (IsB.below hIs1.out hq1)
      have hb2 := Lib.hid (hb1.out.trans (hq1.mono hb1.out.size))
      go_wp2_with (go_at_call 20; refine (writeString w.heap.size w.heap.size _ _ _ hIs2.out hL1 hb2.out.size).mono ?_)
      rintro e w2 ⟨rfl, hA3, hq2, -⟩
      have hIs3 := Lib.hid (AtB.is hA3)
      have hb3 := Lib.hid (hb2.out.trans hq2)
      go_wp2_with (go_at_call 21; refine (writeByte w.heap.size w.heap.size _ _ _ hIs3.out hL2 hb3.out.size).mono ?_)
      rintro e w3 ⟨rfl, hA4, hq3, -⟩
      have hb4 := Lib.hid (hb3.out.trans hq3)
      go_wp2
      go_roundw
      case rel => exact ⟨k + 1, by omega, by go_num, by rw [hsn.out, ← cells_line]; exact AtB.is hA4, hb4.out⟩
      case measure => simp [intOf]; omega
    · have ht : es.take k = es := List.take_of_length_le (by rw [HN.out]; omega)
      rw [ht] at hIs
      have HI := Lib.hid hIs
      have HB := Lib.hid hb
      clear hIs
      go_wp2_with (go_at_call 22; refine (stringB w.heap.size w.heap.size _ _ HI.out HB.out.size).mono ?_)
      rintro e w1 ⟨rfl, hq1⟩
      go_wp2
      go_ret
      exact ⟨rfl, HB.out.trans hq1⟩
end Go.Proofs.YtjnhkpjmjjhhdaaDoor
