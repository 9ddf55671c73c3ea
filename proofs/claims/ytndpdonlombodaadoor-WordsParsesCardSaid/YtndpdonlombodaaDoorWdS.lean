/- Lists of acts in memory; words.Line; words.Print. -/
import Derived.Test.YtndpdonlombodaaDoorWdL
namespace Go.Proofs.YtndpdonlombodaaDoor
open Go.RowKit Law
set_option linter.unusedVariables false
set_option linter.unusedSimpArgs false

/-- An act as it lies: its numbers, its body's slice, the body's bytes. -/
structure Aw where
  a : Ac
  A : Option Addr
  n : Nat
  c : Nat
def Aw.cells (x : Aw) : List Value := x.a.cells x.A x.n x.c
structure Ac.Fits (x : Ac) : Prop where
  k0 : -9223372036854775808 ≤ x.k
  k1 : x.k ≤ 9223372036854775807
  i0 : -9223372036854775808 ≤ x.node
  i1 : x.node ≤ 9223372036854775807
  n0 : -9223372036854775808 ≤ x.n
  n1 : x.n ≤ 9223372036854775807
  fk0 : -9223372036854775808 ≤ x.f.k
  fk1 : x.f.k ≤ 9223372036854775807
  d0 : -9223372036854775808 ≤ x.f.d
  d1 : x.f.d ≤ 9223372036854775807
  a0 : -9223372036854775808 ≤ x.f.a
  a1 : x.f.a ≤ 9223372036854775807
  p : x.f.p < 4294967296
  b : x.f.b < 4294967296
structure Aw.Ok (x : Aw) : Prop where
  fits : x.a.Fits
  len : x.a.b.length = x.n
  cap : x.n ≤ x.c
structure Aw.In (x : Aw) : Prop where
  ok : x.Ok
  max : x.c ≤ maxLen
  nil : x.A = none → x.c = 0
/-- A list of acts at an address. -/
def ActsAt (w : World) (A : Option Addr) (xs : List Aw) : Prop := ∀ (i : Nat) (x : Aw), xs[i]? = some x → ∃ blk off, A = some ⟨blk, off, none⟩ ∧ (∀ j v, x.cells[j]? = some v → w.cell? ⟨blk, off + i * 9 + j, none⟩ = some v) ∧ U8At w x.A x.a.b
theorem ActsAt.keep {w w' : World} {A : Option Addr} {xs : List Aw} (h : ActsAt w A xs) (hb : Below w.heap.size w w') : ActsAt w' A xs := fun i x hx => by
  obtain ⟨blk, off, rfl, hc, hU⟩ := h i x hx
  exact ⟨blk, off, rfl, fun j v hj => (hb.cell (p := ⟨blk, off + i * 9 + j, none⟩) (World.block_lt_of_cell? _ _ (hc j v hj))).trans (hc j v hj), hU.keep hb⟩
theorem ActsAt.take {w : World} {A : Option Addr} {xs : List Aw} (h : ActsAt w A xs) (n : Nat) : ActsAt w A (xs.take n) := fun i x hx => h i x (by
  rw [List.getElem?_take] at hx
  split at hx
  · exact hx
  · cases hx)
theorem ActsAt.nil (w : World) (A : Option Addr) : ActsAt w A [] := fun i x h => by simp at h
def flatA (ys : List Aw) : List Value := (ys.map Aw.cells).flatten
theorem flatA_snoc (ys : List Aw) (y : Aw) : flatA (ys ++ [y]) = flatA ys ++ y.cells := by simp [flatA]
theorem flatA_len : ∀ ys : List Aw, (flatA ys).length = ys.length * 9
  | [] => rfl
  | y :: ys => by
    have := flatA_len ys
    show (y.cells ++ flatA ys).length = _
    rw [List.length_append, this, List.length_cons]
    show 9 + _ = _
    omega
theorem flatA_at : ∀ (ys : List Aw) (i : Nat) (y : Aw), ys[i]? = some y → ∀ j v, y.cells[j]? = some v → (flatA ys)[i * 9 + j]? = some v
  | z :: ys, 0, y, h, j, v, hj => by
    obtain rfl : z = y := by simpa using h
    have hl : j < z.cells.length := (List.getElem?_eq_some_iff.1 hj).1
    show (z.cells ++ flatA ys)[0 * 9 + j]? = _
    rw [Nat.zero_mul, Nat.zero_add, List.getElem?_append_left hl]
    exact hj
  | z :: ys, i + 1, y, h, j, v, hj => by
    have := flatA_at ys i y (by simpa using h) j v hj
    show (z.cells ++ flatA ys)[(i + 1) * 9 + j]? = _
    have hz : z.cells.length = 9 := rfl
    rw [List.getElem?_append_right (by omega), hz, show (i + 1) * 9 + j - 9 = i * 9 + j by omega]
    exact this
theorem flatA_one {ys : List Aw} : ∀ u ∈ flatA ys, u.oneCell' = true := by
  intro u hu
  obtain ⟨l, hl, hu⟩ := List.mem_flatten.1 hu
  obtain ⟨y, _, rfl⟩ := List.mem_map.1 hl
  simp [Aw.cells, Ac.cells] at hu
  rcases hu with rfl | rfl | rfl | rfl | rfl | rfl | rfl | rfl | rfl <;> rfl

set_option maxHeartbeats 1600000 in
theorem wordsLine (x : Ac) (hx : x.Fits) (A : Option Addr) (len c : Nat) (w : World) (hA : U8At w A x.b) (hn : x.b.length = len) (hP : P10 w) :
    Calls Tryd.prog 8 #[.agg (x.cells A len c).toArray] w fun e w' => e = .returned (.string ⟨(lineL x).toArray⟩) ∧ Below w.heap.size w w' := by
  by_cases hg : goodA x = true
  · have hp := hx.p
    have hb := hx.b
    rcases good_shape hg with ⟨n, rfl, h0, h1⟩ | ⟨f, rfl, hf⟩ | ⟨i, n, rfl, h0, h1, h2, h3⟩ | ⟨i, b, rfl, h0, h1, h2⟩ | ⟨k, i, rfl, h0, h1, hk⟩
    · exact wordsLine_1 n hg A len c w hA hn hP h0 h1
    · obtain ⟨fk, fd, fa, fp, fb⟩ := f
      exact wordsLine_3 fk fd fa fp fb hg A len c w hA hn hP hf hp hb
    · exact wordsLine_2 i n hg A len c w hA hn hP h0 h1 h2 h3
    · by_cases hbe : b = []
      · subst hbe
        exact wordsLine_6e i hg A len c w hA hn hP h0 h1
      · exact wordsLine_6 i b hg A len c w hA hn hP h0 h1 hbe (by simp only at hn; omega)
    · rcases hk with rfl | rfl | rfl | rfl
      · exact wordsLine_4 i hg A len c w hA hn hP h0 h1
      · exact wordsLine_5 i hg A len c w hA hn hP h0 h1
      · exact wordsLine_7 i hg A len c w hA hn hP h0 h1
      · exact wordsLine_8 i hg A len c w hA hn hP h0 h1
  · have hb1 : Below w.heap.size w (w.alloc (.cells (Ac.cells x A len c).toArray 29)) := (Below.refl _ _).alloc (Nat.le_refl _) _
    have C1 := scriptGoodV x A len c false (by simpa using hg) _ (hA.keep hb1) hn
    have HL : Hid (lineL x = [63]) := by unfold Hid lineL; rw [if_neg hg]
    have HB := Lib.hid hb1
    clear hg hA hn hP hb1 hx
    obtain ⟨k, node, n, ⟨fk, fd, fa, fp, fb⟩, b⟩ := x
    unfold Ac.cells at C1
    have C1 := Lib.hid C1
    unfold Ac.cells
    go_enter Tryd.func8, Tryd.ntmps8
    go_wp2_with fail
    refine C1.out.mono ?_
    rintro e w1 ⟨rfl, hq⟩
    have HF := Lib.hid (HB.out.trans (hq.mono HB.out.size))
    clear hq
    go_wp2
    go_ret
    exact ⟨ret_str (by rw [HL.out]), HF.out⟩
theorem ilen {n : Int} (h0 : -9223372036854775808 ≤ n) (h1 : n ≤ 9223372036854775807) : (Lib.itoa n).length ≤ 21 := by have := itoa_len h0 h1; omega
theorem lineL_len {x : Ac} (hx : x.Fits) : (lineL x).length ≤ 2200 := by
  unfold lineL
  split
  · rename_i hg
    have hp := hx.p
    have hb := hx.b
    rcases good_shape hg with ⟨n, rfl, h0, h1⟩ | ⟨f, rfl, hf⟩ | ⟨i, n, rfl, h0, h1, h2, h3⟩ | ⟨i, b, rfl, h0, h1, h2⟩ | ⟨k, i, rfl, h0, h1, hk⟩
    · have l1 := ilen (n := n) (by omega) (by omega)
      simp [wordsOf, joinBy, wTick]; omega
    · rcases goodF_shape hf with rfl | ⟨d, rfl, h0, h1⟩ | ⟨d, a, rfl, h0, h1, h2, h3⟩ | ⟨d, p, b, rfl, h0, h1⟩
      · simp [wordsOf, joinBy, wFate, wDrop]
      · have l1 := ilen (n := d) (by omega) (by omega)
        simp [wordsOf, joinBy, wFate, wGo]; omega
      · have l1 := ilen (n := d) (by omega) (by omega)
        have l2 := ilen (n := a) (by omega) (by omega)
        simp [wordsOf, joinBy, wFate, wTwin]; omega
      · simp only at hp hb
        have l1 := ilen (n := d) (by omega) (by omega)
        have l2 := ilen (n := (p : Int)) (by omega) (by omega)
        have l3 := ilen (n := (b : Int)) (by omega) (by omega)
        simp [wordsOf, joinBy, wFate, wBend]; omega
    · have l1 := ilen (n := n) (by omega) (by omega)
      have l2 := ilen (n := i) (by omega) (by omega)
      simp [wordsOf, joinBy, wDrift]; omega
    · have l1 := ilen (n := i) (by omega) (by omega)
      have l2 := hexOf_len b
      by_cases hbe : b = []
      · simp [wordsOf, joinBy, wSend, hbe]; omega
      · simp [wordsOf, joinBy, wSend, hbe]; omega
    · have l1 := ilen (n := i) (by omega) (by omega)
      rcases hk with rfl | rfl | rfl | rfl <;> simp [wordsOf, joinBy, wCrash, wRestart, wJoin, wLeave] <;> omega
  · simp
theorem printL_snoc (es : List Ac) (k : Nat) (hk : k < es.length) : printL (es.take (k + 1)) = printL (es.take k) ++ (lineL es[k] ++ [10]) := by
  unfold printL
  rw [List.take_succ_eq_append_getElem hk, List.flatMap_append]
  simp
theorem printL_len : ∀ (es : List Ac), (∀ e ∈ es, e.Fits) → (printL es).length ≤ 2201 * es.length
  | [], _ => by simp [printL]
  | e :: es, h => by
    have h1 := lineL_len (h e (by simp))
    have h2 := printL_len es (fun x hx => h x (by simp [hx]))
    have : printL (e :: es) = (lineL e ++ [10]) ++ printL es := by simp [printL]
    rw [this]
    simp only [List.length_append, List.length_cons, List.length_nil]
    omega
theorem cells_line (l m : List UInt8) : (Lib.byteCells l ++ Lib.strCells ⟨m.toArray⟩) ++ [.int .u8 10] = Lib.byteCells (l ++ (m ++ [10])) := by
  rw [byteCells_str, byteCells_app]
  simp [Lib.byteCells]
def acs (xs : List Aw) : List Ac := xs.map Aw.a
set_option maxHeartbeats 3200000 in
set_option maxRecDepth 100000 in
theorem wordsPrint (A : Option Addr) (len c : Nat) (xs : List Aw) (hl : xs.length = len) (hm : len ≤ 10000) (hok : ∀ x ∈ xs, x.Ok) (w : World) (hA : ActsAt w A xs) (hP : P10 w) :
    Calls Tryd.prog 10 #[.slice A len c] w fun e w' => e = .returned (.string ⟨(printL (acs xs)).toArray⟩) ∧ Below w.heap.size w w' := by
  obtain ⟨hz, hsz⟩ := zero_of_info (show (Tryd.prog.info? 29).map (fun i => (i.zero, i.size)) = some (some (.agg #[.int .i64 0, .int .i64 0, .int .i64 0, .int .i64 0, .int .i64 0, .int .i64 0, .int .u32 0, .int .u32 0, .slice none 0 0]), 9) by kernel_rfl)
  have HX := Lib.hid (And.intro hl (And.intro hok (And.intro hA hP)))
  clear hl hok hA hP
  have hB0 := newB w
  have hbB : Below w.heap.size w (w.alloc (.cells #[.pointer none, .slice none 0 0] 49)) := (Below.refl _ w).alloc (Nat.le_refl _) _
  go_enter Tryd.func10, Tryd.ntmps10
  go_wp2
  go_loopw [8] (fun i wr => ∃ k : Nat, k ≤ len ∧ i = .int .i64 k ∧ IsB w.heap.size w.heap.size (Lib.byteCells (printL ((acs xs).take k))) wr ∧ Below w.heap.size w wr) (fun i _ => len - (intOf i).toNat)
  case atStart => exact ⟨0, Nat.zero_le _, rfl, hB0, hbB⟩
  case round =>
    obtain ⟨k, hk, rfl, hIs, hb⟩ := hrel
    clear hB0 hbB
    by_cases hlt : k < len
    · have hkx : k < xs.length := by rw [HX.out.1]; exact hlt
      have hkm : k < (acs xs).length := by unfold acs; rw [List.length_map]; exact hkx
      obtain ⟨blk, off, rfl, hcells, hU⟩ := (HX.out.2.2.1.keep hb) k xs[k] (List.getElem?_eq_getElem hkx)
      have hxok := HX.out.2.1 xs[k] (List.getElem_mem hkx)
      have hsn := printL_snoc (acs xs) k hkm
      have hgx : (acs xs)[k] = xs[k].a := by simp [acs]
      rw [hgx] at hsn
      obtain ⟨x, hx⟩ : ∃ x, xs[k] = x := ⟨_, rfl⟩
      rw [hx] at hcells hU hxok hsn
      clear hx hkx hgx hkm
      have hpl : (printL ((acs xs).take k)).length ≤ 2201 * k := by
        have h1 := printL_len ((acs xs).take k) (fun e he => by
          have he := List.mem_of_mem_take he
          unfold acs at he
          obtain ⟨y, hy, rfl⟩ := List.mem_map.1 he
          exact (HX.out.2.1 y hy).fits)
        have h2 : ((acs xs).take k).length ≤ k := List.length_take_le _ _
        omega
      have hll := lineL_len hxok.fits
      have C1 := fun W hW => wordsLine x.a hxok.fits x.A x.n x.c W (hU.keep hW) hxok.len (HX.out.2.2.2.below (hb.trans (Below.mono hW hb.size)))
      obtain ⟨⟨xk, node, n, ⟨fk, fd, fa, fp, fb⟩, b⟩, xA, xn, xc⟩ := x
      have p0 := hcells 0 _ rfl
      have p1 := hcells 1 _ rfl
      have p2 := hcells 2 _ rfl
      have p3 := hcells 3 _ rfl
      have p4 := hcells 4 _ rfl
      have p5 := hcells 5 _ rfl
      have p6 := hcells 6 _ rfl
      have p7 := hcells 7 _ rfl
      have p8 := hcells 8 _ rfl
      simp only [Nat.add_zero] at p0 p1 p2 p3 p4 p5 p6 p7 p8 C1 hsn hll
      obtain ⟨L, hL⟩ : ∃ L, lineL ⟨xk, node, n, ⟨fk, fd, fa, fp, fb⟩, b⟩ = L := ⟨_, rfl⟩
      rw [hL] at C1 hsn hll
      obtain ⟨p, hp⟩ : ∃ p, printL ((acs xs).take k) = p := ⟨_, rfl⟩
      rw [hp] at hIs hsn hpl
      unfold Ac.cells at C1
      have hL1 : (Lib.byteCells p).length + (⟨L.toArray⟩ : ByteArray).size ≤ 140737488355328 := by
        rw [Lib.byteCells_length, ByteArray.size]
        simp only [List.size_toArray]
        omega
      have hL2 : (Lib.byteCells p ++ Lib.strCells ⟨L.toArray⟩).length + 1 ≤ 140737488355328 := by
        rw [List.length_append, Lib.byteCells_length, Lib.strCells_length, ByteArray.size]
        simp only [List.size_toArray]
        omega
      have hbA : Below wr.heap.size wr (wr.alloc (.cells #[.int .i64 xk, .int .i64 node, .int .i64 n, .int .i64 fk, .int .i64 fd, .int .i64 fa, .int .u32 (fp : Int), .int .u32 (fb : Int), .slice xA xn xc] 29)) := (Below.refl _ _).alloc (Nat.le_refl _) _
      have C1 := Lib.hid (C1 _ hbA)
      have hIs1 := Lib.hid (hIs.alloc (.cells #[.int .i64 xk, .int .i64 node, .int .i64 n, .int .i64 fk, .int .i64 fd, .int .i64 fa, .int .u32 (fp : Int), .int .u32 (fb : Int), .slice xA xn xc] 29))
      have hb1 := Lib.hid (hb.alloc hb.size (.cells #[.int .i64 xk, .int .i64 node, .int .i64 n, .int .i64 fk, .int .i64 fd, .int .i64 fa, .int .u32 (fp : Int), .int .u32 (fb : Int), .slice xA xn xc] 29))
      have hsn := Lib.hid hsn
      clear hIs hU hcells hxok hL hp hb hbA
      go_wp2_with fail
      refine C1.out.mono ?_
      rintro e w1 ⟨rfl, hq1⟩
      have hIs2 := Lib.hid (IsB.below hIs1.out hq1)
      have hb2 := Lib.hid (hb1.out.trans (hq1.mono hb1.out.size))
      clear hq1
      go_wp2_with (go_at_call 23; refine (writeString w.heap.size w.heap.size _ _ _ hIs2.out hL1 hb2.out.size).mono ?_)
      rintro e w2 ⟨rfl, hA3, hq2, -⟩
      have hIs3 := Lib.hid (AtB.is hA3)
      have hb3 := Lib.hid (hb2.out.trans hq2)
      clear hA3 hq2
      go_wp2_with (go_at_call 24; refine (writeByte w.heap.size w.heap.size _ _ _ hIs3.out hL2 hb3.out.size).mono ?_)
      rintro e w3 ⟨rfl, hA4, hq3, -⟩
      have hb4 := Lib.hid (And.intro (hb3.out.trans hq3) (AtB.is hA4))
      clear hA4 hq3
      go_wp2
      go_roundw
      case rel => exact ⟨k + 1, by omega, by go_num, by rw [hsn.out, ← cells_line]; exact hb4.out.2, hb4.out.1⟩
      case measure => simp [intOf]; omega
    · have ht : (acs xs).take k = acs xs := List.take_of_length_le (by unfold acs; rw [List.length_map, HX.out.1]; omega)
      rw [ht] at hIs
      have HI := Lib.hid hIs
      have HB := Lib.hid hb
      clear hIs
      go_wp2_with (go_at_call 25; refine (stringB w.heap.size w.heap.size _ _ HI.out HB.out.size).mono ?_)
      rintro e w1 ⟨rfl, hq1⟩
      go_wp2
      go_ret
      exact ⟨rfl, HB.out.trans hq1⟩
end Go.Proofs.YtndpdonlombodaaDoor
