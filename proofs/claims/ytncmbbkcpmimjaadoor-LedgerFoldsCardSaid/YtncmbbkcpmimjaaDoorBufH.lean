/- ledger.Put. -/
import Derived.Test.YtncmbbkcpmimjaaDoorBufG
namespace Go.Proofs.YtncmbbkcpmimjaaDoor
open Go.RowKit Law
set_option linter.unusedVariables false

/-- A ledger in a block of its own type. -/
def LdObj (w : World) (b : Nat) (l : Ld) : Prop := ∃ fr, w.heap[b]? = some (.cells l.cells.toArray 26 fr)
theorem LdObj.at_ {w : World} {b : Nat} {l : Ld} (h : LdObj w b l) : LdAt w b l := fun j v hj => by
  obtain ⟨fr, hg⟩ := h
  rw [Nat.zero_add, cell_of_row w b j _ _ fr hg]
  simpa using hj
theorem LdObj.lt {w : World} {b : Nat} {l : Ld} (h : LdObj w b l) : b < w.heap.size := h.at_.lt
theorem LdObj.new (w : World) (l : Ld) : LdObj (w.alloc (.cells l.cells.toArray 26)) w.heap.size l := ⟨(0, 0), heap_alloc_last w _⟩
theorem LdObj.not_row {w : World} {b base n : Nat} {l : Ld} {v : Value} {xs : List Value} (h : LdObj w b l) (hr : w.ownsRow base 5 1 v n xs) : v.ownBlock ≠ some b := by
  obtain ⟨fr, hg⟩ := h
  rcases hr.2 with ⟨rfl, _⟩ | ⟨g, cap, cur, rfl, _, hgb, _⟩
  · simp [Value.ownBlock]
  · intro he
    obtain rfl : g = b := by simpa [Value.ownBlock] using he
    rw [hgb] at hg
    cases hg
theorem LdObj.fr {w w' : World} {b bw : Nat} {l : Ld} {v : Value} (h : LdObj w b l) (hf : Fr bw v w w') (hne : b ≠ bw) (hno : v.ownBlock ≠ some b) : LdObj w' b l := by
  obtain ⟨fr, hg⟩ := h
  exact ⟨fr, (hf.block b (Array.getElem?_eq_some_iff.1 hg).1 hne hno).trans hg⟩
theorem LdObj.below {w w' : World} {b : Nat} {l : Ld} (h : LdObj w b l) (hb : Below w.heap.size w w') : LdObj w' b l := by
  have hl := h.lt
  obtain ⟨fr, hg⟩ := h
  exact ⟨fr, (hb.block b hl).trans hg⟩
theorem Fr.below {w w' : World} {bw base n : Nat} {v : Value} {xs : List Value} (h : Fr bw v w w') (hr : w.ownsRow base 5 1 v n xs) (hlt : bw < base) (hle : base ≤ w.heap.size) : Below bw w w' :=
  ⟨h.os, h.tape, h.output, h.size, fun k hk => h.block k (by omega) (by omega) (fun he => by have := (hr.lt k he).1; omega)⟩
def putK (l : Ld) : Nat → List UInt8
  | 0 => leB 8 (l.count % 18446744073709551616).toNat ++ leB 8 l.sum
  | k + 1 => putK l k ++ leB 4 (l.of.getD k 0)
theorem putK_len (l : Ld) : ∀ k, (putK l k).length = 16 + 4 * k
  | 0 => by simp [putK, leB_len]
  | k + 1 => by show (putK l k ++ leB 4 _).length = _; rw [List.length_append, putK_len l k, leB_len]; omega
set_option maxHeartbeats 3200000 in
set_option maxRecDepth 100000 in
theorem ledPut (bw base : Nat) (v : Value) (l : Ld) (hf : l.Fits) (n : Int) (w : World) (h : WrSt w bw base [] v) :
    Calls Tryd.prog 14 #[.pointer (some ⟨bw, 0, none⟩), l.val, .int .i64 n] w fun e w' => e = .returned (.tuple #[]) ∧ ∃ v', WrSt w' bw base (putK l (clampN n)) v' ∧ Below bw w w' := by
  have hO := LdObj.new w l
  have hb0 : Below w.heap.size w (w.alloc (.cells l.cells.toArray 26)) := (Below.refl _ _).alloc (Nat.le_refl _) _
  have h0 := h.kept hb0
  obtain ⟨m, hm⟩ : ∃ m, (l.count % 18446744073709551616).toNat = m := ⟨_, rfl⟩
  have hm64 : m < 18446744073709551616 := by omega
  have hwm : IntKind.u64.wrap l.count = (m : Int) := by rw [IntKind.wrap_u64]; omega
  have C1 := Lib.hid (wrFixed bw base [] v m 8 hm64 (by omega) (by omega) _ h0 (by simp))
  have hc0 := hO.at_.count
  have H0 := Lib.hid (And.intro hO (And.intro hb0 h0))
  have HM := Lib.hid hm
  have hs64 := hf.s
  clear hO hb0 h0 hm
  unfold Ld.val
  go_enter Tryd.func14, Tryd.ntmps14
  go_wp2_with fail
  refine C1.out.mono ?_
  rintro e w1 ⟨rfl, v1, hw1, hfr1⟩
  have hne : w.heap.size ≠ bw := by have := h.at_.lt; omega
  have hO1 := H0.out.1.fr hfr1 hne (H0.out.1.not_row H0.out.2.2.own)
  have hB1 : Below bw w w1 := (H0.out.2.1.mono (Nat.le_of_lt h.at_.lt)).trans (hfr1.below H0.out.2.2.own h.lt H0.out.2.2.le)
  have hc1 := hO1.at_.sum
  have C2 := Lib.hid (wrFixed bw base ([] ++ leB 8 m) v1 l.sum 8 hs64 (by omega) (by omega) _ hw1 (by simp [leB_len]))
  have H1 := Lib.hid (And.intro hO1 (And.intro hB1 hw1))
  clear hO1 hB1 hw1 hfr1 hc0 hwm
  go_wp2_with fail
  refine C2.out.mono ?_
  rintro e w2 ⟨rfl, v2, hw2, hfr2⟩
  have hO2 := H1.out.1.fr hfr2 hne (H1.out.1.not_row H1.out.2.2.own)
  have hB2 : Below bw w w2 := H1.out.2.1.trans (hfr2.below H1.out.2.2.own h.lt H1.out.2.2.le)
  have hT2 : ([] ++ leB 8 m) ++ leB 8 l.sum = putK l 0 := by rw [List.nil_append, ← HM.out]; rfl
  rw [hT2] at hw2
  have H2 := Lib.hid (And.intro hO2 (And.intro hB2 hw2))
  clear hO2 hB2 hw2 hfr2 hc1 hT2
  go_wp2_with fail
  refine (ledNodes n _).mono ?_
  rintro e w4 ⟨rfl, rfl⟩
  have hq64 := clampN_le n
  obtain ⟨q, hq⟩ : ∃ q, clampN n = q := ⟨_, rfl⟩
  rw [hq] at hq64 ⊢
  have HQ := Lib.hid hq
  have hal : Tryd.prog.arrayLen 24 = 64 := by kernel_rfl
  have hsl : (Instr.sliceAt 24 (.pointer (some ⟨w.heap.size, 2, none⟩)) none (some (.int .i64 (q : Int))) none).run Tryd.prog w2 = .ok (.slice (some ⟨w.heap.size, 2, none⟩) q 64) w2 := by
    rw [run_sliceAt_array_h w2 24 ⟨w.heap.size, 2, none⟩ (by simp [Program.arrayLen, Program.elem, Tryd.underlying24]) .i64 (q : Int) (by omega) (by rw [hal]; omega)]
    have he : Tryd.prog.elem 24 = 23 := by kernel_rfl
    rw [he, hal]
    simp [go_sem, Tryd.sizeOf23, Addr.add, slicedAt]
  clear hq hal
  go_wp2
  go_loopw [22] (fun i wr => ∃ (k : Nat) (vk : Value), k ≤ q ∧ i = .int .i64 k ∧ WrSt wr bw base (putK l k) vk ∧ LdObj wr w.heap.size l ∧ Below bw w wr) (fun i _ => q - (intOf i).toNat)
  case atStart => exact ⟨0, v2, Nat.zero_le _, rfl, H2.out.2.2, H2.out.1, H2.out.2.1⟩
  case round =>
    obtain ⟨k, vk, hk, rfl, hwk, hOk, hbk⟩ := hrel
    by_cases hlt : k < q
    · have hlt' : k < l.of.length := by rw [hf.n]; omega
      have hc := hOk.at_.of hlt'
      have hcf := hf.o _ (List.getElem_mem hlt')
      obtain ⟨c, hce⟩ : ∃ c, l.of[k] = c := ⟨_, rfl⟩
      have hgd : l.of.getD k 0 = c := by rw [List.getD_eq_getElem?_getD, List.getElem?_eq_getElem hlt', hce]; rfl
      rw [hce] at hc hcf
      have C := Lib.hid (wrFixed bw base (putK l k) vk c 4 (by omega) (by omega) (by omega) _ hwk (by rw [putK_len]; omega))
      have HP : Hid (putK l (k + 1) = putK l k ++ leB 4 c) := by unfold Hid; rw [← hgd]; rfl
      have HK := Lib.hid (And.intro hwk (And.intro hOk hbk))
      clear hwk hOk hbk hce hgd
      go_wp2_with fail
      refine C.out.mono ?_
      rintro e w5 ⟨rfl, v5, hw5, hfr5⟩
      have hO5 := HK.out.2.1.fr hfr5 hne (HK.out.2.1.not_row HK.out.1.own)
      have hB5 : Below bw w w5 := HK.out.2.2.trans (hfr5.below HK.out.1.own h.lt HK.out.1.le)
      have HF := Lib.hid (And.intro hw5 (And.intro hO5 hB5))
      clear hw5 hfr5 hO5 hB5 hc
      go_wp2
      go_roundw
      case rel => exact ⟨k + 1, v5, by omega, by go_num, by rw [HP.out]; exact HF.out.1, HF.out.2.1, HF.out.2.2⟩
      case measure => simp [intOf]; omega
    · obtain rfl : k = q := by omega
      have HK := Lib.hid (And.intro hwk hbk)
      clear hwk hOk hbk
      go_wp2
      go_end0
      exact ⟨rfl, vk, by rw [HQ.out]; exact HK.out.1, HK.out.2⟩
end Go.Proofs.YtncmbbkcpmimjaaDoor
