/- NodesEach: the walk. -/
import Derived.Test.YtckeiihdbabgiaaDoorSetH
namespace Go.Proofs.YtckeiihdbabgiaaDoor
open Go.RowKit Law Go.Shelf
set_option linter.unusedVariables false
attribute [local go_sem] Oper.semAt_some

theorem BoxIs.new (W : World) (u : Value) (t : TypeId) : BoxIs W.heap.size u (W.alloc (.cells #[u] t)) := ⟨by simp, by simp⟩
theorem BoxIs.alloc {B : Nat} {u : Value} {W : World} (h : BoxIs B u W) (o : Obj) : BoxIs B u (W.alloc o) := h.kept (Below.heap_alloc W o B h.lt)
structure EachI (w : World) (far : Nat) (A : Option Addr) (m c B6 : Nat) (els : List Int) (k : Nat) (W : World) : Prop where
  far : BoxIs w.heap.size (.int .u8 (far : Int)) W
  res : BoxIs (w.heap.size + 1) (.bool false) W
  lst : BoxIs B6 (.slice A m c) W
  at_ : BoxIs (B6 + 1) (.int .i64 (k : Int)) W
  row : W.ownsRow (w.heap.size + 3) 3 1 (.slice A m c) m (intV els)
  below : Below w.heap.size w W
theorem run_func_nil (p : Addr) (W : World) : (binOp .eql 31 (.func (.func 33) #[] #[.pointer (some p)]) .nilFunc).run Tryd.prog W = .ok (.bool false) W := by kernel_rfl
set_option maxHeartbeats 3200000 in
theorem walkEach (s : Nat) (hs : s < 18446744073709551616) (far : Nat) (hfar : far ≤ 255) (w : World) (hT : T64 w) :
    Calls Tryd.prog 4 #[.int .u64 (s : Int), .int .u8 (far : Int)] w fun e w' => e = .returned (.bool true) ∧ Below w.heap.size w w' := by
  have hel := elsI_len s
  obtain ⟨m, hm⟩ : ∃ m, (elsI s).length = m := ⟨_, rfl⟩
  have HM := Lib.hid hm
  rw [hm] at hel
  clear hm
  refine (callsIn_wide (n := 9)).1 ?_
  refine callsIn_of_wp_marks Tryd.func4 rfl trivial ?_ rfl
  simp only [Tryd.ntmps4, List.size_toArray, List.length_cons, List.length_nil, Nat.reduceAdd, Nat.reduceSub, Array.replicate_succ, Array.replicate_zero, List.push_toArray, List.append_toArray, List.nil_append, List.cons_append]
  gi_wp2
  refine ⟨trivial, (callsIn_wide.2 (nodesEach s _)).mono ?_⟩
  rintro e w' ⟨rfl, hw'⟩
  have hsz : w'.heap.size = w.heap.size + 3 := by rw [hw']; simp
  have hbw : Below w.heap.size w w' := by rw [hw']; exact (((Below.refl _ w).alloc (Nat.le_refl _) _).alloc (by simp) _).alloc (by simp; omega) _
  have hbox : BoxIs (w.heap.size + 2) (.int .u64 (s : Int)) w' := by rw [hw']; have h := BoxIs.new ((w.alloc (.cells #[.int .u8 (far : Int)] 5)).alloc (.cells #[.bool false] 4)) (.int .u64 (s : Int)) 23; simpa using h
  have hbx0 : BoxIs w.heap.size (.int .u8 (far : Int)) w' := by rw [hw']; exact ((BoxIs.new w _ _).alloc _).alloc _
  have hbx1 : BoxIs (w.heap.size + 1) (.bool false) w' := by rw [hw']; have h := (BoxIs.new (w.alloc (.cells #[.int .u8 (far : Int)] 5)) (.bool false) 4).alloc (.cells #[.int .u64 (s : Int)] 23); simpa using h
  clear hw'
  have hnil := run_func_nil
  gi_wp2
  clear hnil
  refine ⟨trivial, (callsIn_wide.2 (refList s hs _)).mono ?_⟩
  rintro e w1 ⟨v, rfl, hown, hq1⟩
  obtain ⟨A2, c2, rfl, hc2⟩ := own_form hown
  rw [HM.out] at hown hc2 ⊢
  rw [hsz] at hown
  have hb1 := hbw.trans (hq1.mono hbw.size)
  have hs1 := hq1.size
  have hbox1 : BoxIs (w.heap.size + 2) (.int .u64 (s : Int)) w1 := hbox.kept (hq1.block _ (by omega))
  have hbx01 : BoxIs w.heap.size (.int .u8 (far : Int)) w1 := hbx0.kept (hq1.block _ (by omega))
  have hbx11 : BoxIs (w.heap.size + 1) (.bool false) w1 := hbx1.kept (hq1.block _ (by omega))
  clear hbox hbx0 hbx1 hbw
  gi_wp2
  have hE0 : EachI w far A2 m c2 w1.heap.size (elsI s) 0 ((w1.alloc (.cells #[.slice A2 m c2] 33)).alloc (.cells #[.int .i64 0] 3)) := by
    have g6 := (BoxIs.new w1 (.slice A2 m c2) 33).alloc (.cells #[.int .i64 0] 3)
    have g7 := BoxIs.new (w1.alloc (.cells #[.slice A2 m c2] 33)) (.int .i64 0) 3
    rw [World.size_alloc] at g7
    exact ⟨(hbx01.alloc _).alloc _, (hbx11.alloc _).alloc _, g6, g7, (hown.alloc _).alloc _, (hb1.alloc hb1.size _).alloc (by simp; omega) _⟩
  have hB0 := (hbox1.alloc (.cells #[.slice A2 m c2] 33)).alloc (.cells #[.int .i64 0] 3)
  have hsz0 : ((w1.alloc (.cells #[.slice A2 m c2] 33)).alloc (.cells #[.int .i64 0] 3)).heap.size = w1.heap.size + 2 := by simp
  generalize (w1.alloc (.cells #[.slice A2 m c2] 33)).alloc (.cells #[.int .i64 0] 3) = W0 at *
  have hrl : ∀ g, (Value.slice A2 m c2).ownBlock = some g → g < w1.heap.size := fun g hg => (hown.lt g hg).2
  clear hown hbox1 hbx01 hbx11 hq1
  refine wp_rangeBox (gf := 33) (B := w.heap.size + 1 + 1) (u0 := .int .u64 (s : Int)) (zs := intV (elsI s)) (T := T64) (by simp [Act.eval]) (enters_of Tryd.func33 (by kernel_rfl) rfl) (eachSeq _ s hs) rfl hB0
    (fun k W => EachI w far A2 m c2 w1.heap.size (elsI s) k W ∧ k ≤ far) (fun c k W => c = .exit 0 ∧ EachI w far A2 m c2 w1.heap.size (elsI s) k W ∧ k = far + 1) ?hI ?hIx ?hT ⟨hE0, Nat.zero_le _⟩
    (fun x => { tmps := #[.int .u64 (s : Int), .int .u8 (far : Int), undef, .pointer (some ⟨w.heap.size, 0, none⟩), .pointer (some ⟨w.heap.size + 1, 0, none⟩), .func (.func 33) #[] #[.pointer (some ⟨w.heap.size + 1 + 1, 0, none⟩)],
      .pointer (some ⟨w1.heap.size, 0, none⟩), .pointer (some ⟨w1.heap.size + 1, 0, none⟩), x, .int .u64 (s : Int), .func (.func 33) #[] #[.pointer (some ⟨w.heap.size + 1 + 1, 0, none⟩)], .func (.func 33) #[] #[.pointer (some ⟨w.heap.size + 1 + 1, 0, none⟩)],
      .bool false, .int .u64 (s : Int), .slice A2 m c2, .func (.func 33) #[] #[.pointer (some ⟨w.heap.size + 1 + 1, 0, none⟩)], x, undef, undef, undef, undef, undef, undef, undef, undef, undef, undef, undef, undef, undef, undef, undef, undef, undef, undef, undef, undef, undef, undef, undef, undef, undef, undef, undef, undef, undef], defers := [] }) ?assign ?body ?done ?stop
  case hI =>
    rintro k W W' ⟨hE, hk⟩ hS
    exact ⟨⟨hS.cell (by omega) (by omega) hE.far, hS.cell (by omega) (by omega) hE.res, hS.cell (by omega) (by omega) hE.lst, hS.cell (by omega) (by omega) hE.at_, hS.row (by omega) hE.row, hS.below (by omega) (by omega) hE.below hE.below.size⟩, hk⟩
  case hIx =>
    rintro cc k W W' ⟨hc, hE, hk⟩ hS
    exact ⟨hc, ⟨hS.cell (by omega) (by omega) hE.far, hS.cell (by omega) (by omega) hE.res, hS.cell (by omega) (by omega) hE.lst, hS.cell (by omega) (by omega) hE.at_, hS.row (by omega) hE.row, hS.below (by omega) (by omega) hE.below hE.below.size⟩, hk⟩
  case hT =>
    rintro k W ⟨hE, hk⟩
    exact hT.below hE.below
  case assign =>
    intro l x W K hK
    gi_wp2
    exact hK
  case body =>
    rintro l k x W ⟨hE, hkf⟩ hx hlt
    have hk : k < (elsI s).length := by
      have := (List.getElem?_eq_some_iff.1 hx).1
      simpa using this
    have hkm : k < m := by have := HM.out; omega
    obtain rfl : x = .int .i64 (elsI s)[k] := by
      rw [List.getElem?_map, List.getElem?_eq_getElem hk] at hx
      exact (Option.some.inj hx).symm
    obtain ⟨b, off, hAe, c0⟩ := (ownInts hE.row).at_ (Below.refl _ _) hk
    subst hAe
    have hc3 := hE.far.1
    have hc6 := hE.lst.1
    have hc7 := hE.at_.1
    have hf7 := hE.at_.2
    have hl7 := hE.at_.lt
    have hw1s := hb1.size
    have hEs : Hid (EachI w far (some ⟨b, off, none⟩) m c2 w1.heap.size (elsI s) (k + 1) (W.setCell ⟨w1.heap.size + 1, 0, none⟩ (.int .i64 ((k : Int) + 1)))) := by
      have hS := Side.setBox (W.heap.size) (w1.heap.size + 1) W (.int .i64 ((k : Int) + 1))
      have l3 := hE.far.lt
      have l4 := hE.res.lt
      have l6 := hE.lst.lt
      refine ⟨hS.cell (by omega) (by omega) hE.far, hS.cell (by omega) (by omega) hE.res, hS.cell (by omega) (by omega) hE.lst, ⟨?_, ?_⟩, ?_, hS.below hE.below.size (by omega) hE.below hE.below.size⟩
      · have := World.cell?_setCell_same' W ⟨w1.heap.size + 1, 0, none⟩ (.int .i64 ((k : Int) + 1)) (by rw [hc7]; rfl)
        rw [this]
        simp
      · rw [World.frozen?_setCell]; exact hf7
      · refine hE.row.kept (grownBy_setCell' W (w1.heap.size + 1) _) ?_
        exact .inr fun h => absurd (hrl _ h) (by omega)
    have hKO := Lib.hid (KeepsOthers.setCell W ⟨w1.heap.size + 1, 0, none⟩ (.int .i64 ((k : Int) + 1)))
    have hBO : Hid (∀ u, BoxIs (w.heap.size + 1 + 1) u W → BoxIs (w.heap.size + 1 + 1) u (W.setCell ⟨w1.heap.size + 1, 0, none⟩ (.int .i64 ((k : Int) + 1)))) := fun u hu => hu.kept (Below.heap_setCell W ⟨w1.heap.size + 1, 0, none⟩ _ _ (by show w.heap.size + 1 + 1 ≠ w1.heap.size + 1; omega))
    clear hE hx
    by_cases hq : k + 1 ≤ far
    · gi_wp2
      exact ⟨hKO.out, hBO.out, hEs.out, hq⟩
    · gi_wp2
      exact ⟨hKO.out, rfl, hEs.out, by omega⟩
  case done =>
    rintro D W hD ⟨hE, hkf⟩ hK
    have HL : Hid ((intV (elsI s)).length = (elsI s).length) := List.length_map ..
    rw [HL.out, HM.out] at hE hkf
    have hmin : min (m : Int) ((far : Int) + 1) = (m : Int) := by omega
    have hc3 := hE.far.1
    have hc6 := hE.lst.1
    have hc7 := hE.at_.1
    have hb := hE.below
    have hDlt := (Array.getElem?_eq_some_iff.1 hK).1
    have hdr := hE.res.lt
    gi_wp2
    refine ⟨trivial, (callsIn_wide.2 (works03 _ (hT.below hb))).mono ?_⟩
    rintro e w5 ⟨rfl, hq⟩
    have hr5 : BoxIs (w.heap.size + 1) (.bool false) w5 := hE.res.kept (hq.block _ hdr)
    have hK5 : w5.heap[D]? = some (.deferred (some [])) := (hq.block D hDlt).trans hK
    have hb5 := hb.trans (hq.mono hb.size)
    have hcr := hr5.1
    have hfr := hr5.2
    have HK6 := Lib.hid ((KeepsOthers.setCell w5 ⟨w.heap.size + 1, 0, none⟩ (.bool true)).same D _ hK5 rfl)
    have HR6 : Hid ((w5.setCell ⟨w.heap.size + 1, 0, none⟩ (.bool true)).cell? ⟨w.heap.size + 1, 0, none⟩ = some (.bool true)) := World.cell?_setCell_same' _ _ _ (by rw [hcr]; rfl)
    have HB6 := Lib.hid (hb5.setCell (p := ⟨w.heap.size + 1, 0, none⟩) (by show w.heap.size ≤ w.heap.size + 1; omega) (.bool true))
    clear hc3 hc6 hc7 hmin hE hr5 hK5
    gi_wp2
    refine ⟨by simp, .inl ⟨_, _, rfl, run_takeDeferred HK6.out, ?_⟩⟩
    refine ⟨.bool true, ?_, rfl, HB6.out.trans (belowK_b (w := w) (Nat.le_refl _) _ D _ _ (by omega) HK6.out rfl rfl)⟩
    have hcell : ((w5.setCell ⟨w.heap.size + 1, 0, none⟩ (.bool true)).putObj D (.deferred none)).cell? ⟨w.heap.size + 1, 0, none⟩ = some (.bool true) :=
      (World.cell?_of_block (w := w5.setCell ⟨w.heap.size + 1, 0, none⟩ (.bool true)) (a := ⟨w.heap.size + 1, 0, none⟩) (World.putObj_heap_other (by show w.heap.size + 1 ≠ D; omega))).trans HR6.out
    simp [results, Tryd.results4, go_sem, hcell]
  case stop =>
    rintro D cc k W hD hkl ⟨hc, hE, hkf⟩ hK
    subst hc
    obtain rfl : k = far := by omega
    have hmf : k + 1 ≤ m := by
      have HL : (intV (elsI s)).length = (elsI s).length := List.length_map ..
      rw [HL, HM.out] at hkl
      omega
    have hmin : min (m : Int) ((k : Int) + 1) = ((k : Int) + 1) := by omega
    clear hkl
    have hc3 := hE.far.1
    have hc6 := hE.lst.1
    have hc7 := hE.at_.1
    have hb := hE.below
    have hDlt := (Array.getElem?_eq_some_iff.1 hK).1
    have hdr := hE.res.lt
    gi_wp2
    refine ⟨trivial, (callsIn_wide.2 (works03 _ (hT.below hb))).mono ?_⟩
    rintro e w5 ⟨rfl, hq⟩
    have hr5 : BoxIs (w.heap.size + 1) (.bool false) w5 := hE.res.kept (hq.block _ hdr)
    have hK5 : w5.heap[D]? = some (.deferred (some [])) := (hq.block D hDlt).trans hK
    have hb5 := hb.trans (hq.mono hb.size)
    have hcr := hr5.1
    have hfr := hr5.2
    have HK6 := Lib.hid ((KeepsOthers.setCell w5 ⟨w.heap.size + 1, 0, none⟩ (.bool true)).same D _ hK5 rfl)
    have HR6 : Hid ((w5.setCell ⟨w.heap.size + 1, 0, none⟩ (.bool true)).cell? ⟨w.heap.size + 1, 0, none⟩ = some (.bool true)) := World.cell?_setCell_same' _ _ _ (by rw [hcr]; rfl)
    have HB6 := Lib.hid (hb5.setCell (p := ⟨w.heap.size + 1, 0, none⟩) (by show w.heap.size ≤ w.heap.size + 1; omega) (.bool true))
    clear hc3 hc6 hc7 hmin hE hr5 hK5
    gi_wp2
    refine ⟨by simp, .inl ⟨_, _, rfl, run_takeDeferred HK6.out, ?_⟩⟩
    refine ⟨.bool true, ?_, rfl, HB6.out.trans (belowK_b (w := w) (Nat.le_refl _) _ D _ _ (by omega) HK6.out rfl rfl)⟩
    have hcell : ((w5.setCell ⟨w.heap.size + 1, 0, none⟩ (.bool true)).putObj D (.deferred none)).cell? ⟨w.heap.size + 1, 0, none⟩ = some (.bool true) :=
      (World.cell?_of_block (w := w5.setCell ⟨w.heap.size + 1, 0, none⟩ (.bool true)) (a := ⟨w.heap.size + 1, 0, none⟩) (World.putObj_heap_other (by show w.heap.size + 1 ≠ D; omega))).trans HR6.out
    simp [results, Tryd.results4, go_sem, hcell]
end Go.Proofs.YtckeiihdbabgiaaDoor
