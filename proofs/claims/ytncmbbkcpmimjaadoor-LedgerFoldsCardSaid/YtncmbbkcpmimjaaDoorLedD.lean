/- The reference's Add. -/
import Derived.Test.YtncmbbkcpmimjaaDoorLedW
namespace Go.Proofs.YtncmbbkcpmimjaaDoor
open Go.RowKit Law
set_option linter.unusedVariables false

set_option maxHeartbeats 1600000 in
set_option maxRecDepth 100000 in
theorem refAdd_no (l : Ld) (hf : l.Fits) (e : En) (he : e.Fits) (hno : ¬ okE e) (A : Option Addr) (n cap : Nat) (w : World) :
    Calls Tryd.prog 9 #[l.val, EnV e A n cap] w fun en w' => en = .returned (.tuple #[l.val, .bool false]) ∧ Below w.heap.size w w' := by
  obtain ⟨hz, -⟩ := zero_of_info ldZero
  have HB := Lib.hid (three w l #[.int .i64 e.at_, .int .i64 e.t, .int .i64 e.f, .int .u32 (e.s : Int), .slice A n cap])
  unfold Ld.val at hz ⊢
  unfold EnV
  go_enter Tryd.func9, Tryd.ntmps9
  have h01 : e.f < 0 ∨ (¬ e.f < 0 ∧ 63 < e.f) := by unfold okE at hno; omega
  rcases h01 with h0 | ⟨h0, h1⟩
  · go_wp2_with (first | (refine wp_ldLoad rfl _ rfl w.heap.size rfl l hf HB.out.1.1 ?_) | (refine wp_ldStore rfl _ _ rfl (w.heap.size + 1 + 1) Ld0 l rfl rfl Ld0.fits hf HB.out.2.1 ?_; intro w4 hB4 hbb hoo))
    refine bodyPost_ret (v := .tuple #[.agg l.cells.toArray, .bool false]) (by simp [results, Tryd.results9, asAddr, ldLoadU hB4.1 hf, Ld.val]) rfl ⟨rfl, hbb _ _ (by omega) HB.out.2.2⟩
  · go_wp2_with (first | (refine wp_ldLoad rfl _ rfl w.heap.size rfl l hf HB.out.1.1 ?_) | (refine wp_ldStore rfl _ _ rfl (w.heap.size + 1 + 1) Ld0 l rfl rfl Ld0.fits hf HB.out.2.1 ?_; intro w4 hB4 hbb hoo))
    refine bodyPost_ret (v := .tuple #[.agg l.cells.toArray, .bool false]) (by simp [results, Tryd.results9, asAddr, ldLoadU hB4.1 hf, Ld.val]) rfl ⟨rfl, hbb _ _ (by omega) HB.out.2.2⟩
theorem refSumB {n : Nat} (A : Option Addr) (cap : Nat) (l : List UInt8) (hn : l.length = n) (hm : n ≤ 1000000) {r : Nat} (hr : crcL l = r) (w : World) (hA : U8At w A l) :
    Calls Tryd.prog 28 #[.slice A n cap] w fun e w' => e = .returned (.int .u32 (r : Int)) ∧ Below w.heap.size w w' := by
  subst hr
  exact (refSum A cap l hn hm w hA).mono fun _ _ ⟨he, hw⟩ => ⟨he, by subst hw; exact Below.refl _ _⟩
set_option maxHeartbeats 3200000 in
set_option maxRecDepth 100000 in
theorem refAdd_yes (l : Ld) (hf : l.Fits) (e : En) (he : e.Fits) (hok : okE e) (A : Option Addr) (n cap : Nat) (b : List UInt8) (hn : b.length = n) (hm : n ≤ 1000000) (w : World) (hA : U8At w A b) :
    Calls Tryd.prog 9 #[l.val, EnV e A n cap] w fun en w' => en = .returned (.tuple #[(addL l e b).val, .bool true]) ∧ Below w.heap.size w w' := by
  have HL := Lib.hid (addL_fits hf e b)
  obtain ⟨at_, t, f', s⟩ := e
  obtain ⟨f, rfl⟩ : ∃ f : Nat, f' = (f : Int) := ⟨f'.toNat, by have := hok.1; simp at this; omega⟩
  have hf64 : f < 64 := by have := hok.2; simp at this; omega
  obtain ⟨t0, t1, -, -, s32⟩ := he
  simp only at t0 t1 s32
  obtain ⟨hz, -⟩ := zero_of_info ldZero
  obtain ⟨cnt, hcnt⟩ : ∃ cnt, wrapI (l.count + 1) = cnt := ⟨_, rfl⟩
  have hcnt2 : IntKind.i64.wrap (l.count + 1) = cnt := hcnt
  have h3 := three w l #[.int .i64 at_, .int .i64 t, .int .i64 (f : Int), .int .u32 (s : Int), .slice A n cap]
  have h4 := three w { l with count := cnt } #[.int .i64 at_, .int .i64 t, .int .i64 (f : Int), .int .u32 (s : Int), .slice A n cap]
  have hc0 := h3.1.1.count
  have hg0 := h3.1.2 0 (by omega)
  have hc1 : ∀ W : Later (((w.alloc (.cells (l.cells.set 0 (.int .i64 cnt)).toArray 26)).alloc (.cells #[.int .i64 at_, .int .i64 t, .int .i64 (f : Int), .int .u32 (s : Int), .slice A n cap] 31)).alloc (.cells Ld0.cells.toArray 26)), W.val.cell? ⟨w.heap.size, 1, none⟩ = some (.int .u64 (l.sum : Int)) := fun W => (h4.1.below W.h).1.sum
  have hE2 : ((w.alloc (.cells (l.cells.set 0 (.int .i64 cnt)).toArray 26)).alloc (.cells #[.int .i64 at_, .int .i64 t, .int .i64 (f : Int), .int .u32 (s : Int), .slice A n cap] 31)).heap.size = w.heap.size + 2 := by simp
  have hE : ∀ (j : Nat) (v : Value), (#[Value.int .i64 at_, .int .i64 t, .int .i64 (f : Int), .int .u32 (s : Int), .slice A n cap])[j]? = some v → ∀ W : Later (((w.alloc (.cells (l.cells.set 0 (.int .i64 cnt)).toArray 26)).alloc (.cells #[.int .i64 at_, .int .i64 t, .int .i64 (f : Int), .int .u32 (s : Int), .slice A n cap] 31)).alloc (.cells Ld0.cells.toArray 26)), W.val.cell? ⟨w.heap.size + 1, j, none⟩ = some v := by
    intro j v hv W
    have h : ((w.alloc (.cells (l.cells.set 0 (.int .i64 cnt)).toArray 26)).alloc (.cells #[.int .i64 at_, .int .i64 t, .int .i64 (f : Int), .int .u32 (s : Int), .slice A n cap] 31)).cell? ⟨w.heap.size + 1, j, none⟩ = some v := by
      rw [World.cell?_alloc_at _ _ _ _ (by simp)]; exact hv
    have h2 : (((w.alloc (.cells (l.cells.set 0 (.int .i64 cnt)).toArray 26)).alloc (.cells #[.int .i64 at_, .int .i64 t, .int .i64 (f : Int), .int .u32 (s : Int), .slice A n cap] 31)).alloc (.cells Ld0.cells.toArray 26)).cell? ⟨w.heap.size + 1, j, none⟩ = some v :=
      (((Below.refl _ ((w.alloc (.cells (l.cells.set 0 (.int .i64 cnt)).toArray 26)).alloc (.cells #[.int .i64 at_, .int .i64 t, .int .i64 (f : Int), .int .u32 (s : Int), .slice A n cap] 31))).alloc (Nat.le_refl _) (.cells Ld0.cells.toArray 26)).cell (p := ⟨w.heap.size + 1, j, none⟩) (by simp)).trans h
    exact (W.h.cell (p := ⟨w.heap.size + 1, j, none⟩) (by simp)).trans h2
  have hE1 := hE 1 _ rfl
  have hE2' := hE 2 _ rfl
  have hE3 := hE 3 _ rfl
  have hE4 := hE 4 _ rfl
  obtain ⟨q, hq⟩ : ∃ q, crcL b = q := ⟨_, rfl⟩
  have hq32 : q < 4294967296 := by rw [← hq]; exact crcL_lt b
  have C := Lib.hid (fun (W : Later (((w.alloc (.cells (l.cells.set 0 (.int .i64 cnt)).toArray 26)).alloc (.cells #[.int .i64 at_, .int .i64 t, .int .i64 (f : Int), .int .u32 (s : Int), .slice A n cap] 31)).alloc (.cells Ld0.cells.toArray 26))) => refSumB A cap b hn hm hq W.val ((hA.keep h4.2.2).keep W.h))
  obtain ⟨r, hr⟩ : ∃ r, mixS l.sum ⟨at_, t, f, s⟩ q n = r := ⟨_, rfl⟩
  have hmx : IntKind.u64.wrap (IntKind.u64.wrap (IntKind.u64.wrap (IntKind.u64.wrap (IntKind.u64.wrap (IntKind.u64.wrap ((l.sum : Int) * 1099511628211) + IntKind.u64.wrap t) + (f : Int) * 65536) + (s : Int) * 16777216) + (q : Int) * 256) + (n : Int)) = (r : Int) := by
    rw [← hr]
    unfold mixS
    simp only [IntKind.wrap_u64]
    omega
  have HR := Lib.hid (And.intro hq (And.intro hcnt (And.intro hn hr)))
  have HB := Lib.hid h4
  have hfn := hf.n
  obtain ⟨c, hc⟩ : ∃ c, l.of.getD f 0 = c := ⟨_, rfl⟩
  have hcg : l.of[f]'(by omega) = c := by rw [← hc, List.getD_eq_getElem?_getD, List.getElem?_eq_getElem (by omega)]; rfl
  have hc32 : c < 4294967296 := by rw [← hcg]; exact hf.o _ (List.getElem_mem _)
  obtain ⟨c1, hc1e⟩ : ∃ c1, (c + 1) % 4294967296 = c1 := ⟨_, rfl⟩
  have hcw : IntKind.u32.wrap ((c : Int) + 1) = (c1 : Int) := by rw [IntKind.wrap_u32]; omega
  have HC := Lib.hid (And.intro hc (And.intro hcg hc1e))
  unfold Ld.val at hz ⊢
  unfold EnV
  have hs64 := hf.s
  clear h3 h4 hcnt hn hA hE hE2 hq hr hc hcg hc1e
  go_enter Tryd.func9, Tryd.ntmps9
  go_wp2_with fail
  refine wp_region_later_tail 31 (by kernel_rfl) (by kernel_rfl) ?_
  simp only [List.take_succ_cons, List.take_zero, List.drop_succ_cons, List.drop_zero]
  repeat (go_big_quiet_step (exact later_of (C.out _)))
  refine wpQuiet_nil ?_
  rintro ⟨W4, hW4⟩
  dsimp only
  have hB4 := HB.out.1.below hW4
  have hB43 := HB.out.2.1.below hW4
  have hg1 := hB4.2 1 (by omega)
  have hc1' := hB4.1.sum
  have hE2x := hE2' ⟨W4, hW4⟩
  dsimp only at hE2x
  have HB4 := Lib.hid (And.intro hB4 (And.intro hB43 (And.intro (HB.out.2.2.trans (hW4.mono (by simp; omega))) hE2x)))
  clear hc1 hE1 hE2' hE3 hE4 hc0 hg0 hcnt2 hB4 hB43 hE2x
  go_wp2_with fail
  have hB5 : LdBox (W4.setCell ⟨w.heap.size, 1, none⟩ (.int .u64 (r : Int))) w.heap.size ⟨cnt, r, l.of⟩ := HB4.out.1.sum r
  have hB53 : LdBox (W4.setCell ⟨w.heap.size, 1, none⟩ (.int .u64 (r : Int))) (w.heap.size + 1 + 1) Ld0 := HB4.out.2.1.other (by simp; omega) _
  have hb5 : Below w.heap.size w (W4.setCell ⟨w.heap.size, 1, none⟩ (.int .u64 (r : Int))) := HB4.out.2.2.1.setCell (p := ⟨w.heap.size, 1, none⟩) (Nat.le_refl _) _
  have hE5 : (W4.setCell ⟨w.heap.size, 1, none⟩ (.int .u64 (r : Int))).cell? ⟨w.heap.size + 1, 2, none⟩ = some (.int .i64 (f : Int)) := by
    rw [World.cell?_setCell_other _ _ _ _ (by simp)]
    exact HB4.out.2.2.2
  have hE5' : ∀ W : Later (W4.setCell ⟨w.heap.size, 1, none⟩ (.int .u64 (r : Int))), W.val.cell? ⟨w.heap.size + 1, 2, none⟩ = some (.int .i64 (f : Int)) := fun W => (W.h.cell (p := ⟨w.heap.size + 1, 2, none⟩) (World.block_lt_of_cell? _ _ hE5)).trans hE5
  have hc6 : ∀ W : Later (W4.setCell ⟨w.heap.size, 1, none⟩ (.int .u64 (r : Int))), W.val.cell? ⟨w.heap.size, 2 + f, none⟩ = some (.int .u32 (c : Int)) := fun W => by
    have := (hB5.below W.h).1.of (k := f) (by show f < l.of.length; omega)
    rw [this]
    show some (Value.int .u32 ((l.of[f]'(by omega) : Nat) : Int)) = _
    rw [HC.out.2.1]
  have HB5 := Lib.hid (And.intro hB5 (And.intro hB53 hb5))
  clear hB5 hB53 hb5 hE5 hc1' hg1 hmx
  refine wp_region_later_tail 12 (by kernel_rfl) (by kernel_rfl) ?_
  simp only [List.take_succ_cons, List.take_zero, List.drop_succ_cons, List.drop_zero]
  repeat (go_big_quiet_step (fail))
  refine wpQuiet_nil ?_
  rintro ⟨W6, hW6⟩
  dsimp only
  have hB6 := HB5.out.1.below hW6
  have hg6 := hB6.2 (2 + f) (by omega)
  have hc7 := hc6 ⟨W6, hW6⟩
  dsimp only at hc7
  have hB8 := hB6.of f c1 (by show f < l.of.length; omega)
  have hB9 : LdBox (W6.setCell ⟨w.heap.size, 2 + f, none⟩ (.int .u32 (c1 : Int))) (w.heap.size + 1 + 1) Ld0 := (HB5.out.2.1.below hW6).other (by simp; omega) _
  have hb9 : Below w.heap.size w (W6.setCell ⟨w.heap.size, 2 + f, none⟩ (.int .u32 (c1 : Int))) :=
    (HB5.out.2.2.trans (hW6.mono HB5.out.2.2.size)).setCell (p := ⟨w.heap.size, 2 + f, none⟩) (Nat.le_refl _) _
  have hLL : (⟨cnt, r, l.of.set f c1⟩ : Ld) = addL l ⟨at_, t, f, s⟩ b := by
    unfold addL
    rw [HR.out.2.1, HR.out.1, HR.out.2.2.1, HR.out.2.2.2]
    simp only [Int.toNat_natCast]
    rw [HC.out.1, HC.out.2.2]
  have hB8' : LdBox (W6.setCell ⟨w.heap.size, 2 + f, none⟩ (.int .u32 (c1 : Int))) w.heap.size (addL l ⟨at_, t, f, s⟩ b) := by rw [← hLL]; exact hB8
  have H9 := Lib.hid (And.intro hB8' (And.intro hB9 hb9))
  clear hB6 hB8 hB8' hB9 hb9 hLL hE5' hc6
  go_wp2_with (first | (refine wp_ldLoad rfl _ rfl w.heap.size rfl (addL l ⟨at_, t, f, s⟩ b) HL.out H9.out.1.1 ?_) | (refine wp_ldStore rfl _ _ rfl (w.heap.size + 1 + 1) Ld0 (addL l ⟨at_, t, f, s⟩ b) rfl rfl Ld0.fits HL.out H9.out.2.1 ?_; intro w9 hB9 hbb hoo))
  refine bodyPost_ret (v := .tuple #[.agg (addL l ⟨at_, t, f, s⟩ b).cells.toArray, .bool true]) (by simp [results, Tryd.results9, asAddr, ldLoadU hB9.1 HL.out, Ld.val]) rfl ⟨rfl, hbb _ _ (by omega) H9.out.2.2⟩
end Go.Proofs.YtncmbbkcpmimjaaDoor
