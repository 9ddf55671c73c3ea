/- ledger.Fold and the reference's. -/
import Derived.Test.YtncmbbkcpmimjaaDoorFoC
import Derived.Test.YtncmbbkcpmimjaaDoorLedF
import Derived.Test.YtncmbbkcpmimjaaDoorLdOf
import Derived.Test.YtncmbbkcpmimjaaDoorLedX
import Derived.Deep.RegionHeld3
import Derived.Deep.DrawnRows
import Derived.Deep.RegionWith
namespace Go.Proofs.YtncmbbkcpmimjaaDoor
open Go.RowKit Law
set_option linter.unusedVariables false

theorem ledAddS (l : Ld) (hf : l.Fits) (x : Et) (hx : x.Ok ∧ x.n ≤ 60) (w : World) (hU : U8At w x.A x.b) :
    Calls Tryd.prog 8 #[.agg l.cells.toArray, .agg x.cells.toArray] w fun en w' => ∃ z, en = .returned (.tuple #[.agg (addS l x.dat).cells.toArray, .int .i64 z]) ∧ Below w.heap.size w w' := by
  unfold addS Et.dat
  by_cases hok : okE x.e
  · rw [if_pos hok]
    exact (ledAdd_yes l hf x.e hx.1.fits hok x.A x.n x.c x.b hx.1.len (by omega) w hU).mono fun en w' ⟨h1, h2⟩ => ⟨0, h1, h2⟩
  · rw [if_neg hok]
    exact (ledAdd_no l hf x.e hx.1.fits hok x.A x.n x.c w).mono fun en w' ⟨h1, h2⟩ => ⟨8, h1, h2⟩
theorem refAddS (l : Ld) (hf : l.Fits) (x : Et) (hx : x.Ok ∧ x.n ≤ 60) (w : World) (hU : U8At w x.A x.b) :
    Calls Tryd.prog 9 #[.agg l.cells.toArray, .agg x.cells.toArray] w fun en w' => en = .returned (.tuple #[.agg (addS l x.dat).cells.toArray, .bool (decide (okE x.e))]) ∧ Below w.heap.size w w' := by
  unfold addS Et.dat
  by_cases hok : okE x.e
  · rw [if_pos hok, decide_eq_true hok]
    exact refAdd_yes l hf x.e hx.1.fits hok x.A x.n x.c x.b hx.1.len (by omega) w hU
  · rw [if_neg hok, decide_eq_false hok]
    exact refAdd_no l hf x.e hx.1.fits hok x.A x.n x.c w
theorem addL_eq (l : Ld) (xs : List Et) (k : Nat) (hk : k < xs.length) : foldS l ((xs.map Et.dat).take (k + 1)) = addS (foldS l ((xs.map Et.dat).take k)) (xs[k]).dat := by
  rw [foldS_snoc l (xs.map Et.dat) k (by rw [List.length_map]; exact hk), List.getElem_map]
section
attribute [local go_sem ↓] exec_ld
attribute [local go_sem] ptr0_mk ptrB_mk
set_option maxHeartbeats 6400000 in
set_option maxRecDepth 100000 in
theorem ledFold (l : Ld) (hf : l.Fits) (A : Option Addr) (len c : Nat) (xs : List Et) (hl : xs.length = len) (hl40 : len ≤ 40) (hok : ∀ x ∈ xs, x.Ok ∧ x.n ≤ 60) {r : Ld} (hr : foldS l (xs.map Et.dat) = r) (w : World) (hA : EnsAt w A xs) :
    Calls Tryd.prog 24 #[.agg l.cells.toArray, .slice A len c] w fun en w' => en = .returned (.agg r.cells.toArray) ∧ Below w.heap.size w w' := by
  obtain ⟨hz, -⟩ := zero_of_info ldZero
  unfold Ld.val at hz
  obtain ⟨hze, -⟩ := zero_of_info (show (Tryd.prog.info? 31).map (fun i => (i.zero, i.size)) = some (some (.agg #[.int .i64 0, .int .i64 0, .int .i64 0, .int .u32 0, .slice none 0 0]), 5) by kernel_rfl)
  have hbA : Below w.heap.size w ((w.alloc (.cells l.cells.toArray 26)).alloc (.cells Ld0.cells.toArray 26)) := ((Below.refl _ _).alloc (Nat.le_refl _) _).alloc (by simp) _
  have hL0 : LdBox ((w.alloc (.cells l.cells.toArray 26)).alloc (.cells Ld0.cells.toArray 26)) w.heap.size l := (LdBox.new w l 26).below ((Below.refl _ _).alloc (Nat.le_refl _) _)
  have hR0 : LdBox ((w.alloc (.cells l.cells.toArray 26)).alloc (.cells Ld0.cells.toArray 26)) (w.heap.size + 1) Ld0 := by
    have := LdBox.new (w.alloc (.cells l.cells.toArray 26)) Ld0 26
    rwa [World.size_alloc] at this
  have H0 := Lib.hid (And.intro hL0 (And.intro hR0 hbA))
  have HX := Lib.hid (And.intro hl (And.intro hok (And.intro hA hr)))
  clear hL0 hR0 hbA hl hok hA hr
  go_enter Tryd.func24, Tryd.ntmps24
  go_wp2
  go_loopw [9] (fun i wr => ∃ k : Nat, k ≤ len ∧ i = .int .i64 k ∧ LdBox wr w.heap.size (foldS l ((xs.map Et.dat).take k)) ∧ LdBox wr (w.heap.size + 1) Ld0 ∧ Below w.heap.size w wr) (fun i _ => len - (intOf i).toNat)
  case atStart => exact ⟨0, Nat.zero_le _, rfl, H0.out⟩
  case round =>
    obtain ⟨k, hk, rfl, hL, hR, hb⟩ := hrel
    by_cases hlt : k < len
    · have hkx : k < xs.length := by rw [HX.out.1]; exact hlt
      obtain ⟨blk, off, rfl, hcells, hU⟩ := (HX.out.2.2.1.keep hb) k xs[k] (List.getElem?_eq_getElem hkx)
      have hxok := HX.out.2.1 xs[k] (List.getElem_mem hkx)
      have hsn := addL_eq l xs k hkx
      have hfk := foldS_fits ((xs.map Et.dat).take k) hf
      obtain ⟨lk, hlk⟩ : ∃ lk, foldS l ((xs.map Et.dat).take k) = lk := ⟨_, rfl⟩
      rw [hlk] at hL hsn hfk
      obtain ⟨x, hx⟩ : ∃ x, xs[k] = x := ⟨_, rfl⟩
      rw [hx] at hcells hU hxok hsn
      have hfn := addS_fits hfk x.dat
      have CA := Lib.hid (fun W h => ledAddS lk hfk x hxok W h)
      have HSN := Lib.hid hsn
      obtain ⟨ln, hln⟩ : ∃ ln, addS lk x.dat = ln := ⟨_, rfl⟩
      rw [hln] at CA HSN hfn
      obtain ⟨⟨at_, ft, ff, fs⟩, xA, xn, xc, xb⟩ := x
      unfold Et.cells at CA
      have p0 := hcells 0 _ rfl
      have p1 := hcells 1 _ rfl
      have p2 := hcells 2 _ rfl
      have p3 := hcells 3 _ rfl
      have p4 := hcells 4 _ rfl
      simp only [Nat.add_zero] at p0 p1 p2 p3 p4
      have hb1 : Below wr.heap.size wr (wr.alloc (.cells #[.int .i64 at_, .int .i64 ft, .int .i64 ff, .int .u32 (fs : Int), .slice xA xn xc] 31)) := (Below.refl _ _).alloc (Nat.le_refl _) _
      have hld := LdHas.of hfk (hL.below hb1).1
      have f1 := hld.fit
      have f2 := hld.eq
      have HK := Lib.hid (And.intro (hL.below hb1) (And.intro (hR.below hb1) (And.intro (hb.trans (hb1.mono hb.size)) (And.intro (hU.keep hb1) (And.intro hfk hfn)))))
      clear hcells hU hxok hsn hfk hfn hx hlk hln hL hR hb hb1 hld
      go_wp2_with fail
      refine (CA.out _ HK.out.2.2.2.1).mono ?_
      rintro en w2 ⟨z, rfl, hb2⟩
      have HB := Lib.hid (And.intro (HK.out.1.below hb2) (And.intro (HK.out.2.1.below hb2) (HK.out.2.2.1.trans (hb2.mono HK.out.2.2.1.size))))
      clear hb2 f1 f2 p0 p1 p2 p3 p4
      go_wp2_with (first | (refine wp_ldStore rfl _ _ rfl w.heap.size lk ln rfl rfl HK.out.2.2.2.2.1 HK.out.2.2.2.2.2 HB.out.1 ?_; intro w3 hB3 hbb hoo; have HF := Lib.hid (And.intro hB3 (And.intro (hoo _ _ (Nat.succ_ne_self _) HB.out.2.1) (hbb _ _ (Nat.le_refl _) HB.out.2.2))); clear hB3 hbb hoo))
      go_roundw
      case rel => exact ⟨k + 1, by omega, by go_num, by rw [HSN.out]; exact HF.out.1, HF.out.2⟩
      case measure => simp [intOf]; omega
    · obtain rfl : k = len := by omega
      have hlk : foldS l ((xs.map Et.dat).take k) = r := by rw [List.take_of_length_le (by rw [List.length_map, HX.out.1]; exact Nat.le_refl _)]; exact HX.out.2.2.2
      rw [hlk] at hL
      have hfr : r.Fits := by rw [← HX.out.2.2.2]; exact foldS_fits _ hf
      have hld := LdHas.of hfr hL.1
      have f1 := hld.fit
      have f2 := hld.eq
      have HK := Lib.hid (And.intro hR (And.intro hb hfr))
      clear hL hR hb hfr hlk hld
      go_wp2_with (first | (refine wp_ldStore rfl _ _ rfl (w.heap.size + 1) Ld0 r rfl rfl Ld0.fits HK.out.2.2 HK.out.1 ?_; intro w3 hB3 hbb hoo))
      refine bodyPost_ret (v := .agg r.cells.toArray) (by simp [results, Tryd.results24, asAddr, ldLoadU hB3.1 HK.out.2.2, Ld.val, Act.put]) rfl ⟨rfl, hbb _ _ (Nat.le_succ _) HK.out.2.1⟩
section
attribute [local go_sem ↓] exec_st Go.wp_at_zero Go.wp_at_succ
attribute [local go_sem] aggL_mk
set_option maxHeartbeats 6400000 in
set_option maxRecDepth 100000 in
theorem refFold (l : Ld) (hf : l.Fits) (A : Option Addr) (len c : Nat) (xs : List Et) (hl : xs.length = len) (hl40 : len ≤ 40) (hok : ∀ x ∈ xs, x.Ok ∧ x.n ≤ 60) {r : Ld} (hr : foldS l (xs.map Et.dat) = r) (w : World) (hA : EnsAt w A xs) :
    Calls Tryd.prog 25 #[.agg l.cells.toArray, .slice A len c] w fun en w' => en = .returned (.agg r.cells.toArray) ∧ Below w.heap.size w w' := by
  obtain ⟨hz, -⟩ := zero_of_info ldZero
  unfold Ld.val at hz
  have hbA : Below w.heap.size w ((w.alloc (.cells l.cells.toArray 26)).alloc (.cells Ld0.cells.toArray 26)) := ((Below.refl _ _).alloc (Nat.le_refl _) _).alloc (by simp) _
  have hL0 : LdBox ((w.alloc (.cells l.cells.toArray 26)).alloc (.cells Ld0.cells.toArray 26)) w.heap.size l := (LdBox.new w l 26).below ((Below.refl _ _).alloc (Nat.le_refl _) _)
  have hR0 : LdBox ((w.alloc (.cells l.cells.toArray 26)).alloc (.cells Ld0.cells.toArray 26)) (w.heap.size + 1) Ld0 := by
    have := LdBox.new (w.alloc (.cells l.cells.toArray 26)) Ld0 26
    rwa [World.size_alloc] at this
  have H0 := Lib.hid (And.intro hL0 (And.intro hR0 hbA))
  have HX := Lib.hid (And.intro hl (And.intro hok (And.intro hA hr)))
  clear hL0 hR0 hbA hl hok hA hr
  go_enter Tryd.func25, Tryd.ntmps25
  go_wp2
  go_loopw [5] (fun i wr => ∃ k : Nat, k ≤ len ∧ i = .int .i64 k ∧ LdBox wr w.heap.size (foldS l ((xs.map Et.dat).take k)) ∧ LdBox wr (w.heap.size + 1) Ld0 ∧ Below w.heap.size w wr) (fun i _ => len - (intOf i).toNat)
  case atStart => exact ⟨0, Nat.zero_le _, rfl, H0.out⟩
  case round =>
    obtain ⟨k, hk, rfl, hL, hR, hb⟩ := hrel
    by_cases hlt : k < len
    · have hkx : k < xs.length := by rw [HX.out.1]; exact hlt
      obtain ⟨blk, off, rfl, hcells, hU⟩ := (HX.out.2.2.1.keep hb) k xs[k] (List.getElem?_eq_getElem hkx)
      have hxok := HX.out.2.1 xs[k] (List.getElem_mem hkx)
      have hsn := addL_eq l xs k hkx
      have hfk := foldS_fits ((xs.map Et.dat).take k) hf
      obtain ⟨lk, hlk⟩ : ∃ lk, foldS l ((xs.map Et.dat).take k) = lk := ⟨_, rfl⟩
      rw [hlk] at hL hsn hfk
      obtain ⟨x, hx⟩ : ∃ x, xs[k] = x := ⟨_, rfl⟩
      rw [hx] at hcells hU hxok hsn
      have hfn := addS_fits hfk x.dat
      have HSN := Lib.hid hsn
      have CA := fun (W : World) (h : U8At W x.A x.b) => refAddS lk hfk x hxok W h
      obtain ⟨ln, hln⟩ : ∃ ln, addS lk x.dat = ln := ⟨_, rfl⟩
      simp only [hln] at CA
      rw [hln] at HSN hfn
      obtain ⟨ob, hob⟩ : ∃ ob, decide (okE x.e) = ob := ⟨_, rfl⟩
      simp only [hob] at CA
      have CA := Lib.hid CA
      obtain ⟨⟨at_, ft, ff, fs⟩, xA, xn, xc, xb⟩ := x
      unfold Et.cells at CA
      have hp := fun (w' : World) (hw : Below wr.heap.size wr w') j v hj => (hw.cell (p := ⟨blk, off + k * 5 + j, none⟩) (World.block_lt_of_cell? _ _ (hcells j v hj))).trans (hcells j v hj)
      have p0 := hp wr (Below.refl _ _) 0 _ rfl
      have p1 := hp wr (Below.refl _ _) 1 _ rfl
      have p2 := hp wr (Below.refl _ _) 2 _ rfl
      have p3 := hp wr (Below.refl _ _) 3 _ rfl
      have p4 := hp wr (Below.refl _ _) 4 _ rfl
      simp only [Nat.add_zero] at p0 p1 p2 p3 p4
      have hd := (Below.refl wr.heap.size wr).drew
      have hl1 := LdHas.of hfk (hL.below hd).1
      have f1 := hl1.fit
      have f2 := hl1.eq
      have hk0 : (0 : Int) ≤ (k : Int) := by omega
      have hk1 : (k : Int) < (len : Int) := by omega
      have hlv := hfn.val
      have HK := Lib.hid (And.intro hL (And.intro hR (And.intro hb (And.intro hfk (And.intro hfn (hU.keep hd))))))
      clear hcells hU hxok hsn hfk hfn hx hlk hln hL hR hb hp hob hkx hl1 hd
      go_wp2_with fail
      go_region_with ((go_at_call 9; (with_reducible refine (CA.out _ HK.out.2.2.2.2.2).mono ?_); rintro en w2 ⟨rfl, hb2⟩; have hso := (HK.out.1.below ((Below.refl _ wr).drew.trans hb2)).stOk HK.out.2.2.2.1))
      all_goals
        have hb3 := (Below.refl wr.heap.size wr).drew.trans hb2
        have HF := Lib.hid (And.intro ((HK.out.1.below hb3).put HK.out.2.2.2.1 HK.out.2.2.2.2.1) (And.intro ((HK.out.2.1.below hb3).putApart (Nat.succ_ne_self _) ln.cells) (below_setCells (g := w.heap.size) (Nat.le_refl _) ln.cells 0 _ (HK.out.2.2.1.trans (hb3.mono HK.out.2.2.1.size)))))
        clear hb3 hb2 hso p0 p1 p2 p3 p4 f1 f2
        go_wp2
        go_roundw
        case rel => exact ⟨k + 1, by omega, by go_num, by rw [HSN.out]; exact HF.out.1, HF.out.2⟩
        case measure => simp [intOf]; omega
    · obtain rfl : k = len := by omega
      have hlk : foldS l ((xs.map Et.dat).take k) = r := by rw [List.take_of_length_le (by rw [List.length_map, HX.out.1]; exact Nat.le_refl _)]; exact HX.out.2.2.2
      rw [hlk] at hL
      have hfr : r.Fits := by rw [← HX.out.2.2.2]; exact foldS_fits _ hf
      have hld := LdHas.of hfr hL.1
      have f1 := hld.fit
      have f2 := hld.eq
      have HK := Lib.hid (And.intro hR (And.intro hb hfr))
      clear hL hR hb hfr hlk hld
      go_wp2_with (first | (refine wp_ldStore rfl _ _ rfl (w.heap.size + 1) Ld0 r rfl rfl Ld0.fits HK.out.2.2 HK.out.1 ?_; intro w3 hB3 hbb hoo))
      refine bodyPost_ret (v := .agg r.cells.toArray) (by simp [results, Tryd.results25, asAddr, ldLoadU hB3.1 HK.out.2.2, Ld.val, Act.put]) rfl ⟨rfl, hbb _ _ (Nat.le_succ _) HK.out.2.1⟩
end
end
end Go.Proofs.YtncmbbkcpmimjaaDoor
