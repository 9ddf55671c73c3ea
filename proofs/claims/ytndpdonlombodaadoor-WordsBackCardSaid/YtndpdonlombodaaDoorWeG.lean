/- WordsBack. -/
import Derived.Test.YtndpdonlombodaaDoorWeE
namespace Go.Proofs.YtndpdonlombodaaDoor
open Go.RowKit Law
set_option linter.unusedVariables false
set_option linter.unusedSimpArgs false

theorem filter_snoc (es : List Ac) (k : Nat) (hk : k < es.length) : (es.take (k + 1)).filter goodA = if goodA es[k] = true then (es.take k).filter goodA ++ [es[k]] else (es.take k).filter goodA := by
  rw [List.take_succ_eq_append_getElem hk, List.filter_append]
  by_cases h : goodA es[k] = true
  · rw [if_pos h]; simp [h]
  · rw [if_neg h]; simp [h]
set_option maxHeartbeats 6400000 in
set_option maxRecDepth 100000 in
theorem walkWBack (A : Option Addr) (len c : Nat) (xs : List Aw) (hl : xs.length = len) (hc : len ≤ c) (hcm : c ≤ maxLen) (hok : ∀ x ∈ xs, x.In) (w : World) (hA : ActsAt w A xs) (hP : P10 w) (hM : MX w) (hE : E7 w) :
    Calls Tryd.prog 5 #[.slice A len c] w fun e w' => e = .returned (.bool true) ∧ Below w.heap.size w w' := by
  obtain ⟨i1, gi, gz0, gz1, gz2⟩ := info_parts actInfo
  obtain ⟨hz, hsz⟩ := zero_of_info (show (Tryd.prog.info? 29).map (fun i => (i.zero, i.size)) = some (some (.agg #[.int .i64 0, .int .i64 0, .int .i64 0, .int .i64 0, .int .i64 0, .int .i64 0, .int .u32 0, .int .u32 0, .slice none 0 0]), 9) by kernel_rfl)
  have CC := Lib.hid (cut46 A len c xs hl hc hcm hok w hA)
  have HP := Lib.hid (And.intro hP (And.intro hM hE))
  clear hl hcm hok hA hP hM hE
  go_enter Tryd.func5, Tryd.ntmps5
  go_wp2_with fail
  refine CC.out.mono ?_
  rintro e w1 ⟨v, ys, rfl, hown, hb1, hys, hmap⟩
  have hn60 := cut_n60 hmap
  obtain ⟨A1, c1, rfl, hc1⟩ := OwnOr.form (show OwnOr _ _ _ _ _ _ _ from .inl hown)
  have hE1 := acts_of_own hown (fun y hy => ⟨(hys y hy).1.1, (hys y hy).2⟩)
  have hyok : ∀ y ∈ ys, y.Ok ∧ y.Own w1 w.heap.size := fun y hy => ⟨(hys y hy).1.1, (hys y hy).2⟩
  obtain ⟨n, hn⟩ : ∃ n, ys.length = n := ⟨_, rfl⟩
  rw [hn] at hn60 hc1 ⊢
  have HY := Lib.hid (And.intro hn (And.intro hE1 (And.intro hyok hb1)))
  clear hn hE1 hyok hown hb1 hys hmap
  go_wp2
  go_loopw [3, 12] (fun v i wr => ∃ (k m : Nat) (zs : List Aw), k ≤ n ∧ i = .int .i64 k ∧ zs.length = m ∧ m ≤ k ∧ wr.ownsRow w1.heap.size 29 9 v m (flatA zs) ∧ (∀ y ∈ zs, y.Ok ∧ y.Own wr w.heap.size) ∧ acs zs = ((acs ys).take k).filter goodA ∧ Below w1.heap.size w1 wr) (fun _ i _ => n - (intOf i).toNat)
  case atStart => exact ⟨0, 0, [], Nat.zero_le _, rfl, rfl, Nat.le_refl _, ⟨by simp [flatA], .inl ⟨rfl, rfl⟩⟩, fun y hy => by simp at hy, by simp [acs], Below.refl _ _⟩
  case round =>
    obtain ⟨k, m, zs, hk, rfl, hlz, hmk, hown, hzs, hflt, hb⟩ := hrel
    obtain ⟨Av, cv, rfl, hcv⟩ := OwnOr.form (show OwnOr _ _ _ _ _ _ _ from .inl hown)
    by_cases hlt : k < n
    · have hkx : k < ys.length := by rw [HY.out.1]; exact hlt
      have hkm : k < (acs ys).length := by unfold acs; rw [List.length_map]; exact hkx
      obtain ⟨blk, off, rfl, hcells, hU⟩ := (HY.out.2.1.keep hb) k ys[k] (List.getElem?_eq_getElem hkx)
      have hxok := HY.out.2.2.1 ys[k] (List.getElem_mem hkx)
      have hsn := filter_snoc (acs ys) k hkm
      have hgx : (acs ys)[k] = ys[k].a := by simp [acs]
      rw [hgx] at hsn
      obtain ⟨x, hx⟩ : ∃ x, ys[k] = x := ⟨_, rfl⟩
      rw [hx] at hcells hU hxok hsn
      clear hx hkx hgx hkm
      have hOx := hxok.2.kept hb
      have hxok := hxok.1
      obtain ⟨vg, hvg⟩ : ∃ vg, goodA x.a = vg := ⟨_, rfl⟩
      have C1 := fun W (hW : Below wr.heap.size wr W) => refGoodV x.a x.A x.n x.c vg hvg W (hU.keep hW) hxok.len
      rw [hvg] at hsn
      obtain ⟨⟨xk, xi, xN, ⟨fk, fd, fa, fp, fb⟩, xb⟩, xA, xn, xc⟩ := x
      have p0 := hcells 0 _ rfl
      have p1 := hcells 1 _ rfl
      have p2 := hcells 2 _ rfl
      have p3 := hcells 3 _ rfl
      have p4 := hcells 4 _ rfl
      have p5 := hcells 5 _ rfl
      have p6 := hcells 6 _ rfl
      have p7 := hcells 7 _ rfl
      have p8 := hcells 8 _ rfl
      simp only [Nat.add_zero] at p0 p1 p2 p3 p4 p5 p6 p7 p8 C1
      unfold Ac.cells at C1
      have hbA : Below wr.heap.size wr (wr.alloc (.cells #[.int .i64 xk, .int .i64 xi, .int .i64 xN, .int .i64 fk, .int .i64 fd, .int .i64 fa, .int .u32 (fp : Int), .int .u32 (fb : Int), .slice xA xn xc] 29)) := (Below.refl _ _).alloc (Nat.le_refl _) _
      have C1 := Lib.hid (C1 _ hbA)
      have HH := Lib.hid (And.intro hb (And.intro hown (And.intro hzs (And.intro hflt (And.intro hlz (And.intro hsn (And.intro hOx (And.intro hxok (And.intro hbA (boxAt_made wr [.int .i64 xk, .int .i64 xi, .int .i64 xN, .int .i64 fk, .int .i64 fd, .int .i64 fa, .int .u32 (fp : Int), .int .u32 (fb : Int), .slice xA xn xc] 29))))))))))
      clear hb hown hzs hflt hlz hsn hOx hxok hbA hcells hU hvg
      go_wp2_with fail
      refine C1.out.mono ?_
      rintro e w2 ⟨rfl, hq⟩
      have hbx := HH.out.2.2.2.2.2.2.2.2.2.keep hq
      have hb2 : Below wr.heap.size wr w2 := HH.out.2.2.2.2.2.2.2.2.1.trans (hq.mono HH.out.2.2.2.2.2.2.2.2.1.size)
      have r0 := hbx 0 _ rfl
      have r1 := hbx 1 _ rfl
      have r2 := hbx 2 _ rfl
      have r3 := hbx 3 _ rfl
      have r4 := hbx 4 _ rfl
      have r5 := hbx 5 _ rfl
      have r6 := hbx 6 _ rfl
      have r7 := hbx 7 _ rfl
      have r8 := hbx 8 _ rfl
      have H2 := Lib.hid (And.intro hb2 (And.intro (HH.out.1.trans (hb2.mono HH.out.1.size)) (ownsRow_kept HH.out.2.1 hb2)))
      clear hq hbx hb2 p0 p1 p2 p3 p4 p5 p6 p7 p8
      cases vg with
      | false =>
        go_wp2
        go_roundw
        case rel => exact ⟨k + 1, m, zs, by omega, by go_num, HH.out.2.2.2.2.1, by omega, H2.out.2.2, fun y hy => ⟨(HH.out.2.2.1 y hy).1, (HH.out.2.2.1 y hy).2.kept H2.out.1⟩, by rw [HH.out.2.2.2.2.2.1]; exact HH.out.2.2.2.1, H2.out.2.1⟩
        case measure => simp [intOf]; omega
      | true =>
        have hownO := H2.out.2.2.alloc (.cells #[.int .i64 xk, .int .i64 xi, .int .i64 xN, .int .i64 fk, .int .i64 fd, .int .i64 fa, .int .u32 (fp : Int), .int .u32 (fb : Int), .slice xA xn xc] 29)
        have hwz : w1.heap.size ≤ w2.heap.size := H2.out.2.1.size
        go_wp2_with (at_builtin; refine wpList_append_own _ rfl _ _ 22 rfl w1.heap.size 29 i1 _ 9 80 Tryd.underlying22 gi gz0 gz1 gz2 rfl (by decide) _ _ _ rfl hownO ⟨w2.heap.size, 0, none⟩ 1 1 [.int .i64 xk, .int .i64 xi, .int .i64 xN, .int .i64 fk, .int .i64 fd, .int .i64 fa, .int .u32 (fp : Int), .int .u32 (fb : Int), .slice xA xn xc] rfl rfl ?d1 ?d2 ?d3 ?d4 ?d5 ?_)
        case d1 =>
          intro j u hu
          rw [Lib.add_plain, Nat.zero_add, World.cell?_alloc_at _ _ _ _ (by simp)]
          simpa using hu
        case d2 => intro u hu; simp at hu; rcases hu with rfl | rfl | rfl | rfl | rfl | rfl | rfl | rfl | rfl <;> rfl
        case d3 => unfold maxLen; omega
        case d4 => omega
        case d5 => simp; omega
        intro v' w4 hown4 hgrow4 _
        have hbA := H2.out.2.1.alloc H2.out.2.1.size (.cells #[.int .i64 xk, .int .i64 xi, .int .i64 xN, .int .i64 fk, .int .i64 fd, .int .i64 fa, .int .u32 (fp : Int), .int .u32 (fb : Int), .slice xA xn xc] 29)
        have hold : ∀ y ∈ zs, y.Ok ∧ y.Own w4 w.heap.size := fun y hy =>
          ⟨(HH.out.2.2.1 y hy).1, Aw.Own.grown (((HH.out.2.2.1 y hy).2.kept H2.out.1).alloc _) hownO hgrow4⟩
        have hnew : Aw.Own w4 w.heap.size ⟨⟨xk, xi, xN, ⟨fk, fd, fa, fp, fb⟩, xb⟩, xA, xn, xc⟩ := Aw.Own.grown ((HH.out.2.2.2.2.2.2.1.kept H2.out.1).alloc _) hownO hgrow4
        have hb4 : Below w1.heap.size w1 w4 := hbA.grown hgrow4 hbA.size (fun j hj => (hownO.lt j hj).1)
        have HF := Lib.hid (And.intro hown4 (And.intro hold (And.intro hnew hb4)))
        clear hown4 hgrow4 hbA hold hnew hb4 hownO
        go_wp2
        go_roundw
        case rel =>
          refine ⟨k + 1, m + 1, zs ++ [⟨⟨xk, xi, xN, ⟨fk, fd, fa, fp, fb⟩, xb⟩, xA, xn, xc⟩], by omega, by go_num, by simp [HH.out.2.2.2.2.1], by omega, ?_, ?_, ?_, HF.out.2.2.2⟩
          · rw [flatA_snoc]
            exact HF.out.1
          · intro y hy
            rcases List.mem_append.1 hy with h | h
            · exact HF.out.2.1 y h
            · obtain rfl := List.mem_singleton.1 h
              exact ⟨HH.out.2.2.2.2.2.2.2.1, HF.out.2.2.1⟩
          · rw [HH.out.2.2.2.2.2.1]; first | rw [if_pos trivial] | rw [if_pos rfl]
            show (zs ++ _).map Aw.a = _
            rw [List.map_append]
            have h := HH.out.2.2.2.1
            unfold acs at h
            rw [h]
            rfl
        case measure => simp [intOf]; omega
    · obtain rfl : k = n := by omega
      have hlY : (acs ys).length = k := by unfold acs; rw [List.length_map]; exact HY.out.1
      rw [List.take_of_length_le (by rw [hlY]; exact Nat.le_refl _)] at hflt
      have hgz : ∀ x ∈ acs zs, goodA x = true ∧ x.f.p < 4294967296 ∧ x.f.b < 4294967296 := fun x hx => by
        refine ⟨?_, ?_⟩
        · rw [hflt] at hx
          exact (List.mem_filter.1 hx).2
        · obtain ⟨y, hy, rfl⟩ := List.mem_map.1 hx
          exact ⟨(hzs y hy).1.fits.p, (hzs y hy).1.fits.b⟩
      have hlz2 : (acs zs).length = m := by unfold acs; rw [List.length_map]; exact hlz
      have hpl := printL_len (acs zs) (fun x hx => by
        obtain ⟨y, hy, rfl⟩ := List.mem_map.1 hx
        exact (hzs y hy).1.fits)
      rw [hlz2] at hpl
      have hpp := parse_print (acs zs) hgz (by omega) (by omega)
      have hlp : (linesL (printL (acs zs))).length ≤ 4096 := by rw [lines_print, List.length_map]; omega
      have hbw := HY.out.2.2.2.trans (hb.mono HY.out.2.2.2.size)
      have hAz : ActsAt wr Av zs := by
        refine acts_of_own (n := m) (c := cv) (B := w.heap.size) ?_ hzs
        rw [hlz]
        exact ownsRow_base hown HY.out.2.2.2.size
      have C1 := wordsPrint Av m cv zs hlz (by omega) (fun x hx => (hzs x hx).1) wr hAz (HP.out.1.below hbw)
      have C2 := fun W (hW : Below wr.heap.size wr W) => wordsParse ⟨(printL (acs zs)).toArray⟩ (by simp only [ByteArray.size, List.size_toArray]; omega) hlp W (HP.out.2.1.below (hbw.trans (hW.mono hbw.size))) (HP.out.2.2.below (hbw.trans (hW.mono hbw.size)))
      rw [show (⟨(printL (acs zs)).toArray⟩ : ByteArray).data.toList = printL (acs zs) from rfl, hpp] at C2
      obtain ⟨L, hL⟩ : ∃ L, printL (acs zs) = L := ⟨_, rfl⟩
      rw [hL] at C1 C2
      unfold ParsePost at C2
      have C1 := Lib.hid C1
      have C2 := Lib.hid C2
      have HZ := Lib.hid (And.intro hlz (And.intro (fun x hx => (hzs x hx).1 : ∀ x ∈ zs, x.Ok) (And.intro hAz (And.intro hbw hlz2))))
      clear hL hb hbw hAz hlp hpp hpl hlz2 hgz hlY hflt hzs hown hlz
      go_wp2_with fail
      refine C1.out.mono ?_
      rintro e w3 ⟨rfl, hq3⟩
      have H3 := Lib.hid hq3
      clear hq3
      go_wp2_with fail
      refine (C2.out _ H3.out).mono ?_
      rintro e w4 ⟨A4, c4, ms, rfl, hms, hmo, hmA, hq4⟩
      have hml : ms.length = m := by
        have h := congrArg List.length hms
        rw [HZ.out.2.2.2.2] at h
        unfold acs at h
        rw [List.length_map] at h
        exact h
      rw [hml]
      have hb4 : Below wr.heap.size wr w4 := H3.out.trans (hq4.mono H3.out.size)
      have C3 := all46 Av A4 m m cv c4 zs ms HZ.out.1 hml (by omega) HZ.out.2.1 hmo w4 (HZ.out.2.2.1.keep hb4) hmA
      rw [decide_eq_true hms.symm] at C3
      have C3 := Lib.hid C3
      have H4 := Lib.hid (And.intro (HZ.out.2.2.2.1.trans (hb4.mono HZ.out.2.2.2.1.size)) HZ.out.2.2.2.2)
      clear hq4 hb4 hmA hmo hms hml
      simp only [H4.out.2]
      go_wp2_with fail
      refine C3.out.mono ?_
      rintro e w5 ⟨rfl, hq5⟩
      have H5 := Lib.hid (H4.out.1.trans (hq5.mono H4.out.1.size))
      have C5 := Lib.hid (works47 w5 (HP.out.1.below H5.out) (HP.out.2.1.below H5.out) (HP.out.2.2.below H5.out))
      clear hq5
      go_wp2_with fail
      refine C5.out.mono ?_
      rintro e w6 ⟨rfl, hq6⟩
      have H6 := Lib.hid (H5.out.trans (hq6.mono H5.out.size))
      clear hq6
      go_wp2
      go_ret
      exact ⟨rfl, H6.out⟩
end Go.Proofs.YtndpdonlombodaaDoor
