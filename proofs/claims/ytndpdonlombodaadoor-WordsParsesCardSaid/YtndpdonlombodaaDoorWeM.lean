/- The reference's Parse. -/
import Derived.Test.YtndpdonlombodaaDoorWeL
import Derived.Test.YtndpdonlombodaaDoorWeE
namespace Go.Proofs.YtndpdonlombodaaDoor
open Go.RowKit Law
set_option linter.unusedVariables false
set_option linter.unusedSimpArgs false

theorem strs_upto (A : Option Addr) (n c k : Nat) (hk : k ≤ c) (kk : Int) (hkk : kk = (k : Int)) (W : World) : (Instr.slice 56 (.slice A n c) none (some (.int .i64 kk)) none).run Tryd.prog W = .ok (.slice A k c) W := by
  subst hkk
  have h1 : (0 : Int) ≤ k ∧ (k : Int) ≤ c := by omega
  simp [Instr.slice, Instr.sliceBounds, Instr.sliceBound, asIntOf, run_underlying Tryd.underlying56, Tryd.sizeOf9, h1, hk, go_sem]
set_option maxHeartbeats 6400000 in
set_option maxRecDepth 100000 in
theorem refParse (s : ByteArray) (hs : s.size ≤ 1048576) (hl : (linesL s.data.toList).length ≤ 4096) (w : World) :
    Calls Tryd.prog 14 #[.string s] w (ParsePost (parseL s.data.toList) w) := by
  obtain ⟨i1, gi, gz0, gz1, gz2⟩ := info_parts actInfo
  obtain ⟨hz, hsz⟩ := zero_of_info (show (Tryd.prog.info? 29).map (fun i => (i.zero, i.size)) = some (some (.agg #[.int .i64 0, .int .i64 0, .int .i64 0, .int .i64 0, .int .i64 0, .int .i64 0, .int .u32 0, .int .u32 0, .slice none 0 0]), 9) by kernel_rfl)
  have CS := refSplit s hs 10 10 rfl w
  have hcl : (cutBy 10 s.data.toList).length ≤ 1048577 := by
    have h1 := cut_len 10 s.data.toList
    have e := Lib.size_eq s
    omega
  have hml : ∀ x ∈ cutBy 10 s.data.toList, x.length ≤ 1048576 := fun x hx => by
    have h1 := mem_cut_len 10 s.data.toList x hx
    have e := Lib.size_eq s
    omega
  have hN1 : 1 ≤ (cutBy 10 s.data.toList).length := List.length_pos_iff.2 (cutBy_ne _ _)
  have hlm : ∀ x ∈ linesL s.data.toList, x.length ≤ 1048576 := fun x hx => by
    unfold linesL at hx
    split at hx
    · rw [List.dropLast_eq_take] at hx; exact hml x (List.mem_of_mem_take hx)
    · exact hml x hx
  have hpl : parseL s.data.toList = goL 0 [] (linesL s.data.toList) := by
    unfold parseL
    rw [if_neg (by have := Lib.size_eq s; omega), if_neg (by omega)]
  rw [hpl]
  have hRl : ∀ (W : World) (A : Option Addr), RowAt W A (strV (cutBy 10 s.data.toList)) → RowAt W A (strV (linesL s.data.toList)) := fun W A h => by
    unfold linesL
    split
    · rw [List.dropLast_eq_take, show strV ((cutBy 10 s.data.toList).take ((cutBy 10 s.data.toList).length - 1)) = (strV (cutBy 10 s.data.toList)).take ((cutBy 10 s.data.toList).length - 1) by simp [strV]]
      exact h.take _
    · exact h
  have hlen : ((cutBy 10 s.data.toList).getLastD [] = [] → (linesL s.data.toList).length = (cutBy 10 s.data.toList).length - 1) ∧ ((cutBy 10 s.data.toList).getLastD [] ≠ [] → (linesL s.data.toList).length = (cutBy 10 s.data.toList).length) := by
    refine ⟨fun h => ?_, fun h => ?_⟩
    · rw [linesL_eq _ h, List.length_take]; omega
    · rw [linesL_ne _ h]
  have hla : ∀ (W : World) (A : Option Addr), RowAt W A (strV (cutBy 10 s.data.toList)) → ∃ b o, A = some ⟨b, o, none⟩ ∧ W.cell? ⟨b, o + ((cutBy 10 s.data.toList).length - 1), none⟩ = some (.string ⟨((cutBy 10 s.data.toList).getLastD []).toArray⟩) := fun W A h =>
    h _ _ (by unfold strV; rw [List.getElem?_map, getLastD_get _ (by omega)]; rfl)
  unfold StrsPost at CS
  obtain ⟨ls, hls⟩ : ∃ ls, linesL s.data.toList = ls := ⟨_, rfl⟩
  rw [hls] at hl hlm hlen hRl ⊢
  obtain ⟨lst, hlst⟩ : ∃ x, (cutBy 10 s.data.toList).getLastD [] = x := ⟨_, rfl⟩
  rw [hlst] at hlen hla
  obtain ⟨cs, hcs⟩ : ∃ cs, cutBy 10 s.data.toList = cs := ⟨_, rfl⟩
  rw [hcs] at CS hcl hN1 hRl hlen hla
  obtain ⟨N, hN⟩ : ∃ N, cs.length = N := ⟨_, rfl⟩
  rw [hN] at hcl hN1 hlen hla CS
  obtain ⟨M, hMl⟩ : ∃ M, ls.length = M := ⟨_, rfl⟩
  rw [hMl] at hl hlen
  have HC := Lib.hid (And.intro hRl (And.intro hla (And.intro hlm hMl)))
  have CS := Lib.hid CS
  have hsz2 : (s.size : Int) ≤ 1048576 := by omega
  have hni : (0 : Int) ≤ (N : Int) - 1 := by omega
  have hNl : ((N : Int) - 1).toNat = N - 1 := by omega
  clear hRl hlm hMl hml hlst hN hls hpl hla hcs
  go_enter Tryd.func14, Tryd.ntmps14
  go_wp2_with fail
  refine CS.out.mono ?_
  rintro e W1 ⟨A, cA, rfl, hcA, hrow, hb1⟩
  obtain ⟨blk0, off0, rfl, hlast⟩ := HC.out.2.1 W1 A hrow
  have HX := Lib.hid (And.intro hb1 (And.intro (HC.out.1 W1 _ hrow) (And.intro HC.out.2.2.1 (And.intro HC.out.2.2.2 True.intro))))
  have HO0 := Lib.hid (World.ownsRow_made (base := W1.heap.size) (e := 29) (size := 9) W1 #[] 0 (Nat.le_refl _) (by simp [maxLen]) rfl)
  have HB0 := Lib.hid ((Below.refl W1.heap.size W1).alloc (Nat.le_refl _) (.cells #[] 29))
  have hsl := fun W => strs_upto (some ⟨blk0, off0, none⟩) N cA (N - 1) (by omega) ((N : Int) - 1) (by omega) W
  clear hb1 hrow
  by_cases hle : lst = []
  · have hMN : M = N - 1 := hlen.1 hle
    subst hle
    clear hlen
    go_wp2
    go_loopw [6, 7] (fun v i wr => ∃ (k : Nat) (ys : List Aw), k ≤ M ∧ i = .int .i64 k ∧ ys.length = k ∧ wr.ownsRow W1.heap.size 29 9 v k (flatA ys) ∧ Below w.heap.size w wr ∧ (∀ y ∈ ys, y.Ok ∧ y.Own wr w.heap.size) ∧ ys.map Aw.a = (ls.take k).map lineA ∧ (∀ x ∈ ls.take k, (oneL x).2 = 0) ∧ Below W1.heap.size W1 wr) (fun _ i _ => M - (intOf i).toNat)
    case atStart => exact ⟨0, [], Nat.zero_le _, rfl, rfl, HO0.out, HX.out.1.trans (HB0.out.mono HX.out.1.size), fun y hy => by simp at hy, by simp, by simp, HB0.out⟩
    case round =>
      obtain ⟨k, ys, hk, rfl, hly, hown, hb, hys, hmap, hall, hbW⟩ := hrel
      obtain ⟨Av, cv, rfl, hcv⟩ := OwnOr.form (show OwnOr _ _ _ _ _ _ _ from .inl hown)
      by_cases hlt : k < M
      · have hlt' : k < ls.length := by rw [HX.out.2.2.2.1]; exact hlt
        obtain ⟨blk, off, he, hc⟩ := (HX.out.2.1.keep hbW) k (.string ⟨ls[k].toArray⟩) (by unfold strV; rw [List.getElem?_map, List.getElem?_eq_getElem hlt']; rfl)
        injection he with he
        injection he with e1 e2 e3
        subst e1 e2
        have hxl := HX.out.2.2.1 _ (List.getElem_mem hlt')
        have C1 := refOne ⟨ls[k].toArray⟩ (by simpa [ByteArray.size] using hxl) wr
        rw [show (⟨ls[k].toArray⟩ : ByteArray).data.toList = ls[k] from rfl] at C1
        have hmap1 : (oneL ls[k]).2 = 0 → (ls.take (k + 1)).map lineA = (ls.take k).map lineA ++ [(oneL ls[k]).1] := fun _ => by
          rw [List.take_succ_eq_append_getElem hlt', List.map_append]; rfl
        have hall1 : (oneL ls[k]).2 = 0 → ∀ x ∈ ls.take (k + 1), (oneL x).2 = 0 := fun h => mem_take_snoc hlt' hall h
        have hbad : ¬ (oneL ls[k]).2 = 0 → goL 0 [] ls = ([], (k : Int), (oneL ls[k]).2) := fun h => by
          rw [goL_bad ls k hlt' 0 [] hall h, Nat.zero_add]
        have hgd := @oneL_good ls[k]
        have HH := Lib.hid (And.intro hown (And.intro hb (And.intro hys (And.intro hmap (And.intro hbW hly)))))
        obtain ⟨so, hso⟩ : ∃ so, oneL ls[k] = so := ⟨_, rfl⟩
        rw [hso] at C1 hmap1 hall1 hbad hgd
        have HO := Lib.hid (And.intro hmap1 (And.intro hall1 (And.intro hbad hgd)))
        obtain ⟨sx, hsx⟩ : ∃ sx : ByteArray, (⟨ls[k].toArray⟩ : ByteArray) = sx := ⟨_, rfl⟩
        rw [hsx] at C1 hc
        unfold OneC ActPost at C1
        have C1 := Lib.hid C1
        clear hown hb hys hmap hall hbW hly hmap1 hall1 hbad hgd hso hsx
        go_wp2_with fail
        refine C1.out.mono ?_
        rintro e w2 ⟨x, xA, xn, xc, rfl, hxo, hq⟩
        obtain ⟨xk, xi, xN, ⟨fk, fd, fa, fp, fb⟩, xb⟩ := x
        have HQ := Lib.hid (And.intro (HH.out.2.1.trans (hq.mono HH.out.2.1.size)) (And.intro (HH.out.2.2.2.2.1.trans (hq.mono HH.out.2.2.2.2.1.size)) (And.intro (ownsRow_kept HH.out.1 hq) (And.intro (fun y hy => (⟨(HH.out.2.2.1 y hy).1, (HH.out.2.2.1 y hy).2.kept hq⟩ : y.Ok ∧ y.Own w2 w.heap.size)) (And.intro hxo HH.out.2.1.size)))))
        clear hq hxo
        unfold Ac.cells
        by_cases he : so.2 = 0
        · have heb : (so.2 != 0) = false := by simpa using he
          obtain ⟨hx1, hx2, hx3⟩ := HQ.out.2.2.2.2.1 he
          have hO := hx3
          obtain ⟨hg1, hg2⟩ := HO.out.2.2.2 he
          rw [← hx1] at hg1 hg2
          have hok : Aw.Ok ⟨⟨xk, xi, xN, ⟨fk, fd, fa, fp, fb⟩, xb⟩, xA, xn, xc⟩ := ⟨hg2, hx2, by
            show xn ≤ xc
            rcases hO.2 with ⟨hv, hm0⟩ | ⟨g, cap, cur, hv, hg, hh, hle2, _⟩
            · simp only [Value.slice.injEq] at hv; omega
            · simp only [Value.slice.injEq] at hv; omega⟩
          have HK := Lib.hid (And.intro hok (And.intro hx1 (And.intro hO he)))
          clear hok hx1 hx2 hx3 hO hg1 hg2
          have hownO := HQ.out.2.2.1.alloc (.cells #[.int .i64 xk, .int .i64 xi, .int .i64 xN, .int .i64 fk, .int .i64 fd, .int .i64 fa, .int .u32 (fp : Int), .int .u32 (fb : Int), .slice xA xn xc] 29) |>.alloc (.cells #[.int .i64 xk, .int .i64 xi, .int .i64 xN, .int .i64 fk, .int .i64 fd, .int .i64 fa, .int .u32 (fp : Int), .int .u32 (fb : Int), .slice xA xn xc] 29)
          go_wp2_with (at_builtin; refine wpList_append_own _ rfl _ _ 22 rfl W1.heap.size 29 i1 _ 9 80 Tryd.underlying22 gi gz0 gz1 gz2 rfl (by decide) _ _ _ rfl hownO ⟨w2.heap.size + 1, 0, none⟩ 1 1 [.int .i64 xk, .int .i64 xi, .int .i64 xN, .int .i64 fk, .int .i64 fd, .int .i64 fa, .int .u32 (fp : Int), .int .u32 (fb : Int), .slice xA xn xc] rfl rfl ?d1 ?d2 ?d3 ?d4 ?d5 ?_)
          case d1 =>
            intro j u hu
            rw [Lib.add_plain, Nat.zero_add]
            have e : w2.heap.size + 1 = (w2.alloc (.cells #[.int .i64 xk, .int .i64 xi, .int .i64 xN, .int .i64 fk, .int .i64 fd, .int .i64 fa, .int .u32 (fp : Int), .int .u32 (fb : Int), .slice xA xn xc] 29)).heap.size := by simp
            rw [e, World.cell?_alloc_at _ _ _ _ (by simp)]
            simpa using hu
          case d2 => intro u hu; simp at hu; rcases hu with rfl | rfl | rfl | rfl | rfl | rfl | rfl | rfl | rfl <;> rfl
          case d3 => unfold maxLen; omega
          case d4 => omega
          case d5 => have h1 := HQ.out.2.1.size; simp; omega
          intro v' w4 hown4 hgrow4 _
          have hbA := (HQ.out.1.alloc HQ.out.1.size (.cells #[.int .i64 xk, .int .i64 xi, .int .i64 xN, .int .i64 fk, .int .i64 fd, .int .i64 fa, .int .u32 (fp : Int), .int .u32 (fb : Int), .slice xA xn xc] 29)).alloc (by have h1 := HQ.out.1.size; simp; omega) (.cells #[.int .i64 xk, .int .i64 xi, .int .i64 xN, .int .i64 fk, .int .i64 fd, .int .i64 fa, .int .u32 (fp : Int), .int .u32 (fb : Int), .slice xA xn xc] 29)
          have hb4 : Below w.heap.size w w4 := hbA.grown hgrow4 hbA.size (fun j hj => Nat.le_trans HX.out.1.size (hownO.lt j hj).1)
          have hbB := (HQ.out.2.1.alloc HQ.out.2.1.size (.cells #[.int .i64 xk, .int .i64 xi, .int .i64 xN, .int .i64 fk, .int .i64 fd, .int .i64 fa, .int .u32 (fp : Int), .int .u32 (fb : Int), .slice xA xn xc] 29)).alloc (by have h1 := HQ.out.2.1.size; simp; omega) (.cells #[.int .i64 xk, .int .i64 xi, .int .i64 xN, .int .i64 fk, .int .i64 fd, .int .i64 fa, .int .u32 (fp : Int), .int .u32 (fb : Int), .slice xA xn xc] 29)
          have hold : ∀ y ∈ ys, y.Ok ∧ y.Own w4 w.heap.size := fun y hy =>
            ⟨(HQ.out.2.2.2.1 y hy).1, Aw.Own.grown ((((HQ.out.2.2.2.1 y hy).2).alloc _).alloc _) hownO hgrow4⟩
          have hnew : Aw.Own w4 w.heap.size ⟨⟨xk, xi, xN, ⟨fk, fd, fa, fp, fb⟩, xb⟩, xA, xn, xc⟩ := Aw.Own.grown (((ownsRow_base HK.out.2.2.1 HQ.out.2.2.2.2.2 : Aw.Own w2 w.heap.size ⟨⟨xk, xi, xN, ⟨fk, fd, fa, fp, fb⟩, xb⟩, xA, xn, xc⟩).alloc _).alloc _) hownO hgrow4
          have hbW4 : Below W1.heap.size W1 w4 := hbB.grown hgrow4 hbB.size (fun j hj => (hownO.lt j hj).1)
          have HF := Lib.hid (And.intro hown4 (And.intro hb4 (And.intro hold (And.intro hnew hbW4))))
          clear hown4 hgrow4 hbA hb4 hold hnew hownO hbB hbW4
          go_wp2
          go_roundw
          case rel =>
            refine ⟨k + 1, ys ++ [⟨⟨xk, xi, xN, ⟨fk, fd, fa, fp, fb⟩, xb⟩, xA, xn, xc⟩], by omega, by go_num, by simp [HH.out.2.2.2.2.2], ?_, HF.out.2.1, ?_, ?_, HO.out.2.1 HK.out.2.2.2, HF.out.2.2.2.2⟩
            · rw [flatA_snoc]
              exact HF.out.1
            · intro y hy
              rcases List.mem_append.1 hy with h | h
              · exact HF.out.2.2.1 y h
              · obtain rfl := List.mem_singleton.1 h
                exact ⟨HK.out.1, HF.out.2.2.2.1⟩
            · rw [List.map_append, HH.out.2.2.2.1, HO.out.1 HK.out.2.2.2, ← HK.out.2.1]
              rfl
          case measure => simp [intOf]; omega
        · have heb : (so.2 != 0) = true := by simpa using he
          have HB := Lib.hid (And.intro (HO.out.2.2.1 he) HQ.out.1)
          have hbA := HB.out.2.alloc HB.out.2.size (.cells #[.int .i64 xk, .int .i64 xi, .int .i64 xN, .int .i64 fk, .int .i64 fd, .int .i64 fa, .int .u32 (fp : Int), .int .u32 (fb : Int), .slice xA xn xc] 29)
          have HB := Lib.hid (And.intro HB.out.1 hbA)
          clear hbA
          go_wp2
          refine bodyPost_ret (v := .tuple #[.slice none 0 0, .int .i64 k, .int .i64 so.2]) (by simp [results, Tryd.results14, go_sem]) rfl ?_
          rw [HB.out.1]
          exact ⟨none, 0, [], rfl, rfl, fun x hx => by simp at hx, ActsAt.nil _ _, HB.out.2⟩
      · obtain rfl : k = M := by omega
        have hT : ls.take k = ls := List.take_of_length_le (by rw [HX.out.2.2.2.1]; exact Nat.le_refl _)
        rw [hT] at hmap hall
        have hga := goL_all ls 0 [] hall
        have HH := Lib.hid (And.intro hown (And.intro hb (And.intro hys (And.intro hmap (And.intro hly hga)))))
        clear hown hb hys hmap hall hbW hly hga hT
        go_wp2
        refine bodyPost_ret (v := .tuple #[.slice Av k cv, .int .i64 k, .int .i64 0]) (by simp [results, Tryd.results14, go_sem] <;> omega) rfl ?_
        rw [HH.out.2.2.2.2.2]
        refine ⟨Av, cv, ys, by rw [HH.out.2.2.2.2.1, HX.out.2.2.2.1]; simp, ?_, fun x hx => (HH.out.2.2.1 x hx).1, ?_, HH.out.2.1⟩
        · show ys.map Aw.a = _
          rw [HH.out.2.2.2.1]; rfl
        · refine acts_of_own (n := k) (c := cv) (B := w.heap.size) ?_ HH.out.2.2.1
          rw [HH.out.2.2.2.2.1]
          exact ownsRow_base HH.out.1 HX.out.1.size
  · have hMN : M = N := hlen.2 hle
    have hqi : lst.isEmpty = false := by cases lst with | nil => exact absurd rfl hle | cons a r => rfl
    clear hlen
    go_wp2
    go_loopw [6, 7] (fun v i wr => ∃ (k : Nat) (ys : List Aw), k ≤ M ∧ i = .int .i64 k ∧ ys.length = k ∧ wr.ownsRow W1.heap.size 29 9 v k (flatA ys) ∧ Below w.heap.size w wr ∧ (∀ y ∈ ys, y.Ok ∧ y.Own wr w.heap.size) ∧ ys.map Aw.a = (ls.take k).map lineA ∧ (∀ x ∈ ls.take k, (oneL x).2 = 0) ∧ Below W1.heap.size W1 wr) (fun _ i _ => M - (intOf i).toNat)
    case atStart => exact ⟨0, [], Nat.zero_le _, rfl, rfl, HO0.out, HX.out.1.trans (HB0.out.mono HX.out.1.size), fun y hy => by simp at hy, by simp, by simp, HB0.out⟩
    case round =>
      obtain ⟨k, ys, hk, rfl, hly, hown, hb, hys, hmap, hall, hbW⟩ := hrel
      obtain ⟨Av, cv, rfl, hcv⟩ := OwnOr.form (show OwnOr _ _ _ _ _ _ _ from .inl hown)
      by_cases hlt : k < M
      · have hlt' : k < ls.length := by rw [HX.out.2.2.2.1]; exact hlt
        obtain ⟨blk, off, he, hc⟩ := (HX.out.2.1.keep hbW) k (.string ⟨ls[k].toArray⟩) (by unfold strV; rw [List.getElem?_map, List.getElem?_eq_getElem hlt']; rfl)
        injection he with he
        injection he with e1 e2 e3
        subst e1 e2
        have hxl := HX.out.2.2.1 _ (List.getElem_mem hlt')
        have C1 := refOne ⟨ls[k].toArray⟩ (by simpa [ByteArray.size] using hxl) wr
        rw [show (⟨ls[k].toArray⟩ : ByteArray).data.toList = ls[k] from rfl] at C1
        have hmap1 : (oneL ls[k]).2 = 0 → (ls.take (k + 1)).map lineA = (ls.take k).map lineA ++ [(oneL ls[k]).1] := fun _ => by
          rw [List.take_succ_eq_append_getElem hlt', List.map_append]; rfl
        have hall1 : (oneL ls[k]).2 = 0 → ∀ x ∈ ls.take (k + 1), (oneL x).2 = 0 := fun h => mem_take_snoc hlt' hall h
        have hbad : ¬ (oneL ls[k]).2 = 0 → goL 0 [] ls = ([], (k : Int), (oneL ls[k]).2) := fun h => by
          rw [goL_bad ls k hlt' 0 [] hall h, Nat.zero_add]
        have hgd := @oneL_good ls[k]
        have HH := Lib.hid (And.intro hown (And.intro hb (And.intro hys (And.intro hmap (And.intro hbW hly)))))
        obtain ⟨so, hso⟩ : ∃ so, oneL ls[k] = so := ⟨_, rfl⟩
        rw [hso] at C1 hmap1 hall1 hbad hgd
        have HO := Lib.hid (And.intro hmap1 (And.intro hall1 (And.intro hbad hgd)))
        obtain ⟨sx, hsx⟩ : ∃ sx : ByteArray, (⟨ls[k].toArray⟩ : ByteArray) = sx := ⟨_, rfl⟩
        rw [hsx] at C1 hc
        unfold OneC ActPost at C1
        have C1 := Lib.hid C1
        clear hown hb hys hmap hall hbW hly hmap1 hall1 hbad hgd hso hsx
        go_wp2_with fail
        refine C1.out.mono ?_
        rintro e w2 ⟨x, xA, xn, xc, rfl, hxo, hq⟩
        obtain ⟨xk, xi, xN, ⟨fk, fd, fa, fp, fb⟩, xb⟩ := x
        have HQ := Lib.hid (And.intro (HH.out.2.1.trans (hq.mono HH.out.2.1.size)) (And.intro (HH.out.2.2.2.2.1.trans (hq.mono HH.out.2.2.2.2.1.size)) (And.intro (ownsRow_kept HH.out.1 hq) (And.intro (fun y hy => (⟨(HH.out.2.2.1 y hy).1, (HH.out.2.2.1 y hy).2.kept hq⟩ : y.Ok ∧ y.Own w2 w.heap.size)) (And.intro hxo HH.out.2.1.size)))))
        clear hq hxo
        unfold Ac.cells
        by_cases he : so.2 = 0
        · have heb : (so.2 != 0) = false := by simpa using he
          obtain ⟨hx1, hx2, hx3⟩ := HQ.out.2.2.2.2.1 he
          have hO := hx3
          obtain ⟨hg1, hg2⟩ := HO.out.2.2.2 he
          rw [← hx1] at hg1 hg2
          have hok : Aw.Ok ⟨⟨xk, xi, xN, ⟨fk, fd, fa, fp, fb⟩, xb⟩, xA, xn, xc⟩ := ⟨hg2, hx2, by
            show xn ≤ xc
            rcases hO.2 with ⟨hv, hm0⟩ | ⟨g, cap, cur, hv, hg, hh, hle2, _⟩
            · simp only [Value.slice.injEq] at hv; omega
            · simp only [Value.slice.injEq] at hv; omega⟩
          have HK := Lib.hid (And.intro hok (And.intro hx1 (And.intro hO he)))
          clear hok hx1 hx2 hx3 hO hg1 hg2
          have hownO := HQ.out.2.2.1.alloc (.cells #[.int .i64 xk, .int .i64 xi, .int .i64 xN, .int .i64 fk, .int .i64 fd, .int .i64 fa, .int .u32 (fp : Int), .int .u32 (fb : Int), .slice xA xn xc] 29) |>.alloc (.cells #[.int .i64 xk, .int .i64 xi, .int .i64 xN, .int .i64 fk, .int .i64 fd, .int .i64 fa, .int .u32 (fp : Int), .int .u32 (fb : Int), .slice xA xn xc] 29)
          go_wp2_with (at_builtin; refine wpList_append_own _ rfl _ _ 22 rfl W1.heap.size 29 i1 _ 9 80 Tryd.underlying22 gi gz0 gz1 gz2 rfl (by decide) _ _ _ rfl hownO ⟨w2.heap.size + 1, 0, none⟩ 1 1 [.int .i64 xk, .int .i64 xi, .int .i64 xN, .int .i64 fk, .int .i64 fd, .int .i64 fa, .int .u32 (fp : Int), .int .u32 (fb : Int), .slice xA xn xc] rfl rfl ?d1 ?d2 ?d3 ?d4 ?d5 ?_)
          case d1 =>
            intro j u hu
            rw [Lib.add_plain, Nat.zero_add]
            have e : w2.heap.size + 1 = (w2.alloc (.cells #[.int .i64 xk, .int .i64 xi, .int .i64 xN, .int .i64 fk, .int .i64 fd, .int .i64 fa, .int .u32 (fp : Int), .int .u32 (fb : Int), .slice xA xn xc] 29)).heap.size := by simp
            rw [e, World.cell?_alloc_at _ _ _ _ (by simp)]
            simpa using hu
          case d2 => intro u hu; simp at hu; rcases hu with rfl | rfl | rfl | rfl | rfl | rfl | rfl | rfl | rfl <;> rfl
          case d3 => unfold maxLen; omega
          case d4 => omega
          case d5 => have h1 := HQ.out.2.1.size; simp; omega
          intro v' w4 hown4 hgrow4 _
          have hbA := (HQ.out.1.alloc HQ.out.1.size (.cells #[.int .i64 xk, .int .i64 xi, .int .i64 xN, .int .i64 fk, .int .i64 fd, .int .i64 fa, .int .u32 (fp : Int), .int .u32 (fb : Int), .slice xA xn xc] 29)).alloc (by have h1 := HQ.out.1.size; simp; omega) (.cells #[.int .i64 xk, .int .i64 xi, .int .i64 xN, .int .i64 fk, .int .i64 fd, .int .i64 fa, .int .u32 (fp : Int), .int .u32 (fb : Int), .slice xA xn xc] 29)
          have hb4 : Below w.heap.size w w4 := hbA.grown hgrow4 hbA.size (fun j hj => Nat.le_trans HX.out.1.size (hownO.lt j hj).1)
          have hbB := (HQ.out.2.1.alloc HQ.out.2.1.size (.cells #[.int .i64 xk, .int .i64 xi, .int .i64 xN, .int .i64 fk, .int .i64 fd, .int .i64 fa, .int .u32 (fp : Int), .int .u32 (fb : Int), .slice xA xn xc] 29)).alloc (by have h1 := HQ.out.2.1.size; simp; omega) (.cells #[.int .i64 xk, .int .i64 xi, .int .i64 xN, .int .i64 fk, .int .i64 fd, .int .i64 fa, .int .u32 (fp : Int), .int .u32 (fb : Int), .slice xA xn xc] 29)
          have hold : ∀ y ∈ ys, y.Ok ∧ y.Own w4 w.heap.size := fun y hy =>
            ⟨(HQ.out.2.2.2.1 y hy).1, Aw.Own.grown ((((HQ.out.2.2.2.1 y hy).2).alloc _).alloc _) hownO hgrow4⟩
          have hnew : Aw.Own w4 w.heap.size ⟨⟨xk, xi, xN, ⟨fk, fd, fa, fp, fb⟩, xb⟩, xA, xn, xc⟩ := Aw.Own.grown (((ownsRow_base HK.out.2.2.1 HQ.out.2.2.2.2.2 : Aw.Own w2 w.heap.size ⟨⟨xk, xi, xN, ⟨fk, fd, fa, fp, fb⟩, xb⟩, xA, xn, xc⟩).alloc _).alloc _) hownO hgrow4
          have hbW4 : Below W1.heap.size W1 w4 := hbB.grown hgrow4 hbB.size (fun j hj => (hownO.lt j hj).1)
          have HF := Lib.hid (And.intro hown4 (And.intro hb4 (And.intro hold (And.intro hnew hbW4))))
          clear hown4 hgrow4 hbA hb4 hold hnew hownO hbB hbW4
          go_wp2
          go_roundw
          case rel =>
            refine ⟨k + 1, ys ++ [⟨⟨xk, xi, xN, ⟨fk, fd, fa, fp, fb⟩, xb⟩, xA, xn, xc⟩], by omega, by go_num, by simp [HH.out.2.2.2.2.2], ?_, HF.out.2.1, ?_, ?_, HO.out.2.1 HK.out.2.2.2, HF.out.2.2.2.2⟩
            · rw [flatA_snoc]
              exact HF.out.1
            · intro y hy
              rcases List.mem_append.1 hy with h | h
              · exact HF.out.2.2.1 y h
              · obtain rfl := List.mem_singleton.1 h
                exact ⟨HK.out.1, HF.out.2.2.2.1⟩
            · rw [List.map_append, HH.out.2.2.2.1, HO.out.1 HK.out.2.2.2, ← HK.out.2.1]
              rfl
          case measure => simp [intOf]; omega
        · have heb : (so.2 != 0) = true := by simpa using he
          have HB := Lib.hid (And.intro (HO.out.2.2.1 he) HQ.out.1)
          have hbA := HB.out.2.alloc HB.out.2.size (.cells #[.int .i64 xk, .int .i64 xi, .int .i64 xN, .int .i64 fk, .int .i64 fd, .int .i64 fa, .int .u32 (fp : Int), .int .u32 (fb : Int), .slice xA xn xc] 29)
          have HB := Lib.hid (And.intro HB.out.1 hbA)
          clear hbA
          go_wp2
          refine bodyPost_ret (v := .tuple #[.slice none 0 0, .int .i64 k, .int .i64 so.2]) (by simp [results, Tryd.results14, go_sem]) rfl ?_
          rw [HB.out.1]
          exact ⟨none, 0, [], rfl, rfl, fun x hx => by simp at hx, ActsAt.nil _ _, HB.out.2⟩
      · obtain rfl : k = M := by omega
        have hT : ls.take k = ls := List.take_of_length_le (by rw [HX.out.2.2.2.1]; exact Nat.le_refl _)
        rw [hT] at hmap hall
        have hga := goL_all ls 0 [] hall
        have HH := Lib.hid (And.intro hown (And.intro hb (And.intro hys (And.intro hmap (And.intro hly hga)))))
        clear hown hb hys hmap hall hbW hly hga hT
        go_wp2
        refine bodyPost_ret (v := .tuple #[.slice Av k cv, .int .i64 k, .int .i64 0]) (by simp [results, Tryd.results14, go_sem] <;> omega) rfl ?_
        rw [HH.out.2.2.2.2.2]
        refine ⟨Av, cv, ys, by rw [HH.out.2.2.2.2.1, HX.out.2.2.2.1]; simp, ?_, fun x hx => (HH.out.2.2.1 x hx).1, ?_, HH.out.2.1⟩
        · show ys.map Aw.a = _
          rw [HH.out.2.2.2.1]; rfl
        · refine acts_of_own (n := k) (c := cv) (B := w.heap.size) ?_ HH.out.2.2.1
          rw [HH.out.2.2.2.2.1]
          exact ownsRow_base HH.out.1 HX.out.1.size
end Go.Proofs.YtndpdonlombodaaDoor
