/- angeluslaw46.Cut and All. -/
import Derived.Test.YtndpdonlombodaaDoorWdM
import Derived.Deep.AppendLies
namespace Go.Proofs.YtndpdonlombodaaDoor
open Go.RowKit Law
set_option linter.unusedVariables false
set_option linter.unusedSimpArgs false

theorem u8_upto (A : Option Addr) (n c k : Nat) (hk : k ≤ c) (W : World) : (Instr.slice 27 (.slice A n c) none (some (.int .i64 (k : Int))) none).run Tryd.prog W = .ok (.slice A k c) W := by
  have h1 : (0 : Int) ≤ k ∧ (k : Int) ≤ c := by omega
  simp [Instr.slice, Instr.sliceBounds, Instr.sliceBound, asIntOf, run_underlying Tryd.underlying27, Tryd.sizeOf5, h1, hk, go_sem]
/-- The body's bytes lie in a row of their own, from a base on. -/
def Aw.Own (w : World) (B : Nat) (x : Aw) : Prop := w.ownsRow B 5 1 (.slice x.A x.n x.c) x.n (u8V x.a.b)
theorem own_apart {w : World} {B B' n m : Nat} {v u : Value} {xs ys : List Value} (h : w.ownsRow B 29 9 v n xs) (h' : w.ownsRow B' 5 1 u m ys) : u.ownBlock = none ∨ u.ownBlock ≠ v.ownBlock := by
  rcases h'.2 with ⟨rfl, _⟩ | ⟨g, cap, cur, rfl, _, hg, _⟩
  · exact .inl rfl
  · refine .inr fun he => ?_
    rcases h.2 with ⟨rfl, _⟩ | ⟨g2, cap2, cur2, rfl, _, hg2, _⟩
    · simp [Value.ownBlock] at he
    · obtain rfl : g = g2 := by simpa [Value.ownBlock] using he
      rw [hg] at hg2
      cases hg2
theorem Ac.Fits.cut {x : Ac} (h : x.Fits) (b : List UInt8) : Ac.Fits { x with b := b } := ⟨h.k0, h.k1, h.i0, h.i1, h.n0, h.n1, h.fk0, h.fk1, h.d0, h.d1, h.a0, h.a1, h.p, h.b⟩
def cutA (x : Ac) : Ac := { x with b := x.b.take 1030 }
theorem actInfo : (Tryd.prog.info? 29).map (fun i => (i.zero, i.size, i.bytes)) = some (some (.agg #[.int .i64 0, .int .i64 0, .int .i64 0, .int .i64 0, .int .i64 0, .int .i64 0, .int .u32 0, .int .u32 0, .slice none 0 0]), 9, 80) := by kernel_rfl
/-- What Cut hands back. -/
def CutPost (es : List Ac) (w : World) (e : Ending) (w' : World) : Prop := ∃ v ys, e = .returned v ∧ w'.ownsRow w.heap.size 29 9 v ys.length (flatA ys) ∧ Below w.heap.size w w' ∧ (∀ y ∈ ys, (y.Ok ∧ y.n ≤ 1030) ∧ y.Own w' w.heap.size) ∧ ys.map Aw.a = (es.take 60).map cutA
theorem Aw.Own.kept {w w' : World} {B : Nat} {x : Aw} (h : x.Own w B) (hb : Below w.heap.size w w') : x.Own w' B := ownsRow_kept h hb
theorem Aw.Own.grown {w w' : World} {B B' n : Nat} {x : Aw} {v : Value} {xs : List Value} (h : x.Own w B) (hv : w.ownsRow B' 29 9 v n xs) (hg : w.grownBy w' v.ownBlock) : x.Own w' B :=
  World.ownsRow.kept h hg (own_apart hv h)
theorem own_setOther {w : World} {B B' s n b : Nat} {e : TypeId} {v : Value} {xs : List Value} (h : w.ownsRow B e s v n xs) (h' : w.ownsRow B' e s v n xs) (hb : b < B') (o : Nat) (u : Value) : (w.setCell ⟨b, o, none⟩ u).ownsRow B e s v n xs := by
  refine World.ownsRow.kept (row := some b) h ⟨rfl, rfl, rfl, by simp, fun k _ hk => Below.heap_setCell _ _ _ k (fun e => hk (by rw [e]))⟩ ?_
  cases hv : v.ownBlock with
  | none => exact .inl rfl
  | some g => exact .inr (fun he => by have := (h'.lt g hv).1; injection he; omega)
theorem takeKd (es : List Ac) (k : Nat) (hk : ¬ k < 60) : (es.take (k + 1)).take 60 = (es.take k).take 60 := by
  rw [List.take_take, List.take_take, Nat.min_eq_left (by omega), Nat.min_eq_left (by omega)]
set_option maxHeartbeats 6400000 in
set_option maxRecDepth 100000 in
theorem cut46 (A : Option Addr) (len c : Nat) (xs : List Aw) (hl : xs.length = len) (hc : len ≤ c) (hcm : c ≤ maxLen) (hok : ∀ x ∈ xs, x.In) (w : World) (hA : ActsAt w A xs) :
    Calls Tryd.prog 7 #[.slice A len c] w (CutPost (xs.map Aw.a) w) := by
  unfold maxLen at hcm
  obtain ⟨i0, hi, hz0, hz1, hz2⟩ := info_parts u8Info
  obtain ⟨i1, gi, gz0, gz1, gz2⟩ := info_parts actInfo
  obtain ⟨hz, hsz⟩ := zero_of_info (show (Tryd.prog.info? 29).map (fun i => (i.zero, i.size)) = some (some (.agg #[.int .i64 0, .int .i64 0, .int .i64 0, .int .i64 0, .int .i64 0, .int .i64 0, .int .u32 0, .int .u32 0, .slice none 0 0]), 9) by kernel_rfl)
  have HX := Lib.hid (And.intro hl (And.intro hok hA))
  clear hl hok hA
  go_enter Tryd.func7, Tryd.ntmps7
  go_wp2
  go_loopw [3, 8] (fun v i wr => ∃ (k : Nat) (ys : List Aw), k ≤ len ∧ i = .int .i64 k ∧ wr.ownsRow w.heap.size 29 9 v ys.length (flatA ys) ∧ Below w.heap.size w wr ∧ (∀ y ∈ ys, (y.Ok ∧ y.n ≤ 1030) ∧ y.Own wr w.heap.size) ∧ ys.map Aw.a = (((xs.map Aw.a).take k).take 60).map cutA) (fun _ i _ => len - (intOf i).toNat)
  case atStart => exact ⟨0, [], Nat.zero_le _, rfl, ⟨by simp [flatA], .inl ⟨rfl, rfl⟩⟩, Below.refl _ _, fun y hy => by simp at hy, by simp⟩
  case round =>
    obtain ⟨k, ys, hk, rfl, hown, hb, hys, hdat⟩ := hrel
    by_cases hlt : k < len
    · have hkx : k < xs.length := by rw [HX.out.1]; exact hlt
      obtain ⟨blk, off, rfl, hcells, hU⟩ := (HX.out.2.2.keep hb) k xs[k] (List.getElem?_eq_getElem hkx)
      have hxok := HX.out.2.1 xs[k] (List.getElem_mem hkx)
      obtain ⟨x, hx⟩ : ∃ x, xs[k] = x := ⟨_, rfl⟩
      rw [hx] at hcells hU hxok
      have HXK : Hid (∃ h : k < xs.length, xs[k] = x) := ⟨hkx, hx⟩
      clear hx hkx
      obtain ⟨⟨xk, node, n, ⟨fk, fd, fa, fp, fb⟩, xb⟩, xA, xn, xc⟩ := x
      have p0 := hcells 0 _ rfl
      have p1 := hcells 1 _ rfl
      have p2 := hcells 2 _ rfl
      have p3 := hcells 3 _ rfl
      have p4 := hcells 4 _ rfl
      have p5 := hcells 5 _ rfl
      have p6 := hcells 6 _ rfl
      have p7 := hcells 7 _ rfl
      have p8 := hcells 8 _ rfl
      simp only [Nat.add_zero] at p0 p1 p2 p3 p4 p5 p6 p7 p8
      by_cases hK : k < 60
      · have hlys : ys.length = k := by
          have := congrArg List.length hdat
          simp only [List.length_map, List.length_take] at this
          rw [HX.out.1] at this
          omega
        obtain ⟨m, hm⟩ : ∃ m, (xb.take 1030).length = m := ⟨_, rfl⟩
        have hmM : m ≤ 1030 ∧ m ≤ xn ∧ min (xn : Int) 1030 = (m : Int) := by
          have h1 := hxok.ok.len
          simp only at h1
          rw [← hm, List.length_take, h1]
          omega
        have hxc := hxok.ok.cap
        have hxm := hxok.max
        have hxnil := hxok.nil
        simp only at hxc hxm hxnil
        unfold maxLen at hxm
        have hmin := hmM.2.2
        have hsl := fun W => u8_upto xA xn xc m (by omega) W
        obtain ⟨W1, hW1⟩ : ∃ W1, wr.alloc (.cells #[.int .i64 xk, .int .i64 node, .int .i64 n, .int .i64 fk, .int .i64 fd, .int .i64 fa, .int .u32 (fp : Int), .int .u32 (fb : Int), .slice xA xn xc] 29) = W1 := ⟨_, rfl⟩
        have hb1 : Below wr.heap.size wr W1 := by rw [← hW1]; exact (Below.refl _ _).alloc (Nat.le_refl _) _
        have hs1 : W1.heap.size = wr.heap.size + 1 := by rw [← hW1]; simp
        have hE1 : ∀ (j : Nat) (v : Value), (#[Value.int .i64 xk, .int .i64 node, .int .i64 n, .int .i64 fk, .int .i64 fd, .int .i64 fa, .int .u32 (fp : Int), .int .u32 (fb : Int), .slice xA xn xc])[j]? = some v → W1.cell? ⟨wr.heap.size, j, none⟩ = some v ∧ W1.frozen? ⟨wr.heap.size, j, none⟩ = false := by
          intro j v hv
          rw [← hW1]
          exact ⟨by rw [World.cell?_alloc_at _ _ _ _ (by simp)]; exact hv, by simp⟩
        have h00 := World.ownsRow_made (base := W1.heap.size) (e := 5) (size := 1) W1 #[] 0 (Nat.le_refl _) (by simp [maxLen]) rfl
        have hbz : Below W1.heap.size W1 (W1.alloc (.cells #[] 5)) := (Below.refl _ _).alloc (Nat.le_refl _) _
        have hU1 := ((hU.take 1030).keep hb1).keep hbz
        have HH := Lib.hid (And.intro hown (And.intro hb (And.intro hys (And.intro hdat (And.intro hb1 (And.intro hs1 (And.intro hxok (And.intro hm hE1))))))))
        have q8 := (hE1 8 _ rfl).1
        have hlt1 : wr.heap.size < W1.heap.size := by omega
        clear hown hb hys hdat hb1 hxok hU hcells hm hE1 hs1
        go_wp2_with (at_builtin; refine wpList_append_copy _ rfl _ _ 27 rfl W1.heap.size 5 i0 _ 1 1 Tryd.underlying27 hi hz0 hz1 hz2 rfl (by decide) _ _ _ rfl h00 xA m xc (u8V (xb.take 1030)) rfl ?c0 ?c1 ?c2 ?c3 ?c4 ?c5 ?c6 ?_)
        case c0 => intro hx; have := hxnil hx; omega
        case c1 => unfold u8V; rw [List.length_map, HH.out.2.2.2.2.2.2.2.1]
        case c2 => exact hU1.flat
        case c3 => exact u8_one
        case c4 => unfold maxLen; omega
        case c5 => omega
        intro v' w2 row hown2 hgrow2 hrow2
        have hb2 : Below W1.heap.size W1 w2 := hbz.grown hgrow2 (by simp) hrow2
        have hown2 : w2.ownsRow W1.heap.size 5 1 v' m (u8V (xb.take 1030)) := by simpa using hown2
        have hnil2 : ∀ A1 c1, v' = .slice A1 m c1 → A1 = none → c1 = 0 := by
          rintro A1 c1 rfl rfl
          rcases hown2.2 with ⟨hv, hm0⟩ | ⟨g, cap, cur, hv, _⟩
          · simp only [Value.slice.injEq, true_and] at hv; exact hv.2
          · cases hv
        obtain ⟨A1, c1, rfl, hc1⟩ := (OwnOr.form (.inl hown2) : ∃ A c, v' = .slice A m c ∧ m ≤ c)
        have hr := fun j v hv => (hb2.cell (p := ⟨wr.heap.size, j, none⟩) hlt1).trans (HH.out.2.2.2.2.2.2.2.2 j v hv).1
        have r0 := hr 0 _ rfl
        have r1 := hr 1 _ rfl
        have r2 := hr 2 _ rfl
        have r3 := hr 3 _ rfl
        have r4 := hr 4 _ rfl
        have r5 := hr 5 _ rfl
        have r6 := hr 6 _ rfl
        have r7 := hr 7 _ rfl
        have r8 := hr 8 _ rfl
        have gr8 := (hb2.frozen (p := ⟨wr.heap.size, 8, none⟩) hlt1).trans (HH.out.2.2.2.2.2.2.2.2 8 _ rfl).2
        have hb3 : Below wr.heap.size wr (w2.setCell ⟨wr.heap.size, 8, none⟩ (.slice A1 m c1)) := (HH.out.2.2.2.2.1.trans (hb2.mono HH.out.2.2.2.2.1.size)).setCell (p := ⟨wr.heap.size, 8, none⟩) (Nat.le_refl _) _
        have hown3 : (w2.setCell ⟨wr.heap.size, 8, none⟩ (.slice A1 m c1)).ownsRow w.heap.size 5 1 (.slice A1 m c1) m (u8V (xb.take 1030)) := own_setOther (ownsRow_base hown2 (by have := HH.out.2.1.size; omega)) hown2 (by omega) _ _
        have hownO := (ownsRow_kept HH.out.1 hb3).alloc (.cells #[.int .i64 xk, .int .i64 node, .int .i64 n, .int .i64 fk, .int .i64 fd, .int .i64 fa, .int .u32 (fp : Int), .int .u32 (fb : Int), .slice A1 m c1] 29)
        have H3 := Lib.hid (And.intro hb3 (And.intro hown3 (hnil2 A1 c1 rfl)))
        have hsz3 : W1.heap.size ≤ w2.heap.size := hb2.size
        clear hown2 hgrow2 hrow2 hb2 hnil2 hr hb3 hown3 h00 hbz hU1 hsl q8 p0 p1 p2 p3 p4 p5 p6 p7 p8
        go_wp2_with (at_builtin; refine wpList_append_own _ rfl _ _ 22 rfl w.heap.size 29 i1 _ 9 80 Tryd.underlying22 gi gz0 gz1 gz2 rfl (by decide) _ _ _ rfl hownO ⟨w2.heap.size, 0, none⟩ 1 1 [.int .i64 xk, .int .i64 node, .int .i64 n, .int .i64 fk, .int .i64 fd, .int .i64 fa, .int .u32 (fp : Int), .int .u32 (fb : Int), .slice A1 m c1] rfl rfl ?d1 ?d2 ?d3 ?d4 ?d5 ?_)
        case d1 =>
          intro j u hu
          rw [Lib.add_plain, Nat.zero_add]
          rw [World.cell?_alloc_at _ _ _ _ (by simp)]
          simpa using hu
        case d2 => intro u hu; simp at hu; rcases hu with rfl | rfl | rfl | rfl | rfl | rfl | rfl | rfl | rfl <;> rfl
        case d3 => unfold maxLen; omega
        case d4 => omega
        case d5 => have h1 := HH.out.2.1.size; simp; omega
        intro v' w4 hown4 hgrow4 _
        have hbA : Below w.heap.size w ((w2.setCell ⟨wr.heap.size, 8, none⟩ (.slice A1 m c1)).alloc (.cells #[.int .i64 xk, .int .i64 node, .int .i64 n, .int .i64 fk, .int .i64 fd, .int .i64 fa, .int .u32 (fp : Int), .int .u32 (fb : Int), .slice A1 m c1] 29)) :=
          (HH.out.2.1.trans (H3.out.1.mono HH.out.2.1.size)).alloc (by have h1 := HH.out.2.1.size; simp; omega) _
        have hb4 : Below w.heap.size w w4 := hbA.grown hgrow4 hbA.size (fun j hj => (hownO.lt j hj).1)
        have hold : ∀ y ∈ ys, (y.Ok ∧ y.n ≤ 1030) ∧ y.Own w4 w.heap.size := fun y hy =>
          ⟨(HH.out.2.2.1 y hy).1, Aw.Own.grown (((HH.out.2.2.1 y hy).2.kept H3.out.1).alloc _) hownO hgrow4⟩
        have hnew : Aw.Own w4 w.heap.size ⟨⟨xk, node, n, ⟨fk, fd, fa, fp, fb⟩, xb.take 1030⟩, A1, m, c1⟩ := Aw.Own.grown (H3.out.2.1.alloc _) hownO hgrow4
        have HF := Lib.hid (And.intro hown4 (And.intro hb4 (And.intro hold hnew)))
        clear hown4 hgrow4 hbA hb4 hold hnew hownO r0 r1 r2 r3 r4 r5 r6 r7 r8 gr8
        go_wp2
        go_roundw
        case rel =>
          refine ⟨k + 1, ys ++ [⟨⟨xk, node, n, ⟨fk, fd, fa, fp, fb⟩, xb.take 1030⟩, A1, m, c1⟩], by omega, by go_num, ?_, HF.out.2.1, ?_, ?_⟩
          · rw [List.length_append, flatA_snoc, hlys]
            exact HF.out.1
          · intro y hy
            rcases List.mem_append.1 hy with h | h
            · exact HF.out.2.2.1 y h
            · obtain rfl := List.mem_singleton.1 h
              exact ⟨⟨⟨HH.out.2.2.2.2.2.2.1.ok.fits.cut _, HH.out.2.2.2.2.2.2.2.1, hc1⟩, hmM.1⟩, HF.out.2.2.2⟩
          · obtain ⟨hkx, hx⟩ := HXK.out
            have hkm : k < (xs.map Aw.a).length := by rw [List.length_map]; exact hkx
            rw [List.map_append, HH.out.2.2.2.1, List.take_take, List.take_take, Nat.min_eq_right (by omega), Nat.min_eq_right (by omega), List.take_succ_eq_append_getElem hkm, List.map_append, List.getElem_map, hx]
            rfl
        case measure => simp [intOf]; omega
      · have HH := Lib.hid (And.intro hown (And.intro hb (And.intro hys hdat)))
        have hb1 : Below w.heap.size w (wr.alloc (.cells #[.int .i64 xk, .int .i64 node, .int .i64 n, .int .i64 fk, .int .i64 fd, .int .i64 fa, .int .u32 (fp : Int), .int .u32 (fb : Int), .slice xA xn xc] 29)) := hb.alloc hb.size _
        have HB := Lib.hid (And.intro hb1 ((Below.refl wr.heap.size wr).alloc (Nat.le_refl _) (.cells #[.int .i64 xk, .int .i64 node, .int .i64 n, .int .i64 fk, .int .i64 fd, .int .i64 fa, .int .u32 (fp : Int), .int .u32 (fb : Int), .slice xA xn xc] 29)))
        clear hown hb hys hdat hb1 hU hcells hxok
        go_wp2
        go_roundw
        case rel => exact ⟨k + 1, ys, by omega, by go_num, HH.out.1.alloc _, HB.out.1, fun y hy => ⟨(HH.out.2.2.1 y hy).1, (HH.out.2.2.1 y hy).2.kept HB.out.2⟩, by rw [takeKd _ k hK]; exact HH.out.2.2.2⟩
        case measure => simp [intOf]; omega
    · obtain rfl : k = len := by omega
      have HF := Lib.hid (And.intro hown (And.intro hb (And.intro hys hdat)))
      clear hown hb hys hdat
      go_wp2
      go_ret
      exact ⟨_, ys, rfl, HF.out.1, HF.out.2.1, HF.out.2.2.1, by have := HF.out.2.2.2; rw [show (xs.map Aw.a).take k = xs.map Aw.a from List.take_of_length_le (by rw [List.length_map, HX.out.1]; exact Nat.le_refl _)] at this; exact this⟩
theorem acts_of_own {w : World} {B n c : Nat} {A : Option Addr} {ys : List Aw} (h : w.ownsRow B 29 9 (.slice A n c) ys.length (flatA ys)) (hy : ∀ y ∈ ys, y.Ok ∧ y.Own w B) : ActsAt w A ys := by
  intro i y hi
  have hil : i < ys.length := (List.getElem?_eq_some_iff.1 hi).1
  obtain ⟨g, cap, hv, _, _⟩ := h.form (by omega)
  obtain ⟨rfl, _, _⟩ : A = some ⟨g, 0, none⟩ ∧ n = ys.length ∧ c = cap := by simpa using hv
  have hm : y ∈ ys := List.mem_of_getElem? hi
  refine ⟨g, 0, rfl, fun j v hj => ?_, ownU8 (hy y hm).2 (hy y hm).1.len⟩
  have := h.cells (g := g) rfl (i * 9 + j) v (flatA_at ys i y hi j v hj)
  rw [Lib.add_plain, Nat.zero_add] at this
  rw [Nat.zero_add]
  exact this
theorem take_eq_step (xs ys : List Ac) (k : Nat) (h1 : k < xs.length) (h2 : k < ys.length) (h : xs.take k = ys.take k) : xs.take (k + 1) = ys.take (k + 1) ↔ xs[k] = ys[k] := by
  rw [List.take_succ_eq_append_getElem h1, List.take_succ_eq_append_getElem h2, h]
  simp only [List.append_cancel_left_eq, List.cons.injEq, and_true]
set_option maxHeartbeats 3200000 in
set_option maxRecDepth 100000 in
theorem all46 (A B : Option Addr) (n m c d : Nat) (xs ys : List Aw) (hn : xs.length = n) (hm : ys.length = m) (hN : n ≤ 1000000) (hox : ∀ x ∈ xs, x.Ok) (hoy : ∀ y ∈ ys, y.Ok) (w : World) (hA : ActsAt w A xs) (hB : ActsAt w B ys) :
    Calls Tryd.prog 15 #[.slice A n c, .slice B m d] w fun e w' => e = .returned (.bool (decide (acs xs = acs ys))) ∧ Below w.heap.size w w' := by
  have HX := Lib.hid (And.intro hn (And.intro hm (And.intro hA (And.intro hB (And.intro hox hoy)))))
  clear hn hm hA hB hox hoy
  have hlx : Hid ((acs xs).length = n) := by unfold Hid acs; rw [List.length_map]; exact HX.out.1
  have hly : Hid ((acs ys).length = m) := by unfold Hid acs; rw [List.length_map]; exact HX.out.2.1
  by_cases hnm : n = m
  · subst hnm
    go_enter Tryd.func15, Tryd.ntmps15
    go_wp2
    go_loopw [13] (fun i wr => ∃ k : Nat, k ≤ n ∧ i = .int .i64 k ∧ (acs xs).take k = (acs ys).take k ∧ Below w.heap.size w wr) (fun i _ => n - (intOf i).toNat)
    case atStart => exact ⟨0, Nat.zero_le _, rfl, by simp, Below.refl _ _⟩
    case round =>
      obtain ⟨k, hk, rfl, heq, hb⟩ := hrel
      by_cases hlt : k < n
      · have hkx : k < xs.length := by rw [HX.out.1]; exact hlt
        have hky : k < ys.length := by rw [HX.out.2.1]; exact hlt
        obtain ⟨blk, off, rfl, hcx, hUx⟩ := (HX.out.2.2.1.keep hb) k xs[k] (List.getElem?_eq_getElem hkx)
        obtain ⟨blk2, off2, rfl, hcy, hUy⟩ := (HX.out.2.2.2.1.keep hb) k ys[k] (List.getElem?_eq_getElem hky)
        have hxok := HX.out.2.2.2.2.1 xs[k] (List.getElem_mem hkx)
        have hyok := HX.out.2.2.2.2.2 ys[k] (List.getElem_mem hky)
        have hst := take_eq_step (acs xs) (acs ys) k (by rw [hlx.out]; exact hlt) (by rw [hly.out]; exact hlt) heq
        rw [show (acs xs)[k]'(by rw [hlx.out]; exact hlt) = xs[k].a by simp [acs], show (acs ys)[k]'(by rw [hly.out]; exact hlt) = ys[k].a by simp [acs]] at hst
        have hne : xs[k].a ≠ ys[k].a → acs xs ≠ acs ys := fun h e => h (hst.1 (by rw [e]))
        obtain ⟨x, hx⟩ : ∃ x, xs[k] = x := ⟨_, rfl⟩
        obtain ⟨y, hy⟩ : ∃ y, ys[k] = y := ⟨_, rfl⟩
        rw [hx] at hcx hUx hxok hst hne
        rw [hy] at hcy hUy hyok hst hne
        clear hx hy hkx hky
        have hlx2 := hxok.len
        have hly2 := hyok.len
        obtain ⟨⟨xk, xnode, xn, ⟨xfk, xfd, xfa, xfp, xfb⟩, xb⟩, xA, xm, xc⟩ := x
        obtain ⟨⟨yk, ynode, yn, ⟨yfk, yfd, yfa, yfp, yfb⟩, yb⟩, yA, ym, yc⟩ := y
        simp only at hUx hUy hlx2 hly2 hst hne
        obtain ⟨v, hv⟩ : ∃ v, acB ⟨xk, xnode, xn, ⟨xfk, xfd, xfa, xfp, xfb⟩, xb⟩ ⟨yk, ynode, yn, ⟨yfk, yfd, yfa, yfp, yfb⟩, yb⟩ = v := ⟨_, rfl⟩
        have hv2 : (xs.take 0 = ys.take 0) ∧ ((acs xs).take (k + 1) = (acs ys).take (k + 1) ↔ v = true) ∧ (v = false → acs xs ≠ acs ys) := by
          refine ⟨by simp, ?_, fun h => hne ?_⟩
          · rw [hst, ← hv]; unfold acB; rw [decide_eq_true_eq]
          · rw [← hv] at h; unfold acB at h; exact of_decide_eq_false h
        have C1 := fun W : Later wr => refSameV ⟨xk, xnode, xn, ⟨xfk, xfd, xfa, xfp, xfb⟩, xb⟩ ⟨yk, ynode, yn, ⟨yfk, yfd, yfa, yfp, yfb⟩, yb⟩ xA yA xm ym xc yc v hv W.val (hUx.keep W.h) hlx2 (hUy.keep W.h) hly2
        unfold Ac.cells at C1
        have C1 := Lib.hid C1
        have p0 := hcx 0 _ rfl
        have p1 := hcx 1 _ rfl
        have p2 := hcx 2 _ rfl
        have p3 := hcx 3 _ rfl
        have p4 := hcx 4 _ rfl
        have p5 := hcx 5 _ rfl
        have p6 := hcx 6 _ rfl
        have p7 := hcx 7 _ rfl
        have p8 := hcx 8 _ rfl
        have q0 := hcy 0 _ rfl
        have q1 := hcy 1 _ rfl
        have q2 := hcy 2 _ rfl
        have q3 := hcy 3 _ rfl
        have q4 := hcy 4 _ rfl
        have q5 := hcy 5 _ rfl
        have q6 := hcy 6 _ rfl
        have q7 := hcy 7 _ rfl
        have q8 := hcy 8 _ rfl
        simp only [Nat.add_zero] at p0 q0
        have cells : ∀ W : Later wr, W.val.cell? ⟨blk, off + k * 9, none⟩ = some (.int .i64 xk) ∧ W.val.cell? ⟨blk, off + k * 9 + 1, none⟩ = some (.int .i64 xnode) ∧ W.val.cell? ⟨blk, off + k * 9 + 2, none⟩ = some (.int .i64 xn) ∧ W.val.cell? ⟨blk, off + k * 9 + 3, none⟩ = some (.int .i64 xfk) ∧ W.val.cell? ⟨blk, off + k * 9 + 4, none⟩ = some (.int .i64 xfd) ∧ W.val.cell? ⟨blk, off + k * 9 + 5, none⟩ = some (.int .i64 xfa) ∧ W.val.cell? ⟨blk, off + k * 9 + 6, none⟩ = some (.int .u32 (xfp : Int)) ∧ W.val.cell? ⟨blk, off + k * 9 + 7, none⟩ = some (.int .u32 (xfb : Int)) ∧ W.val.cell? ⟨blk, off + k * 9 + 8, none⟩ = some (.slice xA xm xc) ∧ W.val.cell? ⟨blk2, off2 + k * 9, none⟩ = some (.int .i64 yk) ∧ W.val.cell? ⟨blk2, off2 + k * 9 + 1, none⟩ = some (.int .i64 ynode) ∧ W.val.cell? ⟨blk2, off2 + k * 9 + 2, none⟩ = some (.int .i64 yn) ∧ W.val.cell? ⟨blk2, off2 + k * 9 + 3, none⟩ = some (.int .i64 yfk) ∧ W.val.cell? ⟨blk2, off2 + k * 9 + 4, none⟩ = some (.int .i64 yfd) ∧ W.val.cell? ⟨blk2, off2 + k * 9 + 5, none⟩ = some (.int .i64 yfa) ∧ W.val.cell? ⟨blk2, off2 + k * 9 + 6, none⟩ = some (.int .u32 (yfp : Int)) ∧ W.val.cell? ⟨blk2, off2 + k * 9 + 7, none⟩ = some (.int .u32 (yfb : Int)) ∧ W.val.cell? ⟨blk2, off2 + k * 9 + 8, none⟩ = some (.slice yA ym yc) := fun W => ⟨Later.cell p0 W, Later.cell p1 W, Later.cell p2 W, Later.cell p3 W, Later.cell p4 W, Later.cell p5 W, Later.cell p6 W, Later.cell p7 W, Later.cell p8 W, Later.cell q0 W, Later.cell q1 W, Later.cell q2 W, Later.cell q3 W, Later.cell q4 W, Later.cell q5 W, Later.cell q6 W, Later.cell q7 W, Later.cell q8 W⟩
        have HH := Lib.hid (And.intro hb hv2)
        clear hcx hcy hUx hUy hxok hyok hst hne hv hv2 hb
        go_wp2_with fail
        refine wp_region_later (by kernel_rfl) (by kernel_rfl) ?_
        iterate 8 (go_big_quiet_step (fail))
        go_big_quiet_step (exact later_of (C1.out _))
        repeat (go_big_quiet_step (fail))
        refine wpQuiet_nil ?_
        rintro w9 ⟨⟨W, hW⟩, rfl⟩
        have HB := Lib.hid (HH.out.1.trans (hW.mono HH.out.1.size))
        clear cells hW
        rcases v with _ | _
        · have HT := Lib.hid (HH.out.2.2.2 rfl)
          go_wp2
          go_ret
          exact ⟨ret_bool (decide_eq_false HT.out).symm, HB.out⟩
        · have HT := Lib.hid (HH.out.2.2.1.2 rfl)
          go_wp2
          go_roundw
          case rel => exact ⟨k + 1, by omega, by go_num, HT.out, HB.out⟩
          case measure => simp [intOf]; omega
      · obtain rfl : k = n := by omega
        have HE := Lib.hid (And.intro heq hb)
        clear heq hb
        go_wp2
        go_ret
        refine ⟨ret_bool ?_, HE.out.2⟩
        have h := HE.out.1
        rw [List.take_of_length_le (by rw [hlx.out]; exact Nat.le_refl _), List.take_of_length_le (by rw [hly.out]; exact Nat.le_refl _)] at h
        exact (decide_eq_true h).symm
  · have hne : (n : Int) ≠ (m : Int) := fun h => hnm (by omega)
    have q : ((n : Int) != (m : Int)) = true := by simpa using hne
    have hnn : Hid (acs xs ≠ acs ys) := fun h => hnm (by rw [← hlx.out, ← hly.out, h])
    go_enter Tryd.func15, Tryd.ntmps15
    go_wp2
    go_ret
    exact ⟨ret_bool (decide_eq_false hnn.out).symm, Below.refl _ _⟩
end Go.Proofs.YtndpdonlombodaaDoor
