/- angeluslaw49.Cut: acts kept few. -/
import Derived.Test.YtbgbehlmpheaeaaGreatDoorWoZ
import Derived.Test.YtbgbehlmpheaeaaGreatDoorActM
import Derived.Test.YtbgbehlmpheaeaaGreatDoorBase
import Derived.Deep.AppendLies
namespace Go.Proofs.YtbgbehlmpheaeaaGreatDoor
open Go.RowKit Law
set_option linter.unusedVariables false
set_option linter.unusedSimpArgs false

theorem u8_upto (A : Option Addr) (n c k : Nat) (hk : k ≤ c) (W : World) : (Instr.slice 33 (.slice A n c) none (some (.int .i64 (k : Int))) none).run Tryz.prog W = .ok (.slice A k c) W := by
  have h1 : (0 : Int) ≤ k ∧ (k : Int) ≤ c := by omega
  simp [Instr.slice, Instr.sliceBounds, Instr.sliceBound, asIntOf, run_underlying Tryz.underlying33, Tryz.sizeOf5, h1, hk, go_sem]
/-- The body's bytes lie in a row of their own, from a base on. -/
def Aw.Own (w : World) (B : Nat) (x : Aw) : Prop := w.ownsRow B 5 1 (.slice x.A x.n x.c) x.n (u8V x.a.b)
theorem own_apart {w : World} {B B' n m : Nat} {v u : Value} {xs ys : List Value} (h : w.ownsRow B 35 9 v n xs) (h' : w.ownsRow B' 5 1 u m ys) : u.ownBlock = none ∨ u.ownBlock ≠ v.ownBlock := by
  rcases h'.2 with ⟨rfl, _⟩ | ⟨g, cap, cur, rfl, _, hg, _⟩
  · exact .inl rfl
  · refine .inr fun he => ?_
    rcases h.2 with ⟨rfl, _⟩ | ⟨g2, cap2, cur2, rfl, _, hg2, _⟩
    · simp [Value.ownBlock] at he
    · obtain rfl : g = g2 := by simpa [Value.ownBlock] using he
      rw [hg] at hg2
      cases hg2
theorem Ac.Fits.cut {x : Ac} (h : x.Fits) (b : List UInt8) : Ac.Fits { x with b := b } := ⟨h.k0, h.k1, h.i0, h.i1, h.n0, h.n1, h.fk0, h.fk1, h.d0, h.d1, h.a0, h.a1, h.p, h.b⟩
theorem actInfo : (Tryz.prog.info? 35).map (fun i => (i.zero, i.size, i.bytes)) = some (some (.agg #[.int .i64 0, .int .i64 0, .int .i64 0, .int .i64 0, .int .i64 0, .int .i64 0, .int .u32 0, .int .u32 0, .slice none 0 0]), 9, 80) := by kernel_rfl
/-- What Cut hands back: a list of its own, what lies in it is not needed. -/
def CutAPost (w : World) (e : Ending) (w' : World) : Prop := ∃ v ys, e = .returned v ∧ ys.length ≤ 60 ∧ w'.ownsRow w.heap.size 35 9 v ys.length (flatA ys) ∧ Below w.heap.size w w' ∧ (∀ y ∈ ys, (y.Ok ∧ y.n ≤ 100) ∧ y.Own w' w.heap.size)
theorem Aw.Own.kept {w w' : World} {B : Nat} {x : Aw} (h : x.Own w B) (hb : Below w.heap.size w w') : x.Own w' B := ownsRow_kept h hb
theorem Aw.Own.grown {w w' : World} {B B' n : Nat} {x : Aw} {v : Value} {xs : List Value} (h : x.Own w B) (hv : w.ownsRow B' 35 9 v n xs) (hg : w.grownBy w' v.ownBlock) : x.Own w' B :=
  World.ownsRow.kept h hg (own_apart hv h)
theorem own_setOther {w : World} {B B' s n b : Nat} {e : TypeId} {v : Value} {xs : List Value} (h : w.ownsRow B e s v n xs) (h' : w.ownsRow B' e s v n xs) (hb : b < B') (o : Nat) (u : Value) : (w.setCell ⟨b, o, none⟩ u).ownsRow B e s v n xs := by
  refine World.ownsRow.kept (row := some b) h ⟨rfl, rfl, rfl, by simp, fun k _ hk => Below.heap_setCell _ _ _ k (fun e => hk (by rw [e]))⟩ ?_
  cases hv : v.ownBlock with
  | none => exact .inl rfl
  | some g => exact .inr (fun he => by have := (h'.lt g hv).1; injection he; omega)
set_option maxHeartbeats 6400000 in
set_option maxRecDepth 100000 in
theorem cut49 (A : Option Addr) (len c : Nat) (xs : List Aw) (hl : xs.length = len) (hc : len ≤ c) (hcm : c ≤ maxLen) (hok : ∀ x ∈ xs, x.In) (w : World) (hA : ActsAt w A xs) :
    Calls Tryz.prog 4 #[.slice A len c] w (CutAPost w) := by
  unfold maxLen at hcm
  obtain ⟨i0, hi, hz0, hz1, hz2⟩ := info_parts u8Info
  obtain ⟨i1, gi, gz0, gz1, gz2⟩ := info_parts actInfo
  obtain ⟨hz, hsz⟩ := zero_of_info (show (Tryz.prog.info? 35).map (fun i => (i.zero, i.size)) = some (some (.agg #[.int .i64 0, .int .i64 0, .int .i64 0, .int .i64 0, .int .i64 0, .int .i64 0, .int .u32 0, .int .u32 0, .slice none 0 0]), 9) by kernel_rfl)
  have HX := Lib.hid (And.intro hl (And.intro hok hA))
  clear hl hok hA
  go_enter Tryz.func4, Tryz.ntmps4
  go_wp2
  go_loopw [3, 4, 9] (fun v t i wr => ∃ (k : Nat) (ys : List Aw) (tn : Int), k ≤ len ∧ i = .int .i64 k ∧ t = .int .i64 tn ∧ (0 ≤ tn ∧ tn ≤ 1200) ∧ (ys.length ≤ k ∧ ys.length ≤ 60) ∧ wr.ownsRow w.heap.size 35 9 v ys.length (flatA ys) ∧ Below w.heap.size w wr ∧ (∀ y ∈ ys, (y.Ok ∧ y.n ≤ 100) ∧ y.Own wr w.heap.size)) (fun _ _ i _ => len - (intOf i).toNat)
  case atStart => exact ⟨0, [], 0, Nat.zero_le _, rfl, rfl, by omega, by simp, ⟨by simp [flatA], .inl ⟨rfl, rfl⟩⟩, Below.refl _ _, fun y hy => by simp at hy⟩
  case round =>
    obtain ⟨k, ys, tn, hk, rfl, rfl, htn, hyl, hown, hb, hys⟩ := hrel
    obtain ⟨hyk, hy60⟩ := hyl
    by_cases hlt : k < len
    · have hkx : k < xs.length := by rw [HX.out.1]; exact hlt
      obtain ⟨blk, off, rfl, hcells, hU⟩ := (HX.out.2.2.keep hb) k xs[k] (List.getElem?_eq_getElem hkx)
      have hxok := HX.out.2.1 xs[k] (List.getElem_mem hkx)
      obtain ⟨x, hx⟩ : ∃ x, xs[k] = x := ⟨_, rfl⟩
      rw [hx] at hcells hU hxok
      clear hx hkx
      obtain ⟨⟨xk, node, n, ⟨fk, fd, fa, fp, fb⟩, xb⟩, xA, xn, xc⟩ := x
      have p0 := hcells 0 _ rfl
      have p1 := hcells 1 _ rfl
      have p2 := hcells 2 _ rfl
      have p3 := hcells 3 _ rfl
      have p4 := hcells 4 _ rfl
      have p5 := hcells 5 _ rfl
      have p6 := hcells 6 _ rfl
      have p7 := hcells 7 _ rfl
      have p8 := hcells 8 _ rfl
      simp only [Nat.add_zero] at p0 p1 p2 p3 p4 p5 p6 p7 p8
      by_cases hK : k < 60
      · have hylt : ys.length < 60 := by omega
        obtain ⟨m, hm⟩ : ∃ m, (xb.take 100).length = m := ⟨_, rfl⟩
        have hmM : m ≤ 100 ∧ m ≤ xn ∧ min (xn : Int) 100 = (m : Int) := by
          have h1 := hxok.ok.len
          simp only at h1
          rw [← hm, List.length_take, h1]
          omega
        have hxc := hxok.ok.cap
        have hxm := hxok.max
        have hxnil := hxok.nil
        simp only at hxc hxm hxnil
        unfold maxLen at hxm
        have hmin := hmM.2.2
        have hsl := fun W => u8_upto xA xn xc m (by omega) W
        obtain ⟨W1, hW1⟩ : ∃ W1, wr.alloc (.cells #[.int .i64 xk, .int .i64 node, .int .i64 n, .int .i64 fk, .int .i64 fd, .int .i64 fa, .int .u32 (fp : Int), .int .u32 (fb : Int), .slice xA xn xc] 35) = W1 := ⟨_, rfl⟩
        have hb1 : Below wr.heap.size wr W1 := by rw [← hW1]; exact (Below.refl _ _).alloc (Nat.le_refl _) _
        have hs1 : W1.heap.size = wr.heap.size + 1 := by rw [← hW1]; simp
        have hE1 : ∀ (j : Nat) (v : Value), (#[Value.int .i64 xk, .int .i64 node, .int .i64 n, .int .i64 fk, .int .i64 fd, .int .i64 fa, .int .u32 (fp : Int), .int .u32 (fb : Int), .slice xA xn xc])[j]? = some v → W1.cell? ⟨wr.heap.size, j, none⟩ = some v ∧ W1.frozen? ⟨wr.heap.size, j, none⟩ = false := by
          intro j v hv
          rw [← hW1]
          exact ⟨by rw [World.cell?_alloc_at _ _ _ _ (by simp)]; exact hv, by simp⟩
        have h00 := World.ownsRow_made (base := W1.heap.size) (e := 5) (size := 1) W1 #[] 0 (Nat.le_refl _) (by simp [maxLen]) rfl
        have hbz : Below W1.heap.size W1 (W1.alloc (.cells #[] 5)) := (Below.refl _ _).alloc (Nat.le_refl _) _
        have hU1 := ((hU.take 100).keep hb1).keep hbz
        have HH := Lib.hid (And.intro hown (And.intro hb (And.intro hys (And.intro trivial (And.intro hb1 (And.intro hs1 (And.intro hxok (And.intro hm hE1))))))))
        have q8 := (hE1 8 _ rfl).1
        have hlt1 : wr.heap.size < W1.heap.size := by omega
        clear hown hb hys hb1 hxok hU hcells hm hE1 hs1
        go_wp2_with (at_builtin; refine wpList_append_copy _ rfl _ _ 33 rfl W1.heap.size 5 i0 _ 1 1 Tryz.underlying33 hi hz0 hz1 hz2 rfl (by decide) _ _ _ rfl h00 xA m xc (u8V (xb.take 100)) rfl ?c0 ?c1 ?c2 ?c3 ?c4 ?c5 ?c6 ?_)
        case c0 => intro hx; have := hxnil hx; omega
        case c1 => unfold u8V; rw [List.length_map, HH.out.2.2.2.2.2.2.2.1]
        case c2 => exact hU1.flat
        case c3 => exact u8_one
        case c4 => unfold maxLen; omega
        case c5 => omega
        intro v' w2 row hown2 hgrow2 hrow2
        have hb2 : Below W1.heap.size W1 w2 := hbz.grown hgrow2 (by simp) hrow2
        have hown2 : w2.ownsRow W1.heap.size 5 1 v' m (u8V (xb.take 100)) := by simpa using hown2
        have hnil2 : ∀ A1 c1, v' = .slice A1 m c1 → A1 = none → c1 = 0 := by
          rintro A1 c1 rfl rfl
          rcases hown2.2 with ⟨hv, hm0⟩ | ⟨g, cap, cur, hv, _⟩
          · simp only [Value.slice.injEq, true_and] at hv; exact hv.2
          · cases hv
        obtain ⟨A1, c1, rfl, hc1⟩ := (OwnOr.form (.inl hown2) : ∃ A c, v' = .slice A m c ∧ m ≤ c)
        have hr := fun j v hv => (hb2.cell (p := ⟨wr.heap.size, j, none⟩) hlt1).trans (HH.out.2.2.2.2.2.2.2.2 j v hv).1
        have r0 := hr 0 _ rfl
        have r1 := hr 1 _ rfl
        have r2 := hr 2 _ rfl
        have r3 := hr 3 _ rfl
        have r4 := hr 4 _ rfl
        have r5 := hr 5 _ rfl
        have r6 := hr 6 _ rfl
        have r7 := hr 7 _ rfl
        have r8 := hr 8 _ rfl
        have gr8 := (hb2.frozen (p := ⟨wr.heap.size, 8, none⟩) hlt1).trans (HH.out.2.2.2.2.2.2.2.2 8 _ rfl).2
        have hb3 : Below wr.heap.size wr (w2.setCell ⟨wr.heap.size, 8, none⟩ (.slice A1 m c1)) := (HH.out.2.2.2.2.1.trans (hb2.mono HH.out.2.2.2.2.1.size)).setCell (p := ⟨wr.heap.size, 8, none⟩) (Nat.le_refl _) _
        have hown3 : (w2.setCell ⟨wr.heap.size, 8, none⟩ (.slice A1 m c1)).ownsRow w.heap.size 5 1 (.slice A1 m c1) m (u8V (xb.take 100)) := own_setOther (ownsRow_base hown2 (by have := HH.out.2.1.size; omega)) hown2 (by omega) _ _
        have hownO := (ownsRow_kept HH.out.1 hb3).alloc (.cells #[.int .i64 xk, .int .i64 node, .int .i64 n, .int .i64 fk, .int .i64 fd, .int .i64 fa, .int .u32 (fp : Int), .int .u32 (fb : Int), .slice A1 m c1] 35)
        have H3 := Lib.hid (And.intro hb3 (And.intro hown3 (hnil2 A1 c1 rfl)))
        have hsz3 : W1.heap.size ≤ w2.heap.size := hb2.size
        clear hown2 hgrow2 hrow2 hb2 hnil2 hr hb3 hown3 h00 hbz hU1 hsl q8 p0 p1 p2 p3 p4 p5 p6 p7 p8
        have hd1 : ∀ (j : Nat) (u : Value), ([.int .i64 xk, .int .i64 node, .int .i64 n, .int .i64 fk, .int .i64 fd, .int .i64 fa, .int .u32 (fp : Int), .int .u32 (fb : Int), .slice A1 m c1] : List Value)[j]? = some u → ((w2.setCell ⟨wr.heap.size, 8, none⟩ (.slice A1 m c1)).alloc (.cells #[.int .i64 xk, .int .i64 node, .int .i64 n, .int .i64 fk, .int .i64 fd, .int .i64 fa, .int .u32 (fp : Int), .int .u32 (fb : Int), .slice A1 m c1] 35)).cell? (Addr.add ⟨w2.heap.size, 0, none⟩ j) = some u := by
          intro j u hu
          rw [Lib.add_plain, Nat.zero_add]
          rw [World.cell?_alloc_at _ _ _ _ (by simp)]
          simpa using hu
        have hd2 : ∀ u ∈ ([.int .i64 xk, .int .i64 node, .int .i64 n, .int .i64 fk, .int .i64 fd, .int .i64 fa, .int .u32 (fp : Int), .int .u32 (fb : Int), .slice A1 m c1] : List Value), u.oneCell' = true := by intro u hu; simp at hu; rcases hu with rfl | rfl | rfl | rfl | rfl | rfl | rfl | rfl | rfl <;> rfl
        have hd3 : w.heap.size ≤ ((w2.setCell ⟨wr.heap.size, 8, none⟩ (.slice A1 m c1)).alloc (.cells #[.int .i64 xk, .int .i64 node, .int .i64 n, .int .i64 fk, .int .i64 fd, .int .i64 fa, .int .u32 (fp : Int), .int .u32 (fb : Int), .slice A1 m c1] 35)).heap.size := by have h1 := HH.out.2.1.size; simp; omega
        have hd4 : ys.length + 1 ≤ maxLen := by unfold maxLen; omega
        have HDD := Lib.hid (And.intro hd1 (And.intro hd2 (And.intro hd3 hd4)))
        clear hd1 hd2 hd3 hd4
        by_cases h1 : xk = 1
        · subst h1
          by_cases h2 : 0 < n
          · obtain ⟨q, hq⟩ : ∃ q, min n 64 = q := ⟨_, rfl⟩
            have hq2 : 1 ≤ q ∧ q ≤ 64 := by omega
            by_cases h3 : 1200 - q < tn
            · have HB3 := Lib.hid (HH.out.2.1.trans (H3.out.1.mono HH.out.2.1.size))
              have HO3 := Lib.hid (ownsRow_kept HH.out.1 H3.out.1)
              clear hownO
              go_wp2
              go_roundw
              case rel => exact ⟨k + 1, ys, tn, by omega, by go_num, rfl, htn, by omega, HO3.out, HB3.out, fun y hy => ⟨(HH.out.2.2.1 y hy).1, (HH.out.2.2.1 y hy).2.kept H3.out.1⟩⟩
              case measure => simp [intOf]; omega
            · have h3b : tn + q ≤ 1200 := by omega
              go_wp2_with (at_builtin; refine wpList_append_own _ rfl _ _ 25 rfl w.heap.size 35 i1 _ 9 80 Tryz.underlying25 gi gz0 gz1 gz2 rfl (by decide) _ _ _ rfl hownO ⟨w2.heap.size, 0, none⟩ 1 1 [.int .i64 1, .int .i64 node, .int .i64 n, .int .i64 fk, .int .i64 fd, .int .i64 fa, .int .u32 (fp : Int), .int .u32 (fb : Int), .slice A1 m c1] rfl rfl HDD.out.1 HDD.out.2.1 HDD.out.2.2.2 (by omega) HDD.out.2.2.1 ?_)
              intro v' w4 hown4 hgrow4 _
              have hbA : Below w.heap.size w ((w2.setCell ⟨wr.heap.size, 8, none⟩ (.slice A1 m c1)).alloc (.cells #[.int .i64 1, .int .i64 node, .int .i64 n, .int .i64 fk, .int .i64 fd, .int .i64 fa, .int .u32 (fp : Int), .int .u32 (fb : Int), .slice A1 m c1] 35)) :=
                (HH.out.2.1.trans (H3.out.1.mono HH.out.2.1.size)).alloc (by have h1 := HH.out.2.1.size; simp; omega) _
              have hb4 : Below w.heap.size w w4 := hbA.grown hgrow4 hbA.size (fun j hj => (hownO.lt j hj).1)
              have hold : ∀ y ∈ ys, (y.Ok ∧ y.n ≤ 100) ∧ y.Own w4 w.heap.size := fun y hy =>
                ⟨(HH.out.2.2.1 y hy).1, Aw.Own.grown (((HH.out.2.2.1 y hy).2.kept H3.out.1).alloc _) hownO hgrow4⟩
              have hnew : Aw.Own w4 w.heap.size ⟨⟨1, node, n, ⟨fk, fd, fa, fp, fb⟩, xb.take 100⟩, A1, m, c1⟩ := Aw.Own.grown (H3.out.2.1.alloc _) hownO hgrow4
              have HF := Lib.hid (And.intro hown4 (And.intro hb4 (And.intro hold hnew)))
              clear hown4 hgrow4 hbA hb4 hold hnew hownO r0 r1 r2 r3 r4 r5 r6 r7 r8 gr8
              go_wp2
              go_roundw
              case rel =>
                refine ⟨k + 1, ys ++ [⟨⟨1, node, n, ⟨fk, fd, fa, fp, fb⟩, xb.take 100⟩, A1, m, c1⟩], tn + q, by omega, by go_num, rfl, by omega, by simp; omega, ?_, HF.out.2.1, ?_⟩
                · rw [List.length_append, flatA_snoc]
                  exact HF.out.1
                · intro y hy
                  rcases List.mem_append.1 hy with h | h
                  · exact HF.out.2.2.1 y h
                  · obtain rfl := List.mem_singleton.1 h
                    exact ⟨⟨⟨HH.out.2.2.2.2.2.2.1.ok.fits.cut _, HH.out.2.2.2.2.2.2.2.1, hc1⟩, hmM.1⟩, HF.out.2.2.2⟩
              case measure => simp [intOf]; omega
          · have h2b : n ≤ 0 := by omega
            go_wp2_with (at_builtin; refine wpList_append_own _ rfl _ _ 25 rfl w.heap.size 35 i1 _ 9 80 Tryz.underlying25 gi gz0 gz1 gz2 rfl (by decide) _ _ _ rfl hownO ⟨w2.heap.size, 0, none⟩ 1 1 [.int .i64 1, .int .i64 node, .int .i64 n, .int .i64 fk, .int .i64 fd, .int .i64 fa, .int .u32 (fp : Int), .int .u32 (fb : Int), .slice A1 m c1] rfl rfl HDD.out.1 HDD.out.2.1 HDD.out.2.2.2 (by omega) HDD.out.2.2.1 ?_)
            intro v' w4 hown4 hgrow4 _
            have hbA : Below w.heap.size w ((w2.setCell ⟨wr.heap.size, 8, none⟩ (.slice A1 m c1)).alloc (.cells #[.int .i64 1, .int .i64 node, .int .i64 n, .int .i64 fk, .int .i64 fd, .int .i64 fa, .int .u32 (fp : Int), .int .u32 (fb : Int), .slice A1 m c1] 35)) :=
              (HH.out.2.1.trans (H3.out.1.mono HH.out.2.1.size)).alloc (by have h1 := HH.out.2.1.size; simp; omega) _
            have hb4 : Below w.heap.size w w4 := hbA.grown hgrow4 hbA.size (fun j hj => (hownO.lt j hj).1)
            have hold : ∀ y ∈ ys, (y.Ok ∧ y.n ≤ 100) ∧ y.Own w4 w.heap.size := fun y hy =>
              ⟨(HH.out.2.2.1 y hy).1, Aw.Own.grown (((HH.out.2.2.1 y hy).2.kept H3.out.1).alloc _) hownO hgrow4⟩
            have hnew : Aw.Own w4 w.heap.size ⟨⟨1, node, n, ⟨fk, fd, fa, fp, fb⟩, xb.take 100⟩, A1, m, c1⟩ := Aw.Own.grown (H3.out.2.1.alloc _) hownO hgrow4
            have HF := Lib.hid (And.intro hown4 (And.intro hb4 (And.intro hold hnew)))
            clear hown4 hgrow4 hbA hb4 hold hnew hownO r0 r1 r2 r3 r4 r5 r6 r7 r8 gr8
            go_wp2
            go_roundw
            case rel =>
              refine ⟨k + 1, ys ++ [⟨⟨1, node, n, ⟨fk, fd, fa, fp, fb⟩, xb.take 100⟩, A1, m, c1⟩], tn, by omega, by go_num, rfl, by omega, by simp; omega, ?_, HF.out.2.1, ?_⟩
              · rw [List.length_append, flatA_snoc]
                exact HF.out.1
              · intro y hy
                rcases List.mem_append.1 hy with h | h
                · exact HF.out.2.2.1 y h
                · obtain rfl := List.mem_singleton.1 h
                  exact ⟨⟨⟨HH.out.2.2.2.2.2.2.1.ok.fits.cut _, HH.out.2.2.2.2.2.2.2.1, hc1⟩, hmM.1⟩, HF.out.2.2.2⟩
            case measure => simp [intOf]; omega
        · have h1b : (xk == 1) = false := beq_eq_false_iff_ne.2 h1
          go_wp2_with (at_builtin; refine wpList_append_own _ rfl _ _ 25 rfl w.heap.size 35 i1 _ 9 80 Tryz.underlying25 gi gz0 gz1 gz2 rfl (by decide) _ _ _ rfl hownO ⟨w2.heap.size, 0, none⟩ 1 1 [.int .i64 xk, .int .i64 node, .int .i64 n, .int .i64 fk, .int .i64 fd, .int .i64 fa, .int .u32 (fp : Int), .int .u32 (fb : Int), .slice A1 m c1] rfl rfl HDD.out.1 HDD.out.2.1 HDD.out.2.2.2 (by omega) HDD.out.2.2.1 ?_)
          intro v' w4 hown4 hgrow4 _
          have hbA : Below w.heap.size w ((w2.setCell ⟨wr.heap.size, 8, none⟩ (.slice A1 m c1)).alloc (.cells #[.int .i64 xk, .int .i64 node, .int .i64 n, .int .i64 fk, .int .i64 fd, .int .i64 fa, .int .u32 (fp : Int), .int .u32 (fb : Int), .slice A1 m c1] 35)) :=
            (HH.out.2.1.trans (H3.out.1.mono HH.out.2.1.size)).alloc (by have h1 := HH.out.2.1.size; simp; omega) _
          have hb4 : Below w.heap.size w w4 := hbA.grown hgrow4 hbA.size (fun j hj => (hownO.lt j hj).1)
          have hold : ∀ y ∈ ys, (y.Ok ∧ y.n ≤ 100) ∧ y.Own w4 w.heap.size := fun y hy =>
            ⟨(HH.out.2.2.1 y hy).1, Aw.Own.grown (((HH.out.2.2.1 y hy).2.kept H3.out.1).alloc _) hownO hgrow4⟩
          have hnew : Aw.Own w4 w.heap.size ⟨⟨xk, node, n, ⟨fk, fd, fa, fp, fb⟩, xb.take 100⟩, A1, m, c1⟩ := Aw.Own.grown (H3.out.2.1.alloc _) hownO hgrow4
          have HF := Lib.hid (And.intro hown4 (And.intro hb4 (And.intro hold hnew)))
          clear hown4 hgrow4 hbA hb4 hold hnew hownO r0 r1 r2 r3 r4 r5 r6 r7 r8 gr8
          go_wp2
          go_roundw
          case rel =>
            refine ⟨k + 1, ys ++ [⟨⟨xk, node, n, ⟨fk, fd, fa, fp, fb⟩, xb.take 100⟩, A1, m, c1⟩], tn, by omega, by go_num, rfl, by omega, by simp; omega, ?_, HF.out.2.1, ?_⟩
            · rw [List.length_append, flatA_snoc]
              exact HF.out.1
            · intro y hy
              rcases List.mem_append.1 hy with h | h
              · exact HF.out.2.2.1 y h
              · obtain rfl := List.mem_singleton.1 h
                exact ⟨⟨⟨HH.out.2.2.2.2.2.2.1.ok.fits.cut _, HH.out.2.2.2.2.2.2.2.1, hc1⟩, hmM.1⟩, HF.out.2.2.2⟩
          case measure => simp [intOf]; omega
      · have HH := Lib.hid (And.intro hown (And.intro hb hys))
        have hb1 : Below w.heap.size w (wr.alloc (.cells #[.int .i64 xk, .int .i64 node, .int .i64 n, .int .i64 fk, .int .i64 fd, .int .i64 fa, .int .u32 (fp : Int), .int .u32 (fb : Int), .slice xA xn xc] 35)) := hb.alloc hb.size _
        have HB := Lib.hid (And.intro hb1 ((Below.refl wr.heap.size wr).alloc (Nat.le_refl _) (.cells #[.int .i64 xk, .int .i64 node, .int .i64 n, .int .i64 fk, .int .i64 fd, .int .i64 fa, .int .u32 (fp : Int), .int .u32 (fb : Int), .slice xA xn xc] 35)))
        clear hown hb hys hb1 hU hcells hxok
        go_wp2
        go_ret
        exact ⟨_, ys, rfl, hy60, HH.out.1.alloc _, HB.out.1, fun y hy => ⟨(HH.out.2.2 y hy).1, (HH.out.2.2 y hy).2.kept HB.out.2⟩⟩
    · have HF := Lib.hid (And.intro hown (And.intro hb hys))
      clear hown hb hys
      go_wp2
      go_ret
      exact ⟨_, ys, rfl, hy60, HF.out.1, HF.out.2.1, HF.out.2.2⟩
theorem acts_of_own {w : World} {B n c : Nat} {A : Option Addr} {ys : List Aw} (h : w.ownsRow B 35 9 (.slice A n c) ys.length (flatA ys)) (hy : ∀ y ∈ ys, y.Ok ∧ y.Own w B) : ActsAt w A ys := by
  intro i y hi
  have hil : i < ys.length := (List.getElem?_eq_some_iff.1 hi).1
  obtain ⟨g, cap, hv, _, _⟩ := h.form (by omega)
  obtain ⟨rfl, _, _⟩ : A = some ⟨g, 0, none⟩ ∧ n = ys.length ∧ c = cap := by simpa using hv
  have hm : y ∈ ys := List.mem_of_getElem? hi
  refine ⟨g, 0, rfl, fun j v hj => ?_, ownU8 (hy y hm).2 (hy y hm).1.len⟩
  have := h.cells (g := g) rfl (i * 9 + j) v (flatA_at ys i y hi j v hj)
  rw [Lib.add_plain, Nat.zero_add] at this
  rw [Nat.zero_add]
  exact this
end Go.Proofs.YtbgbehlmpheaeaaGreatDoor
