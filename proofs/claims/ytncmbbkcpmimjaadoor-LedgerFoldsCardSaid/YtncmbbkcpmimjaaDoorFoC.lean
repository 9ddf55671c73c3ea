/- angeluslaw36.Cut: the walk. -/
import Derived.Test.YtncmbbkcpmimjaaDoorFoB
namespace Go.Proofs.YtncmbbkcpmimjaaDoor
open Go.RowKit Law
set_option linter.unusedVariables false

theorem Et.Own.kept {w w' : World} {B : Nat} {x : Et} (h : x.Own w B) (hb : Below w.heap.size w w') : x.Own w' B := ownsRow_kept h hb
theorem Et.Own.grown {w w' : World} {B B' n : Nat} {x : Et} {v : Value} {xs : List Value} (h : x.Own w B) (hv : w.ownsRow B' 31 5 v n xs) (hg : w.grownBy w' v.ownBlock) : x.Own w' B :=
  World.ownsRow.kept h hg (own_apart hv h)
theorem own_setOther {w : World} {B B' s n b : Nat} {e : TypeId} {v : Value} {xs : List Value} (h : w.ownsRow B e s v n xs) (h' : w.ownsRow B' e s v n xs) (hb : b < B') (o : Nat) (u : Value) : (w.setCell ⟨b, o, none⟩ u).ownsRow B e s v n xs := by
  refine World.ownsRow.kept (row := some b) h ⟨rfl, rfl, rfl, by simp, fun k _ hk => Below.heap_setCell _ _ _ k (fun e => hk (by rw [e]))⟩ ?_
  cases hv : v.ownBlock with
  | none => exact .inl rfl
  | some g => exact .inr (fun he => by have := (h'.lt g hv).1; injection he; omega)
theorem take40d (es : List (En × List UInt8)) (k : Nat) (hk : ¬ k < 40) : (es.take (k + 1)).take 40 = (es.take k).take 40 := by
  rw [List.take_take, List.take_take, Nat.min_eq_left (by omega), Nat.min_eq_left (by omega)]
set_option maxHeartbeats 6400000 in
set_option maxRecDepth 100000 in
theorem cut36 (A : Option Addr) (len c : Nat) (xs : List Et) (hl : xs.length = len) (hc : len ≤ c) (hcm : c ≤ maxLen) (hok : ∀ x ∈ xs, x.In) (w : World) (hA : EnsAt w A xs) :
    Calls Tryd.prog 23 #[.slice A len c] w (CutPost (xs.map Et.dat) w) := by
  unfold maxLen at hcm
  obtain ⟨i0, hi, hz0, hz1, hz2⟩ := info_parts u8Info
  obtain ⟨i1, gi, gz0, gz1, gz2⟩ := info_parts entInfo
  obtain ⟨hz, hsz⟩ := zero_of_info (show (Tryd.prog.info? 31).map (fun i => (i.zero, i.size)) = some (some (.agg #[.int .i64 0, .int .i64 0, .int .i64 0, .int .u32 0, .slice none 0 0]), 5) by kernel_rfl)
  have HX := Lib.hid (And.intro hl (And.intro hok hA))
  clear hl hok hA
  go_enter Tryd.func23, Tryd.ntmps23
  go_wp2
  go_loopw [3, 8] (fun v i wr => ∃ (k : Nat) (ys : List Et), k ≤ len ∧ i = .int .i64 k ∧ wr.ownsRow w.heap.size 31 5 v ys.length (flatE ys) ∧ Below w.heap.size w wr ∧ (∀ y ∈ ys, (y.Ok ∧ y.n ≤ 60) ∧ y.Own wr w.heap.size) ∧ ys.map Et.dat = (((xs.map Et.dat).take k).take 40).map cutE) (fun _ i _ => len - (intOf i).toNat)
  case atStart => exact ⟨0, [], Nat.zero_le _, rfl, ⟨by simp [flatE], .inl ⟨rfl, rfl⟩⟩, Below.refl _ _, fun y hy => by simp at hy, by simp⟩
  case round =>
    obtain ⟨k, ys, hk, rfl, hown, hb, hys, hdat⟩ := hrel
    by_cases hlt : k < len
    · have hkx : k < xs.length := by rw [HX.out.1]; exact hlt
      obtain ⟨blk, off, rfl, hcells, hU⟩ := (HX.out.2.2.keep hb) k xs[k] (List.getElem?_eq_getElem hkx)
      have hxok := HX.out.2.1 xs[k] (List.getElem_mem hkx)
      obtain ⟨x, hx⟩ : ∃ x, xs[k] = x := ⟨_, rfl⟩
      rw [hx] at hcells hU hxok
      have HXK : Hid (∃ h : k < xs.length, xs[k] = x) := ⟨hkx, hx⟩
      clear hx hkx
      obtain ⟨⟨at_, ft, ff, fs⟩, xA, xn, xc, xb⟩ := x
      have p0 := hcells 0 _ rfl
      have p1 := hcells 1 _ rfl
      have p2 := hcells 2 _ rfl
      have p3 := hcells 3 _ rfl
      have p4 := hcells 4 _ rfl
      simp only [Nat.add_zero] at p0 p1 p2 p3 p4
      by_cases h40 : k < 40
      · have hlys : ys.length = k := by
          have := congrArg List.length hdat
          simp only [List.length_map, List.length_take] at this
          rw [HX.out.1] at this
          omega
        obtain ⟨m, hm⟩ : ∃ m, (xb.take 60).length = m := ⟨_, rfl⟩
        have hm60 : m ≤ 60 ∧ m ≤ xn ∧ min (xn : Int) 60 = (m : Int) := by
          have h1 := hxok.ok.len
          simp only at h1
          rw [← hm, List.length_take, h1]
          omega
        have hxc := hxok.ok.cap
        have hxm := hxok.max
        have hxnil := hxok.nil
        simp only at hxc hxm hxnil
        unfold maxLen at hxm
        have hmin := hm60.2.2
        have hsl := fun W => u8_upto xA xn xc m (by omega) W
        obtain ⟨W1, hW1⟩ : ∃ W1, wr.alloc (.cells #[.int .i64 at_, .int .i64 ft, .int .i64 ff, .int .u32 (fs : Int), .slice xA xn xc] 31) = W1 := ⟨_, rfl⟩
        have hb1 : Below wr.heap.size wr W1 := by rw [← hW1]; exact (Below.refl _ _).alloc (Nat.le_refl _) _
        have hs1 : W1.heap.size = wr.heap.size + 1 := by rw [← hW1]; simp
        have hE1 : ∀ (j : Nat) (v : Value), (#[Value.int .i64 at_, .int .i64 ft, .int .i64 ff, .int .u32 (fs : Int), .slice xA xn xc])[j]? = some v → W1.cell? ⟨wr.heap.size, j, none⟩ = some v ∧ W1.frozen? ⟨wr.heap.size, j, none⟩ = false := by
          intro j v hv
          rw [← hW1]
          exact ⟨by rw [World.cell?_alloc_at _ _ _ _ (by simp)]; exact hv, by simp⟩
        have h00 := World.ownsRow_made (base := W1.heap.size) (e := 5) (size := 1) W1 #[] 0 (Nat.le_refl _) (by simp [maxLen]) rfl
        have hbz : Below W1.heap.size W1 (W1.alloc (.cells #[] 5)) := (Below.refl _ _).alloc (Nat.le_refl _) _
        have hU1 := ((hU.take 60).keep hb1).keep hbz
        have HH := Lib.hid (And.intro hown (And.intro hb (And.intro hys (And.intro hdat (And.intro hb1 (And.intro hs1 (And.intro hxok (And.intro hm hE1))))))))
        have q4 := (hE1 4 _ rfl).1
        have hlt1 : wr.heap.size < W1.heap.size := by omega
        clear hown hb hys hdat hb1 hxok hU hcells hm hE1 hs1
        go_wp2_with (at_builtin; refine wpList_append_copy _ rfl _ _ 29 rfl W1.heap.size 5 i0 _ 1 1 Tryd.underlying29 hi hz0 hz1 hz2 rfl (by decide) _ _ _ rfl h00 xA m xc (u8V (xb.take 60)) rfl ?c0 ?c1 ?c2 ?c3 ?c4 ?c5 ?c6 ?_)
        case c0 => intro hx; have := hxnil hx; omega
        case c1 => unfold u8V; rw [List.length_map, HH.out.2.2.2.2.2.2.2.1]
        case c2 => exact hU1.flat
        case c3 => exact u8_one
        case c4 => unfold maxLen; omega
        case c5 => omega
        intro v' w2 row hown2 hgrow2 hrow2
        have hb2 : Below W1.heap.size W1 w2 := hbz.grown hgrow2 (by simp) hrow2
        have hown2 : w2.ownsRow W1.heap.size 5 1 v' m (u8V (xb.take 60)) := by simpa using hown2
        have hnil2 : ∀ A1 c1, v' = .slice A1 m c1 → A1 = none → c1 = 0 := by
          rintro A1 c1 rfl rfl
          rcases hown2.2 with ⟨hv, hm0⟩ | ⟨g, cap, cur, hv, _⟩
          · simp only [Value.slice.injEq, true_and] at hv; exact hv.2
          · cases hv
        obtain ⟨A1, c1, rfl, hc1⟩ := (OwnOr.form (.inl hown2) : ∃ A c, v' = .slice A m c ∧ m ≤ c)
        have hr := fun j v hv => (hb2.cell (p := ⟨wr.heap.size, j, none⟩) hlt1).trans (HH.out.2.2.2.2.2.2.2.2 j v hv).1
        have r0 := hr 0 _ rfl
        have r1 := hr 1 _ rfl
        have r2 := hr 2 _ rfl
        have r3 := hr 3 _ rfl
        have r4 := hr 4 _ rfl
        have gr4 := (hb2.frozen (p := ⟨wr.heap.size, 4, none⟩) hlt1).trans (HH.out.2.2.2.2.2.2.2.2 4 _ rfl).2
        have hb3 : Below wr.heap.size wr (w2.setCell ⟨wr.heap.size, 4, none⟩ (.slice A1 m c1)) := (HH.out.2.2.2.2.1.trans (hb2.mono HH.out.2.2.2.2.1.size)).setCell (p := ⟨wr.heap.size, 4, none⟩) (Nat.le_refl _) _
        have hown3 : (w2.setCell ⟨wr.heap.size, 4, none⟩ (.slice A1 m c1)).ownsRow w.heap.size 5 1 (.slice A1 m c1) m (u8V (xb.take 60)) := own_setOther (ownsRow_base hown2 (by have := HH.out.2.1.size; omega)) hown2 (by omega) _ _
        have hownO := (ownsRow_kept HH.out.1 hb3).alloc (.cells #[.int .i64 at_, .int .i64 ft, .int .i64 ff, .int .u32 (fs : Int), .slice A1 m c1] 31)
        have H3 := Lib.hid (And.intro hb3 (And.intro hown3 (hnil2 A1 c1 rfl)))
        have hsz3 : W1.heap.size ≤ w2.heap.size := hb2.size
        clear hown2 hgrow2 hrow2 hb2 hnil2 hr hb3 hown3 h00 hbz hU1 hsl q4 p0 p1 p2 p3 p4
        go_wp2_with (at_builtin; refine wpList_append_own _ rfl _ _ 55 rfl w.heap.size 31 i1 _ 5 56 Tryd.underlying55 gi gz0 gz1 gz2 rfl (by decide) _ _ _ rfl hownO ⟨w2.heap.size, 0, none⟩ 1 1 [.int .i64 at_, .int .i64 ft, .int .i64 ff, .int .u32 (fs : Int), .slice A1 m c1] rfl rfl ?d1 ?d2 ?d3 ?d4 ?d5 ?_)
        case d1 =>
          intro j u hu
          rw [Lib.add_plain, Nat.zero_add]
          rw [World.cell?_alloc_at _ _ _ _ (by simp)]
          simpa using hu
        case d2 => intro u hu; simp at hu; rcases hu with rfl | rfl | rfl | rfl | rfl <;> rfl
        case d3 => unfold maxLen; omega
        case d4 => omega
        case d5 => have h1 := HH.out.2.1.size; simp; omega
        intro v' w4 hown4 hgrow4 _
        have hbA : Below w.heap.size w ((w2.setCell ⟨wr.heap.size, 4, none⟩ (.slice A1 m c1)).alloc (.cells #[.int .i64 at_, .int .i64 ft, .int .i64 ff, .int .u32 (fs : Int), .slice A1 m c1] 31)) :=
          (HH.out.2.1.trans (H3.out.1.mono HH.out.2.1.size)).alloc (by have h1 := HH.out.2.1.size; simp; omega) _
        have hb4 : Below w.heap.size w w4 := hbA.grown hgrow4 hbA.size (fun j hj => (hownO.lt j hj).1)
        have hold : ∀ y ∈ ys, (y.Ok ∧ y.n ≤ 60) ∧ y.Own w4 w.heap.size := fun y hy =>
          ⟨(HH.out.2.2.1 y hy).1, Et.Own.grown (((HH.out.2.2.1 y hy).2.kept H3.out.1).alloc _) hownO hgrow4⟩
        have hnew : Et.Own w4 w.heap.size ⟨⟨at_, ft, ff, fs⟩, A1, m, c1, xb.take 60⟩ := Et.Own.grown (H3.out.2.1.alloc _) hownO hgrow4
        have HF := Lib.hid (And.intro hown4 (And.intro hb4 (And.intro hold hnew)))
        clear hown4 hgrow4 hbA hb4 hold hnew hownO r0 r1 r2 r3 r4 gr4
        go_wp2
        go_roundw
        case rel =>
          refine ⟨k + 1, ys ++ [⟨⟨at_, ft, ff, fs⟩, A1, m, c1, xb.take 60⟩], by omega, by go_num, ?_, HF.out.2.1, ?_, ?_⟩
          · rw [List.length_append, flatE_snoc, hlys]
            exact HF.out.1
          · intro y hy
            rcases List.mem_append.1 hy with h | h
            · exact HF.out.2.2.1 y h
            · obtain rfl := List.mem_singleton.1 h
              exact ⟨⟨⟨HH.out.2.2.2.2.2.2.1.ok.fits, HH.out.2.2.2.2.2.2.1.ok.at0, HH.out.2.2.2.2.2.2.1.ok.at1, HH.out.2.2.2.2.2.2.2.1, hc1⟩, hm60.1⟩, HF.out.2.2.2⟩
          · obtain ⟨hkx, hx⟩ := HXK.out
            have hkm : k < (xs.map Et.dat).length := by rw [List.length_map]; exact hkx
            rw [List.map_append, HH.out.2.2.2.1, List.take_take, List.take_take, Nat.min_eq_right (by omega), Nat.min_eq_right (by omega), List.take_succ_eq_append_getElem hkm, List.map_append, List.getElem_map, hx]
            rfl
        case measure => simp [intOf]; omega
      · have HH := Lib.hid (And.intro hown (And.intro hb (And.intro hys hdat)))
        have hb1 : Below w.heap.size w (wr.alloc (.cells #[.int .i64 at_, .int .i64 ft, .int .i64 ff, .int .u32 (fs : Int), .slice xA xn xc] 31)) := hb.alloc hb.size _
        have HB := Lib.hid (And.intro hb1 ((Below.refl wr.heap.size wr).alloc (Nat.le_refl _) (.cells #[.int .i64 at_, .int .i64 ft, .int .i64 ff, .int .u32 (fs : Int), .slice xA xn xc] 31)))
        clear hown hb hys hdat hb1 hU hcells hxok
        go_wp2
        go_roundw
        case rel => exact ⟨k + 1, ys, by omega, by go_num, HH.out.1.alloc _, HB.out.1, fun y hy => ⟨(HH.out.2.2.1 y hy).1, (HH.out.2.2.1 y hy).2.kept HB.out.2⟩, by rw [take40d _ k h40]; exact HH.out.2.2.2⟩
        case measure => simp [intOf]; omega
    · obtain rfl : k = len := by omega
      have HF := Lib.hid (And.intro hown (And.intro hb (And.intro hys hdat)))
      clear hown hb hys hdat
      go_wp2
      go_ret
      exact ⟨_, ys, rfl, HF.out.1, HF.out.2.1, HF.out.2.2.1, by have := HF.out.2.2.2; rw [show (xs.map Et.dat).take k = xs.map Et.dat from List.take_of_length_le (by rw [List.length_map, HX.out.1]; exact Nat.le_refl _)] at this; exact this⟩
end Go.Proofs.YtncmbbkcpmimjaaDoor
