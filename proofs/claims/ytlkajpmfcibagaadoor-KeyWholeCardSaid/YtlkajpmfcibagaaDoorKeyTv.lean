/- KeyTwice: the walk. -/
import Derived.Test.YtlkajpmfcibagaaDoorKeyTw
import Derived.Test.YtlkajpmfcibagaaDoorOwnOr
import Derived.Deep.Cut
import Derived.Lib.SmallJoins
namespace Go.Proofs.YtlkajpmfcibagaaDoor
open Go.RowKit Law
set_option linter.unusedVariables false

theorem keyInfo : (Tryd.prog.info? 24).map (fun i => (i.zero, i.size, i.bytes)) = some (some (.agg #[.int .i64 0, .int .i64 0, .int .u32 0]), 3, 24) := by kernel_rfl
def flatK (ks : List K) : List Value := ks.flatMap fun k => k.cells.toList
theorem flatK_len : ∀ ks : List K, (flatK ks).length = ks.length * 3
  | [] => rfl
  | k :: ks => by
    show (k.cells.toList ++ flatK ks).length = _
    rw [List.length_append, flatK_len ks, List.length_cons]
    show 3 + _ = _
    omega
theorem flatK_at : ∀ (ks : List K) (k j : Nat) (e : K) (v : Value), ks[k]? = some e → e.cells[j]? = some v → (flatK ks)[k * 3 + j]? = some v
  | [], k, j, e, v, h, _ => by simp at h
  | x :: ks, 0, j, e, v, h, hj => by
    have : x = e := by simpa using h
    subst this
    have hlt : j < x.cells.toList.length := by
      have := (Array.getElem?_eq_some_iff.1 hj).1
      simpa using this
    show (x.cells.toList ++ flatK ks)[0 * 3 + j]? = some v
    rw [Nat.zero_mul, Nat.zero_add, List.getElem?_append_left hlt]
    simpa using hj
  | x :: ks, k + 1, j, e, v, h, hj => by
    have ih := flatK_at ks k j e v (by simpa using h) hj
    show (x.cells.toList ++ flatK ks)[(k + 1) * 3 + j]? = some v
    have hl : x.cells.toList.length = 3 := rfl
    rw [List.getElem?_append_right (by omega), hl, show (k + 1) * 3 + j - 3 = k * 3 + j by omega]
    exact ih
theorem flatK_one {ks : List K} {u : Value} (h : u ∈ flatK ks) : u.oneCell' = true := by
  obtain ⟨k, _, hu⟩ := List.mem_flatMap.1 h
  simp [K.cells] at hu
  rcases hu with rfl | rfl | rfl <;> rfl
theorem ownKeys {w : World} {base : Nat} {A : Option Addr} {n c : Nat} {ks : List K} (h : w.ownsRow base 24 3 (.slice A n c) n (flatK ks)) (hn : ks.length = n) : KeyAt w A ks := by
  intro k e he
  have hk : k < ks.length := (List.getElem?_eq_some_iff.1 he).1
  obtain ⟨g, cap, hv⟩ := Joins.ownsRow_form h (by omega)
  obtain rfl : A = some ⟨g, 0, none⟩ := by injection hv
  refine ⟨g, 0, rfl, (h.lt g rfl).2, fun j v hj => ?_⟩
  have := h.cells (g := g) rfl (k * 3 + j) v (flatK_at ks k j e v he hj)
  rwa [Lib.add_plain, ← Nat.add_assoc] at this
/-- A slice's cells, as append reads them. -/
theorem KeyAt.flat {w : World} {A : Option Addr} {ks : List K} (h : KeyAt w A ks) (ad : Addr) (hA : A = some ad) (j : Nat) (u : Value) (hu : (flatK ks)[j]? = some u) : w.cell? (ad.add j) = some u := by
  have hj : j < (flatK ks).length := (List.getElem?_eq_some_iff.1 hu).1
  rw [flatK_len] at hj
  have hk : j / 3 < ks.length := by omega
  obtain ⟨b, off, hA2, hlt, hc⟩ := h (j / 3) ks[j / 3] (List.getElem?_eq_getElem hk)
  rw [hA] at hA2
  injection hA2 with hA2
  subst hA2
  rw [Lib.add_plain]
  have hm : j % 3 < ks[j / 3].cells.size := by show j % 3 < 3; omega
  have h1 := flatK_at ks (j / 3) (j % 3) ks[j / 3] ks[j / 3].cells[j % 3] (List.getElem?_eq_getElem hk) (Array.getElem?_eq_getElem hm)
  rw [show j / 3 * 3 + j % 3 = j by omega] at h1
  rw [h1] at hu
  have h2 := hc (j % 3) _ (Array.getElem?_eq_getElem hm)
  rw [show off + j / 3 * 3 + j % 3 = off + j by omega] at h2
  rw [h2, ← hu]
theorem refInB {n : Nat} (A : Option Addr) (c : Nat) (ks : List K) (hn : ks.length = n) (x : K) (hm : n ≤ 1000000) {r : Bool} (hr : inK ks x = r) (w : World) (hA : KeyAt w A ks) :
    Calls Tryd.prog 19 #[.slice A n c, .agg #[.int .i64 x.t, .int .i64 x.f, .int .u32 x.s]] w fun e w' => e = .returned (.bool r) ∧ Below w.heap.size w w' := by
  subst hr; exact refIn A c ks hn x hm w hA
def firstK (o : Option K) : K := o.getD k0
/-- A key in a block of its own, which may be written. -/
def KBox (w : World) (b : Nat) (x : K) : Prop :=
  (w.cell? ⟨b, 0, none⟩ = some (.int .i64 x.t) ∧ w.cell? ⟨b, 1, none⟩ = some (.int .i64 x.f) ∧ w.cell? ⟨b, 2, none⟩ = some (.int .u32 x.s)) ∧
  w.frozen? ⟨b, 0, none⟩ = false ∧ w.frozen? ⟨b, 1, none⟩ = false ∧ w.frozen? ⟨b, 2, none⟩ = false
theorem KBox.lt {w : World} {b : Nat} {x : K} (h : KBox w b x) : b < w.heap.size := World.block_lt_of_cell? _ _ h.1.1
theorem KBox.below {w w' : World} {b : Nat} {x : K} (h : KBox w b x) (hb : Below w.heap.size w w') : KBox w' b x := by
  have hl := h.lt
  obtain ⟨⟨h0, h1, h2⟩, g0, g1, g2⟩ := h
  exact ⟨⟨(hb.cell (p := ⟨b, 0, none⟩) hl).trans h0, (hb.cell (p := ⟨b, 1, none⟩) hl).trans h1, (hb.cell (p := ⟨b, 2, none⟩) hl).trans h2⟩, (hb.frozen (p := ⟨b, 0, none⟩) hl).trans g0, (hb.frozen (p := ⟨b, 1, none⟩) hl).trans g1, (hb.frozen (p := ⟨b, 2, none⟩) hl).trans g2⟩
theorem KBox.new (w : World) (x : K) (t : TypeId) : KBox (w.alloc (.cells x.cells t)) w.heap.size x :=
  ⟨⟨by simp [K.cells], by simp [K.cells], by simp [K.cells]⟩, by simp, by simp, by simp⟩
theorem KBox.set {w : World} {b : Nat} {x : K} (h : KBox w b x) (y : K) : KBox (((w.setCell ⟨b, 0, none⟩ (.int .i64 y.t)).setCell ⟨b, 1, none⟩ (.int .i64 y.f)).setCell ⟨b, 2, none⟩ (.int .u32 y.s)) b y := by
  obtain ⟨⟨h0, h1, h2⟩, g0, g1, g2⟩ := h
  refine ⟨⟨?_, ?_, ?_⟩, ?_, ?_, ?_⟩
  · rw [World.cell?_setCell_other _ _ _ _ (by simp), World.cell?_setCell_other _ _ _ _ (by simp)]
    exact World.cell?_setCell_same' _ _ _ (by rw [h0]; rfl)
  · rw [World.cell?_setCell_other _ _ _ _ (by simp)]
    exact World.cell?_setCell_same' _ _ _ (by rw [World.cell?_setCell_other _ _ _ _ (by simp), h1]; rfl)
  · exact World.cell?_setCell_same' _ _ _ (by rw [World.cell?_setCell_other _ _ _ _ (by simp), World.cell?_setCell_other _ _ _ _ (by simp), h2]; rfl)
  · rw [World.frozen?_setCell, World.frozen?_setCell, World.frozen?_setCell]; exact g0
  · rw [World.frozen?_setCell, World.frozen?_setCell, World.frozen?_setCell]; exact g1
  · rw [World.frozen?_setCell, World.frozen?_setCell, World.frozen?_setCell]; exact g2
theorem KBox.other {w : World} {b : Nat} {x : K} (h : KBox w b x) {a : Addr} (hne : b ≠ a.block) (v : Value) : KBox (w.setCell a v) b x := by
  obtain ⟨⟨h0, h1, h2⟩, g0, g1, g2⟩ := h
  have hn : ∀ j, a ≠ ⟨b, j, none⟩ := fun j e => hne (by rw [e])
  exact ⟨⟨(World.cell?_setCell_other _ _ _ _ (hn 0)).trans h0, (World.cell?_setCell_other _ _ _ _ (hn 1)).trans h1, (World.cell?_setCell_other _ _ _ _ (hn 2)).trans h2⟩, (by rw [World.frozen?_setCell]; exact g0), (by rw [World.frozen?_setCell]; exact g1), (by rw [World.frozen?_setCell]; exact g2)⟩
set_option maxHeartbeats 6400000 in
set_option maxRecDepth 100000 in
theorem walkTwice (len n : Nat) (A : Option Addr) (c : Nat) (ks : List K) (hn : ks.length = n) (hmin : min (len : Int) 40 = (n : Int)) (hc : len ≤ c) (hm : c ≤ maxLen) (hnil : A = none → c = 0) (hfit : ∀ k ∈ ks, k.Fits) (w : World) (hA : KeyAt w A ks) (h : P10 w) :
    Calls Tryd.prog 6 #[.slice A len c] w fun e w' => e = .returned (.bool true) ∧ Below w.heap.size w w' := by
  unfold maxLen at hm
  have hn40 : n ≤ 40 := by omega
  have hmax : max (n : Int) 0 = (n : Int) := by omega
  have HN := Lib.hid hn
  have HP := Lib.hid h
  obtain ⟨i0, hi, hz0, hz1, hz2⟩ := info_parts keyInfo
  have h00 := World.ownsRow_made (base := w.heap.size) (e := 24) (size := 3) w #[] 0 (Nat.le_refl _) (by simp [maxLen]) rfl
  have hb0 : Below w.heap.size w (w.alloc (.cells #[] 24)) := (Below.refl _ _).alloc (Nat.le_refl _) _
  have hA0 := hA.below hb0
  clear h hn
  go_enter Tryd.func6, Tryd.ntmps6
  go_wp2_with (at_builtin; refine wpList_append_copy _ rfl _ _ 35 rfl w.heap.size 24 i0 _ 3 24 Tryd.underlying35 hi hz0 hz1 hz2 rfl (by decide) _ _ _ rfl h00 A n c (flatK ks) rfl ?c0 ?c1 ?c2 ?c3 ?c4 ?c5 ?c6 ?_)
  case c0 => intro hx; have := hnil hx; omega
  case c1 => rw [flatK_len, HN.out]
  case c2 => exact hA0.flat
  case c3 => exact fun u hu => flatK_one hu
  case c4 => unfold maxLen; omega
  case c5 => omega
  case c6 => simp
  intro v' w1 row hown hgrow hrow
  have hb1 : Below w.heap.size w w1 := hb0.grown hgrow (by simp) hrow
  obtain ⟨A1, c1, rfl, hc1⟩ := (OwnOr.form (.inl hown) : ∃ A c, v' = .slice A n c ∧ n ≤ c)
  have hA1 := ownKeys hown HN.out
  clear hown hgrow hrow hA0 hA h00 hb0 hnil
  have HB1 := Lib.hid hb1
  clear hb1
  go_wp2
  go_loopw [4, 5, 19] (fun is rise i wr => ∃ k : Nat, k ≤ n ∧ i = .int .i64 k ∧ is = .bool (scanTo ks k).isSome ∧ rise = .bool (upTo ks k) ∧
    KBox wr w1.heap.size (firstK (scanTo ks k)) ∧ Below w1.heap.size w1 wr) (fun _ _ i _ => n - (intOf i).toNat)
  case atStart =>
    exact ⟨0, Nat.zero_le _, rfl, rfl, rfl, KBox.new w1 k0 _, (Below.refl _ _).alloc (Nat.le_refl _) _⟩
  case round =>
    obtain ⟨k, hk, rfl, rfl, rfl, hbf, hb⟩ := hrel
    by_cases hlt : k < n
    · have hlt' : k < ks.length := by rw [HN.out]; exact hlt
      obtain ⟨b, off, hA1e, c0, c1', c2⟩ := hA1.at_ hb hlt'
      subst hA1e
      have hBlt : w1.heap.size < wr.heap.size := hbf.lt
      have hbs := hb.size
      have hbx := hb.alloc hb.size (.cells #[.int .i64 ks[k].t, .int .i64 ks[k].f, .int .u32 ks[k].s] 24)
      have hbfx : KBox (wr.alloc (.cells #[.int .i64 ks[k].t, .int .i64 ks[k].f, .int .u32 ks[k].s] 24)) w1.heap.size (firstK (scanTo ks k)) := hbf.below ((Below.refl _ _).alloc (Nat.le_refl _) _)
      have hkx : KBox (wr.alloc (.cells #[.int .i64 ks[k].t, .int .i64 ks[k].f, .int .u32 ks[k].s] 24)) wr.heap.size ks[k] := KBox.new wr ks[k] _
      have hkX := fun W : Later (wr.alloc (.cells #[.int .i64 ks[k].t, .int .i64 ks[k].f, .int .u32 ks[k].s] 24)) => (hkx.below W.h).1
      have HX := Lib.hid (And.intro hbx (And.intro hbfx hkx))
      obtain ⟨u, hu⟩ : ∃ u, upTo ks k = u := ⟨_, rfl⟩
      obtain ⟨o, ho⟩ : ∃ o, scanTo ks k = o := ⟨_, rfl⟩
      rw [ho, hu]
      have HU := Lib.hid hu
      have HO := Lib.hid ho
      clear hb hbf hbx hbfx hkx ho hu

      cases o with
      | some x =>
        have HSC := Lib.hid (scanTo_some HO.out)
        go_wp2_with fail
        refine wp_region_later (by kernel_rfl) (by kernel_rfl) ?_
        repeat (go_big_quiet_step (fail))
        refine wpQuiet_nil ?_
        rintro W2 ⟨⟨W2x, hW⟩, rfl⟩
        have HY : Hid (Below w1.heap.size w1 W2 ∧ KBox W2 w1.heap.size (firstK (scanTo ks (k + 1))) ∧ KBox W2 wr.heap.size ks[k]) := by
          unfold Hid
          rw [HSC.out]
          have h2 := HX.out.2.1.below hW
          rw [HO.out] at h2
          exact ⟨HX.out.1.trans (hW.mono HX.out.1.size), h2, HX.out.2.2.below hW⟩
        clear hkX
        have hkY := fun W : Later W2 => (HY.out.2.2.below W.h).1
        by_cases hu : u = true
        · subst hu
          by_cases hk0 : k = 0
          · subst hk0
            have HUP : Hid (upTo ks (0 + 1) = true) := rfl
            go_wp2_with fail
            refine wp_region_later (by kernel_rfl) (by kernel_rfl) ?_
            repeat (go_big_quiet_step (fail))
            refine wpQuiet_nil ?_
            rintro W4 ⟨⟨W4x, hW4⟩, rfl⟩
            clear hkY
            go_wp2
            go_roundw
            case rel => exact ⟨1, by omega, rfl, by rw [HSC.out] <;> rfl, by rw [HUP.out], HY.out.2.1.below hW4, HY.out.1.trans (hW4.mono HY.out.1.size)⟩
            case measure => simp [intOf]; omega
          · have hkd : ((k : Int) == 0) = false := by simp; omega
            have hlp : k - 1 < ks.length := by omega
            have hk1' : ((k : Int) - 1).toNat = k - 1 := by omega
            have hkp : 1 ≤ k := by omega
            have hp : ∀ W : Later W2, W.val.cell? ⟨b, off + (k - 1) * 3, none⟩ = some (.int .i64 ks[k - 1].t) ∧ W.val.cell? ⟨b, off + (k - 1) * 3 + 1, none⟩ = some (.int .i64 ks[k - 1].f) ∧ W.val.cell? ⟨b, off + (k - 1) * 3 + 2, none⟩ = some (.int .u32 ks[k - 1].s) := fun W => by
              obtain ⟨b', o', hA', h⟩ := hA1.at_ (HY.out.1.trans (W.h.mono HY.out.1.size)) hlp
              injection hA' with hA'
              injection hA' with h1 h2 _
              subst h1 h2
              exact h
            have HS := Lib.hid (upTo_step hlt' (by omega))
            have HK0 := Lib.hid hk0
            clear hk0
            cases hq : lessK ks[k - 1] ks[k]
            · have C := Lib.hid (fun W : Later W2 => refLessB (a := ks[k - 1]) (b := ks[k]) hq W.val)
              have HUP : Hid (upTo ks (k + 1) = false) := by unfold Hid; rw [HS.out, HU.out, hq]; rfl
              clear hq
              go_wp2_with fail
              refine wp_region_later (by kernel_rfl) (by kernel_rfl) ?_
              repeat (go_big_quiet_step (exact later_of (C.out _)))
              refine wpQuiet_nil ?_
              rintro W4 ⟨⟨W4x, hW4⟩, rfl⟩
              clear hkY hp
              go_wp2
              go_roundw
              case rel => exact ⟨k + 1, by omega, by go_num, by rw [HSC.out] <;> rfl, by rw [HUP.out], HY.out.2.1.below hW4, HY.out.1.trans (hW4.mono HY.out.1.size)⟩
              case measure => simp [intOf]; omega
            · have C := Lib.hid (fun W : Later W2 => refLessB (a := ks[k - 1]) (b := ks[k]) hq W.val)
              have HUP : Hid (upTo ks (k + 1) = true) := by unfold Hid; rw [HS.out, HU.out, hq]; rfl
              clear hq
              go_wp2_with fail
              refine wp_region_later (by kernel_rfl) (by kernel_rfl) ?_
              repeat (go_big_quiet_step (exact later_of (C.out _)))
              refine wpQuiet_nil ?_
              rintro W4 ⟨⟨W4x, hW4⟩, rfl⟩
              clear hkY hp
              go_wp2
              go_roundw
              case rel => exact ⟨k + 1, by omega, by go_num, by rw [HSC.out] <;> rfl, by rw [HUP.out], HY.out.2.1.below hW4, HY.out.1.trans (hW4.mono HY.out.1.size)⟩
              case measure => simp [intOf]; omega
        · obtain rfl : u = false := by simpa using hu
          have HUP := Lib.hid (upTo_mono ks (Nat.le_succ k) HU.out)
          clear hu
          go_wp2_with fail
          refine wp_region_later (by kernel_rfl) (by kernel_rfl) ?_
          repeat (go_big_quiet_step (fail))
          refine wpQuiet_nil ?_
          rintro W4 ⟨⟨W4x, hW4⟩, rfl⟩
          clear hkY
          go_wp2
          go_roundw
          case rel => exact ⟨k + 1, by omega, by go_num, by rw [HSC.out] <;> rfl, by rw [HUP.out], HY.out.2.1.below hW4, HY.out.1.trans (hW4.mono HY.out.1.size)⟩
          case measure => simp [intOf]; omega
      | none =>
        have htk : (ks.take k).length = k := by rw [List.length_take, HN.out]; omega
        have HTK := Lib.hid htk
        clear htk
        have hAt : ∀ W : Later (wr.alloc (.cells #[.int .i64 ks[k].t, .int .i64 ks[k].f, .int .u32 ks[k].s] 24)), KeyAt W.val (some ⟨b, off, none⟩) (ks.take k) := fun W => (hA1.below (HX.out.1.trans (W.h.mono HX.out.1.size))).take k
        cases hq : inK (ks.take k) ks[k]
        · have C := Lib.hid (fun W : Later (wr.alloc (.cells #[.int .i64 ks[k].t, .int .i64 ks[k].f, .int .u32 ks[k].s] 24)) => refInB (some ⟨b, off, none⟩) c1 (ks.take k) HTK.out ks[k] (by omega) hq W.val (hAt W))
          have HSC := Lib.hid (show scanTo ks (k + 1) = none by rw [scanTo_step hlt' HO.out, hq]; rfl)
          clear hq hAt
          go_wp2_with fail
          refine wp_region_later (by kernel_rfl) (by kernel_rfl) ?_
          repeat (go_big_quiet_step (exact later_of (C.out _)))
          refine wpQuiet_nil ?_
          rintro W2 ⟨⟨W2x, hW⟩, rfl⟩
          have HY : Hid (Below w1.heap.size w1 W2 ∧ KBox W2 w1.heap.size (firstK (scanTo ks (k + 1))) ∧ KBox W2 wr.heap.size ks[k]) := by
            unfold Hid
            rw [HSC.out]
            have h2 := HX.out.2.1.below hW
            rw [HO.out] at h2
            exact ⟨HX.out.1.trans (hW.mono HX.out.1.size), h2, HX.out.2.2.below hW⟩
          clear hkX
          have hkY := fun W : Later W2 => (HY.out.2.2.below W.h).1
          by_cases hu : u = true
          · subst hu
            by_cases hk0 : k = 0
            · subst hk0
              have HUP : Hid (upTo ks (0 + 1) = true) := rfl
              go_wp2_with fail
              refine wp_region_later (by kernel_rfl) (by kernel_rfl) ?_
              repeat (go_big_quiet_step (fail))
              refine wpQuiet_nil ?_
              rintro W4 ⟨⟨W4x, hW4⟩, rfl⟩
              clear hkY
              go_wp2
              go_roundw
              case rel => exact ⟨1, by omega, rfl, by rw [HSC.out] <;> rfl, by rw [HUP.out], HY.out.2.1.below hW4, HY.out.1.trans (hW4.mono HY.out.1.size)⟩
              case measure => simp [intOf]; omega
            · have hkd : ((k : Int) == 0) = false := by simp; omega
              have hlp : k - 1 < ks.length := by omega
              have hk1' : ((k : Int) - 1).toNat = k - 1 := by omega
              have hkp : 1 ≤ k := by omega
              have hp : ∀ W : Later W2, W.val.cell? ⟨b, off + (k - 1) * 3, none⟩ = some (.int .i64 ks[k - 1].t) ∧ W.val.cell? ⟨b, off + (k - 1) * 3 + 1, none⟩ = some (.int .i64 ks[k - 1].f) ∧ W.val.cell? ⟨b, off + (k - 1) * 3 + 2, none⟩ = some (.int .u32 ks[k - 1].s) := fun W => by
                obtain ⟨b', o', hA', h⟩ := hA1.at_ (HY.out.1.trans (W.h.mono HY.out.1.size)) hlp
                injection hA' with hA'
                injection hA' with h1 h2 _
                subst h1 h2
                exact h
              have HS := Lib.hid (upTo_step hlt' (by omega))
              have HK0 := Lib.hid hk0
              clear hk0
              cases hq : lessK ks[k - 1] ks[k]
              · have C := Lib.hid (fun W : Later W2 => refLessB (a := ks[k - 1]) (b := ks[k]) hq W.val)
                have HUP : Hid (upTo ks (k + 1) = false) := by unfold Hid; rw [HS.out, HU.out, hq]; rfl
                clear hq
                go_wp2_with fail
                refine wp_region_later (by kernel_rfl) (by kernel_rfl) ?_
                repeat (go_big_quiet_step (exact later_of (C.out _)))
                refine wpQuiet_nil ?_
                rintro W4 ⟨⟨W4x, hW4⟩, rfl⟩
                clear hkY hp
                go_wp2
                go_roundw
                case rel => exact ⟨k + 1, by omega, by go_num, by rw [HSC.out] <;> rfl, by rw [HUP.out], HY.out.2.1.below hW4, HY.out.1.trans (hW4.mono HY.out.1.size)⟩
                case measure => simp [intOf]; omega
              · have C := Lib.hid (fun W : Later W2 => refLessB (a := ks[k - 1]) (b := ks[k]) hq W.val)
                have HUP : Hid (upTo ks (k + 1) = true) := by unfold Hid; rw [HS.out, HU.out, hq]; rfl
                clear hq
                go_wp2_with fail
                refine wp_region_later (by kernel_rfl) (by kernel_rfl) ?_
                repeat (go_big_quiet_step (exact later_of (C.out _)))
                refine wpQuiet_nil ?_
                rintro W4 ⟨⟨W4x, hW4⟩, rfl⟩
                clear hkY hp
                go_wp2
                go_roundw
                case rel => exact ⟨k + 1, by omega, by go_num, by rw [HSC.out] <;> rfl, by rw [HUP.out], HY.out.2.1.below hW4, HY.out.1.trans (hW4.mono HY.out.1.size)⟩
                case measure => simp [intOf]; omega
          · obtain rfl : u = false := by simpa using hu
            have HUP := Lib.hid (upTo_mono ks (Nat.le_succ k) HU.out)
            clear hu
            go_wp2_with fail
            refine wp_region_later (by kernel_rfl) (by kernel_rfl) ?_
            repeat (go_big_quiet_step (fail))
            refine wpQuiet_nil ?_
            rintro W4 ⟨⟨W4x, hW4⟩, rfl⟩
            clear hkY
            go_wp2
            go_roundw
            case rel => exact ⟨k + 1, by omega, by go_num, by rw [HSC.out] <;> rfl, by rw [HUP.out], HY.out.2.1.below hW4, HY.out.1.trans (hW4.mono HY.out.1.size)⟩
            case measure => simp [intOf]; omega
        · have C := Lib.hid (fun W : Later (wr.alloc (.cells #[.int .i64 ks[k].t, .int .i64 ks[k].f, .int .u32 ks[k].s] 24)) => refInB (some ⟨b, off, none⟩) c1 (ks.take k) HTK.out ks[k] (by omega) hq W.val (hAt W))
          have HSC := Lib.hid (show scanTo ks (k + 1) = some ks[k] by rw [scanTo_step hlt' HO.out, hq]; rfl)
          clear hq hAt
          go_wp2_with fail
          refine wp_region_later (by kernel_rfl) (by kernel_rfl) ?_
          repeat (go_big_quiet_step (exact later_of (C.out _)))
          refine wpQuiet_nil ?_
          rintro W0 ⟨⟨W0x, hW⟩, rfl⟩
          have HY0 := Lib.hid (And.intro (HX.out.1.trans (hW.mono HX.out.1.size)) (And.intro (HX.out.2.1.below hW) (HX.out.2.2.below hW)))
          have hk0 := HY0.out.2.2.1
          have hf0 := HY0.out.2.1.1
          have hg0 := HY0.out.2.1.2
          clear hkX
          go_wp2_with fail
          generalize hW3 : ((W0.setCell ⟨w1.heap.size, 0, none⟩ _).setCell ⟨w1.heap.size, 1, none⟩ _).setCell ⟨w1.heap.size, 2, none⟩ _ = W2
          have HY : Hid (Below w1.heap.size w1 W2 ∧ KBox W2 w1.heap.size (firstK (scanTo ks (k + 1))) ∧ KBox W2 wr.heap.size ks[k]) := by
            unfold Hid
            rw [HSC.out, ← hW3]
            refine ⟨((HY0.out.1.setCell (p := ⟨w1.heap.size, 0, none⟩) (Nat.le_refl _) _).setCell (p := ⟨w1.heap.size, 1, none⟩) (Nat.le_refl _) _).setCell (p := ⟨w1.heap.size, 2, none⟩) (Nat.le_refl _) _, HY0.out.2.1.set ks[k], ?_⟩
            exact ((HY0.out.2.2.other (by simp; omega) _).other (by simp; omega) _).other (by simp; omega) _
          clear hk0 hf0 hg0 hW3
          have hkY := fun W : Later W2 => (HY.out.2.2.below W.h).1
          by_cases hu : u = true
          · subst hu
            by_cases hk0 : k = 0
            · subst hk0
              have HUP : Hid (upTo ks (0 + 1) = true) := rfl
              go_wp2_with fail
              refine wp_region_later (by kernel_rfl) (by kernel_rfl) ?_
              repeat (go_big_quiet_step (fail))
              refine wpQuiet_nil ?_
              rintro W4 ⟨⟨W4x, hW4⟩, rfl⟩
              clear hkY
              go_wp2
              go_roundw
              case rel => exact ⟨1, by omega, rfl, by rw [HSC.out] <;> rfl, by rw [HUP.out], HY.out.2.1.below hW4, HY.out.1.trans (hW4.mono HY.out.1.size)⟩
              case measure => simp [intOf]; omega
            · have hkd : ((k : Int) == 0) = false := by simp; omega
              have hlp : k - 1 < ks.length := by omega
              have hk1' : ((k : Int) - 1).toNat = k - 1 := by omega
              have hkp : 1 ≤ k := by omega
              have hp : ∀ W : Later W2, W.val.cell? ⟨b, off + (k - 1) * 3, none⟩ = some (.int .i64 ks[k - 1].t) ∧ W.val.cell? ⟨b, off + (k - 1) * 3 + 1, none⟩ = some (.int .i64 ks[k - 1].f) ∧ W.val.cell? ⟨b, off + (k - 1) * 3 + 2, none⟩ = some (.int .u32 ks[k - 1].s) := fun W => by
                obtain ⟨b', o', hA', h⟩ := hA1.at_ (HY.out.1.trans (W.h.mono HY.out.1.size)) hlp
                injection hA' with hA'
                injection hA' with h1 h2 _
                subst h1 h2
                exact h
              have HS := Lib.hid (upTo_step hlt' (by omega))
              have HK0 := Lib.hid hk0
              clear hk0
              cases hq : lessK ks[k - 1] ks[k]
              · have C := Lib.hid (fun W : Later W2 => refLessB (a := ks[k - 1]) (b := ks[k]) hq W.val)
                have HUP : Hid (upTo ks (k + 1) = false) := by unfold Hid; rw [HS.out, HU.out, hq]; rfl
                clear hq
                go_wp2_with fail
                refine wp_region_later (by kernel_rfl) (by kernel_rfl) ?_
                repeat (go_big_quiet_step (exact later_of (C.out _)))
                refine wpQuiet_nil ?_
                rintro W4 ⟨⟨W4x, hW4⟩, rfl⟩
                clear hkY hp
                go_wp2
                go_roundw
                case rel => exact ⟨k + 1, by omega, by go_num, by rw [HSC.out] <;> rfl, by rw [HUP.out], HY.out.2.1.below hW4, HY.out.1.trans (hW4.mono HY.out.1.size)⟩
                case measure => simp [intOf]; omega
              · have C := Lib.hid (fun W : Later W2 => refLessB (a := ks[k - 1]) (b := ks[k]) hq W.val)
                have HUP : Hid (upTo ks (k + 1) = true) := by unfold Hid; rw [HS.out, HU.out, hq]; rfl
                clear hq
                go_wp2_with fail
                refine wp_region_later (by kernel_rfl) (by kernel_rfl) ?_
                repeat (go_big_quiet_step (exact later_of (C.out _)))
                refine wpQuiet_nil ?_
                rintro W4 ⟨⟨W4x, hW4⟩, rfl⟩
                clear hkY hp
                go_wp2
                go_roundw
                case rel => exact ⟨k + 1, by omega, by go_num, by rw [HSC.out] <;> rfl, by rw [HUP.out], HY.out.2.1.below hW4, HY.out.1.trans (hW4.mono HY.out.1.size)⟩
                case measure => simp [intOf]; omega
          · obtain rfl : u = false := by simpa using hu
            have HUP := Lib.hid (upTo_mono ks (Nat.le_succ k) HU.out)
            clear hu
            go_wp2_with fail
            refine wp_region_later (by kernel_rfl) (by kernel_rfl) ?_
            repeat (go_big_quiet_step (fail))
            refine wpQuiet_nil ?_
            rintro W4 ⟨⟨W4x, hW4⟩, rfl⟩
            clear hkY
            go_wp2
            go_roundw
            case rel => exact ⟨k + 1, by omega, by go_num, by rw [HSC.out] <;> rfl, by rw [HUP.out], HY.out.2.1.below hW4, HY.out.1.trans (hW4.mono HY.out.1.size)⟩
            case measure => simp [intOf]; omega
    · obtain rfl : k = n := by omega
      obtain ⟨f, hf⟩ : ∃ f, firstK (scanTo ks k) = f := ⟨_, rfl⟩
      obtain ⟨o, ho⟩ : ∃ o, (scanTo ks k).isSome = o := ⟨_, rfl⟩
      obtain ⟨u, hu⟩ : ∃ u, upTo ks k = u := ⟨_, rfl⟩
      have hkr : keyR (scanTo ks k) = .tuple #[.agg #[.int .i64 f.t, .int .i64 f.f, .int .u32 f.s], .bool o] := by rw [← hf, ← ho]; rfl
      have C1 := Lib.hid (fun W hW => keyTwice A1 c1 ks HN.out hfit (by omega) W hW)
      have C2 := Lib.hid (fun W hW => keyRising A1 c1 ks HN.out (by omega) W hW)
      rw [hkr] at C1
      rw [hu] at C2
      rw [hf] at hbf
      rw [ho, hu]
      have hq : eqK f f = true := by simp [eqK]
      have he := run_eqK f f
      rw [hq] at he
      have hA2 := hA1.below hb
      have hbs := hb.size
      clear hf ho hu hkr hq
      go_wp2_with fail
      refine (C1.out _ hA2).mono ?_
      rintro e w2 ⟨rfl, hq2⟩
      have hbf2 := hbf.below hq2
      obtain ⟨⟨d0, d1, d2⟩, -⟩ := hbf2.below ((Below.refl _ _).alloc (Nat.le_refl _) (.cells #[.int .i64 f.t, .int .i64 f.f, .int .u32 f.s] 24))
      have hlt2 := hbf2.lt
      clear hbf2
      have hb2 := hb.trans (hq2.mono hbs)
      have hA3 := (hA2.below hq2).below ((Below.refl _ _).alloc (Nat.le_refl _) (.cells #[.int .i64 f.t, .int .i64 f.f, .int .u32 f.s] 24))
      have hb3 := hb2.alloc hb2.size (.cells #[.int .i64 f.t, .int .i64 f.f, .int .u32 f.s] 24)
      have HB3 := Lib.hid hb3
      clear hb3 hbf
      go_wp2_with fail
      refine (C2.out _ hA3).mono ?_
      rintro e w3 ⟨rfl, hq3⟩
      have hb4 := Lib.hid (HB3.out.trans (hq3.mono HB3.out.size))
      clear d0 d1 d2
      have hb5 := Lib.hid (HB1.out.trans (hb4.out.mono HB1.out.size))
      have hP3 := Lib.hid (HP.out.below hb5.out)
      go_wp2_with fail
      refine (works06 _ hP3.out).mono ?_
      rintro e w4 ⟨rfl, hq4⟩
      go_wp2
      go_ret
      exact ⟨rfl, hb5.out.trans (hq4.mono hb5.out.size)⟩
end Go.Proofs.YtlkajpmfcibagaaDoor
