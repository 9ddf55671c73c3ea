/- LedgerAdds: the walk. -/
import Derived.Test.YtncmbbkcpmimjaaDoorLedD
import Derived.Test.YtncmbbkcpmimjaaDoorLedE
import Derived.Test.YtncmbbkcpmimjaaDoorOwnOr
import Derived.Lib.SmallJoins
namespace Go.Proofs.YtncmbbkcpmimjaaDoor
open Go.RowKit Law
set_option linter.unusedVariables false

theorem u8Info : (Tryd.prog.info? 5).map (fun i => (i.zero, i.size, i.bytes)) = some (some (.int .u8 0), 1, 1) := by kernel_rfl
def u8V (b : List UInt8) : List Value := b.map fun c => .int .u8 (c.toNat : Int)
theorem ownU8 {w : World} {base : Nat} {A : Option Addr} {n c : Nat} {b : List UInt8} (h : w.ownsRow base 5 1 (.slice A n c) n (u8V b)) (hn : b.length = n) : U8At w A b := by
  intro k e he
  have hk : k < b.length := (List.getElem?_eq_some_iff.1 he).1
  obtain ⟨g, cap, hv⟩ := Joins.ownsRow_form h (by omega)
  obtain rfl : A = some ⟨g, 0, none⟩ := by injection hv
  refine ⟨g, 0, rfl, ?_⟩
  have := h.cells (g := g) rfl k (.int .u8 (e.toNat : Int)) (by unfold u8V; rw [List.getElem?_map, he]; rfl)
  rwa [Lib.add_plain] at this
theorem ownU8_ge {w : World} {base : Nat} {A : Option Addr} {n c : Nat} {xs : List Value} (h : w.ownsRow base 5 1 (.slice A n c) n xs) (ad : Addr) (hA : A = some ad) : base ≤ ad.block := by
  subst hA
  have := (h.lt ad.block (by rcases h.2 with ⟨hv, _⟩ | ⟨g, cap, cur, hv, _⟩ <;> (first | cases hv | skip) <;> rfl)).1
  exact this
theorem U8At.other {w : World} {A : Option Addr} {b : List UInt8} (h : U8At w A b) {a : Addr} (hne : ∀ ad, A = some ad → ad.block ≠ a.block) (v : Value) : U8At (w.setCell a v) A b := fun k e hk => by
  obtain ⟨blk, off, rfl, hc⟩ := h k e hk
  exact ⟨blk, off, rfl, by rw [World.cell?_setCell_other _ _ _ _ (fun e => hne _ rfl (by rw [e]))]; exact hc⟩
theorem U8At.flat {w : World} {A : Option Addr} {b : List UInt8} (h : U8At w A b) (ad : Addr) (hA : A = some ad) (j : Nat) (u : Value) (hu : (u8V b)[j]? = some u) : w.cell? (ad.add j) = some u := by
  unfold u8V at hu
  rw [List.getElem?_map] at hu
  obtain ⟨c, hc, rfl⟩ := Option.map_eq_some_iff.1 hu
  obtain ⟨blk, off, hA2, hcell⟩ := h j c hc
  rw [hA] at hA2
  injection hA2 with hA2
  subst hA2
  rw [Lib.add_plain]
  exact hcell
theorem u8_one {b : List UInt8} : ∀ u ∈ u8V b, u.oneCell' = true := by
  intro u hu
  obtain ⟨c, _, rfl⟩ := List.mem_map.1 hu
  rfl
set_option maxHeartbeats 6400000 in
set_option maxRecDepth 100000 in
theorem walkLAdds_ (l l1 : Ld) (hf : l.Fits) (hf1 : l1.Fits) (e : En) (z : Int) (ok : Bool) (hzo : (z = 0 ∧ ok = true) ∨ (z = 8 ∧ ok = false)) (len n : Nat) (A : Option Addr) (c : Nat) (b : List UInt8) (hn : b.length = n) (hmin : min (len : Int) 100 = (n : Int)) (hc : len ≤ c) (hm : c ≤ maxLen) (hnil : A = none → c = 0) (w : World) (hA : U8At w A b) (hP : P10 w) (hT : T64 w)
    (K1 : ∀ (A : Option Addr) (cap : Nat) (W : World), U8At W A b → Calls Tryd.prog 8 #[l.val, EnV e A n cap] W fun en w' => en = .returned (.tuple #[l1.val, .int .i64 z]) ∧ Below W.heap.size W w')
    (K2 : ∀ (A : Option Addr) (cap : Nat) (W : World), U8At W A b → Calls Tryd.prog 9 #[l.val, EnV e A n cap] W fun en w' => en = .returned (.tuple #[l1.val, .bool ok]) ∧ Below W.heap.size W w') :
    Calls Tryd.prog 3 #[l.val, EnV e A len c] w fun en w' => en = .returned (.bool true) ∧ Below w.heap.size w w' := by
  unfold maxLen at hm
  have hn40 : n ≤ 100 := by omega
  have hmax : max (n : Int) 0 = (n : Int) := by omega
  have HN := Lib.hid hn
  have HP := Lib.hid (And.intro hP hT)
  obtain ⟨hz, -⟩ := zero_of_info ldZero
  obtain ⟨i0, hi, hz0, hz1, hz2⟩ := info_parts u8Info
  obtain ⟨at_, t, f, s⟩ := e
  obtain ⟨w2, hw2⟩ : ∃ w2, (w.alloc (.cells l.cells.toArray 26)).alloc (.cells #[.int .i64 at_, .int .i64 t, .int .i64 f, .int .u32 (s : Int), .slice A len c] 31) = w2 := ⟨_, rfl⟩
  have hb2 : Below w.heap.size w w2 := by rw [← hw2]; exact ((Below.refl _ _).alloc (Nat.le_refl _) _).alloc (by simp) _
  have hL2 : LdBox w2 w.heap.size l := by rw [← hw2]; exact (LdBox.new w l _).below ((Below.refl _ _).alloc (Nat.le_refl _) _)
  have hs2 : w2.heap.size = w.heap.size + 2 := by rw [← hw2]; simp
  have hE2 : ∀ (j : Nat) (v : Value), (#[Value.int .i64 at_, .int .i64 t, .int .i64 f, .int .u32 (s : Int), .slice A len c])[j]? = some v → w2.cell? ⟨w.heap.size + 1, j, none⟩ = some v ∧ w2.frozen? ⟨w.heap.size + 1, j, none⟩ = false := by
    intro j v hv
    rw [← hw2]
    refine ⟨by rw [World.cell?_alloc_at _ _ _ _ (by simp)]; exact hv, ?_⟩
    have := World.frozen?_alloc_new (w.alloc (.cells l.cells.toArray 26)) #[.int .i64 at_, .int .i64 t, .int .i64 f, .int .u32 (s : Int), .slice A len c] 31 j
    simp
  have h00 := World.ownsRow_made (base := w2.heap.size) (e := 5) (size := 1) w2 #[] 0 (Nat.le_refl _) (by simp [maxLen]) rfl
  have hb0 : Below w2.heap.size w2 (w2.alloc (.cells #[] 5)) := (Below.refl _ _).alloc (Nat.le_refl _) _
  have hA0 := (hA.keep hb2).keep hb0
  have hq4 : w2.cell? ⟨w.heap.size + 1, 4, none⟩ = some (.slice A len c) := (hE2 4 _ rfl).1
  have hlt3 : w.heap.size + 1 < w2.heap.size := by omega
  have HE := Lib.hid (And.intro hE2 (And.intro hb2 hL2))
  have hsl : ∀ W, (Instr.slice 29 (.slice A len c) none (some (.int .i64 (n : Int))) none).run Tryd.prog W = .ok (.slice A n c) W := fun W => by
    have h1 : n ≤ c := by omega
    cases A <;> simp [Instr.slice, Instr.sliceBounds, Instr.sliceBound, asIntOf, run_underlying Tryd.underlying29, Tryd.sizeOf5, h1, go_sem, Addr.add]
  unfold Ld.val at hz K1 K2 ⊢
  unfold EnV at K1 K2 ⊢
  have K1 := Lib.hid K1
  have K2 := Lib.hid K2
  have HZO := Lib.hid hzo
  have HS2 := Lib.hid hs2
  clear hP hT hn hA hE2 hb2 hL2 hzo hs2
  go_enter Tryd.func3, Tryd.ntmps3
  go_wp2_with (at_builtin; refine wpList_append_copy _ rfl _ _ 29 rfl w2.heap.size 5 i0 _ 1 1 Tryd.underlying29 hi hz0 hz1 hz2 rfl (by decide) _ _ _ rfl h00 A n c (u8V b) rfl ?c0 ?c1 ?c2 ?c3 ?c4 ?c5 ?c6 ?_)
  case c0 => intro hx; have := hnil hx; omega
  case c1 => unfold u8V; rw [List.length_map, HN.out]
  case c2 => exact hA0.flat
  case c3 => exact u8_one
  case c4 => unfold maxLen; omega
  case c5 => omega
  intro v' w3 row hown hgrow hrow
  have hb3 : Below w2.heap.size w2 w3 := hb0.grown hgrow (by simp) hrow
  obtain ⟨A1, c1, rfl, hc1⟩ := (OwnOr.form (.inl hown) : ∃ A c, v' = .slice A n c ∧ n ≤ c)
  have hA3 : U8At w3 A1 b := ownU8 hown HN.out
  have hE3 : ∀ (j : Nat) (v : Value), (#[Value.int .i64 at_, .int .i64 t, .int .i64 f, .int .u32 (s : Int), .slice A len c])[j]? = some v → w3.cell? ⟨w.heap.size + 1, j, none⟩ = some v ∧ w3.frozen? ⟨w.heap.size + 1, j, none⟩ = false := fun j v hv =>
    ⟨(hb3.cell (p := ⟨w.heap.size + 1, j, none⟩) hlt3).trans (HE.out.1 j v hv).1, (hb3.frozen (p := ⟨w.heap.size + 1, j, none⟩) hlt3).trans (HE.out.1 j v hv).2⟩
  have q0 : w3.cell? ⟨w.heap.size + 1, 0, none⟩ = some (.int .i64 at_) := (hE3 0 _ rfl).1
  have q1 : w3.cell? ⟨w.heap.size + 1, 1, none⟩ = some (.int .i64 t) := (hE3 1 _ rfl).1
  have q2 : w3.cell? ⟨w.heap.size + 1, 2, none⟩ = some (.int .i64 f) := (hE3 2 _ rfl).1
  have q3 : w3.cell? ⟨w.heap.size + 1, 3, none⟩ = some (.int .u32 (s : Int)) := (hE3 3 _ rfl).1
  have q4 : w3.cell? ⟨w.heap.size + 1, 4, none⟩ = some (.slice A len c) := (hE3 4 _ rfl).1
  have g4 := (hE3 4 _ rfl).2
  have hL3 : LdBox (w3.setCell ⟨w.heap.size + 1, 4, none⟩ (.slice A1 n c1)) w.heap.size l := (HE.out.2.2.below hb3).other (by simp) _
  have hb4 : Below w.heap.size w (w3.setCell ⟨w.heap.size + 1, 4, none⟩ (.slice A1 n c1)) := (HE.out.2.1.trans (hb3.mono HE.out.2.1.size)).setCell (p := ⟨w.heap.size + 1, 4, none⟩) (by simp) _
  have hA4 : U8At (w3.setCell ⟨w.heap.size + 1, 4, none⟩ (.slice A1 n c1)) A1 b := hA3.other (fun ad he => by have := ownU8_ge hown ad he; simp; omega) _
  have hE4 : ∀ (j : Nat) (v : Value), (#[Value.int .i64 at_, .int .i64 t, .int .i64 f, .int .u32 (s : Int), .slice A1 n c1])[j]? = some v → (w3.setCell ⟨w.heap.size + 1, 4, none⟩ (.slice A1 n c1)).cell? ⟨w.heap.size + 1, j, none⟩ = some v := by
    intro j v hv
    match j, hv with
    | 0, hv => rw [World.cell?_setCell_other _ _ _ _ (by simp)]; cases hv; exact q0
    | 1, hv => rw [World.cell?_setCell_other _ _ _ _ (by simp)]; cases hv; exact q1
    | 2, hv => rw [World.cell?_setCell_other _ _ _ _ (by simp)]; cases hv; exact q2
    | 3, hv => rw [World.cell?_setCell_other _ _ _ _ (by simp)]; cases hv; exact q3
    | 4, hv => cases hv; exact World.cell?_setCell_same' _ _ _ (by rw [q4]; rfl)
  have H4 := Lib.hid (And.intro hL3 (And.intro hb4 hA4))
  have HE4 := Lib.hid hE4
  clear hown hgrow hrow hb3 hA3 hE3 hL3 hb4 hA4 hA0 hb0 h00 hq4 hsl hE4
  go_wp2_with (first | (refine wp_ldLoad rfl _ rfl w.heap.size rfl l hf H4.out.1.1 ?_))
  clear q0 q1 q2 q3 q4 g4
  refine (K1.out A1 c1 _ H4.out.2.2).mono ?_
  rintro en w5 ⟨rfl, hb5⟩
  have HB5 := Lib.hid hb5
  have hlt5 : w.heap.size + 1 < w5.heap.size := by have := hb5.size; have := H4.out.1.1.lt; simp at *; have := (HE4.out 0 _ rfl); have := World.block_lt_of_cell? _ _ this; simp at this; omega
  have HB6 := Lib.hid (And.intro (LdBox.new w5 Ld0 26) ((Below.refl w5.heap.size w5).alloc (Nat.le_refl _) (.cells Ld0.cells.toArray 26)))
  have HL5 := Lib.hid (H4.out.1.below hb5)
  have HE5 : Hid (∀ (j : Nat) (v : Value), (#[Value.int .i64 at_, .int .i64 t, .int .i64 f, .int .u32 (s : Int), .slice A1 n c1])[j]? = some v → w5.cell? ⟨w.heap.size + 1, j, none⟩ = some v) := fun j v hv =>
    (hb5.cell (p := ⟨w.heap.size + 1, j, none⟩) (World.block_lt_of_cell? _ _ (HE4.out j v hv))).trans (HE4.out j v hv)
  have HA5 := Lib.hid (H4.out.2.2.keep hb5)
  have HW5 := Lib.hid (H4.out.2.1.trans (hb5.mono H4.out.2.1.size))
  clear hb5
  go_wp2_with (first | (refine wp_ldLoad rfl _ rfl w.heap.size rfl l hf hL6.1 ?_) | (refine wp_ldStore rfl _ _ rfl w5.heap.size Ld0 l1 rfl rfl Ld0.fits hf1 HB6.out.1 ?_; intro w6 hB6 hbb hoo; have hb6 : Below w5.heap.size w5 w6 := hbb _ _ (Nat.le_refl _) HB6.out.2; have hL6 := HL5.out.below hb6; have p0 : w6.cell? ⟨w.heap.size + 1, 0, none⟩ = some (.int .i64 at_) := (hb6.cell (p := ⟨w.heap.size + 1, 0, none⟩) hlt5).trans (HE5.out 0 _ rfl); have p1 : w6.cell? ⟨w.heap.size + 1, 1, none⟩ = some (.int .i64 t) := (hb6.cell (p := ⟨w.heap.size + 1, 1, none⟩) hlt5).trans (HE5.out 1 _ rfl); have p2 : w6.cell? ⟨w.heap.size + 1, 2, none⟩ = some (.int .i64 f) := (hb6.cell (p := ⟨w.heap.size + 1, 2, none⟩) hlt5).trans (HE5.out 2 _ rfl); have p3 : w6.cell? ⟨w.heap.size + 1, 3, none⟩ = some (.int .u32 (s : Int)) := (hb6.cell (p := ⟨w.heap.size + 1, 3, none⟩) hlt5).trans (HE5.out 3 _ rfl); have p4 : w6.cell? ⟨w.heap.size + 1, 4, none⟩ = some (.slice A1 n c1) := (hb6.cell (p := ⟨w.heap.size + 1, 4, none⟩) hlt5).trans (HE5.out 4 _ rfl)))
  have HB7 := Lib.hid (And.intro hB6 (HW5.out.trans (hb6.mono HW5.out.size)))
  have HA6 := HA5.out.keep hb6
  clear p0 p1 p2 p3 p4 hL6 hoo hbb hB6
  refine (K2.out A1 c1 _ HA6).mono ?_
  rintro en w7 ⟨rfl, hb7⟩
  have hlt7 : w5.heap.size < w7.heap.size := by have h1 := HB7.out.1.1.lt; have h2 := hb7.size; omega
  have HL7 := Lib.hid (HB7.out.1.below hb7)
  have HW7 := Lib.hid (HB7.out.2.trans (hb7.mono HB7.out.2.size))
  have HB8 := Lib.hid (And.intro (LdBox.new w7 Ld0 26) ((Below.refl w7.heap.size w7).alloc (Nat.le_refl _) (.cells Ld0.cells.toArray 26)))
  have C3 := Lib.hid (fun W h1 h2 => works37 W h1 h2)
  have he := run_eqLd l1 hf1
  clear hb7 HA6 hb6
  rcases HZO.out with ⟨rfl, rfl⟩ | ⟨rfl, rfl⟩
  all_goals
    go_wp2_with (first | (refine wp_ldLoad rfl _ rfl w5.heap.size rfl l1 hf1 hL8.1 ?_) | (refine wp_ldLoad rfl _ rfl w7.heap.size rfl l1 hf1 hB8.1 ?_) | (refine wp_ldStore rfl _ _ rfl w7.heap.size Ld0 l1 rfl rfl Ld0.fits hf1 HB8.out.1 ?_; intro w8 hB8 hbb hoo; have hb8 : Below w7.heap.size w7 w8 := hbb _ _ (Nat.le_refl _) HB8.out.2; have hL8 := HL7.out.below hb8))
    have hb9 := HW7.out.trans (hb8.mono HW7.out.size)
    refine (C3.out _ (HP.out.1.below hb9) (HP.out.2.below hb9)).mono ?_
    rintro en w9 ⟨rfl, hb10⟩
    have HF := Lib.hid (hb9.trans (hb10.mono hb9.size))
    clear hb9 hb10 hL8 hB8 hbb hoo hb8 he
    go_wp2
    go_ret
    exact ⟨rfl, HF.out⟩
theorem U8At.take {w : World} {A : Option Addr} {b : List UInt8} (h : U8At w A b) (n : Nat) : U8At w A (b.take n) := fun k e he => h k e (by
  rw [List.getElem?_take] at he
  split at he
  · exact he
  · cases he)
theorem walkLAdds (l : Ld) (hf : l.Fits) (e : En) (he : e.Fits) (len : Nat) (A : Option Addr) (c : Nat) (b : List UInt8) (hb : b.length = len) (hc : len ≤ c) (hm : c ≤ maxLen) (hnil : A = none → c = 0) (w : World) (hA : U8At w A b) (hP : P10 w) (hT : T64 w) :
    Calls Tryd.prog 3 #[l.val, EnV e A len c] w fun en w' => en = .returned (.bool true) ∧ Below w.heap.size w w' := by
  have hlen : min (len : Int) 100 = ((b.take 100).length : Int) := by rw [List.length_take, hb]; omega
  have hsm : (b.take 100).length ≤ 1000000 := by rw [List.length_take]; omega
  by_cases hok : okE e
  · exact walkLAdds_ l (addL l e (b.take 100)) hf (addL_fits hf e _) e 0 true (.inl ⟨rfl, rfl⟩) len (b.take 100).length A c (b.take 100) rfl hlen hc hm hnil w (hA.take 100) hP hT
      (fun A cap W h => ledAdd_yes l hf e he hok A _ cap (b.take 100) rfl hsm W h) (fun A cap W h => refAdd_yes l hf e he hok A _ cap (b.take 100) rfl hsm W h)
  · exact walkLAdds_ l l hf hf e 8 false (.inr ⟨rfl, rfl⟩) len (b.take 100).length A c (b.take 100) rfl hlen hc hm hnil w (hA.take 100) hP hT
      (fun A cap W h => ledAdd_no l hf e he hok A _ cap W) (fun A cap W h => refAdd_no l hf e he hok A _ cap W)
end Go.Proofs.YtncmbbkcpmimjaaDoor
