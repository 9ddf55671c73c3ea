/- A node's period and relay: how they are made. -/
import Derived.Test.YtfkfheddhnjaaaaGreatNdC
import Derived.Test.YtfkfheddhnjaaaaGreatRegR
namespace Go.Proofs.YtfkfheddhnjaaaaGreat
open Go.RowKit Law
set_option linter.unusedVariables false
set_option linter.unusedSimpArgs false
set_option maxRecDepth 100000

theorem perWithin (x lo hi : Int) (w : World) : Calls Tryz.prog 63 #[.int .i64 x, .int .i64 lo, .int .i64 hi] w fun e w' => e = .returned (.int .i64 (min (max x lo) hi)) ∧ w = w' := by
  go_enter Tryz.func63, Tryz.ntmps63
  go_wp2
  all_goals
    go_ret
    exact ⟨ret_int (by omega), rfl⟩
def perEvery (x : Int) : Int := min (max x 1) 1099511627776
def perDelta (x : Int) : Int := min (max x 0) 1099511627776
theorem perNew (every delta : Int) (w : World) : Calls Tryz.prog 12 #[.int .i64 every, .int .i64 delta] w fun e w' => e = .returned (.agg #[.int .i64 (perEvery every), .int .i64 (perDelta delta)]) ∧ Below w.heap.size w w' := by
  have C1 := fun W => perWithin every 1 1099511627776 W
  have C2 := fun W => perWithin delta 0 1099511627776 W
  obtain ⟨a, ha⟩ : ∃ a, perEvery every = a := ⟨_, rfl⟩
  obtain ⟨b, hb⟩ : ∃ b, perDelta delta = b := ⟨_, rfl⟩
  rw [show min (max every 1) 1099511627776 = a from ha] at C1
  rw [show min (max delta 0) 1099511627776 = b from hb] at C2
  rw [ha, hb]
  have C1 := Lib.hid C1
  have C2 := Lib.hid C2
  clear ha hb
  go_enter Tryz.func12, Tryz.ntmps12
  go_wp2_with fail
  refine (C1.out _).mono ?_
  rintro e w1 ⟨rfl, rfl⟩
  go_wp2_with fail
  refine (C2.out _).mono ?_
  rintro e w1 ⟨rfl, rfl⟩
  go_wp2
  refine bodyPost_ret (v := .agg #[.int .i64 a, .int .i64 b]) (by simp [results, Tryz.results12, go_sem]) rfl ⟨rfl, ?_⟩
  repeat (first | exact Below.refl _ _ | (refine Below.setCell ?_ (by simp) _) | (refine Below.drew ?_) | (refine Below.alloc ?_ (by simp) _))
/-- Bounds, as numbers. -/
structure Bn where
  h : Int
  f : Int
  s : Int
  l : Int
  r : Int
  a : Int
  st : Int
  eps : Int
  m : Int
  c : Int
  rough : Int
  delta : Int
  d : Int
  j : Int
abbrev Bn.cells (b : Bn) : List Value := [.int .i64 b.h, .int .i64 b.f, .int .i64 b.s, .int .i64 b.l, .int .i64 b.r, .int .i64 b.a, .int .i64 b.st, .int .i64 b.eps, .int .i64 b.m, .int .i64 b.c, .int .i64 b.rough, .int .i64 b.delta, .int .i64 b.d, .int .i64 b.j]
def RelayPost (self n most : Int) (b : Bn) (w : World) (e : Ending) (w' : World) : Prop := ∃ q s t m, e = .returned (.pointer (some ⟨q, 0, none⟩)) ∧ BoxF w' q (.pointer (some ⟨s, 0, none⟩) :: .int .i64 self :: .int .i64 n :: b.cells) ∧ BoxF w' s [.pointer (some ⟨t, 0, none⟩)] ∧ BoxF w' t [.slice none 0 0, .map (some m), .int .i64 (min (max most 0) 65536)] ∧ NoMap w' m ∧ w.heap.size ≤ m ∧ m < t ∧ t < s ∧ s < q ∧ Below w.heap.size w w'
set_option maxHeartbeats 3200000 in
theorem relayNew (self n most : Int) (b : Bn) (w : World) : Calls Tryz.prog 16 #[.int .i64 self, .int .i64 n, .agg b.cells.toArray, .int .i64 most] w (RelayPost self n most b w) := by
  obtain ⟨bh, bf, bs, bl, br, ba, bst, be, bm, bc, bro, bde, bd, bj⟩ := b
  have k0 := boxF_made w (Bn.cells ⟨bh, bf, bs, bl, br, ba, bst, be, bm, bc, bro, bde, bd, bj⟩) 36
  have hb1 := (Below.refl w.heap.size w).alloc (Nat.le_refl _) (.cells (Bn.cells ⟨bh, bf, bs, bl, br, ba, bst, be, bm, bc, bro, bde, bd, bj⟩).toArray 36)
  obtain ⟨w1, hw1⟩ : ∃ w1, w.alloc (.cells (Bn.cells ⟨bh, bf, bs, bl, br, ba, bst, be, bm, bc, bro, bde, bd, bj⟩).toArray 36) = w1 := ⟨_, rfl⟩
  have hs1 : w1.heap.size = w.heap.size + 1 := by rw [← hw1]; simp
  rw [hw1] at k0 hb1
  have HS : Hid (∀ W, Below w1.heap.size w1 W → BoxF W w.heap.size (Bn.cells ⟨bh, bf, bs, bl, br, ba, bst, be, bm, bc, bro, bde, bd, bj⟩)) := fun W hW => k0.keep hW
  have HB := Lib.hid (And.intro hb1 hs1)
  have C := Lib.hid (fun W => seenNew most W)
  clear k0 hb1 hs1
  go_enter Tryz.func16, Tryz.ntmps16
  go_wp2_with fail
  refine wp_region_perm [] [0, 2, 3, 4] [1, 5, 6, 7] 8 12 (fun W => Below w1.heap.size w1 W) (by kernel_rfl) (by kernel_rfl) (by intro c a t v w h; exact h) ((Below.refl _ _).drew) ?_
  simp only [pickL, List.drop_succ_cons, List.drop_zero, List.head?_cons, Option.toList_some, List.cons_append, List.nil_append]
  refine wpHead_nil ?_
  iterate 4 (refine wpHead_step _ (by rfl) (by intro W hW; have zb := HS.out W hW; have z0 := zb.1 0 _ rfl; have z1 := zb.1 1 _ rfl; have z2 := zb.1 2 _ rfl; have z3 := zb.1 3 _ rfl; have z4 := zb.1 4 _ rfl; have z5 := zb.1 5 _ rfl; have z6 := zb.1 6 _ rfl; have z7 := zb.1 7 _ rfl; have z8 := zb.1 8 _ rfl; have z9 := zb.1 9 _ rfl; have z10 := zb.1 10 _ rfl; have z11 := zb.1 11 _ rfl; have z12 := zb.1 12 _ rfl; have z13 := zb.1 13 _ rfl; clear zb hW; go_simp; with_reducible rfl) ?_; simp only [Act.put, List.setIfInBounds_toArray, List.set_cons_zero, List.set_cons_succ])
  refine wpHead_nil ?_
  refine ⟨by rfl, ?_⟩
  go_simp
  go_at_call 65
  refine (C.out _).mono ?_
  rintro e w2 ⟨s, t, m, rfl, h1, h2, h3, h4, h5, h6, h7⟩
  have hb2 : Below w1.heap.size w1 w2 := (Below.refl _ _).drew.trans (show Below w1.heap.size w1.drew w2 from h7)
  have h4' : w1.heap.size ≤ m := h4
  have hb3 := (Below.refl w2.heap.size w2).alloc (Nat.le_refl _) (.cells #[.pointer (some ⟨s, 0, none⟩), .int .i64 self, .int .i64 n, .int .i64 bh, .int .i64 bf, .int .i64 bs, .int .i64 bl, .int .i64 br, .int .i64 ba, .int .i64 bst, .int .i64 be, .int .i64 bm, .int .i64 bc, .int .i64 bro, .int .i64 bde, .int .i64 bd, .int .i64 bj] 170)
  have hb23 : Below w1.heap.size w1 (w2.alloc (.cells #[.pointer (some ⟨s, 0, none⟩), .int .i64 self, .int .i64 n, .int .i64 bh, .int .i64 bf, .int .i64 bs, .int .i64 bl, .int .i64 br, .int .i64 ba, .int .i64 bst, .int .i64 be, .int .i64 bm, .int .i64 bc, .int .i64 bro, .int .i64 bde, .int .i64 bd, .int .i64 bj] 170)) := hb2.trans (hb3.mono hb2.size)
  have HF : Hid (RelayPost self n most ⟨bh, bf, bs, bl, br, ba, bst, be, bm, bc, bro, bde, bd, bj⟩ w (.returned (.pointer (some ⟨w2.heap.size, 0, none⟩))) (w2.alloc (.cells #[.pointer (some ⟨s, 0, none⟩), .int .i64 self, .int .i64 n, .int .i64 bh, .int .i64 bf, .int .i64 bs, .int .i64 bl, .int .i64 br, .int .i64 ba, .int .i64 bst, .int .i64 be, .int .i64 bm, .int .i64 bc, .int .i64 bro, .int .i64 bde, .int .i64 bd, .int .i64 bj] 170))) :=
    ⟨_, s, t, m, rfl, boxF_made w2 _ _, h1.keep hb3, h2.keep hb3, h3.keep hb3, by have := HB.out.2; omega, h5, h6, h1.lt (by simp), HB.out.1.trans (hb23.mono HB.out.1.size)⟩
  have H2 := Lib.hid (And.intro hb2 hb23)
  clear h1 h2 h3 h4 h4' h5 h6 h7 hb2 hb3 hb23
  refine ⟨H2.out.1, by rfl, ?_⟩
  go_simp
  refine ⟨H2.out.1, by rfl, ?_⟩
  go_simp
  refine ⟨H2.out.2, by rfl, ?_⟩
  go_simp
  refine ⟨H2.out.2, ?_⟩
  refine wpMid_nil ?_
  go_wp2
  go_ret
  exact HF.out
end Go.Proofs.YtfkfheddhnjaaaaGreat
