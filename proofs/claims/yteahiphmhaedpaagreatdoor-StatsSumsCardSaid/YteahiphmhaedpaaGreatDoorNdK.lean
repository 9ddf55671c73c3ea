/- Views of a node: there is no last one of none; one is installed; the list of one. -/
import Derived.Test.YteahiphmhaedpaaGreatDoorNdH
import Derived.Test.YteahiphmhaedpaaGreatDoorBase
import Derived.Deep.AppendLies
namespace Go.Proofs.YteahiphmhaedpaaGreatDoor
open Go.RowKit Law
set_option linter.unusedVariables false
set_option linter.unusedSimpArgs false
set_option maxRecDepth 100000

theorem viewInfo : (Tryz.prog.info? 109).map (fun i => (i.zero, i.size, i.bytes)) = some (some (.agg #[.int .i64 0, .int .i64 0, .int .u64 0]), 3, 24) := by kernel_rfl
theorem viewLast0 {w : World} {V : Nat} (h : BoxF w V [.slice none 0 0]) : Calls Tryz.prog 138 #[.pointer (some ⟨V, 0, none⟩)] w fun e w' => e = .returned (.tuple #[.agg #[.int .i64 0, .int .i64 0, .int .u64 0], .bool false]) ∧ Below w.heap.size w w' := by
  have c0 := h.1 0 _ rfl
  have hne : V ≠ w.heap.size := Nat.ne_of_lt (h.lt (by simp))
  have hlt := h.lt (by simp)
  clear h
  go_enter Tryz.func138, Tryz.ntmps138
  go_wp2
  refine bodyPost_ret (v := .tuple #[.agg #[.int .i64 0, .int .i64 0, .int .u64 0], .bool false]) (by simp [results, Tryz.results138, go_sem]) rfl ⟨rfl, ?_⟩
  repeat (first | exact Below.refl _ _ | (refine Below.setCell ?_ (by simp) _) | (refine Below.drew ?_) | (refine Below.alloc ?_ (by simp) _))
/-- One view was installed where there was none. -/
def InstPost (V : Nat) (no at_ st : Int) (w : World) (e : Ending) (w' : World) : Prop := e = .returned (.int .i64 0) ∧ ∃ R cap, BoxF w' V [.slice (some ⟨R, 0, none⟩) 1 cap] ∧ BoxAt w' R [.int .i64 no, .int .i64 at_, .int .u64 st] ∧ w.heap.size ≤ R ∧ R < w'.heap.size ∧ 1 ≤ cap ∧ FrB V w w'
set_option maxHeartbeats 3200000 in
theorem viewInstall0 {w : World} {V : Nat} (h : BoxF w V [.slice none 0 0]) (no at_ st : Int) : Calls Tryz.prog 78 #[.pointer (some ⟨V, 0, none⟩), .agg #[.int .i64 no, .int .i64 at_, .int .u64 st]] w (InstPost V no at_ st w) := by
  obtain ⟨i0, hi, hz0, hz1, hz2⟩ := info_parts viewInfo
  have hV := h.lt (by simp)
  have hb1 := (Below.refl w.heap.size w).alloc (Nat.le_refl _) (.cells #[.int .i64 no, .int .i64 at_, .int .u64 st] 109)
  have k1 := boxF_made w [.int .i64 no, .int .i64 at_, .int .u64 st] 109
  have h1 := h.keep hb1
  obtain ⟨w1, hw1⟩ : ∃ w1, w.alloc (.cells #[.int .i64 no, .int .i64 at_, .int .u64 st] 109) = w1 := ⟨_, rfl⟩
  have hs1 : w1.heap.size = w.heap.size + 1 := by rw [← hw1]; simp
  rw [hw1] at hb1 k1 h1
  have C := Lib.hid (viewLast0 h1)
  have H1 := Lib.hid (And.intro hb1 (And.intro k1 (And.intro h1 (And.intro hs1 hV))))
  clear hb1 k1 h1 hs1 h hV
  go_enter Tryz.func78, Tryz.ntmps78
  go_wp2_with fail
  refine C.out.mono ?_
  rintro e w2 ⟨rfl, hb2⟩
  have hb3 := (Below.refl w2.heap.size w2).alloc (Nat.le_refl _) (.cells #[.int .i64 0, .int .i64 0, .int .u64 0] 109)
  have hb23 := hb2.trans (hb3.mono hb2.size)
  have hs3 : (w2.alloc (.cells #[.int .i64 0, .int .i64 0, .int .u64 0] 109)).heap.size = w2.heap.size + 1 := by simp
  have hs2 := hb2.size
  have HS : Hid (∀ W, Below (w2.alloc (.cells #[.int .i64 0, .int .i64 0, .int .u64 0] 109)).heap.size (w2.alloc (.cells #[.int .i64 0, .int .i64 0, .int .u64 0] 109)) W → BoxF W V [.slice none 0 0] ∧ BoxF W w.heap.size [.int .i64 no, .int .i64 at_, .int .u64 st]) := fun W hW =>
    ⟨(H1.out.2.2.1.keep hb23).keep hW, (H1.out.2.1.keep hb23).keep hW⟩
  have H2 := Lib.hid (And.intro hb23 (And.intro hs2 hs3))
  clear hb2 hb3 hb23 hs3 hs2
  go_wp2_with fail
  refine wp_region_perm [] [0, 1, 2, 3, 4, 5] [6, 7] 8 12 (fun W => Below (w2.alloc (.cells #[.int .i64 0, .int .i64 0, .int .u64 0] 109)).heap.size (w2.alloc (.cells #[.int .i64 0, .int .i64 0, .int .u64 0] 109)) W) (by kernel_rfl) (by kernel_rfl) (by intro c a t v w h; exact h) ((Below.refl _ _).drew) ?_
  simp only [pickL, List.drop_succ_cons, List.drop_zero, List.head?_cons, Option.toList_some, List.cons_append, List.nil_append]
  refine wpHead_nil ?_
  iterate 6 (refine wpHead_step _ (by rfl) (by intro W hW; obtain ⟨z, zb⟩ := HS.out W hW; have y0 := z.1 0 _ rfl; have z0 := zb.1 0 _ rfl; have z1 := zb.1 1 _ rfl; have z2 := zb.1 2 _ rfl; clear z zb hW; go_simp; with_reducible rfl) ?_; simp only [Act.put, List.setIfInBounds_toArray, List.set_cons_zero, List.set_cons_succ])
  refine wpHead_nil ?_
  obtain ⟨w3, hw3⟩ : ∃ w3, w2.alloc (.cells #[.int .i64 0, .int .i64 0, .int .u64 0] 109) = w3 := ⟨_, rfl⟩
  rw [hw3] at H2 HS ⊢
  have HB4 : Hid (Below w3.heap.size w3 ((w3.alloc (.cells #[.int .i64 no, .int .i64 at_, .int .u64 st] 109)).drew)) := ((Below.refl _ _).alloc (Nat.le_refl _) _).drew
  have HN4 : Hid (((w3.alloc (.cells #[.int .i64 no, .int .i64 at_, .int .u64 st] 109)).drew).heap[w3.heap.size]? = some (.cells #[.int .i64 no, .int .i64 at_, .int .u64 st] 109 (0, 0))) := heap_alloc_new w3 _
  refine ⟨by rfl, ?_⟩
  go_simp
  refine ⟨HB4.out, by rfl, ?_⟩
  obtain ⟨w4, hw4⟩ : ∃ w4, (w3.alloc (.cells #[.int .i64 no, .int .i64 at_, .int .u64 st] 109)).drew = w4 := ⟨_, rfl⟩
  rw [hw4] at HB4 HN4 ⊢
  refine wp_append_lies w4 _ _ 106 (by rfl) w3.heap.size 109 i0 _ 3 24 Tryz.underlying106 hi hz0 hz1 hz2 rfl (by decide) (.slice none 0 0) 0 [] (by rfl) (World.ownsRow_nil _ _ _ _) ⟨w3.heap.size, 0, none⟩ 1 1 [.int .i64 no, .int .i64 at_, .int .u64 st] (by rfl) (by rfl) (World.news_of_block HN4.out) ?_ (by decide) (by decide) (by decide) HB4.out.size _ rfl ?_
  · intro u hu
    simp only [List.mem_cons, List.not_mem_nil, or_false] at hu
    rcases hu with rfl | rfl | rfl <;> rfl
  intro g cap w5 hown hgrow hat hlt5
  have hbl : Below w3.heap.size w3 w5 := HB4.out.grown hgrow HB4.out.size (fun j hj => by cases hj)
  have hc1 : 1 ≤ cap := by
    obtain ⟨_, (⟨hv, _⟩ | ⟨g', cap', cur, hv, _, _, hc, _⟩)⟩ := hown
    · cases hv
    · injection hv with _ _ e
      omega
  have hgl : w3.heap.size ≤ g := (hown.lt g rfl).1
  have q5 := (HS.out w5 hbl).1
  have q6 := q5.put 0 (by simp) (.slice (some ⟨g, 0, none⟩) 1 cap)
  simp only [List.set_cons_zero] at q6
  have hsz3 : w.heap.size ≤ w3.heap.size ∧ V < w3.heap.size := by have := H2.out.2.1; have := H2.out.2.2; have := H1.out.2.2.2.1; have := H1.out.2.2.2.2; omega
  have HF : Hid (InstPost V no at_ st w (.returned (.int .i64 0)) (w5.setCell ⟨V, 0, none⟩ (.slice (some ⟨g, 0, none⟩) 1 cap))) := by
    refine ⟨rfl, g, cap, q6, fun k u hk => ?_, by omega, by simpa using hlt5, hc1, ?_⟩
    · rw [World.cell?_setCell_other _ _ _ _ (fun e => by injection e with e; omega)]
      have hk3 : k < 3 := by
        rcases Nat.lt_or_ge k 3 with h | h
        · exact h
        · rw [List.getElem?_eq_none (by simpa using h)] at hk; cases hk
      exact (hown.cellAt k (by omega)).trans hk
    · have hB : Below w.heap.size w w5 := (H1.out.1.trans (H2.out.1.mono H1.out.1.size)).trans (hbl.mono hsz3.1)
      exact (FrB.of hB).trans (FrB.set _ _ _ _)
  have c5 := q5.1 0 _ rfl
  have f5 := q5.2 0 (by simp)
  refine ⟨hbl, ?_⟩
  refine wpMid_nil ?_
  clear hown hgrow hat hlt5 hbl hc1 hgl q5 q6 hsz3
  go_wp2
  go_ret
  exact HF.out
end Go.Proofs.YteahiphmhaedpaaGreatDoor
