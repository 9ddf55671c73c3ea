/- TraceOf: which events are a node's, and how many are of a kind. -/
import Derived.Test.YtjnhkpjmjjhhdaaDoorTraceD
import Derived.Test.YtjnhkpjmjjhhdaaDoorEqArr
namespace Go.Proofs.YtjnhkpjmjjhhdaaDoor
open Go.RowKit Law
set_option linter.unusedVariables false

theorem traceCountN {n : Nat} (A : Option Addr) (c : Nat) (es : List Ev) (hn : es.length = n) (kind : Int) (w : World) (hA : EvAt w A es) (hl : n ≤ 60) :
    Calls Tryd.prog 13 #[.slice A n c, .int .i64 kind] w fun e w' => e = .returned (.int .i64 (countOf es kind)) ∧ Below w.heap.size w w' := by
  subst hn; exact traceCount A c es kind w hA hl
theorem flatC_at : ∀ (es : List Ev) (k j : Nat) (e : Ev) (v : Value), es[k]? = some e → e.cells[j]? = some v → (flatC es)[k * 8 + j]? = some v
  | [], k, j, e, v, h, _ => by simp at h
  | x :: es, 0, j, e, v, h, hj => by
    have : x = e := by simpa using h
    subst this
    have hlt : j < x.cells.toList.length := by
      have := (Array.getElem?_eq_some_iff.1 hj).1
      simpa using this
    show (x.cells.toList ++ flatC es)[0 * 8 + j]? = some v
    rw [Nat.zero_mul, Nat.zero_add, List.getElem?_append_left hlt]
    simpa using hj
  | x :: es, k + 1, j, e, v, h, hj => by
    have ih := flatC_at es k j e v (by simpa using h) hj
    show (x.cells.toList ++ flatC es)[(k + 1) * 8 + j]? = some v
    have hl : x.cells.toList.length = 8 := rfl
    rw [List.getElem?_append_right (by omega), hl, show (k + 1) * 8 + j - 8 = k * 8 + j by omega]
    exact ih
/-- A row of the call's own reads as its events. -/
theorem ownEv {w : World} {base : Nat} {A : Option Addr} {n c : Nat} {es : List Ev} (h : w.ownsRow base 32 8 (.slice A n c) n (flatC es)) (hn : es.length = n) : EvAt w A es := by
  intro k e he
  have hk : k < es.length := (List.getElem?_eq_some_iff.1 he).1
  obtain ⟨g, cap, hv⟩ := Joins.ownsRow_form h (by omega)
  obtain rfl : A = some ⟨g, 0, none⟩ := by injection hv
  refine ⟨g, 0, rfl, (h.lt g rfl).2, fun j v hj => ?_⟩
  have := h.cells (g := g) rfl (k * 8 + j) v (flatC_at es k j e v he hj)
  rwa [Lib.add_plain, ← Nat.add_assoc] at this
theorem traceOfN {n : Nat} (A : Option Addr) (c : Nat) (es : List Ev) (hn : es.length = n) (node : Int) (w : World) (hA : EvAt w A es) (hl : n ≤ 60) :
    Calls Tryd.prog 12 #[.slice A n c, .int .i64 node] w fun e w' => ∃ (A2 : Option Addr) (c2 : Nat), e = .returned (.slice A2 (nodeOf es node).length c2) ∧ EvAt w' A2 (nodeOf es node) ∧ Below w.heap.size w w' := by
  subst hn
  refine (traceOf A c es node w hA hl).mono ?_
  rintro e w' ⟨v, rfl, hown, hb⟩
  have hf : ∃ A2 c2, v = .slice A2 (nodeOf es node).length c2 := by
    rcases Joins.ownsRow_forms hown with ⟨rfl, h0⟩ | ⟨g, cap, rfl⟩
    · exact ⟨none, 0, by rw [h0]⟩
    · exact ⟨_, _, rfl⟩
  obtain ⟨A2, c2, rfl⟩ := hf
  exact ⟨A2, c2, rfl, ownEv hown rfl, hb⟩
theorem eqInK (d : Nat) (x y z : Int) (w : World) : (Op.equalIn (d + 1 + 1) 30 (.agg #[.int .i64 x, .int .i64 y, .int .u32 z]) (.agg #[.int .i64 x, .int .i64 y, .int .u32 z])).run Tryd.prog w = .ok true w := by
  have u3 := Tryd.underlying2
  have u4 := Tryd.underlying3
  have u5 := Tryd.underlying28
  rw [run_equalIn_agg w (d + 1) 30 _ _ (by kernel_rfl) (by kernel_rfl)]
  simp only [Program.fieldsOf, Tryd.underlying30]
  go_simp
theorem neEv (e : Ev) (w : World) : (binOp .neq 32 (.agg #[.int .i64 e.tick, .int .i64 e.node, .int .i64 e.kind, .int .i64 e.key.t, .int .i64 e.key.f, .int .u32 e.key.s, .int .i64 e.no, .int .i64 e.err])
    (.agg #[.int .i64 e.tick, .int .i64 e.node, .int .i64 e.kind, .int .i64 e.key.t, .int .i64 e.key.f, .int .u32 e.key.s, .int .i64 e.no, .int .i64 e.err])).run Tryd.prog w = .ok (.bool false) w := by
  have u3 := Tryd.underlying2
  have u4 := Tryd.underlying3
  have u6 := Tryd.underlying24
  have hk := eqInK
  rw [run_neq_struct, show (10000 : Nat) = 9997 + 1 + 1 + 1 from rfl]
  generalize (9997 : Nat) = d
  rw [run_equalIn_agg w (d + 1 + 1) 32 _ _ (by kernel_rfl) (by kernel_rfl)]
  simp only [Program.fieldsOf, Tryd.underlying32]
  go_simp

set_option maxHeartbeats 3200000 in
set_option maxRecDepth 100000 in
theorem walkOf_ (len n : Nat) (A : Option Addr) (c : Nat) (es : List Ev) (hn : es.length = n) (hmin : min (len : Int) 60 = (n : Int)) (hc : len ≤ c) (hm : c ≤ maxLen) (node kind : Int) (w : World) (hA : EvAt w A es) (h : Tabs w) :
    Calls Tryd.prog 4 #[.slice A len c, .int .i64 node, .int .i64 kind] w fun e w' => e = .returned (.bool true) ∧ Below w.heap.size w w' := by
  unfold maxLen at hm
  have hn60 : n ≤ 60 := by omega
  have hmax : max (n : Int) 0 = (n : Int) := by omega
  have hl1 : (nodeOf es node).length ≤ 60 := Nat.le_trans (nodeOf_le _ _) (by omega)
  obtain ⟨i0, hi, hz0, hz1, hz2⟩ := info_parts evInfo
  have HN := Lib.hid hn
  have HT := Lib.hid h
  clear h hn
  go_enter Tryd.func4, Tryd.ntmps4
  go_wp2_with fail
  go_loopw [7, 8, 20] (fun v m i wr => ∃ k : Nat, k ≤ n ∧ i = .int .i64 k ∧ wr.ownsRow w.heap.size 32 8 v (nodeOf (es.take k) node).length (flatC (nodeOf (es.take k) node)) ∧ m = .int .i64 (countOf (es.take k) kind) ∧ Below w.heap.size w wr) (fun _ _ i _ => n - (intOf i).toNat)
  case atStart => exact ⟨0, Nat.zero_le _, rfl, World.ownsRow_nil _ _ _ _, rfl, Below.refl _ _⟩
  case round =>
    obtain ⟨k, hk, rfl, hown, rfl, hb⟩ := hrel
    have hl2 : (nodeOf (es.take k) node).length ≤ k := Nat.le_trans (nodeOf_le _ _) (List.length_take_le _ _)
    have hd := countOf_le (es.take k) kind
    have hl3 : (es.take k).length ≤ k := List.length_take_le _ _
    by_cases hlt : k < n
    · have hlt' : k < es.length := by rw [HN.out]; exact hlt
      obtain ⟨b, off, rfl, c0, c1, c2, c3, c4, c5, c6, c7⟩ := hA.at_ hb hlt'
      by_cases hq : es[k].node = node
      · by_cases hp : es[k].kind = kind
        · have hq' : (es[k].node == node) = true := by simpa using hq
          have HS := Lib.hid (nodeOf_yes es node k hlt' hq)
          have hp' : (es[k].kind == kind) = true := by simpa using hp
          have HP : Hid (countOf (es.take (k + 1)) kind = countOf (es.take k) kind + 1) := by unfold Hid; rw [countOf_snoc es kind k hlt', if_pos hp]
          clear hq hp
          have hown1 := (hown.alloc (.cells es[k].cells 32)).alloc (.cells es[k].cells 32)
          have hb1 := (hb.alloc hb.size (.cells es[k].cells 32)).alloc (by have := hb.size; simp; omega) (.cells es[k].cells 32)
          go_wp2_with (at_builtin; refine wpList_append_own _ rfl _ _ 27 rfl w.heap.size 32 i0 _ 8 64 Tryd.underlying27 hi hz0 hz1 hz2 rfl (by decide) _ _ _ rfl hown1 ⟨wr.heap.size + 1, 0, none⟩ 1 1 es[k].cells.toList rfl rfl ?c1 ?c2 ?c3 ?c4 ?c5 ?_)
          case c1 =>
            intro j u hj
            rw [Lib.add_plain, World.cell?_alloc_at _ _ _ _ (by simp)]
            simpa [Ev.cells] using hj
          case c2 => intro u hu; simp [Ev.cells] at hu; rcases hu with rfl | rfl | rfl | rfl | rfl | rfl | rfl | rfl <;> rfl
          case c3 => unfold maxLen; omega
          case c4 => omega
          case c5 => exact hb1.size
          intro v' w1 hown' hgrow _
          have hb3 : Below w.heap.size w w1 := hb1.grown hgrow hb1.size (fun j hj => (hown.lt j hj).1)
          have d2 : w1.cell? ⟨wr.heap.size, 2, none⟩ = some (.int .i64 es[k].kind) := by
            have hold : ((wr.alloc (.cells es[k].cells 32)).alloc (.cells es[k].cells 32)).cell? ⟨wr.heap.size, 2, none⟩ = some (.int .i64 es[k].kind) := by simp [Ev.cells]
            rw [World.cell?_of_block (hgrow.block wr.heap.size (by simp; omega) (fun e => by have := (hown.lt _ e.symm).2; omega))]
            exact hold
          go_wp2
          go_roundw
          case rel => exact ⟨k + 1, by omega, by go_num, by rw [HS.out, List.length_append, flatC_snoc]; exact hown', by rw [HP.out], hb3⟩
          case measure => simp [intOf]; omega
        · have hq' : (es[k].node == node) = true := by simpa using hq
          have HS := Lib.hid (nodeOf_yes es node k hlt' hq)
          have hp' : (es[k].kind == kind) = false := by simpa using hp
          have HP : Hid (countOf (es.take (k + 1)) kind = countOf (es.take k) kind) := by unfold Hid; rw [countOf_snoc es kind k hlt', if_neg hp, Int.add_zero]
          clear hq hp
          have hown1 := (hown.alloc (.cells es[k].cells 32)).alloc (.cells es[k].cells 32)
          have hb1 := (hb.alloc hb.size (.cells es[k].cells 32)).alloc (by have := hb.size; simp; omega) (.cells es[k].cells 32)
          go_wp2_with (at_builtin; refine wpList_append_own _ rfl _ _ 27 rfl w.heap.size 32 i0 _ 8 64 Tryd.underlying27 hi hz0 hz1 hz2 rfl (by decide) _ _ _ rfl hown1 ⟨wr.heap.size + 1, 0, none⟩ 1 1 es[k].cells.toList rfl rfl ?c1 ?c2 ?c3 ?c4 ?c5 ?_)
          case c1 =>
            intro j u hj
            rw [Lib.add_plain, World.cell?_alloc_at _ _ _ _ (by simp)]
            simpa [Ev.cells] using hj
          case c2 => intro u hu; simp [Ev.cells] at hu; rcases hu with rfl | rfl | rfl | rfl | rfl | rfl | rfl | rfl <;> rfl
          case c3 => unfold maxLen; omega
          case c4 => omega
          case c5 => exact hb1.size
          intro v' w1 hown' hgrow _
          have hb3 : Below w.heap.size w w1 := hb1.grown hgrow hb1.size (fun j hj => (hown.lt j hj).1)
          have d2 : w1.cell? ⟨wr.heap.size, 2, none⟩ = some (.int .i64 es[k].kind) := by
            have hold : ((wr.alloc (.cells es[k].cells 32)).alloc (.cells es[k].cells 32)).cell? ⟨wr.heap.size, 2, none⟩ = some (.int .i64 es[k].kind) := by simp [Ev.cells]
            rw [World.cell?_of_block (hgrow.block wr.heap.size (by simp; omega) (fun e => by have := (hown.lt _ e.symm).2; omega))]
            exact hold
          go_wp2
          go_roundw
          case rel => exact ⟨k + 1, by omega, by go_num, by rw [HS.out, List.length_append, flatC_snoc]; exact hown', by rw [HP.out], hb3⟩
          case measure => simp [intOf]; omega
      · by_cases hp : es[k].kind = kind
        · have hq' : (es[k].node == node) = false := by simpa using hq
          have HS := Lib.hid (nodeOf_no es node k hlt' hq)
          have hp' : (es[k].kind == kind) = true := by simpa using hp
          have HP : Hid (countOf (es.take (k + 1)) kind = countOf (es.take k) kind + 1) := by unfold Hid; rw [countOf_snoc es kind k hlt', if_pos hp]
          clear hq hp
          go_wp2
          go_roundw
          case rel => exact ⟨k + 1, by omega, by go_num, by rw [HS.out]; exact hown.alloc _, by rw [HP.out], hb.alloc hb.size _⟩
          case measure => simp [intOf]; omega
        · have hq' : (es[k].node == node) = false := by simpa using hq
          have HS := Lib.hid (nodeOf_no es node k hlt' hq)
          have hp' : (es[k].kind == kind) = false := by simpa using hp
          have HP : Hid (countOf (es.take (k + 1)) kind = countOf (es.take k) kind) := by unfold Hid; rw [countOf_snoc es kind k hlt', if_neg hp, Int.add_zero]
          clear hq hp
          go_wp2
          go_roundw
          case rel => exact ⟨k + 1, by omega, by go_num, by rw [HS.out]; exact hown.alloc _, by rw [HP.out], hb.alloc hb.size _⟩
          case measure => simp [intOf]; omega
    · have ht : es.take k = es := List.take_of_length_le (by rw [HN.out]; omega)
      rw [ht] at hown ⊢
      clear ht hl2 hl3 hd
      have hf : ∃ A1 c1, u7 = .slice A1 (nodeOf es node).length c1 := by
        rcases Joins.ownsRow_forms hown with ⟨rfl, h0⟩ | ⟨g, cap, rfl⟩
        · exact ⟨none, 0, by rw [h0]⟩
        · exact ⟨_, _, rfl⟩
      obtain ⟨A1, c1, rfl⟩ := hf
      have hE1 := ownEv hown rfl
      have hA1 := hA.below hb
      clear hown hi hz0 hz1 hz2
      go_wp2_with fail
      refine (traceOfN A c es HN.out node _ hA1 hn60).mono ?_
      rintro e w2 ⟨A2, c2, rfl, hE2, hb2⟩
      have hE1' := hE1.below hb2
      have hA2 := hA1.below hb2
      have hb02 := hb.trans (hb2.mono hb.size)
      clear hE1 hA1 hb2
      go_wp2_with fail
      refine (traceCountN A c es HN.out kind _ hA2 hn60).mono ?_
      rintro e w3 ⟨rfl, hb3⟩
      have hE1 := hE1'.below hb3
      have hE3 := hE2.below hb3
      have hb03 := hb02.trans (hb3.mono hb02.size)
      clear hE1' hE2 hA2 hb02 hb3 hb
      generalize nodeOf es node = fs at *
      go_wp2_with fail
      go_loopw [12, 56] (fun _ i wq => ∃ j : Nat, j ≤ fs.length ∧ i = .int .i64 j ∧ Below w3.heap.size w3 wq) (fun _ i _ => fs.length - (intOf i).toNat)
      case atStart => exact ⟨0, Nat.zero_le _, rfl, Below.refl _ _⟩
      case round =>
        obtain ⟨j, hj, rfl, hbq⟩ := hrel
        by_cases hjl : j < fs.length
        · obtain ⟨b1, o1, rfl, c0, c1, c2, c3, c4, c5, c6, c7⟩ := hE1.at_ hbq hjl
          obtain ⟨b2, o2, rfl, d0, d1, d2, d3, d4, d5, d6, d7⟩ := hE3.at_ hbq hjl
          have hne := neEv fs[j]
          go_wp2
          go_quiet (fail)
          go_wp2
          go_roundw
          case rel => exact ⟨j + 1, by omega, by go_num, below_draws hbq _⟩
          case measure => simp [intOf]; omega
        · have hT := HT.out.below (hb03.trans (hbq.mono hb03.size))
          go_wp2_with (go_at_call 11; refine (works50 _ hT).mono ?_; rintro e w4 ⟨rfl, hb4⟩)
          go_ret
          have hb05 := hb03.trans (hbq.mono hb03.size)
          exact ⟨rfl, hb05.trans (hb4.mono hb05.size)⟩
end Go.Proofs.YtjnhkpjmjjhhdaaDoor
