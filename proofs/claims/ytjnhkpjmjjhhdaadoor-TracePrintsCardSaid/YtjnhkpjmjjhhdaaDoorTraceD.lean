/- Slices of events: how many are of a kind; those of a node. -/
import Derived.Test.YtjnhkpjmjjhhdaaDoorTraceC
import Derived.Laws.OwnMore
import Derived.OwnWalk
namespace Go.Proofs.YtjnhkpjmjjhhdaaDoor
open Go.RowKit Law
set_option linter.unusedVariables false

/-- A slice value's address and the events that it reads as. -/
def EvAt (w : World) (A : Option Addr) (es : List Ev) : Prop :=
  ∀ (k : Nat) (e : Ev), es[k]? = some e → ∃ b off, A = some ⟨b, off, none⟩ ∧ b < w.heap.size ∧ ∀ j v, e.cells[j]? = some v → w.cell? ⟨b, off + k * 8 + j, none⟩ = some v
theorem EvAt.below {w w' : World} {A : Option Addr} {es : List Ev} (h : EvAt w A es) (hb : Below w.heap.size w w') : EvAt w' A es := fun k e he => by
  obtain ⟨b, off, rfl, hlt, hc⟩ := h k e he
  exact ⟨b, off, rfl, Nat.lt_of_lt_of_le hlt hb.size, fun j v hv => by rw [hb.cell (p := ⟨b, off + k * 8 + j, none⟩) hlt]; exact hc j v hv⟩
theorem EvAt.take {w : World} {A : Option Addr} {es : List Ev} (h : EvAt w A es) (n : Nat) : EvAt w A (es.take n) := fun k e he => h k e (by
  rw [List.getElem?_take] at he
  split at he
  · exact he
  · cases he)
/-- The eight cells of one, as the walk asks for them. -/
theorem EvAt.at_ {w wr : World} {A : Option Addr} {es : List Ev} (h : EvAt w A es) (hb : Below w.heap.size w wr) {k : Nat} (hk : k < es.length) :
    ∃ b off, A = some ⟨b, off, none⟩ ∧ wr.cell? ⟨b, off + k * 8, none⟩ = some (.int .i64 es[k].tick) ∧ wr.cell? ⟨b, off + k * 8 + 1, none⟩ = some (.int .i64 es[k].node) ∧ wr.cell? ⟨b, off + k * 8 + 2, none⟩ = some (.int .i64 es[k].kind) ∧
      wr.cell? ⟨b, off + k * 8 + 3, none⟩ = some (.int .i64 es[k].key.t) ∧ wr.cell? ⟨b, off + k * 8 + 4, none⟩ = some (.int .i64 es[k].key.f) ∧ wr.cell? ⟨b, off + k * 8 + 5, none⟩ = some (.int .u32 es[k].key.s) ∧
      wr.cell? ⟨b, off + k * 8 + 6, none⟩ = some (.int .i64 es[k].no) ∧ wr.cell? ⟨b, off + k * 8 + 7, none⟩ = some (.int .i64 es[k].err) := by
  obtain ⟨b, off, rfl, hlt, hc⟩ := (h.below hb) k es[k] (List.getElem?_eq_getElem hk)
  exact ⟨b, off, rfl, hc 0 _ rfl, hc 1 _ rfl, hc 2 _ rfl, hc 3 _ rfl, hc 4 _ rfl, hc 5 _ rfl, hc 6 _ rfl, hc 7 _ rfl⟩

def countOf (es : List Ev) (kind : Int) : Int := ((es.filter fun e => e.kind == kind).length : Int)
theorem countOf_le (es : List Ev) (kind : Int) : 0 ≤ countOf es kind ∧ countOf es kind ≤ es.length := by
  unfold countOf
  exact ⟨by omega, by have := List.length_filter_le (fun e : Ev => e.kind == kind) es; omega⟩
theorem countOf_snoc (es : List Ev) (kind : Int) (k : Nat) (hk : k < es.length) : countOf (es.take (k + 1)) kind = countOf (es.take k) kind + if es[k].kind = kind then 1 else 0 := by
  unfold countOf
  rw [List.take_succ_eq_append_getElem hk, List.filter_append, List.length_append]
  by_cases h : es[k].kind = kind <;> simp [h]
set_option maxHeartbeats 800000 in
theorem traceCount (A : Option Addr) (c : Nat) (es : List Ev) (kind : Int) (w : World) (hA : EvAt w A es) (hl : es.length ≤ 60) :
    Calls Tryd.prog 13 #[.slice A es.length c, .int .i64 kind] w fun e w' => e = .returned (.int .i64 (countOf es kind)) ∧ Below w.heap.size w w' := by
  go_enter Tryd.func13, Tryd.ntmps13
  go_wp2
  go_loopw [5, 10] (fun n i wr => ∃ k : Nat, k ≤ es.length ∧ i = .int .i64 k ∧ n = .int .i64 (countOf (es.take k) kind) ∧ Below w.heap.size w wr) (fun _ i _ => es.length - (intOf i).toNat)
  case atStart => exact ⟨0, Nat.zero_le _, rfl, rfl, Below.refl _ _⟩
  case round =>
    obtain ⟨k, hk, rfl, rfl, hb⟩ := hrel
    have hd := countOf_le (es.take k) kind
    have hl2 : (es.take k).length ≤ k := List.length_take_le _ _
    by_cases hlt : k < es.length
    · obtain ⟨b, off, rfl, c0, c1, c2, c3, c4, c5, c6, c7⟩ := hA.at_ hb hlt
      have hsn := Lib.hid (countOf_snoc es kind k hlt)
      have hb2 := hb.alloc hb.size (.cells es[k].cells 32)
      by_cases hq : es[k].kind = kind
      · have hq' : (es[k].kind == kind) = true := by simpa using hq
        have HQ := Lib.hid hq
        clear hq
        go_wp2
        go_roundw
        case rel => exact ⟨k + 1, by omega, by go_num, by rw [hsn.out, if_pos HQ.out], hb2⟩
        case measure => simp [intOf]; omega
      · have hq' : (es[k].kind == kind) = false := by simpa using hq
        have HQ := Lib.hid hq
        clear hq
        go_wp2
        go_roundw
        case rel => exact ⟨k + 1, by omega, by go_num, by rw [hsn.out, if_neg HQ.out, Int.add_zero], hb2⟩
        case measure => simp [intOf]; omega
    · go_wp2
      go_ret
      exact ⟨ret_int (by rw [List.take_of_length_le (by omega)]), hb⟩

/-! ### those of a node: a row of the call's own -/
def flatC (es : List Ev) : List Value := es.flatMap fun e => e.cells.toList
theorem flatC_snoc (es : List Ev) (e : Ev) : flatC (es ++ [e]) = flatC es ++ e.cells.toList := by simp [flatC]
def nodeOf (es : List Ev) (node : Int) : List Ev := es.filter fun e => e.node == node
theorem nodeOf_le (es : List Ev) (node : Int) : (nodeOf es node).length ≤ es.length := List.length_filter_le _ _
theorem nodeOf_yes (es : List Ev) (node : Int) (k : Nat) (hk : k < es.length) (h : es[k].node = node) : nodeOf (es.take (k + 1)) node = nodeOf (es.take k) node ++ [es[k]] := by
  unfold nodeOf
  rw [List.take_succ_eq_append_getElem hk, List.filter_append]
  simp [h]
theorem nodeOf_no (es : List Ev) (node : Int) (k : Nat) (hk : k < es.length) (h : es[k].node ≠ node) : nodeOf (es.take (k + 1)) node = nodeOf (es.take k) node := by
  unfold nodeOf
  rw [List.take_succ_eq_append_getElem hk, List.filter_append]
  simp [h]
theorem evInfo : (Tryd.prog.info? 32).map (fun i => (i.zero, i.size, i.bytes)) = some (some (.agg #[.int .i64 0, .int .i64 0, .int .i64 0, .int .i64 0, .int .i64 0, .int .u32 0, .int .i64 0, .int .i64 0]), 8, 64) := by kernel_rfl
/-- The row is kept where only new memory is made. -/
theorem own_below {w w' : World} {base size n : Nat} {e : TypeId} {v : Value} {xs : List Value} (h : w.ownsRow base e size v n xs) (hb : Below w.heap.size w w') : w'.ownsRow base e size v n xs :=
  h.kept (row := none) ⟨hb.os, hb.tape, hb.output, hb.size, fun i hi _ => hb.block i hi⟩ (by cases hv : v.ownBlock <;> simp)
set_option maxHeartbeats 1600000 in
theorem traceOf (A : Option Addr) (c : Nat) (es : List Ev) (node : Int) (w : World) (hA : EvAt w A es) (hl : es.length ≤ 60) :
    Calls Tryd.prog 12 #[.slice A es.length c, .int .i64 node] w fun e w' => ∃ v, e = .returned v ∧ w'.ownsRow w.heap.size 32 8 v (nodeOf es node).length (flatC (nodeOf es node)) ∧ Below w.heap.size w w' := by
  obtain ⟨i0, hi, hz0, hz1, hz2⟩ := info_parts evInfo
  go_enter Tryd.func12, Tryd.ntmps12
  go_wp2
  go_loopw [5, 10] (fun v i wr => ∃ k : Nat, k ≤ es.length ∧ i = .int .i64 k ∧ wr.ownsRow w.heap.size 32 8 v (nodeOf (es.take k) node).length (flatC (nodeOf (es.take k) node)) ∧ Below w.heap.size w wr) (fun _ i _ => es.length - (intOf i).toNat)
  case atStart => exact ⟨0, Nat.zero_le _, rfl, World.ownsRow_nil _ _ _ _, Below.refl _ _⟩
  case round =>
    obtain ⟨k, hk, rfl, hown, hb⟩ := hrel
    have hl2 : (nodeOf (es.take k) node).length ≤ k := Nat.le_trans (nodeOf_le _ _) (List.length_take_le _ _)
    by_cases hlt : k < es.length
    · obtain ⟨b, off, rfl, c0, c1, c2, c3, c4, c5, c6, c7⟩ := hA.at_ hb hlt
      by_cases hq : es[k].node = node
      · have hq' : (es[k].node == node) = true := by simpa using hq
        have HS := Lib.hid (nodeOf_yes es node k hlt hq)
        clear hq
        have hown1 := (hown.alloc (.cells es[k].cells 32)).alloc (.cells es[k].cells 32)
        have hb1 := (hb.alloc hb.size (.cells es[k].cells 32)).alloc (by have := hb.size; simp; omega) (.cells es[k].cells 32)
        go_wp2_with (at_builtin; refine wpList_append_own _ rfl _ _ 27 rfl w.heap.size 32 i0 _ 8 64 Tryd.underlying27 hi hz0 hz1 hz2 rfl (by decide) _ _ _ rfl hown1 ⟨wr.heap.size + 1, 0, none⟩ 1 1 es[k].cells.toList rfl rfl ?c1 ?c2 ?c3 ?c4 ?c5 ?_)
        case c1 =>
          intro j u hj
          rw [Lib.add_plain, World.cell?_alloc_at _ _ _ _ (by simp)]
          simpa [Ev.cells] using hj
        case c2 => intro u hu; simp [Ev.cells] at hu; rcases hu with rfl | rfl | rfl | rfl | rfl | rfl | rfl | rfl <;> rfl
        case c3 => unfold maxLen; omega
        case c4 => omega
        case c5 => exact hb1.size
        intro v' w1 hown' hgrow _
        have hb3 : Below w.heap.size w w1 := hb1.grown hgrow hb1.size (fun j hj => (hown.lt j hj).1)
        go_wp2
        go_roundw
        case rel => exact ⟨k + 1, by omega, by go_num, by rw [HS.out, List.length_append, flatC_snoc]; exact hown', hb3⟩
        case measure => simp [intOf]; omega
      · have hq' : (es[k].node == node) = false := by simpa using hq
        have HS := Lib.hid (nodeOf_no es node k hlt hq)
        clear hq
        go_wp2
        go_roundw
        case rel => exact ⟨k + 1, by omega, by go_num, by rw [HS.out]; exact hown.alloc _, hb.alloc hb.size _⟩
        case measure => simp [intOf]; omega
    · go_wp2
      go_ret
      rw [List.take_of_length_le (by omega)] at hown
      exact ⟨_, rfl, hown, hb⟩
end Go.Proofs.YtjnhkpjmjjhhdaaDoor
