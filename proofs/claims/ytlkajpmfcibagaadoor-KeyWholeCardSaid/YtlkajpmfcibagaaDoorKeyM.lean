/- Slices of keys; whether a key is in one; whether they rise. -/
import Derived.Test.YtlkajpmfcibagaaDoorKeyC
import Derived.Test.YtlkajpmfcibagaaDoorKeyQ
namespace Go.Proofs.YtlkajpmfcibagaaDoor
open Go.RowKit Law
set_option linter.unusedVariables false

def K.cells (k : K) : Array Value := #[.int .i64 k.t, .int .i64 k.f, .int .u32 k.s]
/-- A slice value's address and the keys that it reads as. -/
def KeyAt (w : World) (A : Option Addr) (ks : List K) : Prop :=
  ∀ (k : Nat) (e : K), ks[k]? = some e → ∃ b off, A = some ⟨b, off, none⟩ ∧ b < w.heap.size ∧ ∀ j v, e.cells[j]? = some v → w.cell? ⟨b, off + k * 3 + j, none⟩ = some v
theorem KeyAt.below {w w' : World} {A : Option Addr} {ks : List K} (h : KeyAt w A ks) (hb : Below w.heap.size w w') : KeyAt w' A ks := fun k e he => by
  obtain ⟨b, off, rfl, hlt, hc⟩ := h k e he
  exact ⟨b, off, rfl, Nat.lt_of_lt_of_le hlt hb.size, fun j v hv => by rw [hb.cell (p := ⟨b, off + k * 3 + j, none⟩) hlt]; exact hc j v hv⟩
theorem KeyAt.take {w : World} {A : Option Addr} {ks : List K} (h : KeyAt w A ks) (n : Nat) : KeyAt w A (ks.take n) := fun k e he => h k e (by
  rw [List.getElem?_take] at he
  split at he
  · exact he
  · cases he)
/-- The three cells of one, as the walk asks for them. -/
theorem KeyAt.at_ {w wr : World} {A : Option Addr} {ks : List K} (h : KeyAt w A ks) (hb : Below w.heap.size w wr) {k : Nat} (hk : k < ks.length) :
    ∃ b off, A = some ⟨b, off, none⟩ ∧ wr.cell? ⟨b, off + k * 3, none⟩ = some (.int .i64 ks[k].t) ∧ wr.cell? ⟨b, off + k * 3 + 1, none⟩ = some (.int .i64 ks[k].f) ∧ wr.cell? ⟨b, off + k * 3 + 2, none⟩ = some (.int .u32 ks[k].s) := by
  obtain ⟨b, off, rfl, hlt, hc⟩ := (h.below hb) k ks[k] (List.getElem?_eq_getElem hk)
  exact ⟨b, off, rfl, hc 0 _ rfl, hc 1 _ rfl, hc 2 _ rfl⟩

/-! ### whether a key is in a slice -/
def inK (ks : List K) (x : K) : Bool := ks.any fun k => eqK k x
theorem inK_snoc (ks : List K) (k : Nat) (hk : k < ks.length) (x : K) : inK (ks.take (k + 1)) x = (inK (ks.take k) x || eqK ks[k] x) := by
  unfold inK
  rw [List.take_succ_eq_append_getElem hk, List.any_append]
  simp
theorem inK_hit {ks : List K} {k : Nat} (hk : k < ks.length) {x : K} (h : eqK ks[k] x = true) : inK ks x = true := by
  unfold inK
  rw [List.any_eq_true]
  exact ⟨ks[k], List.getElem_mem hk, h⟩
set_option maxHeartbeats 800000 in
theorem refIn {n : Nat} (A : Option Addr) (c : Nat) (ks : List K) (hn : ks.length = n) (x : K) (hm : n ≤ 1000000) (w : World) (hA : KeyAt w A ks) :
    Calls Tryd.prog 19 #[.slice A n c, .agg #[.int .i64 x.t, .int .i64 x.f, .int .u32 x.s]] w fun e w' => e = .returned (.bool (inK ks x)) ∧ Below w.heap.size w w' := by
  have HN := Lib.hid hn
  clear hn
  have hb0 : Below w.heap.size w (w.alloc (.cells #[.int .i64 x.t, .int .i64 x.f, .int .u32 x.s] 24)) := (Below.refl _ w).alloc (Nat.le_refl _) _
  have hx : ∀ wq, Below (w.alloc (.cells #[.int .i64 x.t, .int .i64 x.f, .int .u32 x.s] 24)).heap.size (w.alloc (.cells #[.int .i64 x.t, .int .i64 x.f, .int .u32 x.s] 24)) wq →
      wq.cell? ⟨w.heap.size, 0, none⟩ = some (.int .i64 x.t) ∧ wq.cell? ⟨w.heap.size, 1, none⟩ = some (.int .i64 x.f) ∧ wq.cell? ⟨w.heap.size, 2, none⟩ = some (.int .u32 x.s) := by
    intro wq hq
    refine ⟨?_, ?_, ?_⟩ <;> rw [hq.cell (by simp)] <;> simp
  go_enter Tryd.func19, Tryd.ntmps19
  go_wp2
  go_loopw [5] (fun i wr => ∃ k : Nat, k ≤ n ∧ i = .int .i64 k ∧ inK (ks.take k) x = false ∧ Below (w.alloc (.cells #[.int .i64 x.t, .int .i64 x.f, .int .u32 x.s] 24)).heap.size (w.alloc (.cells #[.int .i64 x.t, .int .i64 x.f, .int .u32 x.s] 24)) wr) (fun i _ => n - (intOf i).toNat)
  case atStart => exact ⟨0, Nat.zero_le _, rfl, rfl, Below.refl _ _⟩
  case round =>
    obtain ⟨k, hk, rfl, hin, hb⟩ := hrel
    have hbw := hb0.trans (hb.mono hb0.size)
    by_cases hlt : k < n
    · have hlt' : k < ks.length := by rw [HN.out]; exact hlt
      obtain ⟨b, off, rfl, c0, c1, c2⟩ := hA.at_ hbw hlt'
      obtain ⟨d0, d1, d2⟩ := hx _ hb
      have he := run_eqK ks[k] x
      have HS := Lib.hid (inK_snoc ks k hlt' x)
      cases hq : eqK ks[k] x
      · rw [hq] at he
        have HI := Lib.hid (show inK (ks.take (k + 1)) x = false by rw [HS.out, hin, hq]; rfl)
        clear hq hin
        go_wp2
        go_quiet (fail)
        go_wp2
        go_roundw
        case rel => exact ⟨k + 1, by omega, by go_num, HI.out, below_draws hb _⟩
        case measure => simp [intOf]; omega
      · rw [hq] at he
        have HI := Lib.hid (inK_hit hlt' hq)
        clear hq hin
        go_wp2
        go_quiet (fail)
        go_wp2
        go_ret
        exact ⟨ret_bool (by rw [HI.out]), below_draws hbw _⟩
    · have ht : ks.take k = ks := List.take_of_length_le (by rw [HN.out]; omega)
      rw [ht] at hin
      have HI := Lib.hid hin
      clear hin ht
      go_wp2
      go_ret
      exact ⟨ret_bool (by rw [HI.out]), hbw⟩
end Go.Proofs.YtlkajpmfcibagaaDoor
