/- Whether keys rise. -/
import Derived.Test.YtlkajpmfcibagaaDoorKeyM
namespace Go.Proofs.YtlkajpmfcibagaaDoor
open Go.RowKit Law
set_option linter.unusedVariables false

def k0 : K := ⟨0, 0, 0⟩
/-- Whether the first k rise. -/
def upTo (ks : List K) : Nat → Bool
  | 0 => true
  | k + 1 => upTo ks k && (k == 0 || lessK (ks.getD (k - 1) k0) (ks.getD k k0))
theorem upTo_one (ks : List K) : upTo ks 1 = true := rfl
theorem getD_at {ks : List K} {k : Nat} (hk : k < ks.length) : ks.getD k k0 = ks[k] := by
  rw [List.getD_eq_getElem?_getD, List.getElem?_eq_getElem hk]
  rfl
theorem upTo_step {ks : List K} {k : Nat} (hk : k < ks.length) (h0 : 0 < k) : upTo ks (k + 1) = (upTo ks k && lessK (ks[k - 1]'(by omega)) ks[k]) := by
  show (upTo ks k && (k == 0 || lessK (ks.getD (k - 1) k0) (ks.getD k k0))) = _
  rw [getD_at hk, getD_at (show k - 1 < ks.length by omega), show (k == 0) = false by simp; omega, Bool.false_or]
theorem upTo_mono (ks : List K) {k n : Nat} (hkn : k ≤ n) (h : upTo ks k = false) : upTo ks n = false := by
  induction n with
  | zero => obtain rfl : k = 0 := by omega
            exact h
  | succ n ih =>
    by_cases hk : k = n + 1
    · subst hk; exact h
    · show (upTo ks n && _) = false
      rw [ih (by omega), Bool.false_and]
set_option maxHeartbeats 800000 in
theorem keyRising {n : Nat} (A : Option Addr) (c : Nat) (ks : List K) (hn : ks.length = n) (hm : n ≤ 1000000) (w : World) (hA : KeyAt w A ks) :
    Calls Tryd.prog 21 #[.slice A n c] w fun e w' => e = .returned (.bool (upTo ks n)) ∧ Below w.heap.size w w' := by
  have HN := Lib.hid hn
  clear hn
  go_enter Tryd.func21, Tryd.ntmps21
  go_wp2
  go_loopw [3] (fun i wr => ∃ k : Nat, 1 ≤ k ∧ k ≤ max n 1 ∧ i = .int .i64 k ∧ upTo ks k = true ∧ Below w.heap.size w wr) (fun i _ => n - (intOf i).toNat)
  case atStart => exact ⟨1, by omega, by omega, rfl, rfl, Below.refl _ _⟩
  case round =>
    obtain ⟨k, hk1, hk, rfl, hup, hb⟩ := hrel
    by_cases hlt : k < n
    · have hlt' : k < ks.length := by rw [HN.out]; exact hlt
      have hlp : k - 1 < ks.length := by omega
      have hc : ∀ W : Later wr, ∃ b off, A = some ⟨b, off, none⟩ ∧ W.val.cell? ⟨b, off + k * 3, none⟩ = some (.int .i64 ks[k].t) ∧ W.val.cell? ⟨b, off + k * 3 + 1, none⟩ = some (.int .i64 ks[k].f) ∧ W.val.cell? ⟨b, off + k * 3 + 2, none⟩ = some (.int .u32 ks[k].s) := fun W => hA.at_ (hb.trans (W.h.mono hb.size)) hlt'
      have hp : ∀ W : Later wr, ∃ b off, A = some ⟨b, off, none⟩ ∧ W.val.cell? ⟨b, off + (k - 1) * 3, none⟩ = some (.int .i64 ks[k - 1].t) ∧ W.val.cell? ⟨b, off + (k - 1) * 3 + 1, none⟩ = some (.int .i64 ks[k - 1].f) ∧ W.val.cell? ⟨b, off + (k - 1) * 3 + 2, none⟩ = some (.int .u32 ks[k - 1].s) := fun W => hA.at_ (hb.trans (W.h.mono hb.size)) hlp
      obtain ⟨b, off, rfl, -⟩ := hA.at_ hb hlt'
      have hc' : ∀ W : Later wr, W.val.cell? ⟨b, off + k * 3, none⟩ = some (.int .i64 ks[k].t) ∧ W.val.cell? ⟨b, off + k * 3 + 1, none⟩ = some (.int .i64 ks[k].f) ∧ W.val.cell? ⟨b, off + k * 3 + 2, none⟩ = some (.int .u32 ks[k].s) := fun W => by
        obtain ⟨b', o', hA', h⟩ := hc W
        injection hA' with hA'
        injection hA' with h1 h2 _
        subst h1 h2
        exact h
      have hp' : ∀ W : Later wr, W.val.cell? ⟨b, off + (k - 1) * 3, none⟩ = some (.int .i64 ks[k - 1].t) ∧ W.val.cell? ⟨b, off + (k - 1) * 3 + 1, none⟩ = some (.int .i64 ks[k - 1].f) ∧ W.val.cell? ⟨b, off + (k - 1) * 3 + 2, none⟩ = some (.int .u32 ks[k - 1].s) := fun W => by
        obtain ⟨b', o', hA', h⟩ := hp W
        injection hA' with hA'
        injection hA' with h1 h2 _
        subst h1 h2
        exact h
      have HS := Lib.hid (upTo_step hlt' (by omega))
      have HU := Lib.hid hup
      have hk1' : ((k : Int) - 1).toNat = k - 1 := by omega
      clear hc hp hup
      cases hq : lessK ks[k - 1] ks[k]
      · have C := Lib.hid (fun W : Later wr => keyLessB (a := ks[k - 1]) (b := ks[k]) hq W.val)
        have HF : Hid (upTo ks n = false) := upTo_mono ks (k := k + 1) (by omega) (by rw [HS.out, HU.out, hq]; rfl)
        clear hq
        go_wp2_with fail
        refine wp_region_later (by kernel_rfl) (by kernel_rfl) ?_
        repeat (go_big_quiet_step (exact later_of (C.out _)))
        refine wpQuiet_nil ?_
        rintro _ ⟨⟨W, hW⟩, rfl⟩
        clear hc' hp'
        go_wp2_with fail
        go_ret
        exact ⟨ret_bool (by rw [HF.out]), hb.trans (hW.mono hb.size)⟩
      · have C := Lib.hid (fun W : Later wr => keyLessB (a := ks[k - 1]) (b := ks[k]) hq W.val)
        have HF : Hid (upTo ks (k + 1) = true) := by unfold Hid; rw [HS.out, HU.out, hq]; rfl
        clear hq
        go_wp2_with fail
        refine wp_region_later (by kernel_rfl) (by kernel_rfl) ?_
        repeat (go_big_quiet_step (exact later_of (C.out _)))
        refine wpQuiet_nil ?_
        rintro _ ⟨⟨W, hW⟩, rfl⟩
        clear hc' hp'
        go_wp2_with fail
        go_roundw
        case rel => exact ⟨k + 1, by omega, by omega, by go_num, HF.out, hb.trans (hW.mono hb.size)⟩
        case measure => simp [intOf]; omega
    · have HF : Hid (upTo ks n = true) := by
        unfold Hid
        by_cases h0 : n = 0
        · rw [h0]; rfl
        · rw [show n = k by omega]; exact hup
      clear hup
      go_wp2
      go_ret
      exact ⟨ret_bool (by rw [HF.out]), hb⟩
end Go.Proofs.YtlkajpmfcibagaaDoor
