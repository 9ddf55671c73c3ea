/- One update more: ledger.Add and the reference's. -/
import Derived.Test.YtncmbbkcpmimjaaDoorLedA
import Derived.Test.YtncmbbkcpmimjaaDoorCrcR
namespace Go.Proofs.YtncmbbkcpmimjaaDoor
open Go.RowKit Law
set_option linter.unusedVariables false

def crcL (l : List UInt8) : Nat := notC (foldC 4294967295 l)
theorem crcL_lt (l : List UInt8) : crcL l < 4294967296 := notC_lt _
theorem crcMore0 {n : Nat} (A : Option Addr) (cap : Nat) (l : List UInt8) (hn : l.length = n) (hm : n ≤ 1000000) {r : Nat} (hr : crcL l = r) (w : World) (hA : U8At w A l) :
    Calls Tryd.prog 61 #[.int .u32 0, .slice A n cap] w fun e w' => e = .returned (.int .u32 (r : Int)) ∧ w' = w := by
  subst hr
  exact crcMore 0 (by decide) A cap l hn hm w hA
set_option maxHeartbeats 800000 in
theorem crcOne {n : Nat} (bp cp : Nat) (A : Option Addr) (cap : Nat) (l : List UInt8) (hn : l.length = n) (hm : n ≤ 1000000) (w : World) (hA : U8At w A l) (hc : w.cell? ⟨bp, 0, none⟩ = some (.slice A n cap)) :
    Calls Tryd.prog 44 #[.slice (some ⟨bp, 0, none⟩) 1 cp] w fun e w' => e = .returned (.int .u32 (crcL l : Int)) ∧ w' = w := by
  obtain ⟨r, hr⟩ : ∃ r, crcL l = r := ⟨_, rfl⟩
  rw [hr]
  have C := Lib.hid (crcMore0 A cap l hn hm hr w hA)
  clear hn hA hr
  go_enter Tryd.func44, Tryd.ntmps44
  go_wp2
  go_loopw [3, 8] (fun v i wr => ∃ k : Nat, k ≤ 1 ∧ i = .int .i64 k ∧ v = .int .u32 ((if k = 0 then 0 else r : Nat) : Int) ∧ wr = w) (fun _ i _ => 1 - (intOf i).toNat)
  case atStart => exact ⟨0, Nat.zero_le _, rfl, rfl, rfl⟩
  case round =>
    obtain ⟨k, hk, rfl, rfl, rfl⟩ := hrel
    by_cases hlt : k < 1
    · obtain rfl : k = 0 := by omega
      go_wp2_with fail
      refine C.out.mono ?_
      rintro e w1 ⟨rfl, rfl⟩
      go_wp2
      go_roundw
      case rel => exact ⟨1, by omega, rfl, rfl, by first | rfl | trivial⟩
      case measure => simp [intOf]
    · obtain rfl : k = 1 := by omega
      go_wp2
      go_ret
      first
        | exact ⟨rfl, rfl⟩
        | exact ⟨trivial, rfl⟩

/-! ### a ledger that may be written -/
def LdBox (w : World) (b : Nat) (l : Ld) : Prop := LdAt w b l ∧ ∀ j, j < 66 → w.frozen? ⟨b, j, none⟩ = false
theorem LdBox.set {w : World} {b : Nat} {l l' : Ld} (h : LdBox w b l) (j : Nat) (v : Value) (hj : j < l.cells.length) (hl : l'.cells = l.cells.set j v) : LdBox (w.setCell ⟨b, j, none⟩ v) b l' := by
  refine ⟨fun i u hi => ?_, fun i hi => by rw [World.frozen?_setCell]; exact h.2 i hi⟩
  rw [hl, List.getElem?_set] at hi
  rw [Nat.zero_add]
  by_cases hij : j = i
  · subst hij
    rw [if_pos rfl, if_pos hj] at hi
    cases hi
    have h2 := h.1 j l.cells[j] (List.getElem?_eq_getElem hj)
    rw [Nat.zero_add] at h2
    exact World.cell?_setCell_same' _ _ _ (by rw [h2]; rfl)
  · rw [if_neg hij] at hi
    rw [World.cell?_setCell_other _ _ _ _ (fun e => by injection e with _ e2; omega)]
    have h2 := h.1 i u hi
    rwa [Nat.zero_add] at h2
theorem LdBox.count {w : World} {b : Nat} {l : Ld} (h : LdBox w b l) (c : Int) : LdBox (w.setCell ⟨b, 0, none⟩ (.int .i64 c)) b { l with count := c } := h.set 0 _ (by simp [Ld.cells]) rfl
theorem LdBox.sum {w : World} {b : Nat} {l : Ld} (h : LdBox w b l) (s : Nat) : LdBox (w.setCell ⟨b, 1, none⟩ (.int .u64 (s : Int))) b { l with sum := s } := h.set 1 _ (by simp [Ld.cells]) rfl
theorem LdBox.of {w : World} {b : Nat} {l : Ld} (h : LdBox w b l) (k c : Nat) (hk : k < l.of.length) : LdBox (w.setCell ⟨b, 2 + k, none⟩ (.int .u32 (c : Int))) b { l with of := l.of.set k c } :=
  h.set (2 + k) _ (by simp [Ld.cells]; omega) (by rw [Nat.add_comm 2 k]; simp [Ld.cells, List.map_set])
theorem LdBox.other {w : World} {b : Nat} {l : Ld} (h : LdBox w b l) {a : Addr} (hne : a.block ≠ b) (v : Value) : LdBox (w.setCell a v) b l :=
  ⟨fun i u hi => by rw [World.cell?_setCell_other _ _ _ _ (fun e => hne (by rw [e]))]; exact h.1 i u hi, fun i hi => by rw [World.frozen?_setCell]; exact h.2 i hi⟩
theorem LdBox.below {w w' : World} {b : Nat} {l : Ld} (h : LdBox w b l) (hb : Below w.heap.size w w') : LdBox w' b l :=
  ⟨h.1.below hb, fun i hi => (hb.frozen (p := ⟨b, i, none⟩) h.1.lt).trans (h.2 i hi)⟩
theorem LdBox.new (w : World) (l : Ld) (t : TypeId) : LdBox (w.alloc (.cells l.cells.toArray t)) w.heap.size l := ⟨LdAt.new w l t, fun j _ => by simp⟩
def Ld0 : Ld := ⟨0, 0, List.replicate 64 0⟩
theorem ldZero : (Tryd.prog.info? 26).map (fun i => (i.zero, i.size)) = some (some Ld0.val, 66) := by kernel_rfl
theorem Ld0.fits : Ld0.Fits := ⟨by decide, by decide, by decide, rfl, fun c hc => by simp [Ld0] at hc; omega⟩
theorem LdBox.store {w : World} {b : Nat} {l l' : Ld} (h : LdBox w b l) (hf : l.Fits) (hf' : l'.Fits) :
    (Instr.storeAt 26 (.pointer (some ⟨b, 0, none⟩)) l'.val).run Tryd.prog w = .ok () (w.setCells b 0 l'.cells) ∧ LdBox (w.setCells b 0 l'.cells) b l' := by
  have hth : w.there b 0 66 := fun j hj => by
    rw [Nat.zero_add]
    refine ⟨?_, h.2 j hj⟩
    have hj' : j < l.cells.length := by rw [Ld.len hf]; exact hj
    have h2 := h.1 j l.cells[j] (List.getElem?_eq_getElem hj')
    rw [Nat.zero_add] at h2
    rw [h2]; rfl
  have hsz : l'.cells.toArray.size = 66 := by simpa using Ld.len hf'
  have h1 := run_storeAt_mid w b 0 26 l'.cells.toArray (by rw [hsz]; exact hth) (by rw [hsz]; exact ldInfo) Ld.one
  refine ⟨h1, ?_, fun j hj => by rw [World.frozen?_setCells]; exact h.2 j hj⟩
  exact World.rangeAt_setCells_same w b 0 l'.cells (by rw [Ld.len hf']; exact hth)

/-! ### one update -/
structure En where
  at_ : Int
  t : Int
  f : Int
  s : Nat
structure En.Fits (e : En) : Prop where
  t0 : -9223372036854775808 ≤ e.t
  t1 : e.t ≤ 9223372036854775807
  f0 : -9223372036854775808 ≤ e.f
  f1 : e.f ≤ 9223372036854775807
  s : e.s < 4294967296
theorem U8At.keep {w w' : World} {A : Option Addr} {l : List UInt8} (h : U8At w A l) (hb : Below w.heap.size w w') : U8At w' A l := fun k b hk => by
  obtain ⟨blk, off, rfl, hc⟩ := h k b hk
  exact ⟨blk, off, rfl, (hb.cell (p := ⟨blk, off + k, none⟩) (World.block_lt_of_cell? _ _ hc)).trans hc⟩
def mixS (sum : Nat) (e : En) (c n : Nat) : Nat := (((sum : Int) * 1099511628211 + e.t + e.f * 65536 + (e.s : Int) * 16777216 + (c : Int) * 256 + (n : Int)) % 18446744073709551616).toNat
set_option maxHeartbeats 1600000 in
theorem ledMixed {n : Nat} (sum : Nat) (hs : sum < 18446744073709551616) (e : En) (he : e.Fits) (hf0 : 0 ≤ e.f) (hf1 : e.f < 64) (A : Option Addr) (cap : Nat) (l : List UInt8) (hn : l.length = n) (hm : n ≤ 1000000) (w : World) (hA : U8At w A l) :
    Calls Tryd.prog 27 #[.int .u64 (sum : Int), .agg #[.int .i64 e.at_, .int .i64 e.t, .int .i64 e.f, .int .u32 (e.s : Int), .slice A n cap]] w fun en w' => en = .returned (.int .u64 (mixS sum e (crcL l) n : Int)) ∧ Below w.heap.size w w' := by
  obtain ⟨t0, t1, f0, f1, s1⟩ := he
  obtain ⟨r, hr⟩ : ∃ r, crcL l = r := ⟨_, rfl⟩
  have hrl := crcL_lt l
  have C : Hid (∀ (W : World) (bp cp : Nat), U8At W A l → W.cell? ⟨bp, 0, none⟩ = some (.slice A n cap) → Calls Tryd.prog 44 #[.slice (some ⟨bp, 0, none⟩) 1 cp] W fun e w' => e = .returned (.int .u32 (r : Int)) ∧ w' = W) := by
    intro W bp cp h1 h2
    rw [← hr]
    exact crcOne bp cp A cap l hn hm W h1 h2
  rw [hr] at hrl ⊢
  have HA := Lib.hid hA
  clear hr hn hA
  go_enter Tryd.func27, Tryd.ntmps27
  go_wp2_with fail
  go_region_with (go_at_call 44; refine (C.out _ _ _ (HA.out.keep ((((Below.refl _ w).alloc (Nat.le_refl _) _).alloc (by simp) _).drew)) (by simp)).mono ?_; rintro e w' ⟨rfl, rfl⟩)
  all_goals
    go_wp2
    go_ret
    refine ⟨ret_int ?_, (((Below.refl _ w).alloc (Nat.le_refl _) _).alloc (by simp) _).drew⟩
    unfold mixS
    simp only [IntKind.wrap_u64]
    omega
end Go.Proofs.YtncmbbkcpmimjaaDoor
