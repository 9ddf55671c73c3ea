/- words.base16; the reference's hex. -/
import Derived.Test.YtndpdonlombodaaDoorWdC
import Derived.Laws.BitsAllLaws
import Derived.WalkSmall
namespace Go.Proofs.YtndpdonlombodaaDoor
open Go.RowKit Law
set_option linter.unusedVariables false
set_option linter.unusedSimpArgs false

theorem IsB.below {B b : Nat} {bs : List Value} {w w' : World} (h : IsB B b bs w) (hb : Below w.heap.size w w') : IsB B b bs w' := by
  have H : ∀ p, Lib.BuilderAtF 49 5 B b p bs w → Lib.BuilderAtF 49 5 B b p bs w' := by
    rintro p h1
    have hlt := h1.lt
    obtain ⟨hB, v, hbk, hown, hne⟩ := h1
    refine ⟨hB, v, by rw [hb.block b hlt]; exact hbk, ?_, hne⟩
    exact hown.kept (row := none) ⟨hb.os, hb.tape, hb.output, hb.size, fun i hi _ => hb.block i hi⟩ (by cases hv : v.ownBlock <;> simp)
  exact h.elim (fun x => .inl (H _ x)) (fun x => .inr (H _ x))
theorem AtB.is {B b : Nat} {bs : List Value} {w : World} (h : AtB B b bs w) : IsB B b bs w := .inr h
theorem hexOf_app : ∀ a b : List UInt8, hexOf (a ++ b) = hexOf a ++ hexOf b
  | [], b => rfl
  | c :: r, b => by rw [List.cons_append, hexOf, hexOf_app r b, hexOf]; rfl
theorem hexOf_snoc (b : List UInt8) (k : Nat) (hk : k < b.length) : hexOf (b.take (k + 1)) = hexOf (b.take k) ++ [hexDig (b[k].toNat / 16), hexDig (b[k].toNat % 16)] := by
  rw [List.take_succ_eq_append_getElem hk, hexOf_app]; rfl
def IdxHex (d : Nat) : Prop := ∀ W : World, (Instr.index 9 (.string ⟨#[48, 49, 50, 51, 52, 53, 54, 55, 56, 57, 97, 98, 99, 100, 101, 102]⟩) (.int .u8 (d : Int))).run Tryd.prog W = .ok (.int .u8 ((hexDig d).toNat : Int)) W
theorem idxHex0 : IdxHex 0 := fun W => by kernel_rfl
theorem idxHex1 : IdxHex 1 := fun W => by kernel_rfl
theorem idxHex2 : IdxHex 2 := fun W => by kernel_rfl
theorem idxHex3 : IdxHex 3 := fun W => by kernel_rfl
theorem idxHex4 : IdxHex 4 := fun W => by kernel_rfl
theorem idxHex5 : IdxHex 5 := fun W => by kernel_rfl
theorem idxHex6 : IdxHex 6 := fun W => by kernel_rfl
theorem idxHex7 : IdxHex 7 := fun W => by kernel_rfl
theorem idxHex8 : IdxHex 8 := fun W => by kernel_rfl
theorem idxHex9 : IdxHex 9 := fun W => by kernel_rfl
theorem idxHex10 : IdxHex 10 := fun W => by kernel_rfl
theorem idxHex11 : IdxHex 11 := fun W => by kernel_rfl
theorem idxHex12 : IdxHex 12 := fun W => by kernel_rfl
theorem idxHex13 : IdxHex 13 := fun W => by kernel_rfl
theorem idxHex14 : IdxHex 14 := fun W => by kernel_rfl
theorem idxHex15 : IdxHex 15 := fun W => by kernel_rfl
theorem idxHex (d : Nat) (hd : d < 16) : IdxHex d := by
  have h : d = 0 ∨ d = 1 ∨ d = 2 ∨ d = 3 ∨ d = 4 ∨ d = 5 ∨ d = 6 ∨ d = 7 ∨ d = 8 ∨ d = 9 ∨ d = 10 ∨ d = 11 ∨ d = 12 ∨ d = 13 ∨ d = 14 ∨ d = 15 := by omega
  rcases h with rfl | rfl | rfl | rfl | rfl | rfl | rfl | rfl | rfl | rfl | rfl | rfl | rfl | rfl | rfl | rfl
  · exact idxHex0
  · exact idxHex1
  · exact idxHex2
  · exact idxHex3
  · exact idxHex4
  · exact idxHex5
  · exact idxHex6
  · exact idxHex7
  · exact idxHex8
  · exact idxHex9
  · exact idxHex10
  · exact idxHex11
  · exact idxHex12
  · exact idxHex13
  · exact idxHex14
  · exact idxHex15
def SlcHex (d : Nat) : Prop := ∀ W : World, (Instr.slice 9 (.string ⟨#[48, 49, 50, 51, 52, 53, 54, 55, 56, 57, 97, 98, 99, 100, 101, 102]⟩) (some (.int .u8 (d : Int))) (some (.int .u8 ((d : Int) + 1))) none).run Tryd.prog W = .ok (.string ⟨#[hexDig d]⟩) W
theorem slcHex0 : SlcHex 0 := fun W => by kernel_rfl
theorem slcHex1 : SlcHex 1 := fun W => by kernel_rfl
theorem slcHex2 : SlcHex 2 := fun W => by kernel_rfl
theorem slcHex3 : SlcHex 3 := fun W => by kernel_rfl
theorem slcHex4 : SlcHex 4 := fun W => by kernel_rfl
theorem slcHex5 : SlcHex 5 := fun W => by kernel_rfl
theorem slcHex6 : SlcHex 6 := fun W => by kernel_rfl
theorem slcHex7 : SlcHex 7 := fun W => by kernel_rfl
theorem slcHex8 : SlcHex 8 := fun W => by kernel_rfl
theorem slcHex9 : SlcHex 9 := fun W => by kernel_rfl
theorem slcHex10 : SlcHex 10 := fun W => by kernel_rfl
theorem slcHex11 : SlcHex 11 := fun W => by kernel_rfl
theorem slcHex12 : SlcHex 12 := fun W => by kernel_rfl
theorem slcHex13 : SlcHex 13 := fun W => by kernel_rfl
theorem slcHex14 : SlcHex 14 := fun W => by kernel_rfl
theorem slcHex15 : SlcHex 15 := fun W => by kernel_rfl
theorem slcHex (d : Nat) (hd : d < 16) : SlcHex d := by
  have h : d = 0 ∨ d = 1 ∨ d = 2 ∨ d = 3 ∨ d = 4 ∨ d = 5 ∨ d = 6 ∨ d = 7 ∨ d = 8 ∨ d = 9 ∨ d = 10 ∨ d = 11 ∨ d = 12 ∨ d = 13 ∨ d = 14 ∨ d = 15 := by omega
  rcases h with rfl | rfl | rfl | rfl | rfl | rfl | rfl | rfl | rfl | rfl | rfl | rfl | rfl | rfl | rfl | rfl
  · exact slcHex0
  · exact slcHex1
  · exact slcHex2
  · exact slcHex3
  · exact slcHex4
  · exact slcHex5
  · exact slcHex6
  · exact slcHex7
  · exact slcHex8
  · exact slcHex9
  · exact slcHex10
  · exact slcHex11
  · exact slcHex12
  · exact slcHex13
  · exact slcHex14
  · exact slcHex15
theorem refHex (c : UInt8) (cv : Int) (hcv : (c.toNat : Int) = cv) (w : World) :
    Calls Tryd.prog 22 #[.int .u8 cv] w fun e w' => e = .returned (.string ⟨(hexOf [c]).toArray⟩) ∧ Below w.heap.size w w' := by
  have hc := c.toNat_lt
  obtain ⟨p, hp⟩ : ∃ p, c.toNat / 16 = p := ⟨_, rfl⟩
  obtain ⟨q, hq⟩ : ∃ q, c.toNat % 16 = q := ⟨_, rfl⟩
  have e1 : cv / 16 = (p : Int) := by omega
  have e2 : cv % 16 = (q : Int) := by omega
  have hp16 : p < 16 := by omega
  have hq16 : q < 16 := by omega
  have h1 := slcHex p hp16
  have h2 := slcHex q hq16
  unfold SlcHex at h1 h2
  have HE : Hid (hexOf [c] = [hexDig p, hexDig q]) := by unfold Hid; rw [← hp, ← hq]; rfl
  have h0 : 0 ≤ cv := by omega
  have h9 : cv < 256 := by omega
  clear hcv hp hq hc
  go_enter Tryd.func22, Tryd.ntmps22
  go_wp2
  go_quiet (fail)
  go_wp2
  go_ret
  exact ⟨ret_str (by rw [HE.out]; rfl), below_drewN (Below.refl _ _) _⟩
theorem cells_two (l : List UInt8) (a b : UInt8) : (Lib.byteCells l ++ [.int .u8 (a.toNat : Int)]) ++ [.int .u8 (b.toNat : Int)] = Lib.byteCells (l ++ [a, b]) := by
  simp [Lib.byteCells]
set_option maxHeartbeats 1600000 in
theorem wordsBase16 {n : Nat} (A : Option Addr) (c : Nat) (b : List UInt8) (hn : b.length = n) (hm : n ≤ 4096) (w : World) (hA : U8At w A b) :
    Calls Tryd.prog 20 #[.slice A n c] w fun e w' => e = .returned (.string ⟨(hexOf b).toArray⟩) ∧ Below w.heap.size w w' := by
  have HN := Lib.hid (And.intro hn hA)
  clear hn hA
  have hB0 := newB w
  have hbB : Below w.heap.size w (w.alloc (.cells #[.pointer none, .slice none 0 0] 49)) := (Below.refl _ w).alloc (Nat.le_refl _) _
  go_enter Tryd.func20, Tryd.ntmps20
  go_wp2
  go_loopw [8] (fun i wr => ∃ k : Nat, k ≤ n ∧ i = .int .i64 k ∧ IsB w.heap.size w.heap.size (Lib.byteCells (hexOf (b.take k))) wr ∧ Below w.heap.size w wr) (fun i _ => n - (intOf i).toNat)
  case atStart => exact ⟨0, Nat.zero_le _, rfl, hB0, hbB⟩
  case round =>
    obtain ⟨k, hk, rfl, hIs, hb⟩ := hrel
    clear hB0 hbB
    by_cases hlt : k < n
    · have hlt' : k < b.length := by rw [HN.out.1]; exact hlt
      obtain ⟨blk, off, rfl, hcell⟩ := (HN.out.2.keep hb).at_ hlt'
      have hsn := Lib.hid (hexOf_snoc b k hlt')
      have hc := b[k].toNat_lt
      obtain ⟨v, hv⟩ : ∃ v, b[k] = v := ⟨_, rfl⟩
      rw [hv] at hcell hsn hc
      clear hv
      obtain ⟨p, hp⟩ : ∃ p, v.toNat / 16 = p := ⟨_, rfl⟩
      obtain ⟨q, hq⟩ : ∃ q, v.toNat % 16 = q := ⟨_, rfl⟩
      have e1 : (v.toNat : Int) / 16 = (p : Int) := by omega
      have e2 : bits .and .u8 (v.toNat : Int) 15 = (q : Int) := by
        have h1 := u8_and_nat v.toNat 15 hc (by decide)
        rw [show v.toNat &&& 15 = v.toNat % 16 from Nat.and_two_pow_sub_one_eq_mod v.toNat 4, hq] at h1
        exact h1
      have i1 := idxHex p (by omega)
      have i2 := idxHex q (by omega)
      unfold IdxHex at i1 i2
      rw [hp, hq] at hsn
      clear hp hq
      have hlen : (hexOf (b.take k)).length ≤ 2 * k := by
        rw [hexOf_len, List.length_take]; omega
      have hL1 : (Lib.byteCells (hexOf (b.take k))).length + 1 ≤ 140737488355328 := by rw [Lib.byteCells_length]; omega
      have hL2 : (Lib.byteCells (hexOf (b.take k)) ++ [Value.int .u8 ((hexDig p).toNat : Int)]).length + 1 ≤ 140737488355328 := by
        rw [List.length_append, Lib.byteCells_length]; simp only [List.length_cons, List.length_nil]; omega
      have HI := Lib.hid hIs
      have HB := Lib.hid hb
      clear hIs hb
      go_wp2_with (go_at_call 24; refine (writeByte w.heap.size w.heap.size _ _ _ HI.out hL1 HB.out.size).mono ?_)
      rintro e w2 ⟨rfl, hA3, hq2, -⟩
      have hIs3 := Lib.hid (AtB.is hA3)
      have hb3 := Lib.hid (HB.out.trans hq2)
      clear hA3 hq2
      go_wp2_with (go_at_call 24; refine (writeByte w.heap.size w.heap.size _ _ _ hIs3.out hL2 hb3.out.size).mono ?_)
      rintro e w3 ⟨rfl, hA4, hq3, -⟩
      have hb4 := Lib.hid (And.intro (hb3.out.trans hq3) (AtB.is hA4))
      clear hA4 hq3
      go_wp2
      go_roundw
      case rel => exact ⟨k + 1, by omega, by go_num, by rw [hsn.out, ← cells_two]; exact hb4.out.2, hb4.out.1⟩
      case measure => simp [intOf]; omega
    · have ht : b.take k = b := List.take_of_length_le (by rw [HN.out.1]; omega)
      rw [ht] at hIs
      have HI := Lib.hid hIs
      have HB := Lib.hid hb
      clear hIs
      go_wp2_with (go_at_call 25; refine (stringB w.heap.size w.heap.size _ _ HI.out HB.out.size).mono ?_)
      rintro e w1 ⟨rfl, hq1⟩
      go_wp2
      go_ret
      exact ⟨rfl, HB.out.trans hq1⟩
end Go.Proofs.YtndpdonlombodaaDoor
