/- buf.Reader: what it stands at; take. -/
import Derived.Test.YtncmbbkcpmimjaaDoorRdA
import Derived.Laws.CopyOwn
namespace Go.Proofs.YtncmbbkcpmimjaaDoor
open Go.RowKit Law
set_option linter.unusedVariables false

theorem u8_from (A : Option Addr) (n c k : Nat) (hk : k ≤ n) (W : World) : (Instr.slice 29 (.slice A n c) (some (.int .i64 (k : Int))) none none).run Tryd.prog W = .ok (.slice (if c = k then A else A.map (·.add (k * 1))) (n - k) (c - k)) W := by
  have h1 : (0 : Int) ≤ k ∧ (k : Int) ≤ n := by omega
  simp [Instr.slice, Instr.sliceBounds, Instr.sliceBound, asIntOf, run_underlying Tryd.underlying29, Tryd.sizeOf5, h1, hk, go_sem]
theorem u8_upto (A : Option Addr) (n c k : Nat) (hk : k ≤ c) (W : World) : (Instr.slice 29 (.slice A n c) none (some (.int .i64 (k : Int))) none).run Tryd.prog W = .ok (.slice A k c) W := by
  have h1 : (0 : Int) ≤ k ∧ (k : Int) ≤ c := by omega
  simp [Instr.slice, Instr.sliceBounds, Instr.sliceBound, asIntOf, run_underlying Tryd.underlying29, Tryd.sizeOf5, h1, hk, go_sem]
theorem U8At.drop {w : World} {A : Option Addr} {l : List UInt8} (h : U8At w A l) (k c : Nat) (hc : l.length ≤ c) : U8At w (if c = k then A else A.map (·.add (k * 1))) (l.drop k) := by
  by_cases hck : c = k
  · have : l.drop k = [] := List.drop_eq_nil_of_le (by omega)
    rw [this]
    intro i e he
    simp at he
  · rw [if_neg hck]
    intro i e he
    rw [List.getElem?_drop] at he
    obtain ⟨b, off, rfl, hcell⟩ := h (k + i) e he
    refine ⟨b, off + k * 1, by rw [Option.map_some, Lib.add_plain], ?_⟩
    rw [show off + k * 1 + i = off + (k + i) by omega]
    exact hcell
/-- A reader in a block: what was wrong, and the bytes that are left. -/
structure RdAt (w : World) (br : Nat) (e : Int) (L : List UInt8) (A : Option Addr) (c : Nat) : Prop where
  c0 : w.cell? ⟨br, 0, none⟩ = some (.int .i64 e)
  c1 : w.cell? ⟨br, 1, none⟩ = some (.slice A L.length c)
  f0 : w.frozen? ⟨br, 0, none⟩ = false
  f1 : w.frozen? ⟨br, 1, none⟩ = false
  cap : L.length ≤ c
  apart : ∀ ad, A = some ad → ad.block ≠ br ∧ ad.block < w.heap.size
  at_ : U8At w A L
/-- The same, its row below a bound. -/
def RdSt (w : World) (br B : Nat) (e : Int) (L : List UInt8) : Prop := br < B ∧ B ≤ w.heap.size ∧ ∃ A c, RdAt w br e L A c ∧ ∀ ad, A = some ad → ad.block < B
theorem RdAt.lt {w : World} {br : Nat} {e : Int} {L : List UInt8} {A : Option Addr} {c : Nat} (h : RdAt w br e L A c) : br < w.heap.size := World.block_lt_of_cell? _ _ h.c0
theorem RdAt.kept {w w' : World} {br : Nat} {e : Int} {L : List UInt8} {A : Option Addr} {c : Nat} (h : RdAt w br e L A c) (hb : Below w.heap.size w w') : RdAt w' br e L A c :=
  ⟨(hb.cell (p := ⟨br, 0, none⟩) h.lt).trans h.c0, (hb.cell (p := ⟨br, 1, none⟩) h.lt).trans h.c1, (hb.frozen (p := ⟨br, 0, none⟩) h.lt).trans h.f0, (hb.frozen (p := ⟨br, 1, none⟩) h.lt).trans h.f1, h.cap,
    fun ad ha => ⟨(h.apart ad ha).1, Nat.lt_of_lt_of_le (h.apart ad ha).2 hb.size⟩, h.at_.keep hb⟩
theorem RdAt.below {w w' : World} {br B : Nat} {e : Int} {L : List UInt8} {A : Option Addr} {c : Nat} (h : RdAt w br e L A c) (hlt : br < B) (hA : ∀ ad, A = some ad → ad.block < B) (hb : Below B w w') : RdAt w' br e L A c :=
  ⟨(hb.cell (p := ⟨br, 0, none⟩) hlt).trans h.c0, (hb.cell (p := ⟨br, 1, none⟩) hlt).trans h.c1, (hb.frozen (p := ⟨br, 0, none⟩) hlt).trans h.f0, (hb.frozen (p := ⟨br, 1, none⟩) hlt).trans h.f1, h.cap,
    fun ad ha => ⟨(h.apart ad ha).1, Nat.lt_of_lt_of_le (h.apart ad ha).2 hb.size⟩, fun k b hk => by
      obtain ⟨blk, off, rfl, hc⟩ := h.at_ k b hk
      exact ⟨blk, off, rfl, (hb.cell (p := ⟨blk, off + k, none⟩) (hA ⟨blk, off, none⟩ rfl)).trans hc⟩⟩
theorem RdSt.keptB {w w' : World} {br B : Nat} {e : Int} {L : List UInt8} (h : RdSt w br B e L) (hb : Below B w w') : RdSt w' br B e L :=
  let ⟨h1, h2, A, c, h3, h4⟩ := h
  ⟨h1, Nat.le_trans h2 hb.size, A, c, h3.below h1 h4 hb, h4⟩
theorem RdSt.kept {w w' : World} {br B : Nat} {e : Int} {L : List UInt8} (h : RdSt w br B e L) (hb : Below w.heap.size w w') : RdSt w' br B e L := h.keptB (hb.mono h.2.1)
theorem RdSt.lt {w : World} {br B : Nat} {e : Int} {L : List UInt8} (h : RdSt w br B e L) : br < w.heap.size := Nat.lt_of_lt_of_le h.1 h.2.1
/-- What reading leaves as it was: all blocks but the reader's. -/
structure FrR (br : Nat) (w w' : World) : Prop where
  os : w'.os = w.os
  tape : w'.tape = w.tape
  output : w'.output = w.output
  size : w.heap.size ≤ w'.heap.size
  block : ∀ k, k < w.heap.size → k ≠ br → w'.heap[k]? = w.heap[k]?
theorem FrR.refl (br : Nat) (w : World) : FrR br w w := ⟨rfl, rfl, rfl, Nat.le_refl _, fun _ _ _ => rfl⟩
theorem FrR.trans {br : Nat} {w w1 w2 : World} (h : FrR br w w1) (h' : FrR br w1 w2) : FrR br w w2 :=
  ⟨h'.os.trans h.os, h'.tape.trans h.tape, h'.output.trans h.output, Nat.le_trans h.size h'.size, fun k hk hne => (h'.block k (Nat.lt_of_lt_of_le hk h.size) hne).trans (h.block k hk hne)⟩
theorem FrR.thenB {br : Nat} {w w1 w2 : World} (h : FrR br w w1) (hb : Below w.heap.size w1 w2) : FrR br w w2 := ⟨hb.os.trans h.os, hb.tape.trans h.tape, hb.output.trans h.output, Nat.le_trans h.size hb.size, fun k hk hne => (hb.block k hk).trans (h.block k hk hne)⟩
theorem FrR.ofBelow {br : Nat} {w w1 : World} (h : Below w.heap.size w w1) : FrR br w w1 := ⟨h.os, h.tape, h.output, h.size, fun k hk _ => h.block k hk⟩
theorem FrR.set {br : Nat} {w : World} (o : Nat) (v : Value) : FrR br w (w.setCell ⟨br, o, none⟩ v) := ⟨rfl, rfl, rfl, by simp, fun k _ hne => Below.heap_setCell _ _ _ k hne⟩
theorem FrR.below {br : Nat} {w w1 : World} (h : FrR br w w1) (B : Nat) (hB : B ≤ br) (hle : B ≤ w.heap.size) : Below B w w1 := ⟨h.os, h.tape, h.output, h.size, fun k hk => h.block k (by omega) (by omega)⟩
theorem FrR.cell {br : Nat} {w w1 : World} (h : FrR br w w1) (p : Addr) (hlt : p.block < w.heap.size) (hne : p.block ≠ br) : w1.cell? p = w.cell? p := World.cell?_of_block (h.block p.block hlt hne)
theorem U8At.fr {w w' : World} {br : Nat} {A : Option Addr} {l : List UInt8} (h : U8At w A l) (hf : FrR br w w') (hne : ∀ ad, A = some ad → ad.block ≠ br) : U8At w' A l := fun k b hk => by
  obtain ⟨blk, off, rfl, hc⟩ := h k b hk
  exact ⟨blk, off, rfl, (hf.cell ⟨blk, off + k, none⟩ (World.block_lt_of_cell? _ _ hc) (hne ⟨blk, off, none⟩ rfl)).trans hc⟩
theorem rdFine (bw : Nat) (e : Int) (w : World) (h : w.cell? ⟨bw, 0, none⟩ = some (.int .i64 e)) : Calls Tryd.prog 39 #[.pointer (some ⟨bw, 0, none⟩)] w fun en w' => en = .returned (.bool (e == 0)) ∧ w = w' := by
  go_enter Tryd.func39, Tryd.ntmps39
  go_wp2
  go_ret
  exact ⟨rfl, rfl⟩
theorem rdFail (bw : Nat) (x : Int) (w : World) (h : w.cell? ⟨bw, 0, none⟩ = some (.int .i64 0)) (hf : w.frozen? ⟨bw, 0, none⟩ = false) :
    Calls Tryd.prog 56 #[.pointer (some ⟨bw, 0, none⟩), .int .i64 x] w fun en w' => en = .returned (.tuple #[]) ∧ w' = w.setCell ⟨bw, 0, none⟩ (.int .i64 x) := by
  go_enter Tryd.func56, Tryd.ntmps56
  go_wp2
  go_end0
  exact ⟨rfl, rfl⟩
theorem takeNo (br : Nat) (e : Int) (he : e ≠ 0) (n : Nat) (w : World) (h : w.cell? ⟨br, 0, none⟩ = some (.int .i64 e)) :
    Calls Tryd.prog 59 #[.pointer (some ⟨br, 0, none⟩), .int .i64 (n : Int)] w fun en w' => en = .returned (.slice none 0 0) ∧ w = w' := by
  have C := rdFine br e w h
  have he2 : (e == 0) = false := by simpa using he
  rw [he2] at C
  have C := Lib.hid C
  go_enter Tryd.func59, Tryd.ntmps59
  go_wp2_with fail
  refine C.out.mono ?_
  rintro en w1 ⟨rfl, rfl⟩
  go_wp2
  go_ret
  exact ⟨rfl, rfl⟩
theorem takeShort (br : Nat) (L : List UInt8) (A : Option Addr) (c n : Nat) (hn : L.length < n) (w : World) (h : RdAt w br 0 L A c) :
    Calls Tryd.prog 59 #[.pointer (some ⟨br, 0, none⟩), .int .i64 (n : Int)] w fun en w' => en = .returned (.slice none 0 0) ∧ w' = w.setCell ⟨br, 0, none⟩ (.int .i64 3) := by
  have C : Hid (Calls Tryd.prog 39 #[.pointer (some ⟨br, 0, none⟩)] w fun en w' => en = .returned (.bool true) ∧ w = w') := rdFine br 0 w h.c0
  have C2 := Lib.hid (rdFail br 3 w h.c0 h.f0)
  have h1 := h.c1
  obtain ⟨N, hN⟩ : ∃ N, L.length = N := ⟨_, rfl⟩
  rw [hN] at hn h1
  clear h hN
  go_enter Tryd.func59, Tryd.ntmps59
  go_wp2_with fail
  refine C.out.mono ?_
  rintro en w1 ⟨rfl, rfl⟩
  go_wp2_with fail
  refine C2.out.mono ?_
  rintro en w1 ⟨rfl, rfl⟩
  go_wp2
  go_ret
  exact ⟨rfl, rfl⟩
theorem takeYes (br : Nat) (L : List UInt8) (A : Option Addr) (c n : Nat) (hn : n ≤ L.length) (w : World) (h : RdAt w br 0 L A c) :
    Calls Tryd.prog 59 #[.pointer (some ⟨br, 0, none⟩), .int .i64 (n : Int)] w fun en w' => en = .returned (.slice A n c) ∧ w' = w.setCell ⟨br, 1, none⟩ (.slice (if c = n then A else A.map (·.add (n * 1))) (L.length - n) (c - n)) := by
  have C : Hid (Calls Tryd.prog 39 #[.pointer (some ⟨br, 0, none⟩)] w fun en w' => en = .returned (.bool true) ∧ w = w') := rdFine br 0 w h.c0
  have h1 := h.c1
  have g1 := h.f1
  have hcap := h.cap
  have s1 := fun W => u8_upto A L.length c n (by omega) W
  have s2 := fun W => u8_from A L.length c n hn W
  obtain ⟨A2, hA2⟩ : ∃ A2, (if c = n then A else A.map (·.add (n * 1))) = A2 := ⟨_, rfl⟩
  simp only [hA2] at s2 ⊢
  obtain ⟨N, hN⟩ : ∃ N, L.length = N := ⟨_, rfl⟩
  rw [hN] at hn h1 hcap ⊢
  simp only [hN] at s1 s2
  clear h hN hA2
  go_enter Tryd.func59, Tryd.ntmps59
  go_wp2_with fail
  refine C.out.mono ?_
  rintro en w1 ⟨rfl, rfl⟩
  go_wp2
  go_ret
  exact ⟨rfl, rfl⟩
end Go.Proofs.YtncmbbkcpmimjaaDoor
