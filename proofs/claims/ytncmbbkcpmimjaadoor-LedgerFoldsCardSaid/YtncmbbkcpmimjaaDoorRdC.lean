/- buf.Reader: Fixed, whatever it stands at; Err, End, Left. -/
import Derived.Test.YtncmbbkcpmimjaaDoorRdB
import Derived.Deep.RegionHeld3
import Derived.Deep.DrawnRows
namespace Go.Proofs.YtncmbbkcpmimjaaDoor
open Go.RowKit Law
set_option linter.unusedVariables false

/-- What a reading of n bytes comes to: what is wrong, what is left, the number. -/
def rdS (e : Int) (L : List UInt8) (n : Nat) : Int × List UInt8 × Nat := if e ≠ 0 then (e, L, 0) else if L.length < n then (3, L, 0) else (0, L.drop n, leN (L.take n))
theorem leN_zeros : ∀ k, leN (List.replicate k 0) = 0
  | 0 => rfl
  | k + 1 => by rw [List.replicate_succ]; show 0 + 256 * leN _ = 0; rw [leN_zeros k]
theorem leN_pad : ∀ (l : List UInt8) (k : Nat), leN (l ++ List.replicate k 0) = leN l
  | [], k => by rw [List.nil_append, leN_zeros]; rfl
  | c :: l, k => by show c.toNat + 256 * leN (l ++ _) = c.toNat + 256 * leN l; rw [leN_pad l k]
theorem u8Size : (Tryd.prog.info? 5).map (·.size) = some 1 := by kernel_rfl
theorem pos_of {w1 : World} {g m : Nat} {A : Option Addr} {T : List UInt8} (hT : T.length = m) (hA : 0 < m → ∃ ad, A = some ad) (hU : U8At w1 A T) (h0 : 0 < (u8V T).length) :
    some (⟨g, 0, none⟩ : Addr) = some ⟨g, 0, none⟩ ∧ ∃ ad, A = some ad ∧ ∀ j v, (u8V T)[j]? = some v → w1.cell? (ad.add j) = some v := by
  unfold u8V at h0
  rw [List.length_map, hT] at h0
  obtain ⟨ad, hA⟩ := hA h0
  exact ⟨rfl, ad, hA, fun j v hv => hU.flat ad hA j v hv⟩
def zero8 : List UInt8 := [0, 0, 0, 0, 0, 0, 0, 0]
theorem blk8 {br : Nat} {w w1 : World} (hfr1 : FrR br (w.alloc (.cells #[.int .u8 0, .int .u8 0, .int .u8 0, .int .u8 0, .int .u8 0, .int .u8 0, .int .u8 0, .int .u8 0] 98)).drew w1) (hlt : br < w.heap.size) :
    w1.heap[w.heap.size]? = some (.cells (u8V zero8).toArray 98 (0, 0)) :=
  (hfr1.block w.heap.size (by simp) (Nat.ne_of_gt hlt)).trans (heap_alloc_last w _)
theorem zero8_drop : ∀ m, m ≤ 8 → (u8V zero8).drop m = u8V (List.replicate (8 - m) 0) := by
  intro m hm
  have : m = 0 ∨ m = 1 ∨ m = 2 ∨ m = 3 ∨ m = 4 ∨ m = 5 ∨ m = 6 ∨ m = 7 ∨ m = 8 := by omega
  rcases this with rfl | rfl | rfl | rfl | rfl | rfl | rfl | rfl | rfl <;> rfl
section
attribute [local go_sem ↓] Go.wp_at_zero Go.wp_at_succ
set_option maxHeartbeats 3200000 in
set_option maxRecDepth 100000 in
/-- The common road: what take hands back is T (nil: nothing), and the reader stands so. -/
theorem rdFixed_ (br B n : Nat) (hn1 : 1 ≤ n) (hn8 : n ≤ 8) (T : List UInt8) (m : Nat) (hTl : T.length = m) (hm8 : m ≤ 8) (A : Option Addr) (c : Nat) (e' : Int) (L' : List UInt8) (w : World)
    (K : ∀ W, Below w.heap.size w W → Calls Tryd.prog 59 #[.pointer (some ⟨br, 0, none⟩), .int .i64 (n : Int)] W fun en w' => en = .returned (.slice A m c) ∧ (∀ w2, Below w.heap.size w' w2 → RdSt w2 br B e' L') ∧ FrR br W w' ∧ (0 < m → ∃ ad, A = some ad) ∧ U8At w' A T) (hlt : br < w.heap.size) :
    Calls Tryd.prog 41 #[.pointer (some ⟨br, 0, none⟩), .int .i64 (n : Int)] w fun en w' => en = .returned (.int .u64 (leN T : Int)) ∧ RdSt w' br B e' L' ∧ FrR br w w' := by
  obtain ⟨hz, hsz⟩ := zero_of_info a8Zero
  have hal : Tryd.prog.arrayLen 98 = 8 := by kernel_rfl
  have hsl : ∀ (W : World), (Instr.sliceAt 98 (.pointer (some ⟨w.heap.size, 0, none⟩)) none none none).run Tryd.prog W = .ok (.slice (some ⟨w.heap.size, 0, none⟩) 8 8) W := fun W => by
    rw [run_sliceAt_array_all W 98 ⟨w.heap.size, 0, none⟩ (by simp [Program.arrayLen, Program.elem, Tryd.underlying98])]
    have he : Tryd.prog.elem 98 = 5 := by kernel_rfl
    rw [he, hal]
    simp [go_sem, Tryd.sizeOf5, Addr.add, slicedAt]
  have hn : (n : Int) ≤ 8 ∧ (1 : Int) ≤ n := by omega
  have hclen : (u8V T).length = Nat.min m 8 := by unfold u8V; rw [List.length_map, hTl]; exact (Nat.min_eq_left hm8).symm
  have hfit : 0 + (u8V T).length ≤ (u8V zero8).length := by unfold u8V; rw [List.length_map, hTl]; show 0 + m ≤ 8; omega
  have HC := Lib.hid (And.intro hclen hfit)
  have K := Lib.hid K
  have HT := Lib.hid hTl
  have HL := Lib.hid hlt
  clear hal hTl hlt hclen hfit
  go_enter Tryd.func41, Tryd.ntmps41
  go_wp2_with fail
  go_region_held3 (fun w' => True) (trivial)
    ((first
      | (refine step_copy_splice (by rfl) _ _ 29 29 (by rfl) 5 Tryd.underlying29 u8Size (some ⟨w.heap.size, 0, none⟩) A 8 8 m c (by rfl) (by rfl) w.heap.size 0 (u8V zero8) 98 hblk (u8V T) HC.out.1 (fun h0 => pos_of HT.out hA1 hU1 h0) HC.out.2 u8_one w.heap.size w1 (Below.refl _ _) (Nat.le_refl _) ?_; intro w2 hc2 hb2)
      | (go_at_call 59; (with_reducible refine (K.out _ ((Below.refl _ _).alloc (Nat.le_refl _) _).drew).mono ?_); rintro en w1 ⟨rfl, hst1, hfr1, hA1, hU1⟩; have hblk := blk8 hfr1 HL.out)))
  have hspl : splice (u8V zero8) 0 (u8V T) = u8V (T ++ List.replicate (8 - m) 0) := by
    unfold splice
    rw [List.take_zero, List.nil_append, u8V_app]
    congr 1
    rw [HC.out.1, Nat.zero_add, show Nat.min m 8 = m from Nat.min_eq_left hm8]
    exact zero8_drop m hm8
  rw [hspl] at hc2
  have hlX : (T ++ List.replicate (8 - m) 0).length = 8 := by rw [List.length_append, HT.out, List.length_replicate]; omega
  have CN := Lib.hid (unitNumber (T ++ List.replicate (8 - m) 0) hlX w2)
  have hrg : w2.rangeAt w.heap.size 0 (u8V (T ++ List.replicate (8 - m) 0)) := fun j v hj => by
    rw [Nat.zero_add]
    exact (cell_of_row w2 w.heap.size j _ _ _ hc2.out).trans (by simpa using hj)
  have hi8 : (Tryd.prog.info? 98).map (·.size) = some (u8V (T ++ List.replicate (8 - m) 0)).length := by unfold u8V; rw [List.length_map, hlX]; exact hsz
  have hbl : FrR br w w2 := by
    have h0 := ((Below.refl w.heap.size w).alloc (Nat.le_refl _) (.cells #[.int .u8 0, .int .u8 0, .int .u8 0, .int .u8 0, .int .u8 0, .int .u8 0, .int .u8 0, .int .u8 0] 98)).drew
    exact ⟨hb2.os.trans (hfr1.os.trans h0.os), hb2.tape.trans (hfr1.tape.trans h0.tape), hb2.output.trans (hfr1.output.trans h0.output), Nat.le_trans h0.size (Nat.le_trans hfr1.size hb2.size),
      fun k hk hne => (hb2.block k hk).trans ((hfr1.block k (Nat.lt_of_lt_of_le hk h0.size) hne).trans (h0.block k hk))⟩
  have HF := Lib.hid (And.intro (hst1 w2 hb2) hbl)
  rw [leN_pad] at CN
  clear hc2 hspl hb2 hfr1 hst1 hbl hblk hU1 hA1
  obtain ⟨X, hX⟩ : ∃ X, u8V (T ++ List.replicate (8 - m) 0) = X := ⟨_, rfl⟩
  rw [hX] at hrg hi8 CN
  clear hX hlX
  go_wp2_with (first | (refine wpList_load_mid rfl 98 _ rfl w.heap.size 0 rfl X _ hrg Tryd.underlying98 rfl hi8 ?_))
  refine CN.out.mono ?_
  rintro en w3 ⟨rfl, hb3⟩
  have HE := Lib.hid (And.intro (HF.out.1.kept hb3) (HF.out.2.trans (FrR.ofBelow hb3)))
  clear hb3
  go_wp2
  go_ret
  exact ⟨rfl, HE.out⟩
end
theorem RdAt.set0 {w : World} {br : Nat} {e : Int} {L : List UInt8} {A : Option Addr} {c : Nat} (h : RdAt w br e L A c) (x : Int) : RdAt (w.setCell ⟨br, 0, none⟩ (.int .i64 x)) br x L A c :=
  ⟨World.cell?_setCell_same' _ _ _ (by rw [h.c0]; rfl), (World.cell?_setCell_other _ _ _ _ (by simp)).trans h.c1, by rw [World.frozen?_setCell]; exact h.f0, by rw [World.frozen?_setCell]; exact h.f1, h.cap,
    fun ad ha => by simpa using h.apart ad ha, h.at_.other (fun ad ha => (h.apart ad ha).1) _⟩
theorem RdAt.set1 {w : World} {br : Nat} {e : Int} {L : List UInt8} {A : Option Addr} {c : Nat} (h : RdAt w br e L A c) (n : Nat) (hn : n ≤ L.length) :
    RdAt (w.setCell ⟨br, 1, none⟩ (.slice (if c = n then A else A.map (·.add (n * 1))) (L.length - n) (c - n))) br e (L.drop n) (if c = n then A else A.map (·.add (n * 1))) (c - n) :=
  ⟨(World.cell?_setCell_other _ _ _ _ (by simp)).trans h.c0, by rw [List.length_drop]; exact World.cell?_setCell_same' _ _ _ (by rw [h.c1]; rfl), by rw [World.frozen?_setCell]; exact h.f0, by rw [World.frozen?_setCell]; exact h.f1, by rw [List.length_drop]; have := h.cap; omega,
    fun ad ha => by
      have : ∃ a0, A = some a0 ∧ ad.block = a0.block := by
        split at ha
        · exact ⟨ad, ha, rfl⟩
        · obtain ⟨a0, h0, h1⟩ := Option.map_eq_some_iff.1 ha
          exact ⟨a0, h0, by rw [← h1]; unfold Addr.add; split <;> rfl⟩
      obtain ⟨a0, h0, h1⟩ := this
      rw [h1]
      simpa using h.apart a0 h0,
    (h.at_.drop n c h.cap).other (fun ad ha => by
      have : ∃ a0, A = some a0 ∧ ad.block = a0.block := by
        split at ha
        · exact ⟨ad, ha, rfl⟩
        · obtain ⟨a0, h0, h1⟩ := Option.map_eq_some_iff.1 ha
          exact ⟨a0, h0, by rw [← h1]; unfold Addr.add; split <;> rfl⟩
      obtain ⟨a0, h0, h1⟩ := this
      rw [h1]
      exact (h.apart a0 h0).1) _⟩
theorem RdAt.blk_lt {w : World} {br B : Nat} {e : Int} {L : List UInt8} {A : Option Addr} {c n : Nat} (h : ∀ ad, A = some ad → ad.block < B) : ∀ ad, (if c = n then A else A.map (·.add (n * 1))) = some ad → ad.block < B := by
  intro ad ha
  have : ∃ a0, A = some a0 ∧ ad.block = a0.block := by
    split at ha
    · exact ⟨ad, ha, rfl⟩
    · obtain ⟨a0, h0, h1⟩ := Option.map_eq_some_iff.1 ha
      exact ⟨a0, h0, by rw [← h1]; unfold Addr.add; split <;> rfl⟩
  obtain ⟨a0, h0, h1⟩ := this
  rw [h1]
  exact h a0 h0
/-- THE CONTRACT of Fixed. -/
theorem rdFixed (br B n : Nat) (hn1 : 1 ≤ n) (hn8 : n ≤ 8) (e : Int) (L : List UInt8) (w : World) (h : RdSt w br B e L) :
    Calls Tryd.prog 41 #[.pointer (some ⟨br, 0, none⟩), .int .i64 (n : Int)] w fun en w' => en = .returned (.int .u64 ((rdS e L n).2.2 : Int)) ∧ RdSt w' br B (rdS e L n).1 (rdS e L n).2.1 ∧ FrR br w w' := by
  obtain ⟨hB, hBw, A, c, h, hAB⟩ := h
  have keep : ∀ {W w' w2 : World} {e' : Int} {L' : List UInt8} {A' : Option Addr} {c' : Nat}, Below w.heap.size w W → FrR br W w' → RdAt w' br e' L' A' c' → (∀ ad, A' = some ad → ad.block < B) → Below w.heap.size w' w2 → RdSt w2 br B e' L' := fun hW hf hr hA hb =>
    ⟨hB, Nat.le_trans hBw (Nat.le_trans hW.size (Nat.le_trans hf.size hb.size)), _, _, hr.below hB hA (hb.mono hBw), hA⟩
  unfold rdS
  by_cases he : e ≠ 0
  · rw [if_pos he]
    exact rdFixed_ br B n hn1 hn8 [] 0 rfl (by omega) none 0 e L w (fun W hW => (takeNo br e he n W ((h.kept hW).c0)).mono fun en w' ⟨h1, h2⟩ => by
      subst h2
      exact ⟨h1, fun w2 hb => keep hW (FrR.refl _ _) (h.kept hW) hAB hb, FrR.refl _ _, fun h0 => absurd h0 (by omega), fun k b hk => by simp at hk⟩) h.lt
  · rw [if_neg he]
    obtain rfl : e = 0 := by omega
    by_cases hn : L.length < n
    · rw [if_pos hn]
      exact rdFixed_ br B n hn1 hn8 [] 0 rfl (by omega) none 0 3 L w (fun W hW => (takeShort br L A c n hn W (h.kept hW)).mono fun en w' ⟨h1, h2⟩ => by
        subst h2
        exact ⟨h1, fun w2 hb => keep hW (FrR.set _ _) ((h.kept hW).set0 3) hAB hb, FrR.set _ _, fun h0 => absurd h0 (by omega), fun k b hk => by simp at hk⟩) h.lt
    · rw [if_neg hn]
      have hTl : (L.take n).length = n := by rw [List.length_take]; omega
      exact rdFixed_ br B n hn1 hn8 (L.take n) n hTl hn8 A c 0 (L.drop n) w (fun W hW => (takeYes br L A c n (by omega) W (h.kept hW)).mono fun en w' ⟨h1, h2⟩ => by
        subst h2
        have hk := h.kept hW
        refine ⟨h1, fun w2 hb => keep hW (FrR.set _ _) (hk.set1 n (by omega)) (RdAt.blk_lt (w := w) (br := br) (e := 0) (L := L) hAB) hb, FrR.set _ _, fun h0 => ?_, fun k b hkb => ?_⟩
        · have hl0 : 0 < L.length := by omega
          obtain ⟨blk, off, hA, _⟩ := hk.at_ 0 L[0] (List.getElem?_eq_getElem hl0)
          exact ⟨_, hA⟩
        · exact (hk.at_.take n).other (fun ad ha => (hk.apart ad ha).1) _ k b hkb) h.lt
theorem rdErr (br B : Nat) (e : Int) (L : List UInt8) (w : World) (h : RdSt w br B e L) : Calls Tryd.prog 42 #[.pointer (some ⟨br, 0, none⟩)] w fun en w' => en = .returned (.int .i64 e) ∧ w = w' := by
  obtain ⟨-, -, A, c, h, -⟩ := h
  have h0 := h.c0
  clear h
  go_enter Tryd.func42, Tryd.ntmps42
  go_wp2
  go_ret
  exact ⟨rfl, rfl⟩
theorem rdLeft (br B : Nat) (L : List UInt8) {n : Nat} (hn : L.length = n) (w : World) (h : RdSt w br B 0 L) : Calls Tryd.prog 22 #[.pointer (some ⟨br, 0, none⟩)] w fun en w' => en = .returned (.int .i64 (n : Int)) ∧ w = w' := by
  obtain ⟨-, -, A, c, h, -⟩ := h
  have C : Hid (Calls Tryd.prog 39 #[.pointer (some ⟨br, 0, none⟩)] w fun en w' => en = .returned (.bool true) ∧ w = w') := rdFine br 0 w h.c0
  have h1 := h.c1
  rw [hn] at h1
  clear h hn
  go_enter Tryd.func22, Tryd.ntmps22
  go_wp2_with fail
  refine C.out.mono ?_
  rintro en w1 ⟨rfl, rfl⟩
  go_wp2
  go_ret
  exact ⟨rfl, rfl⟩
end Go.Proofs.YtncmbbkcpmimjaaDoor
