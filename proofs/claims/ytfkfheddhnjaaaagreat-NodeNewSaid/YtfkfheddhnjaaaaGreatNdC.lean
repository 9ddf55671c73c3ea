/- The small objects of a node that hold another one: how each is made. -/
import Derived.Test.YtfkfheddhnjaaaaGreatNdB
namespace Go.Proofs.YtfkfheddhnjaaaaGreat
open Go.RowKit Law
set_option linter.unusedVariables false
set_option linter.unusedSimpArgs false
set_option maxRecDepth 100000

def ClockPost (most : Int) (w : World) (e : Ending) (w' : World) : Prop := ∃ b s, e = .returned (.pointer (some ⟨b, 0, none⟩)) ∧ BoxF w' b [.pointer (some ⟨s, 0, none⟩), .int .i64 0, .int .i64 0, .int .i64 most] ∧ BoxF w' s [.int .i64 0, .int .i64 (clampI most 1 256)] ∧ w.heap.size ≤ s ∧ s < b ∧ Below w.heap.size w w'
theorem clockNew (most : Int) (w : World) : Calls Tryz.prog 15 #[.int .i64 most] w (ClockPost most w) := by
  have C := Lib.hid (slewNew most w)
  go_enter Tryz.func15, Tryz.ntmps15
  go_wp2_with fail
  refine C.out.mono ?_
  rintro e w1 ⟨s, rfl, hs, hsl, hb⟩
  have hb2 := (Below.refl w1.heap.size w1).alloc (Nat.le_refl _) (.cells #[.pointer (some ⟨s, 0, none⟩), .int .i64 0, .int .i64 0, .int .i64 most] 166)
  have HF : Hid (ClockPost most w (.returned (.pointer (some ⟨w1.heap.size, 0, none⟩))) (w1.alloc (.cells #[.pointer (some ⟨s, 0, none⟩), .int .i64 0, .int .i64 0, .int .i64 most] 166))) :=
    ⟨_, s, rfl, boxF_made w1 _ _, hs.keep hb2, hsl, hs.lt (by simp), hb.trans (hb2.mono hb.size)⟩
  clear hs hsl hb hb2
  go_wp2
  go_ret
  exact HF.out
def SeenPost (most : Int) (w : World) (e : Ending) (w' : World) : Prop := ∃ b t m, e = .returned (.pointer (some ⟨b, 0, none⟩)) ∧ BoxF w' b [.pointer (some ⟨t, 0, none⟩)] ∧ BoxF w' t [.slice none 0 0, .map (some m), .int .i64 (min (max most 0) 65536)] ∧ NoMap w' m ∧ w.heap.size ≤ m ∧ m < t ∧ t < b ∧ Below w.heap.size w w'
theorem seenNew (most : Int) (w : World) : Calls Tryz.prog 65 #[.int .i64 most] w (SeenPost most w) := by
  have C := Lib.hid (tabNewI most w)
  go_enter Tryz.func65, Tryz.ntmps65
  go_wp2_with fail
  refine C.out.mono ?_
  rintro e w1 ⟨t, m, rfl, ht, hm, hml, hmt, hb⟩
  have hb2 := (Below.refl w1.heap.size w1).alloc (Nat.le_refl _) (.cells #[.pointer (some ⟨t, 0, none⟩)] 220)
  have HF : Hid (SeenPost most w (.returned (.pointer (some ⟨w1.heap.size, 0, none⟩))) (w1.alloc (.cells #[.pointer (some ⟨t, 0, none⟩)] 220))) :=
    ⟨_, t, m, rfl, boxF_made w1 _ _, ht.keep hb2, hm.keep hb2, hml, hmt, ht.lt (by simp), hb.trans (hb2.mono hb.size)⟩
  clear ht hm hml hmt hb hb2
  go_wp2
  go_ret
  exact HF.out
def HistPost (most delta : Int) (w : World) (e : Ending) (w' : World) : Prop := ∃ b t m q, e = .returned (.pointer (some ⟨b, 0, none⟩)) ∧ BoxF w' b [.pointer (some ⟨t, 0, none⟩), .map (some q), .int .i64 (clampI delta 0 1152921504606846976), .int .i64 0, .int .i64 0, .int .u32 0, .bool false] ∧ BoxF w' t [.slice none 0 0, .map (some m), .int .i64 (min (max most 0) 65536)] ∧ NoMap w' m ∧ NoMap w' q ∧ w.heap.size ≤ m ∧ m < t ∧ t < q ∧ q < b ∧ Below w.heap.size w w'
theorem histNew (most delta : Int) (w : World) : Calls Tryz.prog 17 #[.int .i64 most, .int .i64 delta] w (HistPost most delta w) := by
  have C := Lib.hid (tabNewP most w)
  have D := Lib.hid (fun W => spanClamp delta 0 1152921504606846976 W)
  have hmk : ∀ W : World, (Instr.makeMap 176 none).run Tryz.prog W = .ok (.map (some W.heap.size)) (W.alloc (.map #[] 0)) := fun W => by rfl
  go_enter Tryz.func17, Tryz.ntmps17
  go_wp2_with fail
  refine C.out.mono ?_
  rintro e w1 ⟨t, m, rfl, ht, hm, hml, hmt, hb⟩
  obtain ⟨dl, hdl⟩ : ∃ d, clampI delta 0 1152921504606846976 = d := ⟨_, rfl⟩
  rw [hdl] at D
  have hb1 : Below w1.heap.size w1 (w1.alloc (.map #[] 0)) := (Below.refl _ _).alloc (Nat.le_refl _) _
  have hq := noMap_made w1
  obtain ⟨w2, hw2⟩ : ∃ w2, w1.alloc (.map #[] 0) = w2 := ⟨_, rfl⟩
  have hs2 : w2.heap.size = w1.heap.size + 1 := by rw [← hw2]; simp
  rw [hw2] at hb1 hq
  have hb2 := (Below.refl w2.heap.size w2).alloc (Nat.le_refl _) (.cells #[.pointer (some ⟨t, 0, none⟩), .map (some w1.heap.size), .int .i64 dl, .int .i64 0, .int .i64 0, .int .u32 0, .bool false] 178)
  have hb12 := hb.trans (hb1.mono hb.size)
  have HF : Hid (HistPost most delta w (.returned (.pointer (some ⟨w2.heap.size, 0, none⟩))) (w2.alloc (.cells #[.pointer (some ⟨t, 0, none⟩), .map (some w1.heap.size), .int .i64 dl, .int .i64 0, .int .i64 0, .int .u32 0, .bool false] 178))) :=
    ⟨_, t, m, w1.heap.size, rfl, by rw [hdl]; exact boxF_made w2 _ _, (ht.keep hb1).keep hb2, (hm.keep hb1).keep hb2, hq.keep hb2, hml, hmt, ht.lt (by simp), by omega, hb12.trans (hb2.mono hb12.size)⟩
  clear ht hm hml hmt hb hb1 hb2 hb12 hq hs2 hdl
  go_wp2_with fail
  refine (D.out _).mono ?_
  rintro e w3 ⟨rfl, rfl⟩
  go_wp2
  go_ret
  exact HF.out
end Go.Proofs.YtfkfheddhnjaaaaGreat
