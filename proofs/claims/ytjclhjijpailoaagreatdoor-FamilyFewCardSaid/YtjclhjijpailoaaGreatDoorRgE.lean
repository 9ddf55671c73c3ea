/- The reference's Wide and Cuts. -/
import Derived.Test.YtjclhjijpailoaaGreatDoorRgD
namespace Go.Proofs.YtjclhjijpailoaaGreatDoor
open Go.RowKit Law Go.Shelf
set_option linter.unusedVariables false
set_option linter.unusedSimpArgs false
set_option maxRecDepth 100000
attribute [local go_sem] Oper.semAt_some

def WidePost (n : Nat) (L : List Pr) (off : Nat) (w : World) (e : Ending) (w' : World) : Prop :=
  ∃ z : Int, e = .returned (.int .i64 z) ∧ (z < 0 ↔ ¬ Conn (PP n off) (EE L)) ∧ Below w.heap.size w w'
/-- How the outer loop stands. -/
structure WI (n : Nat) (L : List Pr) (off i : Nat) (z : Int) : Prop where
  lo : -1 ≤ z
  hi : z < 64
  pos : (∃ j, j < i ∧ PP n off j) → 0 ≤ z
  some_ : 0 ≤ z → ∃ j, PP n off j
  all : ∀ a, a < i → PP n off a → ∀ b, PP n off b → Rch (PP n off) (EE L) a b
theorem WI.zero (n : Nat) (L : List Pr) (off : Nat) : WI n L off 0 (-1) := ⟨by omega, by omega, fun ⟨j, h, _⟩ => by omega, fun h => by omega, fun a h => by omega⟩
theorem WI.done {n : Nat} {L : List Pr} {off : Nat} {z : Int} (h : WI n L off n z) : z < 0 ↔ ¬ Conn (PP n off) (EE L) := by
  constructor
  · rintro hz ⟨⟨j, hj⟩, _⟩
    have := h.pos ⟨j, hj.1, hj⟩
    omega
  · intro hc
    by_cases hz : z < 0
    · exact hz
    · exact absurd ⟨h.some_ (by omega), fun a b ha hb => h.all a ha.1 ha b hb⟩ hc
theorem WI.skip {n : Nat} {L : List Pr} {off i : Nat} {z : Int} (h : WI n L off i z) (hi : off.testBit i = true) : WI n L off (i + 1) z := by
  refine ⟨h.lo, h.hi, fun ⟨j, hj, hp⟩ => h.pos ⟨j, ?_, hp⟩, h.some_, fun a ha hp => h.all a ?_ hp⟩
  · by_cases e : j = i
    · subst e; exact absurd (hi.symm.trans hp.2) (by decide)
    · omega
  · by_cases e : a = i
    · subst e; exact absurd (hi.symm.trans hp.2) (by decide)
    · omega
/-- How the inner loop stands. -/
structure WJ (n : Nat) (L : List Pr) (off i j : Nat) (z : Int) : Prop where
  wi : WI n L off i z
  pos : (∃ b, b < j ∧ PP n off b) → 0 ≤ z
  all : ∀ b, b < j → PP n off b → Rch (PP n off) (EE L) i b
theorem WJ.zero {n : Nat} {L : List Pr} {off i : Nat} {z : Int} (h : WI n L off i z) : WJ n L off i 0 z := ⟨h, fun ⟨j, h, _⟩ => by omega, fun a h => by omega⟩
theorem WJ.skip {n : Nat} {L : List Pr} {off i j : Nat} {z : Int} (h : WJ n L off i j z) (hj : off.testBit j = true) : WJ n L off i (j + 1) z := by
  refine ⟨h.wi, fun ⟨b, hb, hp⟩ => h.pos ⟨b, ?_, hp⟩, fun b hb hp => h.all b ?_ hp⟩ <;>
  · by_cases e : b = j
    · subst e; exact absurd (hj.symm.trans hp.2) (by decide)
    · omega
theorem WJ.next {n : Nat} {L : List Pr} {off i j : Nat} {z z' : Int} (h : WJ n L off i j z) (hp : PP n off j) (hr : Rch (PP n off) (EE L) i j) (h0 : 0 ≤ z') (h1 : z' < 64) : WJ n L off i (j + 1) z' := by
  refine ⟨⟨by omega, h1, fun _ => h0, fun _ => ⟨j, hp⟩, h.wi.all⟩, fun _ => h0, fun b hb hpb => ?_⟩
  by_cases e : b = j
  · subst e; exact hr
  · exact h.all b (by omega) hpb
theorem WJ.done {n : Nat} {L : List Pr} {off i : Nat} {z : Int} (h : WJ n L off i n z) (hp : PP n off i) : WI n L off (i + 1) z := by
  refine ⟨h.wi.lo, h.wi.hi, fun _ => h.pos ⟨i, hp.1, hp⟩, h.wi.some_, fun a ha hpa b hb => ?_⟩
  by_cases e : a = i
  · subst e; exact h.all b hb.1 hb
  · exact h.wi.all a (by omega) hpa b hb
set_option maxHeartbeats 6400000 in
theorem rWide (n : Nat) (hn : n ≤ 64) (A : Option Addr) (l c : Nat) (L : List Pr) (hl : L.length = l) (hm : l ≤ 140737488355328) (hLB : ∀ p ∈ L, nodeB n p.1 = true ∧ nodeB n p.2 = true) (off : Nat) (ho : off < 18446744073709551616) (w : World) (hA : LinksAt w A L) :
    Calls Tryz.prog 81 #[.agg #[.int .i64 (n : Int), .slice A l c], .int .u64 (off : Int)] w (WidePost n L off w) := by
  have CH := Lib.hid (fun (k : Nat) (hk : k < 64) (r : Bool) (hr : off.testBit k = r) W => refHasB (s := off) (i := (k : Int)) (r := r) (by rw [hasB_yes off k hk]; exact hr) ho W)
  have CD := Lib.hid (fun (i : Nat) (hi : PP n off i) (W : World) (hW : Below w.heap.size w W) => rDist n hn A l c L hl hm hLB i off hi ho W (hA.below hW))
  have HX := Lib.hid (boxF_made w [.int .i64 (n : Int), .slice A l c] 89)
  have HB := Lib.hid ((Below.refl w.heap.size w).alloc (Nat.le_refl _) (.cells #[.int .i64 (n : Int), .slice A l c] 89))
  clear hl
  go_enter Tryz.func81, Tryz.ntmps81
  go_wp2
  go_loopw [5, 6] (fun z i' wr => ∃ (x : Int) (i : Nat), z = .int .i64 x ∧ i' = .int .i64 i ∧ i ≤ n ∧ WI n L off i x ∧ BoxF wr w.heap.size [.int .i64 (n : Int), .slice A l c] ∧ Below w.heap.size w wr) (fun _ i' _ => n - (intOf i').toNat)
  case atStart => exact ⟨-1, 0, rfl, rfl, Nat.zero_le _, WI.zero n L off, HX.out, HB.out⟩
  case round =>
    obtain ⟨x, i, rfl, rfl, hi, hwi, hbx, hb⟩ := hrel
    obtain ⟨W1, rfl⟩ : ∃ W1, W1 = wr := ⟨_, rfl⟩
    clear HX HB
    have b0 := hbx.1 0 _ rfl
    have b1 := hbx.1 1 _ rfl
    by_cases hin : i < n
    · cases hq : off.testBit i
      rotate_left
      · have HR := Lib.hid (And.intro (hwi.skip hq) (And.intro hbx hb))
        have C1 := Lib.hid (CH.out i (by omega) true hq)
        clear hwi hbx hb hq
        go_wp2_with fail
        refine (C1.out _).mono ?_
        rintro e w' ⟨rfl, rfl⟩
        go_wp2
        go_roundw
        case rel => exact ⟨x, i + 1, rfl, by go_num, by omega, HR.out⟩
        case measure => simp [intOf]; omega
      · have HP : Hid (PP n off i) := ⟨hin, hq⟩
        have C1 := Lib.hid (CH.out i (by omega) false hq)
        have HWI := Lib.hid hwi
        have HBX := Lib.hid hbx
        have HB := Lib.hid hb
        clear hwi hbx hb hq
        go_wp2_with fail
        refine (C1.out _).mono ?_
        rintro e w' ⟨rfl, rfl⟩
        go_wp2_with fail
        refine (CD.out i HP.out _ HB.out).mono ?_
        rintro e W2 ⟨v, d, rfl, hd, hown, hb2, hfit, hdr⟩
        obtain ⟨g, cap, rfl⟩ := Joins.ownsRow_form hown (by omega)
        have hbx2 := HBX.out.keep hb2
        have b0' := hbx2.1 0 _ rfl
        have a0 := fun (j : Nat) (hj : j < n) => (hown.cellAt j (by omega)).trans (intV_at (d := d) (by omega))
        have HA0 := Lib.hid a0
        have HFIT := Lib.hid hfit
        have HDR := Lib.hid hdr
        have HBX2 := Lib.hid hbx2
        have HB2 := Lib.hid (HB.out.trans (hb2.mono HB.out.size))
        clear b0 b1 hown a0 hfit hdr hbx2 hb2
        go_wp2
        go_loopw [5, 8] (fun z j' wr => ∃ (x : Int) (j : Nat), z = .int .i64 x ∧ j' = .int .i64 j ∧ j ≤ n ∧ WJ n L off i j x ∧ wr = W2) (fun _ j' _ => n - (intOf j').toNat)
        case atStart => exact ⟨x, 0, rfl, rfl, Nat.zero_le _, WJ.zero HWI.out, rfl⟩
        case round =>
          obtain ⟨x, j, rfl, rfl, hj, hwj, rfl⟩ := hrel
          clear HWI
          by_cases hjn : j < n
          · have a1 := HA0.out j hjn
            have fj := HFIT.out j hjn
            have dj := HDR.out j hjn
            obtain ⟨y, hy⟩ : ∃ y, gI d j = y := ⟨_, rfl⟩
            rw [hy] at a1 fj dj
            clear hy
            have HWJ := Lib.hid hwj
            have hlo := hwj.wi.lo
            have hhi := hwj.wi.hi
            have HDJ := Lib.hid dj
            clear hwj dj
            cases hq : off.testBit j
            rotate_left
            · have HR := Lib.hid (HWJ.out.skip hq)
              have C2 := Lib.hid (CH.out j (by omega) true hq)
              clear hq
              go_wp2_with fail
              refine (C2.out _).mono ?_
              rintro e w' ⟨rfl, rfl⟩
              go_wp2
              go_roundw
              case rel => exact ⟨x, j + 1, rfl, by go_num, by omega, HR.out, by trivial⟩
              case measure => simp [intOf]; omega
            · have HPJ : Hid (PP n off j) := ⟨hjn, hq⟩
              have C2 := Lib.hid (CH.out j (by omega) false hq)
              clear hq
              by_cases hy0 : y < 0
              · have HR : Hid (WidePost n L off w (.returned (.int .i64 (-1))) wr) := ⟨-1, rfl, ⟨fun _ hc => by
                  have := HDJ.out.2 (hc.2 i j HP.out HPJ.out)
                  omega, fun _ => by omega⟩, HB2.out⟩
                go_wp2_with fail
                refine (C2.out _).mono ?_
                rintro e w' ⟨rfl, rfl⟩
                go_wp2
                go_ret
                exact HR.out
              · have HRJ := Lib.hid (HDJ.out.1 (by omega))
                by_cases hyx : y > x
                · have HR := Lib.hid (HWJ.out.next HPJ.out HRJ.out (z' := y) (by omega) (by omega))
                  go_wp2_with fail
                  refine (C2.out _).mono ?_
                  rintro e w' ⟨rfl, rfl⟩
                  go_wp2
                  go_roundw
                  case rel => exact ⟨y, j + 1, rfl, by go_num, by omega, HR.out, by trivial⟩
                  case measure => simp [intOf]; omega
                · have HR := Lib.hid (HWJ.out.next HPJ.out HRJ.out (z' := x) (by omega) (by omega))
                  go_wp2_with fail
                  refine (C2.out _).mono ?_
                  rintro e w' ⟨rfl, rfl⟩
                  go_wp2
                  go_roundw
                  case rel => exact ⟨x, j + 1, rfl, by go_num, by omega, HR.out, by trivial⟩
                  case measure => simp [intOf]; omega
          · obtain rfl : j = n := by omega
            have HR := Lib.hid (And.intro (hwj.done HP.out) (And.intro HBX2.out HB2.out))
            clear hwj
            go_wp2
            go_roundw
            case rel => exact ⟨x, i + 1, rfl, by go_num, by omega, HR.out⟩
            case measure => simp [intOf]; omega
    · obtain rfl : i = n := by omega
      have HR : Hid (WidePost i L off w (.returned (.int .i64 x)) W1) := ⟨x, rfl, hwi.done, hb⟩
      clear hwi hbx hb
      go_wp2
      go_ret
      exact HR.out
theorem rCutsRef (n : Nat) (hn : n ≤ 64) (A : Option Addr) (l c : Nat) (L : List Pr) (hl : L.length = l) (hm : l ≤ 140737488355328) (hLB : ∀ p ∈ L, nodeB n p.1 = true ∧ nodeB n p.2 = true) (off : Nat) (ho : off < 18446744073709551616) (w : World) (hA : LinksAt w A L) :
    Calls Tryz.prog 69 #[.agg #[.int .i64 (n : Int), .slice A l c], .int .u64 (off : Int)] w fun e w' => e = .returned (.bool (!wholeB n (nr (nearL n L)) off)) ∧ Below w.heap.size w w' := by
  have HW := Lib.hid (whole_iff hLB hn off)
  have HB := Lib.hid ((Below.refl w.heap.size w).alloc (Nat.le_refl _) (.cells #[.int .i64 (n : Int), .slice A l c] 89))
  have C := Lib.hid (fun (W : World) (hW : Below w.heap.size w W) => rWide n hn A l c L hl hm hLB off ho W (hA.below hW))
  clear hl
  go_enter Tryz.func69, Tryz.ntmps69
  go_wp2_with fail
  refine (C.out _ HB.out).mono ?_
  rintro e W ⟨z, rfl, hz, hb⟩
  have HZ := Lib.hid hz
  have HB2 := Lib.hid (HB.out.trans (hb.mono HB.out.size))
  clear hz hb
  go_wp2
  go_ret
  refine ⟨ret_bool ?_, HB2.out⟩
  cases hq : wholeB n (nr (nearL n L)) off
  · have : z < 0 := HZ.out.2 (fun hc => by rw [HW.out.2 hc] at hq; cases hq)
    simp [this]
  · have : ¬ z < 0 := fun h => HZ.out.1 h (HW.out.1 hq)
    simp [this]
end Go.Proofs.YtjclhjijpailoaaGreatDoor
