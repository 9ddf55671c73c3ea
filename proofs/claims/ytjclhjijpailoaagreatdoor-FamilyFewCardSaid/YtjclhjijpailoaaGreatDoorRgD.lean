/- The reference's distances. -/
import Derived.Test.YtjclhjijpailoaaGreatDoorRgB
import Derived.Test.YtjclhjijpailoaaGreatDoorRgP
namespace Go.Proofs.YtjclhjijpailoaaGreatDoor
open Go.RowKit Law Go.Shelf
set_option linter.unusedVariables false
set_option linter.unusedSimpArgs false
set_option maxRecDepth 100000
attribute [local go_sem] Oper.semAt_some

theorem intV_at {d : List Int} {j : Nat} (hj : j < d.length) : (intV d)[j]? = some (.int .i64 (gI d j)) := by
  simp [intV, gI, hj]
theorem intV_set (d : List Int) (j : Nat) (x : Int) : (intV d).set j (.int .i64 x) = intV (d.set j x) := by simp [intV, List.map_set]
/-- How it stands while distances are bettered. -/
structure DS (w W : World) (n : Nat) (S : Value) (g cap : Nat) (d : List Int) : Prop where
  bx : BoxF W w.heap.size [.int .i64 (n : Int), S]
  own : W.ownsRow (w.heap.size + 1) 3 1 (.slice (some ⟨g, 0, none⟩) n cap) n (intV d)
  bel : Below w.heap.size w W
section
variable {w W W' : World} {n : Nat} {S : Value} {g cap : Nat} {d : List Int}
theorem DS.keep (h : DS w W n S g cap d) (hb : Below W.heap.size W W') : DS w W' n S g cap d := ⟨h.bx.keep hb, own_below h.own hb, h.bel.trans (hb.mono h.bel.size)⟩
theorem DS.at_ (h : DS w W n S g cap d) (hd : d.length = n) {j : Nat} (hj : j < n) : W.cell? ⟨g, j, none⟩ = some (.int .i64 (gI d j)) := by
  rw [h.own.cellAt j (by omega)]; exact intV_at (by omega)
theorem DS.fr (h : DS w W n S g cap d) (j : Nat) : W.frozen? ⟨g, j, none⟩ = false := h.own.frozenAt j
theorem DS.lt (h : DS w W n S g cap d) : w.heap.size + 1 ≤ g := (h.own.lt g rfl).1
theorem DS.put (h : DS w W n S g cap d) (j : Nat) (x : Int) : DS w (W.setCell ⟨g, j, none⟩ (.int .i64 x)) n S g cap (d.set j x) :=
  ⟨h.bx.other (a := ⟨g, j, none⟩) (by have := h.lt; show g ≠ _; omega) _, by rw [← intV_set]; exact (h.own.stored j _).1, h.bel.setCell (p := ⟨g, j, none⟩) (by have := h.lt; show w.heap.size ≤ g; omega) _⟩
def rowG (n g : Nat) (W : World) : List Int := (List.range n).map fun k => match W.cell? ⟨g, k, none⟩ with | some (.int _ z) => z | _ => 0
theorem DS.row (h : DS w W n S g cap d) (hd : d.length = n) : rowG n g W = d := by
  refine List.ext_getElem (by simp [rowG, hd]) fun k h1 h2 => ?_
  have hk : k < n := by rw [← hd]; exact h2
  have := h.at_ hd hk
  simp only [rowG, List.getElem_map, List.getElem_range, this]
  simp [gI, h2]
end
def mB : Value → Nat
  | .bool true => 1
  | _ => 0
theorem betterB_no1 {L : List Pr} {off : Nat} {d : List Int} {a b : Nat} (h : gI d a < 0) : betterB L off d a b = false := by
  unfold betterB; rw [decide_eq_false (by omega)]; rfl
theorem betterB_no2 {L : List Pr} {off : Nat} {d : List Int} {a b : Nat} (h : hasB off (b : Int) = true) : betterB L off d a b = false := by
  unfold betterB; rw [h]; simp
theorem betterB_no3 {L : List Pr} {off : Nat} {d : List Int} {a b : Nat} (h : adjB L (a : Int) (b : Int) = false) : betterB L off d a b = false := by
  unfold betterB; rw [h]; simp
theorem betterB_no4 {L : List Pr} {off : Nat} {d : List Int} {a b : Nat} (h : ¬ gI d b < 0) (h2 : ¬ gI d b > gI d a + 1) : betterB L off d a b = false := by
  unfold betterB; rw [decide_eq_false h, decide_eq_false h2]; simp
theorem betterB_yes {L : List Pr} {off : Nat} {d : List Int} {a b : Nat} (h0 : ¬ gI d a < 0) (h1 : hasB off (b : Int) = false) (h2 : adjB L (a : Int) (b : Int) = true) (h3 : gI d b < 0 ∨ gI d b > gI d a + 1) : betterB L off d a b = true := by
  unfold betterB
  rw [decide_eq_true (show 0 ≤ gI d a by omega), h1, h2]
  rcases h3 with h3 | h3
  · rw [decide_eq_true h3]; rfl
  · rw [decide_eq_true h3]; simp
theorem DI.fit {n : Nat} {L : List Pr} {off i : Nat} {d : List Int} (h : DI n L off i d) {k : Nat} (hk : k < n) : -1 ≤ gI d k ∧ gI d k < n := by
  have h1 := h.low k hk
  have h2 := h.bound k hk
  have h3 := cntI_le d
  rw [h.len] at h3
  omega
def DistPost (n : Nat) (L : List Pr) (off i : Nat) (w : World) (e : Ending) (w' : World) : Prop :=
  ∃ (v : Value) (d : List Int), e = .returned v ∧ d.length = n ∧ w'.ownsRow w.heap.size 3 1 v n (intV d) ∧ Below w.heap.size w w' ∧ (∀ k, k < n → -1 ≤ gI d k ∧ gI d k < n) ∧ ∀ k, k < n → (0 ≤ gI d k ↔ Rch (PP n off) (EE L) i k)
/-- What stands in the loops within a round: bettered or all as it was. -/
def Rd (n : Nat) (L : List Pr) (off : Nat) (d0 d : List Int) (b : Bool) (k j : Nat) : Prop :=
  (b = true → muI n d < muI n d0) ∧ (b = false → d = d0 ∧ ∀ x y, (x < k ∨ (x = k ∧ y < j)) → y < n → betterB L off d0 x y = false)
theorem Rd.next {n : Nat} {L : List Pr} {off : Nat} {d0 d : List Int} {b : Bool} {k j : Nat} (h : Rd n L off d0 d b k j) (hq : betterB L off d k j = false) : Rd n L off d0 d b k (j + 1) := by
  refine ⟨h.1, fun hb => ⟨(h.2 hb).1, fun x y hxy hy => ?_⟩⟩
  obtain ⟨rfl, h2⟩ := h.2 hb
  rcases hxy with hx | ⟨rfl, hy2⟩
  · exact h2 x y (.inl hx) hy
  · by_cases e : y = j
    · subst e; exact hq
    · exact h2 x y (.inr ⟨rfl, by omega⟩) hy
theorem Rd.row {n : Nat} {L : List Pr} {off : Nat} {d0 d : List Int} {b : Bool} {k : Nat} (h : Rd n L off d0 d b k n) : Rd n L off d0 d b (k + 1) 0 := by
  refine ⟨h.1, fun hb => ⟨(h.2 hb).1, fun x y hxy hy => ?_⟩⟩
  rcases hxy with hx | ⟨_, hy2⟩
  · by_cases e : x = k
    · subst e; exact (h.2 hb).2 x y (.inr ⟨rfl, hy⟩) hy
    · exact (h.2 hb).2 x y (.inl (by omega)) hy
  · omega
theorem Rd.hit {n : Nat} {L : List Pr} {off : Nat} {d0 d : List Int} {b : Bool} {k j : Nat} (h : Rd n L off d0 d b k j) {d' : List Int} (hm : muI n d' < muI n d) : Rd n L off d0 d' true k (j + 1) := by
  refine ⟨fun _ => ?_, fun hb => by cases hb⟩
  cases b with
  | true => have := h.1 rfl; omega
  | false => obtain ⟨rfl, _⟩ := h.2 rfl; exact hm
set_option maxHeartbeats 6400000 in
theorem rDist (n : Nat) (hn : n ≤ 64) (A : Option Addr) (l c : Nat) (L : List Pr) (hl : L.length = l) (hm : l ≤ 140737488355328) (hLB : ∀ p ∈ L, nodeB n p.1 = true ∧ nodeB n p.2 = true) (i off : Nat) (hi : PP n off i) (ho : off < 18446744073709551616) (w : World) (hA : LinksAt w A L) :
    Calls Tryz.prog 91 #[.agg #[.int .i64 (n : Int), .slice A l c], .int .i64 (i : Int), .int .u64 (off : Int)] w (DistPost n L off i w) := by
  obtain ⟨i0, hi0, hz0, hz1, hz2⟩ := info_parts intInfo
  have hin := hi.1
  have CH := Lib.hid (fun W => refHasB (s := off) (i := (i : Int)) (r := false) (by rw [hasB_yes off i (by omega)]; exact hi.2) ho W)
  have CL := Lib.hid (fun (a b : Nat) (W : World) (hW : Below w.heap.size w W) => rLinked (n : Int) A l c L hl hm (a : Int) (b : Int) W (hA.below hW))
  have hb0 := (Below.refl w.heap.size w).alloc (Nat.le_refl _) (.cells #[.int .i64 (n : Int), .slice A l c] 89)
  have hx0 := boxF_made w [.int .i64 (n : Int), .slice A l c] 89
  have h00 := World.ownsRow_made (base := w.heap.size + 1) (e := 3) (size := 1) (w.alloc (.cells #[.int .i64 (n : Int), .slice A l c] 89)) #[] 0 (by simp) (by simp [maxLen]) rfl
  have HX := Lib.hid (hx0.keep ((Below.refl _ (w.alloc (.cells #[.int .i64 (n : Int), .slice A l c] 89))).alloc (Nat.le_refl _) (.cells #[] 3)))
  have HB := Lib.hid (hb0.alloc (by simp) (.cells #[] 3))
  have H0 := Lib.hid h00
  have HPI := Lib.hid hi
  clear hb0 hx0 h00 hi hl
  go_enter Tryz.func91, Tryz.ntmps91
  go_wp2
  go_loopw [7, 8] (fun v i' wr => ∃ k : Nat, k ≤ n ∧ i' = .int .i64 k ∧ BoxF wr w.heap.size [.int .i64 (n : Int), .slice A l c] ∧ wr.ownsRow (w.heap.size + 1) 3 1 v k (intV (List.replicate k (-1))) ∧ Below w.heap.size w wr) (fun _ i' _ => n - (intOf i').toNat)
  case atStart => exact ⟨0, Nat.zero_le _, rfl, HX.out, by simpa using H0.out, HB.out⟩
  case round =>
    obtain ⟨k, hk, rfl, hbx, hown, hb⟩ := hrel
    have b0 := hbx.1 0 _ rfl
    have b1 := hbx.1 1 _ rfl
    have HBX := Lib.hid hbx
    clear hbx
    by_cases hlt : k < n
    · go_wp2_with (at_builtin; refine wpList_append_own _ rfl _ _ 95 rfl (w.heap.size + 1) 3 i0 (.int .i64 0) 1 8 Tryz.underlying95 hi0 hz0 hz1 hz2 rfl (by decide) _ _ _ rfl (hown.alloc _) ⟨wr.heap.size, 0, none⟩ 1 1 [.int .i64 (-1)] rfl rfl ?c1 ?c2 ?c3 ?c4 ?c5 ?_)
      case c1 =>
        intro j u hj
        match j, hj with
        | 0, hj => simp at hj; subst hj; simp [Addr.add]
      case c2 => intro u hu; simp at hu; subst hu; rfl
      case c3 => unfold maxLen; omega
      case c4 => omega
      case c5 => have := HBX.out.lt (by simp); simp; omega
      intro v' w1 hown' hgrow _
      have hb3 : Below w.heap.size w w1 := (hb.alloc hb.size _).grown hgrow (by have := hb.size; simp; omega) (fun j hj => by have := (hown.lt j hj).1; omega)
      have hbx1 : BoxF w1 w.heap.size [.int .i64 (n : Int), .slice A l c] := by
        have hlt3 := HBX.out.lt (by simp)
        have hblk : w1.heap[w.heap.size]? = wr.heap[w.heap.size]? := (hgrow.block _ (by simp; omega) (fun e => by have := (hown.lt _ e.symm).1; omega)).trans (Below.heap_alloc _ _ _ hlt3)
        exact ⟨fun j u hj => by rw [World.cell?_of_block (w := wr) (w' := w1) (a := ⟨w.heap.size, j, none⟩) hblk]; exact HBX.out.1 j u hj, fun j hj => by rw [World.frozen?_of_block (w := wr) (w' := w1) (a := ⟨w.heap.size, j, none⟩) hblk]; exact HBX.out.2 j hj⟩
      have hown2 : w1.ownsRow (w.heap.size + 1) 3 1 v' (k + 1) (intV (List.replicate (k + 1) (-1))) := by
        simpa [intV, List.replicate_succ'] using hown'
      have HR := Lib.hid (And.intro hbx1 (And.intro hown2 hb3))
      clear hbx1 hown2 hb3 hown' hgrow
      go_wp2
      go_roundw
      case rel => exact ⟨k + 1, by omega, by go_num, HR.out⟩
      case measure => simp [intOf]; omega
    · obtain rfl : k = n := by omega
      obtain ⟨g, cap, rfl⟩ := Joins.ownsRow_form hown (by omega)
      have hdi := DI.first (n := k) (L := L) (off := off) (i := i) HPI.out
      have hds : DS w wr k (.slice A l c) g cap (List.replicate k (-1)) := ⟨HBX.out, hown, hb⟩
      have f0 := hds.fr i
      have a0 := hds.at_ (by simp) hin
      have HS := Lib.hid (hds.put i 0)
      have HDI := Lib.hid hdi
      have hltg := hds.lt
      clear hds hdi hown
      go_wp2_with fail
      refine (CH.out _).mono ?_
      rintro e w' ⟨rfl, rfl⟩
      go_wp2
      obtain ⟨W0, hW0⟩ : ∃ W0, wr.setCell ⟨g, i, none⟩ (.int .i64 0) = W0 := ⟨_, rfl⟩
      rw [hW0] at HS ⊢
      clear hW0 f0 a0 b0 b1 HBX hb
      go_loopw [9] (fun m wr => ∃ (b : Bool) (d : List Int), m = .bool b ∧ DI k L off i d ∧ DS w wr k (.slice A l c) g cap d ∧ (b = false → ∀ x y, x < k → y < k → betterB L off d x y = false)) (fun m wr => 2 * muI k (rowG k g wr) + mB m)
      case atStart => exact ⟨true, _, rfl, HDI.out, HS.out, fun h => by cases h⟩
      case round =>
        obtain ⟨b, d, rfl, hdi, hds, hno⟩ := hrel
        obtain ⟨W1, rfl⟩ : ∃ W1, W1 = wr := ⟨_, rfl⟩
        clear HS HDI
        have HNO := Lib.hid hno
        have HDI := Lib.hid hdi
        have HDS := Lib.hid hds
        clear hdi hds hno
        cases b with
        | false =>
          have HP : Hid (DistPost k L off i w (.returned (.slice (some ⟨g, 0, none⟩) k cap)) W1) := ⟨_, d, rfl, HDI.out.len, ownsRow_base HDS.out.own (by omega), HDS.out.bel, fun j hj => HDI.out.fit hj, fun j hj => HDI.out.done hn HPI.out (fun x y hx hy => HNO.out rfl x y hx hy) j hj⟩
          go_wp2
          go_ret
          exact HP.out
        | true =>
          go_wp2
          go_loopw [9, 10] (fun m a' wr => ∃ (b : Bool) (x : Nat) (d' : List Int), m = .bool b ∧ a' = .int .i64 x ∧ x ≤ k ∧ DI k L off i d' ∧ DS w wr k (.slice A l c) g cap d' ∧ Rd k L off d d' b x 0) (fun _ a' _ => k - (intOf a').toNat)
          case atStart => exact ⟨false, 0, d, rfl, rfl, Nat.zero_le _, HDI.out, HDS.out, fun h => (by cases h), fun _ => ⟨rfl, fun x y h _ => by omega⟩⟩
          case round =>
            obtain ⟨b, x, d', rfl, rfl, hx, hdi, hds, hrd⟩ := hrel
            obtain ⟨W2, rfl⟩ : ∃ W2, W2 = wr := ⟨_, rfl⟩
            have b0 := hds.bx.1 0 _ rfl
            have HRD := Lib.hid hrd
            have HDI2 := Lib.hid hdi
            have HDS2 := Lib.hid hds
            clear hdi hds hrd
            by_cases hxk : x < k
            · go_wp2
              go_loopw [9, 11] (fun m a' wr => ∃ (b : Bool) (y : Nat) (d' : List Int), m = .bool b ∧ a' = .int .i64 y ∧ y ≤ k ∧ DI k L off i d' ∧ DS w wr k (.slice A l c) g cap d' ∧ Rd k L off d d' b x y) (fun _ a' _ => k - (intOf a').toNat)
              case atStart => exact ⟨b, 0, d', rfl, rfl, Nat.zero_le _, HDI2.out, HDS2.out, HRD.out⟩
              case round =>
                obtain ⟨b2, y, d2, rfl, rfl, hy, hdi, hds, hrd⟩ := hrel
                obtain ⟨W3, rfl⟩ : ∃ W3, W3 = wr := ⟨_, rfl⟩
                clear HRD HDI2 HDS2 b0
                have b0 := hds.bx.1 0 _ rfl
                by_cases hyk : y < k
                · go_wp2
                  clear b0
                  have b0 := fun U : Later W3 => (hds.bx.keep U.h).1 0 _ rfl
                  have b1 := fun U : Later W3 => (hds.bx.keep U.h).1 1 _ rfl
                  have a0 := fun U : Later W3 => (hds.keep U.h).at_ hdi.len hxk
                  have a1 := fun U : Later W3 => (hds.keep U.h).at_ hdi.len hyk
                  have CN := Lib.hid (fun U : Later W3 => CL.out x y U.val (hds.bel.trans (U.h.mono hds.bel.size)))
                  have CO := Lib.hid (fun W => refHas off ho (y : Int) W)
                  have fx := hdi.fit hxk
                  have fy := hdi.fit hyk
                  have HNX := Lib.hid (fun (h : betterB L off d2 x y = false) => hrd.next h)
                  have HHX := Lib.hid (fun (h : betterB L off d2 x y = true) => And.intro (hdi.better hxk hyk (by omega) h).1 (hrd.hit (hdi.better hxk hyk (by omega) h).2))
                  have HDI3 := Lib.hid hdi
                  have HDS3 := Lib.hid hds
                  have HQ1 := Lib.hid (fun h => betterB_no1 (L := L) (off := off) (d := d2) (a := x) (b := y) h)
                  have HQ2 := Lib.hid (fun h => betterB_no2 (L := L) (off := off) (d := d2) (a := x) (b := y) h)
                  have HQ3 := Lib.hid (fun h => betterB_no3 (L := L) (off := off) (d := d2) (a := x) (b := y) h)
                  have HQ4 := Lib.hid (fun h h2 => betterB_no4 (L := L) (off := off) (d := d2) (a := x) (b := y) h h2)
                  have HQ5 := Lib.hid (fun h h1 h2 h3 => betterB_yes (L := L) (off := off) (d := d2) (a := x) (b := y) h h1 h2 h3)
                  have HGX : Hid (∃ gx, gI d2 x = gx) := ⟨_, rfl⟩
                  have HGY : Hid (∃ gy, gI d2 y = gy) := ⟨_, rfl⟩
                  obtain ⟨gx, hgx⟩ := HGX.out
                  obtain ⟨gy, hgy⟩ := HGY.out
                  rw [hgx] at fx
                  rw [hgy] at fy
                  simp only [hgx] at a0
                  simp only [hgy] at a1
                  have HGX := Lib.hid hgx
                  have HGY := Lib.hid hgy
                  clear hdi hds hrd hgx hgy
                  cases c0 : decide (0 ≤ gx)
                  · refine wp_region_later (by kernel_rfl) (by kernel_rfl) ?_
                    repeat (go_big_quiet_step (first | exact later_of (CN.out _) | exact later_of ((CO.out _).mono fun _ _ ⟨he, hw⟩ => ⟨he, by subst hw; exact Below.refl _ _⟩)))
                    refine wpQuiet_nil ?_
                    rintro W4 ⟨⟨W4_, hb4⟩, rfl⟩
                    try dsimp only
                    have HR := Lib.hid (And.intro HDI3.out (And.intro (HDS3.out.keep hb4) (HNX.out (HQ1.out (by rw [HGX.out]; have := of_decide_eq_false c0; omega)))))
                    go_wp2
                    go_roundw
                    case rel => exact ⟨b2, y + 1, d2, rfl, by go_num, by omega, HR.out⟩
                    case measure => simp [intOf]; omega
                  cases c1 : hasB off (y : Int)
                  rotate_left
                  · rw [c1] at CO
                    refine wp_region_later (by kernel_rfl) (by kernel_rfl) ?_
                    repeat (go_big_quiet_step (first | exact later_of (CN.out _) | exact later_of ((CO.out _).mono fun _ _ ⟨he, hw⟩ => ⟨he, by subst hw; exact Below.refl _ _⟩)))
                    refine wpQuiet_nil ?_
                    rintro W4 ⟨⟨W4_, hb4⟩, rfl⟩
                    try dsimp only
                    have HR := Lib.hid (And.intro HDI3.out (And.intro (HDS3.out.keep hb4) (HNX.out (HQ2.out c1))))
                    go_wp2
                    go_roundw
                    case rel => exact ⟨b2, y + 1, d2, rfl, by go_num, by omega, HR.out⟩
                    case measure => simp [intOf]; omega
                  rw [c1] at CO
                  cases c2 : adjB L (x : Int) (y : Int)
                  · rw [c2] at CN
                    refine wp_region_later (by kernel_rfl) (by kernel_rfl) ?_
                    repeat (go_big_quiet_step (first | exact later_of (CN.out _) | exact later_of ((CO.out _).mono fun _ _ ⟨he, hw⟩ => ⟨he, by subst hw; exact Below.refl _ _⟩)))
                    refine wpQuiet_nil ?_
                    rintro W4 ⟨⟨W4_, hb4⟩, rfl⟩
                    try dsimp only
                    have HR := Lib.hid (And.intro HDI3.out (And.intro (HDS3.out.keep hb4) (HNX.out (HQ3.out c2))))
                    go_wp2
                    go_roundw
                    case rel => exact ⟨b2, y + 1, d2, rfl, by go_num, by omega, HR.out⟩
                    case measure => simp [intOf]; omega
                  rw [c2] at CN
                  cases c3 : decide (gy < 0)
                  rotate_left
                  · refine wp_region_later (by kernel_rfl) (by kernel_rfl) ?_
                    repeat (go_big_quiet_step (first | exact later_of (CN.out _) | exact later_of ((CO.out _).mono fun _ _ ⟨he, hw⟩ => ⟨he, by subst hw; exact Below.refl _ _⟩)))
                    refine wpQuiet_nil ?_
                    rintro W4 ⟨⟨W4_, hb4⟩, rfl⟩
                    try dsimp only
                    have HS4 := HDS3.out.keep hb4
                    have a0' := HS4.at_ HDI3.out.len hxk
                    have a1' := HS4.at_ HDI3.out.len hyk
                    rw [HGX.out] at a0'
                    rw [HGY.out] at a1'
                    have f1' := HS4.fr y
                    have HP4 := Lib.hid (HS4.put y (gI d2 x + 1))
                    rw [HGX.out] at HP4
                    have HH := Lib.hid (HHX.out (HQ5.out (by rw [HGX.out]; have := of_decide_eq_true c0; omega) c1 c2 (by rw [HGX.out, HGY.out]; first | exact .inl (of_decide_eq_true c3) | exact .inr (of_decide_eq_true c4))))
                    rw [HGX.out] at HH
                    clear HS4
                    go_wp2
                    go_roundw
                    case rel => exact ⟨true, y + 1, d2.set y (gx + 1), rfl, by go_num, by omega, HH.out.1, HP4.out, HH.out.2⟩
                    case measure => simp [intOf]; omega
                  cases c4 : decide (gy > gx + 1)
                  · refine wp_region_later (by kernel_rfl) (by kernel_rfl) ?_
                    repeat (go_big_quiet_step (first | exact later_of (CN.out _) | exact later_of ((CO.out _).mono fun _ _ ⟨he, hw⟩ => ⟨he, by subst hw; exact Below.refl _ _⟩)))
                    refine wpQuiet_nil ?_
                    rintro W4 ⟨⟨W4_, hb4⟩, rfl⟩
                    try dsimp only
                    have HR := Lib.hid (And.intro HDI3.out (And.intro (HDS3.out.keep hb4) (HNX.out (HQ4.out (by rw [HGY.out]; exact of_decide_eq_false c3) (by rw [HGX.out, HGY.out]; exact of_decide_eq_false c4)))))
                    go_wp2
                    go_roundw
                    case rel => exact ⟨b2, y + 1, d2, rfl, by go_num, by omega, HR.out⟩
                    case measure => simp [intOf]; omega
                  · refine wp_region_later (by kernel_rfl) (by kernel_rfl) ?_
                    repeat (go_big_quiet_step (first | exact later_of (CN.out _) | exact later_of ((CO.out _).mono fun _ _ ⟨he, hw⟩ => ⟨he, by subst hw; exact Below.refl _ _⟩)))
                    refine wpQuiet_nil ?_
                    rintro W4 ⟨⟨W4_, hb4⟩, rfl⟩
                    try dsimp only
                    have HS4 := HDS3.out.keep hb4
                    have a0' := HS4.at_ HDI3.out.len hxk
                    have a1' := HS4.at_ HDI3.out.len hyk
                    rw [HGX.out] at a0'
                    rw [HGY.out] at a1'
                    have f1' := HS4.fr y
                    have HP4 := Lib.hid (HS4.put y (gI d2 x + 1))
                    rw [HGX.out] at HP4
                    have HH := Lib.hid (HHX.out (HQ5.out (by rw [HGX.out]; have := of_decide_eq_true c0; omega) c1 c2 (by rw [HGX.out, HGY.out]; first | exact .inl (of_decide_eq_true c3) | exact .inr (of_decide_eq_true c4))))
                    rw [HGX.out] at HH
                    clear HS4
                    go_wp2
                    go_roundw
                    case rel => exact ⟨true, y + 1, d2.set y (gx + 1), rfl, by go_num, by omega, HH.out.1, HP4.out, HH.out.2⟩
                    case measure => simp [intOf]; omega
                · obtain rfl : y = k := by omega
                  have HR := Lib.hid (And.intro hdi (And.intro hds hrd.row))
                  clear hdi hds hrd
                  go_wp2
                  go_roundw
                  case rel => exact ⟨b2, x + 1, d2, rfl, by go_num, by omega, HR.out⟩
                  case measure => simp [intOf]; omega
            · obtain rfl : x = k := by omega
              have HM : Hid (2 * muI x (rowG x g W2) + mB (.bool b) < 2 * muI x (rowG x g W1) + mB (.bool true)) := by
                unfold Hid
                rw [HDS2.out.row HDI2.out.len, HDS.out.row HDI.out.len]
                cases b with
                | true => have := HRD.out.1 rfl; simp only [mB]; omega
                | false => obtain ⟨e, _⟩ := HRD.out.2 rfl; rw [e]; simp [mB]
              have HQ : Hid (b = false → ∀ x' y, x' < x → y < x → betterB L off d' x' y = false) := fun hb x' y hx' hy => by
                obtain ⟨e, h⟩ := HRD.out.2 hb
                rw [e]; exact h x' y (.inl hx') hy
              go_wp2
              go_roundw
              case rel => exact ⟨b, d', rfl, HDI2.out, HDS2.out, HQ.out⟩
              case measure => exact HM.out
end Go.Proofs.YtjclhjijpailoaaGreatDoor
