/- The reference: Fair, Crashes. -/
import Derived.Test.YtbgbehlmpheaeaaGreatDoorAsA
import Derived.Test.YtbgbehlmpheaeaaGreatDoorBase
namespace Go.Proofs.YtbgbehlmpheaeaaGreatDoor
open Go.RowKit Law
set_option linter.unusedVariables false
set_option linter.unusedSimpArgs false
set_option maxRecDepth 100000

theorem refFair (d rho : Int) (h1 : -9223372036854775808 ≤ rho) (h2 : rho ≤ 9223372036854775807) (w : World) : Calls Tryz.prog 19 #[.int .i64 d, .int .i64 rho] w fun e w' => e = .returned (.bool (fairB d rho)) ∧ w = w' := by
  by_cases h0 : 0 ≤ rho
  · have hw : IntKind.i64.wrap (-rho) = -rho := IntWalk.i64_in _ (by omega)
    by_cases h4 : d ≤ rho
    · by_cases h3 : -rho ≤ d
      · have E : Hid (fairB d rho = true) := by unfold Hid fairB; simp [h0, h3, h4]
        go_enter Tryz.func19, Tryz.ntmps19
        go_wp2
        go_ret
        exact ⟨ret_bool (by rw [E.out]), rfl⟩
      · have E : Hid (fairB d rho = false) := by unfold Hid fairB; simp [h3]
        go_enter Tryz.func19, Tryz.ntmps19
        go_wp2
        go_ret
        exact ⟨ret_bool (by rw [E.out]), rfl⟩
    · have E : Hid (fairB d rho = false) := by unfold Hid fairB; simp [h4]
      go_enter Tryz.func19, Tryz.ntmps19
      go_wp2
      go_ret
      exact ⟨ret_bool (by rw [E.out]), rfl⟩
  · have E : Hid (fairB d rho = false) := by unfold Hid fairB; simp [h0]
    go_enter Tryz.func19, Tryz.ntmps19
    go_wp2
    go_ret
    exact ⟨ret_bool (by rw [E.out]), rfl⟩
theorem intsOne (w : World) (x : Int) (t : TypeId) : IntsAt (w.alloc (.cells #[.int .i64 x] t)) (some ⟨w.heap.size, 0, none⟩) [x] := by
  intro k z hz
  match k, hz with
  | 0, hz =>
    obtain rfl : x = z := by simpa using hz
    exact ⟨_, _, rfl, by simp, by rw [World.cell?_alloc_at _ _ _ _ (by simp)]; rfl⟩
set_option maxHeartbeats 6400000 in
theorem refCrashes {w : World} {A : Option Addr} {xs : List Aw} {n cp : Nat} (hA : ActsAt w A xs) (hok : ∀ x ∈ xs, x.a.b.length = x.n) (hn : xs.length = n) (hm : n ≤ 1000000) :
    Calls Tryz.prog 21 #[.slice A n cp] w (CrPost xs w) := by
  have H := Lib.hid (And.intro hA (And.intro hok hn))
  have hm2 : (n : Int) ≤ 1000000 := by omega
  clear hA hok hn hm
  go_enter Tryz.func21, Tryz.ntmps21
  go_wp2
  go_loopw [3, 4] (fun s i wr => ∃ j : Nat, j ≤ n ∧ i = .int .i64 (j : Int) ∧ s = .int .u64 (withN 0 (crashL (xs.take j)) : Int) ∧ Below w.heap.size w wr) (fun _ i _ => n - (intOf i).toNat)
  case atStart => exact ⟨0, Nat.zero_le _, rfl, rfl, Below.refl _ _⟩
  case round =>
    obtain ⟨j, hj, rfl, rfl, hB⟩ := hrel
    have hslt := withN_lt (crashL (xs.take j)) 0 (by decide)
    by_cases hlt : j < n
    · have hltI : (j : Int) < (n : Int) := by omega
      have hjl : j < xs.length := by rw [H.out.2.2]; exact hlt
      obtain ⟨x, hx⟩ : ∃ x, xs[j]? = some x := ⟨_, List.getElem?_eq_getElem hjl⟩
      have hmem : x ∈ xs := List.mem_of_getElem? hx
      obtain ⟨blk, off, rfl, hcell, hU⟩ := (H.out.1.keep hB) j x hx
      have hlen := H.out.2.1 x hmem
      have HX := Lib.hid (And.intro hx (And.intro hB (And.intro hU hlen)))
      obtain ⟨⟨k, node, m, ⟨fk, fd, fa, fp, fb⟩, bb⟩, A2, n2, c2⟩ := x
      simp only [Aw.cells, Ac.cells] at hcell
      have z0 := hcell 0 _ rfl
      have z1 := hcell 1 _ rfl
      have z2 := hcell 2 _ rfl
      have z3 := hcell 3 _ rfl
      have z4 := hcell 4 _ rfl
      have z5 := hcell 5 _ rfl
      have z6 := hcell 6 _ rfl
      have z7 := hcell 7 _ rfl
      have z8 := hcell 8 _ rfl
      simp only [Nat.add_zero] at z0
      clear hcell hx hB hmem hjl hU hlen
      obtain ⟨sn, hsn⟩ : ∃ sn, withN 0 (crashL (xs.take j)) = sn := ⟨_, rfl⟩
      have HS := Lib.hid hsn
      rw [hsn] at hslt
      simp only [hsn]
      clear hsn
      by_cases hk : k = 4
      · subst hk
        cases hg : goodA ⟨4, node, m, ⟨fk, fd, fa, fp, fb⟩, bb⟩ with
        | false =>
          have CG := Lib.hid (show Calls _ _ _ _ fun e w' => e = .returned (.bool false) ∧ Below wr.heap.size wr w' from hg ▸ refGoodA ⟨4, node, m, ⟨fk, fd, fa, fp, fb⟩, bb⟩ A2 n2 c2 wr HX.out.2.2.1 HX.out.2.2.2)
          have HG := Lib.hid hg
          clear hg
          go_wp2_with fail
          refine CG.out.mono ?_
          rintro e w6 ⟨rfl, hb6⟩
          have HF : Hid (Value.int .u64 (sn : Int) = .int .u64 (withN 0 (crashL (xs.take (j + 1))) : Int) ∧ Below w.heap.size w w6) := by
            rw [crashL_snoc HX.out.1, if_neg (fun h => by have h2 := h.2; rw [HG.out] at h2; cases h2), List.append_nil, HS.out]
            exact ⟨rfl, HX.out.2.1.trans (hb6.mono HX.out.2.1.size)⟩
          clear hb6 z0 z1 z2 z3 z4 z5 z6 z7 z8
          go_wp2
          go_roundw
          case rel => exact ⟨j + 1, by omega, by go_num, HF.out.1, HF.out.2⟩
          case measure => simp [intOf]; omega
        | true =>
          have CG := Lib.hid (show Calls _ _ _ _ fun e w' => e = .returned (.bool true) ∧ Below wr.heap.size wr w' from hg ▸ refGoodA ⟨4, node, m, ⟨fk, fd, fa, fp, fb⟩, bb⟩ A2 n2 c2 wr HX.out.2.2.1 HX.out.2.2.2)
          have HG := Lib.hid hg
          clear hg
          go_wp2_with fail
          refine CG.out.mono ?_
          rintro e w6 ⟨rfl, hb6⟩
          have y1 : w6.cell? ⟨blk, off + j * 9 + 1, none⟩ = some (.int .i64 node) := (hb6.cell (p := ⟨blk, off + j * 9 + 1, none⟩) (World.block_lt_of_cell? _ _ z1)).trans z1
          have H6 := Lib.hid (HX.out.2.1.trans (hb6.mono HX.out.2.1.size))
          clear hb6 z0 z1 z2 z3 z4 z5 z6 z7 z8
          go_wp2_with fail
          refine (refWith sn hslt (some ⟨w6.heap.size, 0, none⟩) 1 [node] rfl (by simp) _ (intsOne _ _ _) (fun h => by cases h) (Nat.le_refl _)).mono ?_
          rintro e w7 ⟨rfl, hb7⟩
          have HF : Hid (Value.int .u64 ((ofN (elsI sn ++ [node]) : Nat) : Int) = .int .u64 (withN 0 (crashL (xs.take (j + 1))) : Int) ∧ Below w.heap.size w w7) := by
            rw [crashL_snoc HX.out.1, if_pos ⟨rfl, HG.out⟩, withN_snoc, HS.out, ← withN_eq hslt]
            have hb8 := H6.out.alloc H6.out.size (.cells #[.int .i64 node] 3)
            exact ⟨rfl, hb8.trans (hb7.mono hb8.size)⟩
          clear hb7
          go_wp2
          go_roundw
          case rel => exact ⟨j + 1, by omega, by go_num, HF.out.1, HF.out.2⟩
          case measure => simp [intOf]; omega
      · have hk4 : (k == 4) = false := beq_eq_false_iff_ne.2 hk
        have HF : Hid (Value.int .u64 (sn : Int) = .int .u64 (withN 0 (crashL (xs.take (j + 1))) : Int) ∧ Below w.heap.size w wr) := by
          rw [crashL_snoc HX.out.1, if_neg (fun h => hk h.1), List.append_nil, HS.out]
          exact ⟨rfl, HX.out.2.1⟩
        clear hk
        go_wp2
        go_roundw
        case rel => exact ⟨j + 1, by omega, by go_num, HF.out.1, HF.out.2⟩
        case measure => simp [intOf]; omega
    · obtain rfl : j = n := by omega
      have HF : Hid (CrPost xs w (.returned (.int .u64 (withN 0 (crashL (xs.take j)) : Int))) wr) := by
        rw [← H.out.2.2, List.take_length]
        exact ⟨rfl, hB⟩
      clear hB
      go_wp2
      go_ret
      exact HF.out
end Go.Proofs.YtbgbehlmpheaeaaGreatDoor
