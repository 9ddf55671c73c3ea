/- The reference's Sets, First, Safe. -/
import Derived.Test.YtjclhjijpailoaaGreatDoorRgE
import Derived.Test.YtjclhjijpailoaaGreatDoorGrG
namespace Go.Proofs.YtjclhjijpailoaaGreatDoor
open Go.RowKit Law Go.Shelf
set_option linter.unusedVariables false
set_option linter.unusedSimpArgs false
set_option maxRecDepth 100000
attribute [local go_sem] Oper.semAt_some

def rowS (k s : Nat) : List Nat := (List.range s).filter fun x => (elsI x).length == k
def setsK (n K : Nat) : List Nat := (List.range K).flatMap fun k => rowS k (2 ^ n)
theorem rowS_len (k s : Nat) : (rowS k s).length ≤ s := by
  have := List.length_filter_le (fun x => (elsI x).length == k) (List.range s)
  simpa [rowS] using this
theorem rowS_yes {k s : Nat} (h : (elsI s).length = k) : rowS k (s + 1) = rowS k s ++ [s] := by
  unfold rowS; rw [List.range_succ, List.filter_append]; simp [h]
theorem rowS_no {k s : Nat} (h : (elsI s).length ≠ k) : rowS k (s + 1) = rowS k s := by
  unfold rowS; rw [List.range_succ, List.filter_append]; simp [h]
theorem setsK_succ (n K : Nat) : setsK n (K + 1) = setsK n K ++ rowS K (2 ^ n) := by
  unfold setsK; rw [List.range_succ, List.flatMap_append]; simp
theorem setsK_len (n : Nat) : ∀ K : Nat, (setsK n K).length ≤ K * 2 ^ n
  | 0 => by simp [setsK]
  | K + 1 => by
    have h1 := setsK_len n K
    have h2 := rowS_len K (2 ^ n)
    rw [setsK_succ, List.length_append, Nat.add_mul]
    omega
theorem mem_setsK {n K s : Nat} : s ∈ setsK n K ↔ s < 2 ^ n ∧ (elsI s).length < K := by
  unfold setsK rowS
  simp only [List.mem_flatMap, List.mem_range, List.mem_filter, beq_iff_eq]
  constructor
  · rintro ⟨k, hk, hs, rfl⟩; exact ⟨hs, hk⟩
  · rintro ⟨hs, hk⟩; exact ⟨_, hk, hs, rfl⟩
theorem u64V_snoc (l : List Nat) (x : Nat) : u64V (l ++ [x]) = u64V l ++ [.int .u64 (x : Int)] := by simp [u64V]
set_option maxHeartbeats 3200000 in
theorem rSets (n f : Nat) (hn : n < 9) (hf : f < 4) (w : World) :
    Calls Tryz.prog 68 #[.int .i64 (n : Int), .int .i64 (f : Int)] w fun e w' => ∃ v, e = .returned v ∧ w'.ownsRow w.heap.size 32 1 v (setsK n (min f n + 1)).length (u64V (setsK n (min f n + 1))) ∧ Below w.heap.size w w' := by
  obtain ⟨i0, hi, hz0, hz1, hz2⟩ := info_parts (show (Tryz.prog.info? 32).map (fun i => (i.zero, i.size, i.bytes)) = some (some (.int .u64 0), 1, 8) by kernel_rfl)
  have h00 := World.ownsRow_made (base := w.heap.size) (e := 32) (size := 1) w #[] 0 (Nat.le_refl _) (by simp [maxLen]) rfl
  have hb0 : Below w.heap.size w (w.alloc (.cells #[] 32)) := (Below.refl _ _).alloc (Nat.le_refl _) _
  obtain ⟨M, hM⟩ : ∃ M, min f n = M := ⟨_, rfl⟩
  have hMf : M ≤ f := by omega
  have hMn : M ≤ n := by omega
  have hMx : f ≤ M ∨ n ≤ M := by omega
  have hp2 : 2 ^ n ≤ 256 := Nat.pow_le_pow_right (n := 2) (j := 8) (by decide) (by omega)
  have hp1 := Nat.two_pow_pos n
  have hsh : IntKind.u64.wrap (2 ^ n) = ((2 ^ n : Nat) : Int) := by
    have : ((2 ^ n : Nat) : Int) = (2 : Int) ^ n := by simp
    rw [← this, IntKind.wrap_u64]; omega
  obtain ⟨P, hP⟩ : ∃ P, 2 ^ n = P := ⟨_, rfl⟩
  rw [hP] at hsh hp2 hp1
  have HP := Lib.hid hP
  clear hP
  rw [hM]
  go_enter Tryz.func68, Tryz.ntmps68
  go_wp2
  go_loopw [5, 6] (fun v i wr => ∃ k : Nat, k ≤ M + 1 ∧ i = .int .i64 k ∧ wr.ownsRow w.heap.size 32 1 v (setsK n k).length (u64V (setsK n k)) ∧ Below w.heap.size w wr) (fun _ i _ => M + 1 - (intOf i).toNat)
  case atStart => exact ⟨0, Nat.zero_le _, rfl, h00, hb0⟩
  case round =>
    obtain ⟨k, hk, rfl, hown, hb⟩ := hrel
    obtain ⟨W1, rfl⟩ : ∃ W1, W1 = wr := ⟨_, rfl⟩
    clear h00 hb0
    by_cases hlt : k ≤ M
    · have h1 : k ≤ f := by omega
      have h2 : k ≤ n := by omega
      have HOWN := Lib.hid hown
      have HB := Lib.hid hb
      clear hown hb
      go_wp2
      go_loopw [5, 7] (fun v s wr => ∃ x : Nat, x ≤ P ∧ s = .int .u64 x ∧ wr.ownsRow w.heap.size 32 1 v (setsK n k ++ rowS k x).length (u64V (setsK n k ++ rowS k x)) ∧ Below w.heap.size w wr) (fun _ s _ => P - (intOf s).toNat)
      case atStart => exact ⟨0, Nat.zero_le _, rfl, by simpa [rowS] using HOWN.out, HB.out⟩
      case round =>
        obtain ⟨x, hx, rfl, hown, hb⟩ := hrel
        obtain ⟨W2, rfl⟩ : ∃ W2, W2 = wr := ⟨_, rfl⟩
        clear HOWN HB
        by_cases hxl : x < P
        · have C := Lib.hid (fun W => refList x (by omega) W)
          have hk2 : k < 8 := by omega
          have HOWN := Lib.hid hown
          have HB := Lib.hid hb
          have HLEN : Hid ((setsK n k ++ rowS k x).length ≤ 8 * 256 + 256) := by
            unfold Hid
            rw [List.length_append]
            have h1 := setsK_len n k
            rw [HP.out] at h1
            have h2 := rowS_len k x
            have h3 : k * P ≤ 8 * 256 := Nat.mul_le_mul (by omega) hp2
            omega
          clear hown hb
          go_wp2_with fail
          refine (C.out _).mono ?_
          rintro e W3 ⟨v', rfl, hown3, hb3⟩
          obtain ⟨A, c, rfl, hc⟩ := own_form hown3
          have HB3 := Lib.hid (HB.out.trans (hb3.mono HB.out.size))
          have HOWN3 := Lib.hid (own_below HOWN.out hb3)
          have hsz := HB3.out.size
          clear hown3 hb3
          obtain ⟨ln, hln⟩ : ∃ ln, (elsI x).length = ln := ⟨_, rfl⟩
          have HLN := Lib.hid hln
          rw [hln]
          clear hln hc
          by_cases hlk : ln = k
          · have HS := Lib.hid (rowS_yes (k := k) (s := x) (HLN.out.trans hlk))
            have hown := HOWN3.out
            have hlen := HLEN.out
            obtain ⟨lx, hlx⟩ : ∃ lx, (setsK n k ++ rowS k x).length = lx := ⟨_, rfl⟩
            rw [hlx] at hown hlen
            obtain ⟨A5, c5, rfl, hc5⟩ := own_form2 hown
            subst hlk
            go_wp2_with (at_builtin; refine wpList_append_own _ rfl _ _ 113 rfl w.heap.size 32 i0 (.int .u64 0) 1 8 Tryz.underlying113 hi hz0 hz1 hz2 rfl (by decide) _ _ _ rfl (hown.alloc _) ⟨W3.heap.size, 0, none⟩ 1 1 [.int .u64 (x : Int)] rfl rfl ?c1 ?c2 ?c3 ?c4 ?c5 ?_)
            case c1 =>
              intro j u hj
              match j, hj with
              | 0, hj => simp at hj; subst hj; simp [Addr.add]
            case c2 => intro u hu; simp at hu; subst hu; rfl
            case c3 => unfold maxLen; omega
            case c4 => omega
            case c5 => simp; omega
            intro v2 w1 hown' hgrow _
            have hb4 : Below w.heap.size w w1 := (HB3.out.alloc HB3.out.size _).grown hgrow (by simp; omega) (fun j hj => (hown.lt j hj).1)
            have hown2 : w1.ownsRow w.heap.size 32 1 v2 (setsK n ln ++ rowS ln (x + 1)).length (u64V (setsK n ln ++ rowS ln (x + 1))) := by
              rw [HS.out, ← List.append_assoc, u64V_snoc, List.length_append, hlx]
              simpa [u64V] using hown'
            have HR := Lib.hid (And.intro hown2 hb4)
            clear hown2 hb4 hown' hgrow hown
            go_wp2
            go_roundw
            case rel => exact ⟨x + 1, by omega, by go_num, HR.out⟩
            case measure => simp [intOf]; omega
          · have HS := Lib.hid (rowS_no (k := k) (s := x) (by rw [HLN.out]; exact hlk))
            go_wp2
            go_roundw
            case rel => exact ⟨x + 1, by omega, by go_num, by rw [HS.out]; exact HOWN3.out, HB3.out⟩
            case measure => simp [intOf]; omega
        · have hx2 : x = P := by omega
          have HE : Hid (setsK n k ++ rowS k x = setsK n (k + 1)) := by unfold Hid; rw [setsK_succ, hx2, HP.out]
          rw [HE.out] at hown
          have HR := Lib.hid hown
          have HB := Lib.hid hb
          clear hown hb
          go_wp2
          all_goals
            go_roundw
            case rel => exact ⟨k + 1, by omega, by go_num, HR.out, HB.out⟩
            case measure => simp [intOf]; omega
    · obtain rfl : k = M + 1 := by omega
      have HR := Lib.hid (And.intro hown hb)
      clear hown hb
      by_cases hMf' : M + 1 ≤ f
      · have hnM : ¬ M + 1 ≤ n := by omega
        go_wp2
        go_ret
        exact ⟨_, rfl, HR.out⟩
      · go_wp2
        go_ret
        exact ⟨_, rfl, HR.out⟩
theorem mem_sets : ∀ n : Nat, n < 9 → ∀ f : Nat, f < 4 → ∀ s : Nat, s < 2 ^ n → (listN n f).contains s = decide ((elsI s).length < min f n + 1) := by decide +kernel
theorem any_same {α : Type} {l m : List α} (h : ∀ x, x ∈ l ↔ x ∈ m) (p : α → Bool) : l.any p = m.any p := by
  rw [Bool.eq_iff_iff, List.any_eq_true, List.any_eq_true]
  exact ⟨fun ⟨x, hx, hp⟩ => ⟨x, (h x).1 hx, hp⟩, fun ⟨x, hx, hp⟩ => ⟨x, (h x).2 hx, hp⟩⟩
theorem hasCut_sets {n f : Nat} (hn : n < 9) (hf : f < 4) (near : Nat → Nat) : hasCut n near f = (setsK n (min f n + 1)).any fun s => !wholeB n near s := by
  unfold hasCut
  refine any_same (fun s => ?_) _
  rw [mem_setsK]
  constructor
  · intro h
    have hlt := list_lt n hn f hf s h
    have := mem_sets n hn f hf s hlt
    rw [List.contains_iff_mem.2 h] at this
    exact ⟨hlt, by simpa using this.symm⟩
  · rintro ⟨h1, h2⟩
    have := mem_sets n hn f hf s h1
    rw [decide_eq_true h2] at this
    exact List.contains_iff_mem.1 this
end Go.Proofs.YtjclhjijpailoaaGreatDoor
