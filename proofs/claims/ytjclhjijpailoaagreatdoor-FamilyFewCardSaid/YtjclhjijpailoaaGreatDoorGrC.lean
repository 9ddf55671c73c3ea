/- reach: a set and all that it is linked with; the rings; what is reached; is a graph whole? -/
import Derived.Test.YtjclhjijpailoaaGreatDoorGrB
import Derived.Test.YtjclhjijpailoaaGreatDoorRegI
namespace Go.Proofs.YtjclhjijpailoaaGreatDoor
open Go.RowKit Law Go.Shelf
set_option linter.unusedVariables false
set_option linter.unusedSimpArgs false
set_option maxRecDepth 100000
attribute [local go_sem] Oper.semAt_some

abbrev nr (near : List Nat) (j : Nat) : Nat := near.getD j 0
theorem nr_lt {w : World} {G R : Nat} {near : List Nat} (h : GrAt w G R near) (j : Nat) : nr near j < 18446744073709551616 := by
  unfold nr
  by_cases hj : j < near.length
  · rw [show near.getD j 0 = near[j] by simp [hj]]; exact h.lt _ (List.getElem_mem hj)
  · rw [show near.getD j 0 = 0 by simp [hj]]; decide
theorem of1 (b : Nat) (hb : b < 64) (B : Nat) (W : World) (hc : W.cell? ⟨B, 0, none⟩ = some (.int .i64 (b : Int))) :
    Calls Tryz.prog 107 #[.slice (some ⟨B, 0, none⟩) 1 1] W fun e w' => e = .returned (.int .u64 ((2 ^ b : Nat) : Int)) ∧ W = w' := by
  have C := Lib.hid (fun W hc => with1 0 b (by decide) hb B W hc)
  have E : Hid (0 ||| 2 ^ b = 2 ^ b) := Nat.zero_or _
  rw [E.out] at C
  go_enter Tryz.func107, Tryz.ntmps107
  go_wp2_with fail
  refine (C.out _ hc).mono ?_
  rintro e w' ⟨rfl, rfl⟩
  go_wp2
  go_ret
  exact ⟨rfl, rfl⟩
def startN (n i off : Nat) : Nat := andNot (2 ^ i &&& allN (n : Int)) off
theorem rStart {w : World} {G R : Nat} {near : List Nat} (i off : Nat) (hi : i < 64) (ho : off < 18446744073709551616) (h : GrAt w G R near) :
    Calls Tryz.prog 105 #[.pointer (some ⟨G, 0, none⟩), .int .i64 (i : Int), .int .u64 (off : Int)] w fun e w' => e = .returned (.int .u64 (startN near.length i off : Int)) ∧ Below w.heap.size w w' := by
  have hp : 2 ^ i < 18446744073709551616 := Nat.pow_lt_pow_right (m := i) (n := 64) (by decide) hi
  have hal := allN_lt (near.length : Int)
  have b1 := bits_and_u64_nat (2 ^ i) (allN (near.length : Int)) hp hal
  have b2 := bits_andNot_u64_nat (2 ^ i &&& allN (near.length : Int)) off (Nat.lt_of_le_of_lt Nat.and_le_left hp) ho
  have HS : Hid (startN near.length i off = (2 ^ i &&& allN (near.length : Int)) ^^^ ((2 ^ i &&& allN (near.length : Int)) &&& off)) := rfl
  have hle := h.le
  have CN := Lib.hid (fun W (hW : Below w.heap.size w W) => grN (h.keep hW))
  have CA := Lib.hid (fun W => nodesAll (near.length : Int) (by omega) (by omega) W)
  have CO := Lib.hid (fun B W hc => of1 i hi B W hc)
  generalize 2 ^ i = P at *
  go_enter Tryz.func105, Tryz.ntmps105
  go_wp2_with fail
  refine (CO.out _ _ (by simp)).mono ?_
  rintro e w' ⟨rfl, rfl⟩
  go_wp2_with fail
  refine (CN.out _ ((Below.refl _ _).alloc (Nat.le_refl _) _)).mono ?_
  rintro e w' ⟨rfl, rfl⟩
  go_wp2_with fail
  refine (CA.out _).mono ?_
  rintro e w' ⟨rfl, rfl⟩
  go_wp2
  go_ret
  exact ⟨ret_int (by rw [HS.out]), (Below.refl _ _).alloc (Nat.le_refl _) _⟩

/-! ### grow -/
theorem nears_cast (near : List Nat) (s : Nat) (k : Nat) (hk : k < (els s).length) : nearsN (nr near) s ((els s).take (k + 1)) = nearsN (nr near) s ((els s).take k) ||| nr near (els s)[k] := by
  rw [List.take_succ_eq_append_getElem hk, nears_snoc]
def GrowI (w : World) (G : Nat) (near : List Nat) (s : Nat) (k : Nat) (W : World) : Prop :=
  BoxIs w.heap.size (.pointer (some ⟨G, 0, none⟩)) W ∧ BoxIs (w.heap.size + 1) (.int .u64 (nearsN (nr near) s ((els s).take k) : Int)) W ∧ Below w.heap.size w W
theorem keeps_of_below {W W' : World} (h : Below W.heap.size W W') : KeepsOthers W W' := ⟨h.size, fun j o hj _ => (h.block j (Array.getElem?_eq_some_iff.1 hj).1).trans hj⟩
theorem boxIs_new (W : World) (u : Value) (t : TypeId) : BoxIs W.heap.size u (W.alloc (.cells #[u] t)) := ⟨by simp, by simp⟩
theorem box_alloc {W : World} {B : Nat} {u : Value} (h : BoxIs B u W) (o : Obj) : BoxIs B u (W.alloc o) := h.kept (Below.heap_alloc _ _ _ h.lt)
theorem box_keep {W W' : World} {B : Nat} {u : Value} (h : Below W.heap.size W W') (hb : BoxIs B u W) : BoxIs B u W' := hb.kept (h.block B hb.lt)
set_option maxHeartbeats 1600000 in
theorem rGrow {w : World} {G R : Nat} {near : List Nat} (s off : Nat) (hs : s < 18446744073709551616) (hsn : ∀ i ∈ els s, i < near.length) (ho : off < 18446744073709551616) (h : GrAt w G R near) (hTw : T64 w) :
    Calls Tryz.prog 106 #[.pointer (some ⟨G, 0, none⟩), .int .u64 (s : Int), .int .u64 (off : Int)] w fun e w' => e = .returned (.int .u64 (growN (nr near) s off : Int)) ∧ Below w.heap.size w w' := by
  have hnl := nears_lt (nr_lt h) (els s) s hs
  refine (callsIn_wide (n := 9)).1 ?_
  refine callsIn_of_wp_marks Tryz.func106 rfl trivial ?_ rfl
  simp only [Tryz.ntmps106, List.size_toArray, List.length_cons, List.length_nil, Nat.reduceAdd, Nat.reduceSub, Array.replicate_succ, Array.replicate_zero, List.push_toArray, List.append_toArray, List.nil_append, List.cons_append]
  gi_wp2
  refine ⟨trivial, (callsIn_wide.2 (nodesEach s _)).mono ?_⟩
  rintro e w' ⟨rfl, hw'⟩
  simp only [World.size_alloc]
  have hsz : w'.heap.size = w.heap.size + 3 := by rw [hw']; simp
  have hbw : Below w.heap.size w w' := by rw [hw']; exact (((Below.refl _ w).alloc (Nat.le_refl _) _).alloc (by simp) _).alloc (by simp only [World.size_alloc]; omega) _
  have hbox : BoxIs (w.heap.size + 2) (.int .u64 (s : Int)) w' := by rw [hw']; have h0 := boxIs_new ((w.alloc (.cells #[.pointer (some ⟨G, 0, none⟩)] 50)).alloc (.cells #[.int .u64 (s : Int)] 33)) (.int .u64 (s : Int)) 33; simp only [World.size_alloc] at h0; exact h0
  have hbx1 : BoxIs (w.heap.size + 1) (.int .u64 (s : Int)) w' := by rw [hw']; have h0 := boxIs_new (w.alloc (.cells #[.pointer (some ⟨G, 0, none⟩)] 50)) (.int .u64 (s : Int)) 33; simp only [World.size_alloc] at h0; exact box_alloc h0 _
  have hbx0 : BoxIs w.heap.size (.pointer (some ⟨G, 0, none⟩)) w' := by rw [hw']; exact box_alloc (box_alloc (boxIs_new _ _ _) _) _
  clear hw'
  gi_wp2
  refine wp_rangeBox (gf := 109) (B := w.heap.size + 2) (u0 := .int .u64 (s : Int)) (zs := intV (elsI s)) (T := T64) (by simp [Act.eval]) (enters_of Tryz.func109 (by kernel_rfl) rfl) (eachSeq _ s hs) rfl hbox
    (GrowI w G near s) (fun _ _ _ => False) ?hI (fun _ _ _ _ h _ => h.elim) ?hT ?h0
    (fun x => { tmps := #[.pointer (some ⟨G, 0, none⟩), .int .u64 (s : Int), .int .u64 (off : Int), .pointer (some ⟨w.heap.size, 0, none⟩), undef, undef, .int .u64 0, .pointer (some ⟨w.heap.size + 1, 0, none⟩), x, .int .u64 (s : Int), .int .u64 (s : Int), .func (.func 109) #[] #[.pointer (some ⟨w.heap.size + 2, 0, none⟩)], x, undef, undef, undef, undef, undef, undef, undef, undef], defers := [] }) ?assign ?body ?done (fun _ _ _ _ _ _ h => h.elim)
  case hI =>
    rintro k W W' ⟨h1, h2, h3⟩ hS
    exact ⟨hS.cell (by omega) (by omega) h1, hS.cell (by omega) (by omega) h2, hS.below (by omega) (by omega) h3 h3.size⟩
  case hT =>
    rintro k W ⟨h1, h2, h3⟩
    exact hTw.below h3
  case h0 => exact ⟨hbx0, hbx1, hbw⟩
  case assign =>
    intro l x W K hK
    gi_wp2
    exact hK
  case body =>
    rintro l k x W ⟨hg0, hbx, hb⟩ hx hlt
    have hk : k < (els s).length := by
      have := (List.getElem?_eq_some_iff.1 hx).1
      simpa [intV, elsI] using this
    obtain rfl : x = .int .i64 ((els s)[k] : Int) := by
      unfold intV elsI at hx
      rw [List.map_map, List.getElem?_map, List.getElem?_eq_getElem hk] at hx
      exact (Option.some.inj hx).symm
    have hi := hsn _ (List.getElem_mem hk)
    have HS : Hid (nearsN (nr near) s ((els s).take (k + 1)) = nearsN (nr near) s ((els s).take k) ||| near.getD (els s)[k] 0) := nears_cast near s k hk
    have hnk := nears_lt (nr_lt h) ((els s).take k) s hs
    have hil : near.getD (els s)[k] 0 < 18446744073709551616 := nr_lt h (els s)[k]
    have hor := bits_or_u64_nat _ _ hnk hil
    have hG := h.keep hb
    have CN := Lib.hid (fun U : Later W => later_of (W := U) ((grNear _ hi (hG.keep U.h)).mono fun _ _ ⟨he, hw⟩ => ⟨he, by subst hw; exact Below.refl _ _⟩))
    generalize nearsN (nr near) s ((els s).take k) = X at *
    generalize near.getD (els s)[k] 0 = y at *
    generalize (els s)[k] = i at *
    have l0 := fun U : Later W => Later.cell hg0.1 U
    have l1 := fun U : Later W => Later.cell hbx.1 U
    have l2 := fun U : Later W => Later.frozen hbx.2 hbx.lt U
    have HK := Lib.hid (fun U : Later W => keeps_of_below U.h)
    have HX := Lib.hid (fun U : Later W => box_keep U.h hg0)
    have HY := Lib.hid (fun U : Later W => box_keep U.h hbx)
    have HB := Lib.hid (fun U : Later W => hb.trans (U.h.mono hb.size))
    have HU := Lib.hid (fun (U : Later W) (u : Value) (B : Nat) (hu : BoxIs B u W) => box_keep U.h hu)
    clear hG hx hg0 hbx hb
    gi_wp2
    refine wpIn_region_later_tail 5 (by kernel_rfl) (by kernel_rfl) (by kernel_rfl) (fun _ _ h => h) ?_
    simp only [List.take_succ_cons, List.take_zero, List.drop_succ_cons, List.drop_zero]
    repeat (go_big_quiet_step (exact CN.out _))
    refine wpQuiet_nil ?_
    intro U
    go_wp2
    refine ⟨(HK.out U).trans (KeepsOthers.setCell _ _ _), fun u hu => (HU.out U u _ hu).kept (Below.heap_setCell _ _ _ _ (by simp)), (HX.out U).kept (Below.heap_setCell _ _ _ _ (by simp)), ⟨?_, ?_⟩, (HB.out U).setCell (p := ⟨w.heap.size + 1, 0, none⟩) (by simp) _⟩
    · rw [HS.out]; exact World.cell?_setCell_same' _ _ _ (by rw [(HY.out U).1]; rfl)
    · rw [World.frozen?_setCell]; exact (HY.out U).2
  case done =>
    rintro D W hD ⟨hg0, hbx, hb⟩ hK
    have HT : Hid ((els s).take (intV (elsI s)).length = els s) := List.take_of_length_le (by simp [intV, elsI])
    rw [HT.out] at hbx
    have hc := hbx.1
    have hd := bits_andNot_u64_nat _ _ hnl ho
    have HV : Hid (growN (nr near) s off = nearsN (nr near) s (els s) ^^^ (nearsN (nr near) s (els s) &&& off)) := rfl
    generalize nearsN (nr near) s (els s) = X at *
    gi_wp2
    refine ⟨by simp, .inl ⟨_, _, rfl, run_takeDeferred hK, ?_⟩⟩
    exact ⟨_, results_tmp rfl _ _ _, by rw [HV.out]; rfl, hb.trans (belowK_b (w := w) (Nat.le_refl _) W D _ _ (by omega) hK rfl rfl)⟩
end Go.Proofs.YtjclhjijpailoaaGreatDoor
