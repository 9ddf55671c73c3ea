/- What several texts of this seat lean on, joined: NeF NeG. -/
import Derived.Test.YtfkfheddhnjaaaaGreatNeA
import Derived.Test.YtfkfheddhnjaaaaGreatNeD
import Derived.Test.YtfkfheddhnjaaaaGreatNdO
import Derived.Test.YtfkfheddhnjaaaaGreatRegQ
import Derived.Deep.MidRow
namespace Go.Proofs.YtfkfheddhnjaaaaGreat
open Go.RowKit Law
set_option linter.unusedVariables false
set_option linter.unusedSimpArgs false
set_option maxRecDepth 100000

theorem rolled0 {w : World} {B : Nat} (h : RefNd w B) : Calls Tryz.prog 43 #[.pointer (some ⟨B, 0, none⟩)] w fun e w' => e = .returned (.slice none 0 0) ∧ w = w' := by
  have c69 := h 69 _ rfl
  clear h
  go_enter Tryz.func43, Tryz.ntmps43
  go_wp2
  refine wp_loop_rounds 1 ?_
  rw [rounds_succ]
  go_wp2
  go_ret
  exact ⟨rfl, rfl⟩
theorem logsAll0 (w : World) : Calls Tryz.prog 45 #[.slice none 0 0, .slice none 0 0] w fun e w' => e = .returned (.bool true) ∧ w = w' := by
  go_enter Tryz.func45, Tryz.ntmps45
  go_wp2
  refine wp_loop_rounds 1 ?_
  rw [rounds_succ]
  go_wp2
  go_ret
  exact ⟨rfl, rfl⟩
theorem viewsAll0 (w : World) : Calls Tryz.prog 47 #[.slice none 0 0, .slice none 0 0] w fun e w' => e = .returned (.bool true) ∧ w = w' := by
  go_enter Tryz.func47, Tryz.ntmps47
  go_wp2
  refine wp_loop_rounds 1 ?_
  rw [rounds_succ]
  go_wp2
  go_ret
  exact ⟨rfl, rfl⟩
theorem count_cell {w : World} {b : NdO} {c : Cn} {x : NV} (h : NdBox w b c x) (hc : x.counts = List.replicate 20 0) {k : Nat} (hk : k < 20) : w.cell? ⟨b.N, 120 + k, none⟩ = some (.int .i64 0) := by
  refine h.cell (120 + k) _ ?_
  unfold ndCell
  rw [if_neg (by omega), if_neg (by omega), if_neg (by omega), if_pos (by omega), Nat.add_sub_cancel_left, hc, List.getElem?_replicate, if_pos hk]
  rfl
theorem nodeRefused0 {w : World} {lo : Nat} {b : NdO} {c : Cn} {x : NV} {s : NS} (h : NodeAt w lo b c x s) (hc : x.counts = List.replicate 20 0) (e : Int) (h0 : -1 ≤ e) (h1 : e ≤ 20) :
    Calls Tryz.prog 44 #[.pointer (some ⟨b.N, 0, none⟩), .int .i64 e] w fun en w' => en = .returned (.int .i64 0) ∧ w = w' := by
  by_cases he : e < 0
  · generalize b.N = N at *
    clear h hc
    go_enter Tryz.func44, Tryz.ntmps44
    go_wp2
    go_ret
    exact ⟨rfl, rfl⟩
  · by_cases he2 : 20 ≤ e
    · generalize b.N = N at *
      clear h hc
      go_enter Tryz.func44, Tryz.ntmps44
      go_wp2
      go_ret
      exact ⟨rfl, rfl⟩
    · obtain ⟨k, rfl⟩ : ∃ k : Nat, e = (k : Int) := ⟨e.toNat, by omega⟩
      have hk : k < 20 := by omega
      have hkI : (k : Int) < 20 := by omega
      have ck := count_cell h.box hc hk
      generalize b.N = N at *
      clear h hc
      go_enter Tryz.func44, Tryz.ntmps44
      go_wp2
      go_ret
      exact ⟨rfl, rfl⟩
theorem nodeLedger0 {w : World} {lo : Nat} {b : NdO} {c : Cn} {x : NV} {s : NS} (h : NodeAt w lo b c x s) (hk : x.known = false) : Calls Tryz.prog 40 #[.pointer (some ⟨b.N, 0, none⟩)] w fun e w' => e = .returned (.tuple #[.agg ledZ.toArray, .bool false]) ∧ Below w.heap.size w w' := by
  have z := boxF_made w ledZ 69
  have hst := z.storeN 0 ledZ (by simp) led_one
  have z2 := BoxF.puts ledZ 0 z (by simp)
  rw [show putL ledZ 0 ledZ = ledZ from putL_self ledZ []] at z2
  have hb : Below w.heap.size w ((w.alloc (.cells ledZ.toArray 69)).setCells w.heap.size 0 ledZ) := setCells_below (Nat.le_refl _) _ _ _ _ ((Below.refl _ _).alloc (Nat.le_refl _) _)
  obtain ⟨w2, hw2⟩ : ∃ w2, (w.alloc (.cells ledZ.toArray 69)).setCells w.heap.size 0 ledZ = w2 := ⟨_, rfl⟩
  rw [hw2] at hst z2 hb
  have hst : ∀ A, A = Tryz.zeroCells69 → (storeCells ⟨w.heap.size, 0, none⟩ A.toList).run Tryz.prog (w.alloc (.cells A 69)) = .ok () w2 := fun A hA => by rw [hA, led_zero]; exact hst
  have hst := hst _ rfl
  have hld : (loadVar 69 ⟨w.heap.size, 0, none⟩).run Tryz.prog w2 = .ok (.agg ledZ.toArray) w2 :=
    run_loadVar_mid w2 w.heap.size 0 69 ledZ _ (fun j v hj => by rw [Nat.zero_add]; exact z2.1 j v hj) Tryz.underlying69 rfl led_info
  have HB := Lib.hid hb
  have h1 := h.keep ((Below.refl w.heap.size w).alloc (Nat.le_refl _) (.cells Tryz.zeroCells69 69))
  have c117 : (w.alloc (.cells Tryz.zeroCells69 69)).cell? ⟨b.N, 117, none⟩ = some (.bool x.known) := h1.box.cell 117 _ rfl
  have d117 : w.cell? ⟨b.N, 117, none⟩ = some (.bool x.known) := h.box.cell 117 _ rfl
  rw [hk] at c117 d117
  have hlt := h.box.lt
  have hne : b.N ≠ w.heap.size := Nat.ne_of_lt hlt
  generalize b.N = N at *
  clear z z2 hb hw2 h h1 hk
  go_enter Tryz.func40, Tryz.ntmps40
  go_wp2
  refine bodyPost_ret (v := .tuple #[.agg ledZ.toArray, .bool false]) (by simp [results, Tryz.results40, asAddr, hld]) rfl ⟨rfl, HB.out⟩
end Go.Proofs.YtfkfheddhnjaaaaGreat

namespace Go.Proofs.YtfkfheddhnjaaaaGreat
open Go.RowKit Law
set_option linter.unusedVariables false
set_option linter.unusedSimpArgs false
set_option maxRecDepth 100000

theorem RefNd.keep {w w' : World} {B : Nat} (h : RefNd w B) (hb : Below w.heap.size w w') : RefNd w' B := fun o v hv =>
  (hb.cell (p := ⟨B, o, none⟩) (World.block_lt_of_cell? _ _ (h o v hv))).trans (h o v hv)
/-- A zero ledger read as a whole. -/
theorem led_exec {ev : Operand → Value} {x : Operand} {dst : Option Tmp} {ty : TypeId} {pos : String} {after : Array Edge} {guard : Option (Nat × Bool)} (w : World) (b : Nat) (hx : ev x = .pointer (some ⟨b, 0, none⟩)) (h : BoxF w b ledZ) :
    (execOp ev ⟨dst, .load 69 x, ty, pos, after, guard⟩).run Tryz.prog w = .ok (.value (.agg ledZ.toArray)) w := by
  have hl : (Instr.loadAt 69 (.pointer (some ⟨b, 0, none⟩))).run Tryz.prog w = .ok (.agg ledZ.toArray) w := by
    have := run_loadVar_mid w b 0 69 ledZ _ (fun j v hj => by rw [Nat.zero_add]; exact h.1 j v hj) Tryz.underlying69 rfl led_info
    exact this
  unfold execOp
  simp only [hx, Sem.run_bind, hl, Result.andThen_ok, Sem.run_pure]
theorem RefNd.count {w : World} {B : Nat} (h : RefNd w B) {q : Nat} (hq : q < 20) : w.cell? ⟨B, 152 + q, none⟩ = some (.int .i64 0) := by
  have hh : q = 0 ∨ q = 1 ∨ q = 2 ∨ q = 3 ∨ q = 4 ∨ q = 5 ∨ q = 6 ∨ q = 7 ∨ q = 8 ∨ q = 9 ∨ q = 10 ∨ q = 11 ∨ q = 12 ∨ q = 13 ∨ q = 14 ∨ q = 15 ∨ q = 16 ∨ q = 17 ∨ q = 18 ∨ q = 19 := by omega
  rcases hh with rfl | rfl | rfl | rfl | rfl | rfl | rfl | rfl | rfl | rfl | rfl | rfl | rfl | rfl | rfl | rfl | rfl | rfl | rfl | rfl <;> exact h _ _ rfl
set_option maxHeartbeats 12800000 in
theorem lawSame0 {w : World} {lo : Nat} {b : NdO} {c : Cn} {id hard : Int} {near : Nat} {B : Nat} (h : NodeAt w lo b c (nv0 id hard near) ns0) (hr : RefNd w B) :
    Calls Tryz.prog 6 #[.pointer (some ⟨b.N, 0, none⟩), .pointer (some ⟨B, 0, none⟩)] w fun e w' => e = .returned (.bool true) ∧ Below w.heap.size w w' := by
  have C1 := Lib.hid (nodeNowCold h rfl)
  have C2 := Lib.hid (nodeSince0 h rfl)
  have HD : Hid (Below w.heap.size w w.drew) := (Below.refl _ _).drew
  have HK : Hid (∀ W, Below w.heap.size w W → NodeAt W lo b c (nv0 id hard near) ns0 ∧ RefNd W B) := fun W hW => ⟨h.keep hW, hr.keep hW⟩
  have CP : Hid (∀ W, Below w.heap.size w W → Calls Tryz.prog 38 #[.pointer (some ⟨b.N, 0, none⟩)] W fun e w' => e = .returned (.int .i64 0) ∧ W = w') := fun W hW => nodePhase (HK.out W hW).1
  have CS : Hid (∀ W, Below w.heap.size w W → Calls Tryz.prog 39 #[.pointer (some ⟨b.N, 0, none⟩)] W fun e w' => e = .returned (.int .i64 0) ∧ W = w') := fun W hW => nodeState (HK.out W hW).1
  clear h hr
  go_enter Tryz.func6, Tryz.ntmps6
  go_wp2_with fail
  refine C1.out.mono ?_
  rintro e w' ⟨rfl, rfl⟩
  go_wp2_with fail
  refine C2.out.mono ?_
  rintro e w' ⟨rfl, rfl⟩
  go_wp2_with fail
  refine wp_region_plan [] [(true, 0), (true, 1), (true, 2), (true, 3), (true, 4), (true, 5), (true, 6), (true, 7), (true, 8), (true, 9), (true, 10), (true, 11), (true, 12), (true, 13), (true, 14), (true, 15), (true, 16), (true, 17), (true, 18), (true, 20), (true, 21), (true, 22), (true, 23), (true, 24), (false, 19), (true, 25), (true, 26), (true, 27), (true, 28), (true, 30), (true, 31), (true, 32), (true, 33), (true, 34), (false, 29), (true, 35), (true, 36), (true, 37), (true, 38), (true, 39), (true, 40), (true, 41), (true, 42), (true, 43), (true, 44), (true, 45), (true, 46), (true, 47), (true, 48), (true, 49), (true, 50), (true, 51), (true, 52), (true, 53), (true, 54), (true, 55), (true, 56), (true, 57), (true, 58)] 59 12 (fun W => Below w.heap.size w W) (by kernel_rfl) (by kernel_rfl) (by intro c a t v w h; exact h) HD.out ?_
  simp only [pickB, pickL, List.drop_succ_cons, List.drop_zero, List.head?_cons, Option.toList_some, List.map_cons, List.map_nil, List.cons_append, List.nil_append]
  refine wpHead_nil ?_
  iterate 24 (refine wpPlan_rd _ (by rfl) (by intro W hW; have hr := (HK.out W hW).2; have z32 := hr 32 _ rfl; have z33 := hr 33 _ rfl; have z74 := hr 74 _ rfl; clear hr hW; go_simp; with_reducible rfl) ?_; simp only [Act.put, List.setIfInBounds_toArray, List.set_cons_zero, List.set_cons_succ])
  refine wpPlan_do (by rfl) ?_
  go_simp
  go_at_call 38
  refine (CP.out _ HD.out).mono ?_
  rintro e w' ⟨rfl, rfl⟩
  refine ⟨HD.out, ?_⟩
  iterate 9 (refine wpPlan_rd _ (by rfl) (by intro W hW; have hr := (HK.out W hW).2; have z32 := hr 32 _ rfl; have z33 := hr 33 _ rfl; have z74 := hr 74 _ rfl; clear hr hW; go_simp; with_reducible rfl) ?_; simp only [Act.put, List.setIfInBounds_toArray, List.set_cons_zero, List.set_cons_succ])
  refine wpPlan_do (by rfl) ?_
  go_simp
  go_at_call 39
  refine (CS.out _ HD.out).mono ?_
  rintro e w' ⟨rfl, rfl⟩
  refine ⟨HD.out, ?_⟩
  iterate 15 (refine wpPlan_rd _ (by rfl) (by intro W hW; have hr := (HK.out W hW).2; have z32 := hr 32 _ rfl; have z33 := hr 33 _ rfl; have z74 := hr 74 _ rfl; clear hr hW; go_simp; with_reducible rfl) ?_; simp only [Act.put, List.setIfInBounds_toArray, List.set_cons_zero, List.set_cons_succ])
  iterate 7 (refine wpPlan_skip (by rfl) ?_; simp only [Act.put, List.setIfInBounds_toArray, List.set_cons_zero, List.set_cons_succ])
  iterate 2 (refine wpPlan_rd _ (by rfl) (by intro W hW; have hr := (HK.out W hW).2; have z32 := hr 32 _ rfl; have z33 := hr 33 _ rfl; have z74 := hr 74 _ rfl; clear hr hW; go_simp; with_reducible rfl) ?_; simp only [Act.put, List.setIfInBounds_toArray, List.set_cons_zero, List.set_cons_succ])
  refine wpPlan_nil ?_
  obtain ⟨w1, hw1⟩ : ∃ w1, w.drew = w1 := ⟨_, rfl⟩
  rw [hw1] at HD ⊢
  clear hw1
  go_wp2_with fail
  refine (nodeLedger0 (HK.out _ HD.out).1 rfl).mono ?_
  rintro e w2 ⟨rfl, hb2⟩
  have HB2 : Hid (Below w.heap.size w w2) := HD.out.trans (hb2.mono HD.out.size)
  clear hb2
  have z := boxF_made w2 ledZ 69
  have hst := z.storeN 0 ledZ (by simp) led_one
  have z2 := BoxF.puts ledZ 0 z (by simp)
  rw [show putL ledZ 0 ledZ = ledZ from putL_self ledZ []] at z2
  have hb : Below w2.heap.size w2 ((w2.alloc (.cells ledZ.toArray 69)).setCells w2.heap.size 0 ledZ) := setCells_below (Nat.le_refl _) _ _ _ _ ((Below.refl _ _).alloc (Nat.le_refl _) _)
  obtain ⟨w3, hw3⟩ : ∃ w3, (w2.alloc (.cells ledZ.toArray 69)).setCells w2.heap.size 0 ledZ = w3 := ⟨_, rfl⟩
  rw [hw3] at hst z2 hb
  have hst : ∀ A, A = Tryz.zeroCells69 → (storeCells ⟨w2.heap.size, 0, none⟩ ledZ).run Tryz.prog (w2.alloc (.cells A 69)) = .ok () w3 := fun A hA => by rw [hA, led_zero]; exact hst
  have hst := hst _ rfl
  have HB3 : Hid (Below w.heap.size w w3) := HB2.out.trans (hb.mono HB2.out.size)
  have HK3 : Hid (∀ W, Below w3.heap.size w3 W → RefNd W B ∧ BoxF W w2.heap.size ledZ) := fun W hW => ⟨((HK.out _ HB3.out).2).keep hW, z2.keep hW⟩
  have HD3 : Hid (Below w3.heap.size w3 w3.drew) := (Below.refl _ _).drew
  clear z z2 hb hw3
  go_wp2_with fail
  refine wp_region_plan [] [(true, 0), (true, 1), (true, 2), (true, 3), (true, 4), (true, 5), (true, 6), (true, 7), (true, 8), (true, 9), (true, 10), (false, 11), (true, 12), (true, 13), (true, 14), (true, 15), (true, 16), (true, 17), (true, 18), (true, 19), (true, 20), (true, 21), (true, 22), (true, 23)] 24 12 (fun W => Below w3.heap.size w3 W) (by kernel_rfl) (by kernel_rfl) (by intro c a t v w h; exact h) HD3.out ?_
  simp only [pickB, pickL, List.drop_succ_cons, List.drop_zero, List.head?_cons, Option.toList_some, List.map_cons, List.map_nil, List.cons_append, List.nil_append]
  refine wpHead_nil ?_
  iterate 9 (refine wpPlan_rd _ (by rfl) (by intro W hW; have hr := (HK3.out W hW).1; have z149 := hr 149 _ rfl; clear hr hW; go_simp; with_reducible rfl) ?_; simp only [Act.put, List.setIfInBounds_toArray, List.set_cons_zero, List.set_cons_succ])
  iterate 2 (refine wpPlan_skip (by rfl) ?_; simp only [Act.put, List.setIfInBounds_toArray, List.set_cons_zero, List.set_cons_succ])
  refine wpPlan_pass (by rfl) ?_
  simp only [Act.put, List.setIfInBounds_toArray, List.set_cons_zero, List.set_cons_succ]
  iterate 1 (refine wpPlan_skip (by rfl) ?_; simp only [Act.put, List.setIfInBounds_toArray, List.set_cons_zero, List.set_cons_succ])
  iterate 6 (refine wpPlan_rd _ (by rfl) (by intro W hW; have hr := (HK3.out W hW).1; have z149 := hr 149 _ rfl; clear hr hW; go_simp; with_reducible rfl) ?_; simp only [Act.put, List.setIfInBounds_toArray, List.set_cons_zero, List.set_cons_succ])
  refine wpPlan_rd (.agg ledZ.toArray) (by rfl) (fun W hW => led_exec W w2.heap.size rfl (HK3.out W hW).2) ?_
  simp only [Act.put, List.setIfInBounds_toArray, List.set_cons_zero, List.set_cons_succ]
  refine wpPlan_rd (.agg ledZ.toArray) (by rfl) (fun W hW => by kernel_rfl) ?_
  simp only [Act.put, List.setIfInBounds_toArray, List.set_cons_zero, List.set_cons_succ]
  refine wpPlan_rd (.bool false) (by rfl) (fun W hW => by kernel_rfl) ?_
  simp only [Act.put, List.setIfInBounds_toArray, List.set_cons_zero, List.set_cons_succ]
  iterate 2 (refine wpPlan_rd _ (by rfl) (by intro W hW; have hr := (HK3.out W hW).1; have z149 := hr 149 _ rfl; clear hr hW; go_simp; with_reducible rfl) ?_; simp only [Act.put, List.setIfInBounds_toArray, List.set_cons_zero, List.set_cons_succ])
  refine wpPlan_nil ?_
  obtain ⟨w4, hw4⟩ : ∃ w4, w3.drew = w4 := ⟨_, rfl⟩
  have HB4 : Hid (Below w.heap.size w w4) := by rw [← hw4]; exact HB3.out.trans (HD3.out.mono HB3.out.size)
  rw [hw4]
  clear hw4
  have HD4 : Hid (Below w4.heap.size w4 w4.drew) := (Below.refl _ _).drew
  have HK4 : Hid (∀ W, Below w4.heap.size w4 W → RefNd W B ∧ NodeAt W lo b c (nv0 id hard near) ns0) := fun W hW => ⟨((HK.out _ HB4.out).2).keep hW, ((HK.out _ HB4.out).1).keep hW⟩
  go_wp2_with fail
  refine wp_region_plan [] [(true, 0), (true, 2), (true, 3), (true, 4), (true, 5), (true, 6), (true, 7), (true, 8), (true, 9), (true, 10), (true, 11), (true, 12), (true, 13), (true, 14), (true, 15), (true, 16), (true, 17), (true, 18), (true, 19), (true, 20), (false, 1), (false, 21), (true, 22), (true, 23), (true, 24)] 25 12 (fun W => Below w4.heap.size w4 W) (by kernel_rfl) (by kernel_rfl) (by intro c a t v w h; exact h) HD4.out ?_
  simp only [pickB, pickL, List.drop_succ_cons, List.drop_zero, List.head?_cons, Option.toList_some, List.map_cons, List.map_nil, List.cons_append, List.nil_append]
  refine wpHead_nil ?_
  iterate 20 (refine wpPlan_rd _ (by rfl) (by intro W hW; have hr := (HK4.out W hW).1; have z57 := hr 57 _ rfl; have z59 := hr 59 _ rfl; have z68 := hr 68 _ rfl; clear hr hW; go_simp; with_reducible rfl) ?_; simp only [Act.put, List.setIfInBounds_toArray, List.set_cons_zero, List.set_cons_succ])
  refine wpPlan_do (by rfl) ?_
  go_simp
  go_at_call 42
  refine (nodeSizes (HK4.out _ HD4.out).2).mono ?_
  rintro e w5 ⟨rfl, hb5⟩
  have HB5 : Hid (Below w4.heap.size w4 w5) := HD4.out.trans (hb5.mono HD4.out.size)
  clear hb5
  refine ⟨HB5.out, ?_⟩
  refine wpPlan_do (by rfl) ?_
  go_simp
  go_at_call 43
  refine (rolled0 (HK4.out _ HB5.out).1).mono ?_
  rintro e w' ⟨rfl, rfl⟩
  refine ⟨HB5.out, ?_⟩
  iterate 2 (refine wpPlan_rd _ (by rfl) (by intro W hW; have hr := (HK4.out W hW).1; have z57 := hr 57 _ rfl; have z59 := hr 59 _ rfl; have z68 := hr 68 _ rfl; clear hr hW; go_simp; with_reducible rfl) ?_; simp only [Act.put, List.setIfInBounds_toArray, List.set_cons_zero, List.set_cons_succ])
  refine wpPlan_rd (.bool false) (by rfl) (fun W hW => by kernel_rfl) ?_
  simp only [Act.put, List.setIfInBounds_toArray, List.set_cons_zero, List.set_cons_succ]
  refine wpPlan_nil ?_
  have HB5w : Hid (Below w.heap.size w w5) := HB4.out.trans (HB5.out.mono HB4.out.size)
  go_wp2_with fail
  go_loopw [11, 12] (fun i v wr => ∃ k : Nat, k ≤ 22 ∧ i = .int .i64 ((k : Int) - 1) ∧ Below w.heap.size w wr) (fun i _ _ => 22 - (intOf i + 1).toNat)
  case atStart => exact ⟨0, by omega, rfl, HB5w.out⟩
  case round =>
    obtain ⟨k, hk, rfl, hb⟩ := hrel
    have HW := Lib.hid hb
    clear hb
    by_cases hlt : k < 22
    · have hr := (HK.out _ HW.out).2
      have C := Lib.hid (nodeRefused0 (HK.out _ HW.out).1 rfl ((k : Int) - 1) (by omega) (by omega))
      have hltI : (k : Int) - 1 ≤ 20 := by omega
      by_cases h0 : k = 0
      · subst h0
        rw [show (((0 : Nat) : Int) - 1) = -1 from rfl] at C ⊢
        clear hr hltI
        go_wp2_with fail
        refine C.out.mono ?_
        rintro e w' ⟨rfl, rfl⟩
        go_wp2
        go_roundw
        case rel => exact ⟨1, by omega, rfl, HW.out⟩
        case measure => decide
      · obtain ⟨q, rfl⟩ : ∃ q, k = q + 1 := ⟨k - 1, by omega⟩
        rw [show (((q + 1 : Nat) : Int) - 1) = (q : Int) from by omega] at C hltI ⊢
        by_cases h1 : q = 20
        · subst h1
          clear hr
          go_wp2_with fail
          refine C.out.mono ?_
          rintro e w' ⟨rfl, rfl⟩
          go_wp2
          go_roundw
          case rel => exact ⟨22, by omega, rfl, HW.out⟩
          case measure => decide
        · have hc := hr.count (q := q) (by omega)
          have hq : q < 20 := by omega
          have hqI : (q : Int) < 20 := by omega
          clear hr
          go_wp2_with fail
          refine C.out.mono ?_
          rintro e w' ⟨rfl, rfl⟩
          go_wp2
          go_roundw
          case rel => exact ⟨q + 2, by omega, by go_num, HW.out⟩
          case measure => simp [intOf]; omega
    · obtain rfl : k = 22 := by omega
      rw [show (((22 : Nat) : Int) - 1) = 21 from rfl]
      have HD6 : Hid (Below wr.heap.size wr wr.drew) := (Below.refl _ _).drew
      have HK5 : Hid (∀ W, Below wr.heap.size wr W → RefNd W B ∧ NodeAt W lo b c (nv0 id hard near) ns0) := fun W hW => ⟨((HK.out _ HW.out).2).keep hW, ((HK.out _ HW.out).1).keep hW⟩
      go_wp2_with fail
      refine wp_region_plan [] [(true, 0), (true, 2), (true, 3), (true, 4), (true, 5), (false, 1), (false, 6), (true, 7), (true, 8), (true, 10), (true, 11), (true, 12), (true, 13), (false, 9), (false, 14), (true, 15), (true, 16)] 17 12 (fun W => Below wr.heap.size wr W) (by kernel_rfl) (by kernel_rfl) (by intro c a t v w h; exact h) HD6.out ?_
      simp only [pickB, pickL, List.drop_succ_cons, List.drop_zero, List.head?_cons, Option.toList_some, List.map_cons, List.map_nil, List.cons_append, List.nil_append]
      refine wpHead_nil ?_
      iterate 5 (refine wpPlan_rd _ (by rfl) (by intro W hW; have hr := (HK5.out W hW).1; have z77 := hr 77 _ rfl; have z82 := hr 82 _ rfl; clear hr hW; go_simp; with_reducible rfl) ?_; simp only [Act.put, List.setIfInBounds_toArray, List.set_cons_zero, List.set_cons_succ])
      refine wpPlan_do (by rfl) ?_
      go_simp
      go_at_call 46
      refine (nodeLog0 (HK5.out _ HD6.out).2).mono ?_
      rintro e w' ⟨rfl, rfl⟩
      refine ⟨HD6.out, ?_⟩
      refine wpPlan_do (by rfl) ?_
      go_simp
      go_at_call 45
      refine (logsAll0 _).mono ?_
      rintro e w' ⟨rfl, rfl⟩
      refine ⟨HD6.out, ?_⟩
      iterate 6 (refine wpPlan_rd _ (by rfl) (by intro W hW; have hr := (HK5.out W hW).1; have z77 := hr 77 _ rfl; have z82 := hr 82 _ rfl; clear hr hW; go_simp; with_reducible rfl) ?_; simp only [Act.put, List.setIfInBounds_toArray, List.set_cons_zero, List.set_cons_succ])
      refine wpPlan_do (by rfl) ?_
      go_simp
      go_at_call 48
      refine (nodeViews0 (HK5.out _ HD6.out).2 rfl).mono ?_
      rintro e w' ⟨rfl, rfl⟩
      refine ⟨HD6.out, ?_⟩
      refine wpPlan_do (by rfl) ?_
      go_simp
      go_at_call 47
      refine (viewsAll0 _).mono ?_
      rintro e w' ⟨rfl, rfl⟩
      refine ⟨HD6.out, ?_⟩
      iterate 2 (refine wpPlan_rd _ (by rfl) (by intro W hW; have hr := (HK5.out W hW).1; have z77 := hr 77 _ rfl; have z82 := hr 82 _ rfl; clear hr hW; go_simp; with_reducible rfl) ?_; simp only [Act.put, List.setIfInBounds_toArray, List.set_cons_zero, List.set_cons_succ])
      refine wpPlan_nil ?_
      go_wp2
      go_ret
      exact ⟨rfl, HW.out.drew⟩
end Go.Proofs.YtfkfheddhnjaaaaGreat
