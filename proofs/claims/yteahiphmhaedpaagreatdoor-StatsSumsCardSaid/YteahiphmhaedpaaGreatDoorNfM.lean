/- What several texts of this seat lean on, joined: NfA NfB NfC NfD NfE. -/
import Derived.Test.YteahiphmhaedpaaGreatDoorNdS
import Derived.Test.YteahiphmhaedpaaGreatDoorNdP
import Derived.Deep.QuietTactic
import Derived.BigQuiet
namespace Go.Proofs.YteahiphmhaedpaaGreatDoor
open Go.RowKit Law
set_option linter.unusedVariables false
set_option linter.unusedSimpArgs false
set_option maxRecDepth 100000

def key0 : List Value := [.int .i64 0, .int .i64 0, .int .u32 0]
def pkt0 : List Value := [.int .i64 0, .int .i64 0, .int .i64 0, .int .u32 0, .int .i64 0, .int .i64 0, .int .i64 0, .int .i64 0, .int .i64 0, .int .i64 0, .int .i64 0, .slice none 0 0]
theorem pktInfo : (Tryz.prog.info? 223).map (·.size) = some 12 := by kernel_rfl
theorem keyInfo : (Tryz.prog.info? 41).map (·.size) = some 3 := by kernel_rfl
set_option maxHeartbeats 3200000 in
theorem tabMin0 {w : World} {t : Nat} (ht : w.cell? ⟨t, 0, none⟩ = some (.slice none 0 0)) :
    Calls Tryz.prog 295 #[.pointer (some ⟨t, 0, none⟩)] w fun e w' => e = .returned (.tuple #[.agg key0.toArray, .agg pkt0.toArray, .bool false]) ∧ Below w.heap.size w w' := by
  have hlt := World.block_lt_of_cell? _ _ ht
  have hne : t ≠ w.heap.size := Nat.ne_of_lt hlt
  have hne2 : t ≠ w.heap.size + 1 := by have : t < w.heap.size := hlt; omega
  have k1 := boxF_made w [.int .i64 0, .int .i64 0, .int .u32 0] 41
  have b1 := (Below.refl w.heap.size w).alloc (Nat.le_refl _) (.cells #[.int .i64 0, .int .i64 0, .int .u32 0] 41)
  obtain ⟨w1, hw1⟩ : ∃ w1, w.alloc (.cells #[.int .i64 0, .int .i64 0, .int .u32 0] 41) = w1 := ⟨_, rfl⟩
  have hs1 : w1.heap.size = w.heap.size + 1 := by rw [← hw1]; simp
  rw [hw1] at b1
  rw [show w.alloc (.cells [.int .i64 0, .int .i64 0, .int .u32 0].toArray 41) = w1 from hw1] at k1
  have k2 := boxF_made w1 [.int .i64 0, .int .i64 0, .int .i64 0, .int .u32 0, .int .i64 0, .int .i64 0, .int .i64 0, .int .i64 0, .int .i64 0, .int .i64 0, .int .i64 0, .slice none 0 0] 223
  have b2 := (Below.refl w1.heap.size w1).alloc (Nat.le_refl _) (.cells #[.int .i64 0, .int .i64 0, .int .i64 0, .int .u32 0, .int .i64 0, .int .i64 0, .int .i64 0, .int .i64 0, .int .i64 0, .int .i64 0, .int .i64 0, .slice none 0 0] 223)
  have k1' := k1.keep b2
  obtain ⟨w2, hw2⟩ : ∃ w2, w1.alloc (.cells #[.int .i64 0, .int .i64 0, .int .i64 0, .int .u32 0, .int .i64 0, .int .i64 0, .int .i64 0, .int .i64 0, .int .i64 0, .int .i64 0, .int .i64 0, .slice none 0 0] 223) = w2 := ⟨_, rfl⟩
  rw [hw2] at b2 k1'
  rw [show w1.alloc (.cells [.int .i64 0, .int .i64 0, .int .i64 0, .int .u32 0, .int .i64 0, .int .i64 0, .int .i64 0, .int .i64 0, .int .i64 0, .int .i64 0, .int .i64 0, .slice none 0 0].toArray 223) = w2 from hw2] at k2
  have b12 := b1.trans (b2.mono b1.size)
  have ht2 : w2.cell? ⟨t, 0, none⟩ = some (.slice none 0 0) := (b12.cell (p := ⟨t, 0, none⟩) hlt).trans ht
  have HS0 : Hid (Below w.heap.size w w2.drew ∧ BoxF w2.drew w.heap.size [.int .i64 0, .int .i64 0, .int .u32 0] ∧ BoxF w2.drew w1.heap.size [.int .i64 0, .int .i64 0, .int .i64 0, .int .u32 0, .int .i64 0, .int .i64 0, .int .i64 0, .int .i64 0, .int .i64 0, .int .i64 0, .int .i64 0, .slice none 0 0]) := ⟨b12.drew, k1'.keep (Below.refl _ _).drew, k2.keep (Below.refl _ _).drew⟩
  have hne12 : w.heap.size ≠ w1.heap.size := by omega
  have a0 := k1'.1 0 _ rfl
  have fa0 := k1'.2 0 (by simp)
  have a1 := k1'.1 1 _ rfl
  have fa1 := k1'.2 1 (by simp)
  have a2 := k1'.1 2 _ rfl
  have fa2 := k1'.2 2 (by simp)
  have kk := ((k1'.put 0 (by simp) (.int .i64 0)).put 1 (by simp) (.int .i64 0)).put 2 (by simp) (.int .u32 0)
  simp only [List.set_cons_succ, List.set_cons_zero] at kk
  have kp := ((k2.other (a := ⟨w.heap.size, 0, none⟩) hne12 (.int .i64 0)).other (a := ⟨w.heap.size, 1, none⟩) hne12 (.int .i64 0)).other (a := ⟨w.heap.size, 2, none⟩) hne12 (.int .u32 0)
  have kb := ((b12.setCell (p := ⟨w.heap.size, 0, none⟩) (Nat.le_refl _) (.int .i64 0)).setCell (p := ⟨w.heap.size, 1, none⟩) (Nat.le_refl _) (.int .i64 0)).setCell (p := ⟨w.heap.size, 2, none⟩) (Nat.le_refl _) (.int .u32 0)
  obtain ⟨w3, hw3⟩ : ∃ w3, ((w2.setCell ⟨w.heap.size, 0, none⟩ (.int .i64 0)).setCell ⟨w.heap.size, 1, none⟩ (.int .i64 0)).setCell ⟨w.heap.size, 2, none⟩ (.int .u32 0) = w3 := ⟨_, rfl⟩
  rw [hw3] at kk kp kb
  have HS3 : Hid (Below w.heap.size w w3.drew ∧ BoxF w3.drew w.heap.size [.int .i64 0, .int .i64 0, .int .u32 0] ∧ BoxF w3.drew w1.heap.size [.int .i64 0, .int .i64 0, .int .i64 0, .int .u32 0, .int .i64 0, .int .i64 0, .int .i64 0, .int .i64 0, .int .i64 0, .int .i64 0, .int .i64 0, .slice none 0 0]) := ⟨kb.drew, kk.keep (Below.refl _ _).drew, kp.keep (Below.refl _ _).drew⟩
  have c0 := kp.1 0 _ rfl
  have fc0 := kp.2 0 (by simp)
  have c1 := kp.1 1 _ rfl
  have fc1 := kp.2 1 (by simp)
  have c2 := kp.1 2 _ rfl
  have fc2 := kp.2 2 (by simp)
  have c3 := kp.1 3 _ rfl
  have fc3 := kp.2 3 (by simp)
  have c4 := kp.1 4 _ rfl
  have fc4 := kp.2 4 (by simp)
  have c5 := kp.1 5 _ rfl
  have fc5 := kp.2 5 (by simp)
  have c6 := kp.1 6 _ rfl
  have fc6 := kp.2 6 (by simp)
  have c7 := kp.1 7 _ rfl
  have fc7 := kp.2 7 (by simp)
  have c8 := kp.1 8 _ rfl
  have fc8 := kp.2 8 (by simp)
  have c9 := kp.1 9 _ rfl
  have fc9 := kp.2 9 (by simp)
  have c10 := kp.1 10 _ rfl
  have fc10 := kp.2 10 (by simp)
  have c11 := kp.1 11 _ rfl
  have fc11 := kp.2 11 (by simp)
  have z4 := BoxF.puts [.int .i64 0, .int .i64 0, .int .i64 0, .int .u32 0, .int .i64 0, .int .i64 0, .int .i64 0, .int .i64 0, .int .i64 0, .int .i64 0, .int .i64 0, .slice none 0 0] 0 kp (by simp)
  have k4 := kk.same (setCells_at (B := w1.heap.size) hne12 [.int .i64 0, .int .i64 0, .int .i64 0, .int .u32 0, .int .i64 0, .int .i64 0, .int .i64 0, .int .i64 0, .int .i64 0, .int .i64 0, .int .i64 0, .slice none 0 0] w3 0)
  have b4 : Below w.heap.size w (w3.setCells w1.heap.size 0 [.int .i64 0, .int .i64 0, .int .i64 0, .int .u32 0, .int .i64 0, .int .i64 0, .int .i64 0, .int .i64 0, .int .i64 0, .int .i64 0, .int .i64 0, .slice none 0 0]) := setCells_below (Nat.le_of_lt (by omega)) _ _ _ _ kb
  simp only [putL, List.set_cons_succ, List.set_cons_zero] at z4
  obtain ⟨w4, hw4⟩ : ∃ w4, w3.setCells w1.heap.size 0 [.int .i64 0, .int .i64 0, .int .i64 0, .int .u32 0, .int .i64 0, .int .i64 0, .int .i64 0, .int .i64 0, .int .i64 0, .int .i64 0, .int .i64 0, .slice none 0 0] = w4 := ⟨_, rfl⟩
  rw [hw4] at z4 k4 b4
  simp only [World.setCells, Nat.reduceAdd, Nat.zero_add] at hw4
  have HS4 : Hid (Below w.heap.size w w4.drew ∧ BoxF w4.drew w.heap.size [.int .i64 0, .int .i64 0, .int .u32 0] ∧ BoxF w4.drew w1.heap.size [.int .i64 0, .int .i64 0, .int .i64 0, .int .u32 0, .int .i64 0, .int .i64 0, .int .i64 0, .int .i64 0, .int .i64 0, .int .i64 0, .int .i64 0, .slice none 0 0]) := ⟨b4.drew, k4.keep (Below.refl _ _).drew, z4.keep (Below.refl _ _).drew⟩
  have hl1 : (loadVar 41 ⟨w.heap.size, 0, none⟩).run Tryz.prog w4.drew = .ok (.agg key0.toArray) w4.drew :=
    run_loadVar_mid w4.drew w.heap.size 0 41 key0 _ (fun j v hj => by rw [Nat.zero_add]; exact HS4.out.2.1.1 j v hj) Tryz.underlying41 rfl keyInfo
  have hl2 : (loadVar 223 ⟨w1.heap.size, 0, none⟩).run Tryz.prog w4.drew = .ok (.agg pkt0.toArray) w4.drew :=
    run_loadVar_mid w4.drew w1.heap.size 0 223 pkt0 _ (fun j v hj => by rw [Nat.zero_add]; exact HS4.out.2.2.1 j v hj) Tryz.underlying223 rfl pktInfo
  clear k1 k1' k2 b1 b2 b12 hs1 ht kk kp kb z4 k4 b4
  go_enter Tryz.func295, Tryz.ntmps295
  go_wp2
  refine wp_region_perm [] [0, 1] [2, 3, 4] 5 8 (fun W => Below w.heap.size w W ∧ BoxF W w.heap.size [.int .i64 0, .int .i64 0, .int .u32 0] ∧ BoxF W w1.heap.size [.int .i64 0, .int .i64 0, .int .i64 0, .int .u32 0, .int .i64 0, .int .i64 0, .int .i64 0, .int .i64 0, .int .i64 0, .int .i64 0, .int .i64 0, .slice none 0 0]) (by kernel_rfl) (by kernel_rfl) (by intro c a t v w h; exact h) HS0.out ?_
  simp only [pickL, List.drop_succ_cons, List.drop_zero, List.head?_cons, Option.toList_some, List.cons_append, List.nil_append]
  refine wpHead_nil ?_
  iterate 2 (refine wpHead_step _ (by rfl) (by rintro W ⟨-, zk, zp⟩; have z0 := zk.1 0 _ rfl; have z1 := zk.1 1 _ rfl; have z2 := zk.1 2 _ rfl; have y0 := zp.1 0 _ rfl; have y1 := zp.1 1 _ rfl; have y2 := zp.1 2 _ rfl; have y3 := zp.1 3 _ rfl; have y4 := zp.1 4 _ rfl; have y5 := zp.1 5 _ rfl; have y6 := zp.1 6 _ rfl; have y7 := zp.1 7 _ rfl; have y8 := zp.1 8 _ rfl; have y9 := zp.1 9 _ rfl; have y10 := zp.1 10 _ rfl; have y11 := zp.1 11 _ rfl; clear zk zp; go_simp; with_reducible rfl) ?_; simp only [Act.put, List.setIfInBounds_toArray, List.set_cons_zero, List.set_cons_succ])
  refine wpHead_nil ?_
  refine ⟨by rfl, ?_⟩
  go_simp
  refine ⟨HS3.out, by rfl, ?_⟩
  go_simp
  refine ⟨HS4.out, by rfl, ?_⟩
  go_simp
  refine ⟨HS4.out, ?_⟩
  refine wpMid_nil ?_
  go_wp2
  refine bodyPost_ret (v := .tuple #[.agg key0.toArray, .agg pkt0.toArray, .bool false]) (by simp [results, Tryz.results295, asAddr, hl1, hl2]) rfl ⟨rfl, HS4.out.1⟩
end Go.Proofs.YteahiphmhaedpaaGreatDoor

namespace Go.Proofs.YteahiphmhaedpaaGreatDoor
open Go.RowKit Law
set_option linter.unusedVariables false
set_option linter.unusedSimpArgs false
set_option maxRecDepth 100000

set_option maxHeartbeats 3200000 in
theorem histNext0 {w : World} {H t : Nat} {x y : Value} {cs : List Value} (hh : BoxF w H (.pointer (some ⟨t, 0, none⟩) :: cs)) (ht : BoxF w t [.slice none 0 0, x, y]) :
    Calls Tryz.prog 230 #[.pointer (some ⟨H, 0, none⟩)] w fun e w' => e = .returned (.tuple #[.agg pkt0.toArray, .int .i64 0, .bool false]) ∧ Below w.heap.size w w' := by
  have k1 := boxF_made w [.int .i64 0, .int .i64 0, .int .i64 0, .int .u32 0, .int .i64 0, .int .i64 0, .int .i64 0, .int .i64 0, .int .i64 0, .int .i64 0, .int .i64 0, .slice none 0 0] 223
  have b1 := (Below.refl w.heap.size w).alloc (Nat.le_refl _) (.cells #[.int .i64 0, .int .i64 0, .int .i64 0, .int .u32 0, .int .i64 0, .int .i64 0, .int .i64 0, .int .i64 0, .int .i64 0, .int .i64 0, .int .i64 0, .slice none 0 0] 223)
  obtain ⟨w1, hw1⟩ : ∃ w1, w.alloc (.cells #[.int .i64 0, .int .i64 0, .int .i64 0, .int .u32 0, .int .i64 0, .int .i64 0, .int .i64 0, .int .i64 0, .int .i64 0, .int .i64 0, .int .i64 0, .slice none 0 0] 223) = w1 := ⟨_, rfl⟩
  rw [hw1] at b1
  rw [show w.alloc (.cells [.int .i64 0, .int .i64 0, .int .i64 0, .int .u32 0, .int .i64 0, .int .i64 0, .int .i64 0, .int .i64 0, .int .i64 0, .int .i64 0, .int .i64 0, .slice none 0 0].toArray 223) = w1 from hw1] at k1
  have C := tabMin0 ((ht.keep b1).1 0 _ rfl)
  simp only [key0, pkt0] at C
  have C := Lib.hid C
  have c0 := (hh.keep b1).1 0 _ rfl
  have H1 := Lib.hid (And.intro k1 b1)
  clear k1 b1 hh ht
  go_enter Tryz.func230, Tryz.ntmps230
  go_wp2_with fail
  refine C.out.mono ?_
  rintro e w2 ⟨rfl, hb2⟩
  have b3 : Below w2.heap.size w2 ((w2.alloc (.cells #[.int .i64 0, .int .i64 0, .int .u32 0] 41)).alloc (.cells #[.int .i64 0, .int .i64 0, .int .i64 0, .int .u32 0, .int .i64 0, .int .i64 0, .int .i64 0, .int .i64 0, .int .i64 0, .int .i64 0, .int .i64 0, .slice none 0 0] 223)) := ((Below.refl _ _).alloc (Nat.le_refl _) _).alloc (Nat.le_of_lt (by simp)) _
  have b13 := hb2.trans (b3.mono hb2.size)
  have kp := H1.out.1.keep b13
  have kb := H1.out.2.trans (b13.mono H1.out.2.size)
  have d0 := kp.1 0 _ rfl
  have fd0 := kp.2 0 (by simp)
  have d1 := kp.1 1 _ rfl
  have fd1 := kp.2 1 (by simp)
  have d2 := kp.1 2 _ rfl
  have fd2 := kp.2 2 (by simp)
  have d3 := kp.1 3 _ rfl
  have fd3 := kp.2 3 (by simp)
  have d4 := kp.1 4 _ rfl
  have fd4 := kp.2 4 (by simp)
  have d5 := kp.1 5 _ rfl
  have fd5 := kp.2 5 (by simp)
  have d6 := kp.1 6 _ rfl
  have fd6 := kp.2 6 (by simp)
  have d7 := kp.1 7 _ rfl
  have fd7 := kp.2 7 (by simp)
  have d8 := kp.1 8 _ rfl
  have fd8 := kp.2 8 (by simp)
  have d9 := kp.1 9 _ rfl
  have fd9 := kp.2 9 (by simp)
  have d10 := kp.1 10 _ rfl
  have fd10 := kp.2 10 (by simp)
  have d11 := kp.1 11 _ rfl
  have fd11 := kp.2 11 (by simp)
  have z4 := BoxF.puts [.int .i64 0, .int .i64 0, .int .i64 0, .int .u32 0, .int .i64 0, .int .i64 0, .int .i64 0, .int .i64 0, .int .i64 0, .int .i64 0, .int .i64 0, .slice none 0 0] 0 kp (by simp)
  have b4 : Below w.heap.size w (((w2.alloc (.cells #[.int .i64 0, .int .i64 0, .int .u32 0] 41)).alloc (.cells #[.int .i64 0, .int .i64 0, .int .i64 0, .int .u32 0, .int .i64 0, .int .i64 0, .int .i64 0, .int .i64 0, .int .i64 0, .int .i64 0, .int .i64 0, .slice none 0 0] 223)).setCells w.heap.size 0 [.int .i64 0, .int .i64 0, .int .i64 0, .int .u32 0, .int .i64 0, .int .i64 0, .int .i64 0, .int .i64 0, .int .i64 0, .int .i64 0, .int .i64 0, .slice none 0 0]) := setCells_below (Nat.le_refl _) _ _ _ _ kb
  simp only [putL, List.set_cons_succ, List.set_cons_zero] at z4
  obtain ⟨w4, hw4⟩ : ∃ w4, ((w2.alloc (.cells #[.int .i64 0, .int .i64 0, .int .u32 0] 41)).alloc (.cells #[.int .i64 0, .int .i64 0, .int .i64 0, .int .u32 0, .int .i64 0, .int .i64 0, .int .i64 0, .int .i64 0, .int .i64 0, .int .i64 0, .int .i64 0, .slice none 0 0] 223)).setCells w.heap.size 0 [.int .i64 0, .int .i64 0, .int .i64 0, .int .u32 0, .int .i64 0, .int .i64 0, .int .i64 0, .int .i64 0, .int .i64 0, .int .i64 0, .int .i64 0, .slice none 0 0] = w4 := ⟨_, rfl⟩
  rw [hw4] at z4 b4
  simp only [World.setCells, Nat.reduceAdd, Nat.zero_add] at hw4
  have hl : (loadVar 223 ⟨w.heap.size, 0, none⟩).run Tryz.prog w4 = .ok (.agg pkt0.toArray) w4 :=
    run_loadVar_mid w4 w.heap.size 0 223 pkt0 _ (fun j v hj => by rw [Nat.zero_add]; exact z4.1 j v hj) Tryz.underlying223 rfl pktInfo
  have HB := Lib.hid b4
  clear hb2 b3 b13 kp kb z4 b4
  go_wp2
  refine bodyPost_ret (v := .tuple #[.agg pkt0.toArray, .int .i64 0, .bool false]) (by simp [results, Tryz.results230, asAddr, hl]) rfl ⟨rfl, HB.out⟩
end Go.Proofs.YteahiphmhaedpaaGreatDoor

namespace Go.Proofs.YteahiphmhaedpaaGreatDoor
open Go.RowKit Law
set_option linter.unusedVariables false
set_option linter.unusedSimpArgs false
set_option maxRecDepth 100000

set_option maxHeartbeats 3200000 in
theorem dueMsg0 {w : World} {lo : Nat} {b : NdO} {c : Cn} {x : NV} {s : NS} {r : Nat} {y : Value} {B : Nat} (h : Idle w lo b c x s r y) (hB : w.cell? ⟨B, 0, none⟩ = some (.pointer (some ⟨b.N, 0, none⟩))) :
    Calls Tryz.prog 229 #[.pointer (some ⟨B, 0, none⟩)] w fun e w' => e = .returned (.bool false) ∧ Below w.heap.size w w' := by
  have C := histNext0 h.nd.hst h.nd.htb
  simp only [pkt0] at C
  have C := Lib.hid C
  have c41 := h.nd.box.cell 41 _ rfl
  generalize b.N = N at *
  clear h
  go_enter Tryz.func229, Tryz.ntmps229
  go_wp2_with fail
  refine C.out.mono ?_
  rintro e w1 ⟨rfl, hb⟩
  have b2 : Below w.heap.size w (w1.alloc (.cells #[.int .i64 0, .int .i64 0, .int .i64 0, .int .u32 0, .int .i64 0, .int .i64 0, .int .i64 0, .int .i64 0, .int .i64 0, .int .i64 0, .int .i64 0, .slice none 0 0] 223)) := hb.alloc hb.size _
  have HB := Lib.hid b2
  clear hb b2
  go_wp2_with fail
  go_quiet (fail)
  go_wp2
  go_ret
  exact ⟨rfl, below_draws HB.out _⟩
set_option maxHeartbeats 3200000 in
theorem dueView0 {w : World} {lo : Nat} {b : NdO} {c : Cn} {x : NV} {s : NS} {r : Nat} {y : Value} {B : Nat} (h : Idle w lo b c x s r y) (hB : w.cell? ⟨B, 0, none⟩ = some (.pointer (some ⟨b.N, 0, none⟩))) :
    Calls Tryz.prog 232 #[.pointer (some ⟨B, 0, none⟩)] w fun e w' => e = .returned (.bool false) ∧ Below w.heap.size w w' := by
  have HS : Hid (∀ W, Below w.heap.size w W → Idle W lo b c x s r y) := fun W hW => h.keep hW
  have HD : Hid (Below w.heap.size w w.drew) := (Below.refl _ _).drew
  have C1 := Lib.hid (nodeNowI (h.keep HD.out).nd (by rw [h.ph]; decide))
  have C2 := fun W => perRipe0 (perOk c.attend (bDelta c)) s.at_ h.a0 h.a2 W
  unfold RipePost at C2
  have C2 := Lib.hid C2
  have hBl := World.block_lt_of_cell? _ _ hB
  obtain ⟨at_, hat⟩ : ∃ a, s.at_ = a := ⟨_, rfl⟩
  obtain ⟨pe, hpe⟩ : ∃ a, perEvery c.attend = a := ⟨_, rfl⟩
  obtain ⟨pd, hpd⟩ : ∃ a, perDelta (bDelta c) = a := ⟨_, rfl⟩
  obtain ⟨N, hN⟩ : ∃ N, b.N = N := ⟨_, rfl⟩
  have HC : Hid (∀ W, Below w.heap.size w W → W.cell? ⟨B, 0, none⟩ = some (.pointer (some ⟨N, 0, none⟩)) ∧ W.cell? ⟨N, 47, none⟩ = some (.int .i64 1) ∧ W.cell? ⟨N, 31, none⟩ = some (.int .i64 pe) ∧ W.cell? ⟨N, 32, none⟩ = some (.int .i64 pd)) := fun W hW => by
    have hh := (HS.out W hW).nd.box
    have h47 : W.cell? ⟨b.N, 47, none⟩ = some (.int .i64 x.view) := hh.cell 47 _ rfl
    have h31 := hh.cell 31 _ rfl
    have h32 := hh.cell 32 _ rfl
    have hb := (hW.cell (p := ⟨B, 0, none⟩) hBl).trans hB
    rw [h.view] at h47
    rw [hN] at h47 h31 h32 hb
    rw [hpe] at h31
    rw [hpd] at h32
    exact ⟨hb, h47, h31, h32⟩
  rw [hat] at C1 C2
  rw [hpe, hpd] at C2
  rw [hN] at C1
  clear h hat hpe hpd hN hB hBl
  go_enter Tryz.func232, Tryz.ntmps232
  go_wp2_with fail
  refine wp_region_perm [] [0, 1, 2, 3, 4, 5, 6, 7, 8, 9] [10, 11, 12, 13] 14 18 (fun W => Below w.heap.size w W) (by kernel_rfl) (by kernel_rfl) (by intro c a t v w h; exact h) HD.out ?_
  simp only [pickL, List.drop_succ_cons, List.drop_zero, List.head?_cons, Option.toList_some, List.cons_append, List.nil_append]
  refine wpHead_nil ?_
  iterate 10 (refine wpHead_step _ (by rfl) (by intro W hW; obtain ⟨z3, z0, z1, z2⟩ := HC.out W hW; clear hW; go_simp; with_reducible rfl) ?_; simp only [Act.put, List.setIfInBounds_toArray, List.set_cons_zero, List.set_cons_succ])
  refine wpHead_nil ?_
  refine ⟨by rfl, ?_⟩
  go_simp
  go_at_call 160
  refine C1.out.mono ?_
  rintro e w' ⟨rfl, rfl⟩
  refine ⟨HD.out, by rfl, ?_⟩
  go_simp
  go_at_call 233
  refine (C2.out _).mono ?_
  rintro e w2 ⟨⟨v, rfl, hv⟩, hb2⟩
  have HB2 := Lib.hid (HD.out.trans (hb2.mono HD.out.size))
  have hv1 : ¬ (1 ≤ v) := by omega
  have hv2 : decide (1 ≤ v) = false := decide_eq_false hv1
  clear hb2
  refine ⟨HB2.out, by rfl, ?_⟩
  go_simp
  refine ⟨HB2.out, by rfl, ?_⟩
  go_simp
  refine ⟨HB2.out, ?_⟩
  refine wpMid_nil ?_
  go_wp2
  go_ret
  exact ⟨by first | rfl | simp [hv2] | simp [hv1], HB2.out⟩
end Go.Proofs.YteahiphmhaedpaaGreatDoor

namespace Go.Proofs.YteahiphmhaedpaaGreatDoor
open Go.RowKit Law
set_option linter.unusedVariables false
set_option linter.unusedSimpArgs false
set_option maxRecDepth 100000

set_option maxHeartbeats 3200000 in
theorem nodeDue0 {w : World} {lo : Nat} {b : NdO} {c : Cn} {x : NV} {s : NS} {r : Nat} {y : Value} (h : Idle w lo b c x s r y) :
    Calls Tryz.prog 163 #[.pointer (some ⟨b.N, 0, none⟩)] w fun e w' => e = .returned (.slice none 0 0) ∧ Below w.heap.size w w' := by
  have b1 := (Below.refl w.heap.size w).alloc (Nat.le_refl _) (.cells #[.pointer (some ⟨b.N, 0, none⟩)] 72)
  have k1 := boxF_made w [.pointer (some ⟨b.N, 0, none⟩)] 72
  have C1 := Lib.hid (dueMsg0 (h.keep b1) (k1.1 0 _ rfl))
  have C2 : Hid (∀ W, Below (w.alloc (.cells #[.pointer (some ⟨b.N, 0, none⟩)] 72)).heap.size (w.alloc (.cells #[.pointer (some ⟨b.N, 0, none⟩)] 72)) W → Calls Tryz.prog 232 #[.pointer (some ⟨w.heap.size, 0, none⟩)] W fun e w' => e = .returned (.bool false) ∧ Below W.heap.size W w') := fun W hW =>
    dueView0 ((h.keep b1).keep hW) ((k1.keep hW).1 0 _ rfl)
  have HB := Lib.hid b1
  clear h b1 k1
  generalize b.N = N at *
  go_enter Tryz.func163, Tryz.ntmps163
  go_wp2
  refine wp_loop_rounds 1 ?_
  rw [rounds_succ]
  go_wp2_with fail
  refine C1.out.mono ?_
  rintro e w1 ⟨rfl, hb⟩
  have C3 := Lib.hid (C2.out w1 hb)
  have HB1 := Lib.hid (HB.out.trans (hb.mono HB.out.size))
  clear hb
  go_wp2_with fail
  refine C3.out.mono ?_
  rintro e w2 ⟨rfl, hb⟩
  have HB2 := Lib.hid (HB1.out.trans (hb.mono HB1.out.size))
  clear hb
  go_wp2
  go_ret
  exact ⟨rfl, HB2.out⟩
end Go.Proofs.YteahiphmhaedpaaGreatDoor

namespace Go.Proofs.YteahiphmhaedpaaGreatDoor
open Go.RowKit Law
set_option linter.unusedVariables false
set_option linter.unusedSimpArgs false
set_option maxRecDepth 100000

theorem outInfo : (Tryz.prog.info? 263).map (fun i => (i.zero, i.size, i.bytes)) = some (some (.agg #[.int .i64 0, .slice none 0 0]), 2, 32) := by kernel_rfl
set_option maxHeartbeats 6400000 in
theorem nodeStep0 {w : World} {lo : Nat} {b : NdO} {c : Cn} {x : NV} {s : NS} {r : Nat} {y : Value} (h : Idle w lo b c x s r y) :
    Calls Tryz.prog 89 #[.pointer (some ⟨b.N, 0, none⟩)] w fun e w' => e = .returned (.slice none 0 0) ∧ Below w.heap.size w w' := by
  obtain ⟨i0, hi, hz0, hz1, hz2⟩ := info_parts outInfo
  have hp : ∀ W, Below w.heap.size w W → Calls Tryz.prog 72 #[.pointer (some ⟨b.clk, 0, none⟩)] W fun e w' => e = .returned (.int .i64 2) ∧ W = w' := fun W hW => by
    have hc := (h.keep hW).nd.clk
    rw [h.ph] at hc
    exact clockPhase hc
  have CP := Lib.hid hp
  have HS : Hid (∀ W, Below w.heap.size w W → Idle W lo b c x s r y) := fun W hW => h.keep hW
  have HD : Hid (Below w.heap.size w w.drew) := (Below.refl _ _).drew
  have C1 := Lib.hid (nodeNowI (h.keep HD.out).nd (by rw [h.ph]; decide))
  have HD2 := h.keep HD.out
  have C2 := Lib.hid (relayExpire0 HD2.nd.rel HD2.nd.sen HD2.nd.tab s.at_)
  have H0 := Lib.hid (Below.refl w.heap.size w)
  have HCe : Hid (∀ W, Below w.heap.size w W → W.cell? ⟨b.N, 35, none⟩ = some (.pointer (some ⟨b.clk, 0, none⟩)) ∧ W.cell? ⟨b.N, 40, none⟩ = some (.pointer (some ⟨b.rel, 0, none⟩))) := fun W hW => ⟨(HS.out W hW).nd.box.cell 35 _ rfl, (HS.out W hW).nd.box.cell 40 _ rfl⟩
  have HB3 : Hid (∀ W, Below w.heap.size w W → Calls Tryz.prog 161 #[.pointer (some ⟨b.N, 0, none⟩)] W fun e w' => e = .returned (.slice none 0 0) ∧ ∃ n, w' = W.drewN n) := fun W hW => nodeBeacon0 (HS.out W hW)
  have HB4 : Hid (∀ W, Below w.heap.size w W → Calls Tryz.prog 162 #[.pointer (some ⟨b.N, 0, none⟩)] W fun e w' => e = .returned (.tuple #[]) ∧ ∃ n, w' = W.drewN n) := fun W hW => nodeClose0 (HS.out W hW)
  have HB5 : Hid (∀ W, Below w.heap.size w W → Calls Tryz.prog 163 #[.pointer (some ⟨b.N, 0, none⟩)] W fun e w' => e = .returned (.slice none 0 0) ∧ Below W.heap.size W w') := fun W hW => nodeDue0 (HS.out W hW)
  have HB6 : Hid (∀ W, Below w.heap.size w W → Calls Tryz.prog 164 #[.pointer (some ⟨b.N, 0, none⟩)] W fun e w' => e = .returned (.slice none 0 0) ∧ Below W.heap.size W w') := fun W hW => nodeAttends0 (HS.out W hW)
  have HB7 : Hid (∀ W, Below w.heap.size w W → Calls Tryz.prog 165 #[.pointer (some ⟨b.N, 0, none⟩)] W fun e w' => e = .returned (.tuple #[]) ∧ W = w') := fun W hW => nodeLearn0 (HS.out W hW)
  obtain ⟨c35, c40⟩ := HCe.out w H0.out
  clear h hp HD2
  obtain ⟨N, hN⟩ : ∃ N, b.N = N := ⟨_, rfl⟩
  obtain ⟨ck, hck⟩ : ∃ N, b.clk = N := ⟨_, rfl⟩
  obtain ⟨rl, hrl⟩ : ∃ N, b.rel = N := ⟨_, rfl⟩
  rw [hN, hck, hrl] at HCe
  rw [hN, hck] at c35
  rw [hN, hrl] at c40
  rw [hN] at C1 HB3 HB4 HB5 HB6 HB7 ⊢
  rw [hck] at CP
  rw [hrl] at C2
  obtain ⟨at_, hat⟩ : ∃ a, s.at_ = a := ⟨_, rfl⟩
  rw [hat] at C1 C2
  clear hN hck hrl hat HS
  go_enter Tryz.func89, Tryz.ntmps89
  go_wp2_with fail
  refine (CP.out w H0.out).mono ?_
  rintro e w' ⟨rfl, rfl⟩
  go_wp2_with fail
  refine wp_region_perm [] [0, 1, 2, 3, 4, 5] [6, 7] 8 12 (fun W => Below w.heap.size w W) (by kernel_rfl) (by kernel_rfl) (by intro c a t v w h; exact h) HD.out ?_
  simp only [pickL, List.drop_succ_cons, List.drop_zero, List.head?_cons, Option.toList_some, List.cons_append, List.nil_append]
  refine wpHead_nil ?_
  iterate 6 (refine wpHead_step _ (by rfl) (by intro W hW; obtain ⟨z0, z1⟩ := HCe.out W hW; clear hW; go_simp; with_reducible rfl) ?_; simp only [Act.put, List.setIfInBounds_toArray, List.set_cons_zero, List.set_cons_succ])
  refine wpHead_nil ?_
  refine ⟨by rfl, ?_⟩
  go_simp
  go_at_call 160
  refine C1.out.mono ?_
  rintro e w' ⟨rfl, rfl⟩
  refine ⟨HD.out, by rfl, ?_⟩
  go_simp
  go_at_call 159
  refine C2.out.mono ?_
  rintro e w2 ⟨rfl, hb2⟩
  have G2 := Lib.hid (HD.out.trans (hb2.mono HD.out.size))
  clear hb2
  refine ⟨G2.out, ?_⟩
  refine wpMid_nil ?_
  go_wp2_with fail
  refine (HB3.out w2 G2.out).mono ?_
  rintro e w' ⟨rfl, n1, rfl⟩
  have G3 := Lib.hid (below_draws G2.out n1)
  go_wp2_with fail
  refine (HB4.out _ G3.out).mono ?_
  rintro e w' ⟨rfl, n2, rfl⟩
  have G4 := Lib.hid (below_draws G3.out n2)
  obtain ⟨e35, -⟩ := HCe.out _ G4.out
  obtain ⟨w4, hw4⟩ : ∃ w4, (w2.drewN n1).drewN n2 = w4 := ⟨_, rfl⟩
  rw [hw4] at G4 e35 ⊢
  go_wp2_with fail
  refine (CP.out w4 G4.out).mono ?_
  rintro e w' ⟨rfl, rfl⟩
  go_wp2_with fail
  refine (HB5.out w4 G4.out).mono ?_
  rintro e w5 ⟨rfl, hb5⟩
  have G5 := Lib.hid (G4.out.trans (hb5.mono G4.out.size))
  clear hb5
  go_wp2_with (at_builtin; refine wpList_append_own_none rfl _ _ 178 rfl w.heap.size 263 i0 2 Tryz.underlying178 hi (.slice none 0 0) 0 [] rfl (World.ownsRow_nil _ _ _ _) rfl ?_)
  go_wp2_with fail
  refine (HB6.out w5 G5.out).mono ?_
  rintro e w6 ⟨rfl, hb6⟩
  have G6 := Lib.hid (G5.out.trans (hb6.mono G5.out.size))
  clear hb6
  go_wp2_with (at_builtin; refine wpList_append_own_none rfl _ _ 178 rfl w.heap.size 263 i0 2 Tryz.underlying178 hi (.slice none 0 0) 0 [] rfl (World.ownsRow_nil _ _ _ _) rfl ?_)
  go_wp2_with fail
  refine (HB7.out w6 G6.out).mono ?_
  rintro e w' ⟨rfl, rfl⟩
  go_wp2
  go_ret
  exact ⟨rfl, G6.out⟩
end Go.Proofs.YteahiphmhaedpaaGreatDoor
