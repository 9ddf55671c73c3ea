/- words.one. -/
import Derived.Test.YtndpdonlombodaaDoorWeA
namespace Go.Proofs.YtndpdonlombodaaDoor
open Go.RowKit Law
set_option linter.unusedVariables false
set_option linter.unusedSimpArgs false

theorem mem_join_len (c : UInt8) : ∀ (l : List (List UInt8)) (x : List UInt8), x ∈ l → x.length ≤ (joinBy c l).length
  | [y], x, h => by simp at h; subst h; exact Nat.le_refl _
  | y :: z :: r, x, h => by
    show x.length ≤ (y ++ c :: joinBy c (z :: r)).length
    rw [List.length_append, List.length_cons]
    rcases List.mem_cons.1 h with rfl | h
    · omega
    · have := mem_join_len c (z :: r) x h
      omega
theorem mem_cut_len (c : UInt8) (s : List UInt8) (x : List UInt8) (h : x ∈ cutBy c s) : x.length ≤ s.length := by
  have := mem_join_len c (cutBy c s) x h
  rwa [join_cut] at this
theorem cut_len (c : UInt8) (s : List UInt8) : (cutBy c s).length ≤ s.length + 1 := by
  rw [cut_parts]
  have := doneP_len c s
  simp; omega
set_option maxHeartbeats 3200000 in
set_option maxRecDepth 100000 in
theorem one_0 (s : ByteArray) (v : List UInt8) (r : List (List UInt8)) (N : Nat) (hN : (v :: r).length = N) (hNb : N ≤ 1048577) (w : World)
    (CS : Calls Tryd.prog 26 #[.string s, .string ⟨#[32]⟩] (w.alloc (.cells #[.int .i64 0, .int .i64 0, .int .i64 0, .int .i64 0, .int .i64 0, .int .i64 0, .int .u32 0, .int .u32 0, .slice none 0 0] 29)) fun e w' => e = .returned (.slice (some ⟨w.heap.size + 1, 0, none⟩) N N) ∧ w' = ((w.alloc (.cells #[.int .i64 0, .int .i64 0, .int .i64 0, .int .i64 0, .int .i64 0, .int .i64 0, .int .u32 0, .int .u32 0, .slice none 0 0] 29)).alloc (.cells (strV (v :: r)).toArray 9)))
    (k : Int) (CK : ∀ W, Calls Tryd.prog 38 #[.string ⟨v.toArray⟩] W fun e w' => e = .returned (.int .i64 k) ∧ W = w')
    (A1 : Option Addr) (hsl : ∀ W, (Instr.slice 56 (.slice (some ⟨w.heap.size + 1, 0, none⟩) N N) (some (.int .i64 1)) none none).run Tryd.prog W = .ok (.slice A1 (N - 1) (N - 1)) W) (q0 : k = 0) :
    Calls Tryd.prog 27 #[.string s] w (ActPost (Ac0, 19) w) := by
  obtain ⟨hz, hsz⟩ := zero_of_info (show (Tryd.prog.info? 29).map (fun i => (i.zero, i.size)) = some (some (.agg #[.int .i64 0, .int .i64 0, .int .i64 0, .int .i64 0, .int .i64 0, .int .i64 0, .int .u32 0, .int .u32 0, .slice none 0 0]), 9) by kernel_rfl)
  subst q0
  have hN1 : (0 : Int) < (N : Int) := by rw [← hN]; simp
  have hb1 : Below w.heap.size w ((w.alloc (.cells #[.int .i64 0, .int .i64 0, .int .i64 0, .int .i64 0, .int .i64 0, .int .i64 0, .int .u32 0, .int .u32 0, .slice none 0 0] 29)).alloc (.cells (strV (v :: r)).toArray 9)) := ((Below.refl _ _).alloc (Nat.le_refl _) _).alloc (by simp) _
  have hxz : BoxF ((w.alloc (.cells #[.int .i64 0, .int .i64 0, .int .i64 0, .int .i64 0, .int .i64 0, .int .i64 0, .int .u32 0, .int .u32 0, .slice none 0 0] 29)).alloc (.cells (strV (v :: r)).toArray 9)) w.heap.size [.int .i64 0, .int .i64 0, .int .i64 0, .int .i64 0, .int .i64 0, .int .i64 0, .int .u32 0, .int .u32 0, .slice none 0 0] := BoxF.keep (boxF_made w [.int .i64 0, .int .i64 0, .int .i64 0, .int .i64 0, .int .i64 0, .int .i64 0, .int .u32 0, .int .u32 0, .slice none 0 0] 29) ((Below.refl _ _).alloc (Nat.le_refl _) _)
  have hs0 : ((w.alloc (.cells #[.int .i64 0, .int .i64 0, .int .i64 0, .int .i64 0, .int .i64 0, .int .i64 0, .int .u32 0, .int .u32 0, .slice none 0 0] 29)).alloc (.cells (strV (v :: r)).toArray 9)).cell? ⟨w.heap.size + 1, 0, none⟩ = some (.string ⟨v.toArray⟩) := by
    obtain ⟨b3, o3, he, hc⟩ := RowAt.made (w.alloc (.cells #[.int .i64 0, .int .i64 0, .int .i64 0, .int .i64 0, .int .i64 0, .int .i64 0, .int .u32 0, .int .u32 0, .slice none 0 0] 29)) (strV (v :: r)) 9 0 _ rfl
    injection he with he
    injection he with e1 e2 e3
    subst e1 e2
    simpa using hc
  obtain ⟨W1, hW1⟩ : ∃ W1, ((w.alloc (.cells #[.int .i64 0, .int .i64 0, .int .i64 0, .int .i64 0, .int .i64 0, .int .i64 0, .int .u32 0, .int .u32 0, .slice none 0 0] 29)).alloc (.cells (strV (v :: r)).toArray 9)) = W1 := ⟨_, rfl⟩
  rw [hW1] at CS hb1 hxz hs0
  have HX := Lib.hid (And.intro hb1 hxz)
  have CS := Lib.hid CS
  have CK := Lib.hid CK
  clear hb1 hxz hW1
  go_enter Tryd.func27, Tryd.ntmps27
  go_wp2_with fail
  refine CS.out.mono ?_
  rintro e w1 ⟨rfl, hw1⟩
  subst w1
  have u0 := HX.out.2.1 0 _ rfl
  have fu0 := HX.out.2.2 0 (by simp)
  have u1 := HX.out.2.1 1 _ rfl
  have fu1 := HX.out.2.2 1 (by simp)
  have u2 := HX.out.2.1 2 _ rfl
  have fu2 := HX.out.2.2 2 (by simp)
  have u3 := HX.out.2.1 3 _ rfl
  have fu3 := HX.out.2.2 3 (by simp)
  have u4 := HX.out.2.1 4 _ rfl
  have fu4 := HX.out.2.2 4 (by simp)
  have u5 := HX.out.2.1 5 _ rfl
  have fu5 := HX.out.2.2 5 (by simp)
  have u6 := HX.out.2.1 6 _ rfl
  have fu6 := HX.out.2.2 6 (by simp)
  have u7 := HX.out.2.1 7 _ rfl
  have fu7 := HX.out.2.2 7 (by simp)
  have u8 := HX.out.2.1 8 _ rfl
  have fu8 := HX.out.2.2 8 (by simp)
  go_wp2_with fail
  refine (CK.out _).mono ?_
  rintro e w1 ⟨rfl, hw1⟩
  subst w1
  have HB := Lib.hid HX.out.1
  go_wp2
  refine bodyPost_ret (v := .tuple #[.agg #[.int .i64 0, .int .i64 0, .int .i64 0, .int .i64 0, .int .i64 0, .int .i64 0, .int .u32 0, .int .u32 0, .slice none 0 0], .int .i64 19]) (by simp (maxDischargeDepth := 8) [results, Tryd.results27, go_sem, *]) rfl ?_
  refine actPost_bad Ac0 none 0 0 19 rfl rfl (by decide) ?_
  · skip
    repeat (first | with_reducible refine Below.setCell ?_ (by first | exact Nat.le_refl _ | exact Nat.le_succ _) _ | with_reducible refine Below.drew ?_ | with_reducible refine below_drewN ?_ _)
    exact HB.out
set_option maxHeartbeats 3200000 in
set_option maxRecDepth 100000 in
theorem one_3_bad (s : ByteArray) (v : List UInt8) (r : List (List UInt8)) (N : Nat) (hN : (v :: r).length = N) (hNb : N ≤ 1048577) (w : World)
    (CS : Calls Tryd.prog 26 #[.string s, .string ⟨#[32]⟩] (w.alloc (.cells #[.int .i64 0, .int .i64 0, .int .i64 0, .int .i64 0, .int .i64 0, .int .i64 0, .int .u32 0, .int .u32 0, .slice none 0 0] 29)) fun e w' => e = .returned (.slice (some ⟨w.heap.size + 1, 0, none⟩) N N) ∧ w' = ((w.alloc (.cells #[.int .i64 0, .int .i64 0, .int .i64 0, .int .i64 0, .int .i64 0, .int .i64 0, .int .u32 0, .int .u32 0, .slice none 0 0] 29)).alloc (.cells (strV (v :: r)).toArray 9)))
    (k : Int) (CK : ∀ W, Calls Tryd.prog 38 #[.string ⟨v.toArray⟩] W fun e w' => e = .returned (.int .i64 k) ∧ W = w')
    (A1 : Option Addr) (hsl : ∀ W, (Instr.slice 56 (.slice (some ⟨w.heap.size + 1, 0, none⟩) N N) (some (.int .i64 1)) none none).run Tryd.prog W = .ok (.slice A1 (N - 1) (N - 1)) W) (q0 : k = 3) (o : Fa × Int) (CF : ∀ W, W = ((w.alloc (.cells #[.int .i64 0, .int .i64 0, .int .i64 0, .int .i64 0, .int .i64 0, .int .i64 0, .int .u32 0, .int .u32 0, .slice none 0 0] 29)).alloc (.cells (strV (v :: r)).toArray 9)) → Calls Tryd.prog 39 #[.slice A1 (N - 1) (N - 1)] (W.setCell ⟨w.heap.size, 0, none⟩ (.int .i64 3)) (FatedPost o (W.setCell ⟨w.heap.size, 0, none⟩ (.int .i64 3)))) (he : ¬ o.2 = 0) :
    Calls Tryd.prog 27 #[.string s] w (ActPost (Ac0, o.2) w) := by
  obtain ⟨hz, hsz⟩ := zero_of_info (show (Tryd.prog.info? 29).map (fun i => (i.zero, i.size)) = some (some (.agg #[.int .i64 0, .int .i64 0, .int .i64 0, .int .i64 0, .int .i64 0, .int .i64 0, .int .u32 0, .int .u32 0, .slice none 0 0]), 9) by kernel_rfl)
  have heb : (o.2 != 0) = true := by simpa using he
  subst q0
  have hN1 : (0 : Int) < (N : Int) := by rw [← hN]; simp
  have hb1 : Below w.heap.size w ((w.alloc (.cells #[.int .i64 0, .int .i64 0, .int .i64 0, .int .i64 0, .int .i64 0, .int .i64 0, .int .u32 0, .int .u32 0, .slice none 0 0] 29)).alloc (.cells (strV (v :: r)).toArray 9)) := ((Below.refl _ _).alloc (Nat.le_refl _) _).alloc (by simp) _
  have hxz : BoxF ((w.alloc (.cells #[.int .i64 0, .int .i64 0, .int .i64 0, .int .i64 0, .int .i64 0, .int .i64 0, .int .u32 0, .int .u32 0, .slice none 0 0] 29)).alloc (.cells (strV (v :: r)).toArray 9)) w.heap.size [.int .i64 0, .int .i64 0, .int .i64 0, .int .i64 0, .int .i64 0, .int .i64 0, .int .u32 0, .int .u32 0, .slice none 0 0] := BoxF.keep (boxF_made w [.int .i64 0, .int .i64 0, .int .i64 0, .int .i64 0, .int .i64 0, .int .i64 0, .int .u32 0, .int .u32 0, .slice none 0 0] 29) ((Below.refl _ _).alloc (Nat.le_refl _) _)
  have hs0 : ((w.alloc (.cells #[.int .i64 0, .int .i64 0, .int .i64 0, .int .i64 0, .int .i64 0, .int .i64 0, .int .u32 0, .int .u32 0, .slice none 0 0] 29)).alloc (.cells (strV (v :: r)).toArray 9)).cell? ⟨w.heap.size + 1, 0, none⟩ = some (.string ⟨v.toArray⟩) := by
    obtain ⟨b3, o3, he, hc⟩ := RowAt.made (w.alloc (.cells #[.int .i64 0, .int .i64 0, .int .i64 0, .int .i64 0, .int .i64 0, .int .i64 0, .int .u32 0, .int .u32 0, .slice none 0 0] 29)) (strV (v :: r)) 9 0 _ rfl
    injection he with he
    injection he with e1 e2 e3
    subst e1 e2
    simpa using hc
  obtain ⟨W1, hW1⟩ : ∃ W1, ((w.alloc (.cells #[.int .i64 0, .int .i64 0, .int .i64 0, .int .i64 0, .int .i64 0, .int .i64 0, .int .u32 0, .int .u32 0, .slice none 0 0] 29)).alloc (.cells (strV (v :: r)).toArray 9)) = W1 := ⟨_, rfl⟩
  rw [hW1] at CS hb1 hxz hs0
  have HX := Lib.hid (And.intro hb1 hxz)
  have CS := Lib.hid CS
  have CK := Lib.hid CK
  have C1 := CF W1 hW1.symm
  have hx1 : BoxF (W1.setCell ⟨w.heap.size, 0, none⟩ (.int .i64 3)) w.heap.size [.int .i64 3, .int .i64 0, .int .i64 0, .int .i64 0, .int .i64 0, .int .i64 0, .int .u32 0, .int .u32 0, .slice none 0 0] := hxz.put 0 (by simp) (.int .i64 3)
  have hbs := hb1.setCell (p := ⟨w.heap.size, 0, none⟩) (Nat.le_refl _) (.int .i64 3)
  unfold FatedPost at C1
  have C1 := Lib.hid (And.intro C1 (And.intro hx1 hbs))
  clear hb1 hxz hW1 hx1 hbs CF
  go_enter Tryd.func27, Tryd.ntmps27
  go_wp2_with fail
  refine CS.out.mono ?_
  rintro e w1 ⟨rfl, hw1⟩
  subst w1
  have u0 := HX.out.2.1 0 _ rfl
  have fu0 := HX.out.2.2 0 (by simp)
  have u1 := HX.out.2.1 1 _ rfl
  have fu1 := HX.out.2.2 1 (by simp)
  have u2 := HX.out.2.1 2 _ rfl
  have fu2 := HX.out.2.2 2 (by simp)
  have u3 := HX.out.2.1 3 _ rfl
  have fu3 := HX.out.2.2 3 (by simp)
  have u4 := HX.out.2.1 4 _ rfl
  have fu4 := HX.out.2.2 4 (by simp)
  have u5 := HX.out.2.1 5 _ rfl
  have fu5 := HX.out.2.2 5 (by simp)
  have u6 := HX.out.2.1 6 _ rfl
  have fu6 := HX.out.2.2 6 (by simp)
  have u7 := HX.out.2.1 7 _ rfl
  have fu7 := HX.out.2.2 7 (by simp)
  have u8 := HX.out.2.1 8 _ rfl
  have fu8 := HX.out.2.2 8 (by simp)
  go_wp2_with fail
  refine (CK.out _).mono ?_
  rintro e w1 ⟨rfl, hw1⟩
  subst w1
  go_wp2_with fail
  refine C1.out.1.mono ?_
  rintro e w2 ⟨f, rfl, hfo, hq⟩
  have hxb := C1.out.2.1.keep hq
  clear u0 fu0 u1 fu1 u2 fu2 u3 fu3 u4 fu4 u5 fu5 u6 fu6 u7 fu7 u8 fu8
  have u0 := hxb.1 0 _ rfl
  have fu0 := hxb.2 0 (by simp)
  have u1 := hxb.1 1 _ rfl
  have fu1 := hxb.2 1 (by simp)
  have u2 := hxb.1 2 _ rfl
  have fu2 := hxb.2 2 (by simp)
  have u3 := hxb.1 3 _ rfl
  have fu3 := hxb.2 3 (by simp)
  have u4 := hxb.1 4 _ rfl
  have fu4 := hxb.2 4 (by simp)
  have u5 := hxb.1 5 _ rfl
  have fu5 := hxb.2 5 (by simp)
  have u6 := hxb.1 6 _ rfl
  have fu6 := hxb.2 6 (by simp)
  have u7 := hxb.1 7 _ rfl
  have fu7 := hxb.2 7 (by simp)
  have u8 := hxb.1 8 _ rfl
  have fu8 := hxb.2 8 (by simp)
  have HB := Lib.hid (C1.out.2.2.trans (hq.mono C1.out.2.2.size))
  obtain ⟨fk, fd, fa, fp, fb⟩ := f
  unfold Fa.cells
  have HFO := Lib.hid (And.intro hfo hxb)
  clear hfo hq hxb
  go_wp2
  refine bodyPost_ret (v := .tuple #[.agg #[.int .i64 0, .int .i64 0, .int .i64 0, .int .i64 0, .int .i64 0, .int .i64 0, .int .u32 0, .int .u32 0, .slice none 0 0], .int .i64 o.2]) (by simp (maxDischargeDepth := 8) [results, Tryd.results27, go_sem, *]) rfl ?_
  refine actPost_bad Ac0 none 0 0 o.2 rfl rfl he ?_
  · skip
    repeat (first | with_reducible refine Below.setCell ?_ (by first | exact Nat.le_refl _ | exact Nat.le_succ _) _ | with_reducible refine Below.drew ?_ | with_reducible refine below_drewN ?_ _)
    exact HB.out
set_option maxHeartbeats 3200000 in
set_option maxRecDepth 100000 in
theorem one_3_ng (s : ByteArray) (v : List UInt8) (r : List (List UInt8)) (N : Nat) (hN : (v :: r).length = N) (hNb : N ≤ 1048577) (w : World)
    (CS : Calls Tryd.prog 26 #[.string s, .string ⟨#[32]⟩] (w.alloc (.cells #[.int .i64 0, .int .i64 0, .int .i64 0, .int .i64 0, .int .i64 0, .int .i64 0, .int .u32 0, .int .u32 0, .slice none 0 0] 29)) fun e w' => e = .returned (.slice (some ⟨w.heap.size + 1, 0, none⟩) N N) ∧ w' = ((w.alloc (.cells #[.int .i64 0, .int .i64 0, .int .i64 0, .int .i64 0, .int .i64 0, .int .i64 0, .int .u32 0, .int .u32 0, .slice none 0 0] 29)).alloc (.cells (strV (v :: r)).toArray 9)))
    (k : Int) (CK : ∀ W, Calls Tryd.prog 38 #[.string ⟨v.toArray⟩] W fun e w' => e = .returned (.int .i64 k) ∧ W = w')
    (A1 : Option Addr) (hsl : ∀ W, (Instr.slice 56 (.slice (some ⟨w.heap.size + 1, 0, none⟩) N N) (some (.int .i64 1)) none none).run Tryd.prog W = .ok (.slice A1 (N - 1) (N - 1)) W) (q0 : k = 3) (fo : Fa) (CF : ∀ W, W = ((w.alloc (.cells #[.int .i64 0, .int .i64 0, .int .i64 0, .int .i64 0, .int .i64 0, .int .i64 0, .int .u32 0, .int .u32 0, .slice none 0 0] 29)).alloc (.cells (strV (v :: r)).toArray 9)) → Calls Tryd.prog 39 #[.slice A1 (N - 1) (N - 1)] (W.setCell ⟨w.heap.size, 0, none⟩ (.int .i64 3)) (FatedPost (fo, 0) (W.setCell ⟨w.heap.size, 0, none⟩ (.int .i64 3)))) (vg : Bool) (hvg : goodA ⟨3, 0, 0, fo, []⟩ = vg) (hv : vg = false) :
    Calls Tryd.prog 27 #[.string s] w (ActPost (Ac0, 2) w) := by
  obtain ⟨hz, hsz⟩ := zero_of_info (show (Tryd.prog.info? 29).map (fun i => (i.zero, i.size)) = some (some (.agg #[.int .i64 0, .int .i64 0, .int .i64 0, .int .i64 0, .int .i64 0, .int .i64 0, .int .u32 0, .int .u32 0, .slice none 0 0]), 9) by kernel_rfl)
  subst hv
  subst q0
  have hN1 : (0 : Int) < (N : Int) := by rw [← hN]; simp
  have hb1 : Below w.heap.size w ((w.alloc (.cells #[.int .i64 0, .int .i64 0, .int .i64 0, .int .i64 0, .int .i64 0, .int .i64 0, .int .u32 0, .int .u32 0, .slice none 0 0] 29)).alloc (.cells (strV (v :: r)).toArray 9)) := ((Below.refl _ _).alloc (Nat.le_refl _) _).alloc (by simp) _
  have hxz : BoxF ((w.alloc (.cells #[.int .i64 0, .int .i64 0, .int .i64 0, .int .i64 0, .int .i64 0, .int .i64 0, .int .u32 0, .int .u32 0, .slice none 0 0] 29)).alloc (.cells (strV (v :: r)).toArray 9)) w.heap.size [.int .i64 0, .int .i64 0, .int .i64 0, .int .i64 0, .int .i64 0, .int .i64 0, .int .u32 0, .int .u32 0, .slice none 0 0] := BoxF.keep (boxF_made w [.int .i64 0, .int .i64 0, .int .i64 0, .int .i64 0, .int .i64 0, .int .i64 0, .int .u32 0, .int .u32 0, .slice none 0 0] 29) ((Below.refl _ _).alloc (Nat.le_refl _) _)
  have hs0 : ((w.alloc (.cells #[.int .i64 0, .int .i64 0, .int .i64 0, .int .i64 0, .int .i64 0, .int .i64 0, .int .u32 0, .int .u32 0, .slice none 0 0] 29)).alloc (.cells (strV (v :: r)).toArray 9)).cell? ⟨w.heap.size + 1, 0, none⟩ = some (.string ⟨v.toArray⟩) := by
    obtain ⟨b3, o3, he, hc⟩ := RowAt.made (w.alloc (.cells #[.int .i64 0, .int .i64 0, .int .i64 0, .int .i64 0, .int .i64 0, .int .i64 0, .int .u32 0, .int .u32 0, .slice none 0 0] 29)) (strV (v :: r)) 9 0 _ rfl
    injection he with he
    injection he with e1 e2 e3
    subst e1 e2
    simpa using hc
  obtain ⟨W1, hW1⟩ : ∃ W1, ((w.alloc (.cells #[.int .i64 0, .int .i64 0, .int .i64 0, .int .i64 0, .int .i64 0, .int .i64 0, .int .u32 0, .int .u32 0, .slice none 0 0] 29)).alloc (.cells (strV (v :: r)).toArray 9)) = W1 := ⟨_, rfl⟩
  rw [hW1] at CS hb1 hxz hs0
  have HX := Lib.hid (And.intro hb1 hxz)
  have CS := Lib.hid CS
  have CK := Lib.hid CK
  have C1 := CF W1 hW1.symm
  have hx1 : BoxF (W1.setCell ⟨w.heap.size, 0, none⟩ (.int .i64 3)) w.heap.size [.int .i64 3, .int .i64 0, .int .i64 0, .int .i64 0, .int .i64 0, .int .i64 0, .int .u32 0, .int .u32 0, .slice none 0 0] := hxz.put 0 (by simp) (.int .i64 3)
  have hbs := hb1.setCell (p := ⟨w.heap.size, 0, none⟩) (Nat.le_refl _) (.int .i64 3)
  unfold FatedPost at C1
  have C1 := Lib.hid (And.intro C1 (And.intro hx1 hbs))
  clear hb1 hxz hW1 hx1 hbs CF
  go_enter Tryd.func27, Tryd.ntmps27
  go_wp2_with fail
  refine CS.out.mono ?_
  rintro e w1 ⟨rfl, hw1⟩
  subst w1
  have u0 := HX.out.2.1 0 _ rfl
  have fu0 := HX.out.2.2 0 (by simp)
  have u1 := HX.out.2.1 1 _ rfl
  have fu1 := HX.out.2.2 1 (by simp)
  have u2 := HX.out.2.1 2 _ rfl
  have fu2 := HX.out.2.2 2 (by simp)
  have u3 := HX.out.2.1 3 _ rfl
  have fu3 := HX.out.2.2 3 (by simp)
  have u4 := HX.out.2.1 4 _ rfl
  have fu4 := HX.out.2.2 4 (by simp)
  have u5 := HX.out.2.1 5 _ rfl
  have fu5 := HX.out.2.2 5 (by simp)
  have u6 := HX.out.2.1 6 _ rfl
  have fu6 := HX.out.2.2 6 (by simp)
  have u7 := HX.out.2.1 7 _ rfl
  have fu7 := HX.out.2.2 7 (by simp)
  have u8 := HX.out.2.1 8 _ rfl
  have fu8 := HX.out.2.2 8 (by simp)
  go_wp2_with fail
  refine (CK.out _).mono ?_
  rintro e w1 ⟨rfl, hw1⟩
  subst w1
  go_wp2_with fail
  refine C1.out.1.mono ?_
  rintro e w2 ⟨f, rfl, hfo, hq⟩
  have hxb := C1.out.2.1.keep hq
  clear u0 fu0 u1 fu1 u2 fu2 u3 fu3 u4 fu4 u5 fu5 u6 fu6 u7 fu7 u8 fu8
  have u0 := hxb.1 0 _ rfl
  have fu0 := hxb.2 0 (by simp)
  have u1 := hxb.1 1 _ rfl
  have fu1 := hxb.2 1 (by simp)
  have u2 := hxb.1 2 _ rfl
  have fu2 := hxb.2 2 (by simp)
  have u3 := hxb.1 3 _ rfl
  have fu3 := hxb.2 3 (by simp)
  have u4 := hxb.1 4 _ rfl
  have fu4 := hxb.2 4 (by simp)
  have u5 := hxb.1 5 _ rfl
  have fu5 := hxb.2 5 (by simp)
  have u6 := hxb.1 6 _ rfl
  have fu6 := hxb.2 6 (by simp)
  have u7 := hxb.1 7 _ rfl
  have fu7 := hxb.2 7 (by simp)
  have u8 := hxb.1 8 _ rfl
  have fu8 := hxb.2 8 (by simp)
  have HB := Lib.hid (C1.out.2.2.trans (hq.mono C1.out.2.2.size))
  obtain ⟨fk, fd, fa, fp, fb⟩ := f
  unfold Fa.cells
  have HFO := Lib.hid (And.intro hfo hxb)
  clear hfo hq hxb
  obtain rfl : (⟨fk, fd, fa, fp, fb⟩ : Fa) = fo := HFO.out.1 trivial
  have CG := fun W => scriptGoodV ⟨3, 0, 0, ⟨fk, fd, fa, fp, fb⟩, []⟩ none 0 0 false hvg W (U8At.nil _ _) rfl
  unfold Ac.cells at CG
  have CG := Lib.hid CG
  have hxs : BoxF (((((w2.setCell ⟨w.heap.size, 3, none⟩ (.int .i64 fk)).setCell ⟨w.heap.size, 4, none⟩ (.int .i64 fd)).setCell ⟨w.heap.size, 5, none⟩ (.int .i64 fa)).setCell ⟨w.heap.size, 6, none⟩ (.int .u32 (fp : Int))).setCell ⟨w.heap.size, 7, none⟩ (.int .u32 (fb : Int))) w.heap.size [.int .i64 3, .int .i64 0, .int .i64 0, .int .i64 fk, .int .i64 fd, .int .i64 fa, .int .u32 (fp : Int), .int .u32 (fb : Int), .slice none 0 0] := ((((HFO.out.2.put 3 (by simp) (.int .i64 fk)).put 4 (by simp) (.int .i64 fd)).put 5 (by simp) (.int .i64 fa)).put 6 (by simp) (.int .u32 (fp : Int))).put 7 (by simp) (.int .u32 (fb : Int))
  have hbs : Below w.heap.size w (((((w2.setCell ⟨w.heap.size, 3, none⟩ (.int .i64 fk)).setCell ⟨w.heap.size, 4, none⟩ (.int .i64 fd)).setCell ⟨w.heap.size, 5, none⟩ (.int .i64 fa)).setCell ⟨w.heap.size, 6, none⟩ (.int .u32 (fp : Int))).setCell ⟨w.heap.size, 7, none⟩ (.int .u32 (fb : Int))) := ((((HB.out.setCell (p := ⟨w.heap.size, 3, none⟩) (Nat.le_refl _) _).setCell (p := ⟨w.heap.size, 4, none⟩) (Nat.le_refl _) _).setCell (p := ⟨w.heap.size, 5, none⟩) (Nat.le_refl _) _).setCell (p := ⟨w.heap.size, 6, none⟩) (Nat.le_refl _) _).setCell (p := ⟨w.heap.size, 7, none⟩) (Nat.le_refl _) _
  have HS := Lib.hid (And.intro hxs hbs)
  clear hxs hbs
  go_wp2_with fail
  refine (CG.out _).mono ?_
  rintro e w3 ⟨rfl, hq3⟩
  have hx3 := HS.out.1.keep hq3
  have HB := Lib.hid (HS.out.2.trans (hq3.mono HS.out.2.size))
  clear u0 fu0 u1 fu1 u2 fu2 u3 fu3 u4 fu4 u5 fu5 u6 fu6 u7 fu7 u8 fu8
  have u0 := hx3.1 0 _ rfl
  have fu0 := hx3.2 0 (by simp)
  have u1 := hx3.1 1 _ rfl
  have fu1 := hx3.2 1 (by simp)
  have u2 := hx3.1 2 _ rfl
  have fu2 := hx3.2 2 (by simp)
  have u3 := hx3.1 3 _ rfl
  have fu3 := hx3.2 3 (by simp)
  have u4 := hx3.1 4 _ rfl
  have fu4 := hx3.2 4 (by simp)
  have u5 := hx3.1 5 _ rfl
  have fu5 := hx3.2 5 (by simp)
  have u6 := hx3.1 6 _ rfl
  have fu6 := hx3.2 6 (by simp)
  have u7 := hx3.1 7 _ rfl
  have fu7 := hx3.2 7 (by simp)
  have u8 := hx3.1 8 _ rfl
  have fu8 := hx3.2 8 (by simp)
  clear hq3 hx3
  go_wp2
  refine bodyPost_ret (v := .tuple #[.agg #[.int .i64 0, .int .i64 0, .int .i64 0, .int .i64 0, .int .i64 0, .int .i64 0, .int .u32 0, .int .u32 0, .slice none 0 0], .int .i64 2]) (by simp (maxDischargeDepth := 8) [results, Tryd.results27, go_sem, *]) rfl ?_
  refine actPost_bad Ac0 none 0 0 2 rfl rfl (by decide) ?_
  · skip
    repeat (first | with_reducible refine Below.setCell ?_ (by first | exact Nat.le_refl _ | exact Nat.le_succ _) _ | with_reducible refine Below.drew ?_ | with_reducible refine below_drewN ?_ _)
    exact HB.out
set_option maxHeartbeats 3200000 in
set_option maxRecDepth 100000 in
theorem one_3_ok (s : ByteArray) (v : List UInt8) (r : List (List UInt8)) (N : Nat) (hN : (v :: r).length = N) (hNb : N ≤ 1048577) (w : World)
    (CS : Calls Tryd.prog 26 #[.string s, .string ⟨#[32]⟩] (w.alloc (.cells #[.int .i64 0, .int .i64 0, .int .i64 0, .int .i64 0, .int .i64 0, .int .i64 0, .int .u32 0, .int .u32 0, .slice none 0 0] 29)) fun e w' => e = .returned (.slice (some ⟨w.heap.size + 1, 0, none⟩) N N) ∧ w' = ((w.alloc (.cells #[.int .i64 0, .int .i64 0, .int .i64 0, .int .i64 0, .int .i64 0, .int .i64 0, .int .u32 0, .int .u32 0, .slice none 0 0] 29)).alloc (.cells (strV (v :: r)).toArray 9)))
    (k : Int) (CK : ∀ W, Calls Tryd.prog 38 #[.string ⟨v.toArray⟩] W fun e w' => e = .returned (.int .i64 k) ∧ W = w')
    (A1 : Option Addr) (hsl : ∀ W, (Instr.slice 56 (.slice (some ⟨w.heap.size + 1, 0, none⟩) N N) (some (.int .i64 1)) none none).run Tryd.prog W = .ok (.slice A1 (N - 1) (N - 1)) W) (q0 : k = 3) (fo : Fa) (CF : ∀ W, W = ((w.alloc (.cells #[.int .i64 0, .int .i64 0, .int .i64 0, .int .i64 0, .int .i64 0, .int .i64 0, .int .u32 0, .int .u32 0, .slice none 0 0] 29)).alloc (.cells (strV (v :: r)).toArray 9)) → Calls Tryd.prog 39 #[.slice A1 (N - 1) (N - 1)] (W.setCell ⟨w.heap.size, 0, none⟩ (.int .i64 3)) (FatedPost (fo, 0) (W.setCell ⟨w.heap.size, 0, none⟩ (.int .i64 3)))) (vg : Bool) (hvg : goodA ⟨3, 0, 0, fo, []⟩ = vg) (hv : vg = true) :
    Calls Tryd.prog 27 #[.string s] w (ActPost (⟨3, 0, 0, fo, []⟩, 0) w) := by
  obtain ⟨hz, hsz⟩ := zero_of_info (show (Tryd.prog.info? 29).map (fun i => (i.zero, i.size)) = some (some (.agg #[.int .i64 0, .int .i64 0, .int .i64 0, .int .i64 0, .int .i64 0, .int .i64 0, .int .u32 0, .int .u32 0, .slice none 0 0]), 9) by kernel_rfl)
  subst hv
  subst q0
  have hN1 : (0 : Int) < (N : Int) := by rw [← hN]; simp
  have hb1 : Below w.heap.size w ((w.alloc (.cells #[.int .i64 0, .int .i64 0, .int .i64 0, .int .i64 0, .int .i64 0, .int .i64 0, .int .u32 0, .int .u32 0, .slice none 0 0] 29)).alloc (.cells (strV (v :: r)).toArray 9)) := ((Below.refl _ _).alloc (Nat.le_refl _) _).alloc (by simp) _
  have hxz : BoxF ((w.alloc (.cells #[.int .i64 0, .int .i64 0, .int .i64 0, .int .i64 0, .int .i64 0, .int .i64 0, .int .u32 0, .int .u32 0, .slice none 0 0] 29)).alloc (.cells (strV (v :: r)).toArray 9)) w.heap.size [.int .i64 0, .int .i64 0, .int .i64 0, .int .i64 0, .int .i64 0, .int .i64 0, .int .u32 0, .int .u32 0, .slice none 0 0] := BoxF.keep (boxF_made w [.int .i64 0, .int .i64 0, .int .i64 0, .int .i64 0, .int .i64 0, .int .i64 0, .int .u32 0, .int .u32 0, .slice none 0 0] 29) ((Below.refl _ _).alloc (Nat.le_refl _) _)
  have hs0 : ((w.alloc (.cells #[.int .i64 0, .int .i64 0, .int .i64 0, .int .i64 0, .int .i64 0, .int .i64 0, .int .u32 0, .int .u32 0, .slice none 0 0] 29)).alloc (.cells (strV (v :: r)).toArray 9)).cell? ⟨w.heap.size + 1, 0, none⟩ = some (.string ⟨v.toArray⟩) := by
    obtain ⟨b3, o3, he, hc⟩ := RowAt.made (w.alloc (.cells #[.int .i64 0, .int .i64 0, .int .i64 0, .int .i64 0, .int .i64 0, .int .i64 0, .int .u32 0, .int .u32 0, .slice none 0 0] 29)) (strV (v :: r)) 9 0 _ rfl
    injection he with he
    injection he with e1 e2 e3
    subst e1 e2
    simpa using hc
  obtain ⟨W1, hW1⟩ : ∃ W1, ((w.alloc (.cells #[.int .i64 0, .int .i64 0, .int .i64 0, .int .i64 0, .int .i64 0, .int .i64 0, .int .u32 0, .int .u32 0, .slice none 0 0] 29)).alloc (.cells (strV (v :: r)).toArray 9)) = W1 := ⟨_, rfl⟩
  rw [hW1] at CS hb1 hxz hs0
  have HX := Lib.hid (And.intro hb1 hxz)
  have CS := Lib.hid CS
  have CK := Lib.hid CK
  have C1 := CF W1 hW1.symm
  have hx1 : BoxF (W1.setCell ⟨w.heap.size, 0, none⟩ (.int .i64 3)) w.heap.size [.int .i64 3, .int .i64 0, .int .i64 0, .int .i64 0, .int .i64 0, .int .i64 0, .int .u32 0, .int .u32 0, .slice none 0 0] := hxz.put 0 (by simp) (.int .i64 3)
  have hbs := hb1.setCell (p := ⟨w.heap.size, 0, none⟩) (Nat.le_refl _) (.int .i64 3)
  unfold FatedPost at C1
  have C1 := Lib.hid (And.intro C1 (And.intro hx1 hbs))
  clear hb1 hxz hW1 hx1 hbs CF
  go_enter Tryd.func27, Tryd.ntmps27
  go_wp2_with fail
  refine CS.out.mono ?_
  rintro e w1 ⟨rfl, hw1⟩
  subst w1
  have u0 := HX.out.2.1 0 _ rfl
  have fu0 := HX.out.2.2 0 (by simp)
  have u1 := HX.out.2.1 1 _ rfl
  have fu1 := HX.out.2.2 1 (by simp)
  have u2 := HX.out.2.1 2 _ rfl
  have fu2 := HX.out.2.2 2 (by simp)
  have u3 := HX.out.2.1 3 _ rfl
  have fu3 := HX.out.2.2 3 (by simp)
  have u4 := HX.out.2.1 4 _ rfl
  have fu4 := HX.out.2.2 4 (by simp)
  have u5 := HX.out.2.1 5 _ rfl
  have fu5 := HX.out.2.2 5 (by simp)
  have u6 := HX.out.2.1 6 _ rfl
  have fu6 := HX.out.2.2 6 (by simp)
  have u7 := HX.out.2.1 7 _ rfl
  have fu7 := HX.out.2.2 7 (by simp)
  have u8 := HX.out.2.1 8 _ rfl
  have fu8 := HX.out.2.2 8 (by simp)
  go_wp2_with fail
  refine (CK.out _).mono ?_
  rintro e w1 ⟨rfl, hw1⟩
  subst w1
  go_wp2_with fail
  refine C1.out.1.mono ?_
  rintro e w2 ⟨f, rfl, hfo, hq⟩
  have hxb := C1.out.2.1.keep hq
  clear u0 fu0 u1 fu1 u2 fu2 u3 fu3 u4 fu4 u5 fu5 u6 fu6 u7 fu7 u8 fu8
  have u0 := hxb.1 0 _ rfl
  have fu0 := hxb.2 0 (by simp)
  have u1 := hxb.1 1 _ rfl
  have fu1 := hxb.2 1 (by simp)
  have u2 := hxb.1 2 _ rfl
  have fu2 := hxb.2 2 (by simp)
  have u3 := hxb.1 3 _ rfl
  have fu3 := hxb.2 3 (by simp)
  have u4 := hxb.1 4 _ rfl
  have fu4 := hxb.2 4 (by simp)
  have u5 := hxb.1 5 _ rfl
  have fu5 := hxb.2 5 (by simp)
  have u6 := hxb.1 6 _ rfl
  have fu6 := hxb.2 6 (by simp)
  have u7 := hxb.1 7 _ rfl
  have fu7 := hxb.2 7 (by simp)
  have u8 := hxb.1 8 _ rfl
  have fu8 := hxb.2 8 (by simp)
  have HB := Lib.hid (C1.out.2.2.trans (hq.mono C1.out.2.2.size))
  obtain ⟨fk, fd, fa, fp, fb⟩ := f
  unfold Fa.cells
  have HFO := Lib.hid (And.intro hfo hxb)
  clear hfo hq hxb
  obtain rfl : (⟨fk, fd, fa, fp, fb⟩ : Fa) = fo := HFO.out.1 trivial
  have CG := fun W => scriptGoodV ⟨3, 0, 0, ⟨fk, fd, fa, fp, fb⟩, []⟩ none 0 0 true hvg W (U8At.nil _ _) rfl
  unfold Ac.cells at CG
  have CG := Lib.hid CG
  have hxs : BoxF (((((w2.setCell ⟨w.heap.size, 3, none⟩ (.int .i64 fk)).setCell ⟨w.heap.size, 4, none⟩ (.int .i64 fd)).setCell ⟨w.heap.size, 5, none⟩ (.int .i64 fa)).setCell ⟨w.heap.size, 6, none⟩ (.int .u32 (fp : Int))).setCell ⟨w.heap.size, 7, none⟩ (.int .u32 (fb : Int))) w.heap.size [.int .i64 3, .int .i64 0, .int .i64 0, .int .i64 fk, .int .i64 fd, .int .i64 fa, .int .u32 (fp : Int), .int .u32 (fb : Int), .slice none 0 0] := ((((HFO.out.2.put 3 (by simp) (.int .i64 fk)).put 4 (by simp) (.int .i64 fd)).put 5 (by simp) (.int .i64 fa)).put 6 (by simp) (.int .u32 (fp : Int))).put 7 (by simp) (.int .u32 (fb : Int))
  have hbs : Below w.heap.size w (((((w2.setCell ⟨w.heap.size, 3, none⟩ (.int .i64 fk)).setCell ⟨w.heap.size, 4, none⟩ (.int .i64 fd)).setCell ⟨w.heap.size, 5, none⟩ (.int .i64 fa)).setCell ⟨w.heap.size, 6, none⟩ (.int .u32 (fp : Int))).setCell ⟨w.heap.size, 7, none⟩ (.int .u32 (fb : Int))) := ((((HB.out.setCell (p := ⟨w.heap.size, 3, none⟩) (Nat.le_refl _) _).setCell (p := ⟨w.heap.size, 4, none⟩) (Nat.le_refl _) _).setCell (p := ⟨w.heap.size, 5, none⟩) (Nat.le_refl _) _).setCell (p := ⟨w.heap.size, 6, none⟩) (Nat.le_refl _) _).setCell (p := ⟨w.heap.size, 7, none⟩) (Nat.le_refl _) _
  have HS := Lib.hid (And.intro hxs hbs)
  clear hxs hbs
  go_wp2_with fail
  refine (CG.out _).mono ?_
  rintro e w3 ⟨rfl, hq3⟩
  have hx3 := HS.out.1.keep hq3
  have HB := Lib.hid (HS.out.2.trans (hq3.mono HS.out.2.size))
  clear u0 fu0 u1 fu1 u2 fu2 u3 fu3 u4 fu4 u5 fu5 u6 fu6 u7 fu7 u8 fu8
  have u0 := hx3.1 0 _ rfl
  have fu0 := hx3.2 0 (by simp)
  have u1 := hx3.1 1 _ rfl
  have fu1 := hx3.2 1 (by simp)
  have u2 := hx3.1 2 _ rfl
  have fu2 := hx3.2 2 (by simp)
  have u3 := hx3.1 3 _ rfl
  have fu3 := hx3.2 3 (by simp)
  have u4 := hx3.1 4 _ rfl
  have fu4 := hx3.2 4 (by simp)
  have u5 := hx3.1 5 _ rfl
  have fu5 := hx3.2 5 (by simp)
  have u6 := hx3.1 6 _ rfl
  have fu6 := hx3.2 6 (by simp)
  have u7 := hx3.1 7 _ rfl
  have fu7 := hx3.2 7 (by simp)
  have u8 := hx3.1 8 _ rfl
  have fu8 := hx3.2 8 (by simp)
  clear hq3 hx3
  go_wp2
  refine bodyPost_ret (v := .tuple #[.agg #[.int .i64 3, .int .i64 0, .int .i64 0, .int .i64 fk, .int .i64 fd, .int .i64 fa, .int .u32 (fp : Int), .int .u32 (fb : Int), .slice none 0 0], .int .i64 0]) (by simp (maxDischargeDepth := 8) [results, Tryd.results27, go_sem, *]) rfl ?_
  refine actPost_ok ⟨3, 0, 0, ⟨fk, fd, fa, fp, fb⟩, []⟩ none 0 0 rfl rfl rfl rfl (own_nil _ _) ?_
  · skip
    repeat (first | with_reducible refine Below.setCell ?_ (by first | exact Nat.le_refl _ | exact Nat.le_succ _) _ | with_reducible refine Below.drew ?_ | with_reducible refine below_drewN ?_ _)
    exact HB.out
set_option maxHeartbeats 3200000 in
set_option maxRecDepth 100000 in
theorem one_k_bad (s : ByteArray) (v : List UInt8) (r : List (List UInt8)) (N : Nat) (hN : (v :: r).length = N) (hNb : N ≤ 1048577) (w : World)
    (CS : Calls Tryd.prog 26 #[.string s, .string ⟨#[32]⟩] (w.alloc (.cells #[.int .i64 0, .int .i64 0, .int .i64 0, .int .i64 0, .int .i64 0, .int .i64 0, .int .u32 0, .int .u32 0, .slice none 0 0] 29)) fun e w' => e = .returned (.slice (some ⟨w.heap.size + 1, 0, none⟩) N N) ∧ w' = ((w.alloc (.cells #[.int .i64 0, .int .i64 0, .int .i64 0, .int .i64 0, .int .i64 0, .int .i64 0, .int .u32 0, .int .u32 0, .slice none 0 0] 29)).alloc (.cells (strV (v :: r)).toArray 9)))
    (k : Int) (CK : ∀ W, Calls Tryd.prog 38 #[.string ⟨v.toArray⟩] W fun e w' => e = .returned (.int .i64 k) ∧ W = w')
    (A1 : Option Addr) (hsl : ∀ W, (Instr.slice 56 (.slice (some ⟨w.heap.size + 1, 0, none⟩) N N) (some (.int .i64 1)) none none).run Tryd.prog W = .ok (.slice A1 (N - 1) (N - 1)) W) (q0 : (k == 0) = false) (q3 : (k == 3) = false) (ao : Ac × Int) (CA : ∀ W, W = ((w.alloc (.cells #[.int .i64 0, .int .i64 0, .int .i64 0, .int .i64 0, .int .i64 0, .int .i64 0, .int .u32 0, .int .u32 0, .slice none 0 0] 29)).alloc (.cells (strV (v :: r)).toArray 9)) → Calls Tryd.prog 40 #[.int .i64 k, .slice A1 (N - 1) (N - 1)] W (ActPost ao W)) (he : ¬ ao.2 = 0) :
    Calls Tryd.prog 27 #[.string s] w (ActPost (Ac0, ao.2) w) := by
  obtain ⟨hz, hsz⟩ := zero_of_info (show (Tryd.prog.info? 29).map (fun i => (i.zero, i.size)) = some (some (.agg #[.int .i64 0, .int .i64 0, .int .i64 0, .int .i64 0, .int .i64 0, .int .i64 0, .int .u32 0, .int .u32 0, .slice none 0 0]), 9) by kernel_rfl)
  have heb : (ao.2 != 0) = true := by simpa using he
  have hN1 : (0 : Int) < (N : Int) := by rw [← hN]; simp
  have hb1 : Below w.heap.size w ((w.alloc (.cells #[.int .i64 0, .int .i64 0, .int .i64 0, .int .i64 0, .int .i64 0, .int .i64 0, .int .u32 0, .int .u32 0, .slice none 0 0] 29)).alloc (.cells (strV (v :: r)).toArray 9)) := ((Below.refl _ _).alloc (Nat.le_refl _) _).alloc (by simp) _
  have hxz : BoxF ((w.alloc (.cells #[.int .i64 0, .int .i64 0, .int .i64 0, .int .i64 0, .int .i64 0, .int .i64 0, .int .u32 0, .int .u32 0, .slice none 0 0] 29)).alloc (.cells (strV (v :: r)).toArray 9)) w.heap.size [.int .i64 0, .int .i64 0, .int .i64 0, .int .i64 0, .int .i64 0, .int .i64 0, .int .u32 0, .int .u32 0, .slice none 0 0] := BoxF.keep (boxF_made w [.int .i64 0, .int .i64 0, .int .i64 0, .int .i64 0, .int .i64 0, .int .i64 0, .int .u32 0, .int .u32 0, .slice none 0 0] 29) ((Below.refl _ _).alloc (Nat.le_refl _) _)
  have hs0 : ((w.alloc (.cells #[.int .i64 0, .int .i64 0, .int .i64 0, .int .i64 0, .int .i64 0, .int .i64 0, .int .u32 0, .int .u32 0, .slice none 0 0] 29)).alloc (.cells (strV (v :: r)).toArray 9)).cell? ⟨w.heap.size + 1, 0, none⟩ = some (.string ⟨v.toArray⟩) := by
    obtain ⟨b3, o3, he, hc⟩ := RowAt.made (w.alloc (.cells #[.int .i64 0, .int .i64 0, .int .i64 0, .int .i64 0, .int .i64 0, .int .i64 0, .int .u32 0, .int .u32 0, .slice none 0 0] 29)) (strV (v :: r)) 9 0 _ rfl
    injection he with he
    injection he with e1 e2 e3
    subst e1 e2
    simpa using hc
  obtain ⟨W1, hW1⟩ : ∃ W1, ((w.alloc (.cells #[.int .i64 0, .int .i64 0, .int .i64 0, .int .i64 0, .int .i64 0, .int .i64 0, .int .u32 0, .int .u32 0, .slice none 0 0] 29)).alloc (.cells (strV (v :: r)).toArray 9)) = W1 := ⟨_, rfl⟩
  rw [hW1] at CS hb1 hxz hs0
  have HX := Lib.hid (And.intro hb1 hxz)
  have CS := Lib.hid CS
  have CK := Lib.hid CK
  have C1 := CA W1 hW1.symm
  have hwlt : w.heap.size < W1.heap.size := World.block_lt_of_cell? _ _ (hxz.1 0 _ rfl)
  unfold ActPost at C1
  have C1 := Lib.hid (And.intro C1 (And.intro hxz hb1))
  clear hb1 hxz hW1 CA
  go_enter Tryd.func27, Tryd.ntmps27
  go_wp2_with fail
  refine CS.out.mono ?_
  rintro e w1 ⟨rfl, hw1⟩
  subst w1
  have u0 := HX.out.2.1 0 _ rfl
  have fu0 := HX.out.2.2 0 (by simp)
  have u1 := HX.out.2.1 1 _ rfl
  have fu1 := HX.out.2.2 1 (by simp)
  have u2 := HX.out.2.1 2 _ rfl
  have fu2 := HX.out.2.2 2 (by simp)
  have u3 := HX.out.2.1 3 _ rfl
  have fu3 := HX.out.2.2 3 (by simp)
  have u4 := HX.out.2.1 4 _ rfl
  have fu4 := HX.out.2.2 4 (by simp)
  have u5 := HX.out.2.1 5 _ rfl
  have fu5 := HX.out.2.2 5 (by simp)
  have u6 := HX.out.2.1 6 _ rfl
  have fu6 := HX.out.2.2 6 (by simp)
  have u7 := HX.out.2.1 7 _ rfl
  have fu7 := HX.out.2.2 7 (by simp)
  have u8 := HX.out.2.1 8 _ rfl
  have fu8 := HX.out.2.2 8 (by simp)
  go_wp2_with fail
  refine (CK.out _).mono ?_
  rintro e w1 ⟨rfl, hw1⟩
  subst w1
  go_wp2_with fail
  refine C1.out.1.mono ?_
  rintro e w2 ⟨x, xA, xn, xc, rfl, hxo, hq⟩
  have hxb := C1.out.2.1.keep hq
  clear u0 fu0 u1 fu1 u2 fu2 u3 fu3 u4 fu4 u5 fu5 u6 fu6 u7 fu7 u8 fu8
  have u0 := hxb.1 0 _ rfl
  have fu0 := hxb.2 0 (by simp)
  have u1 := hxb.1 1 _ rfl
  have fu1 := hxb.2 1 (by simp)
  have u2 := hxb.1 2 _ rfl
  have fu2 := hxb.2 2 (by simp)
  have u3 := hxb.1 3 _ rfl
  have fu3 := hxb.2 3 (by simp)
  have u4 := hxb.1 4 _ rfl
  have fu4 := hxb.2 4 (by simp)
  have u5 := hxb.1 5 _ rfl
  have fu5 := hxb.2 5 (by simp)
  have u6 := hxb.1 6 _ rfl
  have fu6 := hxb.2 6 (by simp)
  have u7 := hxb.1 7 _ rfl
  have fu7 := hxb.2 7 (by simp)
  have u8 := hxb.1 8 _ rfl
  have fu8 := hxb.2 8 (by simp)
  have HB := Lib.hid (C1.out.2.2.trans (hq.mono C1.out.2.2.size))
  obtain ⟨xk, xi, xN, ⟨fk, fd, fa, fp, fb⟩, xb⟩ := x
  unfold Ac.cells
  have HFO := Lib.hid (And.intro hxo hxb)
  clear hxo hq hxb
  go_wp2
  refine bodyPost_ret (v := .tuple #[.agg #[.int .i64 0, .int .i64 0, .int .i64 0, .int .i64 0, .int .i64 0, .int .i64 0, .int .u32 0, .int .u32 0, .slice none 0 0], .int .i64 ao.2]) (by simp (maxDischargeDepth := 8) [results, Tryd.results27, go_sem, *]) rfl ?_
  refine actPost_bad Ac0 none 0 0 ao.2 rfl rfl he ?_
  · skip
    repeat (first | with_reducible refine Below.setCell ?_ (by first | exact Nat.le_refl _ | exact Nat.le_succ _) _ | with_reducible refine Below.drew ?_ | with_reducible refine below_drewN ?_ _)
    exact HB.out
set_option maxHeartbeats 3200000 in
set_option maxRecDepth 100000 in
theorem one_k_ng (s : ByteArray) (v : List UInt8) (r : List (List UInt8)) (N : Nat) (hN : (v :: r).length = N) (hNb : N ≤ 1048577) (w : World)
    (CS : Calls Tryd.prog 26 #[.string s, .string ⟨#[32]⟩] (w.alloc (.cells #[.int .i64 0, .int .i64 0, .int .i64 0, .int .i64 0, .int .i64 0, .int .i64 0, .int .u32 0, .int .u32 0, .slice none 0 0] 29)) fun e w' => e = .returned (.slice (some ⟨w.heap.size + 1, 0, none⟩) N N) ∧ w' = ((w.alloc (.cells #[.int .i64 0, .int .i64 0, .int .i64 0, .int .i64 0, .int .i64 0, .int .i64 0, .int .u32 0, .int .u32 0, .slice none 0 0] 29)).alloc (.cells (strV (v :: r)).toArray 9)))
    (k : Int) (CK : ∀ W, Calls Tryd.prog 38 #[.string ⟨v.toArray⟩] W fun e w' => e = .returned (.int .i64 k) ∧ W = w')
    (A1 : Option Addr) (hsl : ∀ W, (Instr.slice 56 (.slice (some ⟨w.heap.size + 1, 0, none⟩) N N) (some (.int .i64 1)) none none).run Tryd.prog W = .ok (.slice A1 (N - 1) (N - 1)) W) (q0 : (k == 0) = false) (q3 : (k == 3) = false) (xo : Ac) (CA : ∀ W, W = ((w.alloc (.cells #[.int .i64 0, .int .i64 0, .int .i64 0, .int .i64 0, .int .i64 0, .int .i64 0, .int .u32 0, .int .u32 0, .slice none 0 0] 29)).alloc (.cells (strV (v :: r)).toArray 9)) → Calls Tryd.prog 40 #[.int .i64 k, .slice A1 (N - 1) (N - 1)] W (ActPost (xo, 0) W)) (vg : Bool) (hvg : goodA xo = vg) (hv : vg = false) :
    Calls Tryd.prog 27 #[.string s] w (ActPost (Ac0, 2) w) := by
  obtain ⟨hz, hsz⟩ := zero_of_info (show (Tryd.prog.info? 29).map (fun i => (i.zero, i.size)) = some (some (.agg #[.int .i64 0, .int .i64 0, .int .i64 0, .int .i64 0, .int .i64 0, .int .i64 0, .int .u32 0, .int .u32 0, .slice none 0 0]), 9) by kernel_rfl)
  subst hv
  have hN1 : (0 : Int) < (N : Int) := by rw [← hN]; simp
  have hb1 : Below w.heap.size w ((w.alloc (.cells #[.int .i64 0, .int .i64 0, .int .i64 0, .int .i64 0, .int .i64 0, .int .i64 0, .int .u32 0, .int .u32 0, .slice none 0 0] 29)).alloc (.cells (strV (v :: r)).toArray 9)) := ((Below.refl _ _).alloc (Nat.le_refl _) _).alloc (by simp) _
  have hxz : BoxF ((w.alloc (.cells #[.int .i64 0, .int .i64 0, .int .i64 0, .int .i64 0, .int .i64 0, .int .i64 0, .int .u32 0, .int .u32 0, .slice none 0 0] 29)).alloc (.cells (strV (v :: r)).toArray 9)) w.heap.size [.int .i64 0, .int .i64 0, .int .i64 0, .int .i64 0, .int .i64 0, .int .i64 0, .int .u32 0, .int .u32 0, .slice none 0 0] := BoxF.keep (boxF_made w [.int .i64 0, .int .i64 0, .int .i64 0, .int .i64 0, .int .i64 0, .int .i64 0, .int .u32 0, .int .u32 0, .slice none 0 0] 29) ((Below.refl _ _).alloc (Nat.le_refl _) _)
  have hs0 : ((w.alloc (.cells #[.int .i64 0, .int .i64 0, .int .i64 0, .int .i64 0, .int .i64 0, .int .i64 0, .int .u32 0, .int .u32 0, .slice none 0 0] 29)).alloc (.cells (strV (v :: r)).toArray 9)).cell? ⟨w.heap.size + 1, 0, none⟩ = some (.string ⟨v.toArray⟩) := by
    obtain ⟨b3, o3, he, hc⟩ := RowAt.made (w.alloc (.cells #[.int .i64 0, .int .i64 0, .int .i64 0, .int .i64 0, .int .i64 0, .int .i64 0, .int .u32 0, .int .u32 0, .slice none 0 0] 29)) (strV (v :: r)) 9 0 _ rfl
    injection he with he
    injection he with e1 e2 e3
    subst e1 e2
    simpa using hc
  obtain ⟨W1, hW1⟩ : ∃ W1, ((w.alloc (.cells #[.int .i64 0, .int .i64 0, .int .i64 0, .int .i64 0, .int .i64 0, .int .i64 0, .int .u32 0, .int .u32 0, .slice none 0 0] 29)).alloc (.cells (strV (v :: r)).toArray 9)) = W1 := ⟨_, rfl⟩
  rw [hW1] at CS hb1 hxz hs0
  have HX := Lib.hid (And.intro hb1 hxz)
  have CS := Lib.hid CS
  have CK := Lib.hid CK
  have C1 := CA W1 hW1.symm
  have hwlt : w.heap.size < W1.heap.size := World.block_lt_of_cell? _ _ (hxz.1 0 _ rfl)
  unfold ActPost at C1
  have C1 := Lib.hid (And.intro C1 (And.intro hxz hb1))
  clear hb1 hxz hW1 CA
  go_enter Tryd.func27, Tryd.ntmps27
  go_wp2_with fail
  refine CS.out.mono ?_
  rintro e w1 ⟨rfl, hw1⟩
  subst w1
  have u0 := HX.out.2.1 0 _ rfl
  have fu0 := HX.out.2.2 0 (by simp)
  have u1 := HX.out.2.1 1 _ rfl
  have fu1 := HX.out.2.2 1 (by simp)
  have u2 := HX.out.2.1 2 _ rfl
  have fu2 := HX.out.2.2 2 (by simp)
  have u3 := HX.out.2.1 3 _ rfl
  have fu3 := HX.out.2.2 3 (by simp)
  have u4 := HX.out.2.1 4 _ rfl
  have fu4 := HX.out.2.2 4 (by simp)
  have u5 := HX.out.2.1 5 _ rfl
  have fu5 := HX.out.2.2 5 (by simp)
  have u6 := HX.out.2.1 6 _ rfl
  have fu6 := HX.out.2.2 6 (by simp)
  have u7 := HX.out.2.1 7 _ rfl
  have fu7 := HX.out.2.2 7 (by simp)
  have u8 := HX.out.2.1 8 _ rfl
  have fu8 := HX.out.2.2 8 (by simp)
  go_wp2_with fail
  refine (CK.out _).mono ?_
  rintro e w1 ⟨rfl, hw1⟩
  subst w1
  go_wp2_with fail
  refine C1.out.1.mono ?_
  rintro e w2 ⟨x, xA, xn, xc, rfl, hxo, hq⟩
  have hxb := C1.out.2.1.keep hq
  clear u0 fu0 u1 fu1 u2 fu2 u3 fu3 u4 fu4 u5 fu5 u6 fu6 u7 fu7 u8 fu8
  have u0 := hxb.1 0 _ rfl
  have fu0 := hxb.2 0 (by simp)
  have u1 := hxb.1 1 _ rfl
  have fu1 := hxb.2 1 (by simp)
  have u2 := hxb.1 2 _ rfl
  have fu2 := hxb.2 2 (by simp)
  have u3 := hxb.1 3 _ rfl
  have fu3 := hxb.2 3 (by simp)
  have u4 := hxb.1 4 _ rfl
  have fu4 := hxb.2 4 (by simp)
  have u5 := hxb.1 5 _ rfl
  have fu5 := hxb.2 5 (by simp)
  have u6 := hxb.1 6 _ rfl
  have fu6 := hxb.2 6 (by simp)
  have u7 := hxb.1 7 _ rfl
  have fu7 := hxb.2 7 (by simp)
  have u8 := hxb.1 8 _ rfl
  have fu8 := hxb.2 8 (by simp)
  have HB := Lib.hid (C1.out.2.2.trans (hq.mono C1.out.2.2.size))
  obtain ⟨xk, xi, xN, ⟨fk, fd, fa, fp, fb⟩, xb⟩ := x
  unfold Ac.cells
  have HFO := Lib.hid (And.intro hxo hxb)
  clear hxo hq hxb
  obtain ⟨rfl, hbn, hOb⟩ := HFO.out.1 trivial
  have hUb := ownU8 hOb hbn
  have hapt : ∀ ad, xA = some ad → ad.block ≠ w.heap.size := fun ad had => by have := own_ap hOb ad had; omega
  have hxs : BoxF (((((((((w2.setCell ⟨w.heap.size, 0, none⟩ (.int .i64 xk)).setCell ⟨w.heap.size, 1, none⟩ (.int .i64 xi)).setCell ⟨w.heap.size, 2, none⟩ (.int .i64 xN)).setCell ⟨w.heap.size, 3, none⟩ (.int .i64 fk)).setCell ⟨w.heap.size, 4, none⟩ (.int .i64 fd)).setCell ⟨w.heap.size, 5, none⟩ (.int .i64 fa)).setCell ⟨w.heap.size, 6, none⟩ (.int .u32 (fp : Int))).setCell ⟨w.heap.size, 7, none⟩ (.int .u32 (fb : Int))).setCell ⟨w.heap.size, 8, none⟩ (.slice xA xn xc)) w.heap.size [.int .i64 xk, .int .i64 xi, .int .i64 xN, .int .i64 fk, .int .i64 fd, .int .i64 fa, .int .u32 (fp : Int), .int .u32 (fb : Int), .slice xA xn xc] := (((((((((HFO.out.2.put 0 (by simp) (.int .i64 xk)).put 1 (by simp) (.int .i64 xi)).put 2 (by simp) (.int .i64 xN)).put 3 (by simp) (.int .i64 fk)).put 4 (by simp) (.int .i64 fd)).put 5 (by simp) (.int .i64 fa)).put 6 (by simp) (.int .u32 (fp : Int))).put 7 (by simp) (.int .u32 (fb : Int))).put 8 (by simp) (.slice xA xn xc))
  have hbs : Below w.heap.size w (((((((((w2.setCell ⟨w.heap.size, 0, none⟩ (.int .i64 xk)).setCell ⟨w.heap.size, 1, none⟩ (.int .i64 xi)).setCell ⟨w.heap.size, 2, none⟩ (.int .i64 xN)).setCell ⟨w.heap.size, 3, none⟩ (.int .i64 fk)).setCell ⟨w.heap.size, 4, none⟩ (.int .i64 fd)).setCell ⟨w.heap.size, 5, none⟩ (.int .i64 fa)).setCell ⟨w.heap.size, 6, none⟩ (.int .u32 (fp : Int))).setCell ⟨w.heap.size, 7, none⟩ (.int .u32 (fb : Int))).setCell ⟨w.heap.size, 8, none⟩ (.slice xA xn xc)) := (((((((((HB.out.setCell (p := ⟨w.heap.size, 0, none⟩) (Nat.le_refl _) (.int .i64 xk)).setCell (p := ⟨w.heap.size, 1, none⟩) (Nat.le_refl _) (.int .i64 xi)).setCell (p := ⟨w.heap.size, 2, none⟩) (Nat.le_refl _) (.int .i64 xN)).setCell (p := ⟨w.heap.size, 3, none⟩) (Nat.le_refl _) (.int .i64 fk)).setCell (p := ⟨w.heap.size, 4, none⟩) (Nat.le_refl _) (.int .i64 fd)).setCell (p := ⟨w.heap.size, 5, none⟩) (Nat.le_refl _) (.int .i64 fa)).setCell (p := ⟨w.heap.size, 6, none⟩) (Nat.le_refl _) (.int .u32 (fp : Int))).setCell (p := ⟨w.heap.size, 7, none⟩) (Nat.le_refl _) (.int .u32 (fb : Int))).setCell (p := ⟨w.heap.size, 8, none⟩) (Nat.le_refl _) (.slice xA xn xc))
  have hUs : U8At (((((((((w2.setCell ⟨w.heap.size, 0, none⟩ (.int .i64 xk)).setCell ⟨w.heap.size, 1, none⟩ (.int .i64 xi)).setCell ⟨w.heap.size, 2, none⟩ (.int .i64 xN)).setCell ⟨w.heap.size, 3, none⟩ (.int .i64 fk)).setCell ⟨w.heap.size, 4, none⟩ (.int .i64 fd)).setCell ⟨w.heap.size, 5, none⟩ (.int .i64 fa)).setCell ⟨w.heap.size, 6, none⟩ (.int .u32 (fp : Int))).setCell ⟨w.heap.size, 7, none⟩ (.int .u32 (fb : Int))).setCell ⟨w.heap.size, 8, none⟩ (.slice xA xn xc)) xA xb := (U8At.other (a := ⟨w.heap.size, 8, none⟩) (U8At.other (a := ⟨w.heap.size, 7, none⟩) (U8At.other (a := ⟨w.heap.size, 6, none⟩) (U8At.other (a := ⟨w.heap.size, 5, none⟩) (U8At.other (a := ⟨w.heap.size, 4, none⟩) (U8At.other (a := ⟨w.heap.size, 3, none⟩) (U8At.other (a := ⟨w.heap.size, 2, none⟩) (U8At.other (a := ⟨w.heap.size, 1, none⟩) (U8At.other (a := ⟨w.heap.size, 0, none⟩) hUb (fun ad had => hapt ad had) (.int .i64 xk)) (fun ad had => hapt ad had) (.int .i64 xi)) (fun ad had => hapt ad had) (.int .i64 xN)) (fun ad had => hapt ad had) (.int .i64 fk)) (fun ad had => hapt ad had) (.int .i64 fd)) (fun ad had => hapt ad had) (.int .i64 fa)) (fun ad had => hapt ad had) (.int .u32 (fp : Int))) (fun ad had => hapt ad had) (.int .u32 (fb : Int))) (fun ad had => hapt ad had) (.slice xA xn xc))
  have hOs := (own_set (own_set (own_set (own_set (own_set (own_set (own_set (own_set (own_set hOb hwlt 0 (.int .i64 xk)) hwlt 1 (.int .i64 xi)) hwlt 2 (.int .i64 xN)) hwlt 3 (.int .i64 fk)) hwlt 4 (.int .i64 fd)) hwlt 5 (.int .i64 fa)) hwlt 6 (.int .u32 (fp : Int))) hwlt 7 (.int .u32 (fb : Int))) hwlt 8 (.slice xA xn xc))
  have CG := scriptGoodV ⟨xk, xi, xN, ⟨fk, fd, fa, fp, fb⟩, xb⟩ xA xn xc false hvg (((((((((w2.setCell ⟨w.heap.size, 0, none⟩ (.int .i64 xk)).setCell ⟨w.heap.size, 1, none⟩ (.int .i64 xi)).setCell ⟨w.heap.size, 2, none⟩ (.int .i64 xN)).setCell ⟨w.heap.size, 3, none⟩ (.int .i64 fk)).setCell ⟨w.heap.size, 4, none⟩ (.int .i64 fd)).setCell ⟨w.heap.size, 5, none⟩ (.int .i64 fa)).setCell ⟨w.heap.size, 6, none⟩ (.int .u32 (fp : Int))).setCell ⟨w.heap.size, 7, none⟩ (.int .u32 (fb : Int))).setCell ⟨w.heap.size, 8, none⟩ (.slice xA xn xc)) hUs hbn
  unfold Ac.cells at CG
  have CG := Lib.hid CG
  have HS := Lib.hid (And.intro hxs (And.intro hbs (And.intro hOs (And.intro hbn hwlt))))
  clear hxs hbs hUs hUb hOb hOs hapt hwlt
  go_wp2_with fail
  refine CG.out.mono ?_
  rintro e w3 ⟨rfl, hq3⟩
  have hx3 := HS.out.1.keep hq3
  have HO := Lib.hid (ownsRow_kept HS.out.2.2.1 hq3)
  have HB := Lib.hid (HS.out.2.1.trans (hq3.mono HS.out.2.1.size))
  clear u0 fu0 u1 fu1 u2 fu2 u3 fu3 u4 fu4 u5 fu5 u6 fu6 u7 fu7 u8 fu8
  have u0 := hx3.1 0 _ rfl
  have fu0 := hx3.2 0 (by simp)
  have u1 := hx3.1 1 _ rfl
  have fu1 := hx3.2 1 (by simp)
  have u2 := hx3.1 2 _ rfl
  have fu2 := hx3.2 2 (by simp)
  have u3 := hx3.1 3 _ rfl
  have fu3 := hx3.2 3 (by simp)
  have u4 := hx3.1 4 _ rfl
  have fu4 := hx3.2 4 (by simp)
  have u5 := hx3.1 5 _ rfl
  have fu5 := hx3.2 5 (by simp)
  have u6 := hx3.1 6 _ rfl
  have fu6 := hx3.2 6 (by simp)
  have u7 := hx3.1 7 _ rfl
  have fu7 := hx3.2 7 (by simp)
  have u8 := hx3.1 8 _ rfl
  have fu8 := hx3.2 8 (by simp)
  clear hq3 hx3
  go_wp2
  refine bodyPost_ret (v := .tuple #[.agg #[.int .i64 0, .int .i64 0, .int .i64 0, .int .i64 0, .int .i64 0, .int .i64 0, .int .u32 0, .int .u32 0, .slice none 0 0], .int .i64 2]) (by simp (maxDischargeDepth := 8) [results, Tryd.results27, go_sem, *]) rfl ?_
  refine actPost_bad Ac0 none 0 0 2 rfl rfl (by decide) ?_
  · skip
    repeat (first | with_reducible refine Below.setCell ?_ (by first | exact Nat.le_refl _ | exact Nat.le_succ _) _ | with_reducible refine Below.drew ?_ | with_reducible refine below_drewN ?_ _)
    exact HB.out
set_option maxHeartbeats 3200000 in
set_option maxRecDepth 100000 in
theorem one_k_ok (s : ByteArray) (v : List UInt8) (r : List (List UInt8)) (N : Nat) (hN : (v :: r).length = N) (hNb : N ≤ 1048577) (w : World)
    (CS : Calls Tryd.prog 26 #[.string s, .string ⟨#[32]⟩] (w.alloc (.cells #[.int .i64 0, .int .i64 0, .int .i64 0, .int .i64 0, .int .i64 0, .int .i64 0, .int .u32 0, .int .u32 0, .slice none 0 0] 29)) fun e w' => e = .returned (.slice (some ⟨w.heap.size + 1, 0, none⟩) N N) ∧ w' = ((w.alloc (.cells #[.int .i64 0, .int .i64 0, .int .i64 0, .int .i64 0, .int .i64 0, .int .i64 0, .int .u32 0, .int .u32 0, .slice none 0 0] 29)).alloc (.cells (strV (v :: r)).toArray 9)))
    (k : Int) (CK : ∀ W, Calls Tryd.prog 38 #[.string ⟨v.toArray⟩] W fun e w' => e = .returned (.int .i64 k) ∧ W = w')
    (A1 : Option Addr) (hsl : ∀ W, (Instr.slice 56 (.slice (some ⟨w.heap.size + 1, 0, none⟩) N N) (some (.int .i64 1)) none none).run Tryd.prog W = .ok (.slice A1 (N - 1) (N - 1)) W) (q0 : (k == 0) = false) (q3 : (k == 3) = false) (xo : Ac) (CA : ∀ W, W = ((w.alloc (.cells #[.int .i64 0, .int .i64 0, .int .i64 0, .int .i64 0, .int .i64 0, .int .i64 0, .int .u32 0, .int .u32 0, .slice none 0 0] 29)).alloc (.cells (strV (v :: r)).toArray 9)) → Calls Tryd.prog 40 #[.int .i64 k, .slice A1 (N - 1) (N - 1)] W (ActPost (xo, 0) W)) (vg : Bool) (hvg : goodA xo = vg) (hv : vg = true) :
    Calls Tryd.prog 27 #[.string s] w (ActPost (xo, 0) w) := by
  obtain ⟨hz, hsz⟩ := zero_of_info (show (Tryd.prog.info? 29).map (fun i => (i.zero, i.size)) = some (some (.agg #[.int .i64 0, .int .i64 0, .int .i64 0, .int .i64 0, .int .i64 0, .int .i64 0, .int .u32 0, .int .u32 0, .slice none 0 0]), 9) by kernel_rfl)
  subst hv
  have hN1 : (0 : Int) < (N : Int) := by rw [← hN]; simp
  have hb1 : Below w.heap.size w ((w.alloc (.cells #[.int .i64 0, .int .i64 0, .int .i64 0, .int .i64 0, .int .i64 0, .int .i64 0, .int .u32 0, .int .u32 0, .slice none 0 0] 29)).alloc (.cells (strV (v :: r)).toArray 9)) := ((Below.refl _ _).alloc (Nat.le_refl _) _).alloc (by simp) _
  have hxz : BoxF ((w.alloc (.cells #[.int .i64 0, .int .i64 0, .int .i64 0, .int .i64 0, .int .i64 0, .int .i64 0, .int .u32 0, .int .u32 0, .slice none 0 0] 29)).alloc (.cells (strV (v :: r)).toArray 9)) w.heap.size [.int .i64 0, .int .i64 0, .int .i64 0, .int .i64 0, .int .i64 0, .int .i64 0, .int .u32 0, .int .u32 0, .slice none 0 0] := BoxF.keep (boxF_made w [.int .i64 0, .int .i64 0, .int .i64 0, .int .i64 0, .int .i64 0, .int .i64 0, .int .u32 0, .int .u32 0, .slice none 0 0] 29) ((Below.refl _ _).alloc (Nat.le_refl _) _)
  have hs0 : ((w.alloc (.cells #[.int .i64 0, .int .i64 0, .int .i64 0, .int .i64 0, .int .i64 0, .int .i64 0, .int .u32 0, .int .u32 0, .slice none 0 0] 29)).alloc (.cells (strV (v :: r)).toArray 9)).cell? ⟨w.heap.size + 1, 0, none⟩ = some (.string ⟨v.toArray⟩) := by
    obtain ⟨b3, o3, he, hc⟩ := RowAt.made (w.alloc (.cells #[.int .i64 0, .int .i64 0, .int .i64 0, .int .i64 0, .int .i64 0, .int .i64 0, .int .u32 0, .int .u32 0, .slice none 0 0] 29)) (strV (v :: r)) 9 0 _ rfl
    injection he with he
    injection he with e1 e2 e3
    subst e1 e2
    simpa using hc
  obtain ⟨W1, hW1⟩ : ∃ W1, ((w.alloc (.cells #[.int .i64 0, .int .i64 0, .int .i64 0, .int .i64 0, .int .i64 0, .int .i64 0, .int .u32 0, .int .u32 0, .slice none 0 0] 29)).alloc (.cells (strV (v :: r)).toArray 9)) = W1 := ⟨_, rfl⟩
  rw [hW1] at CS hb1 hxz hs0
  have HX := Lib.hid (And.intro hb1 hxz)
  have CS := Lib.hid CS
  have CK := Lib.hid CK
  have C1 := CA W1 hW1.symm
  have hwlt : w.heap.size < W1.heap.size := World.block_lt_of_cell? _ _ (hxz.1 0 _ rfl)
  unfold ActPost at C1
  have C1 := Lib.hid (And.intro C1 (And.intro hxz hb1))
  clear hb1 hxz hW1 CA
  go_enter Tryd.func27, Tryd.ntmps27
  go_wp2_with fail
  refine CS.out.mono ?_
  rintro e w1 ⟨rfl, hw1⟩
  subst w1
  have u0 := HX.out.2.1 0 _ rfl
  have fu0 := HX.out.2.2 0 (by simp)
  have u1 := HX.out.2.1 1 _ rfl
  have fu1 := HX.out.2.2 1 (by simp)
  have u2 := HX.out.2.1 2 _ rfl
  have fu2 := HX.out.2.2 2 (by simp)
  have u3 := HX.out.2.1 3 _ rfl
  have fu3 := HX.out.2.2 3 (by simp)
  have u4 := HX.out.2.1 4 _ rfl
  have fu4 := HX.out.2.2 4 (by simp)
  have u5 := HX.out.2.1 5 _ rfl
  have fu5 := HX.out.2.2 5 (by simp)
  have u6 := HX.out.2.1 6 _ rfl
  have fu6 := HX.out.2.2 6 (by simp)
  have u7 := HX.out.2.1 7 _ rfl
  have fu7 := HX.out.2.2 7 (by simp)
  have u8 := HX.out.2.1 8 _ rfl
  have fu8 := HX.out.2.2 8 (by simp)
  go_wp2_with fail
  refine (CK.out _).mono ?_
  rintro e w1 ⟨rfl, hw1⟩
  subst w1
  go_wp2_with fail
  refine C1.out.1.mono ?_
  rintro e w2 ⟨x, xA, xn, xc, rfl, hxo, hq⟩
  have hxb := C1.out.2.1.keep hq
  clear u0 fu0 u1 fu1 u2 fu2 u3 fu3 u4 fu4 u5 fu5 u6 fu6 u7 fu7 u8 fu8
  have u0 := hxb.1 0 _ rfl
  have fu0 := hxb.2 0 (by simp)
  have u1 := hxb.1 1 _ rfl
  have fu1 := hxb.2 1 (by simp)
  have u2 := hxb.1 2 _ rfl
  have fu2 := hxb.2 2 (by simp)
  have u3 := hxb.1 3 _ rfl
  have fu3 := hxb.2 3 (by simp)
  have u4 := hxb.1 4 _ rfl
  have fu4 := hxb.2 4 (by simp)
  have u5 := hxb.1 5 _ rfl
  have fu5 := hxb.2 5 (by simp)
  have u6 := hxb.1 6 _ rfl
  have fu6 := hxb.2 6 (by simp)
  have u7 := hxb.1 7 _ rfl
  have fu7 := hxb.2 7 (by simp)
  have u8 := hxb.1 8 _ rfl
  have fu8 := hxb.2 8 (by simp)
  have HB := Lib.hid (C1.out.2.2.trans (hq.mono C1.out.2.2.size))
  obtain ⟨xk, xi, xN, ⟨fk, fd, fa, fp, fb⟩, xb⟩ := x
  unfold Ac.cells
  have HFO := Lib.hid (And.intro hxo hxb)
  clear hxo hq hxb
  obtain ⟨rfl, hbn, hOb⟩ := HFO.out.1 trivial
  have hUb := ownU8 hOb hbn
  have hapt : ∀ ad, xA = some ad → ad.block ≠ w.heap.size := fun ad had => by have := own_ap hOb ad had; omega
  have hxs : BoxF (((((((((w2.setCell ⟨w.heap.size, 0, none⟩ (.int .i64 xk)).setCell ⟨w.heap.size, 1, none⟩ (.int .i64 xi)).setCell ⟨w.heap.size, 2, none⟩ (.int .i64 xN)).setCell ⟨w.heap.size, 3, none⟩ (.int .i64 fk)).setCell ⟨w.heap.size, 4, none⟩ (.int .i64 fd)).setCell ⟨w.heap.size, 5, none⟩ (.int .i64 fa)).setCell ⟨w.heap.size, 6, none⟩ (.int .u32 (fp : Int))).setCell ⟨w.heap.size, 7, none⟩ (.int .u32 (fb : Int))).setCell ⟨w.heap.size, 8, none⟩ (.slice xA xn xc)) w.heap.size [.int .i64 xk, .int .i64 xi, .int .i64 xN, .int .i64 fk, .int .i64 fd, .int .i64 fa, .int .u32 (fp : Int), .int .u32 (fb : Int), .slice xA xn xc] := (((((((((HFO.out.2.put 0 (by simp) (.int .i64 xk)).put 1 (by simp) (.int .i64 xi)).put 2 (by simp) (.int .i64 xN)).put 3 (by simp) (.int .i64 fk)).put 4 (by simp) (.int .i64 fd)).put 5 (by simp) (.int .i64 fa)).put 6 (by simp) (.int .u32 (fp : Int))).put 7 (by simp) (.int .u32 (fb : Int))).put 8 (by simp) (.slice xA xn xc))
  have hbs : Below w.heap.size w (((((((((w2.setCell ⟨w.heap.size, 0, none⟩ (.int .i64 xk)).setCell ⟨w.heap.size, 1, none⟩ (.int .i64 xi)).setCell ⟨w.heap.size, 2, none⟩ (.int .i64 xN)).setCell ⟨w.heap.size, 3, none⟩ (.int .i64 fk)).setCell ⟨w.heap.size, 4, none⟩ (.int .i64 fd)).setCell ⟨w.heap.size, 5, none⟩ (.int .i64 fa)).setCell ⟨w.heap.size, 6, none⟩ (.int .u32 (fp : Int))).setCell ⟨w.heap.size, 7, none⟩ (.int .u32 (fb : Int))).setCell ⟨w.heap.size, 8, none⟩ (.slice xA xn xc)) := (((((((((HB.out.setCell (p := ⟨w.heap.size, 0, none⟩) (Nat.le_refl _) (.int .i64 xk)).setCell (p := ⟨w.heap.size, 1, none⟩) (Nat.le_refl _) (.int .i64 xi)).setCell (p := ⟨w.heap.size, 2, none⟩) (Nat.le_refl _) (.int .i64 xN)).setCell (p := ⟨w.heap.size, 3, none⟩) (Nat.le_refl _) (.int .i64 fk)).setCell (p := ⟨w.heap.size, 4, none⟩) (Nat.le_refl _) (.int .i64 fd)).setCell (p := ⟨w.heap.size, 5, none⟩) (Nat.le_refl _) (.int .i64 fa)).setCell (p := ⟨w.heap.size, 6, none⟩) (Nat.le_refl _) (.int .u32 (fp : Int))).setCell (p := ⟨w.heap.size, 7, none⟩) (Nat.le_refl _) (.int .u32 (fb : Int))).setCell (p := ⟨w.heap.size, 8, none⟩) (Nat.le_refl _) (.slice xA xn xc))
  have hUs : U8At (((((((((w2.setCell ⟨w.heap.size, 0, none⟩ (.int .i64 xk)).setCell ⟨w.heap.size, 1, none⟩ (.int .i64 xi)).setCell ⟨w.heap.size, 2, none⟩ (.int .i64 xN)).setCell ⟨w.heap.size, 3, none⟩ (.int .i64 fk)).setCell ⟨w.heap.size, 4, none⟩ (.int .i64 fd)).setCell ⟨w.heap.size, 5, none⟩ (.int .i64 fa)).setCell ⟨w.heap.size, 6, none⟩ (.int .u32 (fp : Int))).setCell ⟨w.heap.size, 7, none⟩ (.int .u32 (fb : Int))).setCell ⟨w.heap.size, 8, none⟩ (.slice xA xn xc)) xA xb := (U8At.other (a := ⟨w.heap.size, 8, none⟩) (U8At.other (a := ⟨w.heap.size, 7, none⟩) (U8At.other (a := ⟨w.heap.size, 6, none⟩) (U8At.other (a := ⟨w.heap.size, 5, none⟩) (U8At.other (a := ⟨w.heap.size, 4, none⟩) (U8At.other (a := ⟨w.heap.size, 3, none⟩) (U8At.other (a := ⟨w.heap.size, 2, none⟩) (U8At.other (a := ⟨w.heap.size, 1, none⟩) (U8At.other (a := ⟨w.heap.size, 0, none⟩) hUb (fun ad had => hapt ad had) (.int .i64 xk)) (fun ad had => hapt ad had) (.int .i64 xi)) (fun ad had => hapt ad had) (.int .i64 xN)) (fun ad had => hapt ad had) (.int .i64 fk)) (fun ad had => hapt ad had) (.int .i64 fd)) (fun ad had => hapt ad had) (.int .i64 fa)) (fun ad had => hapt ad had) (.int .u32 (fp : Int))) (fun ad had => hapt ad had) (.int .u32 (fb : Int))) (fun ad had => hapt ad had) (.slice xA xn xc))
  have hOs := (own_set (own_set (own_set (own_set (own_set (own_set (own_set (own_set (own_set hOb hwlt 0 (.int .i64 xk)) hwlt 1 (.int .i64 xi)) hwlt 2 (.int .i64 xN)) hwlt 3 (.int .i64 fk)) hwlt 4 (.int .i64 fd)) hwlt 5 (.int .i64 fa)) hwlt 6 (.int .u32 (fp : Int))) hwlt 7 (.int .u32 (fb : Int))) hwlt 8 (.slice xA xn xc))
  have CG := scriptGoodV ⟨xk, xi, xN, ⟨fk, fd, fa, fp, fb⟩, xb⟩ xA xn xc true hvg (((((((((w2.setCell ⟨w.heap.size, 0, none⟩ (.int .i64 xk)).setCell ⟨w.heap.size, 1, none⟩ (.int .i64 xi)).setCell ⟨w.heap.size, 2, none⟩ (.int .i64 xN)).setCell ⟨w.heap.size, 3, none⟩ (.int .i64 fk)).setCell ⟨w.heap.size, 4, none⟩ (.int .i64 fd)).setCell ⟨w.heap.size, 5, none⟩ (.int .i64 fa)).setCell ⟨w.heap.size, 6, none⟩ (.int .u32 (fp : Int))).setCell ⟨w.heap.size, 7, none⟩ (.int .u32 (fb : Int))).setCell ⟨w.heap.size, 8, none⟩ (.slice xA xn xc)) hUs hbn
  unfold Ac.cells at CG
  have CG := Lib.hid CG
  have HS := Lib.hid (And.intro hxs (And.intro hbs (And.intro hOs (And.intro hbn hwlt))))
  clear hxs hbs hUs hUb hOb hOs hapt hwlt
  go_wp2_with fail
  refine CG.out.mono ?_
  rintro e w3 ⟨rfl, hq3⟩
  have hx3 := HS.out.1.keep hq3
  have HO := Lib.hid (ownsRow_kept HS.out.2.2.1 hq3)
  have HB := Lib.hid (HS.out.2.1.trans (hq3.mono HS.out.2.1.size))
  clear u0 fu0 u1 fu1 u2 fu2 u3 fu3 u4 fu4 u5 fu5 u6 fu6 u7 fu7 u8 fu8
  have u0 := hx3.1 0 _ rfl
  have fu0 := hx3.2 0 (by simp)
  have u1 := hx3.1 1 _ rfl
  have fu1 := hx3.2 1 (by simp)
  have u2 := hx3.1 2 _ rfl
  have fu2 := hx3.2 2 (by simp)
  have u3 := hx3.1 3 _ rfl
  have fu3 := hx3.2 3 (by simp)
  have u4 := hx3.1 4 _ rfl
  have fu4 := hx3.2 4 (by simp)
  have u5 := hx3.1 5 _ rfl
  have fu5 := hx3.2 5 (by simp)
  have u6 := hx3.1 6 _ rfl
  have fu6 := hx3.2 6 (by simp)
  have u7 := hx3.1 7 _ rfl
  have fu7 := hx3.2 7 (by simp)
  have u8 := hx3.1 8 _ rfl
  have fu8 := hx3.2 8 (by simp)
  clear hq3 hx3
  go_wp2
  refine bodyPost_ret (v := .tuple #[.agg #[.int .i64 xk, .int .i64 xi, .int .i64 xN, .int .i64 fk, .int .i64 fd, .int .i64 fa, .int .u32 (fp : Int), .int .u32 (fb : Int), .slice xA xn xc], .int .i64 0]) (by simp (maxDischargeDepth := 8) [results, Tryd.results27, go_sem, *]) rfl ?_
  refine actPost_ok ⟨xk, xi, xN, ⟨fk, fd, fa, fp, fb⟩, xb⟩ xA xn xc rfl rfl rfl HS.out.2.2.2.1 ?_ ?_
  · refine ownsRow_base (base := W1.heap.size) ?_ (Nat.le_of_lt HS.out.2.2.2.2)
    repeat (with_reducible refine own_set ?_ HS.out.2.2.2.2 _ _)
    exact HO.out
  · skip
    repeat (first | with_reducible refine Below.setCell ?_ (by first | exact Nat.le_refl _ | exact Nat.le_succ _) _ | with_reducible refine Below.drew ?_ | with_reducible refine below_drewN ?_ _)
    exact HB.out
theorem RowAt.other {w : World} {A : Option Addr} {vs : List Value} (h : RowAt w A vs) {a : Addr} (hne : ∀ ad, A = some ad → ad.block ≠ a.block) (v : Value) : RowAt (w.setCell a v) A vs := fun k u hk => by
  obtain ⟨blk, off, rfl, hc⟩ := h k u hk
  exact ⟨blk, off, rfl, by rw [World.cell?_setCell_other _ _ _ _ (fun e => hne _ rfl (by first | rw [e] | rw [← e]))]; exact hc⟩
theorem kindL_cases (v : List UInt8) : kindL v = 0 ∨ kindL v = 3 ∨ (kindL v = 1 ∨ kindL v = 2 ∨ kindL v = 4 ∨ kindL v = 5 ∨ kindL v = 6 ∨ kindL v = 7 ∨ kindL v = 8) := by
  have := @kindL_eq v
  omega
set_option maxHeartbeats 1600000 in
theorem wordsOne (s : ByteArray) (hs : s.size ≤ 1048576) (w : World) (hM : MX w) (hE : E7 w) : Calls Tryd.prog 27 #[.string s] w (ActPost (oneL s.data.toList) w) := by
  have hb0 : Below w.heap.size w (w.alloc (.cells #[.int .i64 0, .int .i64 0, .int .i64 0, .int .i64 0, .int .i64 0, .int .i64 0, .int .u32 0, .int .u32 0, .slice none 0 0] 29)) := (Below.refl _ _).alloc (Nat.le_refl _) _
  have CS := wordsSplit s hs 32 (w.alloc (.cells #[.int .i64 0, .int .i64 0, .int .i64 0, .int .i64 0, .int .i64 0, .int .i64 0, .int .u32 0, .int .u32 0, .slice none 0 0] 29)) (hM.below hb0)
  have hml : ∀ x ∈ cutBy 32 s.data.toList, x.length ≤ 1048576 := fun x hx => by
    have h1 := mem_cut_len 32 s.data.toList x hx
    have e := Lib.size_eq s
    omega
  have hcl : (cutBy 32 s.data.toList).length ≤ 1048577 := by
    have h1 := cut_len 32 s.data.toList
    have e := Lib.size_eq s
    omega
  unfold oneL
  obtain ⟨v, r, hvr⟩ : ∃ v r, cutBy 32 s.data.toList = v :: r := by
    cases h : cutBy 32 s.data.toList with
    | nil => exact absurd h (cutBy_ne _ _)
    | cons v r => exact ⟨v, r, rfl⟩
  rw [hvr] at CS hml hcl ⊢
  rw [show (w.alloc (.cells #[.int .i64 0, .int .i64 0, .int .i64 0, .int .i64 0, .int .i64 0, .int .i64 0, .int .u32 0, .int .u32 0, .slice none 0 0] 29)).heap.size = w.heap.size + 1 by simp] at CS
  obtain ⟨N, hN⟩ : ∃ N, (v :: r).length = N := ⟨_, rfl⟩
  rw [hN] at CS hcl
  have hN1 : 1 ≤ N := by rw [← hN]; simp
  have hb1 : Below w.heap.size w ((w.alloc (.cells #[.int .i64 0, .int .i64 0, .int .i64 0, .int .i64 0, .int .i64 0, .int .i64 0, .int .u32 0, .int .u32 0, .slice none 0 0] 29)).alloc (.cells (strV (v :: r)).toArray 9)) := ((Below.refl _ _).alloc (Nat.le_refl _) _).alloc (by simp) _
  have hR1 : RowAt ((w.alloc (.cells #[.int .i64 0, .int .i64 0, .int .i64 0, .int .i64 0, .int .i64 0, .int .i64 0, .int .u32 0, .int .u32 0, .slice none 0 0] 29)).alloc (.cells (strV (v :: r)).toArray 9)) (some ⟨w.heap.size + 1, 0, none⟩) (strV (v :: r)) := rowAt_two w _ _ _
  have hRs : RowAt (((w.alloc (.cells #[.int .i64 0, .int .i64 0, .int .i64 0, .int .i64 0, .int .i64 0, .int .i64 0, .int .u32 0, .int .u32 0, .slice none 0 0] 29)).alloc (.cells (strV (v :: r)).toArray 9)).setCell ⟨w.heap.size, 0, none⟩ (.int .i64 3)) (some ⟨w.heap.size + 1, 0, none⟩) (strV (v :: r)) := hR1.other (fun ad had => by injection had with had; subst had; simp) _
  have hrl : r.length = N - 1 := by rw [← hN]; simp
  have hdr : ∀ W, RowAt W (some ⟨w.heap.size + 1, 0, none⟩) (strV (v :: r)) → RowAt W (if N = 1 then some ⟨w.heap.size + 1, 0, none⟩ else (some ⟨w.heap.size + 1, 0, none⟩ : Option Addr).map (·.add (1 * 1))) (strV r) := fun W h => h.drop 1 N (by simp [strV]; omega)
  have hsl := str_slice_from (some ⟨w.heap.size + 1, 0, none⟩) N N 1 hN1
  have CK := fun W => wordsKind ⟨v.toArray⟩ W
  rw [show (⟨v.toArray⟩ : ByteArray).data.toList = v from rfl] at CK
  have hmr : ∀ x ∈ r, x.length ≤ 1048576 := fun x hx => hml x (by simp [hx])
  rcases kindL_cases v with hk | hk | hk
  · rw [show oneW (v :: r) = (Ac0, 19) by simp [oneW, rawW, hk]]
    exact one_0 s v r N hN hcl w CS _ CK _ hsl hk
  · have CF : ∀ W, W = ((w.alloc (.cells #[.int .i64 0, .int .i64 0, .int .i64 0, .int .i64 0, .int .i64 0, .int .i64 0, .int .u32 0, .int .u32 0, .slice none 0 0] 29)).alloc (.cells (strV (v :: r)).toArray 9)) → Calls Tryd.prog 39 #[.slice _ (N - 1) (N - 1)] (W.setCell ⟨w.heap.size, 0, none⟩ (.int .i64 3)) (FatedPost (fatedW r) (W.setCell ⟨w.heap.size, 0, none⟩ (.int .i64 3))) := fun W hW => by
      subst hW
      exact wordsFated r _ (N - 1) (N - 1) hrl (by omega) (Nat.le_refl _) hmr _ (hdr _ hRs) (hE.below (hb1.setCell (p := ⟨w.heap.size, 0, none⟩) (Nat.le_refl _) _))
    have hrw : rawW (v :: r) = (⟨3, 0, 0, (fatedW r).1, []⟩, (fatedW r).2) := by simp [rawW, hk]
    by_cases he : (fatedW r).2 = 0
    · have hfo : fatedW r = ((fatedW r).1, 0) := by rw [← he]
      rw [hfo] at CF
      cases hg : goodA ⟨3, 0, 0, (fatedW r).1, []⟩ with
      | false =>
        rw [show oneW (v :: r) = (Ac0, 2) by simp [oneW, hrw, he, hg]]
        exact one_3_ng s v r N hN hcl w CS _ CK _ hsl hk _ CF false hg rfl
      | true =>
        rw [show oneW (v :: r) = (⟨3, 0, 0, (fatedW r).1, []⟩, 0) by simp [oneW, hrw, he, hg]]
        exact one_3_ok s v r N hN hcl w CS _ CK _ hsl hk _ CF true hg rfl
    · rw [show oneW (v :: r) = (Ac0, (fatedW r).2) by simp [oneW, hrw, he]]
      exact one_3_bad s v r N hN hcl w CS _ CK _ hsl hk _ CF he
  · have CA : ∀ W, W = ((w.alloc (.cells #[.int .i64 0, .int .i64 0, .int .i64 0, .int .i64 0, .int .i64 0, .int .i64 0, .int .u32 0, .int .u32 0, .slice none 0 0] 29)).alloc (.cells (strV (v :: r)).toArray 9)) → Calls Tryd.prog 40 #[.int .i64 (kindL v), .slice _ (N - 1) (N - 1)] W (ActPost (actW (kindL v) r) W) := fun W hW => by
      subst hW
      exact wordsAct (kindL v) hk r _ (N - 1) (N - 1) hrl (by omega) (Nat.le_refl _) hmr _ (hdr _ hR1) (hE.below hb1)
    have q0 : (kindL v == 0) = false := by rw [beq_eq_false_iff_ne]; omega
    have q3 : (kindL v == 3) = false := by rw [beq_eq_false_iff_ne]; omega
    have hrw : rawW (v :: r) = actW (kindL v) r := by
      unfold rawW
      rw [if_neg (by simp; omega), if_neg (by simp; omega)]
      rfl
    by_cases he : (actW (kindL v) r).2 = 0
    · have hfo : actW (kindL v) r = ((actW (kindL v) r).1, 0) := by rw [← he]
      cases hg : goodA (actW (kindL v) r).1 with
      | false =>
        rw [show oneW (v :: r) = (Ac0, 2) by simp [oneW, hrw, he, hg]]
        exact one_k_ng s v r N hN hcl w CS _ CK _ hsl q0 q3 _ (fun W hW => by have := CA W hW; rw [hfo] at this; exact this) false hg rfl
      | true =>
        rw [show oneW (v :: r) = ((actW (kindL v) r).1, 0) by simp [oneW, hrw, he, hg]]
        exact one_k_ok s v r N hN hcl w CS _ CK _ hsl q0 q3 _ (fun W hW => by have := CA W hW; rw [hfo] at this; exact this) true hg rfl
    · rw [show oneW (v :: r) = (Ac0, (actW (kindL v) r).2) by simp [oneW, hrw, he]]
      exact one_k_bad s v r N hN hcl w CS _ CK _ hsl q0 q3 _ CA he
end Go.Proofs.YtndpdonlombodaaDoor
