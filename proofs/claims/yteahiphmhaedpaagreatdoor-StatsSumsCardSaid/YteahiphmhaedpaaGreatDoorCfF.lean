/- config.Fault, config.Check. -/
import Derived.Test.YteahiphmhaedpaaGreatDoorCfE
import Derived.Test.YteahiphmhaedpaaGreatDoorGrX
namespace Go.Proofs.YteahiphmhaedpaaGreatDoor
open Go.RowKit Law
set_option linter.unusedVariables false
set_option linter.unusedSimpArgs false
set_option maxRecDepth 100000

/-! ### plain: links that may be -/
theorem errS_nodes {n : Nat} : ∀ (L P : List Pr), errS n P L = 0 → ∀ l ∈ L, nodeB n l.1 = true ∧ nodeB n l.2 = true
  | [], _, _, l, hl => by simp at hl
  | x :: r, P, h, l, hl => by
    have h1 : (if (nodeB n x.1 && nodeB n x.2) = false then 8 else if x.1 = x.2 then 5 else if adjB P x.1 x.2 = true then 12 else errS n (P ++ [x]) r) = 0 := h
    split at h1
    · cases h1
    · rename_i hx
      split at h1
      · cases h1
      · split at h1
        · cases h1
        · rcases List.mem_cons.1 hl with rfl | hl
          · have : (nodeB n l.1 && nodeB n l.2) = true := by simpa using hx
            simpa using this
          · exact errS_nodes r _ h1 l hl
theorem nr_set (near : List Nat) (a x j : Nat) (ha : a < near.length) : nr (near.set a x) j = if a = j then x else nr near j := by
  unfold nr
  by_cases e : a = j
  · subst e; simp [ha]
  · simp [e, List.getElem?_set_ne e]
theorem nr_join (near : List Nat) (a b j : Nat) (ha : a < near.length) (hb : b < near.length) : nr (joinL near a b) j = if b = j then (if a = j then nr near a ||| 2 ^ b else nr near b) ||| 2 ^ a else if a = j then nr near a ||| 2 ^ b else nr near j := by
  unfold joinL
  rw [nr_set _ _ _ _ (by simpa using hb), nr_set _ _ _ _ ha]
  by_cases e : b = j
  · subst e
    rw [if_pos rfl, if_pos rfl]
    show nr (near.set a (nr near a ||| 2 ^ b)) b ||| 2 ^ a = _
    rw [nr_set _ _ _ _ ha]
  · rw [if_neg e, if_neg e]
theorem nearL_nil_bits (n j k : Nat) : (nr (nearL n []) j).testBit k = adjB [] (j : Int) (k : Int) := by
  have : nr (nearL n []) j = 0 := by
    unfold nr nearL
    simp only [List.foldl_nil]
    by_cases hj : j < n
    · simp [hj]
    · simp [hj]
  rw [this]; simp [adjB]
theorem nearL_bits_step {n : Nat} (L : List Pr) (l : Pr) (ih' : ∀ j k : Nat, (nr (nearL n L) j).testBit k = adjB L (j : Int) (k : Int)) (h1 : nodeB n l.1 = true) (h2 : nodeB n l.2 = true) (j k : Nat) : (nr (nearL n (L ++ [l])) j).testBit k = adjB (L ++ [l]) (j : Int) (k : Int) := by
  obtain ⟨a, b⟩ := l
  unfold nodeB at h1 h2
  simp only [Bool.and_eq_true, decide_eq_true_eq] at h1 h2
  obtain ⟨a, rfl⟩ : ∃ x : Nat, a = x := ⟨a.toNat, by omega⟩
  obtain ⟨b, rfl⟩ : ∃ x : Nat, b = x := ⟨b.toNat, by omega⟩
  have han : a < n := by omega
  have hbn : b < n := by omega
  have hmin : (nrm ((a : Int), (b : Int))).1.toNat = min a b := by unfold nrm; simp only; omega
  have hmax : (nrm ((a : Int), (b : Int))).2.toNat = max a b := by unfold nrm; simp only; omega
  rw [nearL_snoc, hmin, hmax, nr_join _ _ _ _ (by rw [nearL_len]; omega) (by rw [nearL_len]; omega), adjB_snoc]
  have e1 : ∀ x y : Nat, (((x : Int) == (y : Int)) : Bool) = decide (x = y) := fun x y => by rw [Bool.eq_iff_iff]; simp; omega
  simp only [e1]
  have t := fun x => ih' x k
  by_cases hmb : max a b = j
  · rw [if_pos hmb, Nat.testBit_or, Nat.testBit_two_pow]
    by_cases hma : min a b = j
    · have hab : a = b := by omega
      subst hab
      rw [if_pos hma, Nat.testBit_or, Nat.testBit_two_pow, t]
      have hj : j = a := by omega
      subst hj
      rw [Nat.min_self, Nat.max_self]
      cases adjB L (j : Int) (k : Int) <;> cases hq : decide (j = k) <;> simp_all
    · rw [if_neg hma, t, hmb]
      cases adjB L (j : Int) (k : Int)
      · rw [Bool.eq_iff_iff]
        simp only [Bool.or_eq_true, Bool.and_eq_true, decide_eq_true_eq, Bool.false_eq_true, false_or]
        omega
      · simp
  · rw [if_neg hmb]
    by_cases hma : min a b = j
    · rw [if_pos hma, Nat.testBit_or, Nat.testBit_two_pow, t, hma]
      cases adjB L (j : Int) (k : Int)
      · rw [Bool.eq_iff_iff]
        simp only [Bool.or_eq_true, Bool.and_eq_true, decide_eq_true_eq, Bool.false_eq_true, false_or]
        omega
      · simp
    · rw [if_neg hma, t]
      cases adjB L (j : Int) (k : Int)
      · symm
        rw [Bool.eq_false_iff]
        intro h
        simp only [Bool.or_eq_true, Bool.and_eq_true, decide_eq_true_eq, Bool.false_eq_true, false_or] at h
        omega
      · simp
theorem nearL_bits {n : Nat} (L : List Pr) (h : ∀ l ∈ L, nodeB n l.1 = true ∧ nodeB n l.2 = true) (j k : Nat) : (nr (nearL n L) j).testBit k = adjB L (j : Int) (k : Int) := by
  have key : ∀ m, m ≤ L.length → ∀ j k : Nat, (nr (nearL n (L.take m)) j).testBit k = adjB (L.take m) (j : Int) (k : Int) := by
    intro m
    induction m with
    | zero => intro _ j k; rw [List.take_zero]; exact nearL_nil_bits n j k
    | succ m ih =>
      intro hm j k
      have hlt : m < L.length := by omega
      obtain ⟨h1, h2⟩ := h L[m] (List.getElem_mem hlt)
      rw [List.take_succ_eq_append_getElem hlt]
      exact nearL_bits_step _ _ (ih (by omega)) h1 h2 j k
  have := key L.length (Nat.le_refl _) j k
  rwa [List.take_length] at this
theorem gErr_zero {n : Int} {L : List Pr} (h : gErr n L = 0) : 1 ≤ n ∧ n ≤ 64 ∧ ∀ l ∈ L, nodeB n.toNat l.1 = true ∧ nodeB n.toNat l.2 = true := by
  unfold gErr at h
  split at h
  · cases h
  · exact ⟨by omega, by omega, errS_nodes L [] h⟩
theorem adj_lt {n : Nat} {L : List Pr} (h : ∀ l ∈ L, nodeB n l.1 = true ∧ nodeB n l.2 = true) {j k : Nat} (ha : adjB L (j : Int) (k : Int) = true) : j < n ∧ k < n := by
  unfold adjB at ha
  obtain ⟨l, hl, he⟩ := List.any_eq_true.1 ha
  obtain ⟨h1, h2⟩ := h l hl
  unfold nodeB at h1 h2
  simp only [Bool.and_eq_true, decide_eq_true_eq, Bool.or_eq_true, beq_iff_eq] at h1 h2 he
  omega
theorem nearL_pow {n : Nat} {L : List Pr} (h : ∀ l ∈ L, nodeB n l.1 = true ∧ nodeB n l.2 = true) (j : Nat) : nr (nearL n L) j < 2 ^ n := by
  refine Nat.lt_pow_two_of_testBit _ fun k hk => ?_
  rw [nearL_bits L h]
  cases hq : adjB L (j : Int) (k : Int)
  · rfl
  · have := (adj_lt h hq).2; omega

/-! ### what is wrong -/
def rowB (x : Int) : Bool := decide (1 ≤ x) && decide (x ≤ 65536)
def tabB (c : Cn) : Bool := rowB c.seen && (rowB c.hist && (rowB c.fly && (decide (1 ≤ c.quota) && (decide (c.quota ≤ c.hist) && (decide (0 ≤ c.body) && decide (c.body ≤ 1024))))))
def faultN (c : Cn) (L : List Pr) : Nat := if gErr c.n L ≠ 0 ∨ c.n < 2 then 1 else if safeB c.n.toNat (nr (nearL c.n.toNat L)) c.f = false then 2 else if enoughB c = false then 3 else if tabB c = false then 4 else 0
theorem cRow {x : Int} {r : Bool} (hr : rowB x = r) (w : World) : Calls Tryz.prog 187 #[.int .i64 x] w fun e w' => e = .returned (.bool r) ∧ w = w' := by
  subst hr
  have HG : Hid (rowB x = (decide (1 ≤ x) && decide (x ≤ 65536))) := rfl
  go_enter Tryz.func187, Tryz.ntmps187
  go_wp2
  all_goals
    go_ret
    refine ⟨ret_bool ?_, rfl⟩
    rw [HG.out]
    first | (simp [*]; done) | (simp [*]; omega)
set_option maxHeartbeats 3200000 in
theorem cTables {c : Cn} {r : Bool} (hr : tabB c = r) (A : Option Addr) (l k : Nat) (w : World) : Calls Tryz.prog 125 #[.agg (c.cells A l k).toArray] w fun e w' => e = .returned (.bool r) ∧ Below w.heap.size w w' := by
  subst hr
  obtain ⟨n, f, dmin, dmax, rho, slew, round, window, attend, seen, hist, fly, quota, body⟩ := c
  have HG : Hid (tabB ⟨n, f, dmin, dmax, rho, slew, round, window, attend, seen, hist, fly, quota, body⟩ = (rowB seen && (rowB hist && (rowB fly && (decide (1 ≤ quota) && (decide (quota ≤ hist) && (decide (0 ≤ body) && decide (body ≤ 1024)))))))) := rfl
  generalize tabB _ = G at *
  obtain ⟨r0, h0⟩ : ∃ r, rowB seen = r := ⟨_, rfl⟩
  obtain ⟨r1, h1⟩ : ∃ r, rowB hist = r := ⟨_, rfl⟩
  obtain ⟨r2, h2⟩ : ∃ r, rowB fly = r := ⟨_, rfl⟩
  rw [h0, h1, h2] at HG
  have C0 := Lib.hid (fun W => cRow h0 W)
  have C1 := Lib.hid (fun W => cRow h1 W)
  have C2 := Lib.hid (fun W => cRow h2 W)
  clear h0 h1 h2
  have HB := Lib.hid ((Below.refl w.heap.size w).alloc (Nat.le_refl _) (.cells #[.int .i64 n, .slice A l k, .int .i64 f, .int .i64 dmin, .int .i64 dmax, .int .i64 rho, .int .i64 slew, .int .i64 round, .int .i64 window, .int .i64 attend, .int .i64 seen, .int .i64 hist, .int .i64 fly, .int .i64 quota, .int .i64 body] 32))
  cases r0 with
  | false =>
    go_enter Tryz.func125, Tryz.ntmps125
    go_wp2_with fail
    refine (C0.out _).mono ?_
    rintro e w' ⟨rfl, rfl⟩
    go_wp2
    all_goals
      go_ret
      refine ⟨ret_bool ?_, HB.out⟩
      rw [HG.out]
      first | (simp [*]; done) | (simp [*]; omega)
  | true =>
    cases r1 with
    | false =>
      go_enter Tryz.func125, Tryz.ntmps125
      go_wp2_with fail
      refine (C0.out _).mono ?_
      rintro e w' ⟨rfl, rfl⟩
      go_wp2_with fail
      refine (C1.out _).mono ?_
      rintro e w' ⟨rfl, rfl⟩
      go_wp2
      all_goals
        go_ret
        refine ⟨ret_bool ?_, HB.out⟩
        rw [HG.out]
        first | (simp [*]; done) | (simp [*]; omega)
    | true =>
      cases r2 with
      | false =>
        go_enter Tryz.func125, Tryz.ntmps125
        go_wp2_with fail
        refine (C0.out _).mono ?_
        rintro e w' ⟨rfl, rfl⟩
        go_wp2_with fail
        refine (C1.out _).mono ?_
        rintro e w' ⟨rfl, rfl⟩
        go_wp2_with fail
        refine (C2.out _).mono ?_
        rintro e w' ⟨rfl, rfl⟩
        go_wp2
        all_goals
          go_ret
          refine ⟨ret_bool ?_, HB.out⟩
          rw [HG.out]
          first | (simp [*]; done) | (simp [*]; omega)
      | true =>
        go_enter Tryz.func125, Tryz.ntmps125
        go_wp2_with fail
        refine (C0.out _).mono ?_
        rintro e w' ⟨rfl, rfl⟩
        go_wp2_with fail
        refine (C1.out _).mono ?_
        rintro e w' ⟨rfl, rfl⟩
        go_wp2_with fail
        refine (C2.out _).mono ?_
        rintro e w' ⟨rfl, rfl⟩
        go_wp2
        all_goals
          go_ret
          refine ⟨ret_bool ?_, HB.out⟩
          rw [HG.out]
          first | (simp [*]; done) | (simp [*]; omega)
set_option maxHeartbeats 3200000 in
theorem cFault (c : Cn) (A : Option Addr) (l k : Nat) (L : List Pr) (hl : L.length = l) (hfit : ∀ x ∈ L, PrF x) (hm : l ≤ 9223372036854775807) (h9 : gErr c.n L = 0 → c.n < 9) (w : World) (hA : LinksAt w A L) (hT : T64 w) :
    Calls Tryz.prog 56 #[.agg (c.cells A l k).toArray] w fun e w' => e = .returned (.int .i64 (faultN c L : Int)) ∧ Below w.heap.size w w' := by
  have CE := fun W => boundEnough c A l k W
  have CT := fun (r : Bool) (hr : tabB c = r) W => cTables hr A l k W
  have HF : Hid (faultN c L = if gErr c.n L ≠ 0 ∨ c.n < 2 then 1 else if safeB c.n.toNat (nr (nearL c.n.toNat L)) c.f = false then 2 else if enoughB c = false then 3 else if tabB c = false then 4 else 0) := rfl
  generalize enoughB c = EB at *
  generalize tabB c = TB at *
  generalize faultN c L = FN at *
  obtain ⟨n, f, dmin, dmax, rho, slew, round, window, attend, seen, hist, fly, quota, body⟩ := c
  simp only at *
  have kb := (Below.refl w.heap.size w).alloc (Nat.le_refl _) (.cells #[.int .i64 n, .slice A l k, .int .i64 f, .int .i64 dmin, .int .i64 dmax, .int .i64 rho, .int .i64 slew, .int .i64 round, .int .i64 window, .int .i64 attend, .int .i64 seen, .int .i64 hist, .int .i64 fly, .int .i64 quota, .int .i64 body] 32)
  have kx := boxF_made w [.int .i64 n, .slice A l k, .int .i64 f, .int .i64 dmin, .int .i64 dmax, .int .i64 rho, .int .i64 slew, .int .i64 round, .int .i64 window, .int .i64 attend, .int .i64 seen, .int .i64 hist, .int .i64 fly, .int .i64 quota, .int .i64 body] 32
  obtain ⟨w0, hw0⟩ : ∃ w0, w.alloc (.cells #[.int .i64 n, .slice A l k, .int .i64 f, .int .i64 dmin, .int .i64 dmax, .int .i64 rho, .int .i64 slew, .int .i64 round, .int .i64 window, .int .i64 attend, .int .i64 seen, .int .i64 hist, .int .i64 fly, .int .i64 quota, .int .i64 body] 32) = w0 := ⟨_, rfl⟩
  have hs0 : w0.heap.size = w.heap.size + 1 := by rw [← hw0]; simp
  rw [hw0] at kb kx
  have HCN := Lib.hid (grNew n A k L hl hfit hm w0 (hA.below kb))
  have HT0 := hT.below kb
  have HCE := Lib.hid CE
  have HCT := Lib.hid CT
  have q0 := kx.1 0 _ rfl
  have q1 := kx.1 1 _ rfl
  have HK := Lib.hid (And.intro kb kx)
  clear CE CT hA hT kb kx
  by_cases hg : gErr n L = 0
  rotate_left
  · have HV : Hid (FN = 1) := by unfold Hid; rw [HF.out, if_pos (.inl hg)]
    have hne : ((gErr n L : Int) != 0) = true := by simp; omega
    go_enter Tryz.func56, Tryz.ntmps56
    go_wp2_with fail
    refine HCN.out.mono ?_
    rintro e w1 ⟨hb, -, h2⟩
    obtain rfl := h2 hg
    have HB := Lib.hid (HK.out.1.trans (hb.mono HK.out.1.size))
    clear hb h2
    generalize gErr n L = G at *
    go_wp2
    go_ret
    exact ⟨ret_int (by rw [HV.out]; rfl), HB.out⟩
  have hn9 := h9 hg
  obtain ⟨g1, g2, g3⟩ := gErr_zero hg
  have hpw := nearL_pow g3
  clear g3
  by_cases hn2 : n < 2
  · have HV : Hid (FN = 1) := by unfold Hid; rw [HF.out, if_pos (.inr hn2)]
    go_enter Tryz.func56, Tryz.ntmps56
    go_wp2_with fail
    refine HCN.out.mono ?_
    rintro e w1 ⟨hb, h1, -⟩
    obtain ⟨G, R, rfl, hG, -, -⟩ := h1 hg
    have q0' := (HK.out.2.keep hb).1 0 _ rfl
    have HB := Lib.hid (HK.out.1.trans (hb.mono HK.out.1.size))
    clear hb hG h1
    go_wp2
    go_ret
    exact ⟨ret_int (by rw [HV.out]; rfl), HB.out⟩
  obtain ⟨m, rfl⟩ : ∃ m : Nat, n = m := ⟨n.toNat, by omega⟩
  rw [Int.toNat_natCast] at HF
  have hnl := nearL_len m L
  have HF2 : Hid (FN = if safeB m (nr (nearL m L)) f = false then 2 else if EB = false then 3 else if TB = false then 4 else 0) := by
    unfold Hid; rw [HF.out, if_neg (by rintro (h | h); exact h hg; omega)]
  have HH := Lib.hid (And.intro hpw hnl)
  clear HF hpw hnl
  obtain ⟨SB, hSB⟩ : ∃ b, safeB m (nr (nearL m L)) f = b := ⟨_, rfl⟩
  rw [hSB] at HF2
  have HSB := Lib.hid hSB
  clear hSB
  cases SB
  · have HV : Hid (FN = 2) := by unfold Hid; rw [HF2.out]; rfl
    go_enter Tryz.func56, Tryz.ntmps56
    go_wp2_with fail
    refine HCN.out.mono ?_
    rintro e w1 ⟨hb, h1, -⟩
    obtain ⟨G, R, rfl, hG, -, -⟩ := h1 hg
    rw [Int.toNat_natCast] at hG
    have hx1 := HK.out.2.keep hb
    have q0' := hx1.1 0 _ rfl
    have q2' := hx1.1 2 _ rfl
    have CS := cSafe (w := w1) f (by rw [HH.out.2]; omega) (by rw [HH.out.2]; exact HH.out.1) hG (HT0.below hb)
    rw [HH.out.2, HSB.out] at CS
    have HCS := Lib.hid CS
    have HB1 := Lib.hid (And.intro (HK.out.1.trans (hb.mono HK.out.1.size)) hx1)
    clear hb hG h1 CS hx1
    go_wp2_with fail
    refine HCS.out.mono ?_
    rintro e w2 ⟨rfl, hb2⟩
    have HB2 := Lib.hid (And.intro (HB1.out.1.trans (hb2.mono HB1.out.1.size)) (HB1.out.2.keep hb2))
    clear hb2 HCS q0' q2'
    go_wp2
    go_ret
    exact ⟨ret_int (by rw [HV.out]; rfl), HB2.out.1⟩
  cases EB
  · have HV : Hid (FN = 3) := by unfold Hid; rw [HF2.out]; rfl
    go_enter Tryz.func56, Tryz.ntmps56
    go_wp2_with fail
    refine HCN.out.mono ?_
    rintro e w1 ⟨hb, h1, -⟩
    obtain ⟨G, R, rfl, hG, -, -⟩ := h1 hg
    rw [Int.toNat_natCast] at hG
    have hx1 := HK.out.2.keep hb
    have q0' := hx1.1 0 _ rfl
    have q2' := hx1.1 2 _ rfl
    have CS := cSafe (w := w1) f (by rw [HH.out.2]; omega) (by rw [HH.out.2]; exact HH.out.1) hG (HT0.below hb)
    rw [HH.out.2, HSB.out] at CS
    have HCS := Lib.hid CS
    have HB1 := Lib.hid (And.intro (HK.out.1.trans (hb.mono HK.out.1.size)) hx1)
    clear hb hG h1 CS hx1
    go_wp2_with fail
    refine HCS.out.mono ?_
    rintro e w2 ⟨rfl, hb2⟩
    have HB2 := Lib.hid (And.intro (HB1.out.1.trans (hb2.mono HB1.out.1.size)) (HB1.out.2.keep hb2))
    clear hb2 HCS q0' q2'
    have c0 := HB2.out.2.1 0 _ rfl
    have c1 := HB2.out.2.1 1 _ rfl
    have c2 := HB2.out.2.1 2 _ rfl
    have c3 := HB2.out.2.1 3 _ rfl
    have c4 := HB2.out.2.1 4 _ rfl
    have c5 := HB2.out.2.1 5 _ rfl
    have c6 := HB2.out.2.1 6 _ rfl
    have c7 := HB2.out.2.1 7 _ rfl
    have c8 := HB2.out.2.1 8 _ rfl
    have c9 := HB2.out.2.1 9 _ rfl
    have c10 := HB2.out.2.1 10 _ rfl
    have c11 := HB2.out.2.1 11 _ rfl
    have c12 := HB2.out.2.1 12 _ rfl
    have c13 := HB2.out.2.1 13 _ rfl
    have c14 := HB2.out.2.1 14 _ rfl
    go_wp2_with fail
    refine (HCE.out _).mono ?_
    rintro e w3 ⟨rfl, hb3⟩
    have HB3 := Lib.hid (And.intro (HB2.out.1.trans (hb3.mono HB2.out.1.size)) (HB2.out.2.keep hb3))
    clear hb3
    clear c0 c1 c2 c3 c4 c5 c6 c7 c8 c9 c10 c11 c12 c13 c14
    go_wp2
    go_ret
    exact ⟨ret_int (by rw [HV.out]; rfl), HB3.out.1⟩
  cases TB
  · have HV : Hid (FN = 4) := by unfold Hid; rw [HF2.out]; rfl
    go_enter Tryz.func56, Tryz.ntmps56
    go_wp2_with fail
    refine HCN.out.mono ?_
    rintro e w1 ⟨hb, h1, -⟩
    obtain ⟨G, R, rfl, hG, -, -⟩ := h1 hg
    rw [Int.toNat_natCast] at hG
    have hx1 := HK.out.2.keep hb
    have q0' := hx1.1 0 _ rfl
    have q2' := hx1.1 2 _ rfl
    have CS := cSafe (w := w1) f (by rw [HH.out.2]; omega) (by rw [HH.out.2]; exact HH.out.1) hG (HT0.below hb)
    rw [HH.out.2, HSB.out] at CS
    have HCS := Lib.hid CS
    have HB1 := Lib.hid (And.intro (HK.out.1.trans (hb.mono HK.out.1.size)) hx1)
    clear hb hG h1 CS hx1
    go_wp2_with fail
    refine HCS.out.mono ?_
    rintro e w2 ⟨rfl, hb2⟩
    have HB2 := Lib.hid (And.intro (HB1.out.1.trans (hb2.mono HB1.out.1.size)) (HB1.out.2.keep hb2))
    clear hb2 HCS q0' q2'
    have c0 := HB2.out.2.1 0 _ rfl
    have c1 := HB2.out.2.1 1 _ rfl
    have c2 := HB2.out.2.1 2 _ rfl
    have c3 := HB2.out.2.1 3 _ rfl
    have c4 := HB2.out.2.1 4 _ rfl
    have c5 := HB2.out.2.1 5 _ rfl
    have c6 := HB2.out.2.1 6 _ rfl
    have c7 := HB2.out.2.1 7 _ rfl
    have c8 := HB2.out.2.1 8 _ rfl
    have c9 := HB2.out.2.1 9 _ rfl
    have c10 := HB2.out.2.1 10 _ rfl
    have c11 := HB2.out.2.1 11 _ rfl
    have c12 := HB2.out.2.1 12 _ rfl
    have c13 := HB2.out.2.1 13 _ rfl
    have c14 := HB2.out.2.1 14 _ rfl
    go_wp2_with fail
    refine (HCE.out _).mono ?_
    rintro e w3 ⟨rfl, hb3⟩
    have HB3 := Lib.hid (And.intro (HB2.out.1.trans (hb3.mono HB2.out.1.size)) (HB2.out.2.keep hb3))
    clear hb3
    clear c0 c1 c2 c3 c4 c5 c6 c7 c8 c9 c10 c11 c12 c13 c14
    have c0 := HB3.out.2.1 0 _ rfl
    have c1 := HB3.out.2.1 1 _ rfl
    have c2 := HB3.out.2.1 2 _ rfl
    have c3 := HB3.out.2.1 3 _ rfl
    have c4 := HB3.out.2.1 4 _ rfl
    have c5 := HB3.out.2.1 5 _ rfl
    have c6 := HB3.out.2.1 6 _ rfl
    have c7 := HB3.out.2.1 7 _ rfl
    have c8 := HB3.out.2.1 8 _ rfl
    have c9 := HB3.out.2.1 9 _ rfl
    have c10 := HB3.out.2.1 10 _ rfl
    have c11 := HB3.out.2.1 11 _ rfl
    have c12 := HB3.out.2.1 12 _ rfl
    have c13 := HB3.out.2.1 13 _ rfl
    have c14 := HB3.out.2.1 14 _ rfl
    go_wp2_with fail
    refine (HCT.out _ rfl _).mono ?_
    rintro e w4 ⟨rfl, hb4⟩
    have HB4 := Lib.hid (HB3.out.1.trans (hb4.mono HB3.out.1.size))
    clear hb4
    clear c0 c1 c2 c3 c4 c5 c6 c7 c8 c9 c10 c11 c12 c13 c14
    go_wp2
    go_ret
    exact ⟨ret_int (by rw [HV.out]; rfl), HB4.out⟩
  · have HV : Hid (FN = 0) := by unfold Hid; rw [HF2.out]; rfl
    go_enter Tryz.func56, Tryz.ntmps56
    go_wp2_with fail
    refine HCN.out.mono ?_
    rintro e w1 ⟨hb, h1, -⟩
    obtain ⟨G, R, rfl, hG, -, -⟩ := h1 hg
    rw [Int.toNat_natCast] at hG
    have hx1 := HK.out.2.keep hb
    have q0' := hx1.1 0 _ rfl
    have q2' := hx1.1 2 _ rfl
    have CS := cSafe (w := w1) f (by rw [HH.out.2]; omega) (by rw [HH.out.2]; exact HH.out.1) hG (HT0.below hb)
    rw [HH.out.2, HSB.out] at CS
    have HCS := Lib.hid CS
    have HB1 := Lib.hid (And.intro (HK.out.1.trans (hb.mono HK.out.1.size)) hx1)
    clear hb hG h1 CS hx1
    go_wp2_with fail
    refine HCS.out.mono ?_
    rintro e w2 ⟨rfl, hb2⟩
    have HB2 := Lib.hid (And.intro (HB1.out.1.trans (hb2.mono HB1.out.1.size)) (HB1.out.2.keep hb2))
    clear hb2 HCS q0' q2'
    have c0 := HB2.out.2.1 0 _ rfl
    have c1 := HB2.out.2.1 1 _ rfl
    have c2 := HB2.out.2.1 2 _ rfl
    have c3 := HB2.out.2.1 3 _ rfl
    have c4 := HB2.out.2.1 4 _ rfl
    have c5 := HB2.out.2.1 5 _ rfl
    have c6 := HB2.out.2.1 6 _ rfl
    have c7 := HB2.out.2.1 7 _ rfl
    have c8 := HB2.out.2.1 8 _ rfl
    have c9 := HB2.out.2.1 9 _ rfl
    have c10 := HB2.out.2.1 10 _ rfl
    have c11 := HB2.out.2.1 11 _ rfl
    have c12 := HB2.out.2.1 12 _ rfl
    have c13 := HB2.out.2.1 13 _ rfl
    have c14 := HB2.out.2.1 14 _ rfl
    go_wp2_with fail
    refine (HCE.out _).mono ?_
    rintro e w3 ⟨rfl, hb3⟩
    have HB3 := Lib.hid (And.intro (HB2.out.1.trans (hb3.mono HB2.out.1.size)) (HB2.out.2.keep hb3))
    clear hb3
    clear c0 c1 c2 c3 c4 c5 c6 c7 c8 c9 c10 c11 c12 c13 c14
    have c0 := HB3.out.2.1 0 _ rfl
    have c1 := HB3.out.2.1 1 _ rfl
    have c2 := HB3.out.2.1 2 _ rfl
    have c3 := HB3.out.2.1 3 _ rfl
    have c4 := HB3.out.2.1 4 _ rfl
    have c5 := HB3.out.2.1 5 _ rfl
    have c6 := HB3.out.2.1 6 _ rfl
    have c7 := HB3.out.2.1 7 _ rfl
    have c8 := HB3.out.2.1 8 _ rfl
    have c9 := HB3.out.2.1 9 _ rfl
    have c10 := HB3.out.2.1 10 _ rfl
    have c11 := HB3.out.2.1 11 _ rfl
    have c12 := HB3.out.2.1 12 _ rfl
    have c13 := HB3.out.2.1 13 _ rfl
    have c14 := HB3.out.2.1 14 _ rfl
    go_wp2_with fail
    refine (HCT.out _ rfl _).mono ?_
    rintro e w4 ⟨rfl, hb4⟩
    have HB4 := Lib.hid (HB3.out.1.trans (hb4.mono HB3.out.1.size))
    clear hb4
    clear c0 c1 c2 c3 c4 c5 c6 c7 c8 c9 c10 c11 c12 c13 c14
    go_wp2
    go_ret
    exact ⟨ret_int (by rw [HV.out]; rfl), HB4.out⟩
theorem cCheck (c : Cn) (A : Option Addr) (l k : Nat) (L : List Pr) (hl : L.length = l) (hfit : ∀ x ∈ L, PrF x) (hm : l ≤ 9223372036854775807) (h9 : gErr c.n L = 0 → c.n < 9) (w : World) (hA : LinksAt w A L) (hT : T64 w) :
    Calls Tryz.prog 17 #[.agg (c.cells A l k).toArray] w fun e w' => e = .returned (.int .i64 (if faultN c L = 0 then 0 else 17)) ∧ Below w.heap.size w w' := by
  have CF := fun (W : World) (hW : Below w.heap.size w W) => cFault c A l k L hl hfit hm h9 W (hA.below hW) (hT.below hW)
  generalize faultN c L = FN at *
  obtain ⟨n, f, dmin, dmax, rho, slew, round, window, attend, seen, hist, fly, quota, body⟩ := c
  have kb := (Below.refl w.heap.size w).alloc (Nat.le_refl _) (.cells #[.int .i64 n, .slice A l k, .int .i64 f, .int .i64 dmin, .int .i64 dmax, .int .i64 rho, .int .i64 slew, .int .i64 round, .int .i64 window, .int .i64 attend, .int .i64 seen, .int .i64 hist, .int .i64 fly, .int .i64 quota, .int .i64 body] 32)
  have HC := Lib.hid (CF _ kb)
  have HB := Lib.hid kb
  clear CF kb
  by_cases h0 : FN = 0
  · subst h0
    go_enter Tryz.func17, Tryz.ntmps17
    go_wp2_with fail
    refine HC.out.mono ?_
    rintro e w1 ⟨rfl, hb⟩
    have HB1 := Lib.hid (HB.out.trans (hb.mono HB.out.size))
    clear hb
    go_wp2
    go_ret
    exact ⟨rfl, HB1.out⟩
  · have hne : ((FN : Int) != 0) = true := by simp; omega
    have HV : Hid ((if FN = 0 then (0 : Int) else 17) = 17) := if_neg h0
    go_enter Tryz.func17, Tryz.ntmps17
    go_wp2_with fail
    refine HC.out.mono ?_
    rintro e w1 ⟨rfl, hb⟩
    have HB1 := Lib.hid (HB.out.trans (hb.mono HB.out.size))
    clear hb
    go_wp2
    go_ret
    first | exact ⟨rfl, HB1.out⟩ | exact ⟨ret_int HV.out.symm, HB1.out⟩
end Go.Proofs.YteahiphmhaedpaaGreatDoor
