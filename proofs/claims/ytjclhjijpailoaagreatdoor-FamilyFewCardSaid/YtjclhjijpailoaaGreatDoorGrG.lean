/- cut: over all sets of few nodes; does a graph stay whole? -/
import Derived.Shelf.Strings.BuilderK
import Derived.Test.YtjclhjijpailoaaGreatDoorGrF
namespace Go.Proofs.YtjclhjijpailoaaGreatDoor
open Go.RowKit Law Go.Shelf
set_option linter.unusedVariables false
set_option linter.unusedSimpArgs false
set_option maxRecDepth 100000
attribute [local go_sem] Oper.semAt_some

theorem cEach (n f : Nat) (hn : n < 9) (hf : f < 4) (w : World) : Calls Tryz.prog 70 #[.int .i64 (n : Int), .int .i64 (f : Int)] w fun e w' =>
    e = .returned (.func (.func 82) #[] #[.pointer (some ⟨w.heap.size, 0, none⟩), .pointer (some ⟨w.heap.size + 1, 0, none⟩)]) ∧ BoxIs w.heap.size (.int .i64 (n : Int)) w' ∧ BoxIs (w.heap.size + 1) (.int .i64 (f : Int)) w' ∧ w'.heap.size = w.heap.size + 2 ∧ Below w.heap.size w w' := by
  have hm1 : max (n : Int) 0 = n := by omega
  have hm2 : min (n : Int) 64 = n := by omega
  go_enter Tryz.func70, Tryz.ntmps70
  go_wp2
  go_ret
  have h0 := boxIs_new w (.int .i64 (n : Int)) 3
  have h1 := boxIs_new (w.alloc (.cells #[.int .i64 (n : Int)] 3)) (.int .i64 (f : Int)) 3
  rw [World.size_alloc] at h1
  have h0' := box_alloc h0 (.cells #[.int .i64 (f : Int)] 3)
  exact ⟨rfl, h0', h1, by simp, ((Below.refl _ w).alloc (Nat.le_refl _) _).alloc (by simp) _⟩
theorem yieldAny {P : Program} {m m' l : Nat} {args : Array Value} {W : World} {R : Ending → World → Prop} (h : YieldAt Fence.wide m P l args W R) : YieldAt Fence.wide m' P l args W R := by
  obtain ⟨fn, tmps, assign, body, hy, hR⟩ := h
  exact ⟨fn, tmps, assign, body, hy, hR.1, fun c cs _ => hR.2 c cs (room_wide _)⟩
def listK (n k : Nat) : List Nat := (List.range k).flatMap (exactN n)
theorem listK_succ (n k : Nat) : listK n (k + 1) = listK n k ++ exactN n k := by
  unfold listK; rw [List.range_succ, List.flatMap_append]; simp
theorem listK_pre (n : Nat) {k j : Nat} (h : k ≤ j) : listK n k <+: listK n j := by
  induction j with
  | zero => obtain rfl : k = 0 := by omega
            exact List.prefix_rfl
  | succ j ih =>
    by_cases e : k = j + 1
    · subst e; exact List.prefix_rfl
    · rw [listK_succ]; exact (ih (by omega)).trans (List.prefix_append ..)
theorem listN_eq (n f : Nat) : listN n f = listK n (min n f + 1) := rfl
abbrev listU (n f : Nat) : List U64n := (listN n f).map toU
set_option maxHeartbeats 1600000 in
theorem eachStops (n f : Nat) (hn : n < 9) (hf : f < 4) (m B1 B2 : Nat) (w : World) (h1 : BoxIs B1 (.int .i64 (n : Int)) w) (h2 : BoxIs B2 (.int .i64 (f : Int)) w) :
    SeqStopsK Fence.wide m Tryz.prog 82 #[.pointer (some ⟨B1, 0, none⟩), .pointer (some ⟨B2, 0, none⟩)] encU (Below w.heap.size) (fun xs => xs = listU n f) (fun p => p <+: listU n f) (listN n f).length w := by
  intro l J Jx W hW hJ hJx hY h0
  have hY2 : ∀ (mm : Nat) (pre : List U64n) (x : U64n) (W1 : World), (J pre W1 ∧ Below w.heap.size w W1) → pre.length < (listN n f).length → YieldAt Fence.wide mm Tryz.prog l (encU x) W1 fun e W' => (e = .returned (.bool true) ∧ (J (pre ++ [x]) W' ∧ Below w.heap.size w W')) ∨ (e = .returned (.bool false) ∧ Jx (pre ++ [x]) W') := fun mm pre x W1 hj hl =>
    yieldAny ((hY pre x W1 hj.1 hl).mono fun e W' hp => by
      rcases hp with ⟨rfl, h3, h4⟩ | ⟨rfl, h3⟩
      · exact .inl ⟨rfl, h3, hj.2.trans h4⟩
      · exact .inr ⟨rfl, h3⟩)
  refine callsIn_of_wp Tryz.func82 rfl trivial ?_ rfl
  simp only [Tryz.ntmps82, List.size_toArray, List.length_cons, List.length_nil, Nat.reduceAdd, Nat.reduceSub, Array.replicate_succ, Array.replicate_zero, List.push_toArray, List.append_toArray, List.nil_append, List.cons_append]
  gi_wp2
  gi_loopw [4] (fun p wr => ∃ k : Nat, k ≤ min n f + 1 ∧ p = .int .i64 (k : Int) ∧ J ((listK n k).map toU) wr ∧ Below w.heap.size w wr) (fun p _ => 100 - (intOf p).toNat)
  case atStart => exact ⟨0, Nat.zero_le _, rfl, h0, hW⟩
  case round =>
    obtain ⟨k, hk, rfl, hJk, hb⟩ := hrel
    have c1 := (box_keep hb h1).1
    have c2 := (box_keep hb h2).1
    have hmin : min (n : Int) (f : Int) = ((min n f : Nat) : Int) := by omega
    obtain ⟨M, hM⟩ : ∃ M, min n f = M := ⟨_, rfl⟩
    rw [hM] at hk hmin
    have hN : listN n f = listK n (M + 1) := by rw [← hM]; rfl
    have hMf : M < 4 := by omega
    by_cases hlt : k ≤ M
    · have hpr := listK_pre n (show k + 1 ≤ M + 1 by omega)
      have CE := Lib.hid (fun mm => cExact n k hn (by omega) mm l (fun pre W => J pre W ∧ Below w.heap.size w W) Jx ((listK n k).map toU) (listN n f).length (by
        have h3 := hpr.length_le
        rw [listK_succ, List.length_append] at h3
        rw [List.length_map, hN]; exact h3) (fun pre x W1 hj hl => hY2 _ pre x W1 hj hl) wr ⟨hJk, hb⟩)
      have HS : Hid ((listK n k).map toU ++ (exactN n k).map toU = (listK n (k + 1)).map toU) := by unfold Hid; rw [listK_succ, List.map_append]
      have HPX : Hid (∀ p, p <+: (exactN n k).map toU → (listK n k).map toU ++ p <+: listU n f) := fun p hp => by
        unfold listU
        rw [hN]
        refine List.IsPrefix.trans ?_ (hpr.map toU)
        rw [← HS.out]
        exact (List.prefix_append_right_inj _).2 hp
      clear hY hY2 hpr hJk
      gi_wp2
      refine ⟨trivial, (fun h => by cases h), (CE.out _).mono ?_⟩
      rintro e W3 (⟨rfl, hJ3, hb3⟩ | ⟨rfl, p, hp, hJx3⟩)
      · rw [HS.out] at hJ3
        gi_wp2
        go_roundw
        case rel => exact ⟨k + 1, by omega, by go_num, hJ3, hb3⟩
        case measure => simp [intOf]; omega
      · have HQ := Lib.hid (HPX.out p hp)
        gi_wp2
        refine bodyPost_ret (results_none rfl _ _ _) rfl ?_
        exact ⟨⟨_, rfl⟩, .inr ⟨_, HQ.out, hJx3⟩⟩
    · obtain rfl : k = M + 1 := by omega
      have HQ : Hid (∃ xs, xs = listU n f ∧ J xs wr) := ⟨_, rfl, by unfold listU; rw [hN]; exact hJk⟩
      clear hY hY2 hJk
      gi_wp2
      go_end0
      exact ⟨⟨_, rfl⟩, .inl HQ.out⟩

/-! ### First, Safe -/
theorem list_lt : ∀ n : Nat, n < 9 → ∀ f : Nat, f < 4 → ∀ s ∈ listN n f, s < 2 ^ n := by decide +kernel
theorem listN_lt {n f : Nat} (hn : n < 9) (hf : f < 4) (s : Nat) (hs : s ∈ listN n f) : s < 18446744073709551616 := Nat.lt_of_lt_of_le (list_lt n hn f hf s hs) (Nat.pow_le_pow_right (by decide) (show n ≤ 64 by omega))
def hasCut (n : Nat) (near : Nat → Nat) (f : Nat) : Bool := (listN n f).any fun s => !wholeB n near s
def safeB (n : Nat) (near : Nat → Nat) (f : Int) : Bool := decide (0 ≤ f) && (decide (f ≤ 3) && (decide (f < n) && !hasCut n near f.toNat))
def FirstI (w : World) (G : Nat) (n : Nat) (near : Nat → Nat) (pre : List U64n) (W : World) : Prop :=
  (BoxIs w.heap.size (.pointer (some ⟨G, 0, none⟩)) W ∧ BoxIs (w.heap.size + 1) (.int .u64 0) W ∧ BoxIs (w.heap.size + 1 + 1) (.bool false) W ∧ (∀ s ∈ pre, wholeB n near s.1 = true) ∧ w.heap.size + 5 ≤ W.heap.size) ∧ Below w.heap.size w W
def FirstX (w : World) (n : Nat) (near : Nat → Nat) (c : Code) (pre : List U64n) (W : World) : Prop :=
  (c = .ret ∧ (∃ x : Nat, BoxIs (w.heap.size + 1) (.int .u64 (x : Int)) W) ∧ BoxIs (w.heap.size + 1 + 1) (.bool true) W ∧ (∃ s ∈ pre, wholeB n near s.1 = false)) ∧ Below w.heap.size w W
set_option maxHeartbeats 3200000 in
theorem cFirst {w : World} {G R : Nat} {near : List Nat} (f : Nat) (hn : near.length < 9) (hf : f < 4) (hnp : ∀ j, nr near j < 2 ^ near.length) (h : GrAt w G R near) (hTw : T64 w) :
    Calls Tryz.prog 62 #[.pointer (some ⟨G, 0, none⟩), .int .i64 (f : Int)] w fun e w' => (∃ x : Nat, e = .returned (.tuple #[.int .u64 (x : Int), .bool (hasCut near.length (nr near) f)])) ∧ Below w.heap.size w w' := by
  refine (callsIn_wide (n := 9)).1 ?_
  refine callsIn_of_wp_marks Tryz.func62 rfl trivial ?_ rfl
  simp only [Tryz.ntmps62, List.size_toArray, List.length_cons, List.length_nil, Nat.reduceAdd, Nat.reduceSub, Array.replicate_succ, Array.replicate_zero, List.push_toArray, List.append_toArray, List.nil_append, List.cons_append]
  have hb1 : Below w.heap.size w (((w.alloc (.cells #[.pointer (some ⟨G, 0, none⟩)] 50)).alloc (.cells #[.int .u64 0] 33)).alloc (.cells #[.bool false] 4)) := (((Below.refl _ w).alloc (Nat.le_refl _) _).alloc (by simp) _).alloc (by simp only [World.size_alloc]; omega) _
  have x0 := box_alloc (box_alloc (boxIs_new w (.pointer (some ⟨G, 0, none⟩)) 50) (.cells #[.int .u64 0] 33)) (.cells #[.bool false] 4)
  have x1 := box_alloc (boxIs_new (w.alloc (.cells #[.pointer (some ⟨G, 0, none⟩)] 50)) (.int .u64 0) 33) (.cells #[.bool false] 4)
  have x2 := boxIs_new ((w.alloc (.cells #[.pointer (some ⟨G, 0, none⟩)] 50)).alloc (.cells #[.int .u64 0] 33)) (.bool false) 4
  simp only [World.size_alloc] at x1 x2
  obtain ⟨W1, hW1⟩ : ∃ W1, ((w.alloc (.cells #[.pointer (some ⟨G, 0, none⟩)] 50)).alloc (.cells #[.int .u64 0] 33)).alloc (.cells #[.bool false] 4) = W1 := ⟨_, rfl⟩
  have hsz1 : W1.heap.size = w.heap.size + 3 := by rw [← hW1]; simp
  rw [hW1] at hb1 x0 x1 x2
  have c0 := x0.1
  have CN := Lib.hid (grN (h.keep hb1))
  have hmin : min (f : Int) 3 = (f : Int) := by omega
  gi_wp2
  refine ⟨trivial, (callsIn_wide.2 CN.out).mono ?_⟩
  rintro e w' ⟨rfl, rfl⟩
  gi_wp2
  refine ⟨trivial, (callsIn_wide.2 (cEach near.length f hn hf _)).mono ?_⟩
  rintro e W2 ⟨rfl, e1, e2, hsz2, hb2⟩
  rw [hsz1] at e1 e2 hsz2 hb2
  gi_wp2
  have H0 := Lib.hid h
  refine wpIn_rangeFunc_ownF rfl (by omega) (gf := 82) (lb := #[.pointer (some ⟨w.heap.size + 3, 0, none⟩), .pointer (some ⟨w.heap.size + 3 + 1, 0, none⟩)]) (by simp [Act.eval]) trivial (enters_of Tryz.func82 (by kernel_rfl) rfl) (eachStops near.length f hn hf _ _ _ W2 e1 e2)
    belowK_t (belowK_b (Nat.le_refl _)) (Below.refl _ _) (fun _ => rfl) (FirstI w G near.length (nr near)) (FirstX w near.length (nr near))
    ?hI ?hIx ?h0 (fun x => { tmps := #[.pointer (some ⟨G, 0, none⟩), .int .i64 (f : Int), .pointer (some ⟨w.heap.size, 0, none⟩), undef, .pointer (some ⟨w.heap.size + 1, 0, none⟩), .pointer (some ⟨w.heap.size + 1 + 1, 0, none⟩), .int .u64 (x.1 : Int), .pointer (some ⟨G, 0, none⟩), .int .i64 (near.length : Int), .int .i64 (f : Int), .int .i64 (f : Int), .func (.func 82) #[] #[.pointer (some ⟨w.heap.size + 3, 0, none⟩), .pointer (some ⟨w.heap.size + 3 + 1, 0, none⟩)], .int .u64 (x.1 : Int), undef, undef, undef, undef], defers := [] }) ?assign ?body ?done ?stop
  case hI =>
    refine OwnFrom.and (Own.from (fun s A B row hs hg hr => ?_) _) (ownFrom_below (Nat.le_refl _) (by omega))
    exact ⟨⟨cell_kept hs.1.1 hg hr, (frozen_kept hs.1.1 hg hr).trans hs.1.2⟩, ⟨cell_kept hs.2.1.1 hg hr, (frozen_kept hs.2.1.1 hg hr).trans hs.2.1.2⟩, ⟨cell_kept hs.2.2.1.1 hg hr, (frozen_kept hs.2.2.1.1 hg hr).trans hs.2.2.1.2⟩, hs.2.2.2.1, Nat.le_trans hs.2.2.2.2 hg.size⟩
  case hIx =>
    intro c
    refine OwnFrom.and (Own.from (fun s A B row hs hg hr => ?_) _) (ownFrom_below (Nat.le_refl _) (by omega))
    obtain ⟨hc, ⟨x, hx⟩, hy, hz⟩ := hs
    exact ⟨hc, ⟨x, cell_kept hx.1 hg hr, (frozen_kept hx.1 hg hr).trans hx.2⟩, ⟨cell_kept hy.1 hg hr, (frozen_kept hy.1 hg hr).trans hy.2⟩, hz⟩
  case h0 => exact ⟨⟨box_keep (hb2.mono (by omega)) x0, box_keep (hb2.mono (by omega)) x1, box_keep (hb2.mono (by omega)) x2, fun s hs => by simp at hs, by omega⟩, hb1.trans (hb2.mono (by omega))⟩
  case assign =>
    intro l x W K hK
    simp only [encU]
    gi_wp2
    exact hK
  case body =>
    rintro l pre x W ⟨⟨b0, b1, b2, hall, hsW⟩, hb⟩ hlt
    have d0 := b0.1
    have d1 := b1.1
    have d2 := b2.1
    have d3 := b1.2
    have d4 := b2.2
    have CC := Lib.hid (rCuts x.1 x.2 hnp (H0.out.keep hb) (hTw.below hb))
    have HB := Lib.hid (And.intro b0 (And.intro b1 (And.intro b2 hb)))
    have hlt1 := b1.lt
    have hlt2 := b2.lt
    have hW2 : W2.heap.size = w.heap.size + 5 := by omega
    have HSW := Lib.hid hsW
    cases hq : wholeB near.length (nr near) x.1
    · rw [hq] at CC
      have HX : Hid (∃ s ∈ pre ++ [x], wholeB near.length (nr near) s.1 = false) := ⟨x, by simp, hq⟩
      clear hq hall b0 b1 b2 hb
      gi_wp2
      refine ⟨trivial, (CallsIn.inRound l (callsIn_wide.2 CC.out)).mono ?_⟩
      rintro e W3 ⟨rfl, hb3⟩
      have HK := Lib.hid (keeps_of_below hb3)
      have y0 := box_keep hb3 HB.out.1
      have y1 := box_keep hb3 HB.out.2.1
      have y2 := box_keep hb3 HB.out.2.2.1
      have c1 := y1.1
      have c2 := y2.1
      have c3 := y1.2
      have c4 := y2.2
      have HY := Lib.hid (And.intro y1 (And.intro y2 (HB.out.2.2.2.trans (hb3.mono HB.out.2.2.2.size))))
      clear hb3 y1 y2 y0 d0 d1 d2 d3 d4
      gi_wp2
      refine ⟨HK.out.trans ((KeepsOthers.setCell _ _ _).trans (KeepsOthers.setCell _ _ _)), ⟨rfl, ⟨x.1, ?_⟩, ?_, HX.out⟩, (HY.out.2.2.setCell (p := ⟨w.heap.size + 1, 0, none⟩) (by simp) _).setCell (p := ⟨w.heap.size + 1 + 1, 0, none⟩) (by simp only []; omega) _⟩
      · exact BoxIs.kept ⟨World.cell?_setCell_same' _ _ _ (by rw [HY.out.1.1]; rfl), by rw [World.frozen?_setCell]; exact HY.out.1.2⟩ (Below.heap_setCell _ _ _ _ (by simp))
      · have hz := HY.out.2.1.kept (Below.heap_setCell W3 ⟨w.heap.size + 1, 0, none⟩ (.int .u64 (x.1 : Int)) (w.heap.size + 1 + 1) (by simp))
        exact ⟨World.cell?_setCell_same' _ _ _ (by rw [hz.1]; rfl), by rw [World.frozen?_setCell]; exact hz.2⟩
    · rw [hq] at CC
      have HX : Hid (∀ s ∈ pre ++ [x], wholeB near.length (nr near) s.1 = true) := fun s hs => by
        rcases List.mem_append.1 hs with hs | hs
        · exact hall s hs
        · simp at hs; subst hs; exact hq
      clear hq hall b0 b1 b2 hb
      gi_wp2
      refine ⟨trivial, (CallsIn.inRound l (callsIn_wide.2 CC.out)).mono ?_⟩
      rintro e W3 ⟨rfl, hb3⟩
      have HK := Lib.hid (keeps_of_below hb3)
      have HY := Lib.hid (And.intro (box_keep hb3 HB.out.1) (And.intro (box_keep hb3 HB.out.2.1) (And.intro (box_keep hb3 HB.out.2.2.1) (HB.out.2.2.2.trans (hb3.mono HB.out.2.2.2.size)))))
      have HKp : Hid (Below W2.heap.size W W3) := hb3.mono (by omega)
      clear hb3
      gi_wp2
      exact ⟨HK.out, HKp.out, ⟨HY.out.1, HY.out.2.1, HY.out.2.2.1, HX.out, Nat.le_trans HSW.out HK.out.size⟩, HY.out.2.2.2⟩
  case done =>
    rintro D xs W hD rfl ⟨⟨b0, b1, b2, hall, hsW⟩, hb⟩ hK
    have d1 := b1.1
    have d2 := b2.1
    have d3 := b1.2
    have d4 := b2.2
    have hlt1 := b1.lt
    have hlt2 := b2.lt
    have HV : Hid (hasCut near.length (nr near) f = false) := by
      unfold Hid hasCut
      rw [List.any_eq_false]
      intro s hs
      have h1 := hall (toU s) (List.mem_map.2 ⟨s, hs, rfl⟩)
      rw [toU_val (listN_lt hn hf s hs)] at h1
      simp [h1]
    have HB := Lib.hid (And.intro b1 (And.intro b2 hb))
    have HD : Hid (w.heap.size + 5 ≤ D) := by unfold Hid; omega
    clear b0 b1 b2 hb hall
    have hKf := (KeepsOthers.setCell (W.setCell ⟨w.heap.size + 1, 0, none⟩ (.int .u64 0)) ⟨w.heap.size + 1 + 1, 0, none⟩ (.bool false)).same D _ ((KeepsOthers.setCell W ⟨w.heap.size + 1, 0, none⟩ (.int .u64 0)).same D _ hK rfl) rfl
    have r1 : ((W.setCell ⟨w.heap.size + 1, 0, none⟩ (.int .u64 0)).setCell ⟨w.heap.size + 1 + 1, 0, none⟩ (.bool false)).cell? ⟨w.heap.size + 1, 0, none⟩ = some (.int .u64 0) := by
      rw [World.cell?_setCell_other _ _ _ _ (by simp)]; exact World.cell?_setCell_same' _ _ _ (by rw [HB.out.1.1]; rfl)
    have r2 : ((W.setCell ⟨w.heap.size + 1, 0, none⟩ (.int .u64 0)).setCell ⟨w.heap.size + 1 + 1, 0, none⟩ (.bool false)).cell? ⟨w.heap.size + 1 + 1, 0, none⟩ = some (.bool false) :=
      World.cell?_setCell_same' _ _ _ (by rw [World.cell?_setCell_other _ _ _ _ (by simp), HB.out.2.1.1]; rfl)
    have hbf := (HB.out.2.2.setCell (p := ⟨w.heap.size + 1, 0, none⟩) (by simp) (.int .u64 0)).setCell (p := ⟨w.heap.size + 1 + 1, 0, none⟩) (by simp only []; omega) (.bool false)
    gi_wp2
    refine ⟨by simp, .inl ⟨_, _, rfl, run_takeDeferred hKf, ?_⟩⟩
    refine ⟨.tuple #[.int .u64 0, .bool false], ?_, ⟨0, by first | (rw [HV.out]; done) | (rw [HV.out]; rfl)⟩, hbf.trans (belowK_b (w := w) (Nat.le_refl _) _ D _ _ (by have := HD.out; omega) hKf rfl rfl)⟩
    have e1 := cell_kept r1 (grownBy_putObj' _ D (.deferred none)) (fun r e => by cases e; exact ⟨_, hKf, rfl⟩)
    have e2 := cell_kept r2 (grownBy_putObj' _ D (.deferred none)) (fun r e => by cases e; exact ⟨_, hKf, rfl⟩)
    simp [results, Tryz.results62, go_sem, e1, e2]
  case stop =>
    rintro D c pre W hD hp ⟨⟨rfl, ⟨x, b1⟩, b2, s, hs, hw⟩, hb⟩ hKf
    have d1 := b1.1
    have d2 := b2.1
    have HV : Hid (hasCut near.length (nr near) f = true) := by
      unfold Hid hasCut
      rw [List.any_eq_true]
      obtain ⟨y, hy, rfl⟩ := List.mem_map.1 (hp.subset hs)
      rw [toU_val (listN_lt hn hf y hy)] at hw
      exact ⟨y, hy, by simp [hw]⟩
    have HD : Hid (w.heap.size + 5 ≤ D) := by unfold Hid; omega
    gi_wp2
    refine ⟨by simp, .inl ⟨_, _, rfl, run_takeDeferred hKf, ?_⟩⟩
    refine ⟨.tuple #[.int .u64 (x : Int), .bool true], ?_, ⟨x, by first | (rw [HV.out]; done) | (rw [HV.out]; rfl)⟩, hb.trans (belowK_b (w := w) (Nat.le_refl _) _ D _ _ (by have := HD.out; omega) hKf rfl rfl)⟩
    have e1 := cell_kept d1 (grownBy_putObj' _ D (.deferred none)) (fun r e => by cases e; exact ⟨_, hKf, rfl⟩)
    have e2 := cell_kept d2 (grownBy_putObj' _ D (.deferred none)) (fun r e => by cases e; exact ⟨_, hKf, rfl⟩)
    simp [results, Tryz.results62, go_sem, e1, e2]
set_option maxHeartbeats 800000 in
theorem cSafe {w : World} {G R : Nat} {near : List Nat} (f : Int) (hn : near.length < 9) (hnp : ∀ j, nr near j < 2 ^ near.length) (h : GrAt w G R near) (hTw : T64 w) :
    Calls Tryz.prog 49 #[.pointer (some ⟨G, 0, none⟩), .int .i64 f] w fun e w' => e = .returned (.bool (safeB near.length (nr near) f)) ∧ Below w.heap.size w w' := by
  have CN := Lib.hid (grN h)
  have HS : Hid (safeB near.length (nr near) f = (decide (0 ≤ f) && (decide (f ≤ 3) && (decide (f < near.length) && !hasCut near.length (nr near) f.toNat)))) := rfl
  by_cases h0 : f < 0
  · have HX : Hid (safeB near.length (nr near) f = false) := by unfold Hid; rw [HS.out, decide_eq_false (by omega)]; rfl
    go_enter Tryz.func49, Tryz.ntmps49
    go_wp2
    go_ret
    exact ⟨ret_bool (by rw [HX.out]), Below.refl _ _⟩
  by_cases h3 : f > 3
  · have HX : Hid (safeB near.length (nr near) f = false) := by unfold Hid; rw [HS.out, decide_eq_false (p := f ≤ 3) (by omega)]; simp
    go_enter Tryz.func49, Tryz.ntmps49
    go_wp2
    go_ret
    exact ⟨ret_bool (by rw [HX.out]), Below.refl _ _⟩
  obtain ⟨k, rfl⟩ : ∃ k : Nat, f = k := ⟨f.toNat, by omega⟩
  by_cases hl : (near.length : Int) ≤ (k : Int)
  · have HX : Hid (safeB near.length (nr near) (k : Int) = false) := by unfold Hid; rw [HS.out, decide_eq_false (p := (k : Int) < near.length) (by omega)]; simp
    generalize near.length = n at *
    go_enter Tryz.func49, Tryz.ntmps49
    go_wp2_with fail
    refine CN.out.mono ?_
    rintro e w1 ⟨rfl, rfl⟩
    go_wp2
    go_ret
    exact ⟨ret_bool (by rw [HX.out]), Below.refl _ _⟩
  · have CF := Lib.hid (cFirst k hn (by omega) hnp h hTw)
    have HX : Hid (safeB near.length (nr near) (k : Int) = !hasCut near.length (nr near) k) := by
      unfold Hid; rw [HS.out, decide_eq_true (p := (k : Int) < near.length) (by omega), decide_eq_true (p := (k : Int) ≤ 3) (by omega), decide_eq_true (p := (0 : Int) ≤ (k : Int)) (by omega)]; simp
    generalize hasCut near.length (nr near) k = hc at *
    generalize near.length = n at *
    go_enter Tryz.func49, Tryz.ntmps49
    go_wp2_with fail
    refine CN.out.mono ?_
    rintro e w1 ⟨rfl, rfl⟩
    go_wp2_with fail
    refine CF.out.mono ?_
    rintro e w1 ⟨⟨x, rfl⟩, hb⟩
    go_wp2
    go_ret
    exact ⟨ret_bool (by rw [HX.out]), hb⟩
end Go.Proofs.YtjclhjijpailoaaGreatDoor
