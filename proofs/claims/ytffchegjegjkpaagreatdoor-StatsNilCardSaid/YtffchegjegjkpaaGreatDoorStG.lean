/- A cluster that is nil has no numbers but those of events: the law's walk. -/
import Derived.Test.YtffchegjegjkpaaGreatDoorStE
import Derived.Test.YtffchegjegjkpaaGreatDoorStF
import Derived.Test.YtffchegjegjkpaaGreatDoorCfgJ
namespace Go.Proofs.YtffchegjegjkpaaGreatDoor
open Go.RowKit Law
set_option linter.unusedVariables false
set_option linter.unusedSimpArgs false
set_option maxRecDepth 100000

set_option maxHeartbeats 3200000 in
theorem traceCount1 {w : World} {B cp : Nat} (h : BoxF w B [.int .i64 0, .int .i64 0, .int .i64 2, .int .i64 0, .int .i64 0, .int .u32 0, .int .i64 0, .int .i64 0]) (kd : Int) (bb : Bool) (hb : ((2 : Int) == kd) = bb) (r : Int) (hr : r = if bb then 1 else 0) : Calls Tryz.prog 20 #[.slice (some ⟨B, 0, none⟩) 1 cp, .int .i64 kd] w fun e w' => e = .returned (.int .i64 r) ∧ Below w.heap.size w w' := by
  have H := Lib.hid h
  have hB := h.lt (by simp)
  clear h
  go_enter Tryz.func20, Tryz.ntmps20
  go_wp2
  go_loopw [5, 10] (fun s i wr => ((i = .int .i64 0 ∧ s = .int .i64 0) ∨ (i = .int .i64 1 ∧ s = .int .i64 r)) ∧ Below w.heap.size w wr) (fun _ i _ => 1 - (intOf i).toNat)
  case atStart => exact ⟨.inl ⟨rfl, rfl⟩, Below.refl _ _⟩
  case round =>
    obtain ⟨⟨rfl, rfl⟩ | ⟨rfl, rfl⟩, hbr⟩ := hrel
    · have k := H.out.keep hbr
      have g0 := k.1 0 _ rfl
      have g1 := k.1 1 _ rfl
      have g2 := k.1 2 _ rfl
      have g3 := k.1 3 _ rfl
      have g4 := k.1 4 _ rfl
      have g5 := k.1 5 _ rfl
      have g6 := k.1 6 _ rfl
      have g7 := k.1 7 _ rfl
      have HBR : Hid (Below w.heap.size w (wr.alloc (.cells #[.int .i64 0, .int .i64 0, .int .i64 2, .int .i64 0, .int .i64 0, .int .u32 0, .int .i64 0, .int .i64 0] 35))) := hbr.alloc hbr.size _
      clear k hbr
      cases bb with
      | true =>
        obtain rfl : r = 1 := hr
        go_wp2
        go_roundw
        case rel => exact ⟨.inr ⟨rfl, rfl⟩, HBR.out⟩
        case measure => simp [intOf]
      | false =>
        obtain rfl : r = 0 := hr
        go_wp2
        go_roundw
        case rel => exact ⟨.inr ⟨rfl, rfl⟩, HBR.out⟩
        case measure => simp [intOf]
    · have HF := Lib.hid hbr
      clear hbr
      go_wp2
      go_ret
      exact ⟨rfl, HF.out⟩
theorem stIn_nil {w : World} {B cp : Nat} (h : BoxF w B [.int .i64 0, .int .i64 0, .int .i64 2, .int .i64 0, .int .i64 0, .int .u32 0, .int .i64 0, .int .i64 0]) : StIn w (.pointer none) (.slice (some ⟨B, 0, none⟩) 1 cp) 0 0 0 1 0 0 :=
  { now := fun X _ => wNowN X,
     sent := fun X _ => wSentN X,
     lost := fun X _ => wLostN X,
     unf := fun X _ => wUnfN X,
     n := fun X _ => wNN X,
     up := fun i hi => absurd hi (Nat.not_lt_zero _),
     ph := fun i hi => absurd hi (Nat.not_lt_zero _),
     mem := fun i hi => absurd hi (Nat.not_lt_zero _),
     ref := fun e _ X _ => wRefN (e : Int) X,
     cn1 := fun X hX => traceCount1 (h.keep hX) 1 false rfl 0 rfl,
     cn2 := fun X hX => traceCount1 (h.keep hX) 2 true rfl 1 rfl,
     cn4 := fun X hX => traceCount1 (h.keep hX) 4 false rfl 0 rfl,
     cn6 := fun X hX => traceCount1 (h.keep hX) 6 false rfl 0 rfl }
theorem st_nil_one : ∀ v ∈ ([.int .i64 0, .int .i64 0, .int .i64 0, .int .i64 0, .int .i64 0, .int .i64 0, .int .i64 1, .int .i64 0, .int .i64 0, .int .i64 0, .int .i64 0, .int .i64 0, .int .i64 0, .int .i64 0, .int .i64 0, .int .i64 0, .int .i64 0, .int .i64 0, .int .i64 0, .int .i64 0, .int .i64 0, .int .i64 0, .int .i64 0, .int .i64 0, .int .i64 0, .int .i64 0, .int .i64 0, .int .i64 0, .int .i64 0, .int .i64 0, .int .i64 0, .int .i64 0] : List Value), v.oneCell' = true := by
  intro v hv
  simp at hv
  rcases hv with rfl | rfl | rfl <;> rfl
set_option maxHeartbeats 12800000 in
theorem walkStNil (n f dmin dmax rho slew round window attend seen hist fly quota body : Int) (A1 : Option Addr) (lk ck : Nat) (i : Int) (w : World) (hT : T64 w) : Calls Tryz.prog 3 #[.agg #[.int .i64 n, .slice A1 lk ck, .int .i64 f, .int .i64 dmin, .int .i64 dmax, .int .i64 rho, .int .i64 slew, .int .i64 round, .int .i64 window, .int .i64 attend, .int .i64 seen, .int .i64 hist, .int .i64 fly, .int .i64 quota, .int .i64 body], .int .i64 i] w fun e w' => e = .returned (.bool true) ∧ Below w.heap.size w w' := by
  have b1 := (Below.refl w.heap.size w).alloc (Nat.le_refl _) (.cells #[.int .i64 n, .slice A1 lk ck, .int .i64 f, .int .i64 dmin, .int .i64 dmax, .int .i64 rho, .int .i64 slew, .int .i64 round, .int .i64 window, .int .i64 attend, .int .i64 seen, .int .i64 hist, .int .i64 fly, .int .i64 quota, .int .i64 body] 24)
  have k1 := boxF_made w [.int .i64 n, .slice A1 lk ck, .int .i64 f, .int .i64 dmin, .int .i64 dmax, .int .i64 rho, .int .i64 slew, .int .i64 round, .int .i64 window, .int .i64 attend, .int .i64 seen, .int .i64 hist, .int .i64 fly, .int .i64 quota, .int .i64 body] 24
  obtain ⟨w1, hw1⟩ : ∃ x, w.alloc (.cells #[.int .i64 n, .slice A1 lk ck, .int .i64 f, .int .i64 dmin, .int .i64 dmax, .int .i64 rho, .int .i64 slew, .int .i64 round, .int .i64 window, .int .i64 attend, .int .i64 seen, .int .i64 hist, .int .i64 fly, .int .i64 quota, .int .i64 body] 24) = x := ⟨_, rfl⟩
  rw [hw1] at b1
  replace k1 : BoxF w1 w.heap.size [.int .i64 n, .slice A1 lk ck, .int .i64 f, .int .i64 dmin, .int .i64 dmax, .int .i64 rho, .int .i64 slew, .int .i64 round, .int .i64 window, .int .i64 attend, .int .i64 seen, .int .i64 hist, .int .i64 fly, .int .i64 quota, .int .i64 body] := hw1 ▸ k1
  have b2 := (Below.refl w1.heap.size w1).alloc (Nat.le_refl _) (.cells #[.int .i64 0, .int .i64 0, .int .i64 2, .int .i64 0, .int .i64 0, .int .u32 0, .int .i64 0, .int .i64 0] 35)
  have k2 := boxF_made w1 [.int .i64 0, .int .i64 0, .int .i64 2, .int .i64 0, .int .i64 0, .int .u32 0, .int .i64 0, .int .i64 0] 35
  obtain ⟨w2, hw2⟩ : ∃ x, w1.alloc (.cells #[.int .i64 0, .int .i64 0, .int .i64 2, .int .i64 0, .int .i64 0, .int .u32 0, .int .i64 0, .int .i64 0] 35) = x := ⟨_, rfl⟩
  rw [hw2] at b2
  replace k2 : BoxF w2 w1.heap.size [.int .i64 0, .int .i64 0, .int .i64 2, .int .i64 0, .int .i64 0, .int .u32 0, .int .i64 0, .int .i64 0] := hw2 ▸ k2
  have k12 := k1.keep b2
  have d0 := k12.1 0 _ rfl
  have d1 := k12.1 1 _ rfl
  have d2 := k12.1 2 _ rfl
  have d3 := k12.1 3 _ rfl
  have d4 := k12.1 4 _ rfl
  have d5 := k12.1 5 _ rfl
  have d6 := k12.1 6 _ rfl
  have d7 := k12.1 7 _ rfl
  have d8 := k12.1 8 _ rfl
  have d9 := k12.1 9 _ rfl
  have d10 := k12.1 10 _ rfl
  have d11 := k12.1 11 _ rfl
  have d12 := k12.1 12 _ rfl
  have d13 := k12.1 13 _ rfl
  have d14 := k12.1 14 _ rfl
  have H2 := Lib.hid (And.intro k12 (And.intro (b1.trans (b2.mono b1.size)) hT))
  have CO := Lib.hid (statsOf (stIn_nil (cp := 1) k2) (by decide))
  unfold StPost at CO
  rw [show stL 0 ((0 : Nat) : Int) 0 1 0 0 = [.int .i64 0, .int .i64 0, .int .i64 0, .int .i64 0, .int .i64 0, .int .i64 0, .int .i64 1, .int .i64 0, .int .i64 0, .int .i64 0, .int .i64 0, .int .i64 0, .int .i64 0, .int .i64 0, .int .i64 0, .int .i64 0, .int .i64 0, .int .i64 0, .int .i64 0, .int .i64 0, .int .i64 0, .int .i64 0, .int .i64 0, .int .i64 0, .int .i64 0, .int .i64 0, .int .i64 0, .int .i64 0, .int .i64 0, .int .i64 0, .int .i64 0, .int .i64 0] from rfl] at CO
  have heq : ∀ W, (binOp .eql 28 (.agg #[.int .i64 0, .int .i64 0, .int .i64 0, .int .i64 0, .int .i64 0, .int .i64 0, .int .i64 1, .int .i64 0, .int .i64 0, .int .i64 0, .int .i64 0, .int .i64 0, .int .i64 0, .int .i64 0, .int .i64 0, .int .i64 0, .int .i64 0, .int .i64 0, .int .i64 0, .int .i64 0, .int .i64 0, .int .i64 0, .int .i64 0, .int .i64 0, .int .i64 0, .int .i64 0, .int .i64 0, .int .i64 0, .int .i64 0, .int .i64 0, .int .i64 0, .int .i64 0]) (.agg #[.int .i64 0, .int .i64 0, .int .i64 0, .int .i64 0, .int .i64 0, .int .i64 0, .int .i64 1, .int .i64 0, .int .i64 0, .int .i64 0, .int .i64 0, .int .i64 0, .int .i64 0, .int .i64 0, .int .i64 0, .int .i64 0, .int .i64 0, .int .i64 0, .int .i64 0, .int .i64 0, .int .i64 0, .int .i64 0, .int .i64 0, .int .i64 0, .int .i64 0, .int .i64 0, .int .i64 0, .int .i64 0, .int .i64 0, .int .i64 0, .int .i64 0, .int .i64 0])).run Tryz.prog W = .ok (.bool true) W := fun W => by kernel_rfl
  have HB1 := Lib.hid b2
  clear k1 b1 k2 b2 k12 hT
  go_enter Tryz.func3, Tryz.ntmps3
  go_wp2_with fail
  refine CO.out.mono ?_
  rintro e w3 ⟨rfl, hb3⟩
  have H3 := Lib.hid (And.intro (H2.out.1.keep hb3) (H2.out.2.1.trans (hb3.mono H2.out.2.1.size)))
  have HZ := Lib.hid (boxF_made w3 [.int .i64 0, .int .i64 0, .int .i64 0, .int .i64 0, .int .i64 0, .int .i64 0, .int .i64 0, .int .i64 0, .int .i64 0, .int .i64 0, .int .i64 0, .int .i64 0, .int .i64 0, .int .i64 0, .int .i64 0, .int .i64 0, .int .i64 0, .int .i64 0, .int .i64 0, .int .i64 0, .int .i64 0, .int .i64 0, .int .i64 0, .int .i64 0, .int .i64 0, .int .i64 0, .int .i64 0, .int .i64 0, .int .i64 0, .int .i64 0, .int .i64 0, .int .i64 0] 28)
  have HZB : Hid (Below w3.heap.size w3 (w3.alloc (.cells #[.int .i64 0, .int .i64 0, .int .i64 0, .int .i64 0, .int .i64 0, .int .i64 0, .int .i64 0, .int .i64 0, .int .i64 0, .int .i64 0, .int .i64 0, .int .i64 0, .int .i64 0, .int .i64 0, .int .i64 0, .int .i64 0, .int .i64 0, .int .i64 0, .int .i64 0, .int .i64 0, .int .i64 0, .int .i64 0, .int .i64 0, .int .i64 0, .int .i64 0, .int .i64 0, .int .i64 0, .int .i64 0, .int .i64 0, .int .i64 0, .int .i64 0, .int .i64 0] 28))) := (Below.refl _ _).alloc (Nat.le_refl _) _
  have q3 := H3.out.1.keep HZB.out
  clear hw1 hw2 hb3 q3 d0 d1 d2 d3 d4 d5 d6 d7 d8 d9 d10 d11 d12 d13 d14
  go_wp2_with (refine wp_boxStore rfl 28 _ _ rfl w3.heap.size [.int .i64 0, .int .i64 0, .int .i64 0, .int .i64 0, .int .i64 0, .int .i64 0, .int .i64 0, .int .i64 0, .int .i64 0, .int .i64 0, .int .i64 0, .int .i64 0, .int .i64 0, .int .i64 0, .int .i64 0, .int .i64 0, .int .i64 0, .int .i64 0, .int .i64 0, .int .i64 0, .int .i64 0, .int .i64 0, .int .i64 0, .int .i64 0, .int .i64 0, .int .i64 0, .int .i64 0, .int .i64 0, .int .i64 0, .int .i64 0, .int .i64 0, .int .i64 0] [.int .i64 0, .int .i64 0, .int .i64 0, .int .i64 0, .int .i64 0, .int .i64 0, .int .i64 1, .int .i64 0, .int .i64 0, .int .i64 0, .int .i64 0, .int .i64 0, .int .i64 0, .int .i64 0, .int .i64 0, .int .i64 0, .int .i64 0, .int .i64 0, .int .i64 0, .int .i64 0, .int .i64 0, .int .i64 0, .int .i64 0, .int .i64 0, .int .i64 0, .int .i64 0, .int .i64 0, .int .i64 0, .int .i64 0, .int .i64 0, .int .i64 0, .int .i64 0] rfl rfl HZ.out rfl st_info st_nil_one ?_; intro w4 k4 hs4 F4; have hb4 := HZB.out.trans (frB_below F4 (Nat.le_refl _) HZB.out.size); have q4 := H3.out.1.keep hb4; have g0 := q4.1 0 _ rfl; have g1 := q4.1 1 _ rfl; have g2 := q4.1 2 _ rfl; have g3 := q4.1 3 _ rfl; have g4 := q4.1 4 _ rfl; have g5 := q4.1 5 _ rfl; have g6 := q4.1 6 _ rfl; have g7 := q4.1 7 _ rfl; have g8 := q4.1 8 _ rfl; have g9 := q4.1 9 _ rfl; have g10 := q4.1 10 _ rfl; have g11 := q4.1 11 _ rfl; have g12 := q4.1 12 _ rfl; have g13 := q4.1 13 _ rfl; have g14 := q4.1 14 _ rfl; clear q4)
  refine (statWinN n f dmin dmax rho slew round window attend seen hist fly quota body A1 lk ck i i w4).mono ?_
  rintro e w5 ⟨rfl, hb5⟩
  have hb35 := hb4.trans (hb5.mono hb4.size)
  have H5 := Lib.hid (And.intro (World.rangeAt_of (k4.keep hb5)) (And.intro (H3.out.1.keep hb35) (H3.out.2.trans (hb35.mono H3.out.2.size))))
  have q5 := H5.out.2.1
  clear k4 hs4 F4 hb4 hb5 hb35 g0 g1 g2 g3 g4 g5 g6 g7 g8 g9 g10 g11 g12 g13 g14
  have g0 := q5.1 0 _ rfl
  have g1 := q5.1 1 _ rfl
  have g2 := q5.1 2 _ rfl
  have g3 := q5.1 3 _ rfl
  have g4 := q5.1 4 _ rfl
  have g5 := q5.1 5 _ rfl
  have g6 := q5.1 6 _ rfl
  have g7 := q5.1 7 _ rfl
  have g8 := q5.1 8 _ rfl
  have g9 := q5.1 9 _ rfl
  have g10 := q5.1 10 _ rfl
  have g11 := q5.1 11 _ rfl
  have g12 := q5.1 12 _ rfl
  have g13 := q5.1 13 _ rfl
  have g14 := q5.1 14 _ rfl
  clear q5
  go_wp2_with (refine wpList_load_mid rfl 28 _ rfl w3.heap.size 0 rfl [.int .i64 0, .int .i64 0, .int .i64 0, .int .i64 0, .int .i64 0, .int .i64 0, .int .i64 1, .int .i64 0, .int .i64 0, .int .i64 0, .int .i64 0, .int .i64 0, .int .i64 0, .int .i64 0, .int .i64 0, .int .i64 0, .int .i64 0, .int .i64 0, .int .i64 0, .int .i64 0, .int .i64 0, .int .i64 0, .int .i64 0, .int .i64 0, .int .i64 0, .int .i64 0, .int .i64 0, .int .i64 0, .int .i64 0, .int .i64 0, .int .i64 0, .int .i64 0] _ H5.out.1 Tryz.underlying28 rfl st_info ?_)
  refine (statAgreeN n f dmin dmax rho slew round window attend seen hist fly quota body A1 lk ck i i w5).mono ?_
  rintro e w6 ⟨rfl, hb6⟩
  have H6 := Lib.hid (And.intro (H5.out.2.1.keep hb6) (H5.out.2.2.trans (hb6.mono H5.out.2.2.size)))
  have q5 := H6.out.1
  clear hb6 g0 g1 g2 g3 g4 g5 g6 g7 g8 g9 g10 g11 g12 g13 g14
  have g0 := q5.1 0 _ rfl
  have g1 := q5.1 1 _ rfl
  have g2 := q5.1 2 _ rfl
  have g3 := q5.1 3 _ rfl
  have g4 := q5.1 4 _ rfl
  have g5 := q5.1 5 _ rfl
  have g6 := q5.1 6 _ rfl
  have g7 := q5.1 7 _ rfl
  have g8 := q5.1 8 _ rfl
  have g9 := q5.1 9 _ rfl
  have g10 := q5.1 10 _ rfl
  have g11 := q5.1 11 _ rfl
  have g12 := q5.1 12 _ rfl
  have g13 := q5.1 13 _ rfl
  have g14 := q5.1 14 _ rfl
  clear q5
  go_wp2_with fail
  refine (statAlikeN n f dmin dmax rho slew round window attend seen hist fly quota body A1 lk ck i i w6).mono ?_
  rintro e w7 ⟨rfl, hb7⟩
  have H7 := Lib.hid (And.intro (H6.out.1.keep hb7) (H6.out.2.trans (hb7.mono H6.out.2.size)))
  have q5 := H7.out.1
  clear hb7 g0 g1 g2 g3 g4 g5 g6 g7 g8 g9 g10 g11 g12 g13 g14
  have g0 := q5.1 0 _ rfl
  have g1 := q5.1 1 _ rfl
  have g2 := q5.1 2 _ rfl
  have g3 := q5.1 3 _ rfl
  have g4 := q5.1 4 _ rfl
  have g5 := q5.1 5 _ rfl
  have g6 := q5.1 6 _ rfl
  have g7 := q5.1 7 _ rfl
  have g8 := q5.1 8 _ rfl
  have g9 := q5.1 9 _ rfl
  have g10 := q5.1 10 _ rfl
  have g11 := q5.1 11 _ rfl
  have g12 := q5.1 12 _ rfl
  have g13 := q5.1 13 _ rfl
  have g14 := q5.1 14 _ rfl
  clear q5
  go_wp2_with fail
  refine (statComplN n f dmin dmax rho slew round window attend seen hist fly quota body A1 lk ck i w7).mono ?_
  rintro e w8 ⟨rfl, hb8⟩
  have H8 := Lib.hid (H7.out.2.trans (hb8.mono H7.out.2.size))
  clear hb8 g0 g1 g2 g3 g4 g5 g6 g7 g8 g9 g10 g11 g12 g13 g14
  go_wp2_with fail
  refine (works55 w8 (H2.out.2.2.below H8.out)).mono ?_
  rintro e w9 ⟨rfl, hb9⟩
  have HF : Hid (Below w.heap.size w w9) := H8.out.trans (hb9.mono H8.out.size)
  clear hb9
  go_wp2
  go_ret
  exact ⟨rfl, HF.out⟩
end Go.Proofs.YtffchegjegjkpaaGreatDoor
