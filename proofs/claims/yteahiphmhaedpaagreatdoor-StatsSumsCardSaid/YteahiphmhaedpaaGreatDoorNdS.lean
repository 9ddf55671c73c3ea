/- What several texts of this seat lean on, joined: NdT NdU SeqNone NdV NdY NdZ. -/
import Derived.Test.YteahiphmhaedpaaGreatDoorNdL
import Derived.Test.YteahiphmhaedpaaGreatDoorNdO
import Derived.Test.YteahiphmhaedpaaGreatDoorBase
import Derived.Below
namespace Go.Proofs.YteahiphmhaedpaaGreatDoor
open Go.RowKit Law
set_option linter.unusedVariables false
set_option linter.unusedSimpArgs false
set_option maxRecDepth 100000

/-- All blocks but some are as they were. -/
structure FrL (l : List Nat) (w w' : World) : Prop where
  os : w'.os = w.os
  tape : w'.tape = w.tape
  output : w'.output = w.output
  size : w.heap.size ≤ w'.heap.size
  block : ∀ k, k < w.heap.size → k ∉ l → w'.heap[k]? = w.heap[k]?
theorem FrL.refl (l : List Nat) (w : World) : FrL l w w := ⟨rfl, rfl, rfl, Nat.le_refl _, fun _ _ _ => rfl⟩
theorem FrL.trans {l : List Nat} {u v w : World} (h : FrL l u v) (k : FrL l v w) : FrL l u w :=
  ⟨k.os.trans h.os, k.tape.trans h.tape, k.output.trans h.output, Nat.le_trans h.size k.size, fun i hi hn => (k.block i (Nat.lt_of_lt_of_le hi h.size) hn).trans (h.block i hi hn)⟩
theorem FrL.of {l : List Nat} {w w' : World} (h : Below w.heap.size w w') : FrL l w w' := ⟨h.os, h.tape, h.output, h.size, fun k hk _ => h.block k hk⟩
theorem FrL.ofB {l : List Nat} {b : Nat} {w w' : World} (h : FrB b w w') (hb : b ∈ l) : FrL l w w' := ⟨h.os, h.tape, h.output, h.size, fun k hk hn => h.block k hk (fun e => hn (e ▸ hb))⟩
theorem FrL.mono {l l' : List Nat} {w w' : World} (h : FrL l w w') (hs : ∀ k ∈ l, k ∈ l') : FrL l' w w' := ⟨h.os, h.tape, h.output, h.size, fun k hk hn => h.block k hk (fun e => hn (hs k e))⟩
theorem FrL.below {l : List Nat} {B : Nat} {w w' : World} (h : FrL l w w') (hl : ∀ k ∈ l, B ≤ k) (hB : B ≤ w.heap.size) : Below B w w' := ⟨h.os, h.tape, h.output, h.size, fun k hk => h.block k (by omega) (fun e => by have := hl k e; omega)⟩
theorem rateIncM (w : World) : Calls Tryz.prog 141 #[.int .i64 1152921504606846976] w fun e w' => e = .returned (.int .i64 1048576) ∧ w = w' := by
  have C := Lib.hid (spanClamp 1152921504606846976 (-1024) 1047552)
  go_enter Tryz.func141, Tryz.ntmps141
  go_wp2_with fail
  refine (C.out _).mono ?_
  rintro e w1 ⟨rfl, rfl⟩
  rw [show clampI 1152921504606846976 (-1024) 1047552 = 1047552 from rfl]
  go_wp2
  go_ret
  exact ⟨rfl, rfl⟩
theorem clamp_in {x lo hi : Int} (h0 : lo ≤ x) (h1 : x ≤ hi) : clampI x lo hi = x := by unfold clampI; rw [if_neg (by omega), if_neg (by omega)]
theorem slewPart0 (m inc : Int) (w : World) : Calls Tryz.prog 260 #[.agg #[.int .i64 0, .int .i64 m], .int .i64 inc] w fun e w' => e = .returned (.int .i64 0) ∧ Below w.heap.size w w' := by
  have hb : Below w.heap.size w (w.alloc (.cells #[.int .i64 0, .int .i64 m] 285)) := (Below.refl _ _).alloc (Nat.le_refl _) _
  have HB := Lib.hid hb
  clear hb
  go_enter Tryz.func260, Tryz.ntmps260
  go_wp2
  go_ret
  exact ⟨rfl, HB.out⟩
def StepPost (s : Nat) (m inc : Int) (w : World) (e : Ending) (w' : World) : Prop := e = .returned (.int .i64 inc) ∧ BoxF w' s [.int .i64 0, .int .i64 m] ∧ FrB s w w'
theorem slewStep0 {w : World} {s : Nat} {m : Int} (h : BoxF w s [.int .i64 0, .int .i64 m]) (inc : Int) (h0 : 0 ≤ inc) (h1 : inc ≤ 1048576) :
    Calls Tryz.prog 190 #[.pointer (some ⟨s, 0, none⟩), .int .i64 inc] w (StepPost s m inc w) := by
  have C := fun W => spanClamp inc 0 1048576 W
  rw [clamp_in h0 h1] at C
  have C := Lib.hid C
  have C1 := Lib.hid (slewPart0 m inc w)
  have c0 := h.1 0 _ rfl
  have c1 := h.1 1 _ rfl
  have H := Lib.hid h
  clear h
  go_enter Tryz.func190, Tryz.ntmps190
  go_wp2_with fail
  refine (C.out _).mono ?_
  rintro e w1 ⟨rfl, rfl⟩
  go_wp2_with fail
  refine C1.out.mono ?_
  rintro e w1 ⟨rfl, hb⟩
  have k := H.out.keep hb
  have d0 := k.1 0 _ rfl
  have f0 := k.2 0 (by simp)
  have k1 := k.put 0 (by simp) (.int .i64 0)
  simp only [List.set_cons_zero] at k1
  have HF : Hid (StepPost s m inc w (.returned (.int .i64 inc)) (w1.setCell ⟨s, 0, none⟩ (.int .i64 0))) := ⟨rfl, k1, (FrB.of hb).trans (FrB.set _ _ _ _)⟩
  clear k k1 hb
  go_wp2
  go_ret
  exact HF.out
def TickPost (b s : Nat) (ph a' m d : Int) (z : Value) (w : World) (e : Ending) (w' : World) : Prop := e = .returned (.int .i64 d) ∧ BoxF w' b [.pointer (some ⟨s, 0, none⟩), .int .i64 ph, .int .i64 a', z] ∧ BoxF w' s [.int .i64 0, .int .i64 m] ∧ FrL [b, s] w w'
set_option maxHeartbeats 1600000 in
theorem clockTick0 {w : World} {b s : Nat} {ph a m : Int} {z : Value} (h : BoxF w b [.pointer (some ⟨s, 0, none⟩), .int .i64 ph, .int .i64 a, z]) (hs : BoxF w s [.int .i64 0, .int .i64 m]) (hne : b ≠ s) (hp : ph ≠ 0) (ha0 : 0 ≤ a) (ha1 : a ≤ 1152921504606846976) (inc : Int) (h0 : 0 ≤ inc) (h1 : inc ≤ 1048576) :
    Calls Tryz.prog 142 #[.pointer (some ⟨b, 0, none⟩), .int .i64 inc] w (TickPost b s ph (clampI (a + inc) 0 1152921504606846976) m (clampI (a + inc) 0 1152921504606846976 - a) z w) := by
  have CA := Lib.hid (clockPhase h)
  have CB := Lib.hid (slewStep0 hs inc h0 h1)
  have hp' : (ph == 0) = false := beq_eq_false_iff_ne.2 hp
  have c0 := h.1 0 _ rfl
  have c2 := h.1 2 _ rfl
  have H := Lib.hid (And.intro h (And.intro hs hne))
  have C := fun W => spanClamp (a + inc) 0 1152921504606846976 W
  have hv0 : 0 ≤ clampI (a + inc) 0 1152921504606846976 ∧ clampI (a + inc) 0 1152921504606846976 ≤ 1152921504606846976 := by unfold clampI; split <;> (try split) <;> omega
  obtain ⟨v, hv⟩ : ∃ v, clampI (a + inc) 0 1152921504606846976 = v := ⟨_, rfl⟩
  rw [hv] at C hv0 ⊢
  obtain ⟨hv0, hv1⟩ := hv0
  have CT : ∀ W, Calls Tryz.prog 189 #[.int .i64 (a + inc)] W fun e w' => e = .returned (.int .i64 v) ∧ W = w' := fun W => by
    have C := Lib.hid (C W)
    go_enter Tryz.func189, Tryz.ntmps189
    go_wp2_with fail
    refine C.out.mono ?_
    rintro e w1 ⟨rfl, rfl⟩
    go_wp2
    go_ret
    exact ⟨rfl, rfl⟩
  have CT := Lib.hid CT
  clear h hs hne hp C hv
  go_enter Tryz.func142, Tryz.ntmps142
  go_wp2_with fail
  refine CA.out.mono ?_
  rintro e w1 ⟨rfl, rfl⟩
  go_wp2_with fail
  refine CB.out.mono ?_
  rintro e w1 ⟨rfl, k1, F1⟩
  have k2 := F1.box H.out.1 (by simp) H.out.2.2
  have d2 := k2.1 2 _ rfl
  have f2 := k2.2 2 (by simp)
  have k3 := k2.put 2 (by simp) (.int .i64 v)
  simp only [List.set_cons_succ, List.set_cons_zero] at k3
  have HF : Hid (TickPost b s ph v m (v - a) z w (.returned (.int .i64 (v - a))) (w1.setCell ⟨b, 2, none⟩ (.int .i64 v))) :=
    ⟨rfl, k3, k1.other (a := ⟨b, 2, none⟩) (fun e => H.out.2.2 e) _, (FrL.ofB F1 (by simp)).trans (FrL.ofB (FrB.set _ _ _ _) (by simp))⟩
  clear k1 k2 k3 F1
  go_wp2_with fail
  refine (CT.out _).mono ?_
  rintro e w2 ⟨rfl, rfl⟩
  go_wp2
  go_ret
  exact HF.out
/-- The blocks that time turns. -/
def tickB (b : NdO) : List Nat := [b.N, b.clk, b.slw]
def AdvPost (lo : Nat) (b : NdO) (c : Cn) (x : NV) (s : NS) (inc : Int) (w : World) (e : Ending) (w' : World) : Prop := e = .returned (.tuple #[]) ∧ NodeAt w' lo b c { x with hard := min (x.hard + inc) 1152921504606846976 } { s with at_ := clampI (s.at_ + inc) 0 1152921504606846976 } ∧ FrL (tickB b) w w'
theorem NodeAt.ticked {w w' : World} {lo : Nat} {b : NdO} {c : Cn} {x x' : NV} {s s' : NS} (h : NodeAt w lo b c x s) (F : FrL (tickB b) w w') (k1 : NdBox w' b c x') (k2 : BoxF w' b.slw [.int .i64 s'.left, .int .i64 (clampI c.slew 1 256)]) (k3 : BoxF w' b.clk [pB b.slw, .int .i64 s'.ph, .int .i64 s'.at_, .int .i64 c.slew]) (e1 : s'.seq = s.seq) (e2 : s'.js = s.js) (e3 : s'.jf = s.jf) (e4 : s'.jc = s.jc) (e5 : s'.vw = s.vw) (e6 : x'.id = x.id) : NodeAt w' lo b c x' s' := by
  obtain ⟨o0, o1, o2, o3, o4, o5, o6, o7, o8, o9, o10, o11, o12, o13, o14, o15, o16, o17, o18, o19, o20⟩ := h.ord
  have hk : ∀ k, k < w.heap.size → k ≠ b.N → k ≠ b.clk → k ≠ b.slw → w'.heap[k]? = w.heap[k]? := fun k h0 h1 h2 h3 => F.block k h0 (by unfold tickB; simp only [List.mem_cons, List.not_mem_nil, or_false, not_or]; exact ⟨h1, h2, h3⟩)
  refine ⟨k1, ?_, k2, k3, h.tmp.same (hk _ (by omega) (by omega) (by omega) (by omega)), h.tab.same (hk _ (by omega) (by omega) (by omega) (by omega)), h.sen.same (hk _ (by omega) (by omega) (by omega) (by omega)), ?_, h.htm.same (hk _ (by omega) (by omega) (by omega) (by omega)), h.htb.same (hk _ (by omega) (by omega) (by omega) (by omega)), h.hq.same (hk _ (by omega) (by omega) (by omega) (by omega)), h.hst.same (hk _ (by omega) (by omega) (by omega) (by omega)), h.quo.same (hk _ (by omega) (by omega) (by omega) (by omega)), h.rom.same (hk _ (by omega) (by omega) (by omega) (by omega)), h.rol.same (hk _ (by omega) (by omega) (by omega) (by omega)), ?_, ?_, h.lg.same (hk _ (by omega) (by omega) (by omega) (by omega)), h.pim.same (hk _ (by omega) (by omega) (by omega) (by omega)), ?_, h.ord.mono F.size⟩
  · rw [e1]; exact h.ser.same (hk _ (by omega) (by omega) (by omega) (by omega))
  · rw [e6]; exact h.rel.same (hk _ (by omega) (by omega) (by omega) (by omega))
  · rw [e2, e3, e4]; exact h.jn.same (hk _ (by omega) (by omega) (by omega) (by omega))
  · rw [e5]; exact h.vws.same (hk _ (by omega) (by omega) (by omega) (by omega))
  · rw [e6]; exact h.pie.same (hk _ (by omega) (by omega) (by omega) (by omega))
set_option maxHeartbeats 3200000 in
theorem nodeAdvance {w : World} {lo : Nat} {b : NdO} {c : Cn} {x : NV} {s : NS} (h : NodeAt w lo b c x s) (hl : s.left = 0) (hp : s.ph ≠ 0) (ha0 : 0 ≤ s.at_) (ha1 : s.at_ ≤ 1152921504606846976) (hh0 : 0 ≤ x.hard) (hh1 : x.hard ≤ 1152921504606846976) (inc : Int) (h0 : 0 ≤ inc) (h1 : inc ≤ 1048576) :
    Calls Tryz.prog 83 #[.pointer (some ⟨b.N, 0, none⟩), .int .i64 inc] w (AdvPost lo b c x s inc w) := by
  have hslw := h.slw
  rw [hl] at hslw
  have CI := Lib.hid (fun W => rateIncM W)
  have CC := fun W => spanClamp inc 0 1048576 W
  rw [clamp_in h0 h1] at CC
  have CC := Lib.hid CC
  have c34 := h.box.cell 34 _ rfl
  have f34 := h.box.fz 34 (by decide)
  have O2 := h.ord.o2
  have O3 := h.ord.o3
  have n1 := h.box.putA (x' := { x with hard := min (x.hard + inc) 1152921504606846976 }) 34 (.int .i64 (min (x.hard + inc) 1152921504606846976)) (by decide) rfl rfl rfl rfl rfl
  have hslw1 := hslw.other (a := ⟨b.N, 34, none⟩) (fun e => by have e' : b.N = b.slw := e; omega) (.int .i64 (min (x.hard + inc) 1152921504606846976))
  have hclk1 := h.clk.other (a := ⟨b.N, 34, none⟩) (fun e => by have e' : b.N = b.clk := e; omega) (.int .i64 (min (x.hard + inc) 1152921504606846976))
  have F1 : FrL (tickB b) w (w.setCell ⟨b.N, 34, none⟩ (.int .i64 (min (x.hard + inc) 1152921504606846976))) := FrL.ofB (FrB.set _ _ _ _) (by unfold tickB; simp)
  obtain ⟨hd, hhd⟩ : ∃ hd, min (x.hard + inc) 1152921504606846976 = hd := ⟨_, rfl⟩
  have HM : Hid (∀ y : Int, y = min (x.hard + inc) 1152921504606846976 → y = hd) := fun y hy => hy.trans hhd
  rw [hhd] at n1 hslw1 hclk1 F1
  obtain ⟨w1, hw1⟩ : ∃ w1, w.setCell ⟨b.N, 34, none⟩ (.int .i64 hd) = w1 := ⟨_, rfl⟩
  rw [hw1] at n1 hslw1 hclk1 F1
  have CT := Lib.hid (clockTick0 hclk1 hslw1 (by omega) hp ha0 ha1 inc h0 h1)
  have d35 := n1.cell 35 _ rfl
  have HP : Hid (∀ e w', (e = .returned (.tuple #[]) ∧ NodeAt w' lo b c { x with hard := hd } { s with at_ := clampI (s.at_ + inc) 0 1152921504606846976 } ∧ FrL (tickB b) w w') → AdvPost lo b c x s inc w e w') := fun e w' h => by unfold AdvPost; rw [hhd]; exact h
  have H := Lib.hid (And.intro h (And.intro n1 (And.intro F1 hl)))
  have hx0 : ∃ y, x.hard = y := ⟨_, rfl⟩
  obtain ⟨xh, hxh⟩ := hx0
  rw [hxh] at c34 hh0 hh1 hhd
  obtain ⟨N, hN⟩ : ∃ N, b.N = N := ⟨_, rfl⟩
  have HN := Lib.hid hN
  rw [hN] at c34 f34 hw1 d35 ⊢
  have hsum : min (xh + inc) 1152921504606846976 = hd := hhd
  clear h hslw n1 hslw1 hclk1 F1 hN hhd O2 O3 hl hp hxh
  go_enter Tryz.func83, Tryz.ntmps83
  go_wp2_with fail
  refine (CI.out _).mono ?_
  rintro e w' ⟨rfl, rfl⟩
  go_wp2_with fail
  refine (CC.out _).mono ?_
  rintro e w' ⟨rfl, rfl⟩
  go_wp2_with fail
  refine CT.out.mono ?_
  rintro e w2 ⟨rfl, k1, k2, F2⟩
  have HF : Hid (AdvPost lo b c x s inc w (.returned (.tuple #[])) w2) := by
    have F2' : FrL (tickB b) w1 w2 := F2.mono (by intro k hk; simp only [List.mem_cons, List.not_mem_nil, or_false] at hk; unfold tickB; simp only [List.mem_cons, List.not_mem_nil, or_false]; rcases hk with rfl | rfl <;> simp)
    have O := H.out.1.ord
    have O2 := O.o2
    have O3 := O.o3
    have n2 : NdBox w2 b c { x with hard := hd } := H.out.2.1.kept (F2.block _ H.out.2.1.lt (by simp only [List.mem_cons, List.not_mem_nil, or_false, not_or]; exact ⟨by omega, by omega⟩))
    have F := H.out.2.2.1.trans F2'
    refine HP.out _ _ ⟨rfl, H.out.1.ticked F n2 ?_ k1 rfl rfl rfl rfl rfl rfl, F⟩
    show BoxF w2 b.slw [.int .i64 s.left, _]
    rw [H.out.2.2.2]
    exact k2
  clear k1 k2 F2
  go_wp2
  refine bodyPost_ret (v := .tuple #[]) (by simp [results, Tryz.results83, go_sem]) rfl HF.out
end Go.Proofs.YteahiphmhaedpaaGreatDoor

namespace Go.Proofs.YteahiphmhaedpaaGreatDoor
open Go.RowKit Law
set_option linter.unusedVariables false
set_option linter.unusedSimpArgs false
set_option maxRecDepth 100000

theorem drewN_below (w : World) (n : Nat) : Below w.heap.size w (w.drewN n) := below_draws (Below.refl _ _) n
/-- A callee that only reads, in a region that draws. -/
theorem quietly {f : FuncId} {args : Array Value} {w : World} {v : Value} (h : ∀ W, Below w.heap.size w W → Calls Tryz.prog f args W fun e w' => e = .returned v ∧ W = w') (n : Nat) : Calls Tryz.prog f args (w.drewN n) fun e w' => e = .returned v ∧ w' = w.drewN n :=
  (h _ (drewN_below w n)).mono fun _ _ hh => ⟨hh.1, hh.2.symm⟩
theorem perTime (x : Int) (w : World) : Calls Tryz.prog 244 #[.int .i64 x] w fun e w' => e = .returned (.int .i64 (min (max x 0) 1152921504606846976)) ∧ w = w' := by
  have C := fun W => perWithin x 0 1152921504606846976 W
  obtain ⟨v, hv⟩ : ∃ v, min (max x 0) 1152921504606846976 = v := ⟨_, rfl⟩
  rw [hv] at C ⊢
  have C := Lib.hid C
  clear hv
  go_enter Tryz.func244, Tryz.ntmps244
  go_wp2_with fail
  refine (C.out _).mono ?_
  rintro e w1 ⟨rfl, rfl⟩
  go_wp2
  go_ret
  exact ⟨rfl, rfl⟩
/-- A period whose numbers are within their bounds. -/
structure PerOk (e d : Int) : Prop where
  e0 : 1 ≤ e
  e1 : e ≤ 1099511627776
  d0 : 0 ≤ d
  d1 : d ≤ 1099511627776
theorem perOk (e d : Int) : PerOk (perEvery e) (perDelta d) := by
  unfold perEvery perDelta
  exact ⟨by omega, by omega, by omega, by omega⟩
theorem perInfo : (Tryz.prog.info? 131).map (·.size) = some 2 := by kernel_rfl
set_option maxHeartbeats 1600000 in
theorem perOwn {e d : Int} (h : PerOk e d) (w : World) : Calls Tryz.prog 296 #[.agg #[.int .i64 e, .int .i64 d]] w fun en w' => en = .returned (.agg #[.int .i64 e, .int .i64 d]) ∧ Below w.heap.size w w' := by
  have C := fun W => perNew e d W
  rw [show perEvery e = e by unfold perEvery; have := h.e0; have := h.e1; omega, show perDelta d = d by unfold perDelta; have := h.d0; have := h.d1; omega] at C
  have C := Lib.hid C
  have k0 := boxF_made w [.int .i64 e, .int .i64 d] 131
  have b0 : Below w.heap.size w (w.alloc (.cells #[.int .i64 e, .int .i64 d] 131)) := (Below.refl _ _).alloc (Nat.le_refl _) _
  have k1 := boxF_made (w.alloc (.cells #[.int .i64 e, .int .i64 d] 131)) [.int .i64 0, .int .i64 0] 131
  have b1 := (Below.refl (w.alloc (.cells #[.int .i64 e, .int .i64 d] 131)).heap.size (w.alloc (.cells #[.int .i64 e, .int .i64 d] 131))).alloc (Nat.le_refl _) (.cells #[.int .i64 0, .int .i64 0] 131)
  have hs0 : (w.alloc (.cells #[.int .i64 e, .int .i64 d] 131)).heap.size = w.heap.size + 1 := by simp
  have k0' := k0.keep b1
  have b01 := b0.trans (b1.mono b0.size)
  rw [hs0] at k1
  obtain ⟨w1, hw1⟩ : ∃ w1, (w.alloc (.cells #[.int .i64 e, .int .i64 d] 131)).alloc (.cells #[.int .i64 0, .int .i64 0] 131) = w1 := ⟨_, rfl⟩
  rw [hw1] at b01 k0'
  rw [show (w.alloc (.cells #[.int .i64 e, .int .i64 d] 131)).alloc (.cells [.int .i64 0, .int .i64 0].toArray 131) = w1 from hw1] at k1
  have kc0 := k0'.1 0 _ rfl
  have kc1 := k0'.1 1 _ rfl
  have H := Lib.hid (And.intro k0' (And.intro k1 b01))
  clear k0 k0' k1 b0 b1 b01 h hs0
  go_enter Tryz.func296, Tryz.ntmps296
  go_wp2_with fail
  refine (C.out _).mono ?_
  rintro en w2 ⟨rfl, hb2⟩
  have k3 := boxF_made w2 [.int .i64 e, .int .i64 d] 131
  have b3 := (Below.refl w2.heap.size w2).alloc (Nat.le_refl _) (.cells #[.int .i64 e, .int .i64 d] 131)
  obtain ⟨w3, hw3⟩ : ∃ w3, w2.alloc (.cells #[.int .i64 e, .int .i64 d] 131) = w3 := ⟨_, rfl⟩
  rw [hw3] at b3
  rw [show w2.alloc (.cells [.int .i64 e, .int .i64 d].toArray 131) = w3 from hw3] at k3
  have b13 := hb2.trans (b3.mono hb2.size)
  have q0 := H.out.1.keep b13
  have q1 := H.out.2.1.keep b13
  have kd0 := q0.1 0 _ rfl
  have kd1 := q0.1 1 _ rfl
  have ke0 := k3.1 0 _ rfl
  have ke1 := k3.1 1 _ rfl
  have kf0 := q1.1 0 _ rfl
  have kf1 := q1.1 1 _ rfl
  have kg0 := q1.2 0 (by simp)
  have kg1 := q1.2 1 (by simp)
  have q2 := (q1.put 0 (by simp) (.int .i64 e)).put 1 (by simp) (.int .i64 d)
  simp only [List.set_cons_succ, List.set_cons_zero] at q2
  have hB3 := H.out.2.2.trans (b13.mono H.out.2.2.size)
  have hB4 : Below w.heap.size w ((w3.setCell ⟨w.heap.size + 1, 0, none⟩ (.int .i64 e)).setCell ⟨w.heap.size + 1, 1, none⟩ (.int .i64 d)) := (hB3.setCell (by simp) _).setCell (by simp) _
  obtain ⟨w4, hw4⟩ : ∃ w4, (w3.setCell ⟨w.heap.size + 1, 0, none⟩ (.int .i64 e)).setCell ⟨w.heap.size + 1, 1, none⟩ (.int .i64 d) = w4 := ⟨_, rfl⟩
  rw [hw4] at q2 hB4
  have hld : (loadVar 131 ⟨w.heap.size + 1, 0, none⟩).run Tryz.prog w4 = .ok (.agg #[.int .i64 e, .int .i64 d]) w4 :=
    run_loadVar_mid w4 (w.heap.size + 1) 0 131 [.int .i64 e, .int .i64 d] _ (fun j v hj => by rw [Nat.zero_add]; exact q2.1 j v hj) Tryz.underlying131 rfl perInfo
  have HB := Lib.hid hB4
  clear hb2 k3 b3 b13 q0 q1 q2 hB3 hB4
  go_wp2
  refine bodyPost_ret (v := .agg #[.int .i64 e, .int .i64 d]) (by simp [results, Tryz.results296, asAddr, hld]) rfl ⟨rfl, HB.out⟩
theorem roundNo {w : World} {r : Nat} {no : Int} {x : Value} (h : BoxF w r [.int .i64 no, x]) : Calls Tryz.prog 224 #[.pointer (some ⟨r, 0, none⟩)] w fun e w' => e = .returned (.int .i64 no) ∧ w = w' := by
  have c0 := h.1 0 _ rfl
  clear h
  go_enter Tryz.func224, Tryz.ntmps224
  go_wp2
  go_ret
  exact ⟨rfl, rfl⟩
theorem ret_ib {a b : Int} (h : a = b) (t : Bool) : Ending.returned (.tuple #[.int .i64 a, .bool t]) = .returned (.tuple #[.int .i64 b, .bool t]) := by rw [h]
theorem roundWhen1 (every : Nat) (h : every ≤ 1152921504606846976) (w : World) : Calls Tryz.prog 291 #[.int .i64 1, .int .i64 (every : Int)] w fun e w' => e = .returned (.tuple #[.int .i64 (every : Int), .bool true]) ∧ w = w' := by
  have d0 : 1 * every / 18446744073709551616 = 0 := by omega
  have d1 : 1 * every % 18446744073709551616 = every := by omega
  have C3 : Calls Tryz.prog 353 #[.int .u64 1, .int .u64 (every : Int)] w fun e w' => e = .returned (.tuple #[.int .u64 0, .int .u64 (every : Int)]) ∧ w = w' :=
    (Tryz.bits_Mul64 1 every (by omega) (by omega) w).mono fun e w' h => ⟨by rw [h.1, d0, d1]; rfl, h.2.symm⟩
  have C3 := Lib.hid C3
  clear d0 d1
  have hev : every < 9223372036854775808 := by omega
  have HV := Lib.hid h
  clear h
  go_enter Tryz.func291, Tryz.ntmps291
  go_wp2_with fail
  refine C3.out.mono ?_
  rintro e w' ⟨rfl, rfl⟩
  have f3 : (1152921504606846976 < every) = False := eq_false (by have := HV.out; omega)
  have f4 : ((1152921504606846976 : Int) < (every : Int)) = False := eq_false (by have := HV.out; omega)
  have f1 : decide ((every : Int) < 9223372036854775808) = true := decide_eq_true (by omega)
  have f5 : Hid (wrap64 (every : Int) = every) := by unfold Hid wrap64; omega
  clear hev
  go_wp2
  go_ret2
  exact ⟨ret_ib f5.out true, rfl⟩
theorem len_nomap2 {w : World} {m : Nat} (t ty : TypeId) (h : NoMap w m) (ht : Tryz.prog.underlying t = some (.map (Tryz.prog.mapKeyOf t) (Tryz.prog.mapElemOf t))) : (Builtin.len_ #[t] ty #[.map (some m)]).run Tryz.prog w = .ok (.int .i64 0) w := by
  rw [run_len_map w t ty m #[] 0 ht h]
  rfl
theorem pieceSome0 {w : World} {p m : Nat} {x y z : Value} (h : BoxF w p [x, y, z, .map (some m)]) (hm : NoMap w m) : Calls Tryz.prog 308 #[.pointer (some ⟨p, 0, none⟩)] w fun e w' => e = .returned (.bool false) ∧ w = w' := by
  have c3 := h.1 3 _ rfl
  have hl := len_nomap2 238 3 hm (by kernel_rfl)
  clear h hm
  go_enter Tryz.func308, Tryz.ntmps308
  go_wp2
  go_ret
  exact ⟨rfl, rfl⟩
theorem pieceNo0 {w : World} {p m : Nat} {x y z : Value} (h : BoxF w p [x, y, z, .map (some m)]) (hm : NoMap w m) : Calls Tryz.prog 241 #[.pointer (some ⟨p, 0, none⟩)] w fun e w' => e = .returned (.tuple #[.int .i64 0, .bool false]) ∧ w = w' := by
  have C := Lib.hid (pieceSome0 h hm)
  clear h hm
  go_enter Tryz.func241, Tryz.ntmps241
  go_wp2_with fail
  refine C.out.mono ?_
  rintro e w1 ⟨rfl, rfl⟩
  go_wp2
  go_ret2
  exact ⟨rfl, rfl⟩
end Go.Proofs.YteahiphmhaedpaaGreatDoor

namespace Go.Proofs.YteahiphmhaedpaaGreatDoor
open Go Go.RowKit
set_option linter.unusedVariables false
set_option linter.unusedSimpArgs false

theorem wp_rangeNone {P : Program} {n : Nat} {g : Operand} {ps : Array Tmp} {assign body : Code} {Q : Exit → Act → World → Prop} {a : Act} {w : World} {gf : Nat} {caps : Array Value}
    (hg : a.eval g = .func (.func gf) #[] caps) (eg : ∀ args w, (callFunc gf args).run P w = .ok (.enter gf args) w)
    (hseq : ∀ (m l : Nat) (W : World), Below w.heap.size w W → CallsIn Fence.wide m P gf (#[.func (.yield l) #[] #[]] ++ caps) W fun e W' => (∃ v, e = .returned v) ∧ Below W.heap.size W W')
    (hdone : ∀ (D : Nat) (W : World), w.heap.size ≤ D → Below w.heap.size w W → W.heap[D]? = some (.deferred (some [])) → Q .normal { a with defers := { target := .collected D, args := #[] } :: a.defers } W) :
    (Code.rangeFunc g ps assign body).wpIn Fence.wide n P Q a w := by
  refine wpIn_rangeFunc ?_
  intro fn hfn
  obtain ⟨rec, hrec⟩ : ∃ rec : LoopState → Option Code → Loop, rec = fun st pe => { state := st, pending := pe, fn, tmps := a.tmps, params := ps, assign, body, defers := w.heap.size } := ⟨_, rfl⟩
  have hb1 : Below w.heap.size w ((w.alloc (.deferred (some []))).alloc (.loop (rec .ready none))) := ((Below.refl _ _).alloc (Nat.le_refl _) _).alloc (by simp) _
  obtain ⟨W1, hW1⟩ : ∃ W1, (w.alloc (.deferred (some []))).alloc (.loop (rec .ready none)) = W1 := ⟨_, rfl⟩
  have hL1 : W1.heap[w.heap.size + 1]? = some (.loop (rec .ready none)) := by
    have := World.alloc_heap_new (w.alloc (.deferred (some []))) (.loop (rec .ready none))
    rwa [World.size_alloc, hW1] at this
  have hK1 : W1.heap[w.heap.size]? = some (.deferred (some [])) := by
    rw [← hW1]; exact (Below.heap_alloc _ _ _ (by simp)).trans (World.alloc_heap_new w _)
  rw [hW1] at hb1
  refine ⟨w.heap.size + 1, [{ target := .collected w.heap.size, args := #[] }], W1, { target := .fn (.func gf) caps, args := #[.func (.yield (w.heap.size + 1)) #[] #[]] }, W1, gf,
    #[.func (.yield (w.heap.size + 1)) #[] #[]] ++ caps, W1, ?_, ?_, fun _ _ => trivial, ?_, (fun h => by cases h), ?_⟩
  · rw [← hW1, hrec]; exact run_enterLoop_outer _ _ _ _ _
  · simp only [resolve, hg]
    simp [go_sem]
  · simp [invoke, go_sem, eg]
  refine (hseq (n - 1) (w.heap.size + 1) W1 hb1).mono ?_
  rintro e W2 ⟨⟨v, rfl⟩, hb2⟩
  have hl : W2.heap[w.heap.size + 1]? = some (.loop (rec .ready none)) := (hb2.block _ (Array.getElem?_eq_some_iff.1 hL1).1).trans hL1
  have hk : W2.heap[w.heap.size]? = some (.deferred (some [])) := (hb2.block _ (Array.getElem?_eq_some_iff.1 hK1).1).trans hK1
  have hb12 := hb1.trans (hb2.mono hb1.size)
  refine ⟨none, _, by have := run_endLoop (P := P) hl (by rw [hrec]; simp); rw [hrec] at this; exact this, hdone _ _ (Nat.le_refl _) ?_ ((World.putObj_heap_other (by omega)).trans hk)⟩
  exact ⟨hb12.os, hb12.tape, hb12.output, by simpa using hb12.size, fun k hk => (World.putObj_heap_other (by omega)).trans (hb12.block k hk)⟩
end Go.Proofs.YteahiphmhaedpaaGreatDoor

namespace Go.Proofs.YteahiphmhaedpaaGreatDoor
open Go.RowKit Law
set_option linter.unusedVariables false
set_option linter.unusedSimpArgs false
set_option maxRecDepth 100000

theorem keyClone0 (w : World) : Calls Tryz.prog 395 #[.slice none 0 0] w fun e w' => e = .returned (.slice none 0 0) ∧ w = w' := by
  have hq : ∀ W, (binOp .eql 291 (.slice none 0 0) (.slice none 0 0)).run Tryz.prog W = .ok (.bool true) W := fun W => by kernel_rfl
  go_enter Tryz.func395, Tryz.ntmps395
  go_wp2
  go_ret
  exact ⟨rfl, rfl⟩
theorem tabAllI (t : Nat) (w : World) : Calls Tryz.prog 351 #[.pointer (some ⟨t, 0, none⟩)] w fun e w' => e = .returned (.func (.func 394) #[] #[.pointer (some ⟨w.heap.size, 0, none⟩)]) ∧ w' = w.alloc (.cells #[.pointer (some ⟨t, 0, none⟩)] 286) := by
  go_enter Tryz.func351, Tryz.ntmps351
  go_wp2
  go_ret
  exact ⟨rfl, rfl⟩
theorem tabAllNone {W : World} {t B l : Nat} (hB : W.cell? ⟨B, 0, none⟩ = some (.pointer (some ⟨t, 0, none⟩))) (ht : W.cell? ⟨t, 0, none⟩ = some (.slice none 0 0)) :
    Calls Tryz.prog 394 #[.func (.yield l) #[] #[], .pointer (some ⟨B, 0, none⟩)] W fun e w' => (∃ v, e = .returned v) ∧ Below W.heap.size W w' := by
  go_enter Tryz.func394, Tryz.ntmps394
  go_wp2_with fail
  refine (keyClone0 _).mono ?_
  rintro e w' ⟨rfl, rfl⟩
  go_wp2
  refine wp_loop_rounds 1 ?_
  rw [rounds_succ]
  go_wp2
  go_end0
  exact ⟨⟨_, rfl⟩, Below.refl _ _⟩
set_option maxHeartbeats 1600000 in
theorem tabDrop0 {w : World} {t : Nat} (ht : w.cell? ⟨t, 0, none⟩ = some (.slice none 0 0)) (fn : Fn) (cv : Array Value) :
    Calls Tryz.prog 289 #[.pointer (some ⟨t, 0, none⟩), .func fn #[] cv] w fun e w' => e = .returned (.int .i64 0) ∧ Below w.heap.size w w' := by
  refine (callsIn_wide (n := 9)).1 ?_
  refine callsIn_of_wp_marks Tryz.func289 rfl trivial ?_ rfl
  simp only [Tryz.ntmps289, List.size_toArray, List.length_cons, List.length_nil, Nat.reduceAdd, Nat.reduceSub, Array.replicate_succ, Array.replicate_zero, List.push_toArray, List.append_toArray, List.nil_append, List.cons_append]
  gi_wp2
  refine ⟨trivial, (callsIn_wide.2 (tabAllI t _)).mono ?_⟩
  rintro e w' ⟨rfl, hw'⟩
  have hb0 : Below w.heap.size w (((w.alloc (.cells #[.pointer (some ⟨t, 0, none⟩)] 286)).alloc (.cells #[.func fn #[] cv] 365)).alloc (.cells #[.int .i64 0] 3)) := (((Below.refl _ _).alloc (Nat.le_refl _) _).alloc (Nat.le_of_lt (by simp)) _).alloc (by simp only [World.size_alloc]; omega) _
  have hs2 : ((w.alloc (.cells #[.pointer (some ⟨t, 0, none⟩)] 286)).alloc (.cells #[.func fn #[] cv] 365)).heap.size = w.heap.size + 1 + 1 := by simp only [World.size_alloc]
  have k5 := (boxF_made ((w.alloc (.cells #[.pointer (some ⟨t, 0, none⟩)] 286)).alloc (.cells #[.func fn #[] cv] 365)) [.int .i64 0] 3).1 0 _ rfl
  rw [hs2] at k5
  clear hs2
  obtain ⟨W0, hW0⟩ : ∃ W0, ((w.alloc (.cells #[.pointer (some ⟨t, 0, none⟩)] 286)).alloc (.cells #[.func fn #[] cv] 365)).alloc (.cells #[.int .i64 0] 3) = W0 := ⟨_, rfl⟩
  rw [hW0] at hb0 hw' ⊢
  replace k5 : W0.cell? ⟨w.heap.size + 1 + 1, 0, none⟩ = some (.int .i64 0) := by rw [← hW0]; exact k5
  have hs0 : W0.heap.size = w.heap.size + 1 + 1 + 1 := by rw [← hW0]; simp only [World.size_alloc]
  have hb1 : Below W0.heap.size W0 w' := by rw [hw']; exact (Below.refl _ _).alloc (Nat.le_refl _) _
  have hB : w'.cell? ⟨W0.heap.size, 0, none⟩ = some (.pointer (some ⟨t, 0, none⟩)) := by rw [hw']; exact (boxF_made W0 [.pointer (some ⟨t, 0, none⟩)] 286).1 0 _ rfl
  have hb01 := hb0.trans (hb1.mono hb0.size)
  have k5' : w'.cell? ⟨w.heap.size + 1 + 1, 0, none⟩ = some (.int .i64 0) := (hb1.cell (p := ⟨w.heap.size + 1 + 1, 0, none⟩) (by show w.heap.size + 1 + 1 < _; omega)).trans k5
  have ht' : w'.cell? ⟨t, 0, none⟩ = some (.slice none 0 0) := (hb01.cell (p := ⟨t, 0, none⟩) (World.block_lt_of_cell? _ _ ht)).trans ht
  obtain ⟨B, hBB⟩ : ∃ B, W0.heap.size = B := ⟨_, rfl⟩
  rw [hBB] at hB ⊢
  clear hw' hb0 hb1 hW0 k5 hs0 hBB
  gi_wp2
  refine wp_rangeNone (gf := 394) (caps := #[.pointer (some ⟨B, 0, none⟩)]) (by simp [Act.eval]) (enters_of Tryz.func394 (by kernel_rfl) rfl) ?hseq ?hdone
  case hseq =>
    intro m l W hW
    refine callsIn_wide.2 (tabAllNone (t := t) ?_ ?_)
    · exact (hW.cell (p := ⟨B, 0, none⟩) (World.block_lt_of_cell? _ _ hB)).trans hB
    · exact (hW.cell (p := ⟨t, 0, none⟩) (World.block_lt_of_cell? _ _ ht')).trans ht'
  case hdone =>
    intro D W hD hW hK
    have k6 : W.cell? ⟨w.heap.size + 1 + 1, 0, none⟩ = some (.int .i64 0) := (hW.cell (p := ⟨w.heap.size + 1 + 1, 0, none⟩) (World.block_lt_of_cell? _ _ k5')).trans k5'
    have hDD : w.heap.size ≤ D := Nat.le_trans hb01.size hD
    have hBW : Below w.heap.size w W := hb01.trans (hW.mono hb01.size)
    gi_wp2
    refine ⟨by simp, .inl ⟨_, _, rfl, run_takeDeferred hK, ?_⟩⟩
    exact ⟨_, results_tmp rfl _ _ _, rfl, hBW.os, hBW.tape, hBW.output, by simpa using hBW.size, fun k hk => (World.putObj_heap_other (by omega)).trans (hBW.block k hk)⟩
end Go.Proofs.YteahiphmhaedpaaGreatDoor

namespace Go.Proofs.YteahiphmhaedpaaGreatDoor
open Go.RowKit Law
set_option linter.unusedVariables false
set_option linter.unusedSimpArgs false
set_option maxRecDepth 100000

theorem seenExpire0 {w : World} {s t : Nat} {x y : Value} (hs : BoxF w s [.pointer (some ⟨t, 0, none⟩)]) (ht : BoxF w t [.slice none 0 0, x, y]) (now : Int) :
    Calls Tryz.prog 218 #[.pointer (some ⟨s, 0, none⟩), .int .i64 now] w fun e w' => e = .returned (.int .i64 0) ∧ Below w.heap.size w w' := by
  have b1 := (Below.refl w.heap.size w).alloc (Nat.le_refl _) (.cells #[.int .i64 now] 2)
  have C := Lib.hid (tabDrop0 ((ht.keep b1).1 0 _ rfl) (.func 290) #[.pointer (some ⟨w.heap.size, 0, none⟩)])
  have c0 := hs.1 0 _ rfl
  have d0 := (hs.keep b1).1 0 _ rfl
  have hlt := hs.lt (by simp)
  have hne : s ≠ w.heap.size := Nat.ne_of_lt hlt
  have HB := Lib.hid b1
  clear hs ht b1
  go_enter Tryz.func218, Tryz.ntmps218
  go_wp2_with fail
  refine C.out.mono ?_
  rintro e w1 ⟨rfl, hb⟩
  have HB1 := Lib.hid (HB.out.trans (hb.mono HB.out.size))
  clear hb
  go_wp2
  go_ret
  exact ⟨rfl, HB1.out⟩
theorem relayExpire0 {w : World} {r s t : Nat} {x y : Value} {cs : List Value} (hr : BoxF w r (.pointer (some ⟨s, 0, none⟩) :: cs)) (hs : BoxF w s [.pointer (some ⟨t, 0, none⟩)]) (ht : BoxF w t [.slice none 0 0, x, y]) (now : Int) :
    Calls Tryz.prog 159 #[.pointer (some ⟨r, 0, none⟩), .int .i64 now] w fun e w' => e = .returned (.int .i64 0) ∧ Below w.heap.size w w' := by
  have C := Lib.hid (seenExpire0 hs ht now)
  have c0 := hr.1 0 _ rfl
  clear hr hs ht
  go_enter Tryz.func159, Tryz.ntmps159
  go_wp2_with fail
  refine C.out.mono ?_
  rintro e w1 ⟨rfl, hb⟩
  have HB1 := Lib.hid hb
  clear hb
  go_wp2
  go_ret
  exact ⟨rfl, HB1.out⟩
theorem nodeNowI {w : World} {lo : Nat} {b : NdO} {c : Cn} {x : NV} {s : NS} (h : NodeAt w lo b c x s) (hph : s.ph ≠ 0) :
    Calls Tryz.prog 160 #[.pointer (some ⟨b.N, 0, none⟩)] w fun e w' => e = .returned (.int .i64 s.at_) ∧ w = w' := by
  have C := Lib.hid (clockNow h.clk hph)
  have c35 := h.box.cell 35 _ rfl
  generalize b.N = N at *
  clear h hph
  go_enter Tryz.func160, Tryz.ntmps160
  go_wp2_with fail
  refine C.out.mono ?_
  rintro e w1 ⟨rfl, rfl⟩
  go_wp2
  go_ret
  exact ⟨rfl, rfl⟩
/-- Ahead of the first attendance. -/
theorem perOf0 {e d : Int} (h : PerOk e d) (t : Int) (t0 : 0 ≤ t) (t1 : t < e) (w : World) :
    Calls Tryz.prog 237 #[.agg #[.int .i64 e, .int .i64 d], .int .i64 t] w fun en w' => en = .returned (.int .i64 0) ∧ Below w.heap.size w w' := by
  have CT := fun W => perTime t W
  have CO := Lib.hid (fun W => perOwn h W)
  have e1 := h.e1
  have e0 := h.e0
  rw [show min (max t 0) 1152921504606846976 = t by omega] at CT
  have CT := Lib.hid CT
  have k1 := boxF_made w [.int .i64 e, .int .i64 d] 131
  have b1 := (Below.refl w.heap.size w).alloc (Nat.le_refl _) (.cells #[.int .i64 e, .int .i64 d] 131)
  obtain ⟨w1, hw1⟩ : ∃ w1, w.alloc (.cells #[.int .i64 e, .int .i64 d] 131) = w1 := ⟨_, rfl⟩
  rw [hw1] at b1
  rw [show w.alloc (.cells [.int .i64 e, .int .i64 d].toArray 131) = w1 from hw1] at k1
  have HS : Hid (∀ W, Below w1.heap.size w1 W → BoxF W w.heap.size [.int .i64 e, .int .i64 d]) := fun W hW => k1.keep hW
  have HD : Hid (Below w1.heap.size w1 w1.drew) := (Below.refl _ _).drew
  have HB := Lib.hid b1
  have HQ : Hid (t.tdiv e = 0) := Int.tdiv_eq_zero_of_lt t0 t1
  have hne : (e == 0) = false := by rw [beq_eq_false_iff_ne]; omega
  have hne2 : ¬ e = 0 := by omega
  clear k1 b1 h
  go_enter Tryz.func237, Tryz.ntmps237
  go_wp2_with fail
  refine wp_region_perm [] [0, 2] [1, 3, 4, 5, 6] 7 10 (fun W => Below w1.heap.size w1 W) (by kernel_rfl) (by kernel_rfl) (by intro c a t v w h; exact h) HD.out ?_
  simp only [pickL, List.drop_succ_cons, List.drop_zero, List.head?_cons, Option.toList_some, List.cons_append, List.nil_append]
  refine wpHead_nil ?_
  iterate 2 (refine wpHead_step _ (by rfl) (by intro W hW; have z := HS.out W hW; have z0 := z.1 0 _ rfl; have z1 := z.1 1 _ rfl; clear z hW; go_simp; with_reducible rfl) ?_; simp only [Act.put, List.setIfInBounds_toArray, List.set_cons_zero, List.set_cons_succ])
  refine wpHead_nil ?_
  refine ⟨by rfl, ?_⟩
  go_simp
  go_at_call 244
  refine (CT.out _).mono ?_
  rintro en w2 ⟨rfl, rfl⟩
  refine ⟨HD.out, by rfl, ?_⟩
  go_simp
  go_at_call 296
  refine (CO.out _).mono ?_
  rintro en w2 ⟨rfl, hb2⟩
  have HB2 := Lib.hid (HD.out.trans (hb2.mono HD.out.size))
  clear hb2
  refine ⟨HB2.out, by rfl, ?_⟩
  go_simp
  refine ⟨HB2.out, by rfl, ?_⟩
  go_simp
  refine ⟨HB2.out, by rfl, ?_⟩
  go_simp
  refine ⟨HB2.out, ?_⟩
  refine wpMid_nil ?_
  have HF : Hid (Below w.heap.size w w2) := HB.out.trans (HB2.out.mono HB.out.size)
  go_wp2
  go_ret
  refine ⟨ret_int ?_, HF.out⟩
  rw [HQ.out]
  rfl
/-- Ahead of the first attendance no view is ripe. -/
def RipePost (w : World) (en : Ending) (w' : World) : Prop := (∃ v, en = .returned (.int .i64 v) ∧ v ≤ 0) ∧ Below w.heap.size w w'
set_option maxHeartbeats 1600000 in
theorem perRipe0 {e d : Int} (h : PerOk e d) (t : Int) (t0 : 0 ≤ t) (t1 : t < e) (w : World) :
    Calls Tryz.prog 233 #[.agg #[.int .i64 e, .int .i64 d], .int .i64 t] w (RipePost w) := by
  have CT := fun W => perTime t W
  have CO := Lib.hid (fun W => perOwn h W)
  have e1 := h.e1
  have e0 := h.e0
  have d0 := h.d0
  have d1 := h.d1
  rw [show min (max t 0) 1152921504606846976 = t by omega] at CT
  have CT := Lib.hid CT
  have CF : Hid (0 ≤ t - d → ∀ W, Calls Tryz.prog 237 #[.agg #[.int .i64 e, .int .i64 d], .int .i64 (t - d)] W fun en w' => en = .returned (.int .i64 0) ∧ Below W.heap.size W w') := fun hh W => perOf0 h (t - d) hh (by omega) W
  have k1 := boxF_made w [.int .i64 e, .int .i64 d] 131
  have b1 := (Below.refl w.heap.size w).alloc (Nat.le_refl _) (.cells #[.int .i64 e, .int .i64 d] 131)
  obtain ⟨w1, hw1⟩ : ∃ w1, w.alloc (.cells #[.int .i64 e, .int .i64 d] 131) = w1 := ⟨_, rfl⟩
  rw [hw1] at b1
  rw [show w.alloc (.cells [.int .i64 e, .int .i64 d].toArray 131) = w1 from hw1] at k1
  have HS : Hid (∀ W, Below w1.heap.size w1 W → BoxF W w.heap.size [.int .i64 e, .int .i64 d]) := fun W hW => k1.keep hW
  have HD : Hid (Below w1.heap.size w1 w1.drew) := (Below.refl _ _).drew
  have HB := Lib.hid b1
  clear k1 b1 h
  go_enter Tryz.func233, Tryz.ntmps233
  go_wp2_with fail
  refine wp_region_perm [] [0, 2] [1, 3, 4, 5, 6] 7 10 (fun W => Below w1.heap.size w1 W) (by kernel_rfl) (by kernel_rfl) (by intro c a t v w h; exact h) HD.out ?_
  simp only [pickL, List.drop_succ_cons, List.drop_zero, List.head?_cons, Option.toList_some, List.cons_append, List.nil_append]
  refine wpHead_nil ?_
  iterate 2 (refine wpHead_step _ (by rfl) (by intro W hW; have z := HS.out W hW; have z0 := z.1 0 _ rfl; have z1 := z.1 1 _ rfl; clear z hW; go_simp; with_reducible rfl) ?_; simp only [Act.put, List.setIfInBounds_toArray, List.set_cons_zero, List.set_cons_succ])
  refine wpHead_nil ?_
  refine ⟨by rfl, ?_⟩
  go_simp
  go_at_call 244
  refine (CT.out _).mono ?_
  rintro en w2 ⟨rfl, rfl⟩
  refine ⟨HD.out, by rfl, ?_⟩
  go_simp
  go_at_call 296
  refine (CO.out _).mono ?_
  rintro en w2 ⟨rfl, hb2⟩
  have HB2 := Lib.hid (HD.out.trans (hb2.mono HD.out.size))
  clear hb2
  refine ⟨HB2.out, by rfl, ?_⟩
  go_simp
  refine ⟨HB2.out, by rfl, ?_⟩
  go_simp
  refine ⟨HB2.out, by rfl, ?_⟩
  go_simp
  refine ⟨HB2.out, ?_⟩
  refine wpMid_nil ?_
  have q2 := HS.out w2 HB2.out
  have c0 := q2.1 0 _ rfl
  have c1 := q2.1 1 _ rfl
  have HF : Hid (Below w.heap.size w w2) := HB.out.trans (HB2.out.mono HB.out.size)
  clear q2
  by_cases hat : t - d < 0
  · go_wp2
    go_ret
    exact ⟨⟨_, rfl, by decide⟩, HF.out⟩
  · have C := Lib.hid (CF.out (by omega) w2)
    go_wp2_with fail
    refine C.out.mono ?_
    rintro en w3 ⟨rfl, hb3⟩
    have HF3 := Lib.hid (HF.out.trans (hb3.mono HF.out.size))
    clear hb3
    go_wp2
    go_ret
    exact ⟨⟨0, rfl, by decide⟩, HF3.out⟩
/-- The open round has not begun so long ago. -/
theorem nodeBegins0 {w : World} {lo : Nat} {b : NdO} {c : Cn} {x : NV} {s : NS} {r : Nat} {y : Value} (h : NodeAt w lo b c x s) (hph : s.ph ≠ 0) (hx : x.rnd = .pointer (some ⟨r, 0, none⟩)) (hr : BoxF w r [.int .i64 1, y]) (hc0 : 0 ≤ c.round) (hc1 : c.round ≤ 1152921504606846976) (a0 : 0 ≤ s.at_) (a1 : s.at_ ≤ 1152921504606846976) (more : Int) (hm : s.at_ - c.round < more) :
    Calls Tryz.prog 220 #[.pointer (some ⟨b.N, 0, none⟩), .int .i64 more] w fun e w' => e = .returned (.bool false) ∧ ∃ n, w' = w.drewN n := by
  have C1 := Lib.hid (fun n => quietly (w := w) (fun W hW => roundNo (hr.keep hW)) n)
  obtain ⟨q, hq⟩ : ∃ q : Nat, c.round = (q : Int) := ⟨c.round.toNat, by omega⟩
  have C2 := Lib.hid (fun n => quietly (w := w) (fun W _ => roundWhen1 q (by omega) W) n)
  have C3 := Lib.hid (fun n => nodeNowI (h.keep (drewN_below w n)) hph)
  have c36 : w.cell? ⟨b.N, 36, none⟩ = some x.rnd := h.box.cell 36 _ rfl
  have c7 : w.cell? ⟨b.N, 7, none⟩ = some (.int .i64 c.round) := h.box.cell 7 _ rfl
  rw [hx] at c36
  rw [hq] at c7 hm hc1
  obtain ⟨at_, hat⟩ : ∃ a, s.at_ = a := ⟨_, rfl⟩
  rw [hat] at C3 hm a0 a1
  have hm' : ¬ (more ≤ at_ - (q : Int)) := by omega
  generalize b.N = N at *
  clear h hph hx hr hq hat
  go_enter Tryz.func220, Tryz.ntmps220
  go_wp2_with fail
  go_quiet (first | (go_at_call 224; exact Calls.quiet_of_same (C1.out _)) | (go_at_call 291; exact Calls.quiet_of_same (C2.out _)))
  go_wp2_with fail
  refine (C3.out _).mono ?_
  rintro e w' ⟨rfl, rfl⟩
  go_wp2
  go_ret
  exact ⟨by first | rfl | (simp [hm']; done), _, rfl⟩
end Go.Proofs.YteahiphmhaedpaaGreatDoor

namespace Go.Proofs.YteahiphmhaedpaaGreatDoor
open Go.RowKit Law
set_option linter.unusedVariables false
set_option linter.unusedSimpArgs false
set_option maxRecDepth 100000

/-- A node that is synced, in its first round, with nothing due. -/
structure Idle (w : World) (lo : Nat) (b : NdO) (c : Cn) (x : NV) (s : NS) (r : Nat) (y : Value) : Prop where
  nd : NodeAt w lo b c x s
  ph : s.ph = 2
  rnd : x.rnd = .pointer (some ⟨r, 0, none⟩)
  rb : BoxF w r [.int .i64 1, y]
  c0 : 0 ≤ c.round
  c1 : c.round ≤ 1152921504606846976
  cw : 0 ≤ c.window
  cw1 : c.window ≤ 1152921504606846976
  a0 : 0 ≤ s.at_
  a1 : s.at_ < c.round
  a2 : s.at_ < perEvery c.attend
  sent : x.sent = false
  view : x.view = 1
  att : x.att = 1
  js : s.js = 2
  known : x.known = true
theorem Idle.keep {w w' : World} {lo : Nat} {b : NdO} {c : Cn} {x : NV} {s : NS} {r : Nat} {y : Value} (h : Idle w lo b c x s r y) (hb : Below w.heap.size w w') : Idle w' lo b c x s r y :=
  { h with nd := h.nd.keep hb, rb := h.rb.keep hb }
theorem Idle.begins {w : World} {lo : Nat} {b : NdO} {c : Cn} {x : NV} {s : NS} {r : Nat} {y : Value} (h : Idle w lo b c x s r y) (more : Int) (hm : 0 ≤ more) :
    Calls Tryz.prog 220 #[.pointer (some ⟨b.N, 0, none⟩), .int .i64 more] w fun e w' => e = .returned (.bool false) ∧ ∃ n, w' = w.drewN n :=
  nodeBegins0 h.nd (by rw [h.ph]; decide) h.rnd h.rb h.c0 h.c1 h.a0 (by have := h.a1; have := h.c1; omega) more (by have := h.a1; omega)
theorem nodeBeacon0 {w : World} {lo : Nat} {b : NdO} {c : Cn} {x : NV} {s : NS} {r : Nat} {y : Value} (h : Idle w lo b c x s r y) :
    Calls Tryz.prog 161 #[.pointer (some ⟨b.N, 0, none⟩)] w fun e w' => e = .returned (.slice none 0 0) ∧ ∃ n, w' = w.drewN n := by
  have hc := h.nd.clk
  rw [h.ph] at hc
  have C1 := Lib.hid (clockPhase hc)
  have C2 := Lib.hid (h.begins 0 (by decide))
  have c35 := h.nd.box.cell 35 _ rfl
  have c37 : w.cell? ⟨b.N, 37, none⟩ = some (.bool x.sent) := h.nd.box.cell 37 _ rfl
  rw [h.sent] at c37
  generalize b.N = N at *
  clear h hc
  go_enter Tryz.func161, Tryz.ntmps161
  go_wp2_with fail
  refine C1.out.mono ?_
  rintro e w1 ⟨rfl, rfl⟩
  go_wp2_with fail
  refine C2.out.mono ?_
  rintro e w1 ⟨rfl, n, rfl⟩
  go_wp2
  go_ret
  exact ⟨rfl, n, rfl⟩
theorem nodeClose0 {w : World} {lo : Nat} {b : NdO} {c : Cn} {x : NV} {s : NS} {r : Nat} {y : Value} (h : Idle w lo b c x s r y) :
    Calls Tryz.prog 162 #[.pointer (some ⟨b.N, 0, none⟩)] w fun e w' => e = .returned (.tuple #[]) ∧ ∃ n, w' = w.drewN n := by
  have hc := h.nd.clk
  rw [h.ph] at hc
  have C1 := Lib.hid (clockPhase hc)
  have C2 := Lib.hid (h.begins c.window h.cw)
  have c35 := h.nd.box.cell 35 _ rfl
  have c8 : w.cell? ⟨b.N, 8, none⟩ = some (.int .i64 c.window) := h.nd.box.cell 8 _ rfl
  generalize b.N = N at *
  clear h hc
  go_enter Tryz.func162, Tryz.ntmps162
  go_wp2_with fail
  refine C1.out.mono ?_
  rintro e w1 ⟨rfl, rfl⟩
  go_wp2_with fail
  refine C2.out.mono ?_
  rintro e w1 ⟨rfl, n, rfl⟩
  go_wp2
  refine bodyPost_ret (v := .tuple #[]) (by simp [results, Tryz.results162, go_sem]) rfl ⟨rfl, n, rfl⟩
theorem nodeLearn0 {w : World} {lo : Nat} {b : NdO} {c : Cn} {x : NV} {s : NS} {r : Nat} {y : Value} (h : Idle w lo b c x s r y) :
    Calls Tryz.prog 165 #[.pointer (some ⟨b.N, 0, none⟩)] w fun e w' => e = .returned (.tuple #[]) ∧ w = w' := by
  have C1 := Lib.hid (joinSince h.nd.jn (.inl h.js))
  have C2 := Lib.hid (pieceNo0 h.nd.pie h.nd.pim)
  have c44 := h.nd.box.cell 44 _ rfl
  have c119 := h.nd.box.cell 119 _ rfl
  have c117 : w.cell? ⟨b.N, 117, none⟩ = some (.bool x.known) := h.nd.box.cell 117 _ rfl
  rw [h.known] at c117
  generalize b.N = N at *
  clear h
  go_enter Tryz.func165, Tryz.ntmps165
  go_wp2_with fail
  refine C1.out.mono ?_
  rintro e w1 ⟨rfl, rfl⟩
  go_wp2_with fail
  refine C2.out.mono ?_
  rintro e w1 ⟨rfl, rfl⟩
  go_wp2
  refine bodyPost_ret (v := .tuple #[]) (by simp [results, Tryz.results165, go_sem]) rfl ⟨rfl, rfl⟩
set_option maxHeartbeats 1600000 in
theorem nodeAttends0 {w : World} {lo : Nat} {b : NdO} {c : Cn} {x : NV} {s : NS} {r : Nat} {y : Value} (h : Idle w lo b c x s r y) :
    Calls Tryz.prog 164 #[.pointer (some ⟨b.N, 0, none⟩)] w fun e w' => e = .returned (.slice none 0 0) ∧ Below w.heap.size w w' := by
  have HS : Hid (∀ W, Below w.heap.size w W → Idle W lo b c x s r y) := fun W hW => h.keep hW
  have HD : Hid (Below w.heap.size w w.drew) := (Below.refl _ _).drew
  have C1 := Lib.hid (nodeNowI (h.keep HD.out).nd (by rw [h.ph]; decide))
  have C2 := Lib.hid (fun W => perOf0 (perOk c.attend (bDelta c)) s.at_ h.a0 h.a2 W)
  obtain ⟨at_, hat⟩ : ∃ a, s.at_ = a := ⟨_, rfl⟩
  obtain ⟨pe, hpe⟩ : ∃ a, perEvery c.attend = a := ⟨_, rfl⟩
  obtain ⟨pd, hpd⟩ : ∃ a, perDelta (bDelta c) = a := ⟨_, rfl⟩
  obtain ⟨N, hN⟩ : ∃ N, b.N = N := ⟨_, rfl⟩
  have HC : Hid (∀ W, Below w.heap.size w W → W.cell? ⟨N, 48, none⟩ = some (.int .i64 1) ∧ W.cell? ⟨N, 31, none⟩ = some (.int .i64 pe) ∧ W.cell? ⟨N, 32, none⟩ = some (.int .i64 pd)) := fun W hW => by
    have hh := (HS.out W hW).nd.box
    have h48 : W.cell? ⟨b.N, 48, none⟩ = some (.int .i64 x.att) := hh.cell 48 _ rfl
    have h31 := hh.cell 31 _ rfl
    have h32 := hh.cell 32 _ rfl
    rw [h.att] at h48
    rw [hN] at h48 h31 h32
    rw [hpe] at h31
    rw [hpd] at h32
    exact ⟨h48, h31, h32⟩
  rw [hat] at C1 C2
  rw [hpe, hpd] at C2
  rw [hN] at C1 ⊢
  clear h hat hpe hpd hN
  go_enter Tryz.func164, Tryz.ntmps164
  go_wp2
  refine wp_loop_rounds 1 ?_
  rw [rounds_succ]
  go_wp2_with fail
  refine wp_region_perm [] [0, 1, 2, 3, 4, 5, 6, 7, 8, 9] [10, 11, 12] 13 16 (fun W => Below w.heap.size w W) (by kernel_rfl) (by kernel_rfl) (by intro c a t v w h; exact h) HD.out ?_
  simp only [pickL, List.drop_succ_cons, List.drop_zero, List.head?_cons, Option.toList_some, List.cons_append, List.nil_append]
  refine wpHead_nil ?_
  iterate 10 (refine wpHead_step _ (by rfl) (by intro W hW; obtain ⟨z0, z1, z2⟩ := HC.out W hW; clear hW; go_simp; with_reducible rfl) ?_; simp only [Act.put, List.setIfInBounds_toArray, List.set_cons_zero, List.set_cons_succ])
  refine wpHead_nil ?_
  refine ⟨by rfl, ?_⟩
  go_simp
  go_at_call 160
  refine C1.out.mono ?_
  rintro e w' ⟨rfl, rfl⟩
  refine ⟨HD.out, by rfl, ?_⟩
  go_simp
  go_at_call 237
  refine (C2.out _).mono ?_
  rintro e w2 ⟨rfl, hb2⟩
  have HB2 := Lib.hid (HD.out.trans (hb2.mono HD.out.size))
  clear hb2
  refine ⟨HB2.out, by rfl, ?_⟩
  go_simp
  refine ⟨HB2.out, ?_⟩
  refine wpMid_nil ?_
  go_wp2
  go_ret
  exact ⟨rfl, HB2.out⟩
end Go.Proofs.YteahiphmhaedpaaGreatDoor
