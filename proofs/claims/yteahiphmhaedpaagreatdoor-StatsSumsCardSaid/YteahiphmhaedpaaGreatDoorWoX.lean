/- What several texts of this seat lean on, joined: WoA WoB NdR WoD WoE WoF. -/
import Derived.Test.YteahiphmhaedpaaGreatDoorNfM
import Derived.Test.YteahiphmhaedpaaGreatDoorNdS
import Derived.Test.YteahiphmhaedpaaGreatDoorBase
import Derived.IntWalk
import Derived.Test.YteahiphmhaedpaaGreatDoorNdH
namespace Go.Proofs.YteahiphmhaedpaaGreatDoor
open Go.RowKit Law
set_option linter.unusedVariables false
set_option linter.unusedSimpArgs false
set_option maxRecDepth 100000

/-- All blocks but those from lo on, below hi, are as they were. -/
structure FrI (lo hi : Nat) (w w' : World) : Prop where
  os : w'.os = w.os
  tape : w'.tape = w.tape
  output : w'.output = w.output
  size : w.heap.size ≤ w'.heap.size
  block : ∀ k, k < w.heap.size → (k < lo ∨ hi ≤ k) → w'.heap[k]? = w.heap[k]?
theorem FrI.refl (lo hi : Nat) (w : World) : FrI lo hi w w := ⟨rfl, rfl, rfl, Nat.le_refl _, fun _ _ _ => rfl⟩
theorem FrI.trans {lo hi : Nat} {u v w : World} (h : FrI lo hi u v) (k : FrI lo hi v w) : FrI lo hi u w :=
  ⟨k.os.trans h.os, k.tape.trans h.tape, k.output.trans h.output, Nat.le_trans h.size k.size, fun i hi hn => (k.block i (Nat.lt_of_lt_of_le hi h.size) hn).trans (h.block i hi hn)⟩
theorem FrI.of {lo hi : Nat} {w w' : World} (h : Below w.heap.size w w') : FrI lo hi w w' := ⟨h.os, h.tape, h.output, h.size, fun k hk _ => h.block k hk⟩
theorem FrI.ofB {lo hi b : Nat} {w w' : World} (h : FrB b w w') (h0 : lo ≤ b) (h1 : b < hi) : FrI lo hi w w' := ⟨h.os, h.tape, h.output, h.size, fun k hk hn => h.block k hk (by omega)⟩
theorem FrI.ofL {lo hi : Nat} {l : List Nat} {w w' : World} (h : FrL l w w') (hl : ∀ k ∈ l, lo ≤ k ∧ k < hi) : FrI lo hi w w' := ⟨h.os, h.tape, h.output, h.size, fun k hk hn => h.block k hk (fun e => by have := hl k e; omega)⟩
theorem FrI.mono {lo hi lo' hi' : Nat} {w w' : World} (h : FrI lo hi w w') (h0 : lo' ≤ lo) (h1 : hi ≤ hi') : FrI lo' hi' w w' := ⟨h.os, h.tape, h.output, h.size, fun k hk hn => h.block k hk (by omega)⟩
theorem FrI.below {lo hi B : Nat} {w w' : World} (h : FrI lo hi w w') (h0 : B ≤ lo) (hB : B ≤ w.heap.size) : Below B w w' := ⟨h.os, h.tape, h.output, h.size, fun k hk => h.block k (by omega) (by omega)⟩
theorem FrI.box {lo hi b : Nat} {w w' : World} {cs : List Value} (h : FrI lo hi w w') (k : BoxF w b cs) (hb : 0 < cs.length) (hne : b < lo ∨ hi ≤ b) : BoxF w' b cs := k.same (h.block b (k.lt hb) hne)
theorem Idle.kept {w w' : World} {lo : Nat} {b : NdO} {c : Cn} {x : NV} {s : NS} {r : Nat} {y : Value} (h : Idle w lo b c x s r y) (hs : w.heap.size ≤ w'.heap.size) (hb : ∀ k, lo ≤ k → k ≤ b.pie → w'.heap[k]? = w.heap[k]?) (hr : w'.heap[r]? = w.heap[r]?) : Idle w' lo b c x s r y :=
  { h with nd := h.nd.kept hs hb, rb := h.rb.same hr }
/-- A node of a place: what it is, its round's block, its view's row. -/
structure NdI where
  lo : Nat
  b : NdO
  x : NV
  s : NS
  r : Nat
  y : Value
  R : Nat
  cap : Nat
/-- A place. -/
structure PlV where
  lo : Nat
  hi : Nat
  P : Nat
  hd : Nat
  nd : Option NdI
  at_ : Int
  downs : Int
def PlV.ndV (p : PlV) : Value := match p.nd with
  | none => .pointer none
  | some n => pB n.b.N
structure NdOk (w : World) (c : Cn) (p : PlV) (n : NdI) : Prop where
  idle : Idle w n.lo n.b c n.x n.s n.r n.y
  l0 : p.lo ≤ n.lo
  l1 : n.b.pie < n.r
  l2 : n.r < n.R
  l3 : n.R < p.P
  l4 : n.R < p.hd
  ev : n.x.events = .slice none 0 0
  cnt : n.x.counts = List.replicate 20 0
  left : n.s.left = 0
  at_ : n.s.at_ = p.at_
  hard : n.x.hard = p.at_
  vw : n.s.vw = .slice (some ⟨n.R, 0, none⟩) 1 n.cap
  vr : BoxAt w n.R [.int .i64 0, .int .i64 0, .int .u64 (allN c.n : Int)]
  jc : n.s.jc = 0
structure PlAt (w : World) (c : Cn) (p : PlV) : Prop where
  pb : BoxF w p.P [p.ndV, pB p.hd, .int .i64 p.downs]
  hb : BoxF w p.hd [.int .i64 p.at_, .int .i64 0]
  a0 : p.lo ≤ p.P
  a1 : p.P < p.hi
  b0 : p.lo ≤ p.hd
  b1 : p.hd < p.hi
  ne : p.P ≠ p.hd
  t0 : 0 ≤ p.at_
  top : p.hi ≤ w.heap.size
  nd : ∀ n, p.nd = some n → NdOk w c p n
theorem BoxAt.same {w w' : World} {B : Nat} {cs : List Value} (h : BoxAt w B cs) (hb : w'.heap[B]? = w.heap[B]?) : BoxAt w' B cs :=
  fun o v hv => (cell_sm hb).trans (h o v hv)
theorem NdOk.kept {w w' : World} {c : Cn} {p : PlV} {n : NdI} (h : NdOk w c p n) (hs : w.heap.size ≤ w'.heap.size) (hb : ∀ k, n.lo ≤ k → k ≤ n.R → w'.heap[k]? = w.heap[k]?) : NdOk w' c p n := by
  have o := h.idle.nd.ord
  have h1 := h.l1
  have h2 := h.l2
  have hl : n.lo ≤ n.b.pie := by
    obtain ⟨o0, o1, o2, o3, o4, o5, o6, o7, o8, o9, o10, o11, o12, o13, o14, o15, o16, o17, o18, o19, o20⟩ := o
    omega
  exact { h with idle := h.idle.kept hs (fun k h3 h4 => hb k h3 (by omega)) (hb _ (by omega) (by omega)), vr := h.vr.same (hb _ (by omega) (by omega)) }
theorem PlAt.kept {w w' : World} {c : Cn} {p : PlV} (h : PlAt w c p) (hs : w.heap.size ≤ w'.heap.size) (hb : ∀ k, p.lo ≤ k → k < p.hi → w'.heap[k]? = w.heap[k]?) : PlAt w' c p := by
  refine { h with pb := h.pb.same (hb _ h.a0 h.a1), hb := h.hb.same (hb _ h.b0 h.b1), top := Nat.le_trans h.top hs, nd := ?_ }
  intro n hn
  have k := h.nd n hn
  have := k.l0
  have := k.l3
  have := h.a1
  exact k.kept hs (fun q h3 h4 => hb q (by omega) (by omega))
theorem PlAt.below {w w' : World} {c : Cn} {p : PlV} (h : PlAt w c p) (hb : Below w.heap.size w w') : PlAt w' c p :=
  h.kept hb.size (fun k _ h2 => hb.block k (Nat.lt_of_lt_of_le h2 h.top))
theorem PlAt.frI {w w' : World} {c : Cn} {p : PlV} {lo hi : Nat} (h : PlAt w c p) (F : FrI lo hi w w') (ho : p.hi ≤ lo ∨ hi ≤ p.lo) : PlAt w' c p :=
  h.kept F.size (fun k h1 h2 => F.block k (Nat.lt_of_lt_of_le h2 h.top) (by omega))
/-- What a cluster's block holds. -/
def wdL (c : Cn) (A : Option Addr) (l k : Nat) (t : Int) (pl : Value) (air : Nat) (ev : Value) (cr : Int) : List Value :=
  c.cells A l k ++ [.int .i64 t, pl, .slice none 0 0, pB air, .slice none 0 0, .int .i64 0, .int .i64 0, .int .i64 0, .int .i64 0, .int .i64 0, .int .i64 0, .int .i64 0, .int .i64 0, .int .i64 0, .int .i64 0, .int .i64 0, .int .i64 0, .int .i64 0, .int .i64 0, .int .i64 0, .int .i64 0, .int .i64 0, .int .i64 0, .int .i64 0, .int .i64 0, .int .i64 0, .int .i64 0, .slice none 0 0, ev, .int .u64 cr]
structure WdAt (w : World) (base W : Nat) (c : Cn) (A : Option Addr) (l k : Nat) (t : Int) (R cap : Nat) (ps : List PlV) (air : Nat) (ev : Value) (cr : Int) : Prop where
  box : BoxF w W (wdL c A l k t (.slice (some ⟨R, 0, none⟩) ps.length cap) air ev cr)
  row : ∀ (i : Nat) (p : PlV), ps[i]? = some p → w.cell? ⟨R, i, none⟩ = some (pB p.P)
  airb : BoxF w air [.slice none 0 0, .int .i64 (min (max c.fly 0) 65536), .int .u64 0]
  pl : ∀ (i : Nat) (p : PlV), ps[i]? = some p → PlAt w c p
  apart : ∀ (i j : Nat) (p q : PlV), i < j → ps[i]? = some p → ps[j]? = some q → p.hi ≤ q.lo
  oW : ∀ (i : Nat) (p : PlV), ps[i]? = some p → W < p.lo
  oA : ∀ (i : Nat) (p : PlV), ps[i]? = some p → air < p.lo
  oR : ∀ (i : Nat) (p : PlV), ps[i]? = some p → R < p.lo ∨ p.hi ≤ R
  nWA : W ≠ air
  nWR : W ≠ R
  nAR : air ≠ R
  lR : R < w.heap.size
  bW : base ≤ W
  bA : base ≤ air
  bR : base ≤ R
theorem WdAt.below {w w' : World} {base W : Nat} {c : Cn} {A : Option Addr} {l k : Nat} {t : Int} {R cap : Nat} {ps : List PlV} {air : Nat} {ev : Value} {cr : Int} (h : WdAt w base W c A l k t R cap ps air ev cr) (hb : Below w.heap.size w w') : WdAt w' base W c A l k t R cap ps air ev cr :=
  { h with box := h.box.keep hb, row := fun i p hp => (hb.cell (p := ⟨R, i, none⟩) h.lR).trans (h.row i p hp), airb := h.airb.keep hb, pl := fun i p hp => (h.pl i p hp).below hb, lR := Nat.lt_of_lt_of_le h.lR hb.size }
/-- One place is turned. -/
theorem WdAt.turn {w w' : World} {base W : Nat} {c : Cn} {A : Option Addr} {l k : Nat} {t : Int} {R cap : Nat} {ps : List PlV} {air : Nat} {ev : Value} {cr : Int} (h : WdAt w base W c A l k t R cap ps air ev cr) {i : Nat} {p p' : PlV} (hp : ps[i]? = some p) (F : FrI p.lo p.hi w w') (h' : PlAt w' c p') (e1 : p'.lo = p.lo) (e2 : p'.hi = p.hi) (e3 : p'.P = p.P) : WdAt w' base W c A l k t R cap (ps.set i p') air ev cr := by
  have hil : i < ps.length := (List.getElem?_eq_some_iff.1 hp).1
  have hget : ∀ j q, (ps.set i p')[j]? = some q → (j = i ∧ q = p') ∨ (j ≠ i ∧ ps[j]? = some q) := fun j q hq => by
    by_cases e : j = i
    · subst e
      rw [List.getElem?_set_self hil] at hq
      exact .inl ⟨rfl, (Option.some.inj hq).symm⟩
    · rw [List.getElem?_set_ne (Ne.symm e)] at hq
      exact .inr ⟨e, hq⟩
  have oW := h.oW i p hp
  have oA := h.oA i p hp
  have oR := h.oR i p hp
  refine ⟨?_, ?_, F.box h.airb (by simp) (.inl oA), ?_, ?_, ?_, ?_, ?_, h.nWA, h.nWR, h.nAR, Nat.lt_of_lt_of_le h.lR F.size, h.bW, h.bA, h.bR⟩
  · have := F.box h.box (by unfold wdL; simp) (.inl oW)
    rw [List.length_set]
    exact this
  · intro j q hq
    have hc : w'.cell? ⟨R, j, none⟩ = w.cell? ⟨R, j, none⟩ := cell_sm (F.block R h.lR oR)
    rw [hc]
    rcases hget j q hq with ⟨rfl, rfl⟩ | ⟨_, hq⟩
    · rw [e3]; exact h.row j p hp
    · exact h.row j q hq
  · intro j q hq
    rcases hget j q hq with ⟨rfl, rfl⟩ | ⟨hne, hq⟩
    · exact h'
    · refine (h.pl j q hq).frI F ?_
      rcases Nat.lt_or_gt_of_ne hne with hlt | hgt
      · exact .inl (h.apart j i q p hlt hq hp)
      · exact .inr (h.apart i j p q hgt hp hq)
  · intro j j2 q q2 hlt hq hq2
    rcases hget j q hq with ⟨x1, x2⟩ | ⟨_, y1⟩ <;> rcases hget j2 q2 hq2 with ⟨x3, x4⟩ | ⟨_, y2⟩
    · omega
    · rw [x2, e2]; exact h.apart _ _ p q2 hlt (by rw [x1]; exact hp) y2
    · rw [x4, e1]; exact h.apart _ _ q p hlt y1 (by rw [x3]; exact hp)
    · exact h.apart _ _ q q2 hlt y1 y2
  · intro j q hq
    rcases hget j q hq with ⟨rfl, rfl⟩ | ⟨_, hq⟩
    · rw [e1]; exact oW
    · exact h.oW j q hq
  · intro j q hq
    rcases hget j q hq with ⟨rfl, rfl⟩ | ⟨_, hq⟩
    · rw [e1]; exact oA
    · exact h.oA j q hq
  · intro j q hq
    rcases hget j q hq with ⟨rfl, rfl⟩ | ⟨_, hq⟩
    · rw [e1, e2]; exact oR
    · exact h.oR j q hq
/-- A cell of the cluster's own block is turned. -/
theorem WdAt.own {w w' : World} {base W : Nat} {c : Cn} {A : Option Addr} {l k : Nat} {t t' : Int} {R cap : Nat} {ps : List PlV} {air : Nat} {ev ev' : Value} {cr cr' : Int} (h : WdAt w base W c A l k t R cap ps air ev cr) (F : FrB W w w') (hbox : BoxF w' W (wdL c A l k t' (.slice (some ⟨R, 0, none⟩) ps.length cap) air ev' cr')) : WdAt w' base W c A l k t' R cap ps air ev' cr' :=
  { h with box := hbox, row := fun i p hp => (cell_sm (F.block R h.lR h.nWR.symm)).trans (h.row i p hp), airb := F.box h.airb (by simp) h.nWA.symm, pl := fun i p hp => (h.pl i p hp).kept F.size (fun q h1 h2 => F.block q (Nat.lt_of_lt_of_le h2 (h.pl i p hp).top) (by have := h.oW i p hp; omega)), lR := Nat.lt_of_lt_of_le h.lR F.size }
/-- A place one tick later. -/
def NdI.ticked (n : NdI) (t : Int) : NdI := { n with x := { n.x with hard := t }, s := { n.s with at_ := t } }
def PlV.ticked (p : PlV) (t : Int) : PlV := { p with at_ := t, nd := p.nd.map fun n => n.ticked t }
end Go.Proofs.YteahiphmhaedpaaGreatDoor

namespace Go.Proofs.YteahiphmhaedpaaGreatDoor
open Go.RowKit Law
set_option linter.unusedVariables false
set_option linter.unusedSimpArgs false
set_option maxRecDepth 100000

theorem rateInc0 (w : World) : Calls Tryz.prog 141 #[.int .i64 0] w fun e w' => e = .returned (.int .i64 1024) ∧ w = w' := by
  have C := Lib.hid (spanClamp 0 (-1024) 1047552)
  go_enter Tryz.func141, Tryz.ntmps141
  go_wp2_with fail
  refine (C.out _).mono ?_
  rintro e w1 ⟨rfl, rfl⟩
  rw [show clampI 0 (-1024) 1047552 = 0 from rfl]
  go_wp2
  go_ret
  exact ⟨rfl, rfl⟩
theorem rateTime (x : Int) (h0 : 0 ≤ x) (h1 : x ≤ 1152921504606846976) (w : World) : Calls Tryz.prog 79 #[.int .i64 x] w fun e w' => e = .returned (.int .i64 x) ∧ w = w' := by
  have C := fun W => spanClamp x 0 1152921504606846976 W
  rw [clamp_in h0 h1] at C
  have C := Lib.hid C
  clear h0 h1
  go_enter Tryz.func79, Tryz.ntmps79
  go_wp2_with fail
  refine (C.out _).mono ?_
  rintro e w1 ⟨rfl, rfl⟩
  go_wp2
  go_ret
  exact ⟨rfl, rfl⟩
theorem hardNow {w : World} {h : Nat} {a : Int} {y : Value} (hb : BoxF w h [.int .i64 a, y]) : Calls Tryz.prog 93 #[.pointer (some ⟨h, 0, none⟩)] w fun e w' => e = .returned (.int .i64 a) ∧ w = w' := by
  have c0 := hb.1 0 _ rfl
  clear hb
  go_enter Tryz.func93, Tryz.ntmps93
  go_wp2
  go_ret
  exact ⟨rfl, rfl⟩
def HardPost (h : Nat) (a : Int) (w : World) (e : Ending) (w' : World) : Prop := e = .returned (.int .i64 1024) ∧ BoxF w' h [.int .i64 (a + 1024), .int .i64 0] ∧ FrB h w w'
set_option maxHeartbeats 1600000 in
theorem hardTick {w : World} {h : Nat} {a : Int} (hb : BoxF w h [.int .i64 a, .int .i64 0]) (h0 : 0 ≤ a) (h1 : a + 1024 ≤ 1152921504606846976) : Calls Tryz.prog 84 #[.pointer (some ⟨h, 0, none⟩)] w (HardPost h a w) := by
  have C1 := Lib.hid (hardNow hb)
  have CT := Lib.hid (fun W => rateTime (a + 1024) (by omega) h1 W)
  have HD : Hid (Below w.heap.size w w.drew) := (Below.refl _ _).drew
  have HK : Hid (∀ W, Below w.heap.size w W → BoxF W h [.int .i64 a, .int .i64 0]) := fun W hW => hb.keep hW
  have k1 := (HK.out _ HD.out).put 0 (by simp) (.int .i64 (a + 1024))
  simp only [List.set_cons_zero] at k1
  have c0 := (HK.out _ HD.out).1 0 _ rfl
  have f0 := (HK.out _ HD.out).2 0 (by simp)
  have C2 := Lib.hid (hardNow k1)
  have HF : Hid (BoxF (w.drew.setCell ⟨h, 0, none⟩ (.int .i64 (a + 1024))) h [.int .i64 (a + 1024), .int .i64 0] ∧ FrB h w (w.drew.setCell ⟨h, 0, none⟩ (.int .i64 (a + 1024)))) := ⟨k1, (FrB.of HD.out).trans (FrB.set _ _ _ _)⟩
  have hwr : IntKind.i64.wrap (a + 1024) = a + 1024 := IntWalk.i64_in _ (by omega)
  clear hb k1
  go_enter Tryz.func84, Tryz.ntmps84
  go_wp2_with fail
  refine C1.out.mono ?_
  rintro e w' ⟨rfl, rfl⟩
  go_wp2_with fail
  refine wp_region_plan [] [(true, 0), (true, 1), (true, 2), (true, 3), (true, 4), (true, 5), (true, 6), (true, 7), (true, 8), (false, 9), (true, 10), (false, 11), (true, 12), (true, 13)] 14 12 (fun W => Below w.heap.size w W) (by kernel_rfl) (by kernel_rfl) (by intro c a t v w h; exact h) HD.out ?_
  simp only [pickB, pickL, List.drop_succ_cons, List.drop_zero, List.head?_cons, Option.toList_some, List.map_cons, List.map_nil, List.cons_append, List.nil_append]
  refine wpHead_nil ?_
  iterate 9 (refine wpPlan_rd _ (by rfl) (by intro W hW; have hk := HK.out W hW; have z0 := hk.1 0 _ rfl; have z1 := hk.1 1 _ rfl; clear hk hW; go_simp; with_reducible rfl) ?_; simp only [Act.put, List.setIfInBounds_toArray, List.set_cons_zero, List.set_cons_succ])
  refine wpPlan_do (by rfl) ?_
  go_simp
  go_at_call 141
  refine (rateInc0 _).mono ?_
  rintro e w' ⟨rfl, rfl⟩
  refine ⟨HD.out, ?_⟩
  iterate 1 (refine wpPlan_rd _ (by rfl) (by intro W hW; have hk := HK.out W hW; have z0 := hk.1 0 _ rfl; have z1 := hk.1 1 _ rfl; clear hk hW; go_simp; with_reducible rfl) ?_; simp only [Act.put, List.setIfInBounds_toArray, List.set_cons_zero, List.set_cons_succ])
  refine wpPlan_do (by rfl) ?_
  go_simp
  go_at_call 79
  refine (CT.out _).mono ?_
  rintro e w' ⟨rfl, rfl⟩
  refine ⟨HD.out, ?_⟩
  iterate 2 (refine wpPlan_rd _ (by rfl) (by intro W hW; have hk := HK.out W hW; have z0 := hk.1 0 _ rfl; have z1 := hk.1 1 _ rfl; clear hk hW; go_simp; with_reducible rfl) ?_; simp only [Act.put, List.setIfInBounds_toArray, List.set_cons_zero, List.set_cons_succ])
  refine wpPlan_nil ?_
  clear hwr
  go_wp2_with fail
  refine C2.out.mono ?_
  rintro e w' ⟨rfl, rfl⟩
  go_wp2
  go_ret
  exact ⟨ret_int (by omega), HF.out.1, HF.out.2⟩
theorem rateNew0 (w : World) : Calls Tryz.prog 22 #[.int .i64 0] w fun e w' => e = .returned (.pointer (some ⟨w.heap.size, 0, none⟩)) ∧ BoxF w' w.heap.size [.int .i64 0, .int .i64 0] ∧ w'.heap.size = w.heap.size + 1 ∧ Below w.heap.size w w' := by
  have C := Lib.hid (fun W => rateTime 0 (by decide) (by decide) W)
  have k := boxF_made w [.int .i64 0, .int .i64 0] 172
  have hb := (Below.refl w.heap.size w).alloc (Nat.le_refl _) (.cells #[.int .i64 0, .int .i64 0] 172)
  have HF := Lib.hid (And.intro k (And.intro (show (w.alloc (.cells #[.int .i64 0, .int .i64 0] 172)).heap.size = w.heap.size + 1 by simp) hb))
  clear k hb
  go_enter Tryz.func22, Tryz.ntmps22
  go_wp2_with fail
  refine (C.out _).mono ?_
  rintro e w' ⟨rfl, rfl⟩
  go_wp2
  go_ret
  exact ⟨rfl, HF.out⟩
theorem agNew (n : Int) (w : World) : Calls Tryz.prog 19 #[.int .i64 n] w fun e w' => e = .returned (.pointer (some ⟨w.heap.size, 0, none⟩)) ∧ BoxF w' w.heap.size [.slice none 0 0, .int .i64 (min (max n 0) 65536), .int .u64 0] ∧ w'.heap.size = w.heap.size + 1 ∧ Below w.heap.size w w' := by
  have k := boxF_made w [.slice none 0 0, .int .i64 (min (max n 0) 65536), .int .u64 0] 125
  have hb := (Below.refl w.heap.size w).alloc (Nat.le_refl _) (.cells #[.slice none 0 0, .int .i64 (min (max n 0) 65536), .int .u64 0] 125)
  have HF := Lib.hid (And.intro k (And.intro (show (w.alloc (.cells #[.slice none 0 0, .int .i64 (min (max n 0) 65536), .int .u64 0] 125)).heap.size = w.heap.size + 1 by simp) hb))
  clear k hb
  go_enter Tryz.func19, Tryz.ntmps19
  go_wp2
  go_ret
  exact ⟨rfl, HF.out⟩
theorem agNext0 {w : World} {a : Nat} {x y : Value} (h : BoxF w a [.slice none 0 0, x, y]) : Calls Tryz.prog 143 #[.pointer (some ⟨a, 0, none⟩)] w fun e w' => e = .returned (.tuple #[.int .i64 0, .bool false]) ∧ w = w' := by
  have c0 := h.1 0 _ rfl
  clear h
  go_enter Tryz.func143, Tryz.ntmps143
  go_wp2
  go_ret2
  exact ⟨rfl, rfl⟩
theorem agTake0 {w : World} {a : Nat} {x y : Value} (h : BoxF w a [.slice none 0 0, x, y]) (t : Int) : Calls Tryz.prog 85 #[.pointer (some ⟨a, 0, none⟩), .int .i64 t] w fun e w' => e = .returned (.tuple #[.agg #[.int .i64 0, .int .i64 0, .slice none 0 0], .bool false]) ∧ Below w.heap.size w w' := by
  have hb := (Below.refl w.heap.size w).alloc (Nat.le_refl _) (.cells #[.int .i64 0, .int .i64 0, .slice none 0 0] 62)
  have C := Lib.hid (agNext0 (h.keep hb))
  have HB := Lib.hid hb
  clear h hb
  go_enter Tryz.func85, Tryz.ntmps85
  go_wp2_with fail
  refine C.out.mono ?_
  rintro e w' ⟨rfl, rfl⟩
  go_wp2
  refine bodyPost_ret (v := .tuple #[.agg #[.int .i64 0, .int .i64 0, .slice none 0 0], .bool false]) (by simp [results, Tryz.results85, go_sem]) rfl ⟨rfl, HB.out⟩
end Go.Proofs.YteahiphmhaedpaaGreatDoor

namespace Go.Proofs.YteahiphmhaedpaaGreatDoor
open Go.RowKit Law
set_option linter.unusedVariables false
set_option linter.unusedSimpArgs false
set_option maxRecDepth 100000

theorem count_cell {w : World} {b : NdO} {c : Cn} {x : NV} (h : NdBox w b c x) (hc : x.counts = List.replicate 20 0) {k : Nat} (hk : k < 20) : w.cell? ⟨b.N, 120 + k, none⟩ = some (.int .i64 0) := by
  refine h.cell (120 + k) _ ?_
  unfold ndCell
  rw [if_neg (by omega), if_neg (by omega), if_neg (by omega), if_pos (by omega), Nat.add_sub_cancel_left, hc, List.getElem?_replicate, if_pos hk]
  rfl
theorem nodeRefused0 {w : World} {lo : Nat} {b : NdO} {c : Cn} {x : NV} {s : NS} (h : NodeAt w lo b c x s) (hc : x.counts = List.replicate 20 0) (e : Int) (h0 : -1 ≤ e) (h1 : e ≤ 20) :
    Calls Tryz.prog 90 #[.pointer (some ⟨b.N, 0, none⟩), .int .i64 e] w fun en w' => en = .returned (.int .i64 0) ∧ w = w' := by
  by_cases he : e < 0
  · generalize b.N = N at *
    clear h hc
    go_enter Tryz.func90, Tryz.ntmps90
    go_wp2
    go_ret
    exact ⟨rfl, rfl⟩
  · by_cases he2 : 20 ≤ e
    · generalize b.N = N at *
      clear h hc
      go_enter Tryz.func90, Tryz.ntmps90
      go_wp2
      go_ret
      exact ⟨rfl, rfl⟩
    · obtain ⟨k, rfl⟩ : ∃ k : Nat, e = (k : Int) := ⟨e.toNat, by omega⟩
      have hk : k < 20 := by omega
      have hkI : (k : Int) < 20 := by omega
      have ck := count_cell h.box hc hk
      generalize b.N = N at *
      clear h hc
      go_enter Tryz.func90, Tryz.ntmps90
      go_wp2
      go_ret
      exact ⟨rfl, rfl⟩
end Go.Proofs.YteahiphmhaedpaaGreatDoor

namespace Go.Proofs.YteahiphmhaedpaaGreatDoor
open Go.RowKit Law
set_option linter.unusedVariables false
set_option linter.unusedSimpArgs false
set_option maxRecDepth 100000

theorem WdAt.plC {w : World} {base W : Nat} {c : Cn} {A : Option Addr} {l k : Nat} {t : Int} {R cap : Nat} {ps : List PlV} {air : Nat} {ev : Value} {cr : Int} (h : WdAt w base W c A l k t R cap ps air ev cr) : w.cell? ⟨W, 16, none⟩ = some (.slice (some ⟨R, 0, none⟩) ps.length cap) := h.box.1 16 _ rfl
theorem worldAt {w : World} {base W : Nat} {c : Cn} {A : Option Addr} {l k : Nat} {t : Int} {R cap : Nat} {ps : List PlV} {air : Nat} {ev : Value} {cr : Int} (h : WdAt w base W c A l k t R cap ps air ev cr) {i : Nat} {p : PlV} (hp : ps[i]? = some p) : Calls Tryz.prog 146 #[.pointer (some ⟨W, 0, none⟩), .int .i64 (i : Int)] w fun e w' => e = .returned (pB p.P) ∧ w = w' := by
  have c16 := h.plC
  have hc := h.row i p hp
  have hlt : i < ps.length := (List.getElem?_eq_some_iff.1 hp).1
  obtain ⟨m, hm⟩ : ∃ m, ps.length = m := ⟨_, rfl⟩
  rw [hm] at c16 hlt
  have hltI : (i : Int) < (m : Int) := by omega
  clear h hp hm
  go_enter Tryz.func146, Tryz.ntmps146
  go_wp2
  go_ret
  exact ⟨rfl, rfl⟩
theorem worldNode {w : World} {base W : Nat} {c : Cn} {A : Option Addr} {l k : Nat} {t : Int} {R cap : Nat} {ps : List PlV} {air : Nat} {ev : Value} {cr : Int} (h : WdAt w base W c A l k t R cap ps air ev cr) {i : Nat} {p : PlV} (hp : ps[i]? = some p) : Calls Tryz.prog 86 #[.pointer (some ⟨W, 0, none⟩), .int .i64 (i : Int)] w fun e w' => e = .returned p.ndV ∧ w = w' := by
  have C := Lib.hid (worldAt h hp)
  have c0 := (h.pl i p hp).pb.1 0 _ rfl
  clear h hp
  go_enter Tryz.func86, Tryz.ntmps86
  go_wp2_with fail
  refine C.out.mono ?_
  rintro e w' ⟨rfl, rfl⟩
  go_wp2
  go_ret
  exact ⟨rfl, rfl⟩
def JudgePost (W : Nat) (L : List Value) (w : World) (e : Ending) (w' : World) : Prop := e = .returned (.tuple #[]) ∧ BoxF w' W L ∧ FrB W w w'
theorem worldJudge0 {w : World} {base W : Nat} {c : Cn} {A : Option Addr} {l k : Nat} {t : Int} {R cap : Nat} {ps : List PlV} {air : Nat} {ev : Value} {cr : Int} (h : WdAt w base W c A l k t R cap ps air ev cr) : Calls Tryz.prog 82 #[.pointer (some ⟨W, 0, none⟩)] w (JudgePost W (wdL c A l k t (.slice (some ⟨R, 0, none⟩) ps.length cap) air ev cr) w) := by
  have c19 : w.cell? ⟨W, 19, none⟩ = some (.slice none 0 0) := h.box.1 19 _ rfl
  have f19 : w.frozen? ⟨W, 19, none⟩ = false := h.box.2 19 (by unfold wdL; simp)
  have k1 := h.box.put 19 (by unfold wdL; simp) (.slice none 0 0)
  have HF : Hid (JudgePost W (wdL c A l k t (.slice (some ⟨R, 0, none⟩) ps.length cap) air ev cr) w (.returned (.tuple #[])) (w.setCell ⟨W, 19, none⟩ (.slice none 0 0))) := ⟨rfl, k1, FrB.set _ _ _ _⟩
  clear h k1
  go_enter Tryz.func82, Tryz.ntmps82
  go_wp2
  refine wp_loop_rounds 1 ?_
  rw [rounds_succ]
  go_wp2
  go_end0
  exact HF.out
def EvPost (b : NdO) (c : Cn) (x : NV) (w : World) (e : Ending) (w' : World) : Prop := e = .returned (.slice none 0 0) ∧ NdBox w' b c x ∧ FrB b.N w w'
theorem nodeEvents0 {w : World} {b : NdO} {c : Cn} {x : NV} (h : NdBox w b c x) (he : x.events = .slice none 0 0) : Calls Tryz.prog 215 #[.pointer (some ⟨b.N, 0, none⟩)] w (EvPost b c x w) := by
  have c140 : w.cell? ⟨b.N, 140, none⟩ = some x.events := h.cell 140 _ rfl
  rw [he] at c140
  have f140 := h.fz 140 (by decide)
  have h2 := h.put (x' := x) 140 (.slice none 0 0) ⟨_, rfl⟩ (by show some x.events = _; rw [he]) (fun _ _ => rfl)
  have HF : Hid (EvPost b c x w (.returned (.slice none 0 0)) (w.setCell ⟨b.N, 140, none⟩ (.slice none 0 0))) := ⟨rfl, h2, FrB.set _ _ _ _⟩
  obtain ⟨N, hN⟩ : ∃ N, b.N = N := ⟨_, rfl⟩
  rw [hN] at c140 f140 HF ⊢
  clear h h2 he hN
  go_enter Tryz.func215, Tryz.ntmps215
  go_wp2
  go_ret
  exact HF.out
/-- A node's own block is written anew as it was. -/
theorem NdOk.same {w w' : World} {c : Cn} {p : PlV} {n : NdI} (h : NdOk w c p n) (k : NdBox w' n.b c n.x) (F : FrB n.b.N w w') : NdOk w' c p n := by
  obtain ⟨o0, o1, o2, o3, o4, o5, o6, o7, o8, o9, o10, o11, o12, o13, o14, o15, o16, o17, o18, o19, o20⟩ := h.idle.nd.ord
  have h1 := h.l1
  have h2 := h.l2
  have hlR : n.R < w.heap.size := World.block_lt_of_cell? _ _ (h.vr 0 _ rfl)
  have hk : ∀ q, q < w.heap.size → q ≠ n.b.N → w'.heap[q]? = w.heap[q]? := fun q h3 h4 => F.block q h3 h4
  have nd := h.idle.nd
  refine { h with idle := { h.idle with nd := ⟨k, nd.ser.same (hk _ (by omega) (by omega)), nd.slw.same (hk _ (by omega) (by omega)), nd.clk.same (hk _ (by omega) (by omega)), nd.tmp.same (hk _ (by omega) (by omega)), nd.tab.same (hk _ (by omega) (by omega)), nd.sen.same (hk _ (by omega) (by omega)), nd.rel.same (hk _ (by omega) (by omega)), nd.htm.same (hk _ (by omega) (by omega)), nd.htb.same (hk _ (by omega) (by omega)), nd.hq.same (hk _ (by omega) (by omega)), nd.hst.same (hk _ (by omega) (by omega)), nd.quo.same (hk _ (by omega) (by omega)), nd.rom.same (hk _ (by omega) (by omega)), nd.rol.same (hk _ (by omega) (by omega)), nd.jn.same (hk _ (by omega) (by omega)), nd.vws.same (hk _ (by omega) (by omega)), nd.lg.same (hk _ (by omega) (by omega)), nd.pim.same (hk _ (by omega) (by omega)), nd.pie.same (hk _ (by omega) (by omega)), nd.ord.mono F.size⟩, rb := h.idle.rb.same (hk _ (by omega) (by omega)) }, vr := h.vr.same (hk _ hlR (by omega)) }
theorem NdOk.inP {w : World} {c : Cn} {p : PlV} {n : NdI} (h : NdOk w c p n) : p.lo ≤ n.b.N ∧ n.b.N < n.r ∧ n.b.pie < n.r := by
  obtain ⟨o0, o1, o2, o3, o4, o5, o6, o7, o8, o9, o10, o11, o12, o13, o14, o15, o16, o17, o18, o19, o20⟩ := h.idle.nd.ord
  have h0 := h.l0
  have h1 := h.l1
  exact ⟨by omega, by omega, h1⟩
theorem PlAt.sameN {w w' : World} {c : Cn} {p : PlV} {n : NdI} (h : PlAt w c p) (hn : p.nd = some n) (k : NdBox w' n.b c n.x) (F : FrB n.b.N w w') : PlAt w' c p := by
  have hk := h.nd n hn
  obtain ⟨i0, i1, i2⟩ := hk.inP
  have h2 := hk.l2
  have h3 := hk.l3
  have h4 := hk.l4
  refine { h with pb := F.box h.pb (by simp) (by omega), hb := F.box h.hb (by simp) (by omega), top := Nat.le_trans h.top F.size, nd := fun n' hn' => ?_ }
  rw [hn] at hn'
  obtain rfl := Option.some.inj hn'
  exact hk.same k F
def GatherPost (p : PlV) (c : Cn) (w : World) (e : Ending) (w' : World) : Prop := e = .returned (.tuple #[]) ∧ PlAt w' c p ∧ FrI p.lo p.hi w w'
theorem worldGather0 {w : World} {base W : Nat} {c : Cn} {A : Option Addr} {l k : Nat} {t : Int} {R cap : Nat} {ps : List PlV} {air : Nat} {ev : Value} {cr : Int} (h : WdAt w base W c A l k t R cap ps air ev cr) {i : Nat} {p : PlV} {n : NdI} (hp : ps[i]? = some p) (hn : p.nd = some n) : Calls Tryz.prog 157 #[.pointer (some ⟨W, 0, none⟩), .int .i64 (i : Int)] w (GatherPost p c w) := by
  have C := worldNode h hp
  have hk := (h.pl i p hp).nd n hn
  rw [show p.ndV = pB n.b.N by unfold PlV.ndV; rw [hn]] at C
  have C1 := Lib.hid C
  have C2 := Lib.hid (nodeEvents0 hk.idle.nd.box hk.ev)
  have H := Lib.hid (And.intro (h.pl i p hp) (And.intro hn hk))
  clear h hp hn hk C
  go_enter Tryz.func157, Tryz.ntmps157
  go_wp2_with fail
  refine C1.out.mono ?_
  rintro e w' ⟨rfl, rfl⟩
  go_wp2_with fail
  refine C2.out.mono ?_
  rintro e w1 ⟨rfl, hb, F⟩
  have HF : Hid (GatherPost p c w (.returned (.tuple #[])) w1) := by
    obtain ⟨i0, i1, i2⟩ := H.out.2.2.inP
    have h2 := H.out.2.2.l2
    have h3 := H.out.2.2.l3
    have h5 := H.out.1.a1
    exact ⟨rfl, H.out.1.sameN H.out.2.1 hb F, FrI.ofB F (by omega) (by omega)⟩
  clear hb F
  go_wp2
  refine wp_loop_rounds 1 ?_
  rw [rounds_succ]
  go_wp2
  go_end0
  exact HF.out
theorem worldLaunch0 {w : World} {base W : Nat} {c : Cn} {A : Option Addr} {l k : Nat} {t : Int} {R cap : Nat} {ps : List PlV} {air : Nat} {ev : Value} {cr : Int} (h : WdAt w base W c A l k t R cap ps air ev cr) {i : Nat} {p : PlV} {n : NdI} (hp : ps[i]? = some p) (hn : p.nd = some n) : Calls Tryz.prog 88 #[.pointer (some ⟨W, 0, none⟩), .int .i64 (i : Int), .slice none 0 0] w (GatherPost p c w) := by
  have C := Lib.hid (worldGather0 h hp hn)
  clear h hp hn
  go_enter Tryz.func88, Tryz.ntmps88
  go_wp2
  refine wp_loop_rounds 1 ?_
  rw [rounds_succ]
  go_wp2_with fail
  refine C.out.mono ?_
  rintro e w1 hh
  have HF := Lib.hid hh
  obtain ⟨rfl, -, -⟩ := hh
  go_wp2
  go_end0
  exact HF.out
end Go.Proofs.YteahiphmhaedpaaGreatDoor

namespace Go.Proofs.YteahiphmhaedpaaGreatDoor
open Go.RowKit Law
set_option linter.unusedVariables false
set_option linter.unusedSimpArgs false
set_option maxRecDepth 100000

def tickP (p : PlV) : PlV := p.ticked (p.at_ + 1024)
/-- There is time for one tick more ahead of what is due. -/
def Room (c : Cn) (p : PlV) : Prop := p.at_ + 1024 < c.round ∧ p.at_ + 1024 < perEvery c.attend
theorem advNil (w : World) : Calls Tryz.prog 83 #[.pointer none, .int .i64 1024] w fun e w' => e = .returned (.tuple #[]) ∧ w = w' := by
  go_enter Tryz.func83, Tryz.ntmps83
  go_wp2
  refine bodyPost_ret (v := .tuple #[]) (by simp [results, Tryz.results83, go_sem]) rfl ⟨rfl, rfl⟩
def AdvPPost (p : PlV) (c : Cn) (w : World) (e : Ending) (w' : World) : Prop := e = .returned (.tuple #[]) ∧ PlAt w' c (tickP p) ∧ FrI p.lo p.hi w w'
theorem placeAdvance {w w0 w1 : World} {c : Cn} {p : PlV} (h : PlAt w0 c p) (hr : Room c p) (hM : c.round ≤ 1152921504606846976) (hb : Below w0.heap.size w0 w) (k : BoxF w1 p.hd [.int .i64 (p.at_ + 1024), .int .i64 0]) (F : FrB p.hd w w1) :
    Calls Tryz.prog 83 #[p.ndV, .int .i64 1024] w1 (AdvPPost p c w0) := by
  replace h := h.below hb
  have hS : w0.heap.size ≤ w.heap.size := hb.size
  have hFI : FrI p.lo p.hi w0 w1 := (FrI.of hb).trans (FrI.ofB F h.b0 h.b1)
  have hpb := F.box h.pb (by simp) h.ne
  have htop : p.hi ≤ w1.heap.size := Nat.le_trans h.top F.size
  cases hn : p.nd with
  | none =>
    rw [show p.ndV = .pointer none by unfold PlV.ndV; rw [hn]] at hpb ⊢
    refine (advNil w1).mono ?_
    rintro e w' ⟨rfl, rfl⟩
    refine ⟨rfl, ?_, hFI⟩
    exact { pb := by show BoxF w1 p.P [(tickP p).ndV, _, _]; rw [show (tickP p).ndV = .pointer none by unfold tickP PlV.ticked PlV.ndV; simp only [hn, Option.map_none]]; exact hpb
            hb := k, a0 := h.a0, a1 := h.a1, b0 := h.b0, b1 := h.b1, ne := h.ne, t0 := by show 0 ≤ p.at_ + 1024; have := h.t0; omega, top := htop
            nd := fun n' hn' => by unfold tickP PlV.ticked at hn'; simp only [hn, Option.map_none] at hn'; cases hn' }
  | some n =>
    have hk := h.nd n hn
    rw [show p.ndV = pB n.b.N by unfold PlV.ndV; rw [hn]] at hpb ⊢
    obtain ⟨i0, i1, i2⟩ := hk.inP
    have l2 := hk.l2
    have l3 := hk.l3
    have l4 := hk.l4
    have t0 := h.t0
    obtain ⟨r1, r2⟩ := hr
    have hlR : n.R < w.heap.size := World.block_lt_of_cell? _ _ (hk.vr 0 _ rfl)
    have hk1 : NdOk w1 c p n := hk.kept F.size (fun q h1 h2 => F.block q (by omega) (by omega))
    have e1 : min (n.x.hard + 1024) 1152921504606846976 = p.at_ + 1024 := by rw [hk.hard]; omega
    have e2 : clampI (n.s.at_ + 1024) 0 1152921504606846976 = p.at_ + 1024 := by rw [hk.at_]; exact clamp_in (by omega) (by omega)
    have C := nodeAdvance hk1.idle.nd hk.left (by rw [hk.idle.ph]; decide) hk.idle.a0 (by rw [hk.at_]; omega) (by rw [hk.hard]; omega) (by rw [hk.hard]; omega) 1024 (by decide) (by decide)
    unfold AdvPost at C
    rw [e1, e2] at C
    refine C.mono ?_
    rintro e w' ⟨rfl, nd', F'⟩
    obtain ⟨o0, o1, o2, o3, o4, o5, o6, o7, o8, o9, o10, o11, o12, o13, o14, o15, o16, o17, o18, o19, o20⟩ := nd'.ord
    have oo := hk1.idle.nd.ord
    have htb : ∀ q ∈ tickB n.b, n.lo ≤ q ∧ q ≤ n.b.pie := by
      intro q hq
      unfold tickB at hq
      simp only [List.mem_cons, List.not_mem_nil, or_false] at hq
      rcases hq with rfl | rfl | rfl <;> omega
    have l0 := hk.l0
    have a1 := h.a1
    have F2 : FrI p.lo p.hi w1 w' := FrI.ofL F' (fun q hq => by have := htb q hq; omega)
    have hout : ∀ q, q < w1.heap.size → n.b.pie < q → w'.heap[q]? = w1.heap[q]? := fun q h1 h2 => F'.block q h1 (fun e => by have := htb q e; omega)
    have hPlt := hpb.lt (by simp)
    have hdlt := k.lt (by simp)
    have hrlt := hk1.idle.rb.lt (by simp)
    have hRlt := Nat.lt_of_lt_of_le hlR F.size
    refine ⟨rfl, ?_, hFI.trans F2⟩
    exact { pb := by show BoxF w' p.P [(tickP p).ndV, _, _]; rw [show (tickP p).ndV = pB n.b.N by unfold tickP PlV.ticked PlV.ndV; simp only [hn, Option.map_some]; rfl]; exact hpb.same (hout _ hPlt (by omega))
            hb := k.same (hout _ hdlt (by show n.b.pie < p.hd; omega)), a0 := h.a0, a1 := h.a1, b0 := h.b0, b1 := h.b1, ne := h.ne, t0 := by show 0 ≤ p.at_ + 1024; omega, top := Nat.le_trans htop F'.size
            nd := fun n' hn' => by
              unfold tickP PlV.ticked at hn'
              simp only [hn, Option.map_some] at hn'
              obtain rfl := Option.some.inj hn'
              exact { idle := { hk1.idle with nd := nd', rb := hk1.idle.rb.same (hout _ hrlt i2), a0 := by show 0 ≤ p.at_ + 1024; omega, a1 := r1, a2 := r2 }, l0 := l0, l1 := hk.l1, l2 := hk.l2, l3 := hk.l3, l4 := hk.l4, ev := hk.ev, cnt := hk.cnt, left := hk.left, at_ := rfl, hard := rfl, vw := hk.vw, vr := hk1.vr.same (hout _ hRlt (by show n.b.pie < n.R; omega)), jc := hk.jc } }
/-- All blocks but the cluster's own and its places' are as they were. -/
structure FrC (W : Nat) (ps : List PlV) (w w' : World) : Prop where
  os : w'.os = w.os
  tape : w'.tape = w.tape
  output : w'.output = w.output
  size : w.heap.size ≤ w'.heap.size
  block : ∀ k, k < w.heap.size → k ≠ W → (∀ (i : Nat) (p : PlV), ps[i]? = some p → k < p.lo ∨ p.hi ≤ k) → w'.heap[k]? = w.heap[k]?
theorem FrC.refl (W : Nat) (ps : List PlV) (w : World) : FrC W ps w w := ⟨rfl, rfl, rfl, Nat.le_refl _, fun _ _ _ _ => rfl⟩
theorem FrC.trans {W : Nat} {ps : List PlV} {u v w : World} (h : FrC W ps u v) (k : FrC W ps v w) : FrC W ps u w :=
  ⟨k.os.trans h.os, k.tape.trans h.tape, k.output.trans h.output, Nat.le_trans h.size k.size, fun i h1 h2 h3 => (k.block i (Nat.lt_of_lt_of_le h1 h.size) h2 h3).trans (h.block i h1 h2 h3)⟩
theorem FrC.of {W : Nat} {ps : List PlV} {w w' : World} (h : Below w.heap.size w w') : FrC W ps w w' := ⟨h.os, h.tape, h.output, h.size, fun k hk _ _ => h.block k hk⟩
theorem FrC.ofB {W : Nat} {ps : List PlV} {w w' : World} (h : FrB W w w') : FrC W ps w w' := ⟨h.os, h.tape, h.output, h.size, fun k hk h1 _ => h.block k hk h1⟩
theorem FrC.ofI {W : Nat} {ps : List PlV} {w w' : World} {i : Nat} {p : PlV} (h : FrI p.lo p.hi w w') (hp : ps[i]? = some p) : FrC W ps w w' := ⟨h.os, h.tape, h.output, h.size, fun k hk _ h2 => h.block k hk (h2 i p hp)⟩
theorem FrC.same {W : Nat} {ps qs : List PlV} {w w' : World} (h : FrC W ps w w') (hq : ∀ (i : Nat) (p : PlV), ps[i]? = some p → ∃ q, qs[i]? = some q ∧ q.lo = p.lo ∧ q.hi = p.hi) : FrC W qs w w' := ⟨h.os, h.tape, h.output, h.size, fun k hk h1 h2 => h.block k hk h1 (fun i p hp => by obtain ⟨q, h3, h4, h5⟩ := hq i p hp; have := h2 i q h3; omega)⟩
def TickWPost (base W : Nat) (c : Cn) (A : Option Addr) (l k : Nat) (t : Int) (R cap : Nat) (ps : List PlV) (air : Nat) (ev : Value) (cr : Int) (w : World) (e : Ending) (w' : World) : Prop := e = .returned (.tuple #[]) ∧ WdAt w' base W c A l k (t + 1) R cap (ps.map tickP) air ev cr ∧ FrC W ps w w'
/-- The places of which the first j have ticked. -/
def half (ps : List PlV) (j : Nat) : List PlV := (ps.take j).map tickP ++ ps.drop j
theorem half_len (ps : List PlV) (j : Nat) : (half ps j).length = ps.length := by
  unfold half
  rw [List.length_append, List.length_map, List.length_take, List.length_drop]
  omega
theorem half_at {ps : List PlV} {j : Nat} {p : PlV} (h : ps[j]? = some p) : (half ps j)[j]? = some p := by
  have hj : j < ps.length := (List.getElem?_eq_some_iff.1 h).1
  unfold half
  rw [List.getElem?_append_right (by rw [List.length_map, List.length_take]; omega), List.length_map, List.length_take, Nat.min_eq_left (Nat.le_of_lt hj), Nat.sub_self, List.getElem?_drop, Nat.add_zero]
  exact h
theorem half_set {ps : List PlV} {j : Nat} {p : PlV} (h : ps[j]? = some p) : (half ps j).set j (tickP p) = half ps (j + 1) := by
  have hj : j < ps.length := (List.getElem?_eq_some_iff.1 h).1
  have hp : ps[j] = p := (List.getElem?_eq_some_iff.1 h).2
  unfold half
  rw [List.set_append_right _ _ (by rw [List.length_map, List.length_take]; omega), List.length_map, List.length_take, Nat.min_eq_left (Nat.le_of_lt hj), Nat.sub_self, List.drop_eq_getElem_cons hj, List.set_cons_zero, List.take_succ_eq_append_getElem hj, List.map_append, hp]
  simp
theorem half_all (ps : List PlV) : half ps ps.length = ps.map tickP := by
  unfold half
  rw [List.take_length, List.drop_length, List.append_nil]
theorem set_self {α : Type} : ∀ (l : List α) (i : Nat) (x : α), l[i]? = some x → l.set i x = l
  | [], i, x, h => by simp at h
  | y :: r, 0, x, h => by simp at h; subst h; rfl
  | y :: r, i + 1, x, h => by
    rw [List.set_cons_succ, set_self r i x (by simpa using h)]
theorem WdAt.bsz {w : World} {base W : Nat} {c : Cn} {A : Option Addr} {l k : Nat} {t : Int} {R cap : Nat} {ps : List PlV} {air : Nat} {ev : Value} {cr : Int} (h : WdAt w base W c A l k t R cap ps air ev cr) : base ≤ w.heap.size := Nat.le_trans h.bW (Nat.le_of_lt (h.box.lt (by unfold wdL; simp)))
theorem FrC.below {w : World} {base W : Nat} {c : Cn} {A : Option Addr} {l k : Nat} {t : Int} {R cap : Nat} {ps : List PlV} {air : Nat} {ev : Value} {cr : Int} (h : WdAt w base W c A l k t R cap ps air ev cr) {w' : World} (F : FrC W ps w w') : Below base w w' :=
  ⟨F.os, F.tape, F.output, F.size, fun q hq => F.block q (Nat.lt_of_lt_of_le hq h.bsz) (by have := h.bW; omega) (fun i p hp => by have := h.oW i p hp; have := h.bW; omega)⟩
theorem half_iv {ps : List PlV} {j i : Nat} {q : PlV} (h : (half ps j)[i]? = some q) : ∃ p, ps[i]? = some p ∧ p.lo = q.lo ∧ p.hi = q.hi := by
  unfold half at h
  have hi : i < ps.length := by
    have := (List.getElem?_eq_some_iff.1 h).1
    have h2 := half_len ps j
    unfold half at h2
    omega
  rcases Nat.lt_or_ge i (min j ps.length) with h1 | h1
  · rw [List.getElem?_append_left (by rw [List.length_map, List.length_take]; exact h1), List.getElem?_map, List.getElem?_take_of_lt (by omega)] at h
    rw [List.getElem?_eq_getElem hi] at h ⊢
    obtain rfl := Option.some.inj h
    exact ⟨_, rfl, rfl, rfl⟩
  · rw [List.getElem?_append_right (by rw [List.length_map, List.length_take]; exact h1), List.length_map, List.length_take, List.getElem?_drop] at h
    have e : j + (i - min j ps.length) = i ∨ j > ps.length := by omega
    rcases e with e | e
    · rw [e] at h; exact ⟨q, h, rfl, rfl⟩
    · rw [List.getElem?_eq_none (by omega)] at h; cases h
theorem WdAt.lo0 {w : World} {base W : Nat} {c : Cn} {A : Option Addr} {l k : Nat} {t : Int} {R cap : Nat} {ps : List PlV} {air : Nat} {ev : Value} {cr : Int} (h : WdAt w base W c A l k t R cap ps air ev cr) {i : Nat} {p : PlV} (hp : ps[i]? = some p) : base ≤ p.lo := by
  have := h.oW i p hp
  have := h.bW
  omega
end Go.Proofs.YteahiphmhaedpaaGreatDoor

namespace Go.Proofs.YteahiphmhaedpaaGreatDoor
open Go.RowKit Law
set_option linter.unusedVariables false
set_option linter.unusedSimpArgs false
set_option maxRecDepth 100000

set_option maxHeartbeats 12800000 in
theorem worldTick {w : World} {base W : Nat} {c : Cn} {A : Option Addr} {l k : Nat} {t : Int} {R cap : Nat} {ps : List PlV} {air : Nat} {ev : Value} {cr : Int} (h : WdAt w base W c A l k t R cap ps air ev cr) (hlen : ps.length ≤ 64) (ht0 : 0 ≤ t) (ht1 : t ≤ 1000000000) (hM : c.round ≤ 1152921504606846976) (hr : ∀ (i : Nat) (p : PlV), ps[i]? = some p → Room c p) :
    Calls Tryz.prog 25 #[.pointer (some ⟨W, 0, none⟩)] w (TickWPost base W c A l k t R cap ps air ev cr w) := by
  have HP : Hid (∀ w', WdAt w' base W c A l k (t + 1) R cap (ps.map tickP) air ev cr → FrC W ps w w' → TickWPost base W c A l k t R cap ps air ev cr w (.returned (.tuple #[])) w') := fun w' h1 h2 => ⟨rfl, h1, h2⟩
  have c15 : w.cell? ⟨W, 15, none⟩ = some (.int .i64 t) := h.box.1 15 _ rfl
  have f15 : w.frozen? ⟨W, 15, none⟩ = false := h.box.2 15 (by unfold wdL; simp)
  have k1 := h.box.put 15 (by unfold wdL; simp) (.int .i64 (t + 1))
  have h1 : WdAt (w.setCell ⟨W, 15, none⟩ (.int .i64 (t + 1))) base W c A l k (t + 1) R cap ps air ev cr := h.own (FrB.set _ _ _ _) k1
  have B1 : FrC W ps w (w.setCell ⟨W, 15, none⟩ (.int .i64 (t + 1))) := FrC.ofB (FrB.set _ _ _ _)
  obtain ⟨w1, hw1⟩ : ∃ w1, w.setCell ⟨W, 15, none⟩ (.int .i64 (t + 1)) = w1 := ⟨_, rfl⟩
  rw [hw1] at k1 h1 B1
  have HR := Lib.hid (And.intro hr hM)
  have H1 := Lib.hid (And.intro h1 B1)
  have C1 := Lib.hid (worldJudge0 h1)
  have HBW := Lib.hid h.bW
  obtain ⟨m, hm⟩ : ∃ m, ps.length = m := ⟨_, rfl⟩
  have HM := Lib.hid hm
  have hm64 : (m : Int) ≤ 64 := by omega
  clear hlen h h1 B1 k1 hr hM hm
  go_enter Tryz.func25, Tryz.ntmps25
  go_wp2_with fail
  refine C1.out.mono ?_
  rintro e w2 ⟨rfl, hbx, F⟩
  have h2 := H1.out.1.own F hbx
  have B2 := H1.out.2.trans (FrC.ofB F)
  have H2 := Lib.hid (And.intro h2 B2)
  have c16 := h2.plC
  rw [HM.out] at c16
  clear h2 B2 hbx F hw1 c15 f15
  go_wp2
  go_loopw [3, 26] (fun pv i wr => ∃ j : Nat, j ≤ m ∧ i = .int .i64 j ∧ WdAt wr base W c A l k (t + 1) R cap (half ps j) air ev cr ∧ FrC W ps w wr) (fun _ i _ => m - (intOf i).toNat)
  case atStart => exact ⟨0, Nat.zero_le _, rfl, H2.out.1, H2.out.2⟩
  case round =>
    obtain ⟨j, hj, rfl, hW, hB⟩ := hrel
    by_cases hlt : j < m
    · have hltI : (j : Int) < (m : Int) := by omega
      have hjl : j < ps.length := by rw [HM.out]; exact hlt
      obtain ⟨p, hp⟩ : ∃ p, ps[j]? = some p := ⟨_, List.getElem?_eq_getElem hjl⟩
      have hph := half_at hp
      have HPL := Lib.hid (hW.pl j p hph)
      have HT := Lib.hid (And.intro hp (And.intro (HR.out.1 j p hp) HR.out.2))
      have HD : Hid (Below wr.heap.size wr wr.drew) := (Below.refl _ _).drew
      have C1 := Lib.hid (hardTick (HPL.out.below HD.out).hb HPL.out.t0 (by have := HT.out.2.1.1; have := HT.out.2.2; omega))
      have HC := Lib.hid (And.intro (HPL.out.pb.1 0 _ rfl) (HPL.out.pb.1 1 _ rfl))
      have hcell := hW.row j p hph
      have HX := Lib.hid (And.intro hW (And.intro hB hph))
      clear hW hB hp hph hjl
      go_wp2_with fail
      refine wp_region_plan [] [(true, 0), (true, 1), (true, 2), (true, 3), (true, 4), (true, 5), (true, 6), (true, 7), (false, 8)] 9 12 (fun W1 => W1.heap[p.P]? = wr.heap[p.P]?) (by kernel_rfl) (by kernel_rfl) (by intro c a t v w h; exact h) (show wr.drew.heap[p.P]? = wr.heap[p.P]? from rfl) ?_
      simp only [pickB, pickL, List.drop_succ_cons, List.drop_zero, List.head?_cons, Option.toList_some, List.map_cons, List.map_nil, List.cons_append, List.nil_append]
      refine wpHead_nil ?_
      iterate 8 (refine wpPlan_rd _ (by rfl) (by intro W hW; have z0 := (cell_sm (b := p.P) (o := 0) hW).trans HC.out.1; have z1 := (cell_sm (b := p.P) (o := 1) hW).trans HC.out.2; clear hW; go_simp; with_reducible rfl) ?_; simp only [Act.put, List.setIfInBounds_toArray, List.set_cons_zero, List.set_cons_succ])
      refine wpPlan_do (by rfl) ?_
      go_simp
      go_at_call 84
      refine C1.out.mono ?_
      rintro e w1 ⟨rfl, hb1, F1⟩
      have C2 := Lib.hid (placeAdvance HPL.out HT.out.2.1 HT.out.2.2 HD.out hb1 F1)
      have HS : Hid (w1.heap[p.P]? = wr.heap[p.P]?) := F1.block p.P (Nat.lt_of_lt_of_le HPL.out.a1 HPL.out.top) HPL.out.ne
      clear hb1 F1
      refine ⟨HS.out, ?_⟩
      refine wpPlan_nil ?_
      go_wp2_with fail
      refine C2.out.mono ?_
      rintro e w2' ⟨rfl, hp2, F2⟩
      have HN : Hid (WdAt w2' base W c A l k (t + 1) R cap (half ps (j + 1)) air ev cr ∧ FrC W ps w w2') := by
        have h3 := HX.out.1.turn HX.out.2.2 F2 hp2 rfl rfl rfl
        rw [half_set HT.out.1] at h3
        exact ⟨h3, HX.out.2.1.trans (FrC.ofI F2 HT.out.1)⟩
      clear hp2 F2 hcell
      go_wp2
      go_roundw
      case rel => exact ⟨j + 1, by omega, by go_num, HN.out.1, HN.out.2⟩
      case measure => simp [intOf]; omega
    · obtain rfl : j = m := by omega
      rw [← HM.out, half_all] at hW
      have HX := Lib.hid (And.intro hW hB)
      have c15 : wr.cell? ⟨W, 15, none⟩ = some (.int .i64 (t + 1)) := hW.box.1 15 _ rfl
      have c18 : wr.cell? ⟨W, 18, none⟩ = some (pB air) := hW.box.1 18 _ rfl
      have C3 := Lib.hid (agTake0 hW.airb (t + 1))
      clear hW hB
      go_wp2_with fail
      refine C3.out.mono ?_
      rintro e w3 ⟨rfl, hb3⟩
      have H3 := Lib.hid (And.intro (HX.out.1.below hb3) (HX.out.2.trans (FrC.of hb3)))
      clear hb3
      have hb4 := (Below.refl w3.heap.size w3).alloc (Nat.le_refl _) (.cells #[.int .i64 0, .int .i64 0, .slice none 0 0] 62)
      have H4 := Lib.hid (And.intro (H3.out.1.below hb4) (H3.out.2.trans (FrC.of hb4)))
      have c16' := (H3.out.1.below hb4).plC
      rw [List.length_map, HM.out] at c16'
      clear hb4
      go_wp2
      refine wp_loop_rounds 1 ?_
      rw [rounds_succ]
      go_wp2
      go_loopw [10, 11, 91] (fun a b i wr => ∃ q : Nat, q ≤ j ∧ i = .int .i64 q ∧ WdAt wr base W c A l k (t + 1) R cap (ps.map tickP) air ev cr ∧ FrC W ps w wr) (fun _ _ i _ => j - (intOf i).toNat)
      case atStart => exact ⟨0, Nat.zero_le _, rfl, H4.out.1, H4.out.2⟩
      case round =>
        obtain ⟨q, hq, rfl, hW, hB⟩ := hrel
        by_cases hlt : q < j
        · have hltI : (q : Int) < (j : Int) := by omega
          have hql : q < (ps.map tickP).length := by rw [List.length_map, HM.out]; exact hlt
          obtain ⟨p, hp⟩ : ∃ p, (ps.map tickP)[q]? = some p := ⟨_, List.getElem?_eq_getElem hql⟩
          have hcell := hW.row q p hp
          have hpl := hW.pl q p hp
          have hc0 := hpl.pb.1 0 _ rfl
          have HX := Lib.hid (And.intro hW (And.intro hB hp))
          cases hn : p.nd with
          | none =>
            rw [show p.ndV = .pointer none by unfold PlV.ndV; rw [hn]] at hc0
            clear hW hB hp hql hpl hn
            go_wp2
            go_roundw
            case rel => exact ⟨q + 1, by omega, by go_num, HX.out.1, HX.out.2.1⟩
            case measure => simp [intOf]; omega
          | some n =>
            rw [show p.ndV = pB n.b.N by unfold PlV.ndV; rw [hn]] at hc0
            have C5 := Lib.hid (nodeStep0 (hpl.nd n hn).idle)
            have HNN := Lib.hid hn
            clear hW hB hp hql hpl hn
            go_wp2_with fail
            refine C5.out.mono ?_
            rintro e w5 ⟨rfl, hb5⟩
            have H5 := Lib.hid (And.intro (HX.out.1.below hb5) (HX.out.2.1.trans (FrC.of hb5)))
            have C6 := Lib.hid (worldLaunch0 H5.out.1 HX.out.2.2 HNN.out)
            clear hb5 hc0 hcell
            go_wp2_with fail
            refine C6.out.mono ?_
            rintro e w6 ⟨rfl, hp6, F6⟩
            have HZ : Hid (WdAt w6 base W c A l k (t + 1) R cap (ps.map tickP) air ev cr ∧ FrC W ps w w6) := by
              have h3 := H5.out.1.turn HX.out.2.2 F6 hp6 rfl rfl rfl
              rw [set_self _ _ _ HX.out.2.2] at h3
              have F7 : FrC W (ps.map tickP) w5 w6 := FrC.ofI F6 HX.out.2.2
              refine ⟨h3, H5.out.2.trans (F7.same fun i p' hp' => ?_)⟩
              rw [List.getElem?_map] at hp'
              obtain ⟨z, hz, rfl⟩ := Option.map_eq_some_iff.1 hp'
              exact ⟨z, hz, rfl, rfl⟩
            clear hp6 F6
            go_wp2
            go_roundw
            case rel => exact ⟨q + 1, by omega, by go_num, HZ.out.1, HZ.out.2⟩
            case measure => simp [intOf]; omega
        · have HX := Lib.hid (And.intro hW hB)
          clear hW hB
          go_wp2
          go_end0
          exact HP.out _ HX.out.1 HX.out.2
end Go.Proofs.YteahiphmhaedpaaGreatDoor
