/- bound.Of: the numbers of a configuration. -/
import Derived.Test.YteahiphmhaedpaaGreatDoorCfB
import Derived.Deep.WholeRow
import Derived.Deep.RegionHeld3
import Derived.Deep.DrawnRows
namespace Go.Proofs.YteahiphmhaedpaaGreatDoor
open Go.RowKit Law
set_option linter.unusedVariables false
set_option linter.unusedSimpArgs false
set_option maxRecDepth 100000

theorem hopsErrI {h a b rho : Int} (h0 : 0 ≤ h) (hh : h ≤ 63) (a0 : 0 ≤ a) (hab : a ≤ b) (hb : b ≤ 64) (r0 : 0 ≤ rho) (hr : rho ≤ 64) (w : World) : Calls Tryz.prog 109 #[.int .i64 h, .int .i64 a, .int .i64 b, .int .i64 rho] w fun e w' => e = .returned (.tuple #[.int .i64 (errH h a b rho), .bool true]) ∧ w = w' := by
  obtain ⟨h, rfl⟩ := Int.eq_ofNat_of_zero_le h0
  obtain ⟨a, rfl⟩ := Int.eq_ofNat_of_zero_le a0
  obtain ⟨b, rfl⟩ := Int.eq_ofNat_of_zero_le (show 0 ≤ b by omega)
  obtain ⟨rho, rfl⟩ := Int.eq_ofNat_of_zero_le r0
  exact hopsErr h a b rho (by omega) (by omega) (by omega) (by omega) w
theorem readingErrI {a b rho slew : Int} (a0 : 0 ≤ a) (hab : a ≤ b) (hb : b ≤ 64) (r0 : 0 ≤ rho) (hr : rho ≤ 64) (hs : 1 ≤ slew) (hs2 : slew ≤ 256) (w : World) : Calls Tryz.prog 110 #[.int .i64 a, .int .i64 b, .int .i64 rho, .int .i64 slew] w fun e w' => e = .returned (.tuple #[.int .i64 (errR a b rho slew), .bool true]) ∧ w = w' := by
  obtain ⟨a, rfl⟩ := Int.eq_ofNat_of_zero_le a0
  obtain ⟨b, rfl⟩ := Int.eq_ofNat_of_zero_le (show 0 ≤ b by omega)
  obtain ⟨rho, rfl⟩ := Int.eq_ofNat_of_zero_le r0
  obtain ⟨slew, rfl⟩ := Int.eq_ofNat_of_zero_le (show 0 ≤ slew by omega)
  exact readingErr a b rho slew (by omega) (by omega) (by omega) (by omega) (by omega) w

/-! ### the numbers -/
def bHops (c : Cn) : Int := c.n - 1
def bFast (c : Cn) : Int := 1024 + c.rho + c.slew
def bSlow (c : Cn) : Int := 1024 - c.rho - c.slew
def bLink (c : Cn) : Int := c.dmax * bFast c
def bErr (c : Cn) : Int := errH (bHops c) c.dmin c.dmax c.rho
def bWw (c : Cn) : Int := waI c.rho c.window (bSlow c)
def bWr (c : Cn) : Int := waI c.rho c.round (bSlow c)
def bRead (c : Cn) : Int := bErr c + bWw c
def bAgree (c : Cn) : Int := 2 * bRead c + 2
def bStart (c : Cn) : Int := bAgree c + bWr c
def bEps (c : Cn) : Int := bStart c + bAgree c + bWr c + 2 * bFast c
def bMost (c : Cn) : Int := bStart c + bRead c + 2
def bCold (c : Cn) : Int := errR c.dmin c.dmax c.rho c.slew
def bRough (c : Cn) : Int := bEps c + bCold c + bMost c + bWr c + 4 * bFast c
def bLe (c : Cn) : Int := bLink c + bEps c
def bHl (c : Cn) : Int := bHops c * bLe c
def bDelta (c : Cn) : Int := bHl c + 2 * bFast c
def bRest (c : Cn) : Int := 2 * bEps c + 2 * bDelta c
def bDown (c : Cn) : Int := tkI (c.attend + bRest c) (bSlow c)
def bT1 (c : Cn) : Int := tkI (2 * (c.round + c.window)) (bSlow c)
def bT2 (c : Cn) : Int := tkI (2 * c.attend + bRest c) (bSlow c)
def bJoin (c : Cn) : Int := 2 * c.dmax + 8 + bT1 c + bT2 c
abbrev bCells (c : Cn) : List Value := [.int .i64 (bHops c), .int .i64 (bFast c), .int .i64 (bSlow c), .int .i64 (bLink c), .int .i64 (bRead c), .int .i64 (bAgree c), .int .i64 (bStart c), .int .i64 (bEps c), .int .i64 (bMost c), .int .i64 (bCold c), .int .i64 (bRough c), .int .i64 (bDelta c), .int .i64 (bDown c), .int .i64 (bJoin c)]
theorem goodC_iff {c : Cn} : goodC c = true ↔ 2 ≤ c.n ∧ c.n ≤ 64 ∧ 1 ≤ c.dmin ∧ c.dmin ≤ c.dmax ∧ c.dmax ≤ 64 ∧ (0 ≤ c.rho ∧ c.rho ≤ 64 ∧ 1 ≤ c.slew ∧ c.slew ≤ 256) ∧ (1 ≤ c.round ∧ c.round ≤ 1099511627776) ∧ (1 ≤ c.window ∧ c.window ≤ 1099511627776) ∧ (1 ≤ c.attend ∧ c.attend ≤ 1099511627776) := by
  unfold goodC perB
  simp only [Bool.and_eq_true, decide_eq_true_eq, goodRS_iff, and_assoc]
structure BdOk (c : Cn) : Prop where
  hops : 1 ≤ bHops c ∧ bHops c ≤ 63
  fast : 1025 ≤ bFast c ∧ bFast c ≤ 1344
  slow : 704 ≤ bSlow c ∧ bSlow c ≤ 1023
  link : 0 ≤ bLink c ∧ bLink c ≤ 86016
  err : 0 ≤ bErr c ∧ bErr c ≤ 2400000
  ww : 0 ≤ bWw c ∧ bWw c ≤ 281474976710912
  wr : 0 ≤ bWr c ∧ bWr c ≤ 281474976710912
  read : 0 ≤ bRead c ∧ bRead c ≤ 281475000000000
  agree : 2 ≤ bAgree c ∧ bAgree c ≤ 562950000000100
  start : 2 ≤ bStart c ∧ bStart c ≤ 844425000000200
  eps : 2 ≤ bEps c ∧ bEps c ≤ 1688860000000000
  most : 2 ≤ bMost c ∧ bMost c ≤ 1125900010000000
  cold : 0 ≤ bCold c ∧ bCold c ≤ 60000
  rough : 2 ≤ bRough c ∧ bRough c ≤ 3096300000000000
  le_ : 2 ≤ bLe c ∧ bLe c ≤ 1688860100000000
  hl : 0 ≤ bHl c ∧ bHl c ≤ 106398186300000000
  delta : 2 ≤ bDelta c ∧ bDelta c ≤ 106398186300002688
  rest : 2 ≤ bRest c ∧ bRest c ≤ 217000000000000000
  down : 2 ≤ bDown c ∧ bDown c ≤ 218000000000000000
  t1 : 2 ≤ bT1 c ∧ bT1 c ≤ 4398046511106
  t2 : 2 ≤ bT2 c ∧ bT2 c ≤ 218000000000000000
  join : 2 ≤ bJoin c ∧ bJoin c ≤ 219000000000000000
theorem wa_bd {rho g slow : Int} (r0 : 0 ≤ rho) (r1 : rho ≤ 64) (h0 : 0 ≤ g) (h1 : g ≤ 1099511627776) (h2 : 1 ≤ slow) : 0 ≤ waI rho g slow ∧ waI rho g slow ≤ 281474976710912 := by
  obtain ⟨t0, t1⟩ := tk_bd (g := 2 * g) (slow := slow) (by omega) h2
  obtain ⟨m0, m1⟩ := mul_bd (a := 2 * rho) (A := 128) (b := tkI (2 * g) slow) (B := 2199023255554) (by omega) (by omega) (by omega) (by omega)
  unfold waI
  omega
theorem bd_ok {c : Cn} (h : goodC c = true) : BdOk c := by
  obtain ⟨n0, n1, d0, d1, d2, ⟨r0, r1, s0, s1⟩, ⟨a0, a1⟩, ⟨b0, b1⟩, ⟨e0, e1⟩⟩ := goodC_iff.1 h
  have hops : 1 ≤ bHops c ∧ bHops c ≤ 63 := by unfold bHops; omega
  have fast : 1025 ≤ bFast c ∧ bFast c ≤ 1344 := by unfold bFast; omega
  have slow : 704 ≤ bSlow c ∧ bSlow c ≤ 1023 := by unfold bSlow; omega
  have link : 0 ≤ bLink c ∧ bLink c ≤ 86016 := by
    have := mul_bd (a := c.dmax) (A := 64) (b := bFast c) (B := 1344) (by omega) (by omega) (by omega) (by omega)
    unfold bLink; omega
  have err : 0 ≤ bErr c ∧ bErr c ≤ 2400000 := by
    have p1 := mul_bd (a := bHops c) (A := 63) (b := c.dmax) (B := 64) (by omega) (by omega) (by omega) (by omega)
    have p2 : bHops c * c.dmin ≤ bHops c * c.dmax := Int.mul_le_mul_of_nonneg_left d1 (by omega)
    have p4 := mul_bd (a := bHops c) (A := 63) (b := c.dmin) (B := 64) (by omega) (by omega) (by omega) (by omega)
    have p3 := mul_bd (a := c.rho) (A := 64) (b := bHops c * c.dmax) (B := 4032) (by omega) (by omega) (by omega) (by omega)
    unfold bErr errH; omega
  have ww : 0 ≤ bWw c ∧ bWw c ≤ 281474976710912 := wa_bd r0 r1 (by omega) b1 (by omega)
  have wr : 0 ≤ bWr c ∧ bWr c ≤ 281474976710912 := wa_bd r0 r1 (by omega) a1 (by omega)
  have read : 0 ≤ bRead c ∧ bRead c ≤ 281475000000000 := by unfold bRead; omega
  have agree : 2 ≤ bAgree c ∧ bAgree c ≤ 562950000000100 := by unfold bAgree; omega
  have start : 2 ≤ bStart c ∧ bStart c ≤ 844425000000200 := by unfold bStart; omega
  have eps : 2 ≤ bEps c ∧ bEps c ≤ 1688860000000000 := by unfold bEps; omega
  have most : 2 ≤ bMost c ∧ bMost c ≤ 1125900010000000 := by unfold bMost; omega
  have cold : 0 ≤ bCold c ∧ bCold c ≤ 60000 := by
    have p3 := mul_bd (a := 2 * c.rho + c.slew) (A := 384) (b := c.dmax) (B := 64) (by omega) (by omega) (by omega) (by omega)
    unfold bCold errR; omega
  have rough : 2 ≤ bRough c ∧ bRough c ≤ 3096300000000000 := by unfold bRough; omega
  have le_ : 2 ≤ bLe c ∧ bLe c ≤ 1688860100000000 := by unfold bLe; omega
  have hl : 0 ≤ bHl c ∧ bHl c ≤ 106398186300000000 := by
    have p3 := mul_bd (a := bHops c) (A := 63) (b := bLe c) (B := 1688860100000000) (by omega) (by omega) (by omega) (by omega)
    unfold bHl; omega
  have delta : 2 ≤ bDelta c ∧ bDelta c ≤ 106398186300002688 := by unfold bDelta; omega
  have rest : 2 ≤ bRest c ∧ bRest c ≤ 217000000000000000 := by unfold bRest; omega
  have down : 2 ≤ bDown c ∧ bDown c ≤ 218000000000000000 := by
    have := tk_bd (g := c.attend + bRest c) (slow := bSlow c) (by omega) (by omega)
    unfold bDown; omega
  have t1 : 2 ≤ bT1 c ∧ bT1 c ≤ 4398046511106 := by
    have := tk_bd (g := 2 * (c.round + c.window)) (slow := bSlow c) (by omega) (by omega)
    unfold bT1; omega
  have t2 : 2 ≤ bT2 c ∧ bT2 c ≤ 218000000000000000 := by
    have := tk_bd (g := 2 * c.attend + bRest c) (slow := bSlow c) (by omega) (by omega)
    unfold bT2; omega
  exact ⟨hops, fast, slow, link, err, ww, wr, read, agree, start, eps, most, cold, rough, le_, hl, delta, rest, down, t1, t2, by unfold bJoin; omega⟩
def OfPost (c : Cn) (w : World) (e : Ending) (w' : World) : Prop := e = .returned (.tuple #[.agg (bCells c).toArray, .int .i64 0]) ∧ Below w.heap.size w w'
/-- How it stands while the numbers are reckoned: the configuration's box, the result's, that of the numbers, that of the closure. -/
structure OfS (w W : World) (Bb : Nat) (cc bb : List Value) : Prop where
  cfg : BoxF W w.heap.size cc
  zb : BoxF W (w.heap.size + 1) [.int .i64 0, .int .i64 0, .int .i64 0, .int .i64 0, .int .i64 0, .int .i64 0, .int .i64 0, .int .i64 0, .int .i64 0, .int .i64 0, .int .i64 0, .int .i64 0, .int .i64 0, .int .i64 0]
  bx : BoxF W Bb bb
  fn : W.cell? ⟨Bb + 1, 0, none⟩ = some (tkFn Bb)
  bel : Below w.heap.size w W
  lt : w.heap.size + 1 < Bb
theorem OfS.keep {w W W' : World} {Bb : Nat} {cc bb : List Value} (h : OfS w W Bb cc bb) (hb : Below W.heap.size W W') : OfS w W' Bb cc bb :=
  ⟨h.cfg.keep hb, h.zb.keep hb, h.bx.keep hb, (hb.cell (p := ⟨Bb + 1, 0, none⟩) (World.block_lt_of_cell? _ _ h.fn)).trans h.fn, h.bel.trans (hb.mono h.bel.size), h.lt⟩
theorem OfS.put {w W : World} {Bb : Nat} {cc bb : List Value} (h : OfS w W Bb cc bb) (j : Nat) (hj : j < bb.length) (v : Value) : OfS w (W.setCell ⟨Bb, j, none⟩ v) Bb cc (bb.set j v) :=
  ⟨h.cfg.other (by have := h.lt; simp only []; omega) v, h.zb.other (by have := h.lt; simp only []; omega) v, h.bx.put j hj v,
    by rw [World.cell?_setCell_other _ _ _ _ (by simp)]; exact h.fn, h.bel.setCell (p := ⟨Bb, j, none⟩) (by have := h.lt; simp only []; omega) v, h.lt⟩
theorem run_store_func (P : Program) (w : World) (a : Addr) (f : Fn) (x y : Array Value) (m : Mode) : (store a (.func f x y) m).run P w = stored P w a (.func f x y) m := run_store P w a _ m rfl
attribute [local go_sem] run_store_func
attribute [local go_sem ↓] Go.wp_at_zero Go.wp_at_succ
set_option maxHeartbeats 6400000 in
theorem boundOf (c : Cn) (hg : goodC c = true) (A : Option Addr) (l k : Nat) (w : World) : Calls Tryz.prog 44 #[.agg (c.cells A l k).toArray] w (OfPost c w) := by
  have HG := bd_ok hg
  obtain ⟨n0, n1, d0, d1, d2, ⟨r0, r1, s0, s1⟩, ⟨a0, a1⟩, ⟨b0, b1⟩, ⟨e0, e1⟩⟩ := goodC_iff.1 hg
  obtain ⟨n, f, dmin, dmax, rho, slew, round, window, attend, seen, hist, fly, quota, body⟩ := c
  simp only at n0 n1 d0 d1 d2 r0 r1 s0 s1 a0 a1 b0 b1 e0 e1
  have CG := boundGoodV (c := ⟨n, f, dmin, dmax, rho, slew, round, window, attend, seen, hist, fly, quota, body⟩) hg A l k
  have x_hops := HG.hops
  have x_fast := HG.fast
  have x_slow := HG.slow
  have x_link := HG.link
  have x_er := HG.err
  have x_ww := HG.ww
  have x_wr := HG.wr
  have x_read := HG.read
  have x_agree := HG.agree
  have x_start := HG.start
  have x_eps := HG.eps
  have x_most := HG.most
  have x_cold := HG.cold
  have x_rough := HG.rough
  have x_le := HG.le_
  have x_hl := HG.hl
  have x_delta := HG.delta
  have x_rest := HG.rest
  have x_down := HG.down
  have x_t1 := HG.t1
  have x_t2 := HG.t2
  have x_join := HG.join
  have HV : Hid (bCells ⟨n, f, dmin, dmax, rho, slew, round, window, attend, seen, hist, fly, quota, body⟩ = [.int .i64 (bHops ⟨n, f, dmin, dmax, rho, slew, round, window, attend, seen, hist, fly, quota, body⟩), .int .i64 (bFast ⟨n, f, dmin, dmax, rho, slew, round, window, attend, seen, hist, fly, quota, body⟩), .int .i64 (bSlow ⟨n, f, dmin, dmax, rho, slew, round, window, attend, seen, hist, fly, quota, body⟩), .int .i64 (bLink ⟨n, f, dmin, dmax, rho, slew, round, window, attend, seen, hist, fly, quota, body⟩), .int .i64 (bRead ⟨n, f, dmin, dmax, rho, slew, round, window, attend, seen, hist, fly, quota, body⟩), .int .i64 (bAgree ⟨n, f, dmin, dmax, rho, slew, round, window, attend, seen, hist, fly, quota, body⟩), .int .i64 (bStart ⟨n, f, dmin, dmax, rho, slew, round, window, attend, seen, hist, fly, quota, body⟩), .int .i64 (bEps ⟨n, f, dmin, dmax, rho, slew, round, window, attend, seen, hist, fly, quota, body⟩), .int .i64 (bMost ⟨n, f, dmin, dmax, rho, slew, round, window, attend, seen, hist, fly, quota, body⟩), .int .i64 (bCold ⟨n, f, dmin, dmax, rho, slew, round, window, attend, seen, hist, fly, quota, body⟩), .int .i64 (bRough ⟨n, f, dmin, dmax, rho, slew, round, window, attend, seen, hist, fly, quota, body⟩), .int .i64 (bDelta ⟨n, f, dmin, dmax, rho, slew, round, window, attend, seen, hist, fly, quota, body⟩), .int .i64 (bDown ⟨n, f, dmin, dmax, rho, slew, round, window, attend, seen, hist, fly, quota, body⟩), .int .i64 (bJoin ⟨n, f, dmin, dmax, rho, slew, round, window, attend, seen, hist, fly, quota, body⟩)]) := rfl
  have y_hops : n - 1 = bHops ⟨n, f, dmin, dmax, rho, slew, round, window, attend, seen, hist, fly, quota, body⟩ := rfl
  have y_fast : 1024 + rho + slew = bFast ⟨n, f, dmin, dmax, rho, slew, round, window, attend, seen, hist, fly, quota, body⟩ := rfl
  have y_slow : 1024 - rho - slew = bSlow ⟨n, f, dmin, dmax, rho, slew, round, window, attend, seen, hist, fly, quota, body⟩ := rfl
  have y_link : dmax * (bFast ⟨n, f, dmin, dmax, rho, slew, round, window, attend, seen, hist, fly, quota, body⟩) = bLink ⟨n, f, dmin, dmax, rho, slew, round, window, attend, seen, hist, fly, quota, body⟩ := rfl
  have y_er : errH (bHops ⟨n, f, dmin, dmax, rho, slew, round, window, attend, seen, hist, fly, quota, body⟩) dmin dmax rho = bErr ⟨n, f, dmin, dmax, rho, slew, round, window, attend, seen, hist, fly, quota, body⟩ := rfl
  have y_ww : waI rho window (bSlow ⟨n, f, dmin, dmax, rho, slew, round, window, attend, seen, hist, fly, quota, body⟩) = bWw ⟨n, f, dmin, dmax, rho, slew, round, window, attend, seen, hist, fly, quota, body⟩ := rfl
  have y_wr : waI rho round (bSlow ⟨n, f, dmin, dmax, rho, slew, round, window, attend, seen, hist, fly, quota, body⟩) = bWr ⟨n, f, dmin, dmax, rho, slew, round, window, attend, seen, hist, fly, quota, body⟩ := rfl
  have y_read : (bErr ⟨n, f, dmin, dmax, rho, slew, round, window, attend, seen, hist, fly, quota, body⟩) + (bWw ⟨n, f, dmin, dmax, rho, slew, round, window, attend, seen, hist, fly, quota, body⟩) = bRead ⟨n, f, dmin, dmax, rho, slew, round, window, attend, seen, hist, fly, quota, body⟩ := rfl
  have y_agree : 2 * (bRead ⟨n, f, dmin, dmax, rho, slew, round, window, attend, seen, hist, fly, quota, body⟩) + 2 = bAgree ⟨n, f, dmin, dmax, rho, slew, round, window, attend, seen, hist, fly, quota, body⟩ := rfl
  have y_start : (bAgree ⟨n, f, dmin, dmax, rho, slew, round, window, attend, seen, hist, fly, quota, body⟩) + (bWr ⟨n, f, dmin, dmax, rho, slew, round, window, attend, seen, hist, fly, quota, body⟩) = bStart ⟨n, f, dmin, dmax, rho, slew, round, window, attend, seen, hist, fly, quota, body⟩ := rfl
  have y_eps : (bStart ⟨n, f, dmin, dmax, rho, slew, round, window, attend, seen, hist, fly, quota, body⟩) + (bAgree ⟨n, f, dmin, dmax, rho, slew, round, window, attend, seen, hist, fly, quota, body⟩) + (bWr ⟨n, f, dmin, dmax, rho, slew, round, window, attend, seen, hist, fly, quota, body⟩) + 2 * (bFast ⟨n, f, dmin, dmax, rho, slew, round, window, attend, seen, hist, fly, quota, body⟩) = bEps ⟨n, f, dmin, dmax, rho, slew, round, window, attend, seen, hist, fly, quota, body⟩ := rfl
  have y_most : (bStart ⟨n, f, dmin, dmax, rho, slew, round, window, attend, seen, hist, fly, quota, body⟩) + (bRead ⟨n, f, dmin, dmax, rho, slew, round, window, attend, seen, hist, fly, quota, body⟩) + 2 = bMost ⟨n, f, dmin, dmax, rho, slew, round, window, attend, seen, hist, fly, quota, body⟩ := rfl
  have y_cold : errR dmin dmax rho slew = bCold ⟨n, f, dmin, dmax, rho, slew, round, window, attend, seen, hist, fly, quota, body⟩ := rfl
  have y_rough : (bEps ⟨n, f, dmin, dmax, rho, slew, round, window, attend, seen, hist, fly, quota, body⟩) + (bCold ⟨n, f, dmin, dmax, rho, slew, round, window, attend, seen, hist, fly, quota, body⟩) + (bMost ⟨n, f, dmin, dmax, rho, slew, round, window, attend, seen, hist, fly, quota, body⟩) + (bWr ⟨n, f, dmin, dmax, rho, slew, round, window, attend, seen, hist, fly, quota, body⟩) + 4 * (bFast ⟨n, f, dmin, dmax, rho, slew, round, window, attend, seen, hist, fly, quota, body⟩) = bRough ⟨n, f, dmin, dmax, rho, slew, round, window, attend, seen, hist, fly, quota, body⟩ := rfl
  have y_le : (bLink ⟨n, f, dmin, dmax, rho, slew, round, window, attend, seen, hist, fly, quota, body⟩) + (bEps ⟨n, f, dmin, dmax, rho, slew, round, window, attend, seen, hist, fly, quota, body⟩) = bLe ⟨n, f, dmin, dmax, rho, slew, round, window, attend, seen, hist, fly, quota, body⟩ := rfl
  have y_hl : (bHops ⟨n, f, dmin, dmax, rho, slew, round, window, attend, seen, hist, fly, quota, body⟩) * (bLe ⟨n, f, dmin, dmax, rho, slew, round, window, attend, seen, hist, fly, quota, body⟩) = bHl ⟨n, f, dmin, dmax, rho, slew, round, window, attend, seen, hist, fly, quota, body⟩ := rfl
  have y_delta : (bHl ⟨n, f, dmin, dmax, rho, slew, round, window, attend, seen, hist, fly, quota, body⟩) + 2 * (bFast ⟨n, f, dmin, dmax, rho, slew, round, window, attend, seen, hist, fly, quota, body⟩) = bDelta ⟨n, f, dmin, dmax, rho, slew, round, window, attend, seen, hist, fly, quota, body⟩ := rfl
  have y_rest : 2 * (bEps ⟨n, f, dmin, dmax, rho, slew, round, window, attend, seen, hist, fly, quota, body⟩) + 2 * (bDelta ⟨n, f, dmin, dmax, rho, slew, round, window, attend, seen, hist, fly, quota, body⟩) = bRest ⟨n, f, dmin, dmax, rho, slew, round, window, attend, seen, hist, fly, quota, body⟩ := rfl
  have y_down : tkI (attend + (bRest ⟨n, f, dmin, dmax, rho, slew, round, window, attend, seen, hist, fly, quota, body⟩)) (bSlow ⟨n, f, dmin, dmax, rho, slew, round, window, attend, seen, hist, fly, quota, body⟩) = bDown ⟨n, f, dmin, dmax, rho, slew, round, window, attend, seen, hist, fly, quota, body⟩ := rfl
  have y_t1 : tkI (2 * (round + window)) (bSlow ⟨n, f, dmin, dmax, rho, slew, round, window, attend, seen, hist, fly, quota, body⟩) = bT1 ⟨n, f, dmin, dmax, rho, slew, round, window, attend, seen, hist, fly, quota, body⟩ := rfl
  have y_t2 : tkI (2 * attend + (bRest ⟨n, f, dmin, dmax, rho, slew, round, window, attend, seen, hist, fly, quota, body⟩)) (bSlow ⟨n, f, dmin, dmax, rho, slew, round, window, attend, seen, hist, fly, quota, body⟩) = bT2 ⟨n, f, dmin, dmax, rho, slew, round, window, attend, seen, hist, fly, quota, body⟩ := rfl
  have y_join : 2 * dmax + 8 + (bT1 ⟨n, f, dmin, dmax, rho, slew, round, window, attend, seen, hist, fly, quota, body⟩) + (bT2 ⟨n, f, dmin, dmax, rho, slew, round, window, attend, seen, hist, fly, quota, body⟩) = bJoin ⟨n, f, dmin, dmax, rho, slew, round, window, attend, seen, hist, fly, quota, body⟩ := rfl
  generalize bHops ⟨n, f, dmin, dmax, rho, slew, round, window, attend, seen, hist, fly, quota, body⟩ = hops at HV x_hops x_fast x_slow x_link x_er x_ww x_wr x_read x_agree x_start x_eps x_most x_cold x_rough x_le x_hl x_delta x_rest x_down x_t1 x_t2 x_join y_hops y_fast y_slow y_link y_er y_ww y_wr y_read y_agree y_start y_eps y_most y_cold y_rough y_le y_hl y_delta y_rest y_down y_t1 y_t2 y_join
  generalize bFast ⟨n, f, dmin, dmax, rho, slew, round, window, attend, seen, hist, fly, quota, body⟩ = fast at HV x_hops x_fast x_slow x_link x_er x_ww x_wr x_read x_agree x_start x_eps x_most x_cold x_rough x_le x_hl x_delta x_rest x_down x_t1 x_t2 x_join y_hops y_fast y_slow y_link y_er y_ww y_wr y_read y_agree y_start y_eps y_most y_cold y_rough y_le y_hl y_delta y_rest y_down y_t1 y_t2 y_join
  generalize bSlow ⟨n, f, dmin, dmax, rho, slew, round, window, attend, seen, hist, fly, quota, body⟩ = slow at HV x_hops x_fast x_slow x_link x_er x_ww x_wr x_read x_agree x_start x_eps x_most x_cold x_rough x_le x_hl x_delta x_rest x_down x_t1 x_t2 x_join y_hops y_fast y_slow y_link y_er y_ww y_wr y_read y_agree y_start y_eps y_most y_cold y_rough y_le y_hl y_delta y_rest y_down y_t1 y_t2 y_join
  generalize bLink ⟨n, f, dmin, dmax, rho, slew, round, window, attend, seen, hist, fly, quota, body⟩ = link at HV x_hops x_fast x_slow x_link x_er x_ww x_wr x_read x_agree x_start x_eps x_most x_cold x_rough x_le x_hl x_delta x_rest x_down x_t1 x_t2 x_join y_hops y_fast y_slow y_link y_er y_ww y_wr y_read y_agree y_start y_eps y_most y_cold y_rough y_le y_hl y_delta y_rest y_down y_t1 y_t2 y_join
  generalize bErr ⟨n, f, dmin, dmax, rho, slew, round, window, attend, seen, hist, fly, quota, body⟩ = er at HV x_hops x_fast x_slow x_link x_er x_ww x_wr x_read x_agree x_start x_eps x_most x_cold x_rough x_le x_hl x_delta x_rest x_down x_t1 x_t2 x_join y_hops y_fast y_slow y_link y_er y_ww y_wr y_read y_agree y_start y_eps y_most y_cold y_rough y_le y_hl y_delta y_rest y_down y_t1 y_t2 y_join
  generalize bWw ⟨n, f, dmin, dmax, rho, slew, round, window, attend, seen, hist, fly, quota, body⟩ = ww at HV x_hops x_fast x_slow x_link x_er x_ww x_wr x_read x_agree x_start x_eps x_most x_cold x_rough x_le x_hl x_delta x_rest x_down x_t1 x_t2 x_join y_hops y_fast y_slow y_link y_er y_ww y_wr y_read y_agree y_start y_eps y_most y_cold y_rough y_le y_hl y_delta y_rest y_down y_t1 y_t2 y_join
  generalize bWr ⟨n, f, dmin, dmax, rho, slew, round, window, attend, seen, hist, fly, quota, body⟩ = wr at HV x_hops x_fast x_slow x_link x_er x_ww x_wr x_read x_agree x_start x_eps x_most x_cold x_rough x_le x_hl x_delta x_rest x_down x_t1 x_t2 x_join y_hops y_fast y_slow y_link y_er y_ww y_wr y_read y_agree y_start y_eps y_most y_cold y_rough y_le y_hl y_delta y_rest y_down y_t1 y_t2 y_join
  generalize bRead ⟨n, f, dmin, dmax, rho, slew, round, window, attend, seen, hist, fly, quota, body⟩ = read at HV x_hops x_fast x_slow x_link x_er x_ww x_wr x_read x_agree x_start x_eps x_most x_cold x_rough x_le x_hl x_delta x_rest x_down x_t1 x_t2 x_join y_hops y_fast y_slow y_link y_er y_ww y_wr y_read y_agree y_start y_eps y_most y_cold y_rough y_le y_hl y_delta y_rest y_down y_t1 y_t2 y_join
  generalize bAgree ⟨n, f, dmin, dmax, rho, slew, round, window, attend, seen, hist, fly, quota, body⟩ = agree at HV x_hops x_fast x_slow x_link x_er x_ww x_wr x_read x_agree x_start x_eps x_most x_cold x_rough x_le x_hl x_delta x_rest x_down x_t1 x_t2 x_join y_hops y_fast y_slow y_link y_er y_ww y_wr y_read y_agree y_start y_eps y_most y_cold y_rough y_le y_hl y_delta y_rest y_down y_t1 y_t2 y_join
  generalize bStart ⟨n, f, dmin, dmax, rho, slew, round, window, attend, seen, hist, fly, quota, body⟩ = start at HV x_hops x_fast x_slow x_link x_er x_ww x_wr x_read x_agree x_start x_eps x_most x_cold x_rough x_le x_hl x_delta x_rest x_down x_t1 x_t2 x_join y_hops y_fast y_slow y_link y_er y_ww y_wr y_read y_agree y_start y_eps y_most y_cold y_rough y_le y_hl y_delta y_rest y_down y_t1 y_t2 y_join
  generalize bEps ⟨n, f, dmin, dmax, rho, slew, round, window, attend, seen, hist, fly, quota, body⟩ = eps at HV x_hops x_fast x_slow x_link x_er x_ww x_wr x_read x_agree x_start x_eps x_most x_cold x_rough x_le x_hl x_delta x_rest x_down x_t1 x_t2 x_join y_hops y_fast y_slow y_link y_er y_ww y_wr y_read y_agree y_start y_eps y_most y_cold y_rough y_le y_hl y_delta y_rest y_down y_t1 y_t2 y_join
  generalize bMost ⟨n, f, dmin, dmax, rho, slew, round, window, attend, seen, hist, fly, quota, body⟩ = most at HV x_hops x_fast x_slow x_link x_er x_ww x_wr x_read x_agree x_start x_eps x_most x_cold x_rough x_le x_hl x_delta x_rest x_down x_t1 x_t2 x_join y_hops y_fast y_slow y_link y_er y_ww y_wr y_read y_agree y_start y_eps y_most y_cold y_rough y_le y_hl y_delta y_rest y_down y_t1 y_t2 y_join
  generalize bCold ⟨n, f, dmin, dmax, rho, slew, round, window, attend, seen, hist, fly, quota, body⟩ = cold at HV x_hops x_fast x_slow x_link x_er x_ww x_wr x_read x_agree x_start x_eps x_most x_cold x_rough x_le x_hl x_delta x_rest x_down x_t1 x_t2 x_join y_hops y_fast y_slow y_link y_er y_ww y_wr y_read y_agree y_start y_eps y_most y_cold y_rough y_le y_hl y_delta y_rest y_down y_t1 y_t2 y_join
  generalize bRough ⟨n, f, dmin, dmax, rho, slew, round, window, attend, seen, hist, fly, quota, body⟩ = rough at HV x_hops x_fast x_slow x_link x_er x_ww x_wr x_read x_agree x_start x_eps x_most x_cold x_rough x_le x_hl x_delta x_rest x_down x_t1 x_t2 x_join y_hops y_fast y_slow y_link y_er y_ww y_wr y_read y_agree y_start y_eps y_most y_cold y_rough y_le y_hl y_delta y_rest y_down y_t1 y_t2 y_join
  generalize bLe ⟨n, f, dmin, dmax, rho, slew, round, window, attend, seen, hist, fly, quota, body⟩ = le at HV x_hops x_fast x_slow x_link x_er x_ww x_wr x_read x_agree x_start x_eps x_most x_cold x_rough x_le x_hl x_delta x_rest x_down x_t1 x_t2 x_join y_hops y_fast y_slow y_link y_er y_ww y_wr y_read y_agree y_start y_eps y_most y_cold y_rough y_le y_hl y_delta y_rest y_down y_t1 y_t2 y_join
  generalize bHl ⟨n, f, dmin, dmax, rho, slew, round, window, attend, seen, hist, fly, quota, body⟩ = hl at HV x_hops x_fast x_slow x_link x_er x_ww x_wr x_read x_agree x_start x_eps x_most x_cold x_rough x_le x_hl x_delta x_rest x_down x_t1 x_t2 x_join y_hops y_fast y_slow y_link y_er y_ww y_wr y_read y_agree y_start y_eps y_most y_cold y_rough y_le y_hl y_delta y_rest y_down y_t1 y_t2 y_join
  generalize bDelta ⟨n, f, dmin, dmax, rho, slew, round, window, attend, seen, hist, fly, quota, body⟩ = delta at HV x_hops x_fast x_slow x_link x_er x_ww x_wr x_read x_agree x_start x_eps x_most x_cold x_rough x_le x_hl x_delta x_rest x_down x_t1 x_t2 x_join y_hops y_fast y_slow y_link y_er y_ww y_wr y_read y_agree y_start y_eps y_most y_cold y_rough y_le y_hl y_delta y_rest y_down y_t1 y_t2 y_join
  generalize bRest ⟨n, f, dmin, dmax, rho, slew, round, window, attend, seen, hist, fly, quota, body⟩ = rest at HV x_hops x_fast x_slow x_link x_er x_ww x_wr x_read x_agree x_start x_eps x_most x_cold x_rough x_le x_hl x_delta x_rest x_down x_t1 x_t2 x_join y_hops y_fast y_slow y_link y_er y_ww y_wr y_read y_agree y_start y_eps y_most y_cold y_rough y_le y_hl y_delta y_rest y_down y_t1 y_t2 y_join
  generalize bDown ⟨n, f, dmin, dmax, rho, slew, round, window, attend, seen, hist, fly, quota, body⟩ = down at HV x_hops x_fast x_slow x_link x_er x_ww x_wr x_read x_agree x_start x_eps x_most x_cold x_rough x_le x_hl x_delta x_rest x_down x_t1 x_t2 x_join y_hops y_fast y_slow y_link y_er y_ww y_wr y_read y_agree y_start y_eps y_most y_cold y_rough y_le y_hl y_delta y_rest y_down y_t1 y_t2 y_join
  generalize bT1 ⟨n, f, dmin, dmax, rho, slew, round, window, attend, seen, hist, fly, quota, body⟩ = t1 at HV x_hops x_fast x_slow x_link x_er x_ww x_wr x_read x_agree x_start x_eps x_most x_cold x_rough x_le x_hl x_delta x_rest x_down x_t1 x_t2 x_join y_hops y_fast y_slow y_link y_er y_ww y_wr y_read y_agree y_start y_eps y_most y_cold y_rough y_le y_hl y_delta y_rest y_down y_t1 y_t2 y_join
  generalize bT2 ⟨n, f, dmin, dmax, rho, slew, round, window, attend, seen, hist, fly, quota, body⟩ = t2 at HV x_hops x_fast x_slow x_link x_er x_ww x_wr x_read x_agree x_start x_eps x_most x_cold x_rough x_le x_hl x_delta x_rest x_down x_t1 x_t2 x_join y_hops y_fast y_slow y_link y_er y_ww y_wr y_read y_agree y_start y_eps y_most y_cold y_rough y_le y_hl y_delta y_rest y_down y_t1 y_t2 y_join
  generalize bJoin ⟨n, f, dmin, dmax, rho, slew, round, window, attend, seen, hist, fly, quota, body⟩ = join at HV x_hops x_fast x_slow x_link x_er x_ww x_wr x_read x_agree x_start x_eps x_most x_cold x_rough x_le x_hl x_delta x_rest x_down x_t1 x_t2 x_join y_hops y_fast y_slow y_link y_er y_ww y_wr y_read y_agree y_start y_eps y_most y_cold y_rough y_le y_hl y_delta y_rest y_down y_t1 y_t2 y_join
  clear HG hg
  obtain ⟨x0_hops, x1_hops⟩ := x_hops
  obtain ⟨x0_fast, x1_fast⟩ := x_fast
  obtain ⟨x0_slow, x1_slow⟩ := x_slow
  obtain ⟨x0_link, x1_link⟩ := x_link
  obtain ⟨x0_er, x1_er⟩ := x_er
  obtain ⟨x0_ww, x1_ww⟩ := x_ww
  obtain ⟨x0_wr, x1_wr⟩ := x_wr
  obtain ⟨x0_read, x1_read⟩ := x_read
  obtain ⟨x0_agree, x1_agree⟩ := x_agree
  obtain ⟨x0_start, x1_start⟩ := x_start
  obtain ⟨x0_eps, x1_eps⟩ := x_eps
  obtain ⟨x0_most, x1_most⟩ := x_most
  obtain ⟨x0_cold, x1_cold⟩ := x_cold
  obtain ⟨x0_rough, x1_rough⟩ := x_rough
  obtain ⟨x0_le, x1_le⟩ := x_le
  obtain ⟨x0_hl, x1_hl⟩ := x_hl
  obtain ⟨x0_delta, x1_delta⟩ := x_delta
  obtain ⟨x0_rest, x1_rest⟩ := x_rest
  obtain ⟨x0_down, x1_down⟩ := x_down
  obtain ⟨x0_t1, x1_t1⟩ := x_t1
  obtain ⟨x0_t2, x1_t2⟩ := x_t2
  obtain ⟨x0_join, x1_join⟩ := x_join
  have CE := hopsErrI (h := hops) (a := dmin) (b := dmax) (rho := rho) (by omega) (by omega) (by omega) (by omega) (by omega) (by omega) (by omega)
  rw [y_er] at CE
  have CR := readingErrI (a := dmin) (b := dmax) (rho := rho) (slew := slew) (by omega) (by omega) (by omega) (by omega) (by omega) (by omega) (by omega)
  rw [y_cold] at CR
  have CF := rateFast (rho := rho) (slew := slew) r0 r1 s0 s1
  rw [y_fast] at CF
  have CS := rateSlow (rho := rho) (slew := slew) r0 r1 s0 s1
  rw [y_slow] at CS
  have CW := fun (Bc Bt Bb : Nat) => ofWander Bc Bt Bb rho window slow r0 r1 (by omega) (by omega) (by omega) (by omega)
  rw [y_ww] at CW
  have CQ := fun (Bc Bt Bb : Nat) => ofWander Bc Bt Bb rho round slow r0 r1 (by omega) (by omega) (by omega) (by omega)
  rw [y_wr] at CQ
  have CD := fun (Bb : Nat) => ofTicks Bb (attend + rest) slow (by omega) (by omega) (by omega) (by omega)
  rw [y_down] at CD
  have C1 := fun (Bb : Nat) => ofTicks Bb (2 * (round + window)) slow (by omega) (by omega) (by omega) (by omega)
  rw [y_t1] at C1
  have C2 := fun (Bb : Nat) => ofTicks Bb (2 * attend + rest) slow (by omega) (by omega) (by omega) (by omega)
  rw [y_t2] at C2
  have Y_hops := Lib.hid y_hops
  have Y_fast := Lib.hid y_fast
  have Y_slow := Lib.hid y_slow
  have Y_link := Lib.hid y_link
  have Y_read := Lib.hid y_read
  have Y_agree := Lib.hid y_agree
  have Y_start := Lib.hid y_start
  have Y_eps := Lib.hid y_eps
  have Y_most := Lib.hid y_most
  have Y_rough := Lib.hid y_rough
  have Y_le := Lib.hid y_le
  have Y_hl := Lib.hid y_hl
  have Y_delta := Lib.hid y_delta
  have Y_rest := Lib.hid y_rest
  have Y_join := Lib.hid y_join
  have CG := Lib.hid CG
  have CE := Lib.hid CE
  have CR := Lib.hid CR
  have CF := Lib.hid CF
  have CS := Lib.hid CS
  have CW := Lib.hid CW
  have CQ := Lib.hid CQ
  have CD := Lib.hid CD
  have C1 := Lib.hid C1
  have C2 := Lib.hid C2
  have Y : Hid (n - 1 = hops ∧ 1024 + rho + slew = fast ∧ 1024 - rho - slew = slow ∧ dmax * fast = link ∧ er + ww = read ∧ 2 * read + 2 = agree ∧ agree + wr = start ∧ start + agree + wr + 2 * fast = eps ∧ start + read + 2 = most ∧ eps + cold + most + wr + 4 * fast = rough ∧ link + eps = le ∧ hops * le = hl ∧ hl + 2 * fast = delta ∧ 2 * eps + 2 * delta = rest ∧ 2 * dmax + 8 + t1 + t2 = join) := ⟨y_hops, y_fast, y_slow, y_link, y_read, y_agree, y_start, y_eps, y_most, y_rough, y_le, y_hl, y_delta, y_rest, y_join⟩
  have Z3 : Hid (IntKind.i64.wrap (n - 1) = hops ∧ True) := ⟨by rw [IntWalk.i64_in _ (by omega)]; omega, trivial⟩
  have Z10 : Hid (IntKind.i64.wrap (agree + wr) = start ∧ True) := ⟨by rw [IntWalk.i64_in _ (by omega)]; omega, trivial⟩
  have Z11 : Hid (IntKind.i64.wrap (start + agree) = start + agree ∧ IntKind.i64.wrap (start + agree + wr) = start + agree + wr ∧ IntKind.i64.wrap (2 * fast) = 2 * fast ∧ IntKind.i64.wrap (start + agree + wr + 2 * fast) = eps ∧ True) := ⟨by rw [IntWalk.i64_in _ (by omega)], by rw [IntWalk.i64_in _ (by omega)], by rw [IntWalk.i64_in _ (by omega)], by rw [IntWalk.i64_in _ (by omega)]; omega, trivial⟩
  have Z14 : Hid (IntKind.i64.wrap (eps + cold) = eps + cold ∧ IntKind.i64.wrap (eps + cold + most) = eps + cold + most ∧ IntKind.i64.wrap (eps + cold + most + wr) = eps + cold + most + wr ∧ IntKind.i64.wrap (4 * fast) = 4 * fast ∧ IntKind.i64.wrap (eps + cold + most + wr + 4 * fast) = rough ∧ True) := ⟨by rw [IntWalk.i64_in _ (by omega)], by rw [IntWalk.i64_in _ (by omega)], by rw [IntWalk.i64_in _ (by omega)], by rw [IntWalk.i64_in _ (by omega)], by rw [IntWalk.i64_in _ (by omega)]; omega, trivial⟩
  have Z18 : Hid (IntKind.i64.wrap (2 * dmax) = 2 * dmax ∧ IntKind.i64.wrap (2 * dmax + 8) = 2 * dmax + 8 ∧ IntKind.i64.wrap (round + window) = round + window ∧ IntKind.i64.wrap (2 * (round + window)) = 2 * (round + window) ∧ IntKind.i64.wrap (2 * dmax + 8 + t1) = 2 * dmax + 8 + t1 ∧ IntKind.i64.wrap (2 * attend) = 2 * attend ∧ IntKind.i64.wrap (2 * attend + rest) = 2 * attend + rest ∧ IntKind.i64.wrap (2 * dmax + 8 + t1 + t2) = join ∧ True) := ⟨by rw [IntWalk.i64_in _ (by omega)], by rw [IntWalk.i64_in _ (by omega)], by rw [IntWalk.i64_in _ (by omega)], by rw [IntWalk.i64_in _ (by omega)], by rw [IntWalk.i64_in _ (by omega)], by rw [IntWalk.i64_in _ (by omega)], by rw [IntWalk.i64_in _ (by omega)], by rw [IntWalk.i64_in _ (by omega)]; omega, trivial⟩
  clear y_hops y_fast y_slow y_link y_er y_ww y_wr y_read y_agree y_start y_eps y_most y_cold y_rough y_le y_hl y_delta y_rest y_down y_t1 y_t2 y_join
  obtain ⟨hz, hsz⟩ := zero_of_info (show (Tryz.prog.info? 101).map (fun i => (i.zero, i.size)) = some (some (.agg #[.int .i64 0, .int .i64 0, .int .i64 0, .int .i64 0, .int .i64 0, .int .i64 0, .int .i64 0, .int .i64 0, .int .i64 0, .int .i64 0, .int .i64 0, .int .i64 0, .int .i64 0, .int .i64 0]), 14) by kernel_rfl)
  unfold OfPost
  rw [HV.out]
  have HV := True.intro
  go_enter Tryz.func44, Tryz.ntmps44
  have k0 := (boxF_made w [.int .i64 n, .slice A l k, .int .i64 f, .int .i64 dmin, .int .i64 dmax, .int .i64 rho, .int .i64 slew, .int .i64 round, .int .i64 window, .int .i64 attend, .int .i64 seen, .int .i64 hist, .int .i64 fly, .int .i64 quota, .int .i64 body] 32).keep ((Below.refl _ _).alloc (Nat.le_refl _) (.cells #[.int .i64 0, .int .i64 0, .int .i64 0, .int .i64 0, .int .i64 0, .int .i64 0, .int .i64 0, .int .i64 0, .int .i64 0, .int .i64 0, .int .i64 0, .int .i64 0, .int .i64 0, .int .i64 0] 101))
  have k1 := boxF_made (w.alloc (.cells #[.int .i64 n, .slice A l k, .int .i64 f, .int .i64 dmin, .int .i64 dmax, .int .i64 rho, .int .i64 slew, .int .i64 round, .int .i64 window, .int .i64 attend, .int .i64 seen, .int .i64 hist, .int .i64 fly, .int .i64 quota, .int .i64 body] 32)) [.int .i64 0, .int .i64 0, .int .i64 0, .int .i64 0, .int .i64 0, .int .i64 0, .int .i64 0, .int .i64 0, .int .i64 0, .int .i64 0, .int .i64 0, .int .i64 0, .int .i64 0, .int .i64 0] 101
  rw [show (w.alloc (.cells #[.int .i64 n, .slice A l k, .int .i64 f, .int .i64 dmin, .int .i64 dmax, .int .i64 rho, .int .i64 slew, .int .i64 round, .int .i64 window, .int .i64 attend, .int .i64 seen, .int .i64 hist, .int .i64 fly, .int .i64 quota, .int .i64 body] 32)).heap.size = w.heap.size + 1 by simp] at k1
  have k2 := ((Below.refl w.heap.size w).alloc (Nat.le_refl _) (.cells #[.int .i64 n, .slice A l k, .int .i64 f, .int .i64 dmin, .int .i64 dmax, .int .i64 rho, .int .i64 slew, .int .i64 round, .int .i64 window, .int .i64 attend, .int .i64 seen, .int .i64 hist, .int .i64 fly, .int .i64 quota, .int .i64 body] 32)).alloc (by simp) (.cells #[.int .i64 0, .int .i64 0, .int .i64 0, .int .i64 0, .int .i64 0, .int .i64 0, .int .i64 0, .int .i64 0, .int .i64 0, .int .i64 0, .int .i64 0, .int .i64 0, .int .i64 0, .int .i64 0] 101)
  have K0 := Lib.hid (And.intro k0 (And.intro k1 k2))
  clear k0 k1 k2
  go_wp2_with fail
  refine (CG.out _).mono ?_
  rintro e w1 ⟨rfl, hq⟩
  have H1 := Lib.hid (And.intro (K0.out.1.keep hq) (And.intro (K0.out.2.1.keep hq) (K0.out.2.2.trans (hq.mono K0.out.2.2.size))))
  clear hq
  go_wp2_with fail
  refine Code.wp_mono (Q := fun e a' w' => e = .normal ∧ (∃ u0 u10 u11 u12 u14 u15 u16 u17 u18 u19 u20 u21 u22 u23 u24 u25 u26 u27 : Value, a' = { tmps := #[u0, .pointer (some ⟨w.heap.size, 0, none⟩), .pointer (some ⟨w.heap.size + 1, 0, none⟩), .int .i64 0, .pointer (some ⟨w1.heap.size, 0, none⟩), undef, undef, undef, undef, undef, u10, u11, u12, undef, u14, u15, u16, u17, u18, u19, u20, u21, u22, u23, u24, u25, u26, u27, undef, undef, undef, undef, undef, undef, undef, undef, undef, undef, undef, undef, undef, undef, undef, undef, undef, undef, undef, undef, undef, undef, undef, undef, undef, undef, undef, undef, undef, undef, undef, undef, undef, undef, undef, undef, undef, undef, undef, undef, undef, undef, undef, undef, undef, undef, undef, undef, undef, undef, undef, undef, undef, undef, undef, undef, undef, undef, undef, undef, undef, undef, undef, undef, undef, undef, undef, undef, undef, undef, undef, undef, undef, undef, undef, undef, undef, undef, undef, undef, undef, undef, undef, undef, undef, undef, undef, undef, undef, undef, undef, undef, undef, undef, undef, undef, undef, undef, undef, undef, undef, undef, undef, undef, undef, undef, undef, undef, undef, undef, undef, undef, undef, undef, undef, undef, undef, undef, undef, undef, undef, undef, undef, undef, undef, undef, undef, undef, undef, undef, undef, undef, undef, undef, undef, undef, undef, undef, undef, undef, undef, undef, undef], defers := [] }) ∧ BoxF w' w1.heap.size [.int .i64 hops, .int .i64 fast, .int .i64 slow, .int .i64 0, .int .i64 0, .int .i64 0, .int .i64 0, .int .i64 0, .int .i64 0, .int .i64 0, .int .i64 0, .int .i64 0, .int .i64 0, .int .i64 0] ∧ Below w1.heap.size w1 w' ∧ w'.heap.size = w1.heap.size + 1) ?c3 ?r3
  case r3 =>
    obtain ⟨z0, -⟩ := Z3.out
    have HST : Hid (∀ W, Below w1.heap.size w1 W → W.cell? ⟨w.heap.size, 0, none⟩ = some (.int .i64 n) ∧ W.cell? ⟨w.heap.size, 5, none⟩ = some (.int .i64 rho) ∧ W.cell? ⟨w.heap.size, 6, none⟩ = some (.int .i64 slew)) := fun W hW => ⟨(H1.out.1.keep hW).1 0 _ rfl, (H1.out.1.keep hW).1 5 _ rfl, (H1.out.1.keep hW).1 6 _ rfl⟩
    go_region_held3 (fun W => W.cell? ⟨w.heap.size, 0, none⟩ = some (.int .i64 n) ∧ W.cell? ⟨w.heap.size, 5, none⟩ = some (.int .i64 rho) ∧ W.cell? ⟨w.heap.size, 6, none⟩ = some (.int .i64 slew))
      (first
        | exact HST.out _ (Below.refl _ _).drew
        | exact HST.out _ ((Below.refl _ _).alloc (Nat.le_refl _) _).drew
        | exact HST.out _ (((Below.refl _ _).alloc (Nat.le_refl _) _).setCell (Nat.le_refl _) _).drew)
      (first
        | (go_at_call 104; (with_reducible refine (CF.out _).mono ?_); rintro e w' ⟨rfl, rfl⟩)
        | (go_at_call 105; (with_reducible refine (CS.out _).mono ?_); rintro e w' ⟨rfl, rfl⟩))
    all_goals exact ⟨rfl, ⟨_, _, _, _, _, _, _, _, _, _, _, _, _, _, _, _, _, _, rfl⟩, (boxF_made _ _ _).keep (Below.refl _ _).drew, ((Below.refl _ _).alloc (Nat.le_refl _) _).drew, by simp⟩
  case c3 =>
    rintro e a' w2 ⟨rfl, ⟨u0, u10, u11, u12, u14, u15, u16, u17, u18, u19, u20, u21, u22, u23, u24, u25, u26, u27, rfl⟩, hB2, hb2, hs2⟩
    have hc2 := H1.out.1.keep hb2
    have hz2 := H1.out.2.1.keep hb2
    have hbe2 := H1.out.2.2.trans (hb2.mono H1.out.2.2.size)
    have hlt2 : w.heap.size + 1 < w1.heap.size := H1.out.2.1.lt (by simp)
    obtain ⟨Bb, hBb⟩ : ∃ Bb, w1.heap.size = Bb := ⟨_, rfl⟩
    rw [hBb] at hB2 hs2 hlt2 ⊢
    obtain ⟨w3, hw3⟩ : ∃ w3, w2.alloc (.cells #[tkFn Bb] 170) = w3 := ⟨_, rfl⟩
    have hb3 : Below w2.heap.size w2 w3 := by rw [← hw3]; exact (Below.refl _ _).alloc (Nat.le_refl _) _
    have hf3 : w3.cell? ⟨Bb + 1, 0, none⟩ = some (tkFn Bb) := by rw [← hw3, ← hs2]; simp
    have h3 : OfS w w3 Bb [.int .i64 n, .slice A l k, .int .i64 f, .int .i64 dmin, .int .i64 dmax, .int .i64 rho, .int .i64 slew, .int .i64 round, .int .i64 window, .int .i64 attend, .int .i64 seen, .int .i64 hist, .int .i64 fly, .int .i64 quota, .int .i64 body] [.int .i64 hops, .int .i64 fast, .int .i64 slow, .int .i64 0, .int .i64 0, .int .i64 0, .int .i64 0, .int .i64 0, .int .i64 0, .int .i64 0, .int .i64 0, .int .i64 0, .int .i64 0, .int .i64 0] := ⟨hc2.keep hb3, hz2.keep hb3, hB2.keep hb3, hf3, hbe2.trans (hb3.mono hbe2.size), hlt2⟩
    have HS2 := Lib.hid hs2
    clear hc2 hz2 hbe2 hB2 hb2 hb3 hf3 hs2 hBb
    have q3 := h3.cfg.1 3 _ rfl
    have q4 := h3.cfg.1 4 _ rfl
    have q5 := h3.cfg.1 5 _ rfl
    have p0 := h3.bx.1 0 _ rfl
    have f3 := h3.fn
    have H3 := Lib.hid h3
    clear h3
    unfold tkFn at hw3
    go_wp2_with fail
    rw [HS2.out]
    refine (CE.out _).mono ?_
    rintro e w' ⟨rfl, rfl⟩
    clear hw3 q3 q4 q5 p0 f3
    have h3 := H3.out
    have q4 := h3.cfg.1 4 _ rfl
    have p1 := h3.bx.1 1 _ rfl
    have z_link := Y_link.out
    obtain ⟨w4, hw4⟩ : ∃ w4, World.setCell w3 ⟨Bb, 3, none⟩ (.int .i64 link) = w4 := ⟨_, rfl⟩
    have h4 := h3.put 3 (by simp) (.int .i64 link)
    rw [hw4] at h4
    simp only [List.set_cons_succ, List.set_cons_zero] at h4
    have s4 := h3.bx.1 3 _ rfl
    have t4 := h3.bx.2 3 (by simp)
    have H4 := Lib.hid h4
    clear h4 h3

    have h4 := H4.out
    have q8 := h4.cfg.1 8 _ rfl
    have KW := Lib.hid (CW.out w.heap.size (Bb + 1) Bb w4 (h4.bx.1 2 _ rfl) (h4.cfg.1 5 _ rfl) h4.fn)
    clear h4
    go_wp2_with fail
    refine KW.out.mono ?_
    rintro e w5 ⟨rfl, hb5⟩
    have h5 := H4.out.keep hb5
    have H5 := Lib.hid h5
    clear h5 hb5 KW q8 q4 p1 z_link s4 t4 hw4
    have h5 := H5.out
    have z_read := Y_read.out
    obtain ⟨w6, hw6⟩ : ∃ w6, World.setCell w5 ⟨Bb, 4, none⟩ (.int .i64 read) = w6 := ⟨_, rfl⟩
    have h6 := h5.put 4 (by simp) (.int .i64 read)
    rw [hw6] at h6
    simp only [List.set_cons_succ, List.set_cons_zero] at h6
    have s6 := h5.bx.1 4 _ rfl
    have t6 := h5.bx.2 4 (by simp)
    have H6 := Lib.hid h6
    clear h6 h5
    have h6 := H6.out
    have p4 := h6.bx.1 4 _ rfl
    have z_agree := Y_agree.out
    obtain ⟨w7, hw7⟩ : ∃ w7, World.setCell w6 ⟨Bb, 5, none⟩ (.int .i64 agree) = w7 := ⟨_, rfl⟩
    have h7 := h6.put 5 (by simp) (.int .i64 agree)
    rw [hw7] at h7
    simp only [List.set_cons_succ, List.set_cons_zero] at h7
    have s7 := h6.bx.1 5 _ rfl
    have t7 := h6.bx.2 5 (by simp)
    have H7 := Lib.hid h7
    clear h7 h6
    go_wp2_with fail
    clear z_read
    clear s6
    clear t6
    clear hw6
    clear p4
    clear z_agree
    clear s7
    clear t7
    clear hw7
    have h7 := H7.out
    have q7 := fun W : Later w7 => (h7.cfg.keep W.h).1 7 _ rfl
    have p5 := fun W : Later w7 => (h7.bx.keep W.h).1 5 _ rfl
    have lq := Lib.hid (fun U : Later w7 => later_of (W := U) (CQ.out w.heap.size (Bb + 1) Bb U.val ((h7.keep U.h).bx.1 2 _ rfl) ((h7.keep U.h).cfg.1 5 _ rfl) (h7.keep U.h).fn))
    obtain ⟨z0, -⟩ := Z10.out
    clear h7
    refine wp_region_later_tail 8 (by kernel_rfl) (by kernel_rfl) ?_
    simp only [List.take_succ_cons, List.take_zero, List.drop_succ_cons, List.drop_zero]
    repeat (go_big_quiet_step (exact lq.out _))
    refine wpQuiet_nil ?_
    rintro ⟨w8, hl8⟩
    dsimp only
    have h8 := H7.out.keep hl8
    obtain ⟨w9, hw9⟩ : ∃ w9, World.setCell w8 ⟨Bb, 6, none⟩ (.int .i64 start) = w9 := ⟨_, rfl⟩
    have h9 := h8.put 6 (by simp) (.int .i64 start)
    rw [hw9] at h9
    simp only [List.set_cons_succ, List.set_cons_zero] at h9
    have s9 := h8.bx.1 6 _ rfl
    have t9 := h8.bx.2 6 (by simp)
    have H9 := Lib.hid h9
    clear h9 h8 hl8
    go_wp2_with fail
    clear lq
    clear q7
    clear p5
    clear s9
    clear t9
    clear hw9
    clear z0
    have h9 := H9.out
    have q7 := fun W : Later w9 => (h9.cfg.keep W.h).1 7 _ rfl
    have p6 := fun W : Later w9 => (h9.bx.keep W.h).1 6 _ rfl
    have p5 := fun W : Later w9 => (h9.bx.keep W.h).1 5 _ rfl
    have p1 := fun W : Later w9 => (h9.bx.keep W.h).1 1 _ rfl
    have lq := Lib.hid (fun U : Later w9 => later_of (W := U) (CQ.out w.heap.size (Bb + 1) Bb U.val ((h9.keep U.h).bx.1 2 _ rfl) ((h9.keep U.h).cfg.1 5 _ rfl) (h9.keep U.h).fn))
    obtain ⟨z0, z1, z2, z3, -⟩ := Z11.out
    clear h9
    refine wp_region_later_tail 15 (by kernel_rfl) (by kernel_rfl) ?_
    simp only [List.take_succ_cons, List.take_zero, List.drop_succ_cons, List.drop_zero]
    repeat (go_big_quiet_step (exact lq.out _))
    refine wpQuiet_nil ?_
    rintro ⟨w10, hl10⟩
    dsimp only
    have h10 := H9.out.keep hl10
    obtain ⟨w11, hw11⟩ : ∃ w11, World.setCell w10 ⟨Bb, 7, none⟩ (.int .i64 eps) = w11 := ⟨_, rfl⟩
    have h11 := h10.put 7 (by simp) (.int .i64 eps)
    rw [hw11] at h11
    simp only [List.set_cons_succ, List.set_cons_zero] at h11
    have s11 := h10.bx.1 7 _ rfl
    have t11 := h10.bx.2 7 (by simp)
    have H11 := Lib.hid h11
    clear h11 h10 hl10
    have h11 := H11.out
    have p6 := h11.bx.1 6 _ rfl
    have p4 := h11.bx.1 4 _ rfl
    have z_most := Y_most.out
    obtain ⟨w12, hw12⟩ : ∃ w12, World.setCell w11 ⟨Bb, 8, none⟩ (.int .i64 most) = w12 := ⟨_, rfl⟩
    have h12 := h11.put 8 (by simp) (.int .i64 most)
    rw [hw12] at h12
    simp only [List.set_cons_succ, List.set_cons_zero] at h12
    have s12 := h11.bx.1 8 _ rfl
    have t12 := h11.bx.2 8 (by simp)
    have H12 := Lib.hid h12
    clear h12 h11
    have h12 := H12.out
    have q3 := h12.cfg.1 3 _ rfl
    have q4 := h12.cfg.1 4 _ rfl
    have q5 := h12.cfg.1 5 _ rfl
    have q6 := h12.cfg.1 6 _ rfl
    have H12_ := trivial
    clear h12 H12_
    go_wp2_with fail
    clear lq
    clear q7
    clear p6
    clear p5
    clear p1
    clear s11
    clear t11
    clear hw11
    clear z0
    clear z1
    clear z2
    clear z3
    clear p6
    clear p4
    clear z_most
    clear s12
    clear t12
    clear hw12
    refine (CR.out _).mono ?_
    rintro e w' ⟨rfl, rfl⟩
    clear q3 q4 q5 q6
    have h12 := H12.out
    obtain ⟨w13, hw13⟩ : ∃ w13, World.setCell w12 ⟨Bb, 9, none⟩ (.int .i64 cold) = w13 := ⟨_, rfl⟩
    have h13 := h12.put 9 (by simp) (.int .i64 cold)
    rw [hw13] at h13
    simp only [List.set_cons_succ, List.set_cons_zero] at h13
    have s13 := h12.bx.1 9 _ rfl
    have t13 := h12.bx.2 9 (by simp)
    have H13 := Lib.hid h13
    clear h13 h12
    go_wp2_with fail
    clear s13
    clear t13
    clear hw13
    have h13 := H13.out
    have q7 := fun W : Later w13 => (h13.cfg.keep W.h).1 7 _ rfl
    have p7 := fun W : Later w13 => (h13.bx.keep W.h).1 7 _ rfl
    have p9 := fun W : Later w13 => (h13.bx.keep W.h).1 9 _ rfl
    have p8 := fun W : Later w13 => (h13.bx.keep W.h).1 8 _ rfl
    have p1 := fun W : Later w13 => (h13.bx.keep W.h).1 1 _ rfl
    have lq := Lib.hid (fun U : Later w13 => later_of (W := U) (CQ.out w.heap.size (Bb + 1) Bb U.val ((h13.keep U.h).bx.1 2 _ rfl) ((h13.keep U.h).cfg.1 5 _ rfl) (h13.keep U.h).fn))
    obtain ⟨z0, z1, z2, z3, z4, -⟩ := Z14.out
    clear h13
    refine wp_region_later_tail 18 (by kernel_rfl) (by kernel_rfl) ?_
    simp only [List.take_succ_cons, List.take_zero, List.drop_succ_cons, List.drop_zero]
    repeat (go_big_quiet_step (exact lq.out _))
    refine wpQuiet_nil ?_
    rintro ⟨w14, hl14⟩
    dsimp only
    have h14 := H13.out.keep hl14
    obtain ⟨w15, hw15⟩ : ∃ w15, World.setCell w14 ⟨Bb, 10, none⟩ (.int .i64 rough) = w15 := ⟨_, rfl⟩
    have h15 := h14.put 10 (by simp) (.int .i64 rough)
    rw [hw15] at h15
    simp only [List.set_cons_succ, List.set_cons_zero] at h15
    have s15 := h14.bx.1 10 _ rfl
    have t15 := h14.bx.2 10 (by simp)
    have H15 := Lib.hid h15
    clear h15 h14 hl14
    have h15 := H15.out
    have p0 := h15.bx.1 0 _ rfl
    have p3 := h15.bx.1 3 _ rfl
    have p7 := h15.bx.1 7 _ rfl
    have p1 := h15.bx.1 1 _ rfl
    have z_le := Y_le.out
    have z_hl := Y_hl.out
    have z_delta := Y_delta.out
    obtain ⟨w16, hw16⟩ : ∃ w16, World.setCell w15 ⟨Bb, 11, none⟩ (.int .i64 delta) = w16 := ⟨_, rfl⟩
    have h16 := h15.put 11 (by simp) (.int .i64 delta)
    rw [hw16] at h16
    simp only [List.set_cons_succ, List.set_cons_zero] at h16
    have s16 := h15.bx.1 11 _ rfl
    have t16 := h15.bx.2 11 (by simp)
    have H16 := Lib.hid h16
    clear h16 h15
    have h16 := H16.out
    have r7 := h16.bx.1 7 _ rfl
    have r11 := h16.bx.1 11 _ rfl
    have z_rest := Y_rest.out
    have q9 := h16.cfg.1 9 _ rfl
    have ff := h16.fn
    have KD := Lib.hid (below_of_draws (CD.out Bb w16 (h16.bx.1 2 _ rfl)))
    clear h16
    unfold tkFn at ff
    go_wp2_with fail
    clear lq
    clear q7
    clear p7
    clear p9
    clear p8
    clear p1
    clear s15
    clear t15
    clear hw15
    clear z0
    clear z1
    clear z2
    clear z3
    clear z4
    clear p0
    clear p3
    clear p7
    clear p1
    clear z_le
    clear z_hl
    clear z_delta
    clear s16
    clear t16
    clear hw16
    refine KD.out.mono ?_
    rintro e w17 ⟨rfl, hbd⟩
    have h17 := H16.out.keep hbd
    have H17 := Lib.hid h17
    clear h17 hbd KD r7 r11 z_rest q9 ff
    have h17 := H17.out
    obtain ⟨w18, hw18⟩ : ∃ w18, World.setCell w17 ⟨Bb, 12, none⟩ (.int .i64 down) = w18 := ⟨_, rfl⟩
    have h18 := h17.put 12 (by simp) (.int .i64 down)
    rw [hw18] at h18
    simp only [List.set_cons_succ, List.set_cons_zero] at h18
    have s18 := h17.bx.1 12 _ rfl
    have t18 := h17.bx.2 12 (by simp)
    have H18 := Lib.hid h18
    clear h18 h17
    go_wp2_with fail
    clear s18
    clear t18
    clear hw18
    have h18 := H18.out
    have q4 := fun W : Later w18 => (h18.cfg.keep W.h).1 4 _ rfl
    have q7 := fun W : Later w18 => (h18.cfg.keep W.h).1 7 _ rfl
    have q8 := fun W : Later w18 => (h18.cfg.keep W.h).1 8 _ rfl
    have q9 := fun W : Later w18 => (h18.cfg.keep W.h).1 9 _ rfl
    have ff := fun U : Later w18 => (h18.keep U.h).fn
    unfold tkFn at ff
    have l1 := Lib.hid (fun U : Later w18 => later_of (W := U) (below_of_draws (C1.out Bb U.val ((h18.keep U.h).bx.1 2 _ rfl))))
    have l2 := Lib.hid (fun U : Later w18 => later_of (W := U) (below_of_draws (C2.out Bb U.val ((h18.keep U.h).bx.1 2 _ rfl))))
    obtain ⟨z0, z1, z2, z3, z4, z5, z6, z7, -⟩ := Z18.out
    clear h18
    refine wp_region_later_tail 22 (by kernel_rfl) (by kernel_rfl) ?_
    simp only [List.take_succ_cons, List.take_zero, List.drop_succ_cons, List.drop_zero]
    repeat (go_big_quiet_step (first | exact l1.out _ | exact l2.out _))
    refine wpQuiet_nil ?_
    rintro ⟨w19, hl19⟩
    dsimp only
    have h19 := H18.out.keep hl19
    obtain ⟨w20, hw20⟩ : ∃ w20, World.setCell w19 ⟨Bb, 13, none⟩ (.int .i64 join) = w20 := ⟨_, rfl⟩
    have h20 := h19.put 13 (by simp) (.int .i64 join)
    rw [hw20] at h20
    simp only [List.set_cons_succ, List.set_cons_zero] at h20
    have s20 := h19.bx.1 13 _ rfl
    have t20 := h19.bx.2 13 (by simp)
    have H20 := Lib.hid h20
    clear h20 h19 hl19
    have h20 := H20.out
    have p0 := h20.bx.1 0 _ rfl
    have p1 := h20.bx.1 1 _ rfl
    have p2 := h20.bx.1 2 _ rfl
    have p3 := h20.bx.1 3 _ rfl
    have p4 := h20.bx.1 4 _ rfl
    have p5 := h20.bx.1 5 _ rfl
    have p6 := h20.bx.1 6 _ rfl
    have p7 := h20.bx.1 7 _ rfl
    have p8 := h20.bx.1 8 _ rfl
    have p9 := h20.bx.1 9 _ rfl
    have p10 := h20.bx.1 10 _ rfl
    have p11 := h20.bx.1 11 _ rfl
    have p12 := h20.bx.1 12 _ rfl
    have p13 := h20.bx.1 13 _ rfl

    have zz := h20.zb
    have HF := Lib.hid (And.intro h20.bel h20.lt)
    have zs0 := zz.1 0 _ rfl
    have zf0 := zz.2 0 (by simp)
    have zs1 := zz.1 1 _ rfl
    have zf1 := zz.2 1 (by simp)
    have zs2 := zz.1 2 _ rfl
    have zf2 := zz.2 2 (by simp)
    have zs3 := zz.1 3 _ rfl
    have zf3 := zz.2 3 (by simp)
    have zs4 := zz.1 4 _ rfl
    have zf4 := zz.2 4 (by simp)
    have zs5 := zz.1 5 _ rfl
    have zf5 := zz.2 5 (by simp)
    have zs6 := zz.1 6 _ rfl
    have zf6 := zz.2 6 (by simp)
    have zs7 := zz.1 7 _ rfl
    have zf7 := zz.2 7 (by simp)
    have zs8 := zz.1 8 _ rfl
    have zf8 := zz.2 8 (by simp)
    have zs9 := zz.1 9 _ rfl
    have zf9 := zz.2 9 (by simp)
    have zs10 := zz.1 10 _ rfl
    have zf10 := zz.2 10 (by simp)
    have zs11 := zz.1 11 _ rfl
    have zf11 := zz.2 11 (by simp)
    have zs12 := zz.1 12 _ rfl
    have zf12 := zz.2 12 (by simp)
    have zs13 := zz.1 13 _ rfl
    have zf13 := zz.2 13 (by simp)
    have zp := ((((((((((((((zz.put 0 (by simp) (.int .i64 hops)).put 1 (by simp) (.int .i64 fast)).put 2 (by simp) (.int .i64 slow)).put 3 (by simp) (.int .i64 link)).put 4 (by simp) (.int .i64 read)).put 5 (by simp) (.int .i64 agree)).put 6 (by simp) (.int .i64 start)).put 7 (by simp) (.int .i64 eps)).put 8 (by simp) (.int .i64 most)).put 9 (by simp) (.int .i64 cold)).put 10 (by simp) (.int .i64 rough)).put 11 (by simp) (.int .i64 delta)).put 12 (by simp) (.int .i64 down)).put 13 (by simp) (.int .i64 join))
    obtain ⟨wf, hwf⟩ : ∃ wf, (World.setCell (World.setCell (World.setCell (World.setCell (World.setCell (World.setCell (World.setCell (World.setCell (World.setCell (World.setCell (World.setCell (World.setCell (World.setCell (World.setCell w20 ⟨w.heap.size + 1, 0, none⟩ (.int .i64 hops)) ⟨w.heap.size + 1, 1, none⟩ (.int .i64 fast)) ⟨w.heap.size + 1, 2, none⟩ (.int .i64 slow)) ⟨w.heap.size + 1, 3, none⟩ (.int .i64 link)) ⟨w.heap.size + 1, 4, none⟩ (.int .i64 read)) ⟨w.heap.size + 1, 5, none⟩ (.int .i64 agree)) ⟨w.heap.size + 1, 6, none⟩ (.int .i64 start)) ⟨w.heap.size + 1, 7, none⟩ (.int .i64 eps)) ⟨w.heap.size + 1, 8, none⟩ (.int .i64 most)) ⟨w.heap.size + 1, 9, none⟩ (.int .i64 cold)) ⟨w.heap.size + 1, 10, none⟩ (.int .i64 rough)) ⟨w.heap.size + 1, 11, none⟩ (.int .i64 delta)) ⟨w.heap.size + 1, 12, none⟩ (.int .i64 down)) ⟨w.heap.size + 1, 13, none⟩ (.int .i64 join)) = wf := ⟨_, rfl⟩
    rw [hwf] at zp
    simp only [List.set_cons_succ, List.set_cons_zero] at zp
    have hbf := ((((((((((((((HF.out.1.setCell (p := ⟨w.heap.size + 1, 0, none⟩) (by simp) (.int .i64 hops)).setCell (p := ⟨w.heap.size + 1, 1, none⟩) (by simp) (.int .i64 fast)).setCell (p := ⟨w.heap.size + 1, 2, none⟩) (by simp) (.int .i64 slow)).setCell (p := ⟨w.heap.size + 1, 3, none⟩) (by simp) (.int .i64 link)).setCell (p := ⟨w.heap.size + 1, 4, none⟩) (by simp) (.int .i64 read)).setCell (p := ⟨w.heap.size + 1, 5, none⟩) (by simp) (.int .i64 agree)).setCell (p := ⟨w.heap.size + 1, 6, none⟩) (by simp) (.int .i64 start)).setCell (p := ⟨w.heap.size + 1, 7, none⟩) (by simp) (.int .i64 eps)).setCell (p := ⟨w.heap.size + 1, 8, none⟩) (by simp) (.int .i64 most)).setCell (p := ⟨w.heap.size + 1, 9, none⟩) (by simp) (.int .i64 cold)).setCell (p := ⟨w.heap.size + 1, 10, none⟩) (by simp) (.int .i64 rough)).setCell (p := ⟨w.heap.size + 1, 11, none⟩) (by simp) (.int .i64 delta)).setCell (p := ⟨w.heap.size + 1, 12, none⟩) (by simp) (.int .i64 down)).setCell (p := ⟨w.heap.size + 1, 13, none⟩) (by simp) (.int .i64 join))
    rw [hwf] at hbf
    have ef0 := zp.1 0 _ rfl
    have ef1 := zp.1 1 _ rfl
    have ef2 := zp.1 2 _ rfl
    have ef3 := zp.1 3 _ rfl
    have ef4 := zp.1 4 _ rfl
    have ef5 := zp.1 5 _ rfl
    have ef6 := zp.1 6 _ rfl
    have ef7 := zp.1 7 _ rfl
    have ef8 := zp.1 8 _ rfl
    have ef9 := zp.1 9 _ rfl
    have ef10 := zp.1 10 _ rfl
    have ef11 := zp.1 11 _ rfl
    have ef12 := zp.1 12 _ rfl
    have ef13 := zp.1 13 _ rfl
    have HB := Lib.hid hbf
    clear zz zp hbf h20
    go_wp2_with fail
    refine bodyPost_ret (v := .tuple #[.agg #[.int .i64 hops, .int .i64 fast, .int .i64 slow, .int .i64 link, .int .i64 read, .int .i64 agree, .int .i64 start, .int .i64 eps, .int .i64 most, .int .i64 cold, .int .i64 rough, .int .i64 delta, .int .i64 down, .int .i64 join], .int .i64 0]) (by simp [results, Tryz.results44, go_sem, hz, hsz, ef0, ef1, ef2, ef3, ef4, ef5, ef6, ef7, ef8, ef9, ef10, ef11, ef12, ef13]) rfl ⟨rfl, HB.out⟩
end Go.Proofs.YteahiphmhaedpaaGreatDoor
