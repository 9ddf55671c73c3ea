/- The reference's Of: the numbers of a configuration. -/
import Derived.Test.YteahiphmhaedpaaGreatDoorRfA
import Derived.Test.YteahiphmhaedpaaGreatDoorCfD
import Derived.Deep.RegionHeld3
import Derived.Deep.DrawnRows
namespace Go.Proofs.YteahiphmhaedpaaGreatDoor
open Go.RowKit Law
set_option linter.unusedVariables false
set_option linter.unusedSimpArgs false
set_option maxRecDepth 100000

/-- How it stands while the numbers are reckoned: the configuration's box, the result's, that of the numbers. -/
structure RfS (w W : World) (Bb : Nat) (cc bb : List Value) : Prop where
  cfg : BoxF W w.heap.size cc
  zb : BoxF W (w.heap.size + 1) zero14
  bx : BoxF W Bb bb
  bel : Below w.heap.size w W
  lt : w.heap.size + 1 < Bb
theorem RfS.keep {w W W' : World} {Bb : Nat} {cc bb : List Value} (h : RfS w W Bb cc bb) (hb : Below W.heap.size W W') : RfS w W' Bb cc bb :=
  ⟨h.cfg.keep hb, h.zb.keep hb, h.bx.keep hb, h.bel.trans (hb.mono h.bel.size), h.lt⟩
theorem RfS.put {w W : World} {Bb : Nat} {cc bb : List Value} (h : RfS w W Bb cc bb) (j : Nat) (hj : j < bb.length) (v : Value) : RfS w (W.setCell ⟨Bb, j, none⟩ v) Bb cc (bb.set j v) :=
  ⟨h.cfg.other (by have := h.lt; simp only []; omega) v, h.zb.other (by have := h.lt; simp only []; omega) v, h.bx.put j hj v,
    h.bel.setCell (p := ⟨Bb, j, none⟩) (by have := h.lt; simp only []; omega) v, h.lt⟩
attribute [local go_sem ↓] Go.wp_at_zero Go.wp_at_succ
set_option maxHeartbeats 6400000 in
theorem ref26Of (c : Cn) (hg : goodC c = true) (A : Option Addr) (l k : Nat) (w : World) : Calls Tryz.prog 51 #[.agg (c.cells A l k).toArray] w fun e w' => e = .returned (.agg (bCells c).toArray) ∧ Below w.heap.size w w' := by
  have HG := bd_ok hg
  obtain ⟨n0, n1, d0, d1, d2, ⟨r0, r1, s0, s1⟩, ⟨a0, a1⟩, ⟨b0, b1⟩, ⟨e0, e1⟩⟩ := goodC_iff.1 hg
  obtain ⟨n, f, dmin, dmax, rho, slew, round, window, attend, seen, hist, fly, quota, body⟩ := c
  simp only at n0 n1 d0 d1 d2 r0 r1 s0 s1 a0 a1 b0 b1 e0 e1
  have x_hops := HG.hops
  have x_fast := HG.fast
  have x_slow := HG.slow
  have x_link := HG.link
  have x_er := HG.err
  have x_ww := HG.ww
  have x_wr := HG.wr
  have x_read := HG.read
  have x_agree := HG.agree
  have x_start := HG.start
  have x_eps := HG.eps
  have x_most := HG.most
  have x_cold := HG.cold
  have x_rough := HG.rough
  have x_le := HG.le_
  have x_hl := HG.hl
  have x_delta := HG.delta
  have x_rest := HG.rest
  have x_down := HG.down
  have x_t1 := HG.t1
  have x_t2 := HG.t2
  have x_join := HG.join
  have HV : Hid (bCells ⟨n, f, dmin, dmax, rho, slew, round, window, attend, seen, hist, fly, quota, body⟩ = [.int .i64 (bHops ⟨n, f, dmin, dmax, rho, slew, round, window, attend, seen, hist, fly, quota, body⟩), .int .i64 (bFast ⟨n, f, dmin, dmax, rho, slew, round, window, attend, seen, hist, fly, quota, body⟩), .int .i64 (bSlow ⟨n, f, dmin, dmax, rho, slew, round, window, attend, seen, hist, fly, quota, body⟩), .int .i64 (bLink ⟨n, f, dmin, dmax, rho, slew, round, window, attend, seen, hist, fly, quota, body⟩), .int .i64 (bRead ⟨n, f, dmin, dmax, rho, slew, round, window, attend, seen, hist, fly, quota, body⟩), .int .i64 (bAgree ⟨n, f, dmin, dmax, rho, slew, round, window, attend, seen, hist, fly, quota, body⟩), .int .i64 (bStart ⟨n, f, dmin, dmax, rho, slew, round, window, attend, seen, hist, fly, quota, body⟩), .int .i64 (bEps ⟨n, f, dmin, dmax, rho, slew, round, window, attend, seen, hist, fly, quota, body⟩), .int .i64 (bMost ⟨n, f, dmin, dmax, rho, slew, round, window, attend, seen, hist, fly, quota, body⟩), .int .i64 (bCold ⟨n, f, dmin, dmax, rho, slew, round, window, attend, seen, hist, fly, quota, body⟩), .int .i64 (bRough ⟨n, f, dmin, dmax, rho, slew, round, window, attend, seen, hist, fly, quota, body⟩), .int .i64 (bDelta ⟨n, f, dmin, dmax, rho, slew, round, window, attend, seen, hist, fly, quota, body⟩), .int .i64 (bDown ⟨n, f, dmin, dmax, rho, slew, round, window, attend, seen, hist, fly, quota, body⟩), .int .i64 (bJoin ⟨n, f, dmin, dmax, rho, slew, round, window, attend, seen, hist, fly, quota, body⟩)]) := rfl
  have y_hops : n - 1 = bHops ⟨n, f, dmin, dmax, rho, slew, round, window, attend, seen, hist, fly, quota, body⟩ := rfl
  have y_fast : 1024 + rho + slew = bFast ⟨n, f, dmin, dmax, rho, slew, round, window, attend, seen, hist, fly, quota, body⟩ := rfl
  have y_slow : 1024 - rho - slew = bSlow ⟨n, f, dmin, dmax, rho, slew, round, window, attend, seen, hist, fly, quota, body⟩ := rfl
  have y_link : dmax * (bFast ⟨n, f, dmin, dmax, rho, slew, round, window, attend, seen, hist, fly, quota, body⟩) = bLink ⟨n, f, dmin, dmax, rho, slew, round, window, attend, seen, hist, fly, quota, body⟩ := rfl
  have y_er : errH (bHops ⟨n, f, dmin, dmax, rho, slew, round, window, attend, seen, hist, fly, quota, body⟩) dmin dmax rho = bErr ⟨n, f, dmin, dmax, rho, slew, round, window, attend, seen, hist, fly, quota, body⟩ := rfl
  have y_ww : 2 * rho * tkI (2 * window) (bSlow ⟨n, f, dmin, dmax, rho, slew, round, window, attend, seen, hist, fly, quota, body⟩) = bWw ⟨n, f, dmin, dmax, rho, slew, round, window, attend, seen, hist, fly, quota, body⟩ := rfl
  have y_wr : 2 * rho * tkI (2 * round) (bSlow ⟨n, f, dmin, dmax, rho, slew, round, window, attend, seen, hist, fly, quota, body⟩) = bWr ⟨n, f, dmin, dmax, rho, slew, round, window, attend, seen, hist, fly, quota, body⟩ := rfl
  have y_read : (bErr ⟨n, f, dmin, dmax, rho, slew, round, window, attend, seen, hist, fly, quota, body⟩) + (bWw ⟨n, f, dmin, dmax, rho, slew, round, window, attend, seen, hist, fly, quota, body⟩) = bRead ⟨n, f, dmin, dmax, rho, slew, round, window, attend, seen, hist, fly, quota, body⟩ := rfl
  have y_agree : 2 * (bRead ⟨n, f, dmin, dmax, rho, slew, round, window, attend, seen, hist, fly, quota, body⟩) + 2 = bAgree ⟨n, f, dmin, dmax, rho, slew, round, window, attend, seen, hist, fly, quota, body⟩ := rfl
  have y_start : (bAgree ⟨n, f, dmin, dmax, rho, slew, round, window, attend, seen, hist, fly, quota, body⟩) + (bWr ⟨n, f, dmin, dmax, rho, slew, round, window, attend, seen, hist, fly, quota, body⟩) = bStart ⟨n, f, dmin, dmax, rho, slew, round, window, attend, seen, hist, fly, quota, body⟩ := rfl
  have y_eps : (bStart ⟨n, f, dmin, dmax, rho, slew, round, window, attend, seen, hist, fly, quota, body⟩) + (bAgree ⟨n, f, dmin, dmax, rho, slew, round, window, attend, seen, hist, fly, quota, body⟩) + (bWr ⟨n, f, dmin, dmax, rho, slew, round, window, attend, seen, hist, fly, quota, body⟩) + 2 * (bFast ⟨n, f, dmin, dmax, rho, slew, round, window, attend, seen, hist, fly, quota, body⟩) = bEps ⟨n, f, dmin, dmax, rho, slew, round, window, attend, seen, hist, fly, quota, body⟩ := rfl
  have y_most : (bStart ⟨n, f, dmin, dmax, rho, slew, round, window, attend, seen, hist, fly, quota, body⟩) + (bRead ⟨n, f, dmin, dmax, rho, slew, round, window, attend, seen, hist, fly, quota, body⟩) + 2 = bMost ⟨n, f, dmin, dmax, rho, slew, round, window, attend, seen, hist, fly, quota, body⟩ := rfl
  have y_cold : errR dmin dmax rho slew = bCold ⟨n, f, dmin, dmax, rho, slew, round, window, attend, seen, hist, fly, quota, body⟩ := rfl
  have y_rough : (bEps ⟨n, f, dmin, dmax, rho, slew, round, window, attend, seen, hist, fly, quota, body⟩) + (bCold ⟨n, f, dmin, dmax, rho, slew, round, window, attend, seen, hist, fly, quota, body⟩) + (bMost ⟨n, f, dmin, dmax, rho, slew, round, window, attend, seen, hist, fly, quota, body⟩) + (bWr ⟨n, f, dmin, dmax, rho, slew, round, window, attend, seen, hist, fly, quota, body⟩) + 4 * (bFast ⟨n, f, dmin, dmax, rho, slew, round, window, attend, seen, hist, fly, quota, body⟩) = bRough ⟨n, f, dmin, dmax, rho, slew, round, window, attend, seen, hist, fly, quota, body⟩ := rfl
  have y_le : (bLink ⟨n, f, dmin, dmax, rho, slew, round, window, attend, seen, hist, fly, quota, body⟩) + (bEps ⟨n, f, dmin, dmax, rho, slew, round, window, attend, seen, hist, fly, quota, body⟩) = bLe ⟨n, f, dmin, dmax, rho, slew, round, window, attend, seen, hist, fly, quota, body⟩ := rfl
  have y_hl : (bHops ⟨n, f, dmin, dmax, rho, slew, round, window, attend, seen, hist, fly, quota, body⟩) * (bLe ⟨n, f, dmin, dmax, rho, slew, round, window, attend, seen, hist, fly, quota, body⟩) = bHl ⟨n, f, dmin, dmax, rho, slew, round, window, attend, seen, hist, fly, quota, body⟩ := rfl
  have y_delta : (bHl ⟨n, f, dmin, dmax, rho, slew, round, window, attend, seen, hist, fly, quota, body⟩) + 2 * (bFast ⟨n, f, dmin, dmax, rho, slew, round, window, attend, seen, hist, fly, quota, body⟩) = bDelta ⟨n, f, dmin, dmax, rho, slew, round, window, attend, seen, hist, fly, quota, body⟩ := rfl
  have y_rest : 2 * (bEps ⟨n, f, dmin, dmax, rho, slew, round, window, attend, seen, hist, fly, quota, body⟩) + 2 * (bDelta ⟨n, f, dmin, dmax, rho, slew, round, window, attend, seen, hist, fly, quota, body⟩) = bRest ⟨n, f, dmin, dmax, rho, slew, round, window, attend, seen, hist, fly, quota, body⟩ := rfl
  have y_down : tkI (attend + (bRest ⟨n, f, dmin, dmax, rho, slew, round, window, attend, seen, hist, fly, quota, body⟩)) (bSlow ⟨n, f, dmin, dmax, rho, slew, round, window, attend, seen, hist, fly, quota, body⟩) = bDown ⟨n, f, dmin, dmax, rho, slew, round, window, attend, seen, hist, fly, quota, body⟩ := rfl
  have y_t1 : tkI (2 * (round + window)) (bSlow ⟨n, f, dmin, dmax, rho, slew, round, window, attend, seen, hist, fly, quota, body⟩) = bT1 ⟨n, f, dmin, dmax, rho, slew, round, window, attend, seen, hist, fly, quota, body⟩ := rfl
  have y_t2 : tkI (2 * attend + (bRest ⟨n, f, dmin, dmax, rho, slew, round, window, attend, seen, hist, fly, quota, body⟩)) (bSlow ⟨n, f, dmin, dmax, rho, slew, round, window, attend, seen, hist, fly, quota, body⟩) = bT2 ⟨n, f, dmin, dmax, rho, slew, round, window, attend, seen, hist, fly, quota, body⟩ := rfl
  have y_join : 2 * dmax + 8 + (bT1 ⟨n, f, dmin, dmax, rho, slew, round, window, attend, seen, hist, fly, quota, body⟩) + (bT2 ⟨n, f, dmin, dmax, rho, slew, round, window, attend, seen, hist, fly, quota, body⟩) = bJoin ⟨n, f, dmin, dmax, rho, slew, round, window, attend, seen, hist, fly, quota, body⟩ := rfl
  generalize bHops ⟨n, f, dmin, dmax, rho, slew, round, window, attend, seen, hist, fly, quota, body⟩ = hops at HV x_hops x_fast x_slow x_link x_er x_ww x_wr x_read x_agree x_start x_eps x_most x_cold x_rough x_le x_hl x_delta x_rest x_down x_t1 x_t2 x_join y_hops y_fast y_slow y_link y_er y_ww y_wr y_read y_agree y_start y_eps y_most y_cold y_rough y_le y_hl y_delta y_rest y_down y_t1 y_t2 y_join
  generalize bFast ⟨n, f, dmin, dmax, rho, slew, round, window, attend, seen, hist, fly, quota, body⟩ = fast at HV x_hops x_fast x_slow x_link x_er x_ww x_wr x_read x_agree x_start x_eps x_most x_cold x_rough x_le x_hl x_delta x_rest x_down x_t1 x_t2 x_join y_hops y_fast y_slow y_link y_er y_ww y_wr y_read y_agree y_start y_eps y_most y_cold y_rough y_le y_hl y_delta y_rest y_down y_t1 y_t2 y_join
  generalize bSlow ⟨n, f, dmin, dmax, rho, slew, round, window, attend, seen, hist, fly, quota, body⟩ = slow at HV x_hops x_fast x_slow x_link x_er x_ww x_wr x_read x_agree x_start x_eps x_most x_cold x_rough x_le x_hl x_delta x_rest x_down x_t1 x_t2 x_join y_hops y_fast y_slow y_link y_er y_ww y_wr y_read y_agree y_start y_eps y_most y_cold y_rough y_le y_hl y_delta y_rest y_down y_t1 y_t2 y_join
  generalize bLink ⟨n, f, dmin, dmax, rho, slew, round, window, attend, seen, hist, fly, quota, body⟩ = link at HV x_hops x_fast x_slow x_link x_er x_ww x_wr x_read x_agree x_start x_eps x_most x_cold x_rough x_le x_hl x_delta x_rest x_down x_t1 x_t2 x_join y_hops y_fast y_slow y_link y_er y_ww y_wr y_read y_agree y_start y_eps y_most y_cold y_rough y_le y_hl y_delta y_rest y_down y_t1 y_t2 y_join
  generalize bErr ⟨n, f, dmin, dmax, rho, slew, round, window, attend, seen, hist, fly, quota, body⟩ = er at HV x_hops x_fast x_slow x_link x_er x_ww x_wr x_read x_agree x_start x_eps x_most x_cold x_rough x_le x_hl x_delta x_rest x_down x_t1 x_t2 x_join y_hops y_fast y_slow y_link y_er y_ww y_wr y_read y_agree y_start y_eps y_most y_cold y_rough y_le y_hl y_delta y_rest y_down y_t1 y_t2 y_join
  generalize bWw ⟨n, f, dmin, dmax, rho, slew, round, window, attend, seen, hist, fly, quota, body⟩ = ww at HV x_hops x_fast x_slow x_link x_er x_ww x_wr x_read x_agree x_start x_eps x_most x_cold x_rough x_le x_hl x_delta x_rest x_down x_t1 x_t2 x_join y_hops y_fast y_slow y_link y_er y_ww y_wr y_read y_agree y_start y_eps y_most y_cold y_rough y_le y_hl y_delta y_rest y_down y_t1 y_t2 y_join
  generalize bWr ⟨n, f, dmin, dmax, rho, slew, round, window, attend, seen, hist, fly, quota, body⟩ = wr at HV x_hops x_fast x_slow x_link x_er x_ww x_wr x_read x_agree x_start x_eps x_most x_cold x_rough x_le x_hl x_delta x_rest x_down x_t1 x_t2 x_join y_hops y_fast y_slow y_link y_er y_ww y_wr y_read y_agree y_start y_eps y_most y_cold y_rough y_le y_hl y_delta y_rest y_down y_t1 y_t2 y_join
  generalize bRead ⟨n, f, dmin, dmax, rho, slew, round, window, attend, seen, hist, fly, quota, body⟩ = read at HV x_hops x_fast x_slow x_link x_er x_ww x_wr x_read x_agree x_start x_eps x_most x_cold x_rough x_le x_hl x_delta x_rest x_down x_t1 x_t2 x_join y_hops y_fast y_slow y_link y_er y_ww y_wr y_read y_agree y_start y_eps y_most y_cold y_rough y_le y_hl y_delta y_rest y_down y_t1 y_t2 y_join
  generalize bAgree ⟨n, f, dmin, dmax, rho, slew, round, window, attend, seen, hist, fly, quota, body⟩ = agree at HV x_hops x_fast x_slow x_link x_er x_ww x_wr x_read x_agree x_start x_eps x_most x_cold x_rough x_le x_hl x_delta x_rest x_down x_t1 x_t2 x_join y_hops y_fast y_slow y_link y_er y_ww y_wr y_read y_agree y_start y_eps y_most y_cold y_rough y_le y_hl y_delta y_rest y_down y_t1 y_t2 y_join
  generalize bStart ⟨n, f, dmin, dmax, rho, slew, round, window, attend, seen, hist, fly, quota, body⟩ = start at HV x_hops x_fast x_slow x_link x_er x_ww x_wr x_read x_agree x_start x_eps x_most x_cold x_rough x_le x_hl x_delta x_rest x_down x_t1 x_t2 x_join y_hops y_fast y_slow y_link y_er y_ww y_wr y_read y_agree y_start y_eps y_most y_cold y_rough y_le y_hl y_delta y_rest y_down y_t1 y_t2 y_join
  generalize bEps ⟨n, f, dmin, dmax, rho, slew, round, window, attend, seen, hist, fly, quota, body⟩ = eps at HV x_hops x_fast x_slow x_link x_er x_ww x_wr x_read x_agree x_start x_eps x_most x_cold x_rough x_le x_hl x_delta x_rest x_down x_t1 x_t2 x_join y_hops y_fast y_slow y_link y_er y_ww y_wr y_read y_agree y_start y_eps y_most y_cold y_rough y_le y_hl y_delta y_rest y_down y_t1 y_t2 y_join
  generalize bMost ⟨n, f, dmin, dmax, rho, slew, round, window, attend, seen, hist, fly, quota, body⟩ = most at HV x_hops x_fast x_slow x_link x_er x_ww x_wr x_read x_agree x_start x_eps x_most x_cold x_rough x_le x_hl x_delta x_rest x_down x_t1 x_t2 x_join y_hops y_fast y_slow y_link y_er y_ww y_wr y_read y_agree y_start y_eps y_most y_cold y_rough y_le y_hl y_delta y_rest y_down y_t1 y_t2 y_join
  generalize bCold ⟨n, f, dmin, dmax, rho, slew, round, window, attend, seen, hist, fly, quota, body⟩ = cold at HV x_hops x_fast x_slow x_link x_er x_ww x_wr x_read x_agree x_start x_eps x_most x_cold x_rough x_le x_hl x_delta x_rest x_down x_t1 x_t2 x_join y_hops y_fast y_slow y_link y_er y_ww y_wr y_read y_agree y_start y_eps y_most y_cold y_rough y_le y_hl y_delta y_rest y_down y_t1 y_t2 y_join
  generalize bRough ⟨n, f, dmin, dmax, rho, slew, round, window, attend, seen, hist, fly, quota, body⟩ = rough at HV x_hops x_fast x_slow x_link x_er x_ww x_wr x_read x_agree x_start x_eps x_most x_cold x_rough x_le x_hl x_delta x_rest x_down x_t1 x_t2 x_join y_hops y_fast y_slow y_link y_er y_ww y_wr y_read y_agree y_start y_eps y_most y_cold y_rough y_le y_hl y_delta y_rest y_down y_t1 y_t2 y_join
  generalize bLe ⟨n, f, dmin, dmax, rho, slew, round, window, attend, seen, hist, fly, quota, body⟩ = le at HV x_hops x_fast x_slow x_link x_er x_ww x_wr x_read x_agree x_start x_eps x_most x_cold x_rough x_le x_hl x_delta x_rest x_down x_t1 x_t2 x_join y_hops y_fast y_slow y_link y_er y_ww y_wr y_read y_agree y_start y_eps y_most y_cold y_rough y_le y_hl y_delta y_rest y_down y_t1 y_t2 y_join
  generalize bHl ⟨n, f, dmin, dmax, rho, slew, round, window, attend, seen, hist, fly, quota, body⟩ = hl at HV x_hops x_fast x_slow x_link x_er x_ww x_wr x_read x_agree x_start x_eps x_most x_cold x_rough x_le x_hl x_delta x_rest x_down x_t1 x_t2 x_join y_hops y_fast y_slow y_link y_er y_ww y_wr y_read y_agree y_start y_eps y_most y_cold y_rough y_le y_hl y_delta y_rest y_down y_t1 y_t2 y_join
  generalize bDelta ⟨n, f, dmin, dmax, rho, slew, round, window, attend, seen, hist, fly, quota, body⟩ = delta at HV x_hops x_fast x_slow x_link x_er x_ww x_wr x_read x_agree x_start x_eps x_most x_cold x_rough x_le x_hl x_delta x_rest x_down x_t1 x_t2 x_join y_hops y_fast y_slow y_link y_er y_ww y_wr y_read y_agree y_start y_eps y_most y_cold y_rough y_le y_hl y_delta y_rest y_down y_t1 y_t2 y_join
  generalize bRest ⟨n, f, dmin, dmax, rho, slew, round, window, attend, seen, hist, fly, quota, body⟩ = rest at HV x_hops x_fast x_slow x_link x_er x_ww x_wr x_read x_agree x_start x_eps x_most x_cold x_rough x_le x_hl x_delta x_rest x_down x_t1 x_t2 x_join y_hops y_fast y_slow y_link y_er y_ww y_wr y_read y_agree y_start y_eps y_most y_cold y_rough y_le y_hl y_delta y_rest y_down y_t1 y_t2 y_join
  generalize bDown ⟨n, f, dmin, dmax, rho, slew, round, window, attend, seen, hist, fly, quota, body⟩ = down at HV x_hops x_fast x_slow x_link x_er x_ww x_wr x_read x_agree x_start x_eps x_most x_cold x_rough x_le x_hl x_delta x_rest x_down x_t1 x_t2 x_join y_hops y_fast y_slow y_link y_er y_ww y_wr y_read y_agree y_start y_eps y_most y_cold y_rough y_le y_hl y_delta y_rest y_down y_t1 y_t2 y_join
  generalize bT1 ⟨n, f, dmin, dmax, rho, slew, round, window, attend, seen, hist, fly, quota, body⟩ = t1 at HV x_hops x_fast x_slow x_link x_er x_ww x_wr x_read x_agree x_start x_eps x_most x_cold x_rough x_le x_hl x_delta x_rest x_down x_t1 x_t2 x_join y_hops y_fast y_slow y_link y_er y_ww y_wr y_read y_agree y_start y_eps y_most y_cold y_rough y_le y_hl y_delta y_rest y_down y_t1 y_t2 y_join
  generalize bT2 ⟨n, f, dmin, dmax, rho, slew, round, window, attend, seen, hist, fly, quota, body⟩ = t2 at HV x_hops x_fast x_slow x_link x_er x_ww x_wr x_read x_agree x_start x_eps x_most x_cold x_rough x_le x_hl x_delta x_rest x_down x_t1 x_t2 x_join y_hops y_fast y_slow y_link y_er y_ww y_wr y_read y_agree y_start y_eps y_most y_cold y_rough y_le y_hl y_delta y_rest y_down y_t1 y_t2 y_join
  generalize bJoin ⟨n, f, dmin, dmax, rho, slew, round, window, attend, seen, hist, fly, quota, body⟩ = join at HV x_hops x_fast x_slow x_link x_er x_ww x_wr x_read x_agree x_start x_eps x_most x_cold x_rough x_le x_hl x_delta x_rest x_down x_t1 x_t2 x_join y_hops y_fast y_slow y_link y_er y_ww y_wr y_read y_agree y_start y_eps y_most y_cold y_rough y_le y_hl y_delta y_rest y_down y_t1 y_t2 y_join
  clear HG hg
  obtain ⟨x0_hops, x1_hops⟩ := x_hops
  obtain ⟨x0_fast, x1_fast⟩ := x_fast
  obtain ⟨x0_slow, x1_slow⟩ := x_slow
  obtain ⟨x0_link, x1_link⟩ := x_link
  obtain ⟨x0_er, x1_er⟩ := x_er
  obtain ⟨x0_ww, x1_ww⟩ := x_ww
  obtain ⟨x0_wr, x1_wr⟩ := x_wr
  obtain ⟨x0_read, x1_read⟩ := x_read
  obtain ⟨x0_agree, x1_agree⟩ := x_agree
  obtain ⟨x0_start, x1_start⟩ := x_start
  obtain ⟨x0_eps, x1_eps⟩ := x_eps
  obtain ⟨x0_most, x1_most⟩ := x_most
  obtain ⟨x0_cold, x1_cold⟩ := x_cold
  obtain ⟨x0_rough, x1_rough⟩ := x_rough
  obtain ⟨x0_le, x1_le⟩ := x_le
  obtain ⟨x0_hl, x1_hl⟩ := x_hl
  obtain ⟨x0_delta, x1_delta⟩ := x_delta
  obtain ⟨x0_rest, x1_rest⟩ := x_rest
  obtain ⟨x0_down, x1_down⟩ := x_down
  obtain ⟨x0_t1, x1_t1⟩ := x_t1
  obtain ⟨x0_t2, x1_t2⟩ := x_t2
  obtain ⟨x0_join, x1_join⟩ := x_join
  have CE := ref19Err (h := hops) (a := dmin) (b := dmax) (rho := rho) (by omega) (by omega) (by omega) (by omega) (by omega) (by omega) (by omega)
  rw [y_er] at CE
  have CR := ref23Err (a := dmin) (b := dmax) (rho := rho) (slew := slew) (by omega) (by omega) (by omega) (by omega) (by omega) (by omega) (by omega)
  rw [y_cold] at CR
  have CF := ref20Fast (rho := rho) (slew := slew) r0 r1 s0 s1
  rw [y_fast] at CF
  have CS := ref20Slow (rho := rho) (slew := slew) r0 r1 s0 s1
  rw [y_slow] at CS
  have TW := ref20Ticks (g := 2 * window) (slow := slow) (by omega) (by omega) (by omega) (by omega)
  have TR := ref20Ticks (g := 2 * round) (slow := slow) (by omega) (by omega) (by omega) (by omega)
  have TD := ref20Ticks (g := attend + 2 * eps + 2 * delta) (slow := slow) (by omega) (by omega) (by omega) (by omega)
  rw [show attend + 2 * eps + 2 * delta = attend + rest by omega, y_down, show attend + rest = attend + 2 * eps + 2 * delta by omega] at TD
  have T1 := ref20Ticks (g := 2 * round + 2 * window) (slow := slow) (by omega) (by omega) (by omega) (by omega)
  rw [show 2 * round + 2 * window = 2 * (round + window) by omega, y_t1, show 2 * (round + window) = 2 * round + 2 * window by omega] at T1
  have T2 := ref20Ticks (g := 2 * attend + 2 * eps + 2 * delta) (slow := slow) (by omega) (by omega) (by omega) (by omega)
  rw [show 2 * attend + 2 * eps + 2 * delta = 2 * attend + rest by omega, y_t2, show 2 * attend + rest = 2 * attend + 2 * eps + 2 * delta by omega] at T2
  generalize tkI (2 * window) slow = tw at *
  generalize tkI (2 * round) slow = tr at *
  have y_eps2 : start + 2 * read + 2 + wr + 2 * fast = eps := by omega
  have CE := Lib.hid CE
  have CR := Lib.hid CR
  have CF := Lib.hid CF
  have CS := Lib.hid CS
  have TW := Lib.hid TW
  have TR := Lib.hid TR
  have TD := Lib.hid TD
  have T1 := Lib.hid T1
  have T2 := Lib.hid T2
  have Y_link := Lib.hid y_link
  have Y_agree := Lib.hid y_agree
  have Y_start := Lib.hid y_start
  have Y_most := Lib.hid y_most
  have Y_rough := Lib.hid y_rough
  have Y_le := Lib.hid y_le
  have Y_hl := Lib.hid y_hl
  have Y_delta := Lib.hid y_delta
  have Y_eps2 := Lib.hid y_eps2
  have Z1 : Hid (IntKind.i64.wrap (n - 1) = hops ∧ True) := ⟨by rw [IntWalk.i64_in _ (by omega)]; omega, trivial⟩
  have Z2 : Hid (IntKind.i64.wrap (2 * rho) = 2 * rho ∧ IntKind.i64.wrap (2 * round) = 2 * round ∧ IntKind.i64.wrap (2 * rho * tr) = wr ∧ True) := ⟨by rw [IntWalk.i64_in _ (by omega)], by rw [IntWalk.i64_in _ (by omega)], by rw [y_wr]; exact IntWalk.i64_in _ (by omega), trivial⟩
  have Z4 : Hid (IntKind.i64.wrap (2 * rho) = 2 * rho ∧ IntKind.i64.wrap (2 * window) = 2 * window ∧ IntKind.i64.wrap (2 * rho * tw) = ww ∧ IntKind.i64.wrap (er + ww) = read ∧ True) := ⟨by rw [IntWalk.i64_in _ (by omega)], by rw [IntWalk.i64_in _ (by omega)], by rw [y_ww]; exact IntWalk.i64_in _ (by omega), by rw [IntWalk.i64_in _ (by omega)]; omega, trivial⟩
  have Z13 : Hid (IntKind.i64.wrap (2 * dmax) = 2 * dmax ∧ IntKind.i64.wrap (2 * dmax + 8) = 2 * dmax + 8 ∧ IntKind.i64.wrap (2 * round) = 2 * round ∧ IntKind.i64.wrap (2 * window) = 2 * window ∧ IntKind.i64.wrap (2 * round + 2 * window) = 2 * round + 2 * window ∧ IntKind.i64.wrap (2 * dmax + 8 + t1) = 2 * dmax + 8 + t1 ∧ IntKind.i64.wrap (2 * attend) = 2 * attend ∧ IntKind.i64.wrap (2 * eps) = 2 * eps ∧ IntKind.i64.wrap (2 * attend + 2 * eps) = 2 * attend + 2 * eps ∧ IntKind.i64.wrap (2 * delta) = 2 * delta ∧ IntKind.i64.wrap (2 * attend + 2 * eps + 2 * delta) = 2 * attend + 2 * eps + 2 * delta ∧ IntKind.i64.wrap (2 * dmax + 8 + t1 + t2) = join ∧ True) := ⟨by rw [IntWalk.i64_in _ (by omega)], by rw [IntWalk.i64_in _ (by omega)], by rw [IntWalk.i64_in _ (by omega)], by rw [IntWalk.i64_in _ (by omega)], by rw [IntWalk.i64_in _ (by omega)], by rw [IntWalk.i64_in _ (by omega)], by rw [IntWalk.i64_in _ (by omega)], by rw [IntWalk.i64_in _ (by omega)], by rw [IntWalk.i64_in _ (by omega)], by rw [IntWalk.i64_in _ (by omega)], by rw [IntWalk.i64_in _ (by omega)], by rw [IntWalk.i64_in _ (by omega)]; omega, trivial⟩
  clear y_hops y_fast y_slow y_link y_er y_ww y_wr y_read y_agree y_start y_eps y_most y_cold y_rough y_le y_hl y_delta y_rest y_down y_t1 y_t2 y_join y_eps2
  obtain ⟨hz, hsz⟩ := zero_of_info (show (Tryz.prog.info? 115).map (fun i => (i.zero, i.size)) = some (some (.agg #[.int .i64 0, .int .i64 0, .int .i64 0, .int .i64 0, .int .i64 0, .int .i64 0, .int .i64 0, .int .i64 0, .int .i64 0, .int .i64 0, .int .i64 0, .int .i64 0, .int .i64 0, .int .i64 0]), 14) by kernel_rfl)
  rw [HV.out]
  have HV := True.intro
  have k0 := (boxF_made w [.int .i64 n, .slice A l k, .int .i64 f, .int .i64 dmin, .int .i64 dmax, .int .i64 rho, .int .i64 slew, .int .i64 round, .int .i64 window, .int .i64 attend, .int .i64 seen, .int .i64 hist, .int .i64 fly, .int .i64 quota, .int .i64 body] 32).keep ((Below.refl _ _).alloc (Nat.le_refl _) (.cells #[.int .i64 0, .int .i64 0, .int .i64 0, .int .i64 0, .int .i64 0, .int .i64 0, .int .i64 0, .int .i64 0, .int .i64 0, .int .i64 0, .int .i64 0, .int .i64 0, .int .i64 0, .int .i64 0] 115))
  have k1 := boxF_made (w.alloc (.cells #[.int .i64 n, .slice A l k, .int .i64 f, .int .i64 dmin, .int .i64 dmax, .int .i64 rho, .int .i64 slew, .int .i64 round, .int .i64 window, .int .i64 attend, .int .i64 seen, .int .i64 hist, .int .i64 fly, .int .i64 quota, .int .i64 body] 32)) [.int .i64 0, .int .i64 0, .int .i64 0, .int .i64 0, .int .i64 0, .int .i64 0, .int .i64 0, .int .i64 0, .int .i64 0, .int .i64 0, .int .i64 0, .int .i64 0, .int .i64 0, .int .i64 0] 115
  rw [show (w.alloc (.cells #[.int .i64 n, .slice A l k, .int .i64 f, .int .i64 dmin, .int .i64 dmax, .int .i64 rho, .int .i64 slew, .int .i64 round, .int .i64 window, .int .i64 attend, .int .i64 seen, .int .i64 hist, .int .i64 fly, .int .i64 quota, .int .i64 body] 32)).heap.size = w.heap.size + 1 by simp] at k1
  have k2 := ((Below.refl w.heap.size w).alloc (Nat.le_refl _) (.cells #[.int .i64 n, .slice A l k, .int .i64 f, .int .i64 dmin, .int .i64 dmax, .int .i64 rho, .int .i64 slew, .int .i64 round, .int .i64 window, .int .i64 attend, .int .i64 seen, .int .i64 hist, .int .i64 fly, .int .i64 quota, .int .i64 body] 32)).alloc (by simp) (.cells #[.int .i64 0, .int .i64 0, .int .i64 0, .int .i64 0, .int .i64 0, .int .i64 0, .int .i64 0, .int .i64 0, .int .i64 0, .int .i64 0, .int .i64 0, .int .i64 0, .int .i64 0, .int .i64 0] 115)
  obtain ⟨w1, hw1⟩ : ∃ w1, (w.alloc (.cells #[.int .i64 n, .slice A l k, .int .i64 f, .int .i64 dmin, .int .i64 dmax, .int .i64 rho, .int .i64 slew, .int .i64 round, .int .i64 window, .int .i64 attend, .int .i64 seen, .int .i64 hist, .int .i64 fly, .int .i64 quota, .int .i64 body] 32)).alloc (.cells #[.int .i64 0, .int .i64 0, .int .i64 0, .int .i64 0, .int .i64 0, .int .i64 0, .int .i64 0, .int .i64 0, .int .i64 0, .int .i64 0, .int .i64 0, .int .i64 0, .int .i64 0, .int .i64 0] 115) = w1 := ⟨_, rfl⟩
  rw [hw1] at k0 k1 k2
  have hs1 : w1.heap.size = w.heap.size + 2 := by rw [← hw1]; simp
  have H1 := Lib.hid (And.intro k0 (And.intro k1 k2))
  have HS1 := Lib.hid hs1
  clear k0 k1 k2 hs1
  go_enter Tryz.func51, Tryz.ntmps51
  go_wp2_with fail
  clear hw1
  refine Code.wp_mono (Q := fun e a' w' => e = .normal ∧ (∃ u0 u5 u6 u7 u8 u9 u10 u11 u12 u13 u14 u15 u16 u17 u18 : Value, a' = { tmps := #[u0, .pointer (some ⟨w.heap.size, 0, none⟩), .pointer (some ⟨w.heap.size + 1, 0, none⟩), .pointer (some ⟨w1.heap.size, 0, none⟩), undef, u5, u6, u7, u8, u9, u10, u11, u12, u13, u14, u15, u16, u17, u18, undef, undef, undef, undef, undef, undef, undef, undef, undef, undef, undef, undef, undef, undef, undef, undef, undef, undef, undef, undef, undef, undef, undef, undef, undef, undef, undef, undef, undef, undef, undef, undef, undef, undef, undef, undef, undef, undef, undef, undef, undef, undef, undef, undef, undef, undef, undef, undef, undef, undef, undef, undef, undef, undef, undef, undef, undef, undef, undef, undef, undef, undef, undef, undef, undef, undef, undef, undef, undef, undef, undef, undef, undef, undef, undef, undef, undef, undef, undef, undef, undef, undef, undef, undef, undef, undef, undef, undef, undef, undef, undef, undef, undef, undef, undef, undef, undef, undef, undef, undef, undef, undef, undef, undef, undef, undef, undef, undef, undef, undef, undef, undef, undef, undef, undef, undef, undef, undef, undef, undef, undef, undef, undef, undef, undef, undef, undef, undef, undef, undef, undef, undef, undef, undef, undef, undef, undef, undef, undef, undef, undef, undef, undef, undef, undef, undef, undef, undef, undef, undef, undef, undef, undef, undef, undef], defers := [] }) ∧ BoxF w' w1.heap.size [.int .i64 hops, .int .i64 fast, .int .i64 slow, .int .i64 0, .int .i64 0, .int .i64 0, .int .i64 0, .int .i64 0, .int .i64 0, .int .i64 0, .int .i64 0, .int .i64 0, .int .i64 0, .int .i64 0] ∧ Below w1.heap.size w1 w' ∧ w'.heap.size = w1.heap.size + 1) ?c3 ?r3
  case r3 =>
    obtain ⟨z0, -⟩ := Z1.out
    have HST : Hid (∀ W, Below w1.heap.size w1 W → W.cell? ⟨w.heap.size, 0, none⟩ = some (.int .i64 n) ∧ W.cell? ⟨w.heap.size, 5, none⟩ = some (.int .i64 rho) ∧ W.cell? ⟨w.heap.size, 6, none⟩ = some (.int .i64 slew)) := fun W hW => ⟨(H1.out.1.keep hW).1 0 _ rfl, (H1.out.1.keep hW).1 5 _ rfl, (H1.out.1.keep hW).1 6 _ rfl⟩
    go_region_held3 (fun W => W.cell? ⟨w.heap.size, 0, none⟩ = some (.int .i64 n) ∧ W.cell? ⟨w.heap.size, 5, none⟩ = some (.int .i64 rho) ∧ W.cell? ⟨w.heap.size, 6, none⟩ = some (.int .i64 slew))
      (first
        | exact HST.out _ (Below.refl _ _).drew
        | exact HST.out _ ((Below.refl _ _).alloc (Nat.le_refl _) _).drew
        | exact HST.out _ (((Below.refl _ _).alloc (Nat.le_refl _) _).setCell (Nat.le_refl _) _).drew)
      (first
        | (go_at_call 116; (with_reducible refine (CF.out _).mono ?_); rintro e w' ⟨rfl, rfl⟩)
        | (go_at_call 117; (with_reducible refine (CS.out _).mono ?_); rintro e w' ⟨rfl, rfl⟩))
    all_goals exact ⟨rfl, ⟨_, _, _, _, _, _, _, _, _, _, _, _, _, _, _, rfl⟩, (boxF_made _ _ _).keep (Below.refl _ _).drew, ((Below.refl _ _).alloc (Nat.le_refl _) _).drew, by simp⟩
  case c3 =>
    rintro e a' w2 ⟨rfl, ⟨u0, u5, u6, u7, u8, u9, u10, u11, u12, u13, u14, u15, u16, u17, u18, rfl⟩, hB2, hb2, hs2⟩
    have hlt2 : w.heap.size + 1 < w1.heap.size := by have := HS1.out; omega
    obtain ⟨Bb, hBb⟩ : ∃ Bb, w1.heap.size = Bb := ⟨_, rfl⟩
    rw [hBb] at hB2 hlt2 ⊢
    have h2 : RfS w w2 Bb [.int .i64 n, .slice A l k, .int .i64 f, .int .i64 dmin, .int .i64 dmax, .int .i64 rho, .int .i64 slew, .int .i64 round, .int .i64 window, .int .i64 attend, .int .i64 seen, .int .i64 hist, .int .i64 fly, .int .i64 quota, .int .i64 body] [.int .i64 hops, .int .i64 fast, .int .i64 slow, .int .i64 0, .int .i64 0, .int .i64 0, .int .i64 0, .int .i64 0, .int .i64 0, .int .i64 0, .int .i64 0, .int .i64 0, .int .i64 0, .int .i64 0] := ⟨H1.out.1.keep hb2, H1.out.2.1.keep hb2, hB2, H1.out.2.2.trans (hb2.mono H1.out.2.2.size), hlt2⟩
    have H2 := Lib.hid h2
    clear h2 hB2 hb2 hs2 hBb
    have h2 := H2.out
    have q5 := fun W : Later w2 => (h2.cfg.keep W.h).1 5 _ rfl
    have q7 := fun W : Later w2 => (h2.cfg.keep W.h).1 7 _ rfl
    have p2 := fun W : Later w2 => (h2.bx.keep W.h).1 2 _ rfl
    obtain ⟨z0, z1, z2, -⟩ := Z2.out
    clear h2
    go_wp2_with fail
    refine wp_region_later (by kernel_rfl) (by kernel_rfl) ?_
    repeat (go_big_quiet_step (exact later_of ((TR.out _).mono fun _ _ ⟨he, hw⟩ => ⟨he, by subst hw; exact Below.refl _ _⟩)))
    refine wpQuiet_nil ?_
    rintro w3 ⟨⟨w3_, hl3⟩, rfl⟩
    try dsimp only
    have h3 := H2.out.keep hl3
    have H3 := Lib.hid h3
    clear h3 hl3
    clear q5
    clear q7
    clear p2
    clear z0
    clear z1
    clear z2
    have h3 := H3.out
    have q4 := h3.cfg.1 4 _ rfl
    have p1 := h3.bx.1 1 _ rfl
    have z_link := Y_link.out
    obtain ⟨w4, hw4⟩ : ∃ w4, World.setCell w3 ⟨Bb, 3, none⟩ (.int .i64 link) = w4 := ⟨_, rfl⟩
    have h4 := h3.put 3 (by simp) (.int .i64 link)
    rw [hw4] at h4
    simp only [List.set_cons_succ, List.set_cons_zero] at h4
    have s4 := h3.bx.1 3 _ rfl
    have t4 := h3.bx.2 3 (by simp)
    have H4 := Lib.hid h4
    clear h4 h3
    go_wp2_with fail
    clear q4
    clear p1
    clear z_link
    clear s4
    clear t4
    clear hw4
    have h4 := H4.out
    have q3 := fun W : Later w4 => (h4.cfg.keep W.h).1 3 _ rfl
    have q4 := fun W : Later w4 => (h4.cfg.keep W.h).1 4 _ rfl
    have q5 := fun W : Later w4 => (h4.cfg.keep W.h).1 5 _ rfl
    have q8 := fun W : Later w4 => (h4.cfg.keep W.h).1 8 _ rfl
    have p0 := fun W : Later w4 => (h4.bx.keep W.h).1 0 _ rfl
    have p2 := fun W : Later w4 => (h4.bx.keep W.h).1 2 _ rfl
    obtain ⟨z0, z1, z2, z3, -⟩ := Z4.out
    clear h4
    refine wp_region_later_tail 21 (by kernel_rfl) (by kernel_rfl) ?_
    simp only [List.take_succ_cons, List.take_zero, List.drop_succ_cons, List.drop_zero]
    repeat (go_big_quiet_step (first | exact later_of ((CE.out _).mono fun _ _ ⟨he, hw⟩ => ⟨he, by subst hw; exact Below.refl _ _⟩) | exact later_of ((TW.out _).mono fun _ _ ⟨he, hw⟩ => ⟨he, by subst hw; exact Below.refl _ _⟩)))
    refine wpQuiet_nil ?_
    rintro ⟨w5, hl5⟩
    try dsimp only
    have h5 := H4.out.keep hl5
    obtain ⟨w6, hw6⟩ : ∃ w6, World.setCell w5 ⟨Bb, 4, none⟩ (.int .i64 read) = w6 := ⟨_, rfl⟩
    have h6 := h5.put 4 (by simp) (.int .i64 read)
    rw [hw6] at h6
    simp only [List.set_cons_succ, List.set_cons_zero] at h6
    have s6 := h5.bx.1 4 _ rfl
    have t6 := h5.bx.2 4 (by simp)
    have H6 := Lib.hid h6
    clear h6 h5 hl5
    have h6 := H6.out
    have p4 := h6.bx.1 4 _ rfl
    have z_agree := Y_agree.out
    obtain ⟨w7, hw7⟩ : ∃ w7, World.setCell w6 ⟨Bb, 5, none⟩ (.int .i64 agree) = w7 := ⟨_, rfl⟩
    have h7 := h6.put 5 (by simp) (.int .i64 agree)
    rw [hw7] at h7
    simp only [List.set_cons_succ, List.set_cons_zero] at h7
    have s7 := h6.bx.1 5 _ rfl
    have t7 := h6.bx.2 5 (by simp)
    have H7 := Lib.hid h7
    clear h7 h6
    have h7 := H7.out
    have p5 := h7.bx.1 5 _ rfl
    have z_start := Y_start.out
    obtain ⟨w8, hw8⟩ : ∃ w8, World.setCell w7 ⟨Bb, 6, none⟩ (.int .i64 start) = w8 := ⟨_, rfl⟩
    have h8 := h7.put 6 (by simp) (.int .i64 start)
    rw [hw8] at h8
    simp only [List.set_cons_succ, List.set_cons_zero] at h8
    have s8 := h7.bx.1 6 _ rfl
    have t8 := h7.bx.2 6 (by simp)
    have H8 := Lib.hid h8
    clear h8 h7
    have h8 := H8.out
    have p6 := h8.bx.1 6 _ rfl
    have p4 := h8.bx.1 4 _ rfl
    have p1 := h8.bx.1 1 _ rfl
    have z_eps2 := Y_eps2.out
    obtain ⟨w9, hw9⟩ : ∃ w9, World.setCell w8 ⟨Bb, 7, none⟩ (.int .i64 eps) = w9 := ⟨_, rfl⟩
    have h9 := h8.put 7 (by simp) (.int .i64 eps)
    rw [hw9] at h9
    simp only [List.set_cons_succ, List.set_cons_zero] at h9
    have s9 := h8.bx.1 7 _ rfl
    have t9 := h8.bx.2 7 (by simp)
    have H9 := Lib.hid h9
    clear h9 h8
    have h9 := H9.out
    have p6 := h9.bx.1 6 _ rfl
    have p4 := h9.bx.1 4 _ rfl
    have z_most := Y_most.out
    obtain ⟨w10, hw10⟩ : ∃ w10, World.setCell w9 ⟨Bb, 8, none⟩ (.int .i64 most) = w10 := ⟨_, rfl⟩
    have h10 := h9.put 8 (by simp) (.int .i64 most)
    rw [hw10] at h10
    simp only [List.set_cons_succ, List.set_cons_zero] at h10
    have s10 := h9.bx.1 8 _ rfl
    have t10 := h9.bx.2 8 (by simp)
    have H10 := Lib.hid h10
    clear h10 h9
    have h10 := H10.out
    have q3 := h10.cfg.1 3 _ rfl
    have q4 := h10.cfg.1 4 _ rfl
    have q5 := h10.cfg.1 5 _ rfl
    have q6 := h10.cfg.1 6 _ rfl
    clear h10
    go_wp2_with fail
    refine (CR.out _).mono ?_
    rintro e w' ⟨rfl, rfl⟩
    clear q3
    clear q4
    clear q5
    clear q6
    clear q3
    clear q4
    clear q5
    clear q8
    clear p0
    clear p2
    clear s6
    clear t6
    clear hw6
    clear z0
    clear z1
    clear z2
    clear z3
    clear p4
    clear z_agree
    clear s7
    clear t7
    clear hw7
    clear p5
    clear z_start
    clear s8
    clear t8
    clear hw8
    clear p6
    clear p4
    clear p1
    clear z_eps2
    clear s9
    clear t9
    clear hw9
    clear p6
    clear p4
    clear z_most
    clear s10
    clear t10
    clear hw10
    have h10 := H10.out
    obtain ⟨w11, hw11⟩ : ∃ w11, World.setCell w10 ⟨Bb, 9, none⟩ (.int .i64 cold) = w11 := ⟨_, rfl⟩
    have h11 := h10.put 9 (by simp) (.int .i64 cold)
    rw [hw11] at h11
    simp only [List.set_cons_succ, List.set_cons_zero] at h11
    have s11 := h10.bx.1 9 _ rfl
    have t11 := h10.bx.2 9 (by simp)
    have H11 := Lib.hid h11
    clear h11 h10
    have h11 := H11.out
    have p7 := h11.bx.1 7 _ rfl
    have p9 := h11.bx.1 9 _ rfl
    have p8 := h11.bx.1 8 _ rfl
    have p1 := h11.bx.1 1 _ rfl
    have z_rough := Y_rough.out
    obtain ⟨w12, hw12⟩ : ∃ w12, World.setCell w11 ⟨Bb, 10, none⟩ (.int .i64 rough) = w12 := ⟨_, rfl⟩
    have h12 := h11.put 10 (by simp) (.int .i64 rough)
    rw [hw12] at h12
    simp only [List.set_cons_succ, List.set_cons_zero] at h12
    have s12 := h11.bx.1 10 _ rfl
    have t12 := h11.bx.2 10 (by simp)
    have H12 := Lib.hid h12
    clear h12 h11
    have h12 := H12.out
    have p0 := h12.bx.1 0 _ rfl
    have p3 := h12.bx.1 3 _ rfl
    have p7 := h12.bx.1 7 _ rfl
    have p1 := h12.bx.1 1 _ rfl
    have z_le := Y_le.out
    have z_hl := Y_hl.out
    have z_delta := Y_delta.out
    obtain ⟨w13, hw13⟩ : ∃ w13, World.setCell w12 ⟨Bb, 11, none⟩ (.int .i64 delta) = w13 := ⟨_, rfl⟩
    have h13 := h12.put 11 (by simp) (.int .i64 delta)
    rw [hw13] at h13
    simp only [List.set_cons_succ, List.set_cons_zero] at h13
    have s13 := h12.bx.1 11 _ rfl
    have t13 := h12.bx.2 11 (by simp)
    have H13 := Lib.hid h13
    clear h13 h12
    have h13 := H13.out
    have q9 := h13.cfg.1 9 _ rfl
    have p7 := h13.bx.1 7 _ rfl
    have p11 := h13.bx.1 11 _ rfl
    have p2 := h13.bx.1 2 _ rfl
    clear h13
    go_wp2_with fail
    refine (TD.out _).mono ?_
    rintro e w' ⟨rfl, rfl⟩
    clear q9
    clear p7
    clear p11
    clear p2
    clear s11
    clear t11
    clear hw11
    clear p7
    clear p9
    clear p8
    clear p1
    clear z_rough
    clear s12
    clear t12
    clear hw12
    clear p0
    clear p3
    clear p7
    clear p1
    clear z_le
    clear z_hl
    clear z_delta
    clear s13
    clear t13
    clear hw13
    have h13 := H13.out
    obtain ⟨w14, hw14⟩ : ∃ w14, World.setCell w13 ⟨Bb, 12, none⟩ (.int .i64 down) = w14 := ⟨_, rfl⟩
    have h14 := h13.put 12 (by simp) (.int .i64 down)
    rw [hw14] at h14
    simp only [List.set_cons_succ, List.set_cons_zero] at h14
    have s14 := h13.bx.1 12 _ rfl
    have t14 := h13.bx.2 12 (by simp)
    have H14 := Lib.hid h14
    clear h14 h13
    go_wp2_with fail
    clear s14
    clear t14
    clear hw14
    have h14 := H14.out
    have q4 := fun W : Later w14 => (h14.cfg.keep W.h).1 4 _ rfl
    have q7 := fun W : Later w14 => (h14.cfg.keep W.h).1 7 _ rfl
    have q8 := fun W : Later w14 => (h14.cfg.keep W.h).1 8 _ rfl
    have q9 := fun W : Later w14 => (h14.cfg.keep W.h).1 9 _ rfl
    have p2 := fun W : Later w14 => (h14.bx.keep W.h).1 2 _ rfl
    have p7 := fun W : Later w14 => (h14.bx.keep W.h).1 7 _ rfl
    have p11 := fun W : Later w14 => (h14.bx.keep W.h).1 11 _ rfl
    obtain ⟨z0, z1, z2, z3, z4, z5, z6, z7, z8, z9, z10, z11, -⟩ := Z13.out
    clear h14
    refine wp_region_later_tail 31 (by kernel_rfl) (by kernel_rfl) ?_
    simp only [List.take_succ_cons, List.take_zero, List.drop_succ_cons, List.drop_zero]
    iterate 13 (go_big_quiet_step (fail))
    go_big_quiet_step (exact later_of ((T1.out _).mono fun _ _ ⟨he, hw⟩ => ⟨he, by subst hw; exact Below.refl _ _⟩))
    iterate 14 (go_big_quiet_step (fail))
    go_big_quiet_step (exact later_of ((T2.out _).mono fun _ _ ⟨he, hw⟩ => ⟨he, by subst hw; exact Below.refl _ _⟩))
    repeat (go_big_quiet_step (fail))
    refine wpQuiet_nil ?_
    rintro ⟨w15, hl15⟩
    try dsimp only
    have h15 := H14.out.keep hl15
    obtain ⟨w16, hw16⟩ : ∃ w16, World.setCell w15 ⟨Bb, 13, none⟩ (.int .i64 join) = w16 := ⟨_, rfl⟩
    have h16 := h15.put 13 (by simp) (.int .i64 join)
    rw [hw16] at h16
    simp only [List.set_cons_succ, List.set_cons_zero] at h16
    have s16 := h15.bx.1 13 _ rfl
    have t16 := h15.bx.2 13 (by simp)
    have H16 := Lib.hid h16
    clear h16 h15 hl15
    have h16 := H16.out
    have p0 := h16.bx.1 0 _ rfl
    have p1 := h16.bx.1 1 _ rfl
    have p2 := h16.bx.1 2 _ rfl
    have p3 := h16.bx.1 3 _ rfl
    have p4 := h16.bx.1 4 _ rfl
    have p5 := h16.bx.1 5 _ rfl
    have p6 := h16.bx.1 6 _ rfl
    have p7 := h16.bx.1 7 _ rfl
    have p8 := h16.bx.1 8 _ rfl
    have p9 := h16.bx.1 9 _ rfl
    have p10 := h16.bx.1 10 _ rfl
    have p11 := h16.bx.1 11 _ rfl
    have p12 := h16.bx.1 12 _ rfl
    have p13 := h16.bx.1 13 _ rfl
    have zz := h16.zb
    have HF := Lib.hid (And.intro h16.bel h16.lt)
    have zs0 := zz.1 0 _ rfl
    have zf0 := zz.2 0 (by simp)
    have zs1 := zz.1 1 _ rfl
    have zf1 := zz.2 1 (by simp)
    have zs2 := zz.1 2 _ rfl
    have zf2 := zz.2 2 (by simp)
    have zs3 := zz.1 3 _ rfl
    have zf3 := zz.2 3 (by simp)
    have zs4 := zz.1 4 _ rfl
    have zf4 := zz.2 4 (by simp)
    have zs5 := zz.1 5 _ rfl
    have zf5 := zz.2 5 (by simp)
    have zs6 := zz.1 6 _ rfl
    have zf6 := zz.2 6 (by simp)
    have zs7 := zz.1 7 _ rfl
    have zf7 := zz.2 7 (by simp)
    have zs8 := zz.1 8 _ rfl
    have zf8 := zz.2 8 (by simp)
    have zs9 := zz.1 9 _ rfl
    have zf9 := zz.2 9 (by simp)
    have zs10 := zz.1 10 _ rfl
    have zf10 := zz.2 10 (by simp)
    have zs11 := zz.1 11 _ rfl
    have zf11 := zz.2 11 (by simp)
    have zs12 := zz.1 12 _ rfl
    have zf12 := zz.2 12 (by simp)
    have zs13 := zz.1 13 _ rfl
    have zf13 := zz.2 13 (by simp)
    have zp := ((((((((((((((zz.put 0 (by simp) (.int .i64 hops)).put 1 (by simp) (.int .i64 fast)).put 2 (by simp) (.int .i64 slow)).put 3 (by simp) (.int .i64 link)).put 4 (by simp) (.int .i64 read)).put 5 (by simp) (.int .i64 agree)).put 6 (by simp) (.int .i64 start)).put 7 (by simp) (.int .i64 eps)).put 8 (by simp) (.int .i64 most)).put 9 (by simp) (.int .i64 cold)).put 10 (by simp) (.int .i64 rough)).put 11 (by simp) (.int .i64 delta)).put 12 (by simp) (.int .i64 down)).put 13 (by simp) (.int .i64 join))
    obtain ⟨wf, hwf⟩ : ∃ wf, (World.setCell (World.setCell (World.setCell (World.setCell (World.setCell (World.setCell (World.setCell (World.setCell (World.setCell (World.setCell (World.setCell (World.setCell (World.setCell (World.setCell w16 ⟨w.heap.size + 1, 0, none⟩ (.int .i64 hops)) ⟨w.heap.size + 1, 1, none⟩ (.int .i64 fast)) ⟨w.heap.size + 1, 2, none⟩ (.int .i64 slow)) ⟨w.heap.size + 1, 3, none⟩ (.int .i64 link)) ⟨w.heap.size + 1, 4, none⟩ (.int .i64 read)) ⟨w.heap.size + 1, 5, none⟩ (.int .i64 agree)) ⟨w.heap.size + 1, 6, none⟩ (.int .i64 start)) ⟨w.heap.size + 1, 7, none⟩ (.int .i64 eps)) ⟨w.heap.size + 1, 8, none⟩ (.int .i64 most)) ⟨w.heap.size + 1, 9, none⟩ (.int .i64 cold)) ⟨w.heap.size + 1, 10, none⟩ (.int .i64 rough)) ⟨w.heap.size + 1, 11, none⟩ (.int .i64 delta)) ⟨w.heap.size + 1, 12, none⟩ (.int .i64 down)) ⟨w.heap.size + 1, 13, none⟩ (.int .i64 join)) = wf := ⟨_, rfl⟩
    rw [hwf] at zp
    simp only [List.set_cons_succ, List.set_cons_zero] at zp
    have hbf := ((((((((((((((HF.out.1.setCell (p := ⟨w.heap.size + 1, 0, none⟩) (by simp) (.int .i64 hops)).setCell (p := ⟨w.heap.size + 1, 1, none⟩) (by simp) (.int .i64 fast)).setCell (p := ⟨w.heap.size + 1, 2, none⟩) (by simp) (.int .i64 slow)).setCell (p := ⟨w.heap.size + 1, 3, none⟩) (by simp) (.int .i64 link)).setCell (p := ⟨w.heap.size + 1, 4, none⟩) (by simp) (.int .i64 read)).setCell (p := ⟨w.heap.size + 1, 5, none⟩) (by simp) (.int .i64 agree)).setCell (p := ⟨w.heap.size + 1, 6, none⟩) (by simp) (.int .i64 start)).setCell (p := ⟨w.heap.size + 1, 7, none⟩) (by simp) (.int .i64 eps)).setCell (p := ⟨w.heap.size + 1, 8, none⟩) (by simp) (.int .i64 most)).setCell (p := ⟨w.heap.size + 1, 9, none⟩) (by simp) (.int .i64 cold)).setCell (p := ⟨w.heap.size + 1, 10, none⟩) (by simp) (.int .i64 rough)).setCell (p := ⟨w.heap.size + 1, 11, none⟩) (by simp) (.int .i64 delta)).setCell (p := ⟨w.heap.size + 1, 12, none⟩) (by simp) (.int .i64 down)).setCell (p := ⟨w.heap.size + 1, 13, none⟩) (by simp) (.int .i64 join))
    rw [hwf] at hbf
    have ef0 := zp.1 0 _ rfl
    have ef1 := zp.1 1 _ rfl
    have ef2 := zp.1 2 _ rfl
    have ef3 := zp.1 3 _ rfl
    have ef4 := zp.1 4 _ rfl
    have ef5 := zp.1 5 _ rfl
    have ef6 := zp.1 6 _ rfl
    have ef7 := zp.1 7 _ rfl
    have ef8 := zp.1 8 _ rfl
    have ef9 := zp.1 9 _ rfl
    have ef10 := zp.1 10 _ rfl
    have ef11 := zp.1 11 _ rfl
    have ef12 := zp.1 12 _ rfl
    have ef13 := zp.1 13 _ rfl
    have HB := Lib.hid hbf
    clear zz zp hbf h16
    go_wp2_with fail
    refine bodyPost_ret (v := .agg #[.int .i64 hops, .int .i64 fast, .int .i64 slow, .int .i64 link, .int .i64 read, .int .i64 agree, .int .i64 start, .int .i64 eps, .int .i64 most, .int .i64 cold, .int .i64 rough, .int .i64 delta, .int .i64 down, .int .i64 join]) (by simp [results, Tryz.results51, go_sem, hz, hsz, ef0, ef1, ef2, ef3, ef4, ef5, ef6, ef7, ef8, ef9, ef10, ef11, ef12, ef13]) rfl ⟨rfl, HB.out⟩
end Go.Proofs.YteahiphmhaedpaaGreatDoor
