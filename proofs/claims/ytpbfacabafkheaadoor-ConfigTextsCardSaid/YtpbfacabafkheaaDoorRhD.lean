/- bound.Suggest: the least periods. -/
import Derived.Test.YtpbfacabafkheaaDoorCfE
namespace Go.Proofs.YtpbfacabafkheaaDoor
open Go.RowKit Law Go.Shelf
set_option linter.unusedVariables false
set_option linter.unusedSimpArgs false
set_option maxRecDepth 100000
attribute [local go_sem] Oper.semAt_some

def baseC (c : Cn) (k : Nat) : Cn := { c with round := 2 ^ k, window := 2 ^ (k - 2), attend := 1 }
def stepC (c : Cn) (k : Nat) : Cn := { baseC c k with attend := 2 * bDelta (baseC c k) }
def sugF (c : Cn) : Nat → Nat → Cn
  | 0, _ => c
  | f + 1, k => if enoughB (stepC c k) then stepC c k else sugF c f (k + 1)
def sugC (c : Cn) : Cn := sugF c 29 12
theorem pow_fit {k : Nat} (h1 : 12 ≤ k) (h2 : k ≤ 40) : (4096 : Int) ≤ 2 ^ k ∧ (2 : Int) ^ k ≤ 1099511627776 := by
  have a : 2 ^ 12 ≤ 2 ^ k := Nat.pow_le_pow_right (by decide) h1
  have b : 2 ^ k ≤ 2 ^ 40 := Nat.pow_le_pow_right (by decide) h2
  have e : ((2 ^ k : Nat) : Int) = (2 : Int) ^ k := by simp
  omega
theorem pow_four {k : Nat} (h : 2 ≤ k) : (2 : Int) ^ k = 4 * 2 ^ (k - 2) := by
  obtain ⟨m, rfl⟩ : ∃ m, k = m + 2 := ⟨k - 2, by omega⟩
  rw [Nat.add_sub_cancel, Int.pow_succ, Int.pow_succ]; omega
theorem perB_pow {x : Int} (h1 : 1 ≤ x) (h2 : x ≤ 1099511627776) : perB x = true := by
  unfold perB; simp; omega
theorem good_base {c : Cn} {k j : Nat} (h1 : 12 ≤ k) (h2 : k ≤ 40) (g1 : 12 ≤ j) (g2 : j ≤ 40) : goodC (baseC c k) = goodC (baseC c j) := by
  have a := pow_fit h1 h2
  have b := pow_fit g1 g2
  have a4 := pow_four (k := k) (by omega)
  have b4 := pow_four (k := j) (by omega)
  unfold goodC baseC
  simp only [perB_pow (show 1 ≤ (2 : Int) ^ k by omega) a.2, perB_pow (show 1 ≤ (2 : Int) ^ j by omega) b.2, perB_pow (show 1 ≤ (2 : Int) ^ (k - 2) by omega) (by omega), perB_pow (show 1 ≤ (2 : Int) ^ (j - 2) by omega) (by omega)]
theorem step_bad {c : Cn} {k : Nat} (h : goodC (baseC c k) = false) : enoughB (stepC c k) = false := by
  have : goodC (stepC c k) = false := by
    have h1 : perB (baseC c k).attend = true := by show perB 1 = true; decide
    have e : goodC (stepC c k) = (goodC (baseC c k) && perB (2 * bDelta (baseC c k))) := by
      have h2 : goodC (baseC c k) = (goodC (baseC c k) && perB (baseC c k).attend) := by rw [h1, Bool.and_true]
      unfold goodC at *
      rw [h1, Bool.and_true]
      rfl
    rw [e, h]; rfl
  unfold enoughB; rw [this]; rfl
theorem sug_bad {c : Cn} (h : goodC (baseC c 12) = false) : ∀ f k, 12 ≤ k → f + k ≤ 41 → sugF c f k = c
  | 0, k, _, _ => rfl
  | f + 1, k, h1, h2 => by
    have hb := step_bad (c := c) (k := k) (by rw [good_base (j := 12) h1 (by omega) (by omega) (by omega)]; exact h)
    show (if enoughB (stepC c k) then _ else _) = c
    rw [if_neg (by rw [hb]; decide)]
    exact sug_bad h f (k + 1) (by omega) (by omega)
theorem sug_step {c : Cn} {k : Nat} (h : k ≤ 40) : sugF c (41 - k) k = if enoughB (stepC c k) then stepC c k else sugF c (41 - (k + 1)) (k + 1) := by
  rw [show 41 - k = (40 - k) + 1 by omega, show 41 - (k + 1) = 40 - k by omega]; rfl
theorem step_delta {c : Cn} {k : Nat} (h : goodC (baseC c k) = true) : 0 ≤ bDelta (baseC c k) ∧ bDelta (baseC c k) ≤ 200000000000000000 := by
  obtain ⟨a, b⟩ := (bd_ok h).delta
  constructor <;> omega
def SugPost (c : Cn) (A : Option Addr) (l k : Nat) (w : World) (e : Ending) (w' : World) : Prop := (∃ b : Bool, e = .returned (.tuple #[.agg ((sugC c).cells A l k).toArray, .bool b])) ∧ Below w.heap.size w w'
/-- How it stands ahead of a round. -/
structure SgS (w W : World) (cs : List Value) : Prop where
  cfg : BoxF W w.heap.size cs
  zb : BoxF W (w.heap.size + 1) [.int .i64 0, .slice none 0 0, .int .i64 0, .int .i64 0, .int .i64 0, .int .i64 0, .int .i64 0, .int .i64 0, .int .i64 0, .int .i64 0, .int .i64 0, .int .i64 0, .int .i64 0, .int .i64 0, .int .i64 0]
  bel : Below w.heap.size w W
theorem SgS.keep {w W W' : World} {cs : List Value} (h : SgS w W cs) (hb : Below W.heap.size W W') : SgS w W' cs := ⟨h.cfg.keep hb, h.zb.keep hb, h.bel.trans (hb.mono h.bel.size)⟩
theorem SgS.put {w W : World} {cs : List Value} (h : SgS w W cs) {D : Nat} (hD : w.heap.size + 1 < D) (j : Nat) (v : Value) : SgS w (W.setCell ⟨D, j, none⟩ v) cs :=
  ⟨h.cfg.other (a := ⟨D, j, none⟩) (by show D ≠ _; omega) v, h.zb.other (a := ⟨D, j, none⟩) (by show D ≠ _; omega) v, h.bel.setCell (p := ⟨D, j, none⟩) (by show w.heap.size ≤ D; omega) v⟩
/-- The same, and the box of what is tried. -/
structure SgD (w W : World) (cs : List Value) (D : Nat) (ds : List Value) : Prop where
  s : SgS w W cs
  bx : BoxF W D ds
  lt : w.heap.size + 1 < D
theorem SgD.keep {w W W' : World} {cs ds : List Value} {D : Nat} (h : SgD w W cs D ds) (hb : Below W.heap.size W W') : SgD w W' cs D ds := ⟨h.s.keep hb, h.bx.keep hb, h.lt⟩
theorem SgD.put {w W : World} {cs ds : List Value} {D : Nat} (h : SgD w W cs D ds) (j : Nat) (hj : j < ds.length) (v : Value) : SgD w (W.setCell ⟨D, j, none⟩ v) cs D (ds.set j v) := ⟨h.s.put h.lt j v, h.bx.put j hj v, h.lt⟩
def storeN (B : Nat) : World → List Value → Nat → World
  | W, [], _ => W
  | W, v :: r, j => storeN B (W.setCell ⟨B, j, none⟩ v) r (j + 1)
theorem storeN_box (B : Nat) : ∀ (vs : List Value) (W : World) (a b : List Value), b.length = vs.length → BoxF W B (a ++ b) → BoxF (storeN B W vs a.length) B (a ++ vs)
  | [], W, a, b, hb, h => by
    have : b = [] := List.eq_nil_of_length_eq_zero (by simpa using hb)
    subst this; exact h
  | v :: r, W, a, [], hb, h => by simp at hb
  | v :: r, W, a, x :: b, hb, h => by
    have h1 := h.put a.length (by simp) v
    rw [List.set_append_right _ _ (Nat.le_refl _), Nat.sub_self, List.set_cons_zero] at h1
    have h2 := storeN_box B r (W.setCell ⟨B, a.length, none⟩ v) (a ++ [v]) b (by simpa using hb) (by simpa using h1)
    simpa [storeN] using h2
theorem SgS.storeN {w : World} {cs : List Value} {D : Nat} (hD : w.heap.size + 1 < D) : ∀ (vs : List Value) (W : World) (j : Nat), SgS w W cs → SgS w (Go.Proofs.YtpbfacabafkheaaDoor.storeN D W vs j) cs
  | [], W, j, h => h
  | v :: r, W, j, h => SgS.storeN hD r _ (j + 1) (h.put hD j v)
theorem storeN_below {N : Nat} (B : Nat) (hB : N ≤ B) : ∀ (vs : List Value) (w W : World) (j : Nat), Below N w W → Below N w (storeN B W vs j)
  | [], w, W, j, h => h
  | v :: r, w, W, j, h => storeN_below B hB r w _ (j + 1) (h.setCell (p := ⟨B, j, none⟩) hB v)
set_option maxHeartbeats 6400000 in
theorem boundSuggest0 (c : Cn) (hgd : goodC (baseC c 12) = false) (A : Option Addr) (l k : Nat) (w : World) : Calls Tryd.prog 31 #[.agg (c.cells A l k).toArray] w (SugPost c A l k w) := by
  obtain ⟨hz, hsz⟩ := zero_of_info (show (Tryd.prog.info? 24).map (fun i => (i.zero, i.size)) = some (some (.agg #[.int .i64 0, .slice none 0 0, .int .i64 0, .int .i64 0, .int .i64 0, .int .i64 0, .int .i64 0, .int .i64 0, .int .i64 0, .int .i64 0, .int .i64 0, .int .i64 0, .int .i64 0, .int .i64 0, .int .i64 0]), 15) by kernel_rfl)
  have HSUG : Hid (sugC c = sugF c (41 - 12) 12) := rfl
  have CO := Lib.hid (fun (j : Nat) (hg : goodC (baseC c j) = true) W => boundOf (baseC c j) hg A l k W)
  have CB := Lib.hid (fun (j : Nat) (hg : goodC (baseC c j) = false) W => boundOfBad (baseC c j) hg A l k W)
  have CE := Lib.hid (fun (j : Nat) W => boundEnough (stepC c j) A l k W)
  have HBAD := Lib.hid (fun (h : goodC (baseC c 12) = false) => sug_bad h 29 12 (by omega) (by omega))
  have HST := Lib.hid (fun (j : Nat) (h : j ≤ 40) => sug_step (c := c) h)
  have HDL := Lib.hid (fun (j : Nat) (h : goodC (baseC c j) = true) => step_delta h)
  have HGB := Lib.hid (fun (j : Nat) (h1 : 12 ≤ j) (h2 : j ≤ 40) => good_base (c := c) h1 h2 (show 12 ≤ 12 by omega) (show 12 ≤ 40 by omega))
  have HGD := Lib.hid hgd
  clear hgd
  obtain ⟨cs, hcs⟩ : ∃ cs, c.cells A l k = cs := ⟨_, rfl⟩
  obtain ⟨n, f, dmin, dmax, rho, slew, round, window, attend, seen, hist, fly, quota, body⟩ := c
  have k0 := boxF_made w [.int .i64 n, .slice A l k, .int .i64 f, .int .i64 dmin, .int .i64 dmax, .int .i64 rho, .int .i64 slew, .int .i64 round, .int .i64 window, .int .i64 attend, .int .i64 seen, .int .i64 hist, .int .i64 fly, .int .i64 quota, .int .i64 body] 24
  have k1 := (Below.refl w.heap.size w).alloc (Nat.le_refl _) (.cells #[.int .i64 n, .slice A l k, .int .i64 f, .int .i64 dmin, .int .i64 dmax, .int .i64 rho, .int .i64 slew, .int .i64 round, .int .i64 window, .int .i64 attend, .int .i64 seen, .int .i64 hist, .int .i64 fly, .int .i64 quota, .int .i64 body] 24)
  obtain ⟨w1, hw1⟩ : ∃ w1, w.alloc (.cells #[.int .i64 n, .slice A l k, .int .i64 f, .int .i64 dmin, .int .i64 dmax, .int .i64 rho, .int .i64 slew, .int .i64 round, .int .i64 window, .int .i64 attend, .int .i64 seen, .int .i64 hist, .int .i64 fly, .int .i64 quota, .int .i64 body] 24) = w1 := ⟨_, rfl⟩
  have hs1 : w1.heap.size = w.heap.size + 1 := by rw [← hw1]; simp
  rw [hw1] at k0 k1
  have k2 := boxF_made w1 [.int .i64 0, .slice none 0 0, .int .i64 0, .int .i64 0, .int .i64 0, .int .i64 0, .int .i64 0, .int .i64 0, .int .i64 0, .int .i64 0, .int .i64 0, .int .i64 0, .int .i64 0, .int .i64 0, .int .i64 0] 24
  have HS := Lib.hid (show SgS w (w1.alloc (.cells #[.int .i64 0, .slice none 0 0, .int .i64 0, .int .i64 0, .int .i64 0, .int .i64 0, .int .i64 0, .int .i64 0, .int .i64 0, .int .i64 0, .int .i64 0, .int .i64 0, .int .i64 0, .int .i64 0, .int .i64 0] 24)) [.int .i64 n, .slice A l k, .int .i64 f, .int .i64 dmin, .int .i64 dmax, .int .i64 rho, .int .i64 slew, .int .i64 round, .int .i64 window, .int .i64 attend, .int .i64 seen, .int .i64 hist, .int .i64 fly, .int .i64 quota, .int .i64 body] from ⟨k0.keep ((Below.refl _ _).alloc (Nat.le_refl _) _), by rw [← hs1]; exact k2, k1.alloc (by omega) _⟩)
  clear k0 k1 k2 hcs
  go_enter Tryd.func31, Tryd.ntmps31
  go_wp2
  go_loopw [4] (fun i wr => ∃ j : Nat, 12 ≤ j ∧ j ≤ 40 ∧ i = .int .i64 j ∧ sugF ⟨n, f, dmin, dmax, rho, slew, round, window, attend, seen, hist, fly, quota, body⟩ (41 - j) j = sugC ⟨n, f, dmin, dmax, rho, slew, round, window, attend, seen, hist, fly, quota, body⟩ ∧ SgS w wr [.int .i64 n, .slice A l k, .int .i64 f, .int .i64 dmin, .int .i64 dmax, .int .i64 rho, .int .i64 slew, .int .i64 round, .int .i64 window, .int .i64 attend, .int .i64 seen, .int .i64 hist, .int .i64 fly, .int .i64 quota, .int .i64 body]) (fun i _ => 41 - (intOf i).toNat)
  case atStart => exact ⟨12, by omega, by omega, rfl, rfl, HS.out⟩
  case round =>
    obtain ⟨j, hj1, hj2, rfl, hsug, hS⟩ := hrel
    obtain ⟨W1, rfl⟩ : ∃ W1, W1 = wr := ⟨_, rfl⟩
    clear HS
    by_cases hlt : j ≤ 40
    · have c0 := hS.cfg.1 0 _ rfl
      have c1 := hS.cfg.1 1 _ rfl
      have c2 := hS.cfg.1 2 _ rfl
      have c3 := hS.cfg.1 3 _ rfl
      have c4 := hS.cfg.1 4 _ rfl
      have c5 := hS.cfg.1 5 _ rfl
      have c6 := hS.cfg.1 6 _ rfl
      have c7 := hS.cfg.1 7 _ rfl
      have c8 := hS.cfg.1 8 _ rfl
      have c9 := hS.cfg.1 9 _ rfl
      have c10 := hS.cfg.1 10 _ rfl
      have c11 := hS.cfg.1 11 _ rfl
      have c12 := hS.cfg.1 12 _ rfl
      have c13 := hS.cfg.1 13 _ rfl
      have c14 := hS.cfg.1 14 _ rfl
      obtain ⟨W2, hW2⟩ : ∃ W2, W1.alloc (.cells #[.int .i64 n, .slice A l k, .int .i64 f, .int .i64 dmin, .int .i64 dmax, .int .i64 rho, .int .i64 slew, .int .i64 round, .int .i64 window, .int .i64 attend, .int .i64 seen, .int .i64 hist, .int .i64 fly, .int .i64 quota, .int .i64 body] 24) = W2 := ⟨_, rfl⟩
      have hb2 : Below W1.heap.size W1 W2 := by rw [← hW2]; exact (Below.refl _ _).alloc (Nat.le_refl _) _
      have hbx : BoxF W2 W1.heap.size [.int .i64 n, .slice A l k, .int .i64 f, .int .i64 dmin, .int .i64 dmax, .int .i64 rho, .int .i64 slew, .int .i64 round, .int .i64 window, .int .i64 attend, .int .i64 seen, .int .i64 hist, .int .i64 fly, .int .i64 quota, .int .i64 body] := by rw [← hW2]; exact boxF_made _ _ _
      obtain ⟨r, hr⟩ : ∃ r, (2 : Int) ^ j = r := ⟨_, rfl⟩
      obtain ⟨q, hq⟩ : ∃ q, (2 : Int) ^ (j - 2) = q := ⟨_, rfl⟩
      have hpf := pow_fit hj1 hlt
      have hpq := pow_four (k := j) (by omega)
      rw [hr] at hpf hpq
      rw [hq] at hpq
      replace hpq := hpq.symm
      have hs1 : IntKind.i64.wrap (2 ^ j) = r := by rw [hr]; exact IntWalk.i64_in _ (by omega)
      have hs2 : IntKind.i64.wrap (2 ^ ((j : Int) - 2).toNat) = q := by rw [show ((j : Int) - 2).toNat = j - 2 by omega, hq]; exact IntWalk.i64_in _ (by omega)
      have e7 := hbx.1 7 _ rfl
      have e8 := hbx.1 8 _ rfl
      have e9 := hbx.1 9 _ rfl
      have f7 := hbx.2 7 (by simp)
      have f8 := hbx.2 8 (by simp)
      have f9 := hbx.2 9 (by simp)
      have HSG := Lib.hid hsug
      have hD0 : SgD w W2 [.int .i64 n, .slice A l k, .int .i64 f, .int .i64 dmin, .int .i64 dmax, .int .i64 rho, .int .i64 slew, .int .i64 round, .int .i64 window, .int .i64 attend, .int .i64 seen, .int .i64 hist, .int .i64 fly, .int .i64 quota, .int .i64 body] W1.heap.size [.int .i64 n, .slice A l k, .int .i64 f, .int .i64 dmin, .int .i64 dmax, .int .i64 rho, .int .i64 slew, .int .i64 round, .int .i64 window, .int .i64 attend, .int .i64 seen, .int .i64 hist, .int .i64 fly, .int .i64 quota, .int .i64 body] := ⟨hS.keep hb2, hbx, hS.zb.lt (by simp)⟩
      have hD1 := ((hD0.put 7 (by simp) (.int .i64 r)).put 8 (by simp) (.int .i64 q)).put 9 (by simp) (.int .i64 1)
      simp only [List.set_cons_succ, List.set_cons_zero] at hD1
      have hD1 := hD1.keep (Below.refl _ _).drew
      obtain ⟨W3, hW3⟩ : ∃ W3, (((W2.setCell ⟨W1.heap.size, 7, none⟩ (.int .i64 r)).setCell ⟨W1.heap.size, 8, none⟩ (.int .i64 q)).setCell ⟨W1.heap.size, 9, none⟩ (.int .i64 1)).drew = W3 := ⟨_, rfl⟩
      rw [hW3] at hD1
      have HD1 := Lib.hid hD1
      have e0 : (baseC ⟨n, f, dmin, dmax, rho, slew, round, window, attend, seen, hist, fly, quota, body⟩ j).cells A l k = [.int .i64 n, .slice A l k, .int .i64 f, .int .i64 dmin, .int .i64 dmax, .int .i64 rho, .int .i64 slew, .int .i64 r, .int .i64 q, .int .i64 1, .int .i64 seen, .int .i64 hist, .int .i64 fly, .int .i64 quota, .int .i64 body] := by show ([.int .i64 n, .slice A l k, .int .i64 f, .int .i64 dmin, .int .i64 dmax, .int .i64 rho, .int .i64 slew, .int .i64 (2 ^ j), .int .i64 (2 ^ (j - 2)), .int .i64 1, .int .i64 seen, .int .i64 hist, .int .i64 fly, .int .i64 quota, .int .i64 body] : List Value) = _; rw [hr, hq]
      have hce : (stepC ⟨n, f, dmin, dmax, rho, slew, round, window, attend, seen, hist, fly, quota, body⟩ j).cells A l k = [.int .i64 n, .slice A l k, .int .i64 f, .int .i64 dmin, .int .i64 dmax, .int .i64 rho, .int .i64 slew, .int .i64 r, .int .i64 q, .int .i64 (2 * bDelta (baseC ⟨n, f, dmin, dmax, rho, slew, round, window, attend, seen, hist, fly, quota, body⟩ j)), .int .i64 seen, .int .i64 hist, .int .i64 fly, .int .i64 quota, .int .i64 body] := by show ([.int .i64 n, .slice A l k, .int .i64 f, .int .i64 dmin, .int .i64 dmax, .int .i64 rho, .int .i64 slew, .int .i64 (2 ^ j), .int .i64 (2 ^ (j - 2)), .int .i64 (2 * bDelta (baseC ⟨n, f, dmin, dmax, rho, slew, round, window, attend, seen, hist, fly, quota, body⟩ j)), .int .i64 seen, .int .i64 hist, .int .i64 fly, .int .i64 quota, .int .i64 body] : List Value) = _; rw [hr, hq]
      have C1 := CO.out j
      have C2 := CB.out j
      have C3 := CE.out j
      simp only [e0] at C1 C2
      simp only [hce] at C3
      unfold OfPost bCells at C1
      have hdl := HDL.out j
      generalize bHops (baseC ⟨n, f, dmin, dmax, rho, slew, round, window, attend, seen, hist, fly, quota, body⟩ j) = hops at *
      generalize bFast (baseC ⟨n, f, dmin, dmax, rho, slew, round, window, attend, seen, hist, fly, quota, body⟩ j) = fast at *
      generalize bSlow (baseC ⟨n, f, dmin, dmax, rho, slew, round, window, attend, seen, hist, fly, quota, body⟩ j) = slow at *
      generalize bLink (baseC ⟨n, f, dmin, dmax, rho, slew, round, window, attend, seen, hist, fly, quota, body⟩ j) = link at *
      generalize bRead (baseC ⟨n, f, dmin, dmax, rho, slew, round, window, attend, seen, hist, fly, quota, body⟩ j) = read at *
      generalize bAgree (baseC ⟨n, f, dmin, dmax, rho, slew, round, window, attend, seen, hist, fly, quota, body⟩ j) = agree at *
      generalize bStart (baseC ⟨n, f, dmin, dmax, rho, slew, round, window, attend, seen, hist, fly, quota, body⟩ j) = start at *
      generalize bEps (baseC ⟨n, f, dmin, dmax, rho, slew, round, window, attend, seen, hist, fly, quota, body⟩ j) = eps at *
      generalize bMost (baseC ⟨n, f, dmin, dmax, rho, slew, round, window, attend, seen, hist, fly, quota, body⟩ j) = most at *
      generalize bCold (baseC ⟨n, f, dmin, dmax, rho, slew, round, window, attend, seen, hist, fly, quota, body⟩ j) = cold at *
      generalize bRough (baseC ⟨n, f, dmin, dmax, rho, slew, round, window, attend, seen, hist, fly, quota, body⟩ j) = rough at *
      generalize bDelta (baseC ⟨n, f, dmin, dmax, rho, slew, round, window, attend, seen, hist, fly, quota, body⟩ j) = delta at *
      generalize bDown (baseC ⟨n, f, dmin, dmax, rho, slew, round, window, attend, seen, hist, fly, quota, body⟩ j) = down at *
      generalize bJoin (baseC ⟨n, f, dmin, dmax, rho, slew, round, window, attend, seen, hist, fly, quota, body⟩ j) = join at *
      have hGB := (HGB.out j hj1 hlt).trans HGD.out
      rw [hGB] at C1 C2 hdl
      have HGBB := Lib.hid hGB
      have HC1 := Lib.hid C1
      have HC2 := Lib.hid C2
      have HC3 := Lib.hid C3
      have HCE := Lib.hid hce
      have hD := hD1.bx
      have d0 := hD.1 0 _ rfl
      have d1 := hD.1 1 _ rfl
      have d2 := hD.1 2 _ rfl
      have d3 := hD.1 3 _ rfl
      have d4 := hD.1 4 _ rfl
      have d5 := hD.1 5 _ rfl
      have d6 := hD.1 6 _ rfl
      have d7 := hD.1 7 _ rfl
      have d8 := hD.1 8 _ rfl
      have d9 := hD.1 9 _ rfl
      have d10 := hD.1 10 _ rfl
      have d11 := hD.1 11 _ rfl
      have d12 := hD.1 12 _ rfl
      have d13 := hD.1 13 _ rfl
      have d14 := hD.1 14 _ rfl
      go_wp2_with fail
      clear hS hb2 hbx hD0 hD1 hr hq hsug hW2 C1 C2 C3 e0 hce hGB c0 c1 c2 c3 c4 c5 c6 c7 c8 c9 c10 c11 c12 c13 c14
      go_region
      clear e7 e8 e9 f7 f8 f9 hs1 hs2
      go_wp2_with fail
      refine (HC2.out (by first | rfl | trivial) _).mono ?_
      rintro e w4 ⟨rfl, hb4⟩
      clear d0 d1 d2 d3 d4 d5 d6 d7 d8 d9 d10 d11 d12 d13 d14
      have HV : Hid (sugC ⟨n, f, dmin, dmax, rho, slew, round, window, attend, seen, hist, fly, quota, body⟩ = ⟨n, f, dmin, dmax, rho, slew, round, window, attend, seen, hist, fly, quota, body⟩) := HBAD.out ((HGB.out j hj1 hlt).symm.trans HGBB.out)
      obtain ⟨W5, hW5⟩ : ∃ W5, w4.alloc (.cells zero14.toArray 98) = W5 := ⟨_, rfl⟩
      have hb5 : Below w4.heap.size w4 W5 := by rw [← hW5]; exact (Below.refl _ _).alloc (Nat.le_refl _) _
      have hbz : BoxF W5 w4.heap.size zero14 := by rw [← hW5]; exact boxF_made _ _ _
      have hlt4 : w.heap.size + 1 < w4.heap.size := (HD1.out.keep hb4).s.zb.lt (by simp)
      have hS5 := SgS.storeN hlt4 zero14 _ 0 ((HD1.out.s.keep hb4).keep hb5)
      have za0 := hbz.1 0 _ rfl
      have zb0 := hbz.2 0 (by simp [zero14])
      have za1 := hbz.1 1 _ rfl
      have zb1 := hbz.2 1 (by simp [zero14])
      have za2 := hbz.1 2 _ rfl
      have zb2 := hbz.2 2 (by simp [zero14])
      have za3 := hbz.1 3 _ rfl
      have zb3 := hbz.2 3 (by simp [zero14])
      have za4 := hbz.1 4 _ rfl
      have zb4 := hbz.2 4 (by simp [zero14])
      have za5 := hbz.1 5 _ rfl
      have zb5 := hbz.2 5 (by simp [zero14])
      have za6 := hbz.1 6 _ rfl
      have zb6 := hbz.2 6 (by simp [zero14])
      have za7 := hbz.1 7 _ rfl
      have zb7 := hbz.2 7 (by simp [zero14])
      have za8 := hbz.1 8 _ rfl
      have zb8 := hbz.2 8 (by simp [zero14])
      have za9 := hbz.1 9 _ rfl
      have zb9 := hbz.2 9 (by simp [zero14])
      have za10 := hbz.1 10 _ rfl
      have zb10 := hbz.2 10 (by simp [zero14])
      have za11 := hbz.1 11 _ rfl
      have zb11 := hbz.2 11 (by simp [zero14])
      have za12 := hbz.1 12 _ rfl
      have zb12 := hbz.2 12 (by simp [zero14])
      have za13 := hbz.1 13 _ rfl
      have zb13 := hbz.2 13 (by simp [zero14])
      obtain ⟨W6, hW6⟩ : ∃ W6, storeN w4.heap.size W5 zero14 0 = W6 := ⟨_, rfl⟩
      rw [hW6] at hS5
      simp only [storeN, zero14, Nat.reduceAdd] at hW6
      clear hb4 hb5 hW3 hD hbz
      have d0 := hS5.cfg.1 0 _ rfl
      have d1 := hS5.cfg.1 1 _ rfl
      have d2 := hS5.cfg.1 2 _ rfl
      have d3 := hS5.cfg.1 3 _ rfl
      have d4 := hS5.cfg.1 4 _ rfl
      have d5 := hS5.cfg.1 5 _ rfl
      have d6 := hS5.cfg.1 6 _ rfl
      have d7 := hS5.cfg.1 7 _ rfl
      have d8 := hS5.cfg.1 8 _ rfl
      have d9 := hS5.cfg.1 9 _ rfl
      have d10 := hS5.cfg.1 10 _ rfl
      have d11 := hS5.cfg.1 11 _ rfl
      have d12 := hS5.cfg.1 12 _ rfl
      have d13 := hS5.cfg.1 13 _ rfl
      have d14 := hS5.cfg.1 14 _ rfl
      have zb := hS5.zb
      have zbel := hS5.bel
      have zs0 := zb.1 0 _ rfl
      have zf0 := zb.2 0 (by simp)
      have zs1 := zb.1 1 _ rfl
      have zf1 := zb.2 1 (by simp)
      have zs2 := zb.1 2 _ rfl
      have zf2 := zb.2 2 (by simp)
      have zs3 := zb.1 3 _ rfl
      have zf3 := zb.2 3 (by simp)
      have zs4 := zb.1 4 _ rfl
      have zf4 := zb.2 4 (by simp)
      have zs5 := zb.1 5 _ rfl
      have zf5 := zb.2 5 (by simp)
      have zs6 := zb.1 6 _ rfl
      have zf6 := zb.2 6 (by simp)
      have zs7 := zb.1 7 _ rfl
      have zf7 := zb.2 7 (by simp)
      have zs8 := zb.1 8 _ rfl
      have zf8 := zb.2 8 (by simp)
      have zs9 := zb.1 9 _ rfl
      have zf9 := zb.2 9 (by simp)
      have zs10 := zb.1 10 _ rfl
      have zf10 := zb.2 10 (by simp)
      have zs11 := zb.1 11 _ rfl
      have zf11 := zb.2 11 (by simp)
      have zs12 := zb.1 12 _ rfl
      have zf12 := zb.2 12 (by simp)
      have zs13 := zb.1 13 _ rfl
      have zf13 := zb.2 13 (by simp)
      have zs14 := zb.1 14 _ rfl
      have zf14 := zb.2 14 (by simp)
      have zp := storeN_box (w.heap.size + 1) [.int .i64 n, .slice A l k, .int .i64 f, .int .i64 dmin, .int .i64 dmax, .int .i64 rho, .int .i64 slew, .int .i64 round, .int .i64 window, .int .i64 attend, .int .i64 seen, .int .i64 hist, .int .i64 fly, .int .i64 quota, .int .i64 body] W6 [] [.int .i64 0, .slice none 0 0, .int .i64 0, .int .i64 0, .int .i64 0, .int .i64 0, .int .i64 0, .int .i64 0, .int .i64 0, .int .i64 0, .int .i64 0, .int .i64 0, .int .i64 0, .int .i64 0, .int .i64 0] rfl zb
      have zq := storeN_below (N := w.heap.size) (w.heap.size + 1) (by omega) [.int .i64 n, .slice A l k, .int .i64 f, .int .i64 dmin, .int .i64 dmax, .int .i64 rho, .int .i64 slew, .int .i64 round, .int .i64 window, .int .i64 attend, .int .i64 seen, .int .i64 hist, .int .i64 fly, .int .i64 quota, .int .i64 body] w W6 0 zbel
      obtain ⟨wf, hwf⟩ : ∃ wf, storeN (w.heap.size + 1) W6 [.int .i64 n, .slice A l k, .int .i64 f, .int .i64 dmin, .int .i64 dmax, .int .i64 rho, .int .i64 slew, .int .i64 round, .int .i64 window, .int .i64 attend, .int .i64 seen, .int .i64 hist, .int .i64 fly, .int .i64 quota, .int .i64 body] 0 = wf := ⟨_, rfl⟩
      rw [show ([] : List Value).length = 0 from rfl, List.nil_append, hwf] at zp
      rw [hwf] at zq
      simp only [storeN, Nat.reduceAdd] at hwf
      have ef0 := zp.1 0 _ rfl
      have ef1 := zp.1 1 _ rfl
      have ef2 := zp.1 2 _ rfl
      have ef3 := zp.1 3 _ rfl
      have ef4 := zp.1 4 _ rfl
      have ef5 := zp.1 5 _ rfl
      have ef6 := zp.1 6 _ rfl
      have ef7 := zp.1 7 _ rfl
      have ef8 := zp.1 8 _ rfl
      have ef9 := zp.1 9 _ rfl
      have ef10 := zp.1 10 _ rfl
      have ef11 := zp.1 11 _ rfl
      have ef12 := zp.1 12 _ rfl
      have ef13 := zp.1 13 _ rfl
      have ef14 := zp.1 14 _ rfl
      have HB := Lib.hid zq
      clear zb zp zq zbel hS5
      go_wp2
      refine bodyPost_ret (v := .tuple #[.agg #[.int .i64 n, .slice A l k, .int .i64 f, .int .i64 dmin, .int .i64 dmax, .int .i64 rho, .int .i64 slew, .int .i64 round, .int .i64 window, .int .i64 attend, .int .i64 seen, .int .i64 hist, .int .i64 fly, .int .i64 quota, .int .i64 body], .bool false]) (by simp [results, Tryd.results31, go_sem, hz, hsz, ef0, ef1, ef2, ef3, ef4, ef5, ef6, ef7, ef8, ef9, ef10, ef11, ef12, ef13, ef14]) rfl ?_
      exact ⟨⟨false, by rw [HV.out] <;> rfl⟩, HB.out⟩
    · omega
set_option maxHeartbeats 6400000 in
theorem boundSuggest1 (c : Cn) (hgd : goodC (baseC c 12) = true) (A : Option Addr) (l k : Nat) (w : World) : Calls Tryd.prog 31 #[.agg (c.cells A l k).toArray] w (SugPost c A l k w) := by
  obtain ⟨hz, hsz⟩ := zero_of_info (show (Tryd.prog.info? 24).map (fun i => (i.zero, i.size)) = some (some (.agg #[.int .i64 0, .slice none 0 0, .int .i64 0, .int .i64 0, .int .i64 0, .int .i64 0, .int .i64 0, .int .i64 0, .int .i64 0, .int .i64 0, .int .i64 0, .int .i64 0, .int .i64 0, .int .i64 0, .int .i64 0]), 15) by kernel_rfl)
  have HSUG : Hid (sugC c = sugF c (41 - 12) 12) := rfl
  have CO := Lib.hid (fun (j : Nat) (hg : goodC (baseC c j) = true) W => boundOf (baseC c j) hg A l k W)
  have CB := Lib.hid (fun (j : Nat) (hg : goodC (baseC c j) = false) W => boundOfBad (baseC c j) hg A l k W)
  have CE := Lib.hid (fun (j : Nat) W => boundEnough (stepC c j) A l k W)
  have HBAD := Lib.hid (fun (h : goodC (baseC c 12) = false) => sug_bad h 29 12 (by omega) (by omega))
  have HST := Lib.hid (fun (j : Nat) (h : j ≤ 40) => sug_step (c := c) h)
  have HDL := Lib.hid (fun (j : Nat) (h : goodC (baseC c j) = true) => step_delta h)
  have HGB := Lib.hid (fun (j : Nat) (h1 : 12 ≤ j) (h2 : j ≤ 40) => good_base (c := c) h1 h2 (show 12 ≤ 12 by omega) (show 12 ≤ 40 by omega))
  have HGD := Lib.hid hgd
  clear hgd
  obtain ⟨cs, hcs⟩ : ∃ cs, c.cells A l k = cs := ⟨_, rfl⟩
  obtain ⟨n, f, dmin, dmax, rho, slew, round, window, attend, seen, hist, fly, quota, body⟩ := c
  have k0 := boxF_made w [.int .i64 n, .slice A l k, .int .i64 f, .int .i64 dmin, .int .i64 dmax, .int .i64 rho, .int .i64 slew, .int .i64 round, .int .i64 window, .int .i64 attend, .int .i64 seen, .int .i64 hist, .int .i64 fly, .int .i64 quota, .int .i64 body] 24
  have k1 := (Below.refl w.heap.size w).alloc (Nat.le_refl _) (.cells #[.int .i64 n, .slice A l k, .int .i64 f, .int .i64 dmin, .int .i64 dmax, .int .i64 rho, .int .i64 slew, .int .i64 round, .int .i64 window, .int .i64 attend, .int .i64 seen, .int .i64 hist, .int .i64 fly, .int .i64 quota, .int .i64 body] 24)
  obtain ⟨w1, hw1⟩ : ∃ w1, w.alloc (.cells #[.int .i64 n, .slice A l k, .int .i64 f, .int .i64 dmin, .int .i64 dmax, .int .i64 rho, .int .i64 slew, .int .i64 round, .int .i64 window, .int .i64 attend, .int .i64 seen, .int .i64 hist, .int .i64 fly, .int .i64 quota, .int .i64 body] 24) = w1 := ⟨_, rfl⟩
  have hs1 : w1.heap.size = w.heap.size + 1 := by rw [← hw1]; simp
  rw [hw1] at k0 k1
  have k2 := boxF_made w1 [.int .i64 0, .slice none 0 0, .int .i64 0, .int .i64 0, .int .i64 0, .int .i64 0, .int .i64 0, .int .i64 0, .int .i64 0, .int .i64 0, .int .i64 0, .int .i64 0, .int .i64 0, .int .i64 0, .int .i64 0] 24
  have HS := Lib.hid (show SgS w (w1.alloc (.cells #[.int .i64 0, .slice none 0 0, .int .i64 0, .int .i64 0, .int .i64 0, .int .i64 0, .int .i64 0, .int .i64 0, .int .i64 0, .int .i64 0, .int .i64 0, .int .i64 0, .int .i64 0, .int .i64 0, .int .i64 0] 24)) [.int .i64 n, .slice A l k, .int .i64 f, .int .i64 dmin, .int .i64 dmax, .int .i64 rho, .int .i64 slew, .int .i64 round, .int .i64 window, .int .i64 attend, .int .i64 seen, .int .i64 hist, .int .i64 fly, .int .i64 quota, .int .i64 body] from ⟨k0.keep ((Below.refl _ _).alloc (Nat.le_refl _) _), by rw [← hs1]; exact k2, k1.alloc (by omega) _⟩)
  clear k0 k1 k2 hcs
  go_enter Tryd.func31, Tryd.ntmps31
  go_wp2
  go_loopw [4] (fun i wr => ∃ j : Nat, 12 ≤ j ∧ j ≤ 41 ∧ i = .int .i64 j ∧ sugF ⟨n, f, dmin, dmax, rho, slew, round, window, attend, seen, hist, fly, quota, body⟩ (41 - j) j = sugC ⟨n, f, dmin, dmax, rho, slew, round, window, attend, seen, hist, fly, quota, body⟩ ∧ SgS w wr [.int .i64 n, .slice A l k, .int .i64 f, .int .i64 dmin, .int .i64 dmax, .int .i64 rho, .int .i64 slew, .int .i64 round, .int .i64 window, .int .i64 attend, .int .i64 seen, .int .i64 hist, .int .i64 fly, .int .i64 quota, .int .i64 body]) (fun i _ => 41 - (intOf i).toNat)
  case atStart => exact ⟨12, by omega, by omega, rfl, rfl, HS.out⟩
  case round =>
    obtain ⟨j, hj1, hj2, rfl, hsug, hS⟩ := hrel
    obtain ⟨W1, rfl⟩ : ∃ W1, W1 = wr := ⟨_, rfl⟩
    clear HS
    by_cases hlt : j ≤ 40
    · have c0 := hS.cfg.1 0 _ rfl
      have c1 := hS.cfg.1 1 _ rfl
      have c2 := hS.cfg.1 2 _ rfl
      have c3 := hS.cfg.1 3 _ rfl
      have c4 := hS.cfg.1 4 _ rfl
      have c5 := hS.cfg.1 5 _ rfl
      have c6 := hS.cfg.1 6 _ rfl
      have c7 := hS.cfg.1 7 _ rfl
      have c8 := hS.cfg.1 8 _ rfl
      have c9 := hS.cfg.1 9 _ rfl
      have c10 := hS.cfg.1 10 _ rfl
      have c11 := hS.cfg.1 11 _ rfl
      have c12 := hS.cfg.1 12 _ rfl
      have c13 := hS.cfg.1 13 _ rfl
      have c14 := hS.cfg.1 14 _ rfl
      obtain ⟨W2, hW2⟩ : ∃ W2, W1.alloc (.cells #[.int .i64 n, .slice A l k, .int .i64 f, .int .i64 dmin, .int .i64 dmax, .int .i64 rho, .int .i64 slew, .int .i64 round, .int .i64 window, .int .i64 attend, .int .i64 seen, .int .i64 hist, .int .i64 fly, .int .i64 quota, .int .i64 body] 24) = W2 := ⟨_, rfl⟩
      have hb2 : Below W1.heap.size W1 W2 := by rw [← hW2]; exact (Below.refl _ _).alloc (Nat.le_refl _) _
      have hbx : BoxF W2 W1.heap.size [.int .i64 n, .slice A l k, .int .i64 f, .int .i64 dmin, .int .i64 dmax, .int .i64 rho, .int .i64 slew, .int .i64 round, .int .i64 window, .int .i64 attend, .int .i64 seen, .int .i64 hist, .int .i64 fly, .int .i64 quota, .int .i64 body] := by rw [← hW2]; exact boxF_made _ _ _
      obtain ⟨r, hr⟩ : ∃ r, (2 : Int) ^ j = r := ⟨_, rfl⟩
      obtain ⟨q, hq⟩ : ∃ q, (2 : Int) ^ (j - 2) = q := ⟨_, rfl⟩
      have hpf := pow_fit hj1 hlt
      have hpq := pow_four (k := j) (by omega)
      rw [hr] at hpf hpq
      rw [hq] at hpq
      replace hpq := hpq.symm
      have hs1 : IntKind.i64.wrap (2 ^ j) = r := by rw [hr]; exact IntWalk.i64_in _ (by omega)
      have hs2 : IntKind.i64.wrap (2 ^ ((j : Int) - 2).toNat) = q := by rw [show ((j : Int) - 2).toNat = j - 2 by omega, hq]; exact IntWalk.i64_in _ (by omega)
      have e7 := hbx.1 7 _ rfl
      have e8 := hbx.1 8 _ rfl
      have e9 := hbx.1 9 _ rfl
      have f7 := hbx.2 7 (by simp)
      have f8 := hbx.2 8 (by simp)
      have f9 := hbx.2 9 (by simp)
      have HSG := Lib.hid hsug
      have hD0 : SgD w W2 [.int .i64 n, .slice A l k, .int .i64 f, .int .i64 dmin, .int .i64 dmax, .int .i64 rho, .int .i64 slew, .int .i64 round, .int .i64 window, .int .i64 attend, .int .i64 seen, .int .i64 hist, .int .i64 fly, .int .i64 quota, .int .i64 body] W1.heap.size [.int .i64 n, .slice A l k, .int .i64 f, .int .i64 dmin, .int .i64 dmax, .int .i64 rho, .int .i64 slew, .int .i64 round, .int .i64 window, .int .i64 attend, .int .i64 seen, .int .i64 hist, .int .i64 fly, .int .i64 quota, .int .i64 body] := ⟨hS.keep hb2, hbx, hS.zb.lt (by simp)⟩
      have hD1 := ((hD0.put 7 (by simp) (.int .i64 r)).put 8 (by simp) (.int .i64 q)).put 9 (by simp) (.int .i64 1)
      simp only [List.set_cons_succ, List.set_cons_zero] at hD1
      have hD1 := hD1.keep (Below.refl _ _).drew
      obtain ⟨W3, hW3⟩ : ∃ W3, (((W2.setCell ⟨W1.heap.size, 7, none⟩ (.int .i64 r)).setCell ⟨W1.heap.size, 8, none⟩ (.int .i64 q)).setCell ⟨W1.heap.size, 9, none⟩ (.int .i64 1)).drew = W3 := ⟨_, rfl⟩
      rw [hW3] at hD1
      have HD1 := Lib.hid hD1
      have e0 : (baseC ⟨n, f, dmin, dmax, rho, slew, round, window, attend, seen, hist, fly, quota, body⟩ j).cells A l k = [.int .i64 n, .slice A l k, .int .i64 f, .int .i64 dmin, .int .i64 dmax, .int .i64 rho, .int .i64 slew, .int .i64 r, .int .i64 q, .int .i64 1, .int .i64 seen, .int .i64 hist, .int .i64 fly, .int .i64 quota, .int .i64 body] := by show ([.int .i64 n, .slice A l k, .int .i64 f, .int .i64 dmin, .int .i64 dmax, .int .i64 rho, .int .i64 slew, .int .i64 (2 ^ j), .int .i64 (2 ^ (j - 2)), .int .i64 1, .int .i64 seen, .int .i64 hist, .int .i64 fly, .int .i64 quota, .int .i64 body] : List Value) = _; rw [hr, hq]
      have hce : (stepC ⟨n, f, dmin, dmax, rho, slew, round, window, attend, seen, hist, fly, quota, body⟩ j).cells A l k = [.int .i64 n, .slice A l k, .int .i64 f, .int .i64 dmin, .int .i64 dmax, .int .i64 rho, .int .i64 slew, .int .i64 r, .int .i64 q, .int .i64 (2 * bDelta (baseC ⟨n, f, dmin, dmax, rho, slew, round, window, attend, seen, hist, fly, quota, body⟩ j)), .int .i64 seen, .int .i64 hist, .int .i64 fly, .int .i64 quota, .int .i64 body] := by show ([.int .i64 n, .slice A l k, .int .i64 f, .int .i64 dmin, .int .i64 dmax, .int .i64 rho, .int .i64 slew, .int .i64 (2 ^ j), .int .i64 (2 ^ (j - 2)), .int .i64 (2 * bDelta (baseC ⟨n, f, dmin, dmax, rho, slew, round, window, attend, seen, hist, fly, quota, body⟩ j)), .int .i64 seen, .int .i64 hist, .int .i64 fly, .int .i64 quota, .int .i64 body] : List Value) = _; rw [hr, hq]
      have C1 := CO.out j
      have C2 := CB.out j
      have C3 := CE.out j
      simp only [e0] at C1 C2
      simp only [hce] at C3
      unfold OfPost bCells at C1
      have hdl := HDL.out j
      generalize bHops (baseC ⟨n, f, dmin, dmax, rho, slew, round, window, attend, seen, hist, fly, quota, body⟩ j) = hops at *
      generalize bFast (baseC ⟨n, f, dmin, dmax, rho, slew, round, window, attend, seen, hist, fly, quota, body⟩ j) = fast at *
      generalize bSlow (baseC ⟨n, f, dmin, dmax, rho, slew, round, window, attend, seen, hist, fly, quota, body⟩ j) = slow at *
      generalize bLink (baseC ⟨n, f, dmin, dmax, rho, slew, round, window, attend, seen, hist, fly, quota, body⟩ j) = link at *
      generalize bRead (baseC ⟨n, f, dmin, dmax, rho, slew, round, window, attend, seen, hist, fly, quota, body⟩ j) = read at *
      generalize bAgree (baseC ⟨n, f, dmin, dmax, rho, slew, round, window, attend, seen, hist, fly, quota, body⟩ j) = agree at *
      generalize bStart (baseC ⟨n, f, dmin, dmax, rho, slew, round, window, attend, seen, hist, fly, quota, body⟩ j) = start at *
      generalize bEps (baseC ⟨n, f, dmin, dmax, rho, slew, round, window, attend, seen, hist, fly, quota, body⟩ j) = eps at *
      generalize bMost (baseC ⟨n, f, dmin, dmax, rho, slew, round, window, attend, seen, hist, fly, quota, body⟩ j) = most at *
      generalize bCold (baseC ⟨n, f, dmin, dmax, rho, slew, round, window, attend, seen, hist, fly, quota, body⟩ j) = cold at *
      generalize bRough (baseC ⟨n, f, dmin, dmax, rho, slew, round, window, attend, seen, hist, fly, quota, body⟩ j) = rough at *
      generalize bDelta (baseC ⟨n, f, dmin, dmax, rho, slew, round, window, attend, seen, hist, fly, quota, body⟩ j) = delta at *
      generalize bDown (baseC ⟨n, f, dmin, dmax, rho, slew, round, window, attend, seen, hist, fly, quota, body⟩ j) = down at *
      generalize bJoin (baseC ⟨n, f, dmin, dmax, rho, slew, round, window, attend, seen, hist, fly, quota, body⟩ j) = join at *
      have hGB := (HGB.out j hj1 hlt).trans HGD.out
      rw [hGB] at C1 C2 hdl
      have HGBB := Lib.hid hGB
      have HC1 := Lib.hid C1
      have HC2 := Lib.hid C2
      have HC3 := Lib.hid C3
      have HCE := Lib.hid hce
      have hD := hD1.bx
      have d0 := hD.1 0 _ rfl
      have d1 := hD.1 1 _ rfl
      have d2 := hD.1 2 _ rfl
      have d3 := hD.1 3 _ rfl
      have d4 := hD.1 4 _ rfl
      have d5 := hD.1 5 _ rfl
      have d6 := hD.1 6 _ rfl
      have d7 := hD.1 7 _ rfl
      have d8 := hD.1 8 _ rfl
      have d9 := hD.1 9 _ rfl
      have d10 := hD.1 10 _ rfl
      have d11 := hD.1 11 _ rfl
      have d12 := hD.1 12 _ rfl
      have d13 := hD.1 13 _ rfl
      have d14 := hD.1 14 _ rfl
      go_wp2_with fail
      clear hS hb2 hbx hD0 hD1 hr hq hsug hW2 C1 C2 C3 e0 hce hGB c0 c1 c2 c3 c4 c5 c6 c7 c8 c9 c10 c11 c12 c13 c14
      go_region
      clear e7 e8 e9 f7 f8 f9 hs1 hs2
      go_wp2_with fail
      refine (HC1.out (by first | rfl | trivial) _).mono ?_
      rintro e w4 ⟨rfl, hb4⟩
      clear d0 d1 d2 d3 d4 d5 d6 d7 d8 d9 d10 d11 d12 d13 d14
      obtain ⟨dl0, dl1⟩ := hdl (by first | rfl | trivial)
      obtain ⟨W5, hW5⟩ : ∃ W5, w4.alloc (.cells #[.int .i64 hops, .int .i64 fast, .int .i64 slow, .int .i64 link, .int .i64 read, .int .i64 agree, .int .i64 start, .int .i64 eps, .int .i64 most, .int .i64 cold, .int .i64 rough, .int .i64 delta, .int .i64 down, .int .i64 join] 98) = W5 := ⟨_, rfl⟩
      have hb5 : Below w4.heap.size w4 W5 := by rw [← hW5]; exact (Below.refl _ _).alloc (Nat.le_refl _) _
      have hbb : BoxF W5 w4.heap.size [.int .i64 hops, .int .i64 fast, .int .i64 slow, .int .i64 link, .int .i64 read, .int .i64 agree, .int .i64 start, .int .i64 eps, .int .i64 most, .int .i64 cold, .int .i64 rough, .int .i64 delta, .int .i64 down, .int .i64 join] := by rw [← hW5]; exact boxF_made _ _ _
      have hD5 := (HD1.out.keep hb4).keep hb5
      have hD6 := hD5.put 9 (by simp) (.int .i64 (2 * delta))
      simp only [List.set_cons_succ, List.set_cons_zero] at hD6
      obtain ⟨W6, hW6⟩ : ∃ W6, W5.setCell ⟨W1.heap.size, 9, none⟩ (.int .i64 (2 * delta)) = W6 := ⟨_, rfl⟩
      rw [hW6] at hD6
      have HD6 := Lib.hid hD6
      have g9 := hD5.bx.1 9 _ rfl
      have k9 := hD5.bx.2 9 (by simp)
      have g11 := hbb.1 11 _ rfl
      have zd : IntKind.i64.wrap (2 * delta) = 2 * delta := IntWalk.i64_in _ (by omega)
      have hD := hD6.bx
      clear hb4 hb5 hW3 hbb hD5 hD6 hdl
      have d0 := hD.1 0 _ rfl; have d1 := hD.1 1 _ rfl; have d2 := hD.1 2 _ rfl; have d3 := hD.1 3 _ rfl; have d4 := hD.1 4 _ rfl; have d5 := hD.1 5 _ rfl; have d6 := hD.1 6 _ rfl; have d7 := hD.1 7 _ rfl; have d8 := hD.1 8 _ rfl; have d9 := hD.1 9 _ rfl; have d10 := hD.1 10 _ rfl; have d11 := hD.1 11 _ rfl; have d12 := hD.1 12 _ rfl; have d13 := hD.1 13 _ rfl; have d14 := hD.1 14 _ rfl
      go_wp2_with fail
      obtain ⟨EB, hEB⟩ : ∃ b, enoughB (stepC ⟨n, f, dmin, dmax, rho, slew, round, window, attend, seen, hist, fly, quota, body⟩ j) = b := ⟨_, rfl⟩
      refine (HC3.out _).mono ?_
      rintro e w7 ⟨rfl, hb7⟩
      clear d0 d1 d2 d3 d4 d5 d6 d7 d8 d9 d10 d11 d12 d13 d14 g9 k9 g11 hW5 hW6 hD zd
      have hD7 := HD6.out.keep hb7
      have hst := HST.out j hlt
      rw [HSG.out] at hst
      rw [hEB] at hst ⊢
      have HD7 := Lib.hid hD7
      clear hb7 hEB
      cases EB
      · have HV : Hid (sugF ⟨n, f, dmin, dmax, rho, slew, round, window, attend, seen, hist, fly, quota, body⟩ (41 - (j + 1)) (j + 1) = sugC ⟨n, f, dmin, dmax, rho, slew, round, window, attend, seen, hist, fly, quota, body⟩) := hst.symm
        clear hD7 hst
        go_wp2
        go_roundw
        case rel => exact ⟨j + 1, by omega, by omega, by go_num, HV.out, HD7.out.s⟩
        case measure => simp [intOf]; omega
      · have HV : Hid (sugC ⟨n, f, dmin, dmax, rho, slew, round, window, attend, seen, hist, fly, quota, body⟩ = stepC ⟨n, f, dmin, dmax, rho, slew, round, window, attend, seen, hist, fly, quota, body⟩ j) := hst
        have hD := hD7.bx
        have hS7 := hD7.s
        clear hD7 hst
        have d0 := hD.1 0 _ rfl; have d1 := hD.1 1 _ rfl; have d2 := hD.1 2 _ rfl; have d3 := hD.1 3 _ rfl; have d4 := hD.1 4 _ rfl; have d5 := hD.1 5 _ rfl; have d6 := hD.1 6 _ rfl; have d7 := hD.1 7 _ rfl; have d8 := hD.1 8 _ rfl; have d9 := hD.1 9 _ rfl; have d10 := hD.1 10 _ rfl; have d11 := hD.1 11 _ rfl; have d12 := hD.1 12 _ rfl; have d13 := hD.1 13 _ rfl; have d14 := hD.1 14 _ rfl
        have zb := hS7.zb
        have zbel := hS7.bel
        have zs0 := zb.1 0 _ rfl
        have zf0 := zb.2 0 (by simp)
        have zs1 := zb.1 1 _ rfl
        have zf1 := zb.2 1 (by simp)
        have zs2 := zb.1 2 _ rfl
        have zf2 := zb.2 2 (by simp)
        have zs3 := zb.1 3 _ rfl
        have zf3 := zb.2 3 (by simp)
        have zs4 := zb.1 4 _ rfl
        have zf4 := zb.2 4 (by simp)
        have zs5 := zb.1 5 _ rfl
        have zf5 := zb.2 5 (by simp)
        have zs6 := zb.1 6 _ rfl
        have zf6 := zb.2 6 (by simp)
        have zs7 := zb.1 7 _ rfl
        have zf7 := zb.2 7 (by simp)
        have zs8 := zb.1 8 _ rfl
        have zf8 := zb.2 8 (by simp)
        have zs9 := zb.1 9 _ rfl
        have zf9 := zb.2 9 (by simp)
        have zs10 := zb.1 10 _ rfl
        have zf10 := zb.2 10 (by simp)
        have zs11 := zb.1 11 _ rfl
        have zf11 := zb.2 11 (by simp)
        have zs12 := zb.1 12 _ rfl
        have zf12 := zb.2 12 (by simp)
        have zs13 := zb.1 13 _ rfl
        have zf13 := zb.2 13 (by simp)
        have zs14 := zb.1 14 _ rfl
        have zf14 := zb.2 14 (by simp)
        have zp := storeN_box (w.heap.size + 1) [.int .i64 n, .slice A l k, .int .i64 f, .int .i64 dmin, .int .i64 dmax, .int .i64 rho, .int .i64 slew, .int .i64 r, .int .i64 q, .int .i64 (2 * delta), .int .i64 seen, .int .i64 hist, .int .i64 fly, .int .i64 quota, .int .i64 body] w7 [] [.int .i64 0, .slice none 0 0, .int .i64 0, .int .i64 0, .int .i64 0, .int .i64 0, .int .i64 0, .int .i64 0, .int .i64 0, .int .i64 0, .int .i64 0, .int .i64 0, .int .i64 0, .int .i64 0, .int .i64 0] rfl zb
        have zq := storeN_below (N := w.heap.size) (w.heap.size + 1) (by omega) [.int .i64 n, .slice A l k, .int .i64 f, .int .i64 dmin, .int .i64 dmax, .int .i64 rho, .int .i64 slew, .int .i64 r, .int .i64 q, .int .i64 (2 * delta), .int .i64 seen, .int .i64 hist, .int .i64 fly, .int .i64 quota, .int .i64 body] w w7 0 zbel
        obtain ⟨wf, hwf⟩ : ∃ wf, storeN (w.heap.size + 1) w7 [.int .i64 n, .slice A l k, .int .i64 f, .int .i64 dmin, .int .i64 dmax, .int .i64 rho, .int .i64 slew, .int .i64 r, .int .i64 q, .int .i64 (2 * delta), .int .i64 seen, .int .i64 hist, .int .i64 fly, .int .i64 quota, .int .i64 body] 0 = wf := ⟨_, rfl⟩
        rw [show ([] : List Value).length = 0 from rfl, List.nil_append, hwf] at zp
        rw [hwf] at zq
        simp only [storeN, Nat.reduceAdd] at hwf
        have ef0 := zp.1 0 _ rfl
        have ef1 := zp.1 1 _ rfl
        have ef2 := zp.1 2 _ rfl
        have ef3 := zp.1 3 _ rfl
        have ef4 := zp.1 4 _ rfl
        have ef5 := zp.1 5 _ rfl
        have ef6 := zp.1 6 _ rfl
        have ef7 := zp.1 7 _ rfl
        have ef8 := zp.1 8 _ rfl
        have ef9 := zp.1 9 _ rfl
        have ef10 := zp.1 10 _ rfl
        have ef11 := zp.1 11 _ rfl
        have ef12 := zp.1 12 _ rfl
        have ef13 := zp.1 13 _ rfl
        have ef14 := zp.1 14 _ rfl
        have HB := Lib.hid zq
        clear zb zp zq zbel hS7
        go_wp2
        refine bodyPost_ret (v := .tuple #[.agg #[.int .i64 n, .slice A l k, .int .i64 f, .int .i64 dmin, .int .i64 dmax, .int .i64 rho, .int .i64 slew, .int .i64 r, .int .i64 q, .int .i64 (2 * delta), .int .i64 seen, .int .i64 hist, .int .i64 fly, .int .i64 quota, .int .i64 body], .bool true]) (by simp [results, Tryd.results31, go_sem, hz, hsz, ef0, ef1, ef2, ef3, ef4, ef5, ef6, ef7, ef8, ef9, ef10, ef11, ef12, ef13, ef14]) rfl ?_
        exact ⟨⟨true, by rw [HV.out, HCE.out]⟩, HB.out⟩
    · obtain rfl : j = 41 := by omega
      have HV : Hid (sugC ⟨n, f, dmin, dmax, rho, slew, round, window, attend, seen, hist, fly, quota, body⟩ = ⟨n, f, dmin, dmax, rho, slew, round, window, attend, seen, hist, fly, quota, body⟩) := hsug.symm
      have d0 := hS.cfg.1 0 _ rfl
      have d1 := hS.cfg.1 1 _ rfl
      have d2 := hS.cfg.1 2 _ rfl
      have d3 := hS.cfg.1 3 _ rfl
      have d4 := hS.cfg.1 4 _ rfl
      have d5 := hS.cfg.1 5 _ rfl
      have d6 := hS.cfg.1 6 _ rfl
      have d7 := hS.cfg.1 7 _ rfl
      have d8 := hS.cfg.1 8 _ rfl
      have d9 := hS.cfg.1 9 _ rfl
      have d10 := hS.cfg.1 10 _ rfl
      have d11 := hS.cfg.1 11 _ rfl
      have d12 := hS.cfg.1 12 _ rfl
      have d13 := hS.cfg.1 13 _ rfl
      have d14 := hS.cfg.1 14 _ rfl
      have zb := hS.zb
      have zbel := hS.bel
      have zs0 := zb.1 0 _ rfl
      have zf0 := zb.2 0 (by simp)
      have zs1 := zb.1 1 _ rfl
      have zf1 := zb.2 1 (by simp)
      have zs2 := zb.1 2 _ rfl
      have zf2 := zb.2 2 (by simp)
      have zs3 := zb.1 3 _ rfl
      have zf3 := zb.2 3 (by simp)
      have zs4 := zb.1 4 _ rfl
      have zf4 := zb.2 4 (by simp)
      have zs5 := zb.1 5 _ rfl
      have zf5 := zb.2 5 (by simp)
      have zs6 := zb.1 6 _ rfl
      have zf6 := zb.2 6 (by simp)
      have zs7 := zb.1 7 _ rfl
      have zf7 := zb.2 7 (by simp)
      have zs8 := zb.1 8 _ rfl
      have zf8 := zb.2 8 (by simp)
      have zs9 := zb.1 9 _ rfl
      have zf9 := zb.2 9 (by simp)
      have zs10 := zb.1 10 _ rfl
      have zf10 := zb.2 10 (by simp)
      have zs11 := zb.1 11 _ rfl
      have zf11 := zb.2 11 (by simp)
      have zs12 := zb.1 12 _ rfl
      have zf12 := zb.2 12 (by simp)
      have zs13 := zb.1 13 _ rfl
      have zf13 := zb.2 13 (by simp)
      have zs14 := zb.1 14 _ rfl
      have zf14 := zb.2 14 (by simp)
      have zp := storeN_box (w.heap.size + 1) [.int .i64 n, .slice A l k, .int .i64 f, .int .i64 dmin, .int .i64 dmax, .int .i64 rho, .int .i64 slew, .int .i64 round, .int .i64 window, .int .i64 attend, .int .i64 seen, .int .i64 hist, .int .i64 fly, .int .i64 quota, .int .i64 body] W1 [] [.int .i64 0, .slice none 0 0, .int .i64 0, .int .i64 0, .int .i64 0, .int .i64 0, .int .i64 0, .int .i64 0, .int .i64 0, .int .i64 0, .int .i64 0, .int .i64 0, .int .i64 0, .int .i64 0, .int .i64 0] rfl zb
      have zq := storeN_below (N := w.heap.size) (w.heap.size + 1) (by omega) [.int .i64 n, .slice A l k, .int .i64 f, .int .i64 dmin, .int .i64 dmax, .int .i64 rho, .int .i64 slew, .int .i64 round, .int .i64 window, .int .i64 attend, .int .i64 seen, .int .i64 hist, .int .i64 fly, .int .i64 quota, .int .i64 body] w W1 0 zbel
      obtain ⟨wf, hwf⟩ : ∃ wf, storeN (w.heap.size + 1) W1 [.int .i64 n, .slice A l k, .int .i64 f, .int .i64 dmin, .int .i64 dmax, .int .i64 rho, .int .i64 slew, .int .i64 round, .int .i64 window, .int .i64 attend, .int .i64 seen, .int .i64 hist, .int .i64 fly, .int .i64 quota, .int .i64 body] 0 = wf := ⟨_, rfl⟩
      rw [show ([] : List Value).length = 0 from rfl, List.nil_append, hwf] at zp
      rw [hwf] at zq
      simp only [storeN, Nat.reduceAdd] at hwf
      have ef0 := zp.1 0 _ rfl
      have ef1 := zp.1 1 _ rfl
      have ef2 := zp.1 2 _ rfl
      have ef3 := zp.1 3 _ rfl
      have ef4 := zp.1 4 _ rfl
      have ef5 := zp.1 5 _ rfl
      have ef6 := zp.1 6 _ rfl
      have ef7 := zp.1 7 _ rfl
      have ef8 := zp.1 8 _ rfl
      have ef9 := zp.1 9 _ rfl
      have ef10 := zp.1 10 _ rfl
      have ef11 := zp.1 11 _ rfl
      have ef12 := zp.1 12 _ rfl
      have ef13 := zp.1 13 _ rfl
      have ef14 := zp.1 14 _ rfl
      have HB := Lib.hid zq
      clear zb zp zq zbel hS
      go_wp2
      refine bodyPost_ret (v := .tuple #[.agg #[.int .i64 n, .slice A l k, .int .i64 f, .int .i64 dmin, .int .i64 dmax, .int .i64 rho, .int .i64 slew, .int .i64 round, .int .i64 window, .int .i64 attend, .int .i64 seen, .int .i64 hist, .int .i64 fly, .int .i64 quota, .int .i64 body], .bool false]) (by simp [results, Tryd.results31, go_sem, hz, hsz, ef0, ef1, ef2, ef3, ef4, ef5, ef6, ef7, ef8, ef9, ef10, ef11, ef12, ef13, ef14]) rfl ?_
      exact ⟨⟨false, by rw [HV.out] <;> rfl⟩, HB.out⟩
theorem boundSuggest (c : Cn) (A : Option Addr) (l k : Nat) (w : World) : Calls Tryd.prog 31 #[.agg (c.cells A l k).toArray] w (SugPost c A l k w) := by
  cases h : goodC (baseC c 12)
  · exact boundSuggest0 c h A l k w
  · exact boundSuggest1 c h A l k w
end Go.Proofs.YtpbfacabafkheaaDoor
