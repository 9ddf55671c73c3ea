/- A script that is run, and whether it is admissible: the chapter's example. -/
import Derived.Test.YtbgbehlmpheaeaaGreatDoorWoY
import Derived.Test.YtbgbehlmpheaeaaGreatDoorWoZ
import Derived.Test.YtbgbehlmpheaeaaGreatDoorWoC
import Derived.Test.YtbgbehlmpheaeaaGreatDoorCnD
namespace Go.Proofs.YtbgbehlmpheaeaaGreatDoor
open Go.RowKit Law
set_option linter.unusedVariables false
set_option linter.unusedSimpArgs false
set_option maxRecDepth 100000

theorem actsOf {w : World} {B : Nat} {xs : List Aw} (h : BoxAt w B (flatA xs)) (hb : ∀ x ∈ xs, x.a.b = []) : ActsAt w (some ⟨B, 0, none⟩) xs := fun i x hx =>
  ⟨B, 0, rfl, fun j v hj => by rw [Nat.zero_add]; exact h (i * 9 + j) v (flatA_at xs i x hx j v hj), by rw [hb x (List.mem_of_getElem? hx)]; exact U8At.nil _ _⟩
def awT (m : Int) : Aw := ⟨⟨1, 0, m, Fa0, []⟩, none, 0, 0⟩
def awC (i : Int) : Aw := ⟨⟨4, i, 0, Fa0, []⟩, none, 0, 0⟩
def awD (d : Int) : Aw := ⟨⟨2, 0, d, Fa0, []⟩, none, 0, 0⟩
def exC51 : Cn := sugC (smallC 3 1 1 0)
theorem ex51_ok : faultN exC51 (fullL 3) = 0 := by decide +kernel
theorem ex51_e0 : newErr exC51 (fullL 3) 0 = 0 := by decide +kernel
theorem ex51_e1 : newErr exC51 (fullL 3) 1 = 0 := by decide +kernel
theorem ex51_e2 : newErr exC51 (fullL 3) 2 = 0 := by decide +kernel
theorem ex51_n : exC51.n = 3 ∧ exC51.rho = 0 ∧ exC51.round = 131072 ∧ exC51.window = 32768 ∧ perEvery exC51.attend = 17424 := by decide +kernel
theorem ex51_s1 : statN exC51 (fullL 3) [awT 3, awC 0, awT 3] = 0 := by decide +kernel
theorem ex51_s2 : statN exC51 (fullL 3) [awC 0, awC 1] = 4 := by decide +kernel
theorem ex51_s3 : statN exC51 (fullL 3) [awD 1] = 3 := by decide +kernel
theorem ex51_len : (fullL 3).length = 3 := by decide +kernel
theorem tickI_up {ps : List PlV} {i : Nat} {p : PlV} (hp : ps[i]? = some p) (hn : ∃ n, p.nd = some n) : ∀ (k : Nat) {q : PlV}, (tickI ps k)[i]? = some q → ∃ n, q.nd = some n
  | 0, q, h => by rw [tickI, hp] at h; obtain rfl := Option.some.inj h; exact hn
  | k + 1, q, h => by
    rw [tickI, List.getElem?_map] at h
    obtain ⟨z, hz, rfl⟩ := Option.map_eq_some_iff.1 h
    obtain ⟨n, hn⟩ := tickI_up hp hn k hz
    exact ⟨n.ticked (z.at_ + 1024), by show (z.nd.map fun n => n.ticked (z.at_ + 1024)) = _; rw [hn]; rfl⟩
def AdmRPost (w : World) (e : Ending) (w' : World) : Prop := ∃ v, e = .returned (.tuple #[v, .int .i64 0]) ∧ Below w.heap.size w w'
set_option maxHeartbeats 12800000 in
theorem admRun51 {A1 : Option Addr} {k : Nat} {w : World} {R0 : Nat} (hL : LinksAt w A1 (fullL 3)) (hrow : BoxAt w R0 (flatA [awT 3, awC 0, awT 3])) (hT : T64 w) :
    Calls Tryz.prog 41 #[.agg (exC51.cells A1 3 k).toArray, .slice (some ⟨R0, 0, none⟩) 3 3] w (AdmRPost w) := by
  have hfit := full_fit (n := 3) (by omega)
  have hc := ex51_n
  have hok := ex51_ok
  have hst := ex51_s1
  have hIC : IdleC exC51 := by unfold IdleC; obtain ⟨h1, h2, h3, h4, h5⟩ := hc; omega
  have hE : ∀ i : Int, 0 ≤ i → i < exC51.n → newErr exC51 (fullL 3) i = 0 := fun i h0 h1 => by
    have hh : i = 0 ∨ i = 1 ∨ i = 2 := by have := hc.1; omega
    rcases hh with rfl | rfl | rfl
    · exact ex51_e0
    · exact ex51_e1
    · exact ex51_e2
  have hacts : ∀ W, Below w.heap.size w W → ActsAt W (some ⟨R0, 0, none⟩) [awT 3, awC 0, awT 3] := fun W hW => actsOf (hrow.keep hW) (by intro x hx; simp only [List.mem_cons, List.not_mem_nil, or_false] at hx; rcases hx with rfl | rfl | rfl <;> rfl)
  have HST := Lib.hid (fun (W : World) (hW : Below w.heap.size w W) => admStatic exC51 A1 3 k (fullL 3) ex51_len hfit (by omega) (fun _ => by have := hc.1; omega) (by have := hc.2.1; omega) (by have := hc.2.1; omega) (A := some ⟨R0, 0, none⟩) (xs := [awT 3, awC 0, awT 3]) (n := 3) (cp := 3) (by intro x hx; simp only [List.mem_cons, List.not_mem_nil, or_false] at hx; rcases hx with rfl | rfl | rfl <;> rfl) rfl (by omega) W (hL.below hW) (hacts W hW) (hT.below hW))
  unfold StatPost at HST
  rw [hst] at HST
  have HNW := Lib.hid (fun (W : World) (hW : Below w.heap.size w W) => wNewOk exC51 A1 3 k (fullL 3) ex51_len (by omega) hfit (by omega) (fun _ => by have := hc.1; omega) hok hE (by have := hc.1; omega) (by have := hc.1; omega) hIC W (hL.below hW) (hT.below hW))
  have HDY := Lib.hid (fun (W : World) {base W0 : Nat} {A : Option Addr} {l k' : Nat} {t : Int} {R cap : Nat} {ps : List PlV} {air : Nat} {ev : Value} {cr : Int} (h : WdAt W base W0 exC51 A l k' t R cap ps air ev cr) (hl : ps.length ≤ 64) => admDynamic0 h hl exC51 A1 3 k)
  have HC := Lib.hid hc
  have HROW := Lib.hid hrow
  have hRl : R0 < w.heap.size := World.block_lt_of_cell? _ _ (hrow 0 _ rfl)
  have HRL := Lib.hid hRl
  clear hL hrow hT hfit hc hok hst hIC hE hacts hRl
  obtain ⟨sc, hsc⟩ : ∃ sc, exC51 = sc := ⟨_, rfl⟩
  rw [hsc] at HST HNW HDY HC ⊢
  clear hsc
  unfold WNewPost at HNW
  obtain ⟨n, f, dmin, dmax, rho, slew, round, window, attend, seen, hist, fly, quota, body⟩ := sc
  simp only [Cn.cells] at HST HNW HDY ⊢
  have k1 := boxF_made w [.int .i64 n, .slice A1 3 k, .int .i64 f, .int .i64 dmin, .int .i64 dmax, .int .i64 rho, .int .i64 slew, .int .i64 round, .int .i64 window, .int .i64 attend, .int .i64 seen, .int .i64 hist, .int .i64 fly, .int .i64 quota, .int .i64 body] 24
  have b1 := (Below.refl w.heap.size w).alloc (Nat.le_refl _) (.cells #[.int .i64 n, .slice A1 3 k, .int .i64 f, .int .i64 dmin, .int .i64 dmax, .int .i64 rho, .int .i64 slew, .int .i64 round, .int .i64 window, .int .i64 attend, .int .i64 seen, .int .i64 hist, .int .i64 fly, .int .i64 quota, .int .i64 body] 24)
  obtain ⟨w1, hw1⟩ : ∃ w1, w.alloc (.cells #[.int .i64 n, .slice A1 3 k, .int .i64 f, .int .i64 dmin, .int .i64 dmax, .int .i64 rho, .int .i64 slew, .int .i64 round, .int .i64 window, .int .i64 attend, .int .i64 seen, .int .i64 hist, .int .i64 fly, .int .i64 quota, .int .i64 body] 24) = w1 := ⟨_, rfl⟩
  rw [hw1] at b1
  replace k1 : BoxF w1 w.heap.size [.int .i64 n, .slice A1 3 k, .int .i64 f, .int .i64 dmin, .int .i64 dmax, .int .i64 rho, .int .i64 slew, .int .i64 round, .int .i64 window, .int .i64 attend, .int .i64 seen, .int .i64 hist, .int .i64 fly, .int .i64 quota, .int .i64 body] := hw1 ▸ k1
  have d0_ := k1.1 0 _ rfl
  have d1_ := k1.1 1 _ rfl
  have d2_ := k1.1 2 _ rfl
  have d3_ := k1.1 3 _ rfl
  have d4_ := k1.1 4 _ rfl
  have d5_ := k1.1 5 _ rfl
  have d6_ := k1.1 6 _ rfl
  have d7_ := k1.1 7 _ rfl
  have d8_ := k1.1 8 _ rfl
  have d9_ := k1.1 9 _ rfl
  have d10_ := k1.1 10 _ rfl
  have d11_ := k1.1 11 _ rfl
  have d12_ := k1.1 12 _ rfl
  have d13_ := k1.1 13 _ rfl
  have d14_ := k1.1 14 _ rfl
  have H1 := Lib.hid (And.intro k1 b1)
  clear k1 b1
  go_enter Tryz.func41, Tryz.ntmps41
  go_wp2_with fail
  clear hw1 d0_ d1_ d2_ d3_ d4_ d5_ d6_ d7_ d8_ d9_ d10_ d11_ d12_ d13_ d14_
  refine (HST.out w1 H1.out.2).mono ?_
  rintro e w2 ⟨rfl, hb2⟩
  have H2 := Lib.hid (And.intro (H1.out.1.keep hb2) (H1.out.2.trans (hb2.mono H1.out.2.size)))
  have k2 := H2.out.1
  have e0_ := k2.1 0 _ rfl
  have e1_ := k2.1 1 _ rfl
  have e2_ := k2.1 2 _ rfl
  have e3_ := k2.1 3 _ rfl
  have e4_ := k2.1 4 _ rfl
  have e5_ := k2.1 5 _ rfl
  have e6_ := k2.1 6 _ rfl
  have e7_ := k2.1 7 _ rfl
  have e8_ := k2.1 8 _ rfl
  have e9_ := k2.1 9 _ rfl
  have e10_ := k2.1 10 _ rfl
  have e11_ := k2.1 11 _ rfl
  have e12_ := k2.1 12 _ rfl
  have e13_ := k2.1 13 _ rfl
  have e14_ := k2.1 14 _ rfl
  clear hb2 k2
  go_wp2_with fail
  clear e0_ e1_ e2_ e3_ e4_ e5_ e6_ e7_ e8_ e9_ e10_ e11_ e12_ e13_ e14_
  refine (HNW.out w2 H2.out.2).mono ?_
  rintro e w3 ⟨W, g, cp, R, cap, ps, air, rfl, hW3, hps, hfr, -, hb3⟩
  have hps3 : ps.length = 3 := by have h1 : n = 3 := HC.out.1; have h2 : (ps.length : Int) = n := hps; omega
  obtain ⟨p, hp⟩ : ∃ p, ps[0]? = some p := ⟨_, List.getElem?_eq_getElem (by omega)⟩
  obtain ⟨pa, pd, pn⟩ := hfr p (List.mem_of_getElem? hp)
  have hall : ∀ (i : Nat) (q : PlV), ps[i]? = some q → q.at_ = 0 := fun i q hq => (hfr q (List.mem_of_getElem? hq)).1
  obtain ⟨q, hq⟩ : ∃ q, (tickI ps 3)[0]? = some q := ⟨_, List.getElem?_eq_getElem (by rw [tickI_len]; omega)⟩
  obtain ⟨nq, hnq⟩ := tickI_up hp pn 3 hq
  have hqd : q.downs = 0 := by
    obtain ⟨p', hp', _, _, _, _, _, h6⟩ := tickI_at 3 hq
    rw [hp] at hp'
    obtain rfl := Option.some.inj hp'
    rw [h6]; exact pd
  have hat3 : ∀ (i : Nat) (z : PlV), (tickI ps 3)[i]? = some z → z.at_ = 3072 := fun i z hz => by
    obtain ⟨p', hp', h1, _⟩ := tickI_at 3 hz
    rw [h1, hall i p' hp']; rfl
  have hround : round = 131072 := HC.out.2.2.1
  have hatt : perEvery attend = 17424 := HC.out.2.2.2.2
  have C4 := worldRun3 hW3 rfl rfl (by omega) 3 3 (by decide) (by decide) (by decide) (by decide) (by decide) (by show (0 : Int) < n; have h1 : n = 3 := HC.out.1; omega) (by decide) (by decide) (by show round ≤ _; omega)
    (fun i z hz => by have := hall i z hz; unfold RoomI; show z.at_ + 1024 * ((3 : Nat) : Int) < round ∧ z.at_ + 1024 * ((3 : Nat) : Int) < perEvery attend; omega) hq hnq hqd
    (fun i z hz => by
      have h1 : z.at_ = 3072 := by
        by_cases e : i = 0
        · subst e
          rw [List.getElem?_set_self (List.getElem?_eq_some_iff.1 hq).1] at hz
          obtain rfl := Option.some.inj hz
          exact hat3 0 q hq
        · rw [List.getElem?_set_ne (Ne.symm e)] at hz
          exact hat3 i z hz
      unfold RoomI
      show z.at_ + 1024 * ((3 : Nat) : Int) < round ∧ z.at_ + 1024 * ((3 : Nat) : Int) < perEvery attend
      omega)
    (R0 := R0) ((HROW.out.keep H2.out.2).keep (hb3.mono (Nat.le_refl _))) (by have := hW3.bW; have := H2.out.2.size; have := HRL.out; omega) (fun i z hz => .inl (by have := hW3.oW i z hz; have := hW3.bW; have := H2.out.2.size; have := HRL.out; omega))
  have HC4 := Lib.hid C4
  have H3 := Lib.hid (And.intro (H2.out.1.keep hb3) (And.intro (H2.out.2.trans (hb3.mono H2.out.2.size)) (And.intro hW3 (And.intro hps3 hq))))
  clear hW3 hps hfr hb3 hps3 hp pa pd pn hall hq hnq hqd hat3 hround hatt C4
  go_wp2_with fail
  refine HC4.out.mono ?_
  rintro e w5 ⟨rfl, ev, cr, hW5, F5⟩
  have hB5 : Below w2.heap.size w3 w5 := F5.below H3.out.2.2.1
  have k5 : BoxF w5 w.heap.size [.int .i64 n, .slice A1 3 k, .int .i64 f, .int .i64 dmin, .int .i64 dmax, .int .i64 rho, .int .i64 slew, .int .i64 round, .int .i64 window, .int .i64 attend, .int .i64 seen, .int .i64 hist, .int .i64 fly, .int .i64 quota, .int .i64 body] := H3.out.1.same (hB5.block _ (H2.out.1.lt (by simp)))
  have C6 := Lib.hid (HDY.out w5 hW5 (by rw [tickI_len, List.length_set, tickI_len]; have := H3.out.2.2.2.1; omega))
  have H5 : Hid (Below w.heap.size w w5) := H3.out.2.1.trans (hB5.mono H2.out.2.size)
  have f0_ := k5.1 0 _ rfl
  have f1_ := k5.1 1 _ rfl
  have f2_ := k5.1 2 _ rfl
  have f3_ := k5.1 3 _ rfl
  have f4_ := k5.1 4 _ rfl
  have f5_ := k5.1 5 _ rfl
  have f6_ := k5.1 6 _ rfl
  have f7_ := k5.1 7 _ rfl
  have f8_ := k5.1 8 _ rfl
  have f9_ := k5.1 9 _ rfl
  have f10_ := k5.1 10 _ rfl
  have f11_ := k5.1 11 _ rfl
  have f12_ := k5.1 12 _ rfl
  have f13_ := k5.1 13 _ rfl
  have f14_ := k5.1 14 _ rfl
  clear hW5 F5 hB5 k5
  go_wp2_with fail
  clear f0_ f1_ f2_ f3_ f4_ f5_ f6_ f7_ f8_ f9_ f10_ f11_ f12_ f13_ f14_
  refine C6.out.mono ?_
  rintro e w6 ⟨rfl, hb6⟩
  have HF : Hid (Below w.heap.size w w6) := H5.out.trans (hb6.mono H5.out.size)
  clear hb6
  go_wp2
  go_ret2
  exact ⟨_, rfl, HF.out⟩
set_option maxHeartbeats 3200000 in
theorem admIs51 {A1 : Option Addr} {k : Nat} {w : World} {R0 : Nat} (hL : LinksAt w A1 (fullL 3)) (hrow : BoxAt w R0 (flatA [awT 3, awC 0, awT 3])) (hT : T64 w) :
    Calls Tryz.prog 23 #[.agg (exC51.cells A1 3 k).toArray, .slice (some ⟨R0, 0, none⟩) 3 3] w fun e w' => e = .returned (.bool true) ∧ Below w.heap.size w w' := by
  have C0 := fun (W : World) (hW : Below w.heap.size w W) => admRun51 (k := k) (hL.below hW) (hrow.keep hW) (hT.below hW)
  unfold AdmRPost at C0
  have C0 := Lib.hid C0
  clear hL hrow hT
  obtain ⟨sc, hsc⟩ : ∃ sc, exC51 = sc := ⟨_, rfl⟩
  rw [hsc] at C0 ⊢
  clear hsc
  obtain ⟨n, f, dmin, dmax, rho, slew, round, window, attend, seen, hist, fly, quota, body⟩ := sc
  simp only [Cn.cells] at C0 ⊢
  have k1 := boxF_made w [.int .i64 n, .slice A1 3 k, .int .i64 f, .int .i64 dmin, .int .i64 dmax, .int .i64 rho, .int .i64 slew, .int .i64 round, .int .i64 window, .int .i64 attend, .int .i64 seen, .int .i64 hist, .int .i64 fly, .int .i64 quota, .int .i64 body] 24
  have b1 := (Below.refl w.heap.size w).alloc (Nat.le_refl _) (.cells #[.int .i64 n, .slice A1 3 k, .int .i64 f, .int .i64 dmin, .int .i64 dmax, .int .i64 rho, .int .i64 slew, .int .i64 round, .int .i64 window, .int .i64 attend, .int .i64 seen, .int .i64 hist, .int .i64 fly, .int .i64 quota, .int .i64 body] 24)
  obtain ⟨w1, hw1⟩ : ∃ w1, w.alloc (.cells #[.int .i64 n, .slice A1 3 k, .int .i64 f, .int .i64 dmin, .int .i64 dmax, .int .i64 rho, .int .i64 slew, .int .i64 round, .int .i64 window, .int .i64 attend, .int .i64 seen, .int .i64 hist, .int .i64 fly, .int .i64 quota, .int .i64 body] 24) = w1 := ⟨_, rfl⟩
  rw [hw1] at b1
  replace k1 : BoxF w1 w.heap.size [.int .i64 n, .slice A1 3 k, .int .i64 f, .int .i64 dmin, .int .i64 dmax, .int .i64 rho, .int .i64 slew, .int .i64 round, .int .i64 window, .int .i64 attend, .int .i64 seen, .int .i64 hist, .int .i64 fly, .int .i64 quota, .int .i64 body] := hw1 ▸ k1
  have d0_ := k1.1 0 _ rfl
  have d1_ := k1.1 1 _ rfl
  have d2_ := k1.1 2 _ rfl
  have d3_ := k1.1 3 _ rfl
  have d4_ := k1.1 4 _ rfl
  have d5_ := k1.1 5 _ rfl
  have d6_ := k1.1 6 _ rfl
  have d7_ := k1.1 7 _ rfl
  have d8_ := k1.1 8 _ rfl
  have d9_ := k1.1 9 _ rfl
  have d10_ := k1.1 10 _ rfl
  have d11_ := k1.1 11 _ rfl
  have d12_ := k1.1 12 _ rfl
  have d13_ := k1.1 13 _ rfl
  have d14_ := k1.1 14 _ rfl
  have HB := Lib.hid b1
  clear k1 b1
  go_enter Tryz.func23, Tryz.ntmps23
  go_wp2_with fail
  refine (C0.out w1 HB.out).mono ?_
  rintro e w2 ⟨v, rfl, hb2⟩
  have HF : Hid (Below w.heap.size w w2) := HB.out.trans (hb2.mono HB.out.size)
  clear hb2 hw1 d0_ d1_ d2_ d3_ d4_ d5_ d6_ d7_ d8_ d9_ d10_ d11_ d12_ d13_ d14_
  go_wp2
  go_ret
  exact ⟨rfl, HF.out⟩
end Go.Proofs.YtbgbehlmpheaeaaGreatDoor
