/- The chapter's example: works55. -/
import Derived.Test.YteahiphmhaedpaaGreatDoorStD
import Derived.Test.YteahiphmhaedpaaGreatDoorStC
import Derived.Test.YteahiphmhaedpaaGreatDoorCnF
import Derived.Test.YteahiphmhaedpaaGreatDoorCnD
import Derived.Test.YteahiphmhaedpaaGreatDoorWoC
import Derived.Test.YteahiphmhaedpaaGreatDoorRhE
namespace Go.Proofs.YteahiphmhaedpaaGreatDoor
open Go.RowKit Law
set_option linter.unusedVariables false
set_option linter.unusedSimpArgs false
set_option maxRecDepth 100000

def exC55 : Cn := sugC (smallC 3 1 1 0)
theorem ex55_ok : faultN exC55 (fullL 3) = 0 := by decide +kernel
theorem ex55_e0 : newErr exC55 (fullL 3) 0 = 0 := by decide +kernel
theorem ex55_e1 : newErr exC55 (fullL 3) 1 = 0 := by decide +kernel
theorem ex55_e2 : newErr exC55 (fullL 3) 2 = 0 := by decide +kernel
theorem ex55_n : exC55.n = 3 ∧ exC55.rho = 0 ∧ exC55.round = 131072 ∧ exC55.window = 32768 ∧ perEvery exC55.attend = 17424 ∧ bDelta exC55 = 8712 ∧ goodC exC55 = true := by decide +kernel
theorem ex55_len : (fullL 3).length = 3 := by decide +kernel
theorem tickI_up2 {ps : List PlV} {i : Nat} {p : PlV} (hp : ps[i]? = some p) (hn : ∃ n, p.nd = some n) : ∀ (k : Nat) {q : PlV}, (tickI ps k)[i]? = some q → ∃ n, q.nd = some n
  | 0, q, h => by rw [tickI, hp] at h; obtain rfl := Option.some.inj h; exact hn
  | k + 1, q, h => by
    rw [tickI, List.getElem?_map] at h
    obtain ⟨z, hz, rfl⟩ := Option.map_eq_some_iff.1 h
    obtain ⟨n, hn⟩ := tickI_up2 hp hn k hz
    exact ⟨n.ticked (z.at_ + 1024), by show (z.nd.map fun n => n.ticked (z.at_ + 1024)) = _; rw [hn]; rfl⟩
/-- What stats.Of asks of a cluster in which nothing was sent. -/
theorem stIn_of {w : World} {base W : Nat} {c : Cn} {A : Option Addr} {l k : Nat} {t : Int} {R cap : Nat} {ps : List PlV} {air : Nat} {ev : Value} {cr : Int} (h : WdAt w base W c A l k t R cap ps air ev cr) {m : Nat} (hm : ps.length = m) (h64 : m ≤ 64) (hall : ∀ (i : Nat) (p : PlV), ps[i]? = some p → ∃ n, p.nd = some n) : StIn w (pB W) (.slice none 0 0) t m 0 0 0 0 := by
  subst hm
  have hat : ∀ i : Nat, i < ps.length → ∃ p n, ps[i]? = some p ∧ p.nd = some n := fun i hi => by
    have hp := List.getElem?_eq_getElem hi
    obtain ⟨n, hn⟩ := hall i _ hp
    exact ⟨_, n, hp, hn⟩
  exact {
    now := fun X hX => worldNowT (h.below hX)
    sent := fun X hX => worldSentT (h.below hX)
    lost := fun X hX => worldLost (h.below hX)
    unf := fun X hX => worldUnfair (h.below hX)
    n := fun X hX => worldNT (h.below hX)
    up := fun i hi X hX => by obtain ⟨p, n, hp, hn⟩ := hat i hi; exact worldUpT (h.below hX) hp hn
    ph := fun i hi X hX => by obtain ⟨p, n, hp, hn⟩ := hat i hi; exact worldPhaseT (h.below hX) hp hn
    mem := fun i hi X hX => by obtain ⟨p, n, hp, hn⟩ := hat i hi; exact worldMemberT (h.below hX) hp hn
    ref := fun e he X hX => worldRefused (h.below hX) (by omega) e he
    cn1 := fun X _ => (traceCount0 1 X).mono fun e w' k => ⟨k.1, k.2 ▸ Below.refl _ _⟩
    cn2 := fun X _ => (traceCount0 2 X).mono fun e w' k => ⟨k.1, k.2 ▸ Below.refl _ _⟩
    cn4 := fun X _ => (traceCount0 4 X).mono fun e w' k => ⟨k.1, k.2 ▸ Below.refl _ _⟩
    cn6 := fun X _ => (traceCount0 6 X).mono fun e w' k => ⟨k.1, k.2 ▸ Below.refl _ _⟩ }
theorem st_one9 : ∀ v ∈ ([.int .i64 9, .int .i64 3, .int .i64 3, .int .i64 3, .int .i64 0, .int .i64 0, .int .i64 0, .int .i64 0, .int .i64 0, .int .i64 0, .int .i64 0, .int .i64 0, .int .i64 0, .int .i64 0, .int .i64 0, .int .i64 0, .int .i64 0, .int .i64 0, .int .i64 0, .int .i64 0, .int .i64 0, .int .i64 0, .int .i64 0, .int .i64 0, .int .i64 0, .int .i64 0, .int .i64 0, .int .i64 0, .int .i64 0, .int .i64 0, .int .i64 0, .int .i64 0] : List Value), v.oneCell' = true := by
  intro v hv
  simp at hv
  rcases hv with rfl | rfl | rfl <;> rfl
set_option maxHeartbeats 12800000 in
theorem works55 (w : World) (hT : T64 w) : Calls Tryz.prog 6 #[] w fun e w' => e = .returned (.bool true) ∧ Below w.heap.size w w' := by
  have CS := rSmall 3 1 1 0 w
  unfold SmallPost at CS
  rw [show (3 : Int).toNat = 3 from rfl, ex55_len, show sugC (smallC 3 1 1 0) = exC55 from rfl] at CS
  have CS := Lib.hid CS
  have HT := Lib.hid hT
  have hfit := full_fit (n := 3) (by omega)
  have hc := ex55_n
  have hok := ex55_ok
  have hIC : IdleC exC55 := by unfold IdleC; obtain ⟨h1, h2, h3, h4, h5, h6, h7⟩ := hc; omega
  have hE : ∀ i : Int, 0 ≤ i → i < exC55.n → newErr exC55 (fullL 3) i = 0 := fun i h0 h1 => by
    have hh : i = 0 ∨ i = 1 ∨ i = 2 := by have := hc.1; omega
    rcases hh with rfl | rfl | rfl
    · exact ex55_e0
    · exact ex55_e1
    · exact ex55_e2
  have HOK := Lib.hid hok
  have HNW := Lib.hid (fun (A1 : Option Addr) (k : Nat) (X : World) (hL : LinksAt X A1 (fullL 3)) (hT : T64 X) => wNewOk exC55 A1 3 k (fullL 3) ex55_len (by omega) hfit (by omega) (fun _ => by have := hc.1; omega) hok hE (by have := hc.1; omega) (by have := hc.1; omega) hIC X hL hT)
  have HO := Lib.hid (fun (A1 : Option Addr) (l1 k1 : Nat) (X : World) => boundOf exC55 hc.2.2.2.2.2.2 A1 l1 k1 X)
  have HC := Lib.hid hc
  unfold WNewPost at HNW
  unfold OfPost at HO
  have HO : Hid (∃ v0 v1 v2 v3 v4 v5 v6 v7 v8 v9 v10 dl v12 v13 : Int, dl = 8712 ∧ ∀ (A1 : Option Addr) (l1 k1 : Nat) (X : World), Calls Tryz.prog 44 #[.agg (exC55.cells A1 l1 k1).toArray] X fun e w' => e = .returned (.tuple #[.agg #[.int .i64 v0, .int .i64 v1, .int .i64 v2, .int .i64 v3, .int .i64 v4, .int .i64 v5, .int .i64 v6, .int .i64 v7, .int .i64 v8, .int .i64 v9, .int .i64 v10, .int .i64 dl, .int .i64 v12, .int .i64 v13], .int .i64 0]) ∧ Below X.heap.size X w') := ⟨_, _, _, _, _, _, _, _, _, _, _, _, _, _, hc.2.2.2.2.2.1, HO.out⟩
  clear hT hfit hc hok hIC hE
  obtain ⟨sc, hsc⟩ : ∃ sc, exC55 = sc := ⟨_, rfl⟩
  rw [hsc] at CS HNW HO HC HOK
  clear hsc
  obtain ⟨n, f, dmin, dmax, rho, slew, round, window, attend, seen, hist, fly, quota, body⟩ := sc
  simp only [Cn.cells] at CS HNW HO
  obtain ⟨v0, v1, v2, v3, v4, v5, v6, v7, v8, v9, v10, dl, v12, v13, hdl, HO2⟩ := HO.out
  clear HO
  have HO := fun (A1 : Option Addr) (l1 k1 : Nat) => Lib.hid (HO2 A1 l1 k1)
  have HDL := Lib.hid hdl
  clear HO2 hdl
  have HO := Lib.hid HO
  go_enter Tryz.func6, Tryz.ntmps6
  go_wp2_with fail
  refine CS.out.mono ?_
  rintro e w1 ⟨hb1, -, -, hgood⟩
  obtain ⟨A1, k, rfl, hLA, -⟩ := hgood (by omega) HOK.out
  have H1 := Lib.hid (And.intro hb1 (And.intro hLA (HT.out.below hb1)))
  clear hb1 hgood hLA
  have b2 := (Below.refl w1.heap.size w1).alloc (Nat.le_refl _) (.cells #[.int .i64 n, .slice A1 3 k, .int .i64 f, .int .i64 dmin, .int .i64 dmax, .int .i64 rho, .int .i64 slew, .int .i64 round, .int .i64 window, .int .i64 attend, .int .i64 seen, .int .i64 hist, .int .i64 fly, .int .i64 quota, .int .i64 body] 32)
  have k2 := boxF_made w1 [.int .i64 n, .slice A1 3 k, .int .i64 f, .int .i64 dmin, .int .i64 dmax, .int .i64 rho, .int .i64 slew, .int .i64 round, .int .i64 window, .int .i64 attend, .int .i64 seen, .int .i64 hist, .int .i64 fly, .int .i64 quota, .int .i64 body] 32
  obtain ⟨w2, hw2⟩ : ∃ x, w1.alloc (.cells #[.int .i64 n, .slice A1 3 k, .int .i64 f, .int .i64 dmin, .int .i64 dmax, .int .i64 rho, .int .i64 slew, .int .i64 round, .int .i64 window, .int .i64 attend, .int .i64 seen, .int .i64 hist, .int .i64 fly, .int .i64 quota, .int .i64 body] 32) = x := ⟨_, rfl⟩
  rw [hw2] at b2
  replace k2 : BoxF w2 w1.heap.size [.int .i64 n, .slice A1 3 k, .int .i64 f, .int .i64 dmin, .int .i64 dmax, .int .i64 rho, .int .i64 slew, .int .i64 round, .int .i64 window, .int .i64 attend, .int .i64 seen, .int .i64 hist, .int .i64 fly, .int .i64 quota, .int .i64 body] := hw2 ▸ k2
  have d0 := k2.1 0 _ rfl
  have d1 := k2.1 1 _ rfl
  have d2 := k2.1 2 _ rfl
  have d3 := k2.1 3 _ rfl
  have d4 := k2.1 4 _ rfl
  have d5 := k2.1 5 _ rfl
  have d6 := k2.1 6 _ rfl
  have d7 := k2.1 7 _ rfl
  have d8 := k2.1 8 _ rfl
  have d9 := k2.1 9 _ rfl
  have d10 := k2.1 10 _ rfl
  have d11 := k2.1 11 _ rfl
  have d12 := k2.1 12 _ rfl
  have d13 := k2.1 13 _ rfl
  have d14 := k2.1 14 _ rfl
  have H2 := Lib.hid (And.intro k2 (And.intro b2 (And.intro (H1.out.2.1.below b2) (H1.out.2.2.below b2))))
  clear k2 b2
  go_wp2_with fail
  clear hw2 d0 d1 d2 d3 d4 d5 d6 d7 d8 d9 d10 d11 d12 d13 d14
  refine (HNW.out A1 k w2 H2.out.2.2.1 H2.out.2.2.2).mono ?_
  rintro e w3 ⟨W, g, cp, R, cap, ps, air, rfl, hW3, hps, hfr, -, hb3⟩
  have hps3 : ps.length = 3 := by have h1 : n = 3 := HC.out.1; have h2 : (ps.length : Int) = n := hps; omega
  have hall : ∀ (i : Nat) (q : PlV), ps[i]? = some q → q.at_ = 0 := fun i q hq => (hfr q (List.mem_of_getElem? hq)).1
  have hup : ∀ (i : Nat) (q : PlV), (tickI ps 9)[i]? = some q → ∃ nd, q.nd = some nd := fun i q hq => by
    have hi : i < ps.length := by have := (List.getElem?_eq_some_iff.1 hq).1; rw [tickI_len] at this; exact this
    have hp := List.getElem?_eq_getElem hi
    exact tickI_up2 hp (hfr _ (List.mem_of_getElem? hp)).2.2 9 hq
  have hat9 : ∀ (i : Nat) (z : PlV), (tickI ps 9)[i]? = some z → z.at_ = 9216 := fun i z hz => by
    obtain ⟨p', hp', h1, _⟩ := tickI_at 9 hz
    rw [h1, hall i p' hp']; rfl
  have hround : round = 131072 := HC.out.2.2.1
  have hatt : perEvery attend = 17424 := HC.out.2.2.2.2.1
  have C4 := Lib.hid (actTick hW3 (by omega) 9 (by decide) (by decide) (by decide) (by decide) (by show round ≤ _; omega) (fun i z hz => by have := hall i z hz; unfold RoomI; show z.at_ + 1024 * ((9 : Nat) : Int) < round ∧ z.at_ + 1024 * ((9 : Nat) : Int) < perEvery attend; omega))
  have H3 := Lib.hid (And.intro hW3 (And.intro hps3 (And.intro hup (And.intro hat9 hb3))))
  clear hW3 hps hfr hb3 hps3 hall hup hat9 hround hatt
  go_wp2_with fail
  refine C4.out.mono ?_
  rintro e w4 ⟨rfl, hW4, F4⟩
  rw [show (0 : Int) + ((9 : Nat) : Int) = 9 from rfl] at hW4
  have hB4 : Below w2.heap.size w3 w4 := F4.below H3.out.1
  have hBA : Below w2.heap.size w2 w4 := H3.out.2.2.2.2.trans hB4
  have hlen : (tickI ps 9).length = 3 := by rw [tickI_len]; exact H3.out.2.1
  have C5 := Lib.hid (statsOf (stIn_of hW4 hlen (by decide) H3.out.2.2.1) (by decide))
  unfold StPost at C5
  have H4 := Lib.hid (And.intro hW4 (And.intro hlen (And.intro (H2.out.1.keep hBA) (H1.out.1.trans ((H2.out.2.1.trans (hBA.mono H2.out.2.1.size)).mono H1.out.1.size)))))
  clear hW4 F4 hB4 hBA hlen
  go_wp2_with fail
  refine C5.out.mono ?_
  rintro e w5 ⟨rfl, hb5⟩
  have HZB : Hid (w4.heap.size ≤ w5.heap.size) := hb5.size
  rw [show (stL 9 ((3 : Nat) : Int) 0 0 0 0) = [.int .i64 9, .int .i64 3, .int .i64 3, .int .i64 3, .int .i64 0, .int .i64 0, .int .i64 0, .int .i64 0, .int .i64 0, .int .i64 0, .int .i64 0, .int .i64 0, .int .i64 0, .int .i64 0, .int .i64 0, .int .i64 0, .int .i64 0, .int .i64 0, .int .i64 0, .int .i64 0, .int .i64 0, .int .i64 0, .int .i64 0, .int .i64 0, .int .i64 0, .int .i64 0, .int .i64 0, .int .i64 0, .int .i64 0, .int .i64 0, .int .i64 0, .int .i64 0] from rfl]
  have b6 := (Below.refl w5.heap.size w5).alloc (Nat.le_refl _) (.cells #[.int .i64 0, .int .i64 0, .int .i64 0, .int .i64 0, .int .i64 0, .int .i64 0, .int .i64 0, .int .i64 0, .int .i64 0, .int .i64 0, .int .i64 0, .int .i64 0, .int .i64 0, .int .i64 0, .int .i64 0, .int .i64 0, .int .i64 0, .int .i64 0, .int .i64 0, .int .i64 0, .int .i64 0, .int .i64 0, .int .i64 0, .int .i64 0, .int .i64 0, .int .i64 0, .int .i64 0, .int .i64 0, .int .i64 0, .int .i64 0, .int .i64 0, .int .i64 0] 25)
  have HZ := Lib.hid (And.intro (boxF_made w5 [.int .i64 0, .int .i64 0, .int .i64 0, .int .i64 0, .int .i64 0, .int .i64 0, .int .i64 0, .int .i64 0, .int .i64 0, .int .i64 0, .int .i64 0, .int .i64 0, .int .i64 0, .int .i64 0, .int .i64 0, .int .i64 0, .int .i64 0, .int .i64 0, .int .i64 0, .int .i64 0, .int .i64 0, .int .i64 0, .int .i64 0, .int .i64 0, .int .i64 0, .int .i64 0, .int .i64 0, .int .i64 0, .int .i64 0, .int .i64 0, .int .i64 0, .int .i64 0] 25) (hb5.trans (b6.mono hb5.size)))
  clear b6 hb5
  go_wp2_with (refine wp_boxStore rfl 25 _ _ rfl w5.heap.size [.int .i64 0, .int .i64 0, .int .i64 0, .int .i64 0, .int .i64 0, .int .i64 0, .int .i64 0, .int .i64 0, .int .i64 0, .int .i64 0, .int .i64 0, .int .i64 0, .int .i64 0, .int .i64 0, .int .i64 0, .int .i64 0, .int .i64 0, .int .i64 0, .int .i64 0, .int .i64 0, .int .i64 0, .int .i64 0, .int .i64 0, .int .i64 0, .int .i64 0, .int .i64 0, .int .i64 0, .int .i64 0, .int .i64 0, .int .i64 0, .int .i64 0, .int .i64 0] [.int .i64 9, .int .i64 3, .int .i64 3, .int .i64 3, .int .i64 0, .int .i64 0, .int .i64 0, .int .i64 0, .int .i64 0, .int .i64 0, .int .i64 0, .int .i64 0, .int .i64 0, .int .i64 0, .int .i64 0, .int .i64 0, .int .i64 0, .int .i64 0, .int .i64 0, .int .i64 0, .int .i64 0, .int .i64 0, .int .i64 0, .int .i64 0, .int .i64 0, .int .i64 0, .int .i64 0, .int .i64 0, .int .i64 0, .int .i64 0, .int .i64 0, .int .i64 0] rfl rfl HZ.out.1 rfl st_info st_one9 ?_; intro w6 k6 hs6 F6; have hb6 := HZ.out.2.trans (frB_below F6 HZB.out HZ.out.2.size); have q6 := H4.out.2.2.1.keep hb6; have s0 := k6.1 0 _ rfl; have s1 := k6.1 1 _ rfl; have s2 := k6.1 2 _ rfl; have s3 := k6.1 3 _ rfl; have g0 := q6.1 0 _ rfl; have g1 := q6.1 1 _ rfl; have g2 := q6.1 2 _ rfl; have g3 := q6.1 3 _ rfl; have g4 := q6.1 4 _ rfl; have g5 := q6.1 5 _ rfl; have g6 := q6.1 6 _ rfl; have g7 := q6.1 7 _ rfl; have g8 := q6.1 8 _ rfl; have g9 := q6.1 9 _ rfl; have g10 := q6.1 10 _ rfl; have g11 := q6.1 11 _ rfl; have g12 := q6.1 12 _ rfl; have g13 := q6.1 13 _ rfl; have g14 := q6.1 14 _ rfl; clear q6)
  obtain ⟨p0, hp0⟩ : ∃ p, (tickI ps 9)[0]? = some p := ⟨_, List.getElem?_eq_getElem (by rw [H4.out.2.1]; decide)⟩
  obtain ⟨p1, hp1⟩ : ∃ p, (tickI ps 9)[1]? = some p := ⟨_, List.getElem?_eq_getElem (by rw [H4.out.2.1]; decide)⟩
  obtain ⟨p2, hp2⟩ : ∃ p, (tickI ps 9)[2]? = some p := ⟨_, List.getElem?_eq_getElem (by rw [H4.out.2.1]; decide)⟩
  obtain ⟨n0, hn0⟩ := H3.out.2.2.1 0 p0 hp0
  obtain ⟨n1, hn1⟩ := H3.out.2.2.1 1 p1 hp1
  obtain ⟨n2, hn2⟩ := H3.out.2.2.1 2 p2 hp2
  have ha0 := H3.out.2.2.2.1 0 p0 hp0
  have ha1 := H3.out.2.2.2.1 1 p1 hp1
  have ha2 := H3.out.2.2.2.1 2 p2 hp2
  have hd : -1000000000000000 ≤ dl ∧ dl ≤ 1000000000000000 := by have := HDL.out; omega
  have HWd : Hid (∀ X, Below w6.heap.size w6 X → WdAt X _ _ _ _ _ _ _ _ _ (tickI ps 9) _ _ _) := fun X hX => (H4.out.1.below hb6).below hX
  have CA : Hid (∀ X, Below w6.heap.size w6 X → _) := fun X hX => statAgree (HWd.out X hX) hp0 hn0 hp2 hn2 n f dmin dmax rho slew round window attend seen hist fly quota body A1 3 k v0 v1 v2 v3 v4 v5 v6 v7 v8 v9 v10 dl v12 v13 (HO.out A1 3 k) hd (by omega) (by omega)
  have CB : Hid (∀ X, Below w6.heap.size w6 X → _) := fun X hX => statAlike (HWd.out X hX) hp0 hn0 hp2 hn2 n f dmin dmax rho slew round window attend seen hist fly quota body A1 3 k v0 v1 v2 v3 v4 v5 v6 v7 v8 v9 v10 dl v12 v13 (HO.out A1 3 k) hd (by omega) (by omega)
  have CC : Hid (∀ X, Below w6.heap.size w6 X → _) := fun X hX => statComplete (HWd.out X hX) hp1 hn1 n f dmin dmax rho slew round window attend seen hist fly quota body A1 3 k v0 v1 v2 v3 v4 v5 v6 v7 v8 v9 v10 dl v12 v13 (HO.out A1 3 k) hd (by omega)
  have H6 := Lib.hid (And.intro (H4.out.2.2.1.keep hb6) (H4.out.2.2.2.trans (hb6.mono H4.out.2.2.2.size)))
  clear k6 hs6 F6 hb6 hp0 hp1 hp2 hn0 hn1 hn2 ha0 ha1 ha2 hd
  clear s0 s1 s2 s3 g0 g1 g2 g3 g4 g5 g6 g7 g8 g9 g10 g11 g12 g13 g14
  refine (CA.out w6 (Below.refl _ _)).mono ?_
  rintro e w7 ⟨rfl, hb7⟩
  have q7 := H6.out.1.keep hb7
  have g0 := q7.1 0 _ rfl
  have g1 := q7.1 1 _ rfl
  have g2 := q7.1 2 _ rfl
  have g3 := q7.1 3 _ rfl
  have g4 := q7.1 4 _ rfl
  have g5 := q7.1 5 _ rfl
  have g6 := q7.1 6 _ rfl
  have g7 := q7.1 7 _ rfl
  have g8 := q7.1 8 _ rfl
  have g9 := q7.1 9 _ rfl
  have g10 := q7.1 10 _ rfl
  have g11 := q7.1 11 _ rfl
  have g12 := q7.1 12 _ rfl
  have g13 := q7.1 13 _ rfl
  have g14 := q7.1 14 _ rfl
  have H7 := Lib.hid hb7
  clear q7 hb7
  go_wp2_with fail
  clear g0 g1 g2 g3 g4 g5 g6 g7 g8 g9 g10 g11 g12 g13 g14
  refine (CB.out w7 H7.out).mono ?_
  rintro e w8 ⟨rfl, hb8⟩
  have H8 := Lib.hid (H7.out.trans (hb8.mono H7.out.size))
  have q8 := H6.out.1.keep H8.out
  have g0 := q8.1 0 _ rfl
  have g1 := q8.1 1 _ rfl
  have g2 := q8.1 2 _ rfl
  have g3 := q8.1 3 _ rfl
  have g4 := q8.1 4 _ rfl
  have g5 := q8.1 5 _ rfl
  have g6 := q8.1 6 _ rfl
  have g7 := q8.1 7 _ rfl
  have g8 := q8.1 8 _ rfl
  have g9 := q8.1 9 _ rfl
  have g10 := q8.1 10 _ rfl
  have g11 := q8.1 11 _ rfl
  have g12 := q8.1 12 _ rfl
  have g13 := q8.1 13 _ rfl
  have g14 := q8.1 14 _ rfl
  clear q8 hb8
  go_wp2_with fail
  clear g0 g1 g2 g3 g4 g5 g6 g7 g8 g9 g10 g11 g12 g13 g14
  refine (CC.out w8 H8.out).mono ?_
  rintro e w9 ⟨rfl, hb9⟩
  have HF : Hid (Below w.heap.size w w9) := H6.out.2.trans ((H8.out.trans (hb9.mono H8.out.size)).mono H6.out.2.size)
  clear hb9
  go_wp2
  go_ret
  exact ⟨rfl, HF.out⟩
end Go.Proofs.YteahiphmhaedpaaGreatDoor
