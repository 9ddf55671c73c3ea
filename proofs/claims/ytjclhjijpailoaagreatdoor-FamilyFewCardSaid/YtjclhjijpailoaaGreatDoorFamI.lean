/- The small clusters of the statements of layer 53. -/
import Derived.Test.YtjclhjijpailoaaGreatDoorFam
import Derived.Test.YtjclhjijpailoaaGreatDoorFamP
namespace Go.Proofs.YtjclhjijpailoaaGreatDoor
open Go.RowKit Law
set_option linter.unusedVariables false
set_option linter.unusedSimpArgs false
set_option maxRecDepth 100000

theorem sugF_f (c : Cn) : ∀ (f k : Nat), (sugF c f k).f = c.f
  | 0, k => rfl
  | f + 1, k => by
    show (if enoughB (stepC c k) then stepC c k else sugF c f (k + 1)).f = c.f
    split
    · rfl
    · exact sugF_f c f (k + 1)
theorem sugC_f (c : Cn) : (sugC c).f = c.f := sugF_f c 29 12
theorem small_all : ∀ a : Nat, a < 3 → ∀ f : Nat, f < 3 → ∀ x : Nat, x < 2 → ∀ y : Nat, y < 2 → f < min (2 + a) 3 → faultN (sugC (smallC ((2 + a : Nat) : Int) (f : Int) (1 + (x : Int)) (y : Int))) (fullL (2 + a)) = 0 := by decide +kernel
theorem full_len : ∀ a : Nat, a < 3 → (fullL (2 + a)).length ≤ 6 := by decide +kernel
def SmPost (w : World) (e : Ending) (w' : World) : Prop := ∃ c L A kk, faultN c L = 0 ∧ c.n ≤ 4 ∧ 0 ≤ c.f ∧ (∀ x ∈ L, PrF x) ∧ L.length ≤ 6 ∧ e = .returned (.agg (c.cells A L.length kk).toArray) ∧ LinksAt w' A L ∧ Below w.heap.size w w'
theorem zero_no {w w1 : World} (hb : Below (w.alloc (.cells #[.int .i64 0, .slice none 0 0, .int .i64 0, .int .i64 0, .int .i64 0, .int .i64 0, .int .i64 0, .int .i64 0, .int .i64 0, .int .i64 0, .int .i64 0, .int .i64 0, .int .i64 0, .int .i64 0, .int .i64 0] 26)).heap.size (w.alloc (.cells #[.int .i64 0, .slice none 0 0, .int .i64 0, .int .i64 0, .int .i64 0, .int .i64 0, .int .i64 0, .int .i64 0, .int .i64 0, .int .i64 0, .int .i64 0, .int .i64 0, .int .i64 0, .int .i64 0, .int .i64 0] 26)) w1) (o : Nat) : w1.cell? ⟨w.heap.size, o, none⟩ ≠ some (.int .i64 1) := fun e => by
  have h0 : (w.alloc (.cells #[.int .i64 0, .slice none 0 0, .int .i64 0, .int .i64 0, .int .i64 0, .int .i64 0, .int .i64 0, .int .i64 0, .int .i64 0, .int .i64 0, .int .i64 0, .int .i64 0, .int .i64 0, .int .i64 0, .int .i64 0] 26)).heap[w.heap.size]? = some (.cells #[.int .i64 0, .slice none 0 0, .int .i64 0, .int .i64 0, .int .i64 0, .int .i64 0, .int .i64 0, .int .i64 0, .int .i64 0, .int .i64 0, .int .i64 0, .int .i64 0, .int .i64 0, .int .i64 0, .int .i64 0] 26 (0, 0)) := heap_alloc_new w _
  have h1 := hb.block w.heap.size (by simp)
  rw [h0] at h1
  rw [cell_of_row w1 w.heap.size o _ _ _ h1] at e
  have h2 := Array.mem_of_getElem? e
  simp at h2
theorem full_first : ∀ a : Nat, a < 3 → (fullL (2 + a))[0]? = some (0, 1) := by decide +kernel

set_option maxHeartbeats 6400000 in
theorem lawSmall0 (d0 d1 d2 d3 : Nat) (b0 : d0 < 256) (b1 : d1 < 256) (b2 : d2 < 256) (b3 : d3 < 256) (ha : d0 % 3 = 0) (w : World) : Calls Tryz.prog 5 #[.int .u8 (d0 : Int), .int .u8 (d1 : Int), .int .u8 (d2 : Int), .int .u8 (d3 : Int)] w (SmPost w) := by
  have hP : ∀ e w', (∃ c L A kk, faultN c L = 0 ∧ c.n ≤ 4 ∧ 0 ≤ c.f ∧ (∀ x ∈ L, PrF x) ∧ L.length ≤ 6 ∧ e = .returned (.agg (c.cells A L.length kk).toArray) ∧ LinksAt w' A L ∧ Below w.heap.size w w') → SmPost w e w' := fun _ _ h => h
  have HP := Lib.hid hP
  obtain ⟨f, hf⟩ : ∃ f, d1 % 2 = f := ⟨_, rfl⟩
  obtain ⟨x, hx⟩ : ∃ x, d2 % 2 = x := ⟨_, rfl⟩
  obtain ⟨y, hy⟩ : ∃ y, d3 % 2 = y := ⟨_, rfl⟩
  have g0 : (d0 : Int) % 3 = 0 := by omega
  have g1 : (d1 : Int) % 2 = (f : Int) := by omega
  have g2 : (d2 : Int) % 2 = (x : Int) := by omega
  have g3 : (d3 : Int) % 2 = (y : Int) := by omega
  have fm : f < 2 := by omega
  have xm : x < 2 := by omega
  have ym : y < 2 := by omega
  have hok := small_all 0 (by omega) f (by omega) x xm y ym (by omega)
  have hfit := full_fit (n := 2 + 0) (by omega)
  have hlen := full_len 0 (by omega)
  have hfst := full_first 0 (by omega)
  have hsn := sugC_n (smallC ((2 + 0 : Nat) : Int) (f : Int) (1 + (x : Int)) (y : Int))
  have hsf := sugC_f (smallC ((2 + 0 : Nat) : Int) (f : Int) (1 + (x : Int)) (y : Int))
  have k0 := boxF_made w [.int .i64 0, .slice none 0 0, .int .i64 0, .int .i64 0, .int .i64 0, .int .i64 0, .int .i64 0, .int .i64 0, .int .i64 0, .int .i64 0, .int .i64 0, .int .i64 0, .int .i64 0, .int .i64 0, .int .i64 0] 26
  have k1 := (Below.refl w.heap.size w).alloc (Nat.le_refl _) (.cells #[.int .i64 0, .slice none 0 0, .int .i64 0, .int .i64 0, .int .i64 0, .int .i64 0, .int .i64 0, .int .i64 0, .int .i64 0, .int .i64 0, .int .i64 0, .int .i64 0, .int .i64 0, .int .i64 0, .int .i64 0] 26)
  obtain ⟨w0, hw0⟩ : ∃ w0, w.alloc (.cells #[.int .i64 0, .slice none 0 0, .int .i64 0, .int .i64 0, .int .i64 0, .int .i64 0, .int .i64 0, .int .i64 0, .int .i64 0, .int .i64 0, .int .i64 0, .int .i64 0, .int .i64 0, .int .i64 0, .int .i64 0] 26) = w0 := ⟨_, rfl⟩
  have hs0 : w0.heap.size = w.heap.size + 1 := by rw [← hw0]; simp
  rw [hw0] at k0 k1
  have CS := rSmall 2 (f : Int) (1 + (x : Int)) (y : Int) w0
  unfold SmallPost at CS
  rw [show ((2 + 0 : Nat) : Int) = 2 from rfl] at hok hsn hsf
  rw [show (2 : Int).toNat = 2 + 0 from rfl] at CS
  obtain ⟨sc, hsc⟩ : ∃ sc, sugC (smallC 2 (f : Int) (1 + (x : Int)) (y : Int)) = sc := ⟨_, rfl⟩
  rw [hsc] at CS hok hsn hsf
  obtain ⟨L, hL⟩ : ∃ L, fullL (2 + 0) = L := ⟨_, rfl⟩
  rw [hL] at CS hok hfit hlen hfst
  have hz1 := fun (w1 : World) hb o => zero_no (w := w) (w1 := w1) hb o
  rw [hw0] at hz1
  have HZ := Lib.hid (And.intro hfst hz1)
  clear hz1 hfst
  have hn4 : sc.n ≤ 4 := by rw [hsn]; show (2 : Int) ≤ 4; omega
  have hf0 : 0 ≤ sc.f := by rw [hsf]; show (0 : Int) ≤ (f : Int); omega
  have HOK := Lib.hid (And.intro hok (And.intro hn4 (And.intro hf0 (And.intro hfit hlen))))
  have CS := Lib.hid CS
  have HK := Lib.hid (And.intro k0 (And.intro k1 hs0))
  have fI : (f : Int) < 2 := by omega
  have xI : (x : Int) < 2 := by omega
  have yI : (y : Int) < 2 := by omega
  have hmin : min (2 : Int) 3 = 2 := rfl
  clear hsc hL hok hfit hlen hsn hsf hn4 hf0 hP hf hx hy ha k0 k1 hs0 fm xm ym
  obtain ⟨n, f', dmin, dmax, rho, slew, round, window, attend, seen, hist, fly, quota, body⟩ := sc
  obtain ⟨l, hl⟩ : ∃ l, L.length = l := ⟨_, rfl⟩
  rw [hl] at CS
  have HL := Lib.hid hl
  clear hl
  go_enter Tryz.func5, Tryz.ntmps5
  go_wp2_with fail
  refine CS.out.mono ?_
  rintro e w1 ⟨hb1, -, -, hgood⟩
  obtain ⟨A, k, rfl, hLA, hk⟩ := hgood (by omega) HOK.out.1
  simp only [Cn.cells, List.length_cons, List.length_nil]
  have hABne : ∀ b off, A = some ⟨b, off, none⟩ → w.heap.size ≠ b := fun b off hA hbb => by
    obtain ⟨b', off', hA', -, hc⟩ := hLA 0 _ HZ.out.1
    rw [hA] at hA'
    injection hA' with hA'
    injection hA' with e1 e2
    subst e1 hbb
    exact HZ.out.2 w1 hb1 _ (hc 1 (.int .i64 1) rfl)
  have hba : Below w1.heap.size w1 (w1.alloc (.cells #[.int .i64 n, .slice A l k, .int .i64 f', .int .i64 dmin, .int .i64 dmax, .int .i64 rho, .int .i64 slew, .int .i64 round, .int .i64 window, .int .i64 attend, .int .i64 seen, .int .i64 hist, .int .i64 fly, .int .i64 quota, .int .i64 body] 26)) := (Below.refl _ _).alloc (Nat.le_refl _) _
  have k2 := (HK.out.1.keep hb1).keep hba
  have k3 := boxF_made w1 [.int .i64 n, .slice A l k, .int .i64 f', .int .i64 dmin, .int .i64 dmax, .int .i64 rho, .int .i64 slew, .int .i64 round, .int .i64 window, .int .i64 attend, .int .i64 seen, .int .i64 hist, .int .i64 fly, .int .i64 quota, .int .i64 body] 26
  have hLA2 := hLA.below hba
  have hb2 : Below w.heap.size w (w1.alloc (.cells #[.int .i64 n, .slice A l k, .int .i64 f', .int .i64 dmin, .int .i64 dmax, .int .i64 rho, .int .i64 slew, .int .i64 round, .int .i64 window, .int .i64 attend, .int .i64 seen, .int .i64 hist, .int .i64 fly, .int .i64 quota, .int .i64 body] 26)) := (HK.out.2.1.trans (hb1.mono HK.out.2.1.size)).trans (hba.mono (by have := hb1.size; have := HK.out.2.2; omega))
  obtain ⟨w2, hw2⟩ : ∃ w2, w1.alloc (.cells #[.int .i64 n, .slice A l k, .int .i64 f', .int .i64 dmin, .int .i64 dmax, .int .i64 rho, .int .i64 slew, .int .i64 round, .int .i64 window, .int .i64 attend, .int .i64 seen, .int .i64 hist, .int .i64 fly, .int .i64 quota, .int .i64 body] 26) = w2 := ⟨_, rfl⟩
  rw [hw2] at k2 k3 hLA2 hb2
  have zs0 := k2.1 0 _ rfl
  have zf0 := k2.2 0 (by simp)
  have yc0 := k3.1 0 _ rfl
  have zs1 := k2.1 1 _ rfl
  have zf1 := k2.2 1 (by simp)
  have yc1 := k3.1 1 _ rfl
  have zs2 := k2.1 2 _ rfl
  have zf2 := k2.2 2 (by simp)
  have yc2 := k3.1 2 _ rfl
  have zs3 := k2.1 3 _ rfl
  have zf3 := k2.2 3 (by simp)
  have yc3 := k3.1 3 _ rfl
  have zs4 := k2.1 4 _ rfl
  have zf4 := k2.2 4 (by simp)
  have yc4 := k3.1 4 _ rfl
  have zs5 := k2.1 5 _ rfl
  have zf5 := k2.2 5 (by simp)
  have yc5 := k3.1 5 _ rfl
  have zs6 := k2.1 6 _ rfl
  have zf6 := k2.2 6 (by simp)
  have yc6 := k3.1 6 _ rfl
  have zs7 := k2.1 7 _ rfl
  have zf7 := k2.2 7 (by simp)
  have yc7 := k3.1 7 _ rfl
  have zs8 := k2.1 8 _ rfl
  have zf8 := k2.2 8 (by simp)
  have yc8 := k3.1 8 _ rfl
  have zs9 := k2.1 9 _ rfl
  have zf9 := k2.2 9 (by simp)
  have yc9 := k3.1 9 _ rfl
  have zs10 := k2.1 10 _ rfl
  have zf10 := k2.2 10 (by simp)
  have yc10 := k3.1 10 _ rfl
  have zs11 := k2.1 11 _ rfl
  have zf11 := k2.2 11 (by simp)
  have yc11 := k3.1 11 _ rfl
  have zs12 := k2.1 12 _ rfl
  have zf12 := k2.2 12 (by simp)
  have yc12 := k3.1 12 _ rfl
  have zs13 := k2.1 13 _ rfl
  have zf13 := k2.2 13 (by simp)
  have yc13 := k3.1 13 _ rfl
  have zs14 := k2.1 14 _ rfl
  have zf14 := k2.2 14 (by simp)
  have yc14 := k3.1 14 _ rfl
  have zp := storeN_box w.heap.size [.int .i64 n, .slice A l k, .int .i64 f', .int .i64 dmin, .int .i64 dmax, .int .i64 rho, .int .i64 slew, .int .i64 round, .int .i64 window, .int .i64 attend, .int .i64 seen, .int .i64 hist, .int .i64 fly, .int .i64 quota, .int .i64 body] w2 [] [.int .i64 0, .slice none 0 0, .int .i64 0, .int .i64 0, .int .i64 0, .int .i64 0, .int .i64 0, .int .i64 0, .int .i64 0, .int .i64 0, .int .i64 0, .int .i64 0, .int .i64 0, .int .i64 0, .int .i64 0] rfl k2
  have zq := storeN_below (N := w.heap.size) w.heap.size (Nat.le_refl _) [.int .i64 n, .slice A l k, .int .i64 f', .int .i64 dmin, .int .i64 dmax, .int .i64 rho, .int .i64 slew, .int .i64 round, .int .i64 window, .int .i64 attend, .int .i64 seen, .int .i64 hist, .int .i64 fly, .int .i64 quota, .int .i64 body] w w2 0 hb2
  have zl := storeN_links hABne [.int .i64 n, .slice A l k, .int .i64 f', .int .i64 dmin, .int .i64 dmax, .int .i64 rho, .int .i64 slew, .int .i64 round, .int .i64 window, .int .i64 attend, .int .i64 seen, .int .i64 hist, .int .i64 fly, .int .i64 quota, .int .i64 body] w2 0 hLA2
  obtain ⟨wf, hwf⟩ : ∃ wf, storeN w.heap.size w2 [.int .i64 n, .slice A l k, .int .i64 f', .int .i64 dmin, .int .i64 dmax, .int .i64 rho, .int .i64 slew, .int .i64 round, .int .i64 window, .int .i64 attend, .int .i64 seen, .int .i64 hist, .int .i64 fly, .int .i64 quota, .int .i64 body] 0 = wf := ⟨_, rfl⟩
  rw [show ([] : List Value).length = 0 from rfl, List.nil_append, hwf] at zp
  rw [hwf] at zq zl
  simp only [storeN, Nat.reduceAdd] at hwf
  have ef0 := zp.1 0 _ rfl
  have ef1 := zp.1 1 _ rfl
  have ef2 := zp.1 2 _ rfl
  have ef3 := zp.1 3 _ rfl
  have ef4 := zp.1 4 _ rfl
  have ef5 := zp.1 5 _ rfl
  have ef6 := zp.1 6 _ rfl
  have ef7 := zp.1 7 _ rfl
  have ef8 := zp.1 8 _ rfl
  have ef9 := zp.1 9 _ rfl
  have ef10 := zp.1 10 _ rfl
  have ef11 := zp.1 11 _ rfl
  have ef12 := zp.1 12 _ rfl
  have ef13 := zp.1 13 _ rfl
  have ef14 := zp.1 14 _ rfl
  have HF := Lib.hid (HP.out _ _ ⟨⟨n, f', dmin, dmax, rho, slew, round, window, attend, seen, hist, fly, quota, body⟩, L, A, k, HOK.out.1, HOK.out.2.1, HOK.out.2.2.1, HOK.out.2.2.2.1, HOK.out.2.2.2.2, rfl, zl, zq⟩)
  rw [HL.out] at HF
  clear zp zq zl hLA hLA2 hb1 hb2 hba k2 k3 hgood hk hABne
  go_wp2
  refine bodyPost_ret (v := .agg #[.int .i64 n, .slice A l k, .int .i64 f', .int .i64 dmin, .int .i64 dmax, .int .i64 rho, .int .i64 slew, .int .i64 round, .int .i64 window, .int .i64 attend, .int .i64 seen, .int .i64 hist, .int .i64 fly, .int .i64 quota, .int .i64 body]) (by simp [results, Tryz.results5, go_sem, ef0, ef1, ef2, ef3, ef4, ef5, ef6, ef7, ef8, ef9, ef10, ef11, ef12, ef13, ef14]) rfl HF.out

set_option maxHeartbeats 6400000 in
theorem lawSmall1 (d0 d1 d2 d3 : Nat) (b0 : d0 < 256) (b1 : d1 < 256) (b2 : d2 < 256) (b3 : d3 < 256) (ha : d0 % 3 = 1) (w : World) : Calls Tryz.prog 5 #[.int .u8 (d0 : Int), .int .u8 (d1 : Int), .int .u8 (d2 : Int), .int .u8 (d3 : Int)] w (SmPost w) := by
  have hP : ∀ e w', (∃ c L A kk, faultN c L = 0 ∧ c.n ≤ 4 ∧ 0 ≤ c.f ∧ (∀ x ∈ L, PrF x) ∧ L.length ≤ 6 ∧ e = .returned (.agg (c.cells A L.length kk).toArray) ∧ LinksAt w' A L ∧ Below w.heap.size w w') → SmPost w e w' := fun _ _ h => h
  have HP := Lib.hid hP
  obtain ⟨f, hf⟩ : ∃ f, d1 % 3 = f := ⟨_, rfl⟩
  obtain ⟨x, hx⟩ : ∃ x, d2 % 2 = x := ⟨_, rfl⟩
  obtain ⟨y, hy⟩ : ∃ y, d3 % 2 = y := ⟨_, rfl⟩
  have g0 : (d0 : Int) % 3 = 1 := by omega
  have g1 : (d1 : Int) % 3 = (f : Int) := by omega
  have g2 : (d2 : Int) % 2 = (x : Int) := by omega
  have g3 : (d3 : Int) % 2 = (y : Int) := by omega
  have fm : f < 3 := by omega
  have xm : x < 2 := by omega
  have ym : y < 2 := by omega
  have hok := small_all 1 (by omega) f (by omega) x xm y ym (by omega)
  have hfit := full_fit (n := 2 + 1) (by omega)
  have hlen := full_len 1 (by omega)
  have hfst := full_first 1 (by omega)
  have hsn := sugC_n (smallC ((2 + 1 : Nat) : Int) (f : Int) (1 + (x : Int)) (y : Int))
  have hsf := sugC_f (smallC ((2 + 1 : Nat) : Int) (f : Int) (1 + (x : Int)) (y : Int))
  have k0 := boxF_made w [.int .i64 0, .slice none 0 0, .int .i64 0, .int .i64 0, .int .i64 0, .int .i64 0, .int .i64 0, .int .i64 0, .int .i64 0, .int .i64 0, .int .i64 0, .int .i64 0, .int .i64 0, .int .i64 0, .int .i64 0] 26
  have k1 := (Below.refl w.heap.size w).alloc (Nat.le_refl _) (.cells #[.int .i64 0, .slice none 0 0, .int .i64 0, .int .i64 0, .int .i64 0, .int .i64 0, .int .i64 0, .int .i64 0, .int .i64 0, .int .i64 0, .int .i64 0, .int .i64 0, .int .i64 0, .int .i64 0, .int .i64 0] 26)
  obtain ⟨w0, hw0⟩ : ∃ w0, w.alloc (.cells #[.int .i64 0, .slice none 0 0, .int .i64 0, .int .i64 0, .int .i64 0, .int .i64 0, .int .i64 0, .int .i64 0, .int .i64 0, .int .i64 0, .int .i64 0, .int .i64 0, .int .i64 0, .int .i64 0, .int .i64 0] 26) = w0 := ⟨_, rfl⟩
  have hs0 : w0.heap.size = w.heap.size + 1 := by rw [← hw0]; simp
  rw [hw0] at k0 k1
  have CS := rSmall 3 (f : Int) (1 + (x : Int)) (y : Int) w0
  unfold SmallPost at CS
  rw [show ((2 + 1 : Nat) : Int) = 3 from rfl] at hok hsn hsf
  rw [show (3 : Int).toNat = 2 + 1 from rfl] at CS
  obtain ⟨sc, hsc⟩ : ∃ sc, sugC (smallC 3 (f : Int) (1 + (x : Int)) (y : Int)) = sc := ⟨_, rfl⟩
  rw [hsc] at CS hok hsn hsf
  obtain ⟨L, hL⟩ : ∃ L, fullL (2 + 1) = L := ⟨_, rfl⟩
  rw [hL] at CS hok hfit hlen hfst
  have hz1 := fun (w1 : World) hb o => zero_no (w := w) (w1 := w1) hb o
  rw [hw0] at hz1
  have HZ := Lib.hid (And.intro hfst hz1)
  clear hz1 hfst
  have hn4 : sc.n ≤ 4 := by rw [hsn]; show (3 : Int) ≤ 4; omega
  have hf0 : 0 ≤ sc.f := by rw [hsf]; show (0 : Int) ≤ (f : Int); omega
  have HOK := Lib.hid (And.intro hok (And.intro hn4 (And.intro hf0 (And.intro hfit hlen))))
  have CS := Lib.hid CS
  have HK := Lib.hid (And.intro k0 (And.intro k1 hs0))
  have fI : (f : Int) < 3 := by omega
  have xI : (x : Int) < 2 := by omega
  have yI : (y : Int) < 2 := by omega
  have hmin : min (3 : Int) 3 = 3 := rfl
  clear hsc hL hok hfit hlen hsn hsf hn4 hf0 hP hf hx hy ha k0 k1 hs0 fm xm ym
  obtain ⟨n, f', dmin, dmax, rho, slew, round, window, attend, seen, hist, fly, quota, body⟩ := sc
  obtain ⟨l, hl⟩ : ∃ l, L.length = l := ⟨_, rfl⟩
  rw [hl] at CS
  have HL := Lib.hid hl
  clear hl
  go_enter Tryz.func5, Tryz.ntmps5
  go_wp2_with fail
  refine CS.out.mono ?_
  rintro e w1 ⟨hb1, -, -, hgood⟩
  obtain ⟨A, k, rfl, hLA, hk⟩ := hgood (by omega) HOK.out.1
  simp only [Cn.cells, List.length_cons, List.length_nil]
  have hABne : ∀ b off, A = some ⟨b, off, none⟩ → w.heap.size ≠ b := fun b off hA hbb => by
    obtain ⟨b', off', hA', -, hc⟩ := hLA 0 _ HZ.out.1
    rw [hA] at hA'
    injection hA' with hA'
    injection hA' with e1 e2
    subst e1 hbb
    exact HZ.out.2 w1 hb1 _ (hc 1 (.int .i64 1) rfl)
  have hba : Below w1.heap.size w1 (w1.alloc (.cells #[.int .i64 n, .slice A l k, .int .i64 f', .int .i64 dmin, .int .i64 dmax, .int .i64 rho, .int .i64 slew, .int .i64 round, .int .i64 window, .int .i64 attend, .int .i64 seen, .int .i64 hist, .int .i64 fly, .int .i64 quota, .int .i64 body] 26)) := (Below.refl _ _).alloc (Nat.le_refl _) _
  have k2 := (HK.out.1.keep hb1).keep hba
  have k3 := boxF_made w1 [.int .i64 n, .slice A l k, .int .i64 f', .int .i64 dmin, .int .i64 dmax, .int .i64 rho, .int .i64 slew, .int .i64 round, .int .i64 window, .int .i64 attend, .int .i64 seen, .int .i64 hist, .int .i64 fly, .int .i64 quota, .int .i64 body] 26
  have hLA2 := hLA.below hba
  have hb2 : Below w.heap.size w (w1.alloc (.cells #[.int .i64 n, .slice A l k, .int .i64 f', .int .i64 dmin, .int .i64 dmax, .int .i64 rho, .int .i64 slew, .int .i64 round, .int .i64 window, .int .i64 attend, .int .i64 seen, .int .i64 hist, .int .i64 fly, .int .i64 quota, .int .i64 body] 26)) := (HK.out.2.1.trans (hb1.mono HK.out.2.1.size)).trans (hba.mono (by have := hb1.size; have := HK.out.2.2; omega))
  obtain ⟨w2, hw2⟩ : ∃ w2, w1.alloc (.cells #[.int .i64 n, .slice A l k, .int .i64 f', .int .i64 dmin, .int .i64 dmax, .int .i64 rho, .int .i64 slew, .int .i64 round, .int .i64 window, .int .i64 attend, .int .i64 seen, .int .i64 hist, .int .i64 fly, .int .i64 quota, .int .i64 body] 26) = w2 := ⟨_, rfl⟩
  rw [hw2] at k2 k3 hLA2 hb2
  have zs0 := k2.1 0 _ rfl
  have zf0 := k2.2 0 (by simp)
  have yc0 := k3.1 0 _ rfl
  have zs1 := k2.1 1 _ rfl
  have zf1 := k2.2 1 (by simp)
  have yc1 := k3.1 1 _ rfl
  have zs2 := k2.1 2 _ rfl
  have zf2 := k2.2 2 (by simp)
  have yc2 := k3.1 2 _ rfl
  have zs3 := k2.1 3 _ rfl
  have zf3 := k2.2 3 (by simp)
  have yc3 := k3.1 3 _ rfl
  have zs4 := k2.1 4 _ rfl
  have zf4 := k2.2 4 (by simp)
  have yc4 := k3.1 4 _ rfl
  have zs5 := k2.1 5 _ rfl
  have zf5 := k2.2 5 (by simp)
  have yc5 := k3.1 5 _ rfl
  have zs6 := k2.1 6 _ rfl
  have zf6 := k2.2 6 (by simp)
  have yc6 := k3.1 6 _ rfl
  have zs7 := k2.1 7 _ rfl
  have zf7 := k2.2 7 (by simp)
  have yc7 := k3.1 7 _ rfl
  have zs8 := k2.1 8 _ rfl
  have zf8 := k2.2 8 (by simp)
  have yc8 := k3.1 8 _ rfl
  have zs9 := k2.1 9 _ rfl
  have zf9 := k2.2 9 (by simp)
  have yc9 := k3.1 9 _ rfl
  have zs10 := k2.1 10 _ rfl
  have zf10 := k2.2 10 (by simp)
  have yc10 := k3.1 10 _ rfl
  have zs11 := k2.1 11 _ rfl
  have zf11 := k2.2 11 (by simp)
  have yc11 := k3.1 11 _ rfl
  have zs12 := k2.1 12 _ rfl
  have zf12 := k2.2 12 (by simp)
  have yc12 := k3.1 12 _ rfl
  have zs13 := k2.1 13 _ rfl
  have zf13 := k2.2 13 (by simp)
  have yc13 := k3.1 13 _ rfl
  have zs14 := k2.1 14 _ rfl
  have zf14 := k2.2 14 (by simp)
  have yc14 := k3.1 14 _ rfl
  have zp := storeN_box w.heap.size [.int .i64 n, .slice A l k, .int .i64 f', .int .i64 dmin, .int .i64 dmax, .int .i64 rho, .int .i64 slew, .int .i64 round, .int .i64 window, .int .i64 attend, .int .i64 seen, .int .i64 hist, .int .i64 fly, .int .i64 quota, .int .i64 body] w2 [] [.int .i64 0, .slice none 0 0, .int .i64 0, .int .i64 0, .int .i64 0, .int .i64 0, .int .i64 0, .int .i64 0, .int .i64 0, .int .i64 0, .int .i64 0, .int .i64 0, .int .i64 0, .int .i64 0, .int .i64 0] rfl k2
  have zq := storeN_below (N := w.heap.size) w.heap.size (Nat.le_refl _) [.int .i64 n, .slice A l k, .int .i64 f', .int .i64 dmin, .int .i64 dmax, .int .i64 rho, .int .i64 slew, .int .i64 round, .int .i64 window, .int .i64 attend, .int .i64 seen, .int .i64 hist, .int .i64 fly, .int .i64 quota, .int .i64 body] w w2 0 hb2
  have zl := storeN_links hABne [.int .i64 n, .slice A l k, .int .i64 f', .int .i64 dmin, .int .i64 dmax, .int .i64 rho, .int .i64 slew, .int .i64 round, .int .i64 window, .int .i64 attend, .int .i64 seen, .int .i64 hist, .int .i64 fly, .int .i64 quota, .int .i64 body] w2 0 hLA2
  obtain ⟨wf, hwf⟩ : ∃ wf, storeN w.heap.size w2 [.int .i64 n, .slice A l k, .int .i64 f', .int .i64 dmin, .int .i64 dmax, .int .i64 rho, .int .i64 slew, .int .i64 round, .int .i64 window, .int .i64 attend, .int .i64 seen, .int .i64 hist, .int .i64 fly, .int .i64 quota, .int .i64 body] 0 = wf := ⟨_, rfl⟩
  rw [show ([] : List Value).length = 0 from rfl, List.nil_append, hwf] at zp
  rw [hwf] at zq zl
  simp only [storeN, Nat.reduceAdd] at hwf
  have ef0 := zp.1 0 _ rfl
  have ef1 := zp.1 1 _ rfl
  have ef2 := zp.1 2 _ rfl
  have ef3 := zp.1 3 _ rfl
  have ef4 := zp.1 4 _ rfl
  have ef5 := zp.1 5 _ rfl
  have ef6 := zp.1 6 _ rfl
  have ef7 := zp.1 7 _ rfl
  have ef8 := zp.1 8 _ rfl
  have ef9 := zp.1 9 _ rfl
  have ef10 := zp.1 10 _ rfl
  have ef11 := zp.1 11 _ rfl
  have ef12 := zp.1 12 _ rfl
  have ef13 := zp.1 13 _ rfl
  have ef14 := zp.1 14 _ rfl
  have HF := Lib.hid (HP.out _ _ ⟨⟨n, f', dmin, dmax, rho, slew, round, window, attend, seen, hist, fly, quota, body⟩, L, A, k, HOK.out.1, HOK.out.2.1, HOK.out.2.2.1, HOK.out.2.2.2.1, HOK.out.2.2.2.2, rfl, zl, zq⟩)
  rw [HL.out] at HF
  clear zp zq zl hLA hLA2 hb1 hb2 hba k2 k3 hgood hk hABne
  go_wp2
  refine bodyPost_ret (v := .agg #[.int .i64 n, .slice A l k, .int .i64 f', .int .i64 dmin, .int .i64 dmax, .int .i64 rho, .int .i64 slew, .int .i64 round, .int .i64 window, .int .i64 attend, .int .i64 seen, .int .i64 hist, .int .i64 fly, .int .i64 quota, .int .i64 body]) (by simp [results, Tryz.results5, go_sem, ef0, ef1, ef2, ef3, ef4, ef5, ef6, ef7, ef8, ef9, ef10, ef11, ef12, ef13, ef14]) rfl HF.out

set_option maxHeartbeats 6400000 in
theorem lawSmall2 (d0 d1 d2 d3 : Nat) (b0 : d0 < 256) (b1 : d1 < 256) (b2 : d2 < 256) (b3 : d3 < 256) (ha : d0 % 3 = 2) (w : World) : Calls Tryz.prog 5 #[.int .u8 (d0 : Int), .int .u8 (d1 : Int), .int .u8 (d2 : Int), .int .u8 (d3 : Int)] w (SmPost w) := by
  have hP : ∀ e w', (∃ c L A kk, faultN c L = 0 ∧ c.n ≤ 4 ∧ 0 ≤ c.f ∧ (∀ x ∈ L, PrF x) ∧ L.length ≤ 6 ∧ e = .returned (.agg (c.cells A L.length kk).toArray) ∧ LinksAt w' A L ∧ Below w.heap.size w w') → SmPost w e w' := fun _ _ h => h
  have HP := Lib.hid hP
  obtain ⟨f, hf⟩ : ∃ f, d1 % 3 = f := ⟨_, rfl⟩
  obtain ⟨x, hx⟩ : ∃ x, d2 % 2 = x := ⟨_, rfl⟩
  obtain ⟨y, hy⟩ : ∃ y, d3 % 2 = y := ⟨_, rfl⟩
  have g0 : (d0 : Int) % 3 = 2 := by omega
  have g1 : (d1 : Int) % 3 = (f : Int) := by omega
  have g2 : (d2 : Int) % 2 = (x : Int) := by omega
  have g3 : (d3 : Int) % 2 = (y : Int) := by omega
  have fm : f < 3 := by omega
  have xm : x < 2 := by omega
  have ym : y < 2 := by omega
  have hok := small_all 2 (by omega) f (by omega) x xm y ym (by omega)
  have hfit := full_fit (n := 2 + 2) (by omega)
  have hlen := full_len 2 (by omega)
  have hfst := full_first 2 (by omega)
  have hsn := sugC_n (smallC ((2 + 2 : Nat) : Int) (f : Int) (1 + (x : Int)) (y : Int))
  have hsf := sugC_f (smallC ((2 + 2 : Nat) : Int) (f : Int) (1 + (x : Int)) (y : Int))
  have k0 := boxF_made w [.int .i64 0, .slice none 0 0, .int .i64 0, .int .i64 0, .int .i64 0, .int .i64 0, .int .i64 0, .int .i64 0, .int .i64 0, .int .i64 0, .int .i64 0, .int .i64 0, .int .i64 0, .int .i64 0, .int .i64 0] 26
  have k1 := (Below.refl w.heap.size w).alloc (Nat.le_refl _) (.cells #[.int .i64 0, .slice none 0 0, .int .i64 0, .int .i64 0, .int .i64 0, .int .i64 0, .int .i64 0, .int .i64 0, .int .i64 0, .int .i64 0, .int .i64 0, .int .i64 0, .int .i64 0, .int .i64 0, .int .i64 0] 26)
  obtain ⟨w0, hw0⟩ : ∃ w0, w.alloc (.cells #[.int .i64 0, .slice none 0 0, .int .i64 0, .int .i64 0, .int .i64 0, .int .i64 0, .int .i64 0, .int .i64 0, .int .i64 0, .int .i64 0, .int .i64 0, .int .i64 0, .int .i64 0, .int .i64 0, .int .i64 0] 26) = w0 := ⟨_, rfl⟩
  have hs0 : w0.heap.size = w.heap.size + 1 := by rw [← hw0]; simp
  rw [hw0] at k0 k1
  have CS := rSmall 4 (f : Int) (1 + (x : Int)) (y : Int) w0
  unfold SmallPost at CS
  rw [show ((2 + 2 : Nat) : Int) = 4 from rfl] at hok hsn hsf
  rw [show (4 : Int).toNat = 2 + 2 from rfl] at CS
  obtain ⟨sc, hsc⟩ : ∃ sc, sugC (smallC 4 (f : Int) (1 + (x : Int)) (y : Int)) = sc := ⟨_, rfl⟩
  rw [hsc] at CS hok hsn hsf
  obtain ⟨L, hL⟩ : ∃ L, fullL (2 + 2) = L := ⟨_, rfl⟩
  rw [hL] at CS hok hfit hlen hfst
  have hz1 := fun (w1 : World) hb o => zero_no (w := w) (w1 := w1) hb o
  rw [hw0] at hz1
  have HZ := Lib.hid (And.intro hfst hz1)
  clear hz1 hfst
  have hn4 : sc.n ≤ 4 := by rw [hsn]; show (4 : Int) ≤ 4; omega
  have hf0 : 0 ≤ sc.f := by rw [hsf]; show (0 : Int) ≤ (f : Int); omega
  have HOK := Lib.hid (And.intro hok (And.intro hn4 (And.intro hf0 (And.intro hfit hlen))))
  have CS := Lib.hid CS
  have HK := Lib.hid (And.intro k0 (And.intro k1 hs0))
  have fI : (f : Int) < 3 := by omega
  have xI : (x : Int) < 2 := by omega
  have yI : (y : Int) < 2 := by omega
  have hmin : min (4 : Int) 3 = 3 := rfl
  clear hsc hL hok hfit hlen hsn hsf hn4 hf0 hP hf hx hy ha k0 k1 hs0 fm xm ym
  obtain ⟨n, f', dmin, dmax, rho, slew, round, window, attend, seen, hist, fly, quota, body⟩ := sc
  obtain ⟨l, hl⟩ : ∃ l, L.length = l := ⟨_, rfl⟩
  rw [hl] at CS
  have HL := Lib.hid hl
  clear hl
  go_enter Tryz.func5, Tryz.ntmps5
  go_wp2_with fail
  refine CS.out.mono ?_
  rintro e w1 ⟨hb1, -, -, hgood⟩
  obtain ⟨A, k, rfl, hLA, hk⟩ := hgood (by omega) HOK.out.1
  simp only [Cn.cells, List.length_cons, List.length_nil]
  have hABne : ∀ b off, A = some ⟨b, off, none⟩ → w.heap.size ≠ b := fun b off hA hbb => by
    obtain ⟨b', off', hA', -, hc⟩ := hLA 0 _ HZ.out.1
    rw [hA] at hA'
    injection hA' with hA'
    injection hA' with e1 e2
    subst e1 hbb
    exact HZ.out.2 w1 hb1 _ (hc 1 (.int .i64 1) rfl)
  have hba : Below w1.heap.size w1 (w1.alloc (.cells #[.int .i64 n, .slice A l k, .int .i64 f', .int .i64 dmin, .int .i64 dmax, .int .i64 rho, .int .i64 slew, .int .i64 round, .int .i64 window, .int .i64 attend, .int .i64 seen, .int .i64 hist, .int .i64 fly, .int .i64 quota, .int .i64 body] 26)) := (Below.refl _ _).alloc (Nat.le_refl _) _
  have k2 := (HK.out.1.keep hb1).keep hba
  have k3 := boxF_made w1 [.int .i64 n, .slice A l k, .int .i64 f', .int .i64 dmin, .int .i64 dmax, .int .i64 rho, .int .i64 slew, .int .i64 round, .int .i64 window, .int .i64 attend, .int .i64 seen, .int .i64 hist, .int .i64 fly, .int .i64 quota, .int .i64 body] 26
  have hLA2 := hLA.below hba
  have hb2 : Below w.heap.size w (w1.alloc (.cells #[.int .i64 n, .slice A l k, .int .i64 f', .int .i64 dmin, .int .i64 dmax, .int .i64 rho, .int .i64 slew, .int .i64 round, .int .i64 window, .int .i64 attend, .int .i64 seen, .int .i64 hist, .int .i64 fly, .int .i64 quota, .int .i64 body] 26)) := (HK.out.2.1.trans (hb1.mono HK.out.2.1.size)).trans (hba.mono (by have := hb1.size; have := HK.out.2.2; omega))
  obtain ⟨w2, hw2⟩ : ∃ w2, w1.alloc (.cells #[.int .i64 n, .slice A l k, .int .i64 f', .int .i64 dmin, .int .i64 dmax, .int .i64 rho, .int .i64 slew, .int .i64 round, .int .i64 window, .int .i64 attend, .int .i64 seen, .int .i64 hist, .int .i64 fly, .int .i64 quota, .int .i64 body] 26) = w2 := ⟨_, rfl⟩
  rw [hw2] at k2 k3 hLA2 hb2
  have zs0 := k2.1 0 _ rfl
  have zf0 := k2.2 0 (by simp)
  have yc0 := k3.1 0 _ rfl
  have zs1 := k2.1 1 _ rfl
  have zf1 := k2.2 1 (by simp)
  have yc1 := k3.1 1 _ rfl
  have zs2 := k2.1 2 _ rfl
  have zf2 := k2.2 2 (by simp)
  have yc2 := k3.1 2 _ rfl
  have zs3 := k2.1 3 _ rfl
  have zf3 := k2.2 3 (by simp)
  have yc3 := k3.1 3 _ rfl
  have zs4 := k2.1 4 _ rfl
  have zf4 := k2.2 4 (by simp)
  have yc4 := k3.1 4 _ rfl
  have zs5 := k2.1 5 _ rfl
  have zf5 := k2.2 5 (by simp)
  have yc5 := k3.1 5 _ rfl
  have zs6 := k2.1 6 _ rfl
  have zf6 := k2.2 6 (by simp)
  have yc6 := k3.1 6 _ rfl
  have zs7 := k2.1 7 _ rfl
  have zf7 := k2.2 7 (by simp)
  have yc7 := k3.1 7 _ rfl
  have zs8 := k2.1 8 _ rfl
  have zf8 := k2.2 8 (by simp)
  have yc8 := k3.1 8 _ rfl
  have zs9 := k2.1 9 _ rfl
  have zf9 := k2.2 9 (by simp)
  have yc9 := k3.1 9 _ rfl
  have zs10 := k2.1 10 _ rfl
  have zf10 := k2.2 10 (by simp)
  have yc10 := k3.1 10 _ rfl
  have zs11 := k2.1 11 _ rfl
  have zf11 := k2.2 11 (by simp)
  have yc11 := k3.1 11 _ rfl
  have zs12 := k2.1 12 _ rfl
  have zf12 := k2.2 12 (by simp)
  have yc12 := k3.1 12 _ rfl
  have zs13 := k2.1 13 _ rfl
  have zf13 := k2.2 13 (by simp)
  have yc13 := k3.1 13 _ rfl
  have zs14 := k2.1 14 _ rfl
  have zf14 := k2.2 14 (by simp)
  have yc14 := k3.1 14 _ rfl
  have zp := storeN_box w.heap.size [.int .i64 n, .slice A l k, .int .i64 f', .int .i64 dmin, .int .i64 dmax, .int .i64 rho, .int .i64 slew, .int .i64 round, .int .i64 window, .int .i64 attend, .int .i64 seen, .int .i64 hist, .int .i64 fly, .int .i64 quota, .int .i64 body] w2 [] [.int .i64 0, .slice none 0 0, .int .i64 0, .int .i64 0, .int .i64 0, .int .i64 0, .int .i64 0, .int .i64 0, .int .i64 0, .int .i64 0, .int .i64 0, .int .i64 0, .int .i64 0, .int .i64 0, .int .i64 0] rfl k2
  have zq := storeN_below (N := w.heap.size) w.heap.size (Nat.le_refl _) [.int .i64 n, .slice A l k, .int .i64 f', .int .i64 dmin, .int .i64 dmax, .int .i64 rho, .int .i64 slew, .int .i64 round, .int .i64 window, .int .i64 attend, .int .i64 seen, .int .i64 hist, .int .i64 fly, .int .i64 quota, .int .i64 body] w w2 0 hb2
  have zl := storeN_links hABne [.int .i64 n, .slice A l k, .int .i64 f', .int .i64 dmin, .int .i64 dmax, .int .i64 rho, .int .i64 slew, .int .i64 round, .int .i64 window, .int .i64 attend, .int .i64 seen, .int .i64 hist, .int .i64 fly, .int .i64 quota, .int .i64 body] w2 0 hLA2
  obtain ⟨wf, hwf⟩ : ∃ wf, storeN w.heap.size w2 [.int .i64 n, .slice A l k, .int .i64 f', .int .i64 dmin, .int .i64 dmax, .int .i64 rho, .int .i64 slew, .int .i64 round, .int .i64 window, .int .i64 attend, .int .i64 seen, .int .i64 hist, .int .i64 fly, .int .i64 quota, .int .i64 body] 0 = wf := ⟨_, rfl⟩
  rw [show ([] : List Value).length = 0 from rfl, List.nil_append, hwf] at zp
  rw [hwf] at zq zl
  simp only [storeN, Nat.reduceAdd] at hwf
  have ef0 := zp.1 0 _ rfl
  have ef1 := zp.1 1 _ rfl
  have ef2 := zp.1 2 _ rfl
  have ef3 := zp.1 3 _ rfl
  have ef4 := zp.1 4 _ rfl
  have ef5 := zp.1 5 _ rfl
  have ef6 := zp.1 6 _ rfl
  have ef7 := zp.1 7 _ rfl
  have ef8 := zp.1 8 _ rfl
  have ef9 := zp.1 9 _ rfl
  have ef10 := zp.1 10 _ rfl
  have ef11 := zp.1 11 _ rfl
  have ef12 := zp.1 12 _ rfl
  have ef13 := zp.1 13 _ rfl
  have ef14 := zp.1 14 _ rfl
  have HF := Lib.hid (HP.out _ _ ⟨⟨n, f', dmin, dmax, rho, slew, round, window, attend, seen, hist, fly, quota, body⟩, L, A, k, HOK.out.1, HOK.out.2.1, HOK.out.2.2.1, HOK.out.2.2.2.1, HOK.out.2.2.2.2, rfl, zl, zq⟩)
  rw [HL.out] at HF
  clear zp zq zl hLA hLA2 hb1 hb2 hba k2 k3 hgood hk hABne
  go_wp2
  refine bodyPost_ret (v := .agg #[.int .i64 n, .slice A l k, .int .i64 f', .int .i64 dmin, .int .i64 dmax, .int .i64 rho, .int .i64 slew, .int .i64 round, .int .i64 window, .int .i64 attend, .int .i64 seen, .int .i64 hist, .int .i64 fly, .int .i64 quota, .int .i64 body]) (by simp [results, Tryz.results5, go_sem, ef0, ef1, ef2, ef3, ef4, ef5, ef6, ef7, ef8, ef9, ef10, ef11, ef12, ef13, ef14]) rfl HF.out

theorem lawSmall (d0 d1 d2 d3 : Nat) (b0 : d0 < 256) (b1 : d1 < 256) (b2 : d2 < 256) (b3 : d3 < 256) (w : World) : Calls Tryz.prog 5 #[.int .u8 (d0 : Int), .int .u8 (d1 : Int), .int .u8 (d2 : Int), .int .u8 (d3 : Int)] w (SmPost w) := by
  have h : d0 % 3 = 0 ∨ d0 % 3 = 1 ∨ d0 % 3 = 2 := by omega
  rcases h with h | h | h
  · exact lawSmall0 d0 d1 d2 d3 b0 b1 b2 b3 h w
  · exact lawSmall1 d0 d1 d2 d3 b0 b1 b2 b3 h w
  · exact lawSmall2 d0 d1 d2 d3 b0 b1 b2 b3 h w
end Go.Proofs.YtjclhjijpailoaaGreatDoor
