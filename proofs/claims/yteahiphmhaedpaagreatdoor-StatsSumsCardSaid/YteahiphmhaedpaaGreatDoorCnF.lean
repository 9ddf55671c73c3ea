/- A small cluster, the reference's. -/
import Derived.Test.YteahiphmhaedpaaGreatDoorLnk
import Derived.Test.YteahiphmhaedpaaGreatDoorCnD
import Derived.Test.YteahiphmhaedpaaGreatDoorCfF
import Derived.Test.YteahiphmhaedpaaGreatDoorRhE
namespace Go.Proofs.YteahiphmhaedpaaGreatDoor
open Go.RowKit Law Go.Shelf
set_option linter.unusedVariables false
set_option linter.unusedSimpArgs false
set_option maxRecDepth 100000
attribute [local go_sem] Oper.semAt_some

theorem storeN_other {B C : Nat} (hne : B ≠ C) : ∀ (vs : List Value) (W : World) (j : Nat) (cs : List Value), BoxF W C cs → BoxF (storeN B W vs j) C cs
  | [], W, j, cs, h => h
  | v :: r, W, j, cs, h => storeN_other hne r _ (j + 1) cs (h.other (a := ⟨B, j, none⟩) hne v)
theorem own_lt {w : World} {base n size : Nat} {e : TypeId} {A : Option Addr} {c : Nat} {xs : List Value} (h : w.ownsRow base e size (.slice A n c) n xs) : ∀ b off, A = some ⟨b, off, none⟩ → b < w.heap.size := fun b off hA => by
  subst hA
  exact (h.lt b rfl).2
set_option maxHeartbeats 3200000 in
theorem rSmall0 (n f dmax rho : Int) (hn : n < 2 ∨ n > 8) (w : World) : Calls Tryz.prog 7 #[.int .i64 n, .int .i64 f, .int .i64 dmax, .int .i64 rho] w (SmallPost n f dmax rho w) := by
  obtain ⟨hz, hsz⟩ := zero_of_info (show (Tryz.prog.info? 32).map (fun i => (i.zero, i.size)) = some (some (.agg #[.int .i64 0, .slice none 0 0, .int .i64 0, .int .i64 0, .int .i64 0, .int .i64 0, .int .i64 0, .int .i64 0, .int .i64 0, .int .i64 0, .int .i64 0, .int .i64 0, .int .i64 0, .int .i64 0, .int .i64 0]), 15) by kernel_rfl)
  have k0 := boxF_made w [.int .i64 0, .slice none 0 0, .int .i64 0, .int .i64 0, .int .i64 0, .int .i64 0, .int .i64 0, .int .i64 0, .int .i64 0, .int .i64 0, .int .i64 0, .int .i64 0, .int .i64 0, .int .i64 0, .int .i64 0] 32
  have k1 := (Below.refl w.heap.size w).alloc (Nat.le_refl _) (.cells #[.int .i64 0, .slice none 0 0, .int .i64 0, .int .i64 0, .int .i64 0, .int .i64 0, .int .i64 0, .int .i64 0, .int .i64 0, .int .i64 0, .int .i64 0, .int .i64 0, .int .i64 0, .int .i64 0, .int .i64 0] 32)
  obtain ⟨w0, hw0⟩ : ∃ w0, w.alloc (.cells #[.int .i64 0, .slice none 0 0, .int .i64 0, .int .i64 0, .int .i64 0, .int .i64 0, .int .i64 0, .int .i64 0, .int .i64 0, .int .i64 0, .int .i64 0, .int .i64 0, .int .i64 0, .int .i64 0, .int .i64 0] 32) = w0 := ⟨_, rfl⟩
  have hs0 : w0.heap.size = w.heap.size + 1 := by rw [← hw0]; simp
  rw [hw0] at k0 k1
  have HP : Hid (∀ wf, Below w.heap.size w wf → SmallPost n f dmax rho w (.returned (.tuple #[.agg #[.int .i64 0, .slice none 0 0, .int .i64 0, .int .i64 0, .int .i64 0, .int .i64 0, .int .i64 0, .int .i64 0, .int .i64 0, .int .i64 0, .int .i64 0, .int .i64 0, .int .i64 0, .int .i64 0, .int .i64 0], .int .i64 1])) wf) := fun wf hb => ⟨hb, fun _ => rfl, fun h => absurd hn h, fun h => absurd hn h⟩
  by_cases h2 : n < 2
  · go_enter Tryz.func7, Tryz.ntmps7
    have zs0 := k0.1 0 _ rfl
    have zf0 := k0.2 0 (by simp)
    have zs1 := k0.1 1 _ rfl
    have zf1 := k0.2 1 (by simp)
    have zs2 := k0.1 2 _ rfl
    have zf2 := k0.2 2 (by simp)
    have zs3 := k0.1 3 _ rfl
    have zf3 := k0.2 3 (by simp)
    have zs4 := k0.1 4 _ rfl
    have zf4 := k0.2 4 (by simp)
    have zs5 := k0.1 5 _ rfl
    have zf5 := k0.2 5 (by simp)
    have zs6 := k0.1 6 _ rfl
    have zf6 := k0.2 6 (by simp)
    have zs7 := k0.1 7 _ rfl
    have zf7 := k0.2 7 (by simp)
    have zs8 := k0.1 8 _ rfl
    have zf8 := k0.2 8 (by simp)
    have zs9 := k0.1 9 _ rfl
    have zf9 := k0.2 9 (by simp)
    have zs10 := k0.1 10 _ rfl
    have zf10 := k0.2 10 (by simp)
    have zs11 := k0.1 11 _ rfl
    have zf11 := k0.2 11 (by simp)
    have zs12 := k0.1 12 _ rfl
    have zf12 := k0.2 12 (by simp)
    have zs13 := k0.1 13 _ rfl
    have zf13 := k0.2 13 (by simp)
    have zs14 := k0.1 14 _ rfl
    have zf14 := k0.2 14 (by simp)
    have zp := storeN_box w.heap.size [.int .i64 0, .slice none 0 0, .int .i64 0, .int .i64 0, .int .i64 0, .int .i64 0, .int .i64 0, .int .i64 0, .int .i64 0, .int .i64 0, .int .i64 0, .int .i64 0, .int .i64 0, .int .i64 0, .int .i64 0] w0 [] [.int .i64 0, .slice none 0 0, .int .i64 0, .int .i64 0, .int .i64 0, .int .i64 0, .int .i64 0, .int .i64 0, .int .i64 0, .int .i64 0, .int .i64 0, .int .i64 0, .int .i64 0, .int .i64 0, .int .i64 0] rfl k0
    have zq := storeN_below (N := w.heap.size) w.heap.size (Nat.le_refl _) [.int .i64 0, .slice none 0 0, .int .i64 0, .int .i64 0, .int .i64 0, .int .i64 0, .int .i64 0, .int .i64 0, .int .i64 0, .int .i64 0, .int .i64 0, .int .i64 0, .int .i64 0, .int .i64 0, .int .i64 0] w w0 0 k1
    obtain ⟨wf, hwf⟩ : ∃ wf, storeN w.heap.size w0 [.int .i64 0, .slice none 0 0, .int .i64 0, .int .i64 0, .int .i64 0, .int .i64 0, .int .i64 0, .int .i64 0, .int .i64 0, .int .i64 0, .int .i64 0, .int .i64 0, .int .i64 0, .int .i64 0, .int .i64 0] 0 = wf := ⟨_, rfl⟩
    rw [show ([] : List Value).length = 0 from rfl, List.nil_append, hwf] at zp
    rw [hwf] at zq
    have hwf0 := hwf
    simp only [storeN, Nat.reduceAdd] at hwf
    have ef0 := zp.1 0 _ rfl
    have ef1 := zp.1 1 _ rfl
    have ef2 := zp.1 2 _ rfl
    have ef3 := zp.1 3 _ rfl
    have ef4 := zp.1 4 _ rfl
    have ef5 := zp.1 5 _ rfl
    have ef6 := zp.1 6 _ rfl
    have ef7 := zp.1 7 _ rfl
    have ef8 := zp.1 8 _ rfl
    have ef9 := zp.1 9 _ rfl
    have ef10 := zp.1 10 _ rfl
    have ef11 := zp.1 11 _ rfl
    have ef12 := zp.1 12 _ rfl
    have ef13 := zp.1 13 _ rfl
    have ef14 := zp.1 14 _ rfl
    have HBF := Lib.hid zq
    clear zp zq hwf0 
    go_wp2
    refine bodyPost_ret (v := .tuple #[.agg #[.int .i64 0, .slice none 0 0, .int .i64 0, .int .i64 0, .int .i64 0, .int .i64 0, .int .i64 0, .int .i64 0, .int .i64 0, .int .i64 0, .int .i64 0, .int .i64 0, .int .i64 0, .int .i64 0, .int .i64 0], .int .i64 1]) (by simp [results, Tryz.results7, go_sem, hz, hsz, ef0, ef1, ef2, ef3, ef4, ef5, ef6, ef7, ef8, ef9, ef10, ef11, ef12, ef13, ef14]) rfl ?_
    exact HP.out _ HBF.out
  · have h8 : n > 8 := by omega
    go_enter Tryz.func7, Tryz.ntmps7
    have zs0 := k0.1 0 _ rfl
    have zf0 := k0.2 0 (by simp)
    have zs1 := k0.1 1 _ rfl
    have zf1 := k0.2 1 (by simp)
    have zs2 := k0.1 2 _ rfl
    have zf2 := k0.2 2 (by simp)
    have zs3 := k0.1 3 _ rfl
    have zf3 := k0.2 3 (by simp)
    have zs4 := k0.1 4 _ rfl
    have zf4 := k0.2 4 (by simp)
    have zs5 := k0.1 5 _ rfl
    have zf5 := k0.2 5 (by simp)
    have zs6 := k0.1 6 _ rfl
    have zf6 := k0.2 6 (by simp)
    have zs7 := k0.1 7 _ rfl
    have zf7 := k0.2 7 (by simp)
    have zs8 := k0.1 8 _ rfl
    have zf8 := k0.2 8 (by simp)
    have zs9 := k0.1 9 _ rfl
    have zf9 := k0.2 9 (by simp)
    have zs10 := k0.1 10 _ rfl
    have zf10 := k0.2 10 (by simp)
    have zs11 := k0.1 11 _ rfl
    have zf11 := k0.2 11 (by simp)
    have zs12 := k0.1 12 _ rfl
    have zf12 := k0.2 12 (by simp)
    have zs13 := k0.1 13 _ rfl
    have zf13 := k0.2 13 (by simp)
    have zs14 := k0.1 14 _ rfl
    have zf14 := k0.2 14 (by simp)
    have zp := storeN_box w.heap.size [.int .i64 0, .slice none 0 0, .int .i64 0, .int .i64 0, .int .i64 0, .int .i64 0, .int .i64 0, .int .i64 0, .int .i64 0, .int .i64 0, .int .i64 0, .int .i64 0, .int .i64 0, .int .i64 0, .int .i64 0] w0 [] [.int .i64 0, .slice none 0 0, .int .i64 0, .int .i64 0, .int .i64 0, .int .i64 0, .int .i64 0, .int .i64 0, .int .i64 0, .int .i64 0, .int .i64 0, .int .i64 0, .int .i64 0, .int .i64 0, .int .i64 0] rfl k0
    have zq := storeN_below (N := w.heap.size) w.heap.size (Nat.le_refl _) [.int .i64 0, .slice none 0 0, .int .i64 0, .int .i64 0, .int .i64 0, .int .i64 0, .int .i64 0, .int .i64 0, .int .i64 0, .int .i64 0, .int .i64 0, .int .i64 0, .int .i64 0, .int .i64 0, .int .i64 0] w w0 0 k1
    obtain ⟨wf, hwf⟩ : ∃ wf, storeN w.heap.size w0 [.int .i64 0, .slice none 0 0, .int .i64 0, .int .i64 0, .int .i64 0, .int .i64 0, .int .i64 0, .int .i64 0, .int .i64 0, .int .i64 0, .int .i64 0, .int .i64 0, .int .i64 0, .int .i64 0, .int .i64 0] 0 = wf := ⟨_, rfl⟩
    rw [show ([] : List Value).length = 0 from rfl, List.nil_append, hwf] at zp
    rw [hwf] at zq
    have hwf0 := hwf
    simp only [storeN, Nat.reduceAdd] at hwf
    have ef0 := zp.1 0 _ rfl
    have ef1 := zp.1 1 _ rfl
    have ef2 := zp.1 2 _ rfl
    have ef3 := zp.1 3 _ rfl
    have ef4 := zp.1 4 _ rfl
    have ef5 := zp.1 5 _ rfl
    have ef6 := zp.1 6 _ rfl
    have ef7 := zp.1 7 _ rfl
    have ef8 := zp.1 8 _ rfl
    have ef9 := zp.1 9 _ rfl
    have ef10 := zp.1 10 _ rfl
    have ef11 := zp.1 11 _ rfl
    have ef12 := zp.1 12 _ rfl
    have ef13 := zp.1 13 _ rfl
    have ef14 := zp.1 14 _ rfl
    have HBF := Lib.hid zq
    clear zp zq hwf0 
    go_wp2
    refine bodyPost_ret (v := .tuple #[.agg #[.int .i64 0, .slice none 0 0, .int .i64 0, .int .i64 0, .int .i64 0, .int .i64 0, .int .i64 0, .int .i64 0, .int .i64 0, .int .i64 0, .int .i64 0, .int .i64 0, .int .i64 0, .int .i64 0, .int .i64 0], .int .i64 1]) (by simp [results, Tryz.results7, go_sem, hz, hsz, ef0, ef1, ef2, ef3, ef4, ef5, ef6, ef7, ef8, ef9, ef10, ef11, ef12, ef13, ef14]) rfl ?_
    exact HP.out _ HBF.out
set_option maxHeartbeats 6400000 in
theorem rSmall1 (m : Nat) (h2 : 2 ≤ m) (h8 : m ≤ 8) (f dmax rho : Int) (hF : faultN (sugC (smallC m f dmax rho)) (fullL m) ≠ 0) (w : World) : Calls Tryz.prog 7 #[.int .i64 (m : Int), .int .i64 f, .int .i64 dmax, .int .i64 rho] w (SmallPost (m : Int) f dmax rho w) := by
  obtain ⟨hz, hsz⟩ := zero_of_info (show (Tryz.prog.info? 32).map (fun i => (i.zero, i.size)) = some (some (.agg #[.int .i64 0, .slice none 0 0, .int .i64 0, .int .i64 0, .int .i64 0, .int .i64 0, .int .i64 0, .int .i64 0, .int .i64 0, .int .i64 0, .int .i64 0, .int .i64 0, .int .i64 0, .int .i64 0, .int .i64 0]), 15) by kernel_rfl)
  have k0 := boxF_made w [.int .i64 0, .slice none 0 0, .int .i64 0, .int .i64 0, .int .i64 0, .int .i64 0, .int .i64 0, .int .i64 0, .int .i64 0, .int .i64 0, .int .i64 0, .int .i64 0, .int .i64 0, .int .i64 0, .int .i64 0] 32
  have k1 := (Below.refl w.heap.size w).alloc (Nat.le_refl _) (.cells #[.int .i64 0, .slice none 0 0, .int .i64 0, .int .i64 0, .int .i64 0, .int .i64 0, .int .i64 0, .int .i64 0, .int .i64 0, .int .i64 0, .int .i64 0, .int .i64 0, .int .i64 0, .int .i64 0, .int .i64 0] 32)
  obtain ⟨w0, hw0⟩ : ∃ w0, w.alloc (.cells #[.int .i64 0, .slice none 0 0, .int .i64 0, .int .i64 0, .int .i64 0, .int .i64 0, .int .i64 0, .int .i64 0, .int .i64 0, .int .i64 0, .int .i64 0, .int .i64 0, .int .i64 0, .int .i64 0, .int .i64 0] 32) = w0 := ⟨_, rfl⟩
  have hs0 : w0.heap.size = w.heap.size + 1 := by rw [← hw0]; simp
  rw [hw0] at k0 k1
  have CFU := Lib.hid (fun W => rFull m (by omega) W)
  have CS := Lib.hid (fun (A : Option Addr) (l k : Nat) (W : World) => show Calls Tryz.prog 15 #[.agg #[.int .i64 (m : Int), .slice A l k, .int .i64 f, .int .i64 1, .int .i64 dmax, .int .i64 rho, .int .i64 64, .int .i64 0, .int .i64 0, .int .i64 0, .int .i64 4096, .int .i64 4096, .int .i64 65536, .int .i64 64, .int .i64 64]] W (SugPost (smallC m f dmax rho) A l k W) from refSuggest (smallC m f dmax rho) A l k W)
  have hsn := sugC_n (smallC m f dmax rho)
  have hlen : (fullL m).length ≤ 4096 := fullTo_len64 (by omega) (by omega)
  have HPOST : Hid (∀ e wf, Below w.heap.size w wf → (faultN (sugC (smallC m f dmax rho)) (fullL m) ≠ 0 → e = .returned (.tuple #[.agg #[.int .i64 0, .slice none 0 0, .int .i64 0, .int .i64 0, .int .i64 0, .int .i64 0, .int .i64 0, .int .i64 0, .int .i64 0, .int .i64 0, .int .i64 0, .int .i64 0, .int .i64 0, .int .i64 0, .int .i64 0], .int .i64 17])) → (faultN (sugC (smallC m f dmax rho)) (fullL m) = 0 → ∃ A k, e = .returned (.tuple #[.agg ((sugC (smallC m f dmax rho)).cells A (fullL m).length k).toArray, .int .i64 0]) ∧ LinksAt wf A (fullL m) ∧ (fullL m).length ≤ k) → SmallPost (m : Int) f dmax rho w e wf) := fun e wf hb h17 h0 => ⟨hb, fun h => by omega, fun _ => h17, fun _ => h0⟩
  unfold SugPost at CS
  obtain ⟨sc, hsc⟩ : ∃ sc, sugC (smallC m f dmax rho) = sc := ⟨_, rfl⟩
  rw [hsc] at CS hsn HPOST hF
  obtain ⟨L, hL⟩ : ∃ L, fullL m = L := ⟨_, rfl⟩
  rw [hL] at CFU hlen HPOST hF
  obtain ⟨l0, hl0⟩ : ∃ l0, L.length = l0 := ⟨_, rfl⟩
  obtain ⟨sn, sf, sdmin, sdmax, srho, sslew, sround, swindow, sattend, sseen, shist, sfly, squota, sbody⟩ := sc
  have hsn' : sn = (m : Int) := hsn
  have CC := Lib.hid (fun (A : Option Addr) (k : Nat) (W : World) (hA : LinksAt W A L) => rFault ⟨sn, sf, sdmin, sdmax, srho, sslew, sround, swindow, sattend, sseen, shist, sfly, squota, sbody⟩ A L.length k L rfl (by omega) (fun _ => by show sn < 9; omega) W hA)
  obtain ⟨FN, hFN⟩ : ∃ FN, faultN ⟨sn, sf, sdmin, sdmax, srho, sslew, sround, swindow, sattend, sseen, shist, sfly, squota, sbody⟩ L = FN := ⟨_, rfl⟩
  rw [hFN] at CC hF HPOST
  have HF := Lib.hid hF
  clear hsc hL hF hFN hsn hsn'
  go_enter Tryz.func7, Tryz.ntmps7
  go_wp2_with fail
  refine (CFU.out _).mono ?_
  rintro e w1 ⟨v, rfl, hown, hb1⟩
  obtain ⟨A, k, rfl, hk⟩ := own_form2 hown
  have hLA := ownLinks hown
  have hAB : ∀ b off, A = some ⟨b, off, none⟩ → w.heap.size ≠ b := fun b off hA => by
    have := own_base hown b off hA
    omega
  have hAB1 : ∀ b off, A = some ⟨b, off, none⟩ → w1.heap.size ≠ b := fun b off hA => by
    have := own_lt hown b off hA
    omega
  have hb01 := k1.trans (hb1.mono (by omega))
  have hz1 := k0.keep hb1
  rw [hl0]
  obtain ⟨w2, hw2⟩ : ∃ w2, w1.alloc (.cells #[.int .i64 (m : Int), .slice A l0 k, .int .i64 f, .int .i64 1, .int .i64 dmax, .int .i64 rho, .int .i64 64, .int .i64 0, .int .i64 0, .int .i64 0, .int .i64 4096, .int .i64 4096, .int .i64 65536, .int .i64 64, .int .i64 64] 32) = w2 := ⟨_, rfl⟩
  have hb2 : Below w1.heap.size w1 w2 := by rw [← hw2]; exact (Below.refl _ _).alloc (Nat.le_refl _) _
  have hbx2 : BoxF w2 w1.heap.size [.int .i64 (m : Int), .slice A l0 k, .int .i64 f, .int .i64 1, .int .i64 dmax, .int .i64 rho, .int .i64 64, .int .i64 0, .int .i64 0, .int .i64 0, .int .i64 4096, .int .i64 4096, .int .i64 65536, .int .i64 64, .int .i64 64] := by rw [← hw2]; exact boxF_made _ _ _
  have hz2 := hz1.keep hb2
  have hLA2 := hLA.below hb2
  have hb02 := hb01.trans (hb2.mono hb01.size)
  have d0 := hbx2.1 0 _ rfl
  have d1 := hbx2.1 1 _ rfl
  have d2 := hbx2.1 2 _ rfl
  have d3 := hbx2.1 3 _ rfl
  have d4 := hbx2.1 4 _ rfl
  have d5 := hbx2.1 5 _ rfl
  have d6 := hbx2.1 6 _ rfl
  have d7 := hbx2.1 7 _ rfl
  have d8 := hbx2.1 8 _ rfl
  have d9 := hbx2.1 9 _ rfl
  have d10 := hbx2.1 10 _ rfl
  have d11 := hbx2.1 11 _ rfl
  have d12 := hbx2.1 12 _ rfl
  have d13 := hbx2.1 13 _ rfl
  have d14 := hbx2.1 14 _ rfl
  go_wp2_with fail
  refine (CS.out A l0 k _).mono ?_
  rintro e w3 ⟨⟨b, rfl⟩, hb3⟩
  have hbx3 := hbx2.keep hb3
  have hz3 := hz2.keep hb3
  have hLA3 := hLA2.below hb3
  have hb03 := hb02.trans (hb3.mono hb02.size)
  have hs1 : w.heap.size ≤ w1.heap.size := hb01.size
  have hs1' : w.heap.size < w1.heap.size := Nat.lt_of_lt_of_le (by omega) hb1.size
  clear d0 d1 d2 d3 d4 d5 d6 d7 d8 d9 d10 d11 d12 d13 d14
  have zp := storeN_box w1.heap.size [.int .i64 sn, .slice A l0 k, .int .i64 sf, .int .i64 sdmin, .int .i64 sdmax, .int .i64 srho, .int .i64 sslew, .int .i64 sround, .int .i64 swindow, .int .i64 sattend, .int .i64 sseen, .int .i64 shist, .int .i64 sfly, .int .i64 squota, .int .i64 sbody] w3 [] [.int .i64 (m : Int), .slice A l0 k, .int .i64 f, .int .i64 1, .int .i64 dmax, .int .i64 rho, .int .i64 64, .int .i64 0, .int .i64 0, .int .i64 0, .int .i64 4096, .int .i64 4096, .int .i64 65536, .int .i64 64, .int .i64 64] rfl hbx3
  have zq := storeN_below (N := w.heap.size) w1.heap.size hs1 [.int .i64 sn, .slice A l0 k, .int .i64 sf, .int .i64 sdmin, .int .i64 sdmax, .int .i64 srho, .int .i64 sslew, .int .i64 sround, .int .i64 swindow, .int .i64 sattend, .int .i64 sseen, .int .i64 shist, .int .i64 sfly, .int .i64 squota, .int .i64 sbody] w w3 0 hb03
  have zz := storeN_other (C := w.heap.size) (B := w1.heap.size) (by omega) [.int .i64 sn, .slice A l0 k, .int .i64 sf, .int .i64 sdmin, .int .i64 sdmax, .int .i64 srho, .int .i64 sslew, .int .i64 sround, .int .i64 swindow, .int .i64 sattend, .int .i64 sseen, .int .i64 shist, .int .i64 sfly, .int .i64 squota, .int .i64 sbody] w3 0 _ hz3
  have zl := storeN_links hAB1 [.int .i64 sn, .slice A l0 k, .int .i64 sf, .int .i64 sdmin, .int .i64 sdmax, .int .i64 srho, .int .i64 sslew, .int .i64 sround, .int .i64 swindow, .int .i64 sattend, .int .i64 sseen, .int .i64 shist, .int .i64 sfly, .int .i64 squota, .int .i64 sbody] w3 0 hLA3
  obtain ⟨w4, hw4⟩ : ∃ w4, storeN w1.heap.size w3 [.int .i64 sn, .slice A l0 k, .int .i64 sf, .int .i64 sdmin, .int .i64 sdmax, .int .i64 srho, .int .i64 sslew, .int .i64 sround, .int .i64 swindow, .int .i64 sattend, .int .i64 sseen, .int .i64 shist, .int .i64 sfly, .int .i64 squota, .int .i64 sbody] 0 = w4 := ⟨_, rfl⟩
  rw [show ([] : List Value).length = 0 from rfl, List.nil_append, hw4] at zp
  rw [hw4] at zq zz zl
  simp only [storeN, Nat.reduceAdd] at hw4
  have q0 := hbx3.1 0 _ rfl
  have p0 := hbx3.2 0 (by simp)
  have q1 := hbx3.1 1 _ rfl
  have p1 := hbx3.2 1 (by simp)
  have q2 := hbx3.1 2 _ rfl
  have p2 := hbx3.2 2 (by simp)
  have q3 := hbx3.1 3 _ rfl
  have p3 := hbx3.2 3 (by simp)
  have q4 := hbx3.1 4 _ rfl
  have p4 := hbx3.2 4 (by simp)
  have q5 := hbx3.1 5 _ rfl
  have p5 := hbx3.2 5 (by simp)
  have q6 := hbx3.1 6 _ rfl
  have p6 := hbx3.2 6 (by simp)
  have q7 := hbx3.1 7 _ rfl
  have p7 := hbx3.2 7 (by simp)
  have q8 := hbx3.1 8 _ rfl
  have p8 := hbx3.2 8 (by simp)
  have q9 := hbx3.1 9 _ rfl
  have p9 := hbx3.2 9 (by simp)
  have q10 := hbx3.1 10 _ rfl
  have p10 := hbx3.2 10 (by simp)
  have q11 := hbx3.1 11 _ rfl
  have p11 := hbx3.2 11 (by simp)
  have q12 := hbx3.1 12 _ rfl
  have p12 := hbx3.2 12 (by simp)
  have q13 := hbx3.1 13 _ rfl
  have p13 := hbx3.2 13 (by simp)
  have q14 := hbx3.1 14 _ rfl
  have p14 := hbx3.2 14 (by simp)
  have g0 := zp.1 0 _ rfl
  have g1 := zp.1 1 _ rfl
  have g2 := zp.1 2 _ rfl
  have g3 := zp.1 3 _ rfl
  have g4 := zp.1 4 _ rfl
  have g5 := zp.1 5 _ rfl
  have g6 := zp.1 6 _ rfl
  have g7 := zp.1 7 _ rfl
  have g8 := zp.1 8 _ rfl
  have g9 := zp.1 9 _ rfl
  have g10 := zp.1 10 _ rfl
  have g11 := zp.1 11 _ rfl
  have g12 := zp.1 12 _ rfl
  have g13 := zp.1 13 _ rfl
  have g14 := zp.1 14 _ rfl
  have HQB := Lib.hid zz
  have HZL := Lib.hid zl
  have HZQ := Lib.hid zq
  clear zp zz zl zq hbx3 hz3 hLA3 hb03 hz1 hb1 hb2 hw2 hbx2 hz2 hLA2 hb02 hLA hown k0 k1 hb3 hb01
  go_wp2_with fail
  have CK := CC.out A k w4 HZL.out
  rw [hl0] at CK
  refine CK.mono ?_
  rintro e w5 ⟨rfl, hb5⟩
  have hz5 := HQB.out.keep hb5
  have hb05 := HZQ.out.trans (hb5.mono HZQ.out.size)
  have hLA5 := HZL.out.below hb5
  have hFi : (FN : Int) ≠ 0 := by have := HF.out; omega
  clear hAB hAB1 CK hb5 hw4
  clear q0 p0 g0 q1 p1 g1 q2 p2 g2 q3 p3 g3 q4 p4 g4 q5 p5 g5 q6 p6 g6 q7 p7 g7 q8 p8 g8 q9 p9 g9 q10 p10 g10 q11 p11 g11 q12 p12 g12 q13 p13 g13 q14 p14 g14
  have zs0 := hz5.1 0 _ rfl
  have zf0 := hz5.2 0 (by simp)
  have zs1 := hz5.1 1 _ rfl
  have zf1 := hz5.2 1 (by simp)
  have zs2 := hz5.1 2 _ rfl
  have zf2 := hz5.2 2 (by simp)
  have zs3 := hz5.1 3 _ rfl
  have zf3 := hz5.2 3 (by simp)
  have zs4 := hz5.1 4 _ rfl
  have zf4 := hz5.2 4 (by simp)
  have zs5 := hz5.1 5 _ rfl
  have zf5 := hz5.2 5 (by simp)
  have zs6 := hz5.1 6 _ rfl
  have zf6 := hz5.2 6 (by simp)
  have zs7 := hz5.1 7 _ rfl
  have zf7 := hz5.2 7 (by simp)
  have zs8 := hz5.1 8 _ rfl
  have zf8 := hz5.2 8 (by simp)
  have zs9 := hz5.1 9 _ rfl
  have zf9 := hz5.2 9 (by simp)
  have zs10 := hz5.1 10 _ rfl
  have zf10 := hz5.2 10 (by simp)
  have zs11 := hz5.1 11 _ rfl
  have zf11 := hz5.2 11 (by simp)
  have zs12 := hz5.1 12 _ rfl
  have zf12 := hz5.2 12 (by simp)
  have zs13 := hz5.1 13 _ rfl
  have zf13 := hz5.2 13 (by simp)
  have zs14 := hz5.1 14 _ rfl
  have zf14 := hz5.2 14 (by simp)
  have zp := storeN_box w.heap.size [.int .i64 0, .slice none 0 0, .int .i64 0, .int .i64 0, .int .i64 0, .int .i64 0, .int .i64 0, .int .i64 0, .int .i64 0, .int .i64 0, .int .i64 0, .int .i64 0, .int .i64 0, .int .i64 0, .int .i64 0] w5 [] [.int .i64 0, .slice none 0 0, .int .i64 0, .int .i64 0, .int .i64 0, .int .i64 0, .int .i64 0, .int .i64 0, .int .i64 0, .int .i64 0, .int .i64 0, .int .i64 0, .int .i64 0, .int .i64 0, .int .i64 0] rfl hz5
  have zq := storeN_below (N := w.heap.size) w.heap.size (Nat.le_refl _) [.int .i64 0, .slice none 0 0, .int .i64 0, .int .i64 0, .int .i64 0, .int .i64 0, .int .i64 0, .int .i64 0, .int .i64 0, .int .i64 0, .int .i64 0, .int .i64 0, .int .i64 0, .int .i64 0, .int .i64 0] w w5 0 hb05
  obtain ⟨wf, hwf⟩ : ∃ wf, storeN w.heap.size w5 [.int .i64 0, .slice none 0 0, .int .i64 0, .int .i64 0, .int .i64 0, .int .i64 0, .int .i64 0, .int .i64 0, .int .i64 0, .int .i64 0, .int .i64 0, .int .i64 0, .int .i64 0, .int .i64 0, .int .i64 0] 0 = wf := ⟨_, rfl⟩
  rw [show ([] : List Value).length = 0 from rfl, List.nil_append, hwf] at zp
  rw [hwf] at zq
  have hwf0 := hwf
  simp only [storeN, Nat.reduceAdd] at hwf
  have ef0 := zp.1 0 _ rfl
  have ef1 := zp.1 1 _ rfl
  have ef2 := zp.1 2 _ rfl
  have ef3 := zp.1 3 _ rfl
  have ef4 := zp.1 4 _ rfl
  have ef5 := zp.1 5 _ rfl
  have ef6 := zp.1 6 _ rfl
  have ef7 := zp.1 7 _ rfl
  have ef8 := zp.1 8 _ rfl
  have ef9 := zp.1 9 _ rfl
  have ef10 := zp.1 10 _ rfl
  have ef11 := zp.1 11 _ rfl
  have ef12 := zp.1 12 _ rfl
  have ef13 := zp.1 13 _ rfl
  have ef14 := zp.1 14 _ rfl
  have HBF := Lib.hid zq
  clear zp zq hwf0 hz5 hb05
  go_wp2
  refine bodyPost_ret (v := .tuple #[.agg #[.int .i64 0, .slice none 0 0, .int .i64 0, .int .i64 0, .int .i64 0, .int .i64 0, .int .i64 0, .int .i64 0, .int .i64 0, .int .i64 0, .int .i64 0, .int .i64 0, .int .i64 0, .int .i64 0, .int .i64 0], .int .i64 17]) (by simp [results, Tryz.results7, go_sem, hz, hsz, ef0, ef1, ef2, ef3, ef4, ef5, ef6, ef7, ef8, ef9, ef10, ef11, ef12, ef13, ef14]) rfl ?_
  exact HPOST.out _ _ HBF.out (fun _ => rfl) (fun h => absurd h HF.out)
set_option maxHeartbeats 6400000 in
theorem rSmall2 (m : Nat) (h2 : 2 ≤ m) (h8 : m ≤ 8) (f dmax rho : Int) (hF : faultN (sugC (smallC m f dmax rho)) (fullL m) = 0) (w : World) : Calls Tryz.prog 7 #[.int .i64 (m : Int), .int .i64 f, .int .i64 dmax, .int .i64 rho] w (SmallPost (m : Int) f dmax rho w) := by
  obtain ⟨hz, hsz⟩ := zero_of_info (show (Tryz.prog.info? 32).map (fun i => (i.zero, i.size)) = some (some (.agg #[.int .i64 0, .slice none 0 0, .int .i64 0, .int .i64 0, .int .i64 0, .int .i64 0, .int .i64 0, .int .i64 0, .int .i64 0, .int .i64 0, .int .i64 0, .int .i64 0, .int .i64 0, .int .i64 0, .int .i64 0]), 15) by kernel_rfl)
  have k0 := boxF_made w [.int .i64 0, .slice none 0 0, .int .i64 0, .int .i64 0, .int .i64 0, .int .i64 0, .int .i64 0, .int .i64 0, .int .i64 0, .int .i64 0, .int .i64 0, .int .i64 0, .int .i64 0, .int .i64 0, .int .i64 0] 32
  have k1 := (Below.refl w.heap.size w).alloc (Nat.le_refl _) (.cells #[.int .i64 0, .slice none 0 0, .int .i64 0, .int .i64 0, .int .i64 0, .int .i64 0, .int .i64 0, .int .i64 0, .int .i64 0, .int .i64 0, .int .i64 0, .int .i64 0, .int .i64 0, .int .i64 0, .int .i64 0] 32)
  obtain ⟨w0, hw0⟩ : ∃ w0, w.alloc (.cells #[.int .i64 0, .slice none 0 0, .int .i64 0, .int .i64 0, .int .i64 0, .int .i64 0, .int .i64 0, .int .i64 0, .int .i64 0, .int .i64 0, .int .i64 0, .int .i64 0, .int .i64 0, .int .i64 0, .int .i64 0] 32) = w0 := ⟨_, rfl⟩
  have hs0 : w0.heap.size = w.heap.size + 1 := by rw [← hw0]; simp
  rw [hw0] at k0 k1
  have CFU := Lib.hid (fun W => rFull m (by omega) W)
  have CS := Lib.hid (fun (A : Option Addr) (l k : Nat) (W : World) => show Calls Tryz.prog 15 #[.agg #[.int .i64 (m : Int), .slice A l k, .int .i64 f, .int .i64 1, .int .i64 dmax, .int .i64 rho, .int .i64 64, .int .i64 0, .int .i64 0, .int .i64 0, .int .i64 4096, .int .i64 4096, .int .i64 65536, .int .i64 64, .int .i64 64]] W (SugPost (smallC m f dmax rho) A l k W) from refSuggest (smallC m f dmax rho) A l k W)
  have hsn := sugC_n (smallC m f dmax rho)
  have hlen : (fullL m).length ≤ 4096 := fullTo_len64 (by omega) (by omega)
  have HPOST : Hid (∀ e wf, Below w.heap.size w wf → (faultN (sugC (smallC m f dmax rho)) (fullL m) ≠ 0 → e = .returned (.tuple #[.agg #[.int .i64 0, .slice none 0 0, .int .i64 0, .int .i64 0, .int .i64 0, .int .i64 0, .int .i64 0, .int .i64 0, .int .i64 0, .int .i64 0, .int .i64 0, .int .i64 0, .int .i64 0, .int .i64 0, .int .i64 0], .int .i64 17])) → (faultN (sugC (smallC m f dmax rho)) (fullL m) = 0 → ∃ A k, e = .returned (.tuple #[.agg ((sugC (smallC m f dmax rho)).cells A (fullL m).length k).toArray, .int .i64 0]) ∧ LinksAt wf A (fullL m) ∧ (fullL m).length ≤ k) → SmallPost (m : Int) f dmax rho w e wf) := fun e wf hb h17 h0 => ⟨hb, fun h => by omega, fun _ => h17, fun _ => h0⟩
  unfold SugPost at CS
  obtain ⟨sc, hsc⟩ : ∃ sc, sugC (smallC m f dmax rho) = sc := ⟨_, rfl⟩
  rw [hsc] at CS hsn HPOST hF
  obtain ⟨L, hL⟩ : ∃ L, fullL m = L := ⟨_, rfl⟩
  rw [hL] at CFU hlen HPOST hF
  obtain ⟨l0, hl0⟩ : ∃ l0, L.length = l0 := ⟨_, rfl⟩
  obtain ⟨sn, sf, sdmin, sdmax, srho, sslew, sround, swindow, sattend, sseen, shist, sfly, squota, sbody⟩ := sc
  have hsn' : sn = (m : Int) := hsn
  have CC := Lib.hid (fun (A : Option Addr) (k : Nat) (W : World) (hA : LinksAt W A L) => rFault ⟨sn, sf, sdmin, sdmax, srho, sslew, sround, swindow, sattend, sseen, shist, sfly, squota, sbody⟩ A L.length k L rfl (by omega) (fun _ => by show sn < 9; omega) W hA)
  obtain ⟨FN, hFN⟩ : ∃ FN, faultN ⟨sn, sf, sdmin, sdmax, srho, sslew, sround, swindow, sattend, sseen, shist, sfly, squota, sbody⟩ L = FN := ⟨_, rfl⟩
  rw [hFN] at CC hF HPOST
  have HF := Lib.hid hF
  clear hsc hL hF hFN hsn hsn'
  go_enter Tryz.func7, Tryz.ntmps7
  go_wp2_with fail
  refine (CFU.out _).mono ?_
  rintro e w1 ⟨v, rfl, hown, hb1⟩
  obtain ⟨A, k, rfl, hk⟩ := own_form2 hown
  have hLA := ownLinks hown
  have hAB : ∀ b off, A = some ⟨b, off, none⟩ → w.heap.size ≠ b := fun b off hA => by
    have := own_base hown b off hA
    omega
  have hAB1 : ∀ b off, A = some ⟨b, off, none⟩ → w1.heap.size ≠ b := fun b off hA => by
    have := own_lt hown b off hA
    omega
  have hb01 := k1.trans (hb1.mono (by omega))
  have hz1 := k0.keep hb1
  rw [hl0]
  obtain ⟨w2, hw2⟩ : ∃ w2, w1.alloc (.cells #[.int .i64 (m : Int), .slice A l0 k, .int .i64 f, .int .i64 1, .int .i64 dmax, .int .i64 rho, .int .i64 64, .int .i64 0, .int .i64 0, .int .i64 0, .int .i64 4096, .int .i64 4096, .int .i64 65536, .int .i64 64, .int .i64 64] 32) = w2 := ⟨_, rfl⟩
  have hb2 : Below w1.heap.size w1 w2 := by rw [← hw2]; exact (Below.refl _ _).alloc (Nat.le_refl _) _
  have hbx2 : BoxF w2 w1.heap.size [.int .i64 (m : Int), .slice A l0 k, .int .i64 f, .int .i64 1, .int .i64 dmax, .int .i64 rho, .int .i64 64, .int .i64 0, .int .i64 0, .int .i64 0, .int .i64 4096, .int .i64 4096, .int .i64 65536, .int .i64 64, .int .i64 64] := by rw [← hw2]; exact boxF_made _ _ _
  have hz2 := hz1.keep hb2
  have hLA2 := hLA.below hb2
  have hb02 := hb01.trans (hb2.mono hb01.size)
  have d0 := hbx2.1 0 _ rfl
  have d1 := hbx2.1 1 _ rfl
  have d2 := hbx2.1 2 _ rfl
  have d3 := hbx2.1 3 _ rfl
  have d4 := hbx2.1 4 _ rfl
  have d5 := hbx2.1 5 _ rfl
  have d6 := hbx2.1 6 _ rfl
  have d7 := hbx2.1 7 _ rfl
  have d8 := hbx2.1 8 _ rfl
  have d9 := hbx2.1 9 _ rfl
  have d10 := hbx2.1 10 _ rfl
  have d11 := hbx2.1 11 _ rfl
  have d12 := hbx2.1 12 _ rfl
  have d13 := hbx2.1 13 _ rfl
  have d14 := hbx2.1 14 _ rfl
  go_wp2_with fail
  refine (CS.out A l0 k _).mono ?_
  rintro e w3 ⟨⟨b, rfl⟩, hb3⟩
  have hbx3 := hbx2.keep hb3
  have hz3 := hz2.keep hb3
  have hLA3 := hLA2.below hb3
  have hb03 := hb02.trans (hb3.mono hb02.size)
  have hs1 : w.heap.size ≤ w1.heap.size := hb01.size
  have hs1' : w.heap.size < w1.heap.size := Nat.lt_of_lt_of_le (by omega) hb1.size
  clear d0 d1 d2 d3 d4 d5 d6 d7 d8 d9 d10 d11 d12 d13 d14
  have zp := storeN_box w1.heap.size [.int .i64 sn, .slice A l0 k, .int .i64 sf, .int .i64 sdmin, .int .i64 sdmax, .int .i64 srho, .int .i64 sslew, .int .i64 sround, .int .i64 swindow, .int .i64 sattend, .int .i64 sseen, .int .i64 shist, .int .i64 sfly, .int .i64 squota, .int .i64 sbody] w3 [] [.int .i64 (m : Int), .slice A l0 k, .int .i64 f, .int .i64 1, .int .i64 dmax, .int .i64 rho, .int .i64 64, .int .i64 0, .int .i64 0, .int .i64 0, .int .i64 4096, .int .i64 4096, .int .i64 65536, .int .i64 64, .int .i64 64] rfl hbx3
  have zq := storeN_below (N := w.heap.size) w1.heap.size hs1 [.int .i64 sn, .slice A l0 k, .int .i64 sf, .int .i64 sdmin, .int .i64 sdmax, .int .i64 srho, .int .i64 sslew, .int .i64 sround, .int .i64 swindow, .int .i64 sattend, .int .i64 sseen, .int .i64 shist, .int .i64 sfly, .int .i64 squota, .int .i64 sbody] w w3 0 hb03
  have zz := storeN_other (C := w.heap.size) (B := w1.heap.size) (by omega) [.int .i64 sn, .slice A l0 k, .int .i64 sf, .int .i64 sdmin, .int .i64 sdmax, .int .i64 srho, .int .i64 sslew, .int .i64 sround, .int .i64 swindow, .int .i64 sattend, .int .i64 sseen, .int .i64 shist, .int .i64 sfly, .int .i64 squota, .int .i64 sbody] w3 0 _ hz3
  have zl := storeN_links hAB1 [.int .i64 sn, .slice A l0 k, .int .i64 sf, .int .i64 sdmin, .int .i64 sdmax, .int .i64 srho, .int .i64 sslew, .int .i64 sround, .int .i64 swindow, .int .i64 sattend, .int .i64 sseen, .int .i64 shist, .int .i64 sfly, .int .i64 squota, .int .i64 sbody] w3 0 hLA3
  obtain ⟨w4, hw4⟩ : ∃ w4, storeN w1.heap.size w3 [.int .i64 sn, .slice A l0 k, .int .i64 sf, .int .i64 sdmin, .int .i64 sdmax, .int .i64 srho, .int .i64 sslew, .int .i64 sround, .int .i64 swindow, .int .i64 sattend, .int .i64 sseen, .int .i64 shist, .int .i64 sfly, .int .i64 squota, .int .i64 sbody] 0 = w4 := ⟨_, rfl⟩
  rw [show ([] : List Value).length = 0 from rfl, List.nil_append, hw4] at zp
  rw [hw4] at zq zz zl
  simp only [storeN, Nat.reduceAdd] at hw4
  have q0 := hbx3.1 0 _ rfl
  have p0 := hbx3.2 0 (by simp)
  have q1 := hbx3.1 1 _ rfl
  have p1 := hbx3.2 1 (by simp)
  have q2 := hbx3.1 2 _ rfl
  have p2 := hbx3.2 2 (by simp)
  have q3 := hbx3.1 3 _ rfl
  have p3 := hbx3.2 3 (by simp)
  have q4 := hbx3.1 4 _ rfl
  have p4 := hbx3.2 4 (by simp)
  have q5 := hbx3.1 5 _ rfl
  have p5 := hbx3.2 5 (by simp)
  have q6 := hbx3.1 6 _ rfl
  have p6 := hbx3.2 6 (by simp)
  have q7 := hbx3.1 7 _ rfl
  have p7 := hbx3.2 7 (by simp)
  have q8 := hbx3.1 8 _ rfl
  have p8 := hbx3.2 8 (by simp)
  have q9 := hbx3.1 9 _ rfl
  have p9 := hbx3.2 9 (by simp)
  have q10 := hbx3.1 10 _ rfl
  have p10 := hbx3.2 10 (by simp)
  have q11 := hbx3.1 11 _ rfl
  have p11 := hbx3.2 11 (by simp)
  have q12 := hbx3.1 12 _ rfl
  have p12 := hbx3.2 12 (by simp)
  have q13 := hbx3.1 13 _ rfl
  have p13 := hbx3.2 13 (by simp)
  have q14 := hbx3.1 14 _ rfl
  have p14 := hbx3.2 14 (by simp)
  have g0 := zp.1 0 _ rfl
  have g1 := zp.1 1 _ rfl
  have g2 := zp.1 2 _ rfl
  have g3 := zp.1 3 _ rfl
  have g4 := zp.1 4 _ rfl
  have g5 := zp.1 5 _ rfl
  have g6 := zp.1 6 _ rfl
  have g7 := zp.1 7 _ rfl
  have g8 := zp.1 8 _ rfl
  have g9 := zp.1 9 _ rfl
  have g10 := zp.1 10 _ rfl
  have g11 := zp.1 11 _ rfl
  have g12 := zp.1 12 _ rfl
  have g13 := zp.1 13 _ rfl
  have g14 := zp.1 14 _ rfl
  have HZP := Lib.hid zp
  have HQB := Lib.hid zz
  have HZL := Lib.hid zl
  have HZQ := Lib.hid zq
  clear zp zz zl zq hbx3 hz3 hLA3 hb03 hz1 hb1 hb2 hw2 hbx2 hz2 hLA2 hb02 hLA hown k0 k1 hb3 hb01
  go_wp2_with fail
  have CK := CC.out A k w4 HZL.out
  rw [hl0] at CK
  refine CK.mono ?_
  rintro e w5 ⟨rfl, hb5⟩
  have hz5 := HQB.out.keep hb5
  have hb05 := HZQ.out.trans (hb5.mono HZQ.out.size)
  have hLA5 := HZL.out.below hb5
  have hF0 : FN = 0 := HF.out
  subst hF0
  have hbx5 : BoxF w5 w1.heap.size [.int .i64 sn, .slice A l0 k, .int .i64 sf, .int .i64 sdmin, .int .i64 sdmax, .int .i64 srho, .int .i64 sslew, .int .i64 sround, .int .i64 swindow, .int .i64 sattend, .int .i64 sseen, .int .i64 shist, .int .i64 sfly, .int .i64 squota, .int .i64 sbody] := HZP.out.keep hb5
  clear hAB1 CK hb5 hw4
  clear q0 p0 g0 q1 p1 g1 q2 p2 g2 q3 p3 g3 q4 p4 g4 q5 p5 g5 q6 p6 g6 q7 p7 g7 q8 p8 g8 q9 p9 g9 q10 p10 g10 q11 p11 g11 q12 p12 g12 q13 p13 g13 q14 p14 g14
  have d0 := hbx5.1 0 _ rfl
  have d1 := hbx5.1 1 _ rfl
  have d2 := hbx5.1 2 _ rfl
  have d3 := hbx5.1 3 _ rfl
  have d4 := hbx5.1 4 _ rfl
  have d5 := hbx5.1 5 _ rfl
  have d6 := hbx5.1 6 _ rfl
  have d7 := hbx5.1 7 _ rfl
  have d8 := hbx5.1 8 _ rfl
  have d9 := hbx5.1 9 _ rfl
  have d10 := hbx5.1 10 _ rfl
  have d11 := hbx5.1 11 _ rfl
  have d12 := hbx5.1 12 _ rfl
  have d13 := hbx5.1 13 _ rfl
  have d14 := hbx5.1 14 _ rfl
  clear hbx5
  have zs0 := hz5.1 0 _ rfl
  have zf0 := hz5.2 0 (by simp)
  have zs1 := hz5.1 1 _ rfl
  have zf1 := hz5.2 1 (by simp)
  have zs2 := hz5.1 2 _ rfl
  have zf2 := hz5.2 2 (by simp)
  have zs3 := hz5.1 3 _ rfl
  have zf3 := hz5.2 3 (by simp)
  have zs4 := hz5.1 4 _ rfl
  have zf4 := hz5.2 4 (by simp)
  have zs5 := hz5.1 5 _ rfl
  have zf5 := hz5.2 5 (by simp)
  have zs6 := hz5.1 6 _ rfl
  have zf6 := hz5.2 6 (by simp)
  have zs7 := hz5.1 7 _ rfl
  have zf7 := hz5.2 7 (by simp)
  have zs8 := hz5.1 8 _ rfl
  have zf8 := hz5.2 8 (by simp)
  have zs9 := hz5.1 9 _ rfl
  have zf9 := hz5.2 9 (by simp)
  have zs10 := hz5.1 10 _ rfl
  have zf10 := hz5.2 10 (by simp)
  have zs11 := hz5.1 11 _ rfl
  have zf11 := hz5.2 11 (by simp)
  have zs12 := hz5.1 12 _ rfl
  have zf12 := hz5.2 12 (by simp)
  have zs13 := hz5.1 13 _ rfl
  have zf13 := hz5.2 13 (by simp)
  have zs14 := hz5.1 14 _ rfl
  have zf14 := hz5.2 14 (by simp)
  have zp := storeN_box w.heap.size [.int .i64 sn, .slice A l0 k, .int .i64 sf, .int .i64 sdmin, .int .i64 sdmax, .int .i64 srho, .int .i64 sslew, .int .i64 sround, .int .i64 swindow, .int .i64 sattend, .int .i64 sseen, .int .i64 shist, .int .i64 sfly, .int .i64 squota, .int .i64 sbody] w5 [] [.int .i64 0, .slice none 0 0, .int .i64 0, .int .i64 0, .int .i64 0, .int .i64 0, .int .i64 0, .int .i64 0, .int .i64 0, .int .i64 0, .int .i64 0, .int .i64 0, .int .i64 0, .int .i64 0, .int .i64 0] rfl hz5
  have zq := storeN_below (N := w.heap.size) w.heap.size (Nat.le_refl _) [.int .i64 sn, .slice A l0 k, .int .i64 sf, .int .i64 sdmin, .int .i64 sdmax, .int .i64 srho, .int .i64 sslew, .int .i64 sround, .int .i64 swindow, .int .i64 sattend, .int .i64 sseen, .int .i64 shist, .int .i64 sfly, .int .i64 squota, .int .i64 sbody] w w5 0 hb05
  obtain ⟨wf, hwf⟩ : ∃ wf, storeN w.heap.size w5 [.int .i64 sn, .slice A l0 k, .int .i64 sf, .int .i64 sdmin, .int .i64 sdmax, .int .i64 srho, .int .i64 sslew, .int .i64 sround, .int .i64 swindow, .int .i64 sattend, .int .i64 sseen, .int .i64 shist, .int .i64 sfly, .int .i64 squota, .int .i64 sbody] 0 = wf := ⟨_, rfl⟩
  rw [show ([] : List Value).length = 0 from rfl, List.nil_append, hwf] at zp
  rw [hwf] at zq
  have hwf0 := hwf
  simp only [storeN, Nat.reduceAdd] at hwf
  have ef0 := zp.1 0 _ rfl
  have ef1 := zp.1 1 _ rfl
  have ef2 := zp.1 2 _ rfl
  have ef3 := zp.1 3 _ rfl
  have ef4 := zp.1 4 _ rfl
  have ef5 := zp.1 5 _ rfl
  have ef6 := zp.1 6 _ rfl
  have ef7 := zp.1 7 _ rfl
  have ef8 := zp.1 8 _ rfl
  have ef9 := zp.1 9 _ rfl
  have ef10 := zp.1 10 _ rfl
  have ef11 := zp.1 11 _ rfl
  have ef12 := zp.1 12 _ rfl
  have ef13 := zp.1 13 _ rfl
  have ef14 := zp.1 14 _ rfl
  have HBF := Lib.hid zq
  have hLF : LinksAt wf A L := by rw [← hwf0]; exact storeN_links hAB _ _ _ hLA5
  have HLF := Lib.hid hLF
  clear hAB
  clear zp zq hwf0 hz5 hb05
  go_wp2
  refine bodyPost_ret (v := .tuple #[.agg #[.int .i64 sn, .slice A l0 k, .int .i64 sf, .int .i64 sdmin, .int .i64 sdmax, .int .i64 srho, .int .i64 sslew, .int .i64 sround, .int .i64 swindow, .int .i64 sattend, .int .i64 sseen, .int .i64 shist, .int .i64 sfly, .int .i64 squota, .int .i64 sbody], .int .i64 0]) (by simp [results, Tryz.results7, go_sem, hz, hsz, ef0, ef1, ef2, ef3, ef4, ef5, ef6, ef7, ef8, ef9, ef10, ef11, ef12, ef13, ef14]) rfl ?_
  exact HPOST.out _ _ HBF.out (fun h => absurd rfl h) (fun _ => ⟨A, k, by rw [hl0], HLF.out, hk⟩)
theorem rSmall (n f dmax rho : Int) (w : World) : Calls Tryz.prog 7 #[.int .i64 n, .int .i64 f, .int .i64 dmax, .int .i64 rho] w (SmallPost n f dmax rho w) := by
  by_cases hn : n < 2 ∨ n > 8
  · exact rSmall0 n f dmax rho hn w
  · obtain ⟨m, rfl⟩ : ∃ m : Nat, n = (m : Int) := ⟨n.toNat, by omega⟩
    by_cases hF : faultN (sugC (smallC m f dmax rho)) (fullL m) = 0
    · exact rSmall2 m (by omega) (by omega) f dmax rho hF w
    · exact rSmall1 m (by omega) (by omega) f dmax rho hF w
end Go.Proofs.YteahiphmhaedpaaGreatDoor
