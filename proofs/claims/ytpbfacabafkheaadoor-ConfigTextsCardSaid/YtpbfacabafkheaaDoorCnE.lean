/- A small cluster, the program's. -/
import Derived.Test.YtpbfacabafkheaaDoorCnD
import Derived.Test.YtpbfacabafkheaaDoorCfF
namespace Go.Proofs.YtpbfacabafkheaaDoor
open Go.RowKit Law Go.Shelf
set_option linter.unusedVariables false
set_option linter.unusedSimpArgs false
set_option maxRecDepth 100000
attribute [local go_sem] Oper.semAt_some

theorem storeN_links {A : Option Addr} {L : List Pr} {B : Nat} (hA : ∀ b off, A = some ⟨b, off, none⟩ → B ≠ b) : ∀ (vs : List Value) (W : World) (j : Nat), LinksAt W A L → LinksAt (storeN B W vs j) A L
  | [], W, j, h => h
  | v :: r, W, j, h => storeN_links hA r _ (j + 1) (fun k e he => by
      obtain ⟨b, off, rfl, hlt, hc⟩ := h k e he
      exact ⟨b, off, rfl, by simpa using hlt, fun i x hx => by rw [World.cell?_setCell_far _ _ _ _ (hA b off rfl)]; exact hc i x hx⟩)
theorem own_base {w : World} {base n size : Nat} {e : TypeId} {A : Option Addr} {c : Nat} {xs : List Value} (h : w.ownsRow base e size (.slice A n c) n xs) : ∀ b off, A = some ⟨b, off, none⟩ → base ≤ b := fun b off hA => by
  rcases h.2 with ⟨hv, _⟩ | ⟨g, cap, cur, hv, hb, _⟩
  · injection hv with h1; rw [hA] at h1; cases h1
  · injection hv with h1; rw [hA] at h1; injection h1 with h1; injection h1 with h1; omega
set_option maxHeartbeats 3200000 in
theorem cSmall0 (n f dmax rho : Int) (hn : n < 2 ∨ n > 8) (w : World) : Calls Tryd.prog 12 #[.int .i64 n, .int .i64 f, .int .i64 dmax, .int .i64 rho] w (SmallPost n f dmax rho w) := by
  obtain ⟨hz, hsz⟩ := zero_of_info (show (Tryd.prog.info? 24).map (fun i => (i.zero, i.size)) = some (some (.agg #[.int .i64 0, .slice none 0 0, .int .i64 0, .int .i64 0, .int .i64 0, .int .i64 0, .int .i64 0, .int .i64 0, .int .i64 0, .int .i64 0, .int .i64 0, .int .i64 0, .int .i64 0, .int .i64 0, .int .i64 0]), 15) by kernel_rfl)
  have k0 := boxF_made w [.int .i64 0, .slice none 0 0, .int .i64 0, .int .i64 0, .int .i64 0, .int .i64 0, .int .i64 0, .int .i64 0, .int .i64 0, .int .i64 0, .int .i64 0, .int .i64 0, .int .i64 0, .int .i64 0, .int .i64 0] 24
  have k1 := (Below.refl w.heap.size w).alloc (Nat.le_refl _) (.cells #[.int .i64 0, .slice none 0 0, .int .i64 0, .int .i64 0, .int .i64 0, .int .i64 0, .int .i64 0, .int .i64 0, .int .i64 0, .int .i64 0, .int .i64 0, .int .i64 0, .int .i64 0, .int .i64 0, .int .i64 0] 24)
  obtain ⟨w0, hw0⟩ : ∃ w0, w.alloc (.cells #[.int .i64 0, .slice none 0 0, .int .i64 0, .int .i64 0, .int .i64 0, .int .i64 0, .int .i64 0, .int .i64 0, .int .i64 0, .int .i64 0, .int .i64 0, .int .i64 0, .int .i64 0, .int .i64 0, .int .i64 0] 24) = w0 := ⟨_, rfl⟩
  have hs0 : w0.heap.size = w.heap.size + 1 := by rw [← hw0]; simp
  rw [hw0] at k0 k1
  have HP : Hid (∀ wf, Below w.heap.size w wf → SmallPost n f dmax rho w (.returned (.tuple #[.agg #[.int .i64 0, .slice none 0 0, .int .i64 0, .int .i64 0, .int .i64 0, .int .i64 0, .int .i64 0, .int .i64 0, .int .i64 0, .int .i64 0, .int .i64 0, .int .i64 0, .int .i64 0, .int .i64 0, .int .i64 0], .int .i64 1])) wf) := fun wf hb => ⟨hb, fun _ => rfl, fun h => absurd hn h, fun h => absurd hn h⟩
  by_cases h2 : n < 2
  · go_enter Tryd.func12, Tryd.ntmps12
    have zs0 := k0.1 0 _ rfl
    have zf0 := k0.2 0 (by simp)
    have zs1 := k0.1 1 _ rfl
    have zf1 := k0.2 1 (by simp)
    have zs2 := k0.1 2 _ rfl
    have zf2 := k0.2 2 (by simp)
    have zs3 := k0.1 3 _ rfl
    have zf3 := k0.2 3 (by simp)
    have zs4 := k0.1 4 _ rfl
    have zf4 := k0.2 4 (by simp)
    have zs5 := k0.1 5 _ rfl
    have zf5 := k0.2 5 (by simp)
    have zs6 := k0.1 6 _ rfl
    have zf6 := k0.2 6 (by simp)
    have zs7 := k0.1 7 _ rfl
    have zf7 := k0.2 7 (by simp)
    have zs8 := k0.1 8 _ rfl
    have zf8 := k0.2 8 (by simp)
    have zs9 := k0.1 9 _ rfl
    have zf9 := k0.2 9 (by simp)
    have zs10 := k0.1 10 _ rfl
    have zf10 := k0.2 10 (by simp)
    have zs11 := k0.1 11 _ rfl
    have zf11 := k0.2 11 (by simp)
    have zs12 := k0.1 12 _ rfl
    have zf12 := k0.2 12 (by simp)
    have zs13 := k0.1 13 _ rfl
    have zf13 := k0.2 13 (by simp)
    have zs14 := k0.1 14 _ rfl
    have zf14 := k0.2 14 (by simp)
    have zp := storeN_box w.heap.size [.int .i64 0, .slice none 0 0, .int .i64 0, .int .i64 0, .int .i64 0, .int .i64 0, .int .i64 0, .int .i64 0, .int .i64 0, .int .i64 0, .int .i64 0, .int .i64 0, .int .i64 0, .int .i64 0, .int .i64 0] w0 [] [.int .i64 0, .slice none 0 0, .int .i64 0, .int .i64 0, .int .i64 0, .int .i64 0, .int .i64 0, .int .i64 0, .int .i64 0, .int .i64 0, .int .i64 0, .int .i64 0, .int .i64 0, .int .i64 0, .int .i64 0] rfl k0
    have zq := storeN_below (N := w.heap.size) w.heap.size (Nat.le_refl _) [.int .i64 0, .slice none 0 0, .int .i64 0, .int .i64 0, .int .i64 0, .int .i64 0, .int .i64 0, .int .i64 0, .int .i64 0, .int .i64 0, .int .i64 0, .int .i64 0, .int .i64 0, .int .i64 0, .int .i64 0] w w0 0 k1
    obtain ⟨wf, hwf⟩ : ∃ wf, storeN w.heap.size w0 [.int .i64 0, .slice none 0 0, .int .i64 0, .int .i64 0, .int .i64 0, .int .i64 0, .int .i64 0, .int .i64 0, .int .i64 0, .int .i64 0, .int .i64 0, .int .i64 0, .int .i64 0, .int .i64 0, .int .i64 0] 0 = wf := ⟨_, rfl⟩
    rw [show ([] : List Value).length = 0 from rfl, List.nil_append, hwf] at zp
    rw [hwf] at zq
    have hwf0 := hwf
    simp only [storeN, Nat.reduceAdd] at hwf
    have ef0 := zp.1 0 _ rfl
    have ef1 := zp.1 1 _ rfl
    have ef2 := zp.1 2 _ rfl
    have ef3 := zp.1 3 _ rfl
    have ef4 := zp.1 4 _ rfl
    have ef5 := zp.1 5 _ rfl
    have ef6 := zp.1 6 _ rfl
    have ef7 := zp.1 7 _ rfl
    have ef8 := zp.1 8 _ rfl
    have ef9 := zp.1 9 _ rfl
    have ef10 := zp.1 10 _ rfl
    have ef11 := zp.1 11 _ rfl
    have ef12 := zp.1 12 _ rfl
    have ef13 := zp.1 13 _ rfl
    have ef14 := zp.1 14 _ rfl
    have HBF := Lib.hid zq
    clear zp zq hwf0 
    go_wp2
    refine bodyPost_ret (v := .tuple #[.agg #[.int .i64 0, .slice none 0 0, .int .i64 0, .int .i64 0, .int .i64 0, .int .i64 0, .int .i64 0, .int .i64 0, .int .i64 0, .int .i64 0, .int .i64 0, .int .i64 0, .int .i64 0, .int .i64 0, .int .i64 0], .int .i64 1]) (by simp [results, Tryd.results12, go_sem, hz, hsz, ef0, ef1, ef2, ef3, ef4, ef5, ef6, ef7, ef8, ef9, ef10, ef11, ef12, ef13, ef14]) rfl ?_
    exact HP.out _ HBF.out
  · have h8 : n > 8 := by omega
    go_enter Tryd.func12, Tryd.ntmps12
    have zs0 := k0.1 0 _ rfl
    have zf0 := k0.2 0 (by simp)
    have zs1 := k0.1 1 _ rfl
    have zf1 := k0.2 1 (by simp)
    have zs2 := k0.1 2 _ rfl
    have zf2 := k0.2 2 (by simp)
    have zs3 := k0.1 3 _ rfl
    have zf3 := k0.2 3 (by simp)
    have zs4 := k0.1 4 _ rfl
    have zf4 := k0.2 4 (by simp)
    have zs5 := k0.1 5 _ rfl
    have zf5 := k0.2 5 (by simp)
    have zs6 := k0.1 6 _ rfl
    have zf6 := k0.2 6 (by simp)
    have zs7 := k0.1 7 _ rfl
    have zf7 := k0.2 7 (by simp)
    have zs8 := k0.1 8 _ rfl
    have zf8 := k0.2 8 (by simp)
    have zs9 := k0.1 9 _ rfl
    have zf9 := k0.2 9 (by simp)
    have zs10 := k0.1 10 _ rfl
    have zf10 := k0.2 10 (by simp)
    have zs11 := k0.1 11 _ rfl
    have zf11 := k0.2 11 (by simp)
    have zs12 := k0.1 12 _ rfl
    have zf12 := k0.2 12 (by simp)
    have zs13 := k0.1 13 _ rfl
    have zf13 := k0.2 13 (by simp)
    have zs14 := k0.1 14 _ rfl
    have zf14 := k0.2 14 (by simp)
    have zp := storeN_box w.heap.size [.int .i64 0, .slice none 0 0, .int .i64 0, .int .i64 0, .int .i64 0, .int .i64 0, .int .i64 0, .int .i64 0, .int .i64 0, .int .i64 0, .int .i64 0, .int .i64 0, .int .i64 0, .int .i64 0, .int .i64 0] w0 [] [.int .i64 0, .slice none 0 0, .int .i64 0, .int .i64 0, .int .i64 0, .int .i64 0, .int .i64 0, .int .i64 0, .int .i64 0, .int .i64 0, .int .i64 0, .int .i64 0, .int .i64 0, .int .i64 0, .int .i64 0] rfl k0
    have zq := storeN_below (N := w.heap.size) w.heap.size (Nat.le_refl _) [.int .i64 0, .slice none 0 0, .int .i64 0, .int .i64 0, .int .i64 0, .int .i64 0, .int .i64 0, .int .i64 0, .int .i64 0, .int .i64 0, .int .i64 0, .int .i64 0, .int .i64 0, .int .i64 0, .int .i64 0] w w0 0 k1
    obtain ⟨wf, hwf⟩ : ∃ wf, storeN w.heap.size w0 [.int .i64 0, .slice none 0 0, .int .i64 0, .int .i64 0, .int .i64 0, .int .i64 0, .int .i64 0, .int .i64 0, .int .i64 0, .int .i64 0, .int .i64 0, .int .i64 0, .int .i64 0, .int .i64 0, .int .i64 0] 0 = wf := ⟨_, rfl⟩
    rw [show ([] : List Value).length = 0 from rfl, List.nil_append, hwf] at zp
    rw [hwf] at zq
    have hwf0 := hwf
    simp only [storeN, Nat.reduceAdd] at hwf
    have ef0 := zp.1 0 _ rfl
    have ef1 := zp.1 1 _ rfl
    have ef2 := zp.1 2 _ rfl
    have ef3 := zp.1 3 _ rfl
    have ef4 := zp.1 4 _ rfl
    have ef5 := zp.1 5 _ rfl
    have ef6 := zp.1 6 _ rfl
    have ef7 := zp.1 7 _ rfl
    have ef8 := zp.1 8 _ rfl
    have ef9 := zp.1 9 _ rfl
    have ef10 := zp.1 10 _ rfl
    have ef11 := zp.1 11 _ rfl
    have ef12 := zp.1 12 _ rfl
    have ef13 := zp.1 13 _ rfl
    have ef14 := zp.1 14 _ rfl
    have HBF := Lib.hid zq
    clear zp zq hwf0 
    go_wp2
    refine bodyPost_ret (v := .tuple #[.agg #[.int .i64 0, .slice none 0 0, .int .i64 0, .int .i64 0, .int .i64 0, .int .i64 0, .int .i64 0, .int .i64 0, .int .i64 0, .int .i64 0, .int .i64 0, .int .i64 0, .int .i64 0, .int .i64 0, .int .i64 0], .int .i64 1]) (by simp [results, Tryd.results12, go_sem, hz, hsz, ef0, ef1, ef2, ef3, ef4, ef5, ef6, ef7, ef8, ef9, ef10, ef11, ef12, ef13, ef14]) rfl ?_
    exact HP.out _ HBF.out
set_option maxHeartbeats 6400000 in
theorem cSmall1 (m : Nat) (h2 : 2 ≤ m) (h8 : m ≤ 8) (f dmax rho : Int) (hF : faultN (sugC (smallC m f dmax rho)) (fullL m) ≠ 0) (w : World) (hT : T64 w) : Calls Tryd.prog 12 #[.int .i64 (m : Int), .int .i64 f, .int .i64 dmax, .int .i64 rho] w (SmallPost (m : Int) f dmax rho w) := by
  obtain ⟨hz, hsz⟩ := zero_of_info (show (Tryd.prog.info? 24).map (fun i => (i.zero, i.size)) = some (some (.agg #[.int .i64 0, .slice none 0 0, .int .i64 0, .int .i64 0, .int .i64 0, .int .i64 0, .int .i64 0, .int .i64 0, .int .i64 0, .int .i64 0, .int .i64 0, .int .i64 0, .int .i64 0, .int .i64 0, .int .i64 0]), 15) by kernel_rfl)
  have k0 := boxF_made w [.int .i64 0, .slice none 0 0, .int .i64 0, .int .i64 0, .int .i64 0, .int .i64 0, .int .i64 0, .int .i64 0, .int .i64 0, .int .i64 0, .int .i64 0, .int .i64 0, .int .i64 0, .int .i64 0, .int .i64 0] 24
  have k1 := (Below.refl w.heap.size w).alloc (Nat.le_refl _) (.cells #[.int .i64 0, .slice none 0 0, .int .i64 0, .int .i64 0, .int .i64 0, .int .i64 0, .int .i64 0, .int .i64 0, .int .i64 0, .int .i64 0, .int .i64 0, .int .i64 0, .int .i64 0, .int .i64 0, .int .i64 0] 24)
  obtain ⟨w0, hw0⟩ : ∃ w0, w.alloc (.cells #[.int .i64 0, .slice none 0 0, .int .i64 0, .int .i64 0, .int .i64 0, .int .i64 0, .int .i64 0, .int .i64 0, .int .i64 0, .int .i64 0, .int .i64 0, .int .i64 0, .int .i64 0, .int .i64 0, .int .i64 0] 24) = w0 := ⟨_, rfl⟩
  have hs0 : w0.heap.size = w.heap.size + 1 := by rw [← hw0]; simp
  rw [hw0] at k0 k1
  have CFU := Lib.hid (fun W => gFull m (by omega) W)
  have CS := Lib.hid (fun (A : Option Addr) (l k : Nat) (W : World) => show Calls Tryd.prog 31 #[.agg #[.int .i64 (m : Int), .slice A l k, .int .i64 f, .int .i64 1, .int .i64 dmax, .int .i64 rho, .int .i64 64, .int .i64 0, .int .i64 0, .int .i64 0, .int .i64 4096, .int .i64 4096, .int .i64 65536, .int .i64 64, .int .i64 64]] W (SugPost (smallC m f dmax rho) A l k W) from boundSuggest (smallC m f dmax rho) A l k W)
  have hsn := sugC_n (smallC m f dmax rho)
  have hfit := full_fit (n := m) (by omega)
  have hlen : (fullL m).length ≤ 4096 := fullTo_len64 (by omega) (by omega)
  have HPOST : Hid (∀ e wf, Below w.heap.size w wf → (faultN (sugC (smallC m f dmax rho)) (fullL m) ≠ 0 → e = .returned (.tuple #[.agg #[.int .i64 0, .slice none 0 0, .int .i64 0, .int .i64 0, .int .i64 0, .int .i64 0, .int .i64 0, .int .i64 0, .int .i64 0, .int .i64 0, .int .i64 0, .int .i64 0, .int .i64 0, .int .i64 0, .int .i64 0], .int .i64 17])) → (faultN (sugC (smallC m f dmax rho)) (fullL m) = 0 → ∃ A k, e = .returned (.tuple #[.agg ((sugC (smallC m f dmax rho)).cells A (fullL m).length k).toArray, .int .i64 0]) ∧ LinksAt wf A (fullL m) ∧ (fullL m).length ≤ k) → SmallPost (m : Int) f dmax rho w e wf) := fun e wf hb h17 h0 => ⟨hb, fun h => by omega, fun _ => h17, fun _ => h0⟩
  unfold SugPost at CS
  obtain ⟨sc, hsc⟩ : ∃ sc, sugC (smallC m f dmax rho) = sc := ⟨_, rfl⟩
  rw [hsc] at CS hsn HPOST hF
  obtain ⟨L, hL⟩ : ∃ L, fullL m = L := ⟨_, rfl⟩
  rw [hL] at CFU hfit hlen HPOST hF
  obtain ⟨l0, hl0⟩ : ∃ l0, L.length = l0 := ⟨_, rfl⟩
  obtain ⟨sn, sf, sdmin, sdmax, srho, sslew, sround, swindow, sattend, sseen, shist, sfly, squota, sbody⟩ := sc
  have hsn' : sn = (m : Int) := hsn
  have CC := Lib.hid (fun (A : Option Addr) (k : Nat) (W : World) (hA : LinksAt W A L) (hTW : T64 W) => cCheck ⟨sn, sf, sdmin, sdmax, srho, sslew, sround, swindow, sattend, sseen, shist, sfly, squota, sbody⟩ A L.length k L rfl hfit (by omega) (fun _ => by show sn < 9; omega) W hA hTW)
  have HF := Lib.hid hF
  clear hsc hL hfit hF hsn hsn'
  go_enter Tryd.func12, Tryd.ntmps12
  go_wp2_with fail
  refine (CFU.out _).mono ?_
  rintro e w1 ⟨v, rfl, hown, hb1⟩
  obtain ⟨A, k, rfl, hk⟩ := own_form2 hown
  have hLA := ownLinks hown
  have hAB : ∀ b off, A = some ⟨b, off, none⟩ → w.heap.size ≠ b := fun b off hA => by
    have := own_base hown b off hA
    omega
  have hb01 := k1.trans (hb1.mono (by omega))
  have hz1 := k0.keep hb1
  rw [hl0]
  go_wp2_with fail
  refine (CS.out A l0 k _).mono ?_
  rintro e w2 ⟨⟨b, rfl⟩, hb2⟩
  obtain ⟨w3, hw3⟩ : ∃ w3, w2.alloc (.cells #[.int .i64 sn, .slice A l0 k, .int .i64 sf, .int .i64 sdmin, .int .i64 sdmax, .int .i64 srho, .int .i64 sslew, .int .i64 sround, .int .i64 swindow, .int .i64 sattend, .int .i64 sseen, .int .i64 shist, .int .i64 sfly, .int .i64 squota, .int .i64 sbody] 24) = w3 := ⟨_, rfl⟩
  have hb3 : Below w2.heap.size w2 w3 := by rw [← hw3]; exact (Below.refl _ _).alloc (Nat.le_refl _) _
  have hbx : BoxF w3 w2.heap.size [.int .i64 sn, .slice A l0 k, .int .i64 sf, .int .i64 sdmin, .int .i64 sdmax, .int .i64 srho, .int .i64 sslew, .int .i64 sround, .int .i64 swindow, .int .i64 sattend, .int .i64 sseen, .int .i64 shist, .int .i64 sfly, .int .i64 squota, .int .i64 sbody] := by rw [← hw3]; exact boxF_made _ _ _
  have hz3 := (hz1.keep hb2).keep hb3
  have hLA3 := (hLA.below hb2).below hb3
  have hb03 := (hb01.trans (hb2.mono hb01.size)).trans (hb3.mono (hb01.trans (hb2.mono hb01.size)).size)
  have d0 := hbx.1 0 _ rfl
  have d1 := hbx.1 1 _ rfl
  have d2 := hbx.1 2 _ rfl
  have d3 := hbx.1 3 _ rfl
  have d4 := hbx.1 4 _ rfl
  have d5 := hbx.1 5 _ rfl
  have d6 := hbx.1 6 _ rfl
  have d7 := hbx.1 7 _ rfl
  have d8 := hbx.1 8 _ rfl
  have d9 := hbx.1 9 _ rfl
  have d10 := hbx.1 10 _ rfl
  have d11 := hbx.1 11 _ rfl
  have d12 := hbx.1 12 _ rfl
  have d13 := hbx.1 13 _ rfl
  have d14 := hbx.1 14 _ rfl
  go_wp2_with fail
  have CK := CC.out A k w3 hLA3 (hT.below hb03)
  rw [hl0] at CK
  refine CK.mono ?_
  rintro e w4 ⟨rfl, hb4⟩
  have hz4 := hz3.keep hb4
  have hb04 := hb03.trans (hb4.mono hb03.size)
  have hbx4 := hbx.keep hb4
  have hLA4 := hLA3.below hb4
  clear d0 d1 d2 d3 d4 d5 d6 d7 d8 d9 d10 d11 d12 d13 d14 CK hb01 hz1 hb1 hb2 hw3 hb3 hbx hz3 hLA3 hb03 hLA hown hb4 k0 k1
  clear hAB
  rw [if_neg HF.out]
  have zs0 := hz4.1 0 _ rfl
  have zf0 := hz4.2 0 (by simp)
  have zs1 := hz4.1 1 _ rfl
  have zf1 := hz4.2 1 (by simp)
  have zs2 := hz4.1 2 _ rfl
  have zf2 := hz4.2 2 (by simp)
  have zs3 := hz4.1 3 _ rfl
  have zf3 := hz4.2 3 (by simp)
  have zs4 := hz4.1 4 _ rfl
  have zf4 := hz4.2 4 (by simp)
  have zs5 := hz4.1 5 _ rfl
  have zf5 := hz4.2 5 (by simp)
  have zs6 := hz4.1 6 _ rfl
  have zf6 := hz4.2 6 (by simp)
  have zs7 := hz4.1 7 _ rfl
  have zf7 := hz4.2 7 (by simp)
  have zs8 := hz4.1 8 _ rfl
  have zf8 := hz4.2 8 (by simp)
  have zs9 := hz4.1 9 _ rfl
  have zf9 := hz4.2 9 (by simp)
  have zs10 := hz4.1 10 _ rfl
  have zf10 := hz4.2 10 (by simp)
  have zs11 := hz4.1 11 _ rfl
  have zf11 := hz4.2 11 (by simp)
  have zs12 := hz4.1 12 _ rfl
  have zf12 := hz4.2 12 (by simp)
  have zs13 := hz4.1 13 _ rfl
  have zf13 := hz4.2 13 (by simp)
  have zs14 := hz4.1 14 _ rfl
  have zf14 := hz4.2 14 (by simp)
  have zp := storeN_box w.heap.size [.int .i64 0, .slice none 0 0, .int .i64 0, .int .i64 0, .int .i64 0, .int .i64 0, .int .i64 0, .int .i64 0, .int .i64 0, .int .i64 0, .int .i64 0, .int .i64 0, .int .i64 0, .int .i64 0, .int .i64 0] w4 [] [.int .i64 0, .slice none 0 0, .int .i64 0, .int .i64 0, .int .i64 0, .int .i64 0, .int .i64 0, .int .i64 0, .int .i64 0, .int .i64 0, .int .i64 0, .int .i64 0, .int .i64 0, .int .i64 0, .int .i64 0] rfl hz4
  have zq := storeN_below (N := w.heap.size) w.heap.size (Nat.le_refl _) [.int .i64 0, .slice none 0 0, .int .i64 0, .int .i64 0, .int .i64 0, .int .i64 0, .int .i64 0, .int .i64 0, .int .i64 0, .int .i64 0, .int .i64 0, .int .i64 0, .int .i64 0, .int .i64 0, .int .i64 0] w w4 0 hb04
  obtain ⟨wf, hwf⟩ : ∃ wf, storeN w.heap.size w4 [.int .i64 0, .slice none 0 0, .int .i64 0, .int .i64 0, .int .i64 0, .int .i64 0, .int .i64 0, .int .i64 0, .int .i64 0, .int .i64 0, .int .i64 0, .int .i64 0, .int .i64 0, .int .i64 0, .int .i64 0] 0 = wf := ⟨_, rfl⟩
  rw [show ([] : List Value).length = 0 from rfl, List.nil_append, hwf] at zp
  rw [hwf] at zq
  have hwf0 := hwf
  simp only [storeN, Nat.reduceAdd] at hwf
  have ef0 := zp.1 0 _ rfl
  have ef1 := zp.1 1 _ rfl
  have ef2 := zp.1 2 _ rfl
  have ef3 := zp.1 3 _ rfl
  have ef4 := zp.1 4 _ rfl
  have ef5 := zp.1 5 _ rfl
  have ef6 := zp.1 6 _ rfl
  have ef7 := zp.1 7 _ rfl
  have ef8 := zp.1 8 _ rfl
  have ef9 := zp.1 9 _ rfl
  have ef10 := zp.1 10 _ rfl
  have ef11 := zp.1 11 _ rfl
  have ef12 := zp.1 12 _ rfl
  have ef13 := zp.1 13 _ rfl
  have ef14 := zp.1 14 _ rfl
  have HBF := Lib.hid zq
  clear zp zq hwf0 hz4 hb04
  go_wp2
  refine bodyPost_ret (v := .tuple #[.agg #[.int .i64 0, .slice none 0 0, .int .i64 0, .int .i64 0, .int .i64 0, .int .i64 0, .int .i64 0, .int .i64 0, .int .i64 0, .int .i64 0, .int .i64 0, .int .i64 0, .int .i64 0, .int .i64 0, .int .i64 0], .int .i64 17]) (by simp [results, Tryd.results12, go_sem, hz, hsz, ef0, ef1, ef2, ef3, ef4, ef5, ef6, ef7, ef8, ef9, ef10, ef11, ef12, ef13, ef14]) rfl ?_
  exact HPOST.out _ _ HBF.out (fun _ => rfl) (fun h => absurd h HF.out)
set_option maxHeartbeats 6400000 in
theorem cSmall2 (m : Nat) (h2 : 2 ≤ m) (h8 : m ≤ 8) (f dmax rho : Int) (hF : faultN (sugC (smallC m f dmax rho)) (fullL m) = 0) (w : World) (hT : T64 w) : Calls Tryd.prog 12 #[.int .i64 (m : Int), .int .i64 f, .int .i64 dmax, .int .i64 rho] w (SmallPost (m : Int) f dmax rho w) := by
  obtain ⟨hz, hsz⟩ := zero_of_info (show (Tryd.prog.info? 24).map (fun i => (i.zero, i.size)) = some (some (.agg #[.int .i64 0, .slice none 0 0, .int .i64 0, .int .i64 0, .int .i64 0, .int .i64 0, .int .i64 0, .int .i64 0, .int .i64 0, .int .i64 0, .int .i64 0, .int .i64 0, .int .i64 0, .int .i64 0, .int .i64 0]), 15) by kernel_rfl)
  have k0 := boxF_made w [.int .i64 0, .slice none 0 0, .int .i64 0, .int .i64 0, .int .i64 0, .int .i64 0, .int .i64 0, .int .i64 0, .int .i64 0, .int .i64 0, .int .i64 0, .int .i64 0, .int .i64 0, .int .i64 0, .int .i64 0] 24
  have k1 := (Below.refl w.heap.size w).alloc (Nat.le_refl _) (.cells #[.int .i64 0, .slice none 0 0, .int .i64 0, .int .i64 0, .int .i64 0, .int .i64 0, .int .i64 0, .int .i64 0, .int .i64 0, .int .i64 0, .int .i64 0, .int .i64 0, .int .i64 0, .int .i64 0, .int .i64 0] 24)
  obtain ⟨w0, hw0⟩ : ∃ w0, w.alloc (.cells #[.int .i64 0, .slice none 0 0, .int .i64 0, .int .i64 0, .int .i64 0, .int .i64 0, .int .i64 0, .int .i64 0, .int .i64 0, .int .i64 0, .int .i64 0, .int .i64 0, .int .i64 0, .int .i64 0, .int .i64 0] 24) = w0 := ⟨_, rfl⟩
  have hs0 : w0.heap.size = w.heap.size + 1 := by rw [← hw0]; simp
  rw [hw0] at k0 k1
  have CFU := Lib.hid (fun W => gFull m (by omega) W)
  have CS := Lib.hid (fun (A : Option Addr) (l k : Nat) (W : World) => show Calls Tryd.prog 31 #[.agg #[.int .i64 (m : Int), .slice A l k, .int .i64 f, .int .i64 1, .int .i64 dmax, .int .i64 rho, .int .i64 64, .int .i64 0, .int .i64 0, .int .i64 0, .int .i64 4096, .int .i64 4096, .int .i64 65536, .int .i64 64, .int .i64 64]] W (SugPost (smallC m f dmax rho) A l k W) from boundSuggest (smallC m f dmax rho) A l k W)
  have hsn := sugC_n (smallC m f dmax rho)
  have hfit := full_fit (n := m) (by omega)
  have hlen : (fullL m).length ≤ 4096 := fullTo_len64 (by omega) (by omega)
  have HPOST : Hid (∀ e wf, Below w.heap.size w wf → (faultN (sugC (smallC m f dmax rho)) (fullL m) ≠ 0 → e = .returned (.tuple #[.agg #[.int .i64 0, .slice none 0 0, .int .i64 0, .int .i64 0, .int .i64 0, .int .i64 0, .int .i64 0, .int .i64 0, .int .i64 0, .int .i64 0, .int .i64 0, .int .i64 0, .int .i64 0, .int .i64 0, .int .i64 0], .int .i64 17])) → (faultN (sugC (smallC m f dmax rho)) (fullL m) = 0 → ∃ A k, e = .returned (.tuple #[.agg ((sugC (smallC m f dmax rho)).cells A (fullL m).length k).toArray, .int .i64 0]) ∧ LinksAt wf A (fullL m) ∧ (fullL m).length ≤ k) → SmallPost (m : Int) f dmax rho w e wf) := fun e wf hb h17 h0 => ⟨hb, fun h => by omega, fun _ => h17, fun _ => h0⟩
  unfold SugPost at CS
  obtain ⟨sc, hsc⟩ : ∃ sc, sugC (smallC m f dmax rho) = sc := ⟨_, rfl⟩
  rw [hsc] at CS hsn HPOST hF
  obtain ⟨L, hL⟩ : ∃ L, fullL m = L := ⟨_, rfl⟩
  rw [hL] at CFU hfit hlen HPOST hF
  obtain ⟨l0, hl0⟩ : ∃ l0, L.length = l0 := ⟨_, rfl⟩
  obtain ⟨sn, sf, sdmin, sdmax, srho, sslew, sround, swindow, sattend, sseen, shist, sfly, squota, sbody⟩ := sc
  have hsn' : sn = (m : Int) := hsn
  have CC := Lib.hid (fun (A : Option Addr) (k : Nat) (W : World) (hA : LinksAt W A L) (hTW : T64 W) => cCheck ⟨sn, sf, sdmin, sdmax, srho, sslew, sround, swindow, sattend, sseen, shist, sfly, squota, sbody⟩ A L.length k L rfl hfit (by omega) (fun _ => by show sn < 9; omega) W hA hTW)
  have HF := Lib.hid hF
  clear hsc hL hfit hF hsn hsn'
  go_enter Tryd.func12, Tryd.ntmps12
  go_wp2_with fail
  refine (CFU.out _).mono ?_
  rintro e w1 ⟨v, rfl, hown, hb1⟩
  obtain ⟨A, k, rfl, hk⟩ := own_form2 hown
  have hLA := ownLinks hown
  have hAB : ∀ b off, A = some ⟨b, off, none⟩ → w.heap.size ≠ b := fun b off hA => by
    have := own_base hown b off hA
    omega
  have hb01 := k1.trans (hb1.mono (by omega))
  have hz1 := k0.keep hb1
  rw [hl0]
  go_wp2_with fail
  refine (CS.out A l0 k _).mono ?_
  rintro e w2 ⟨⟨b, rfl⟩, hb2⟩
  obtain ⟨w3, hw3⟩ : ∃ w3, w2.alloc (.cells #[.int .i64 sn, .slice A l0 k, .int .i64 sf, .int .i64 sdmin, .int .i64 sdmax, .int .i64 srho, .int .i64 sslew, .int .i64 sround, .int .i64 swindow, .int .i64 sattend, .int .i64 sseen, .int .i64 shist, .int .i64 sfly, .int .i64 squota, .int .i64 sbody] 24) = w3 := ⟨_, rfl⟩
  have hb3 : Below w2.heap.size w2 w3 := by rw [← hw3]; exact (Below.refl _ _).alloc (Nat.le_refl _) _
  have hbx : BoxF w3 w2.heap.size [.int .i64 sn, .slice A l0 k, .int .i64 sf, .int .i64 sdmin, .int .i64 sdmax, .int .i64 srho, .int .i64 sslew, .int .i64 sround, .int .i64 swindow, .int .i64 sattend, .int .i64 sseen, .int .i64 shist, .int .i64 sfly, .int .i64 squota, .int .i64 sbody] := by rw [← hw3]; exact boxF_made _ _ _
  have hz3 := (hz1.keep hb2).keep hb3
  have hLA3 := (hLA.below hb2).below hb3
  have hb03 := (hb01.trans (hb2.mono hb01.size)).trans (hb3.mono (hb01.trans (hb2.mono hb01.size)).size)
  have d0 := hbx.1 0 _ rfl
  have d1 := hbx.1 1 _ rfl
  have d2 := hbx.1 2 _ rfl
  have d3 := hbx.1 3 _ rfl
  have d4 := hbx.1 4 _ rfl
  have d5 := hbx.1 5 _ rfl
  have d6 := hbx.1 6 _ rfl
  have d7 := hbx.1 7 _ rfl
  have d8 := hbx.1 8 _ rfl
  have d9 := hbx.1 9 _ rfl
  have d10 := hbx.1 10 _ rfl
  have d11 := hbx.1 11 _ rfl
  have d12 := hbx.1 12 _ rfl
  have d13 := hbx.1 13 _ rfl
  have d14 := hbx.1 14 _ rfl
  go_wp2_with fail
  have CK := CC.out A k w3 hLA3 (hT.below hb03)
  rw [hl0] at CK
  refine CK.mono ?_
  rintro e w4 ⟨rfl, hb4⟩
  have hz4 := hz3.keep hb4
  have hb04 := hb03.trans (hb4.mono hb03.size)
  have hbx4 := hbx.keep hb4
  have hLA4 := hLA3.below hb4
  clear d0 d1 d2 d3 d4 d5 d6 d7 d8 d9 d10 d11 d12 d13 d14 CK hb01 hz1 hb1 hb2 hw3 hb3 hbx hz3 hLA3 hb03 hLA hown hb4 k0 k1
  rw [if_pos HF.out]
  have d0 := hbx4.1 0 _ rfl; have d1 := hbx4.1 1 _ rfl; have d2 := hbx4.1 2 _ rfl; have d3 := hbx4.1 3 _ rfl; have d4 := hbx4.1 4 _ rfl; have d5 := hbx4.1 5 _ rfl; have d6 := hbx4.1 6 _ rfl; have d7 := hbx4.1 7 _ rfl; have d8 := hbx4.1 8 _ rfl; have d9 := hbx4.1 9 _ rfl; have d10 := hbx4.1 10 _ rfl; have d11 := hbx4.1 11 _ rfl; have d12 := hbx4.1 12 _ rfl; have d13 := hbx4.1 13 _ rfl; have d14 := hbx4.1 14 _ rfl
  have zs0 := hz4.1 0 _ rfl
  have zf0 := hz4.2 0 (by simp)
  have zs1 := hz4.1 1 _ rfl
  have zf1 := hz4.2 1 (by simp)
  have zs2 := hz4.1 2 _ rfl
  have zf2 := hz4.2 2 (by simp)
  have zs3 := hz4.1 3 _ rfl
  have zf3 := hz4.2 3 (by simp)
  have zs4 := hz4.1 4 _ rfl
  have zf4 := hz4.2 4 (by simp)
  have zs5 := hz4.1 5 _ rfl
  have zf5 := hz4.2 5 (by simp)
  have zs6 := hz4.1 6 _ rfl
  have zf6 := hz4.2 6 (by simp)
  have zs7 := hz4.1 7 _ rfl
  have zf7 := hz4.2 7 (by simp)
  have zs8 := hz4.1 8 _ rfl
  have zf8 := hz4.2 8 (by simp)
  have zs9 := hz4.1 9 _ rfl
  have zf9 := hz4.2 9 (by simp)
  have zs10 := hz4.1 10 _ rfl
  have zf10 := hz4.2 10 (by simp)
  have zs11 := hz4.1 11 _ rfl
  have zf11 := hz4.2 11 (by simp)
  have zs12 := hz4.1 12 _ rfl
  have zf12 := hz4.2 12 (by simp)
  have zs13 := hz4.1 13 _ rfl
  have zf13 := hz4.2 13 (by simp)
  have zs14 := hz4.1 14 _ rfl
  have zf14 := hz4.2 14 (by simp)
  have zp := storeN_box w.heap.size [.int .i64 sn, .slice A l0 k, .int .i64 sf, .int .i64 sdmin, .int .i64 sdmax, .int .i64 srho, .int .i64 sslew, .int .i64 sround, .int .i64 swindow, .int .i64 sattend, .int .i64 sseen, .int .i64 shist, .int .i64 sfly, .int .i64 squota, .int .i64 sbody] w4 [] [.int .i64 0, .slice none 0 0, .int .i64 0, .int .i64 0, .int .i64 0, .int .i64 0, .int .i64 0, .int .i64 0, .int .i64 0, .int .i64 0, .int .i64 0, .int .i64 0, .int .i64 0, .int .i64 0, .int .i64 0] rfl hz4
  have zq := storeN_below (N := w.heap.size) w.heap.size (Nat.le_refl _) [.int .i64 sn, .slice A l0 k, .int .i64 sf, .int .i64 sdmin, .int .i64 sdmax, .int .i64 srho, .int .i64 sslew, .int .i64 sround, .int .i64 swindow, .int .i64 sattend, .int .i64 sseen, .int .i64 shist, .int .i64 sfly, .int .i64 squota, .int .i64 sbody] w w4 0 hb04
  obtain ⟨wf, hwf⟩ : ∃ wf, storeN w.heap.size w4 [.int .i64 sn, .slice A l0 k, .int .i64 sf, .int .i64 sdmin, .int .i64 sdmax, .int .i64 srho, .int .i64 sslew, .int .i64 sround, .int .i64 swindow, .int .i64 sattend, .int .i64 sseen, .int .i64 shist, .int .i64 sfly, .int .i64 squota, .int .i64 sbody] 0 = wf := ⟨_, rfl⟩
  rw [show ([] : List Value).length = 0 from rfl, List.nil_append, hwf] at zp
  rw [hwf] at zq
  have hwf0 := hwf
  simp only [storeN, Nat.reduceAdd] at hwf
  have ef0 := zp.1 0 _ rfl
  have ef1 := zp.1 1 _ rfl
  have ef2 := zp.1 2 _ rfl
  have ef3 := zp.1 3 _ rfl
  have ef4 := zp.1 4 _ rfl
  have ef5 := zp.1 5 _ rfl
  have ef6 := zp.1 6 _ rfl
  have ef7 := zp.1 7 _ rfl
  have ef8 := zp.1 8 _ rfl
  have ef9 := zp.1 9 _ rfl
  have ef10 := zp.1 10 _ rfl
  have ef11 := zp.1 11 _ rfl
  have ef12 := zp.1 12 _ rfl
  have ef13 := zp.1 13 _ rfl
  have ef14 := zp.1 14 _ rfl
  have HBF := Lib.hid zq
  have hLF : LinksAt wf A L := by rw [← hwf0]; exact storeN_links hAB _ _ _ hLA4
  have HLF := Lib.hid hLF
  clear hAB
  clear zp zq hwf0 hz4 hb04
  go_wp2
  refine bodyPost_ret (v := .tuple #[.agg #[.int .i64 sn, .slice A l0 k, .int .i64 sf, .int .i64 sdmin, .int .i64 sdmax, .int .i64 srho, .int .i64 sslew, .int .i64 sround, .int .i64 swindow, .int .i64 sattend, .int .i64 sseen, .int .i64 shist, .int .i64 sfly, .int .i64 squota, .int .i64 sbody], .int .i64 0]) (by simp [results, Tryd.results12, go_sem, hz, hsz, ef0, ef1, ef2, ef3, ef4, ef5, ef6, ef7, ef8, ef9, ef10, ef11, ef12, ef13, ef14]) rfl ?_
  exact HPOST.out _ _ HBF.out (fun h => absurd HF.out h) (fun _ => ⟨A, k, by rw [hl0], HLF.out, hk⟩)
end Go.Proofs.YtpbfacabafkheaaDoor
