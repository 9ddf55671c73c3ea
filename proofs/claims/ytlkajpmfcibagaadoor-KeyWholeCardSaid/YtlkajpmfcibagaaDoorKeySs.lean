/- key.Sort; the reference's Into; two lists of keys compared. -/
import Derived.Test.YtlkajpmfcibagaaDoorKeySr
namespace Go.Proofs.YtlkajpmfcibagaaDoor
open Go.RowKit Law Go.Sort Go.Lib
set_option linter.unusedVariables false

theorem sorted_facts {ks : List K} {n : Nat} (hn : ks.length = n) {d' : Array K} (hp : PermIn 0 ks.toArray.size ks.toArray d') (hs : SortedIn (ltOf cmpK) 0 ks.toArray.size d') :
    d'.toList.length = n ∧ (∀ y, y ∈ d'.toList ↔ y ∈ ks) ∧ ∀ i j, i < j → j < d'.toList.length → ¬ ltK (d'.toList.getD j k0) (d'.toList.getD i k0) := by
  obtain ⟨h1, _, h3⟩ := hp
  have hsz : d'.size = n := by rw [h1]; simpa using hn
  have e1 : d'.extract 0 ks.toArray.size = d' := by rw [← h1]; simp
  have e2 : ks.toArray.extract 0 ks.toArray.size = ks.toArray := by simp
  rw [e1, e2] at h3
  refine ⟨by simpa using hsz, fun y => by simpa using h3.mem_iff, fun i j hij hj => ?_⟩
  have h4 := hs i j (Nat.zero_le _) hij (by rw [← h1]; simpa using hj)
  have e : ∀ p, d'[p]! = d'.toList.getD p k0 := fun p => by
    have := getD_toArray d'.toList p
    simpa using this
  rw [e, e] at h4
  unfold ltOf at h4
  rw [decide_eq_false_iff_not, cmpK_neg] at h4
  exact h4
def SortedOf (w : World) (ks : List K) (e : Ending) (w' : World) : Prop :=
  ∃ (g cap : Nat) (s : List K), e = .returned (.slice (some ⟨g, 0, none⟩) s.length cap) ∧ KeyAt w' (some ⟨g, 0, none⟩) s ∧ s.length ≤ ks.length ∧ s.length ≤ cap ∧ s.Pairwise ltK ∧ (∀ y, y ∈ s ↔ y ∈ ks) ∧ Below w.heap.size w w'
set_option maxHeartbeats 1600000 in
theorem keySort {n : Nat} (ad : Addr) (c : Nat) (ks : List K) (hn : ks.length = n) (hm : n ≤ 1000000) (w : World) (hA : KeyAt w (some ad) ks) :
    Calls Tryd.prog 24 #[.slice (some ad) n c] w (SortedOf w ks) := by
  have HN := Lib.hid hn
  have C1 := Lib.hid (cloneKeys ad c ks hn hm w hA)
  have eg : ∀ args w, (callFunc 36 args).run Tryd.prog w = .ok (.enter 36 args) w := enters_of Tryd.func36 (by kernel_rfl) rfl
  have EG := Lib.hid eg
  clear hn eg
  go_enter Tryd.func24, Tryd.ntmps24
  go_wp2_with fail
  refine C1.out.mono ?_
  rintro e w1 ⟨g, cap, rfl, hown, hb1⟩
  have hH := holds_own hown HN.out
  obtain ⟨hgb, hgw⟩ := hown.lt g rfl
  have hncap : n ≤ cap ∧ cap ≤ maxLen := by
    rcases hown.2 with ⟨hv, _⟩ | ⟨g', cap', cur, hv, _, _, h1, h2, _⟩
    · cases hv
    · simp only [Value.slice.injEq, Option.some.injEq, Addr.mk.injEq, and_true, true_and] at hv
      obtain ⟨rfl, rfl⟩ := hv
      exact ⟨h1, h2⟩
  have hS := Tryd.slices_SortFunc_keys encK (fun _ => rfl) (fun x v hv => by simp [encK] at hv; rcases hv with rfl | rfl | rfl <;> rfl) cmpK swoK 36 #[] g 0 cap ks.toArray w1 EG.out
    (fun m os dk _ x y => sortClosure x y _) hH hgw (by simp; have := HN.out; omega)
  rw [show ks.toArray.size = n by simpa using HN.out] at hS
  have HS := Lib.hid hS
  have HH := Lib.hid hH
  clear hS hown hH
  go_wp2_with fail
  refine HS.out.mono ?_
  rintro e w2 ⟨rfl, d', m, os, hperm, hsorted, hw2⟩
  have hsf := sorted_facts HN.out (by simpa [HN.out] using hperm) (by simpa [HN.out] using hsorted)
  obtain ⟨hl, hmem, hord⟩ := hsf
  have hH2 : HoldsK encK 3 w2 g 0 d' := by
    rw [hw2]
    have h1 : HoldsK encK 3 (putRowK encK 3 (Sort.ahead w1 m) g 0 d') g 0 d' := holdsK_putRowK (enc := encK) (k := 3) _ _ _ ks.toArray d' HH.out (by have : d'.toList.length = n := hl; simp at this ⊢; have := HN.out; omega)
    intro j hj
    have h2 := h1 j hj
    have hsz : g < (putRowK encK 3 (Sort.ahead w1 m) g 0 d').heap.size := by
      unfold putRowK
      rw [size_putRow]
      exact hgw
    unfold sortWorldK
    rw [cell?_grow _ _ _ (by exact hsz), frozen?_grow _ _ _ (by exact hsz)]
    exact h2
  have hR := row_of_holds (n := n) hl (by simpa using hH2)
  have hsz2 : w1.heap.size ≤ w2.heap.size := by
    rw [hw2]
    unfold sortWorldK putRowK
    simp [grow]
  have hb2 : ∀ N, N ≤ g → N ≤ w1.heap.size → Below N w1 w2 := by
    intro N hN hNw
    rw [hw2]
    unfold sortWorldK putRowK
    have h1 : Below N w1 (putRow id (Sort.ahead w1 m) g 0 (Go.Sort.flatK encK 3 d')) := Lib.below_putRow (Below.refl _ _) hN
    exact h1.trans (by have := below_grows (Below.refl N (putRow id (Sort.ahead w1 m) g 0 (Go.Sort.flatK encK 3 d'))) 0 os (Nat.le_trans hNw h1.size); exact this)
  have hg2 : g < w2.heap.size := by omega
  obtain ⟨ds, hds⟩ : ∃ ds, d'.toList = ds := ⟨_, rfl⟩
  rw [hds] at hl hmem hord hR
  have HA := Lib.hid (And.intro hmem (And.intro hord (And.intro hb1 hb2)))
  clear hH2 hb2 hw2 hb1 hds hperm hsorted hmem hord
  by_cases hn2 : n < 2
  · have C2 := Lib.hid (compactSmall (some ⟨g, 0, none⟩) n cap hn2 w2)
    have HK : Hid (KeyAt w2 (some ⟨g, 0, none⟩) ds) := KAt.key hg2 fun p hp => (hR p (by omega)).1
    have HP : Hid (ds.Pairwise ltK) := by
      unfold Hid
      match ds, hl with
      | [], _ => exact List.Pairwise.nil
      | [a], _ => exact List.pairwise_singleton _ _
      | a :: b :: r, h => simp at h; omega
    have HL := Lib.hid hl
    clear hR hl
    go_wp2_with fail
    refine C2.out.mono ?_
    rintro e w3 ⟨rfl, rfl⟩
    go_wp2
    go_ret
    exact ⟨g, cap, ds, by rw [HL.out]; rfl, HK.out, by rw [HL.out, HN.out]; exact Nat.le_refl _, by rw [HL.out]; exact hncap.1, HP.out, HA.out.1, HA.out.2.2.1.trans (HA.out.2.2.2 _ hgb HA.out.2.2.1.size)⟩
  · have C2 := Lib.hid (keyCompact n cap g ds hl (by omega) hncap.1 hncap.2 hm w2 hg2 hR)
    have HL := Lib.hid hl
    clear hR hl
    go_wp2_with fail
    refine C2.out.mono ?_
    rintro e w3 ⟨rfl, hk3, hsz3, hb3⟩
    have hu := uniqTo_spec HA.out.2.1 n (by rw [HL.out]; exact Nat.le_refl _)
    have hul := uniqTo_len ds n
    have HU := Lib.hid (And.intro hu (And.intro hul (And.intro hk3 hb3)))
    clear hu hul hk3 hb3
    go_wp2
    go_ret
    obtain ⟨⟨u1, u2, _⟩, u3, u4, u5⟩ := HU.out
    have ht : ds.take n = ds := List.take_of_length_le (by rw [HL.out]; exact Nat.le_refl _)
    rw [ht] at u2
    have h1 : w.heap.size ≤ w2.heap.size := Nat.le_trans HA.out.2.2.1.size hsz2
    exact ⟨g, cap, uniqTo ds n, rfl, u4, by rw [HN.out]; exact u3, by omega, u1, fun y => (u2 y).trans (HA.out.1 y), HA.out.2.2.1.trans ((HA.out.2.2.2 _ hgb HA.out.2.2.1.size).trans (u5 _ hgb h1))⟩
end Go.Proofs.YtlkajpmfcibagaaDoor
