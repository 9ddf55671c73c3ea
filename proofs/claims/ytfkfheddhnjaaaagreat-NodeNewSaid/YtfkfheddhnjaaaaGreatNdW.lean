/- The chapter's example: a node of two that is booted. -/
import Derived.Test.YtfkfheddhnjaaaaGreatNdL
import Derived.Test.YtfkfheddhnjaaaaGreatRhE
namespace Go.Proofs.YtfkfheddhnjaaaaGreat
open Go.RowKit Law
set_option linter.unusedVariables false
set_option linter.unusedSimpArgs false
set_option maxRecDepth 100000

theorem nodeNew (c : Cn) (A : Option Addr) (l k : Nat) (L : List Pr) (hl : L.length = l) (hfit : ∀ x ∈ L, PrF x) (hm : l ≤ 9223372036854775807) (id hard : Int) (w : World) (hA : LinksAt w A L) :
    Calls Tryz.prog 4 #[.agg (c.cells A l k).toArray, .int .i64 id, .int .i64 hard] w (NdPost c L id hard w) := by
  by_cases h1 : gErr c.n L = 0
  · cases h2 : enoughB c
    · exact nodeNewB c A l k L hl hfit hm id hard w hA h1 h2
    · by_cases h3 : c.f < 0
      · exact nodeNewC c A l k L hl hfit hm id hard w hA h1 h2 h3
      · by_cases h4 : id < 0
        · exact nodeNewD c A l k L hl hfit hm id hard w hA h1 h2 h3 (.inl h4)
        · by_cases h5 : c.n ≤ id
          · exact nodeNewD c A l k L hl hfit hm id hard w hA h1 h2 h3 (.inr ⟨by omega, h5⟩)
          · exact nodeNewE c A l k L hl hfit hm id hard w hA h1 h2 h3 (by omega) h5
  · exact nodeNewA c A l k L hl hfit hm id hard w hA h1
theorem nodeNow {w : World} {lo : Nat} {b : NdO} {c : Cn} {x : NV} {s : NS} (h : NodeAt w lo b c x s) (hph : s.ph ≠ 0) :
    Calls Tryz.prog 36 #[.pointer (some ⟨b.N, 0, none⟩)] w fun e w' => e = .returned (.tuple #[.int .i64 s.at_, .bool true]) ∧ w = w' := by
  have C := Lib.hid (clockNow h.clk hph)
  have c35 := h.box.cell 35 _ rfl
  generalize b.N = N at *
  clear h hph
  go_enter Tryz.func36, Tryz.ntmps36
  go_wp2_with fail
  refine C.out.mono ?_
  rintro e w1 ⟨rfl, rfl⟩
  go_wp2
  go_ret2
  exact ⟨rfl, rfl⟩
theorem nodeSince {w : World} {lo : Nat} {b : NdO} {c : Cn} {x : NV} {s : NS} (h : NodeAt w lo b c x s) (hj : s.js = 2 ∨ s.js = 3) :
    Calls Tryz.prog 37 #[.pointer (some ⟨b.N, 0, none⟩)] w fun e w' => e = .returned (.tuple #[.int .i64 s.jc, .bool true]) ∧ w = w' := by
  have C := Lib.hid (joinSince h.jn hj)
  have c44 := h.box.cell 44 _ rfl
  generalize b.N = N at *
  clear h hj
  go_enter Tryz.func37, Tryz.ntmps37
  go_wp2_with fail
  refine C.out.mono ?_
  rintro e w1 ⟨rfl, rfl⟩
  go_wp2
  go_ret2
  exact ⟨rfl, rfl⟩
theorem nodeViews1 {w : World} {lo : Nat} {b : NdO} {c : Cn} {x : NV} {s : NS} {R cap : Nat} {no at_ st : Int} (h : NodeAt w lo b c x s) (hv : s.vw = .slice (some ⟨R, 0, none⟩) 1 cap) (hR : BoxAt w R [.int .i64 no, .int .i64 at_, .int .u64 st]) :
    Calls Tryz.prog 48 #[.pointer (some ⟨b.N, 0, none⟩)] w (ViewsPost no at_ st w) := by
  have hv1 := h.vws
  rw [hv] at hv1
  have C := Lib.hid (viewList1 hv1 hR)
  have c45 := h.box.cell 45 _ rfl
  generalize b.N = N at *
  clear h hv hv1 hR
  go_enter Tryz.func48, Tryz.ntmps48
  go_wp2_with fail
  refine C.out.mono ?_
  rintro e w1 h1
  have H := Lib.hid h1
  obtain ⟨g, c, rfl, -⟩ := h1
  go_wp2
  go_ret
  exact H.out
def exC : Cn := ⟨2, 0, 1, 1, 0, 32, 0, 0, 0, 9, 9, 0, 2, 9⟩
theorem ex_ok : newErr (sugC exC) [(0, 1)] 0 = 0 := by decide +kernel
theorem ex_n : (sugC exC).n = 2 := by decide +kernel
def ExPost (w : World) (e : Ending) (w' : World) : Prop := ∃ lo b x s R cap, e = .returned (.tuple #[.pointer (some ⟨b.N, 0, none⟩), .int .i64 0]) ∧ NodeAt w' lo b (sugC exC) x s ∧ s.ph = 2 ∧ s.at_ = 0 ∧ s.js = 2 ∧ s.jc = 0 ∧ s.vw = .slice (some ⟨R, 0, none⟩) 1 cap ∧ BoxAt w' R [.int .i64 0, .int .i64 0, .int .u64 3] ∧ Below w.heap.size w w'
set_option maxHeartbeats 6400000 in
theorem example44 (w : World) : Calls Tryz.prog 49 #[] w (ExPost w) := by
  have CS := Lib.hid (fun (W : World) => refSuggest exC (some ⟨w.heap.size, 0, none⟩) 1 1 W)
  have hb1 := (Below.refl w.heap.size w).alloc (Nat.le_refl _) (.cells #[.int .i64 0, .int .i64 1] 155)
  have k1 := boxF_made w [.int .i64 0, .int .i64 1] 155
  obtain ⟨w1, hw1⟩ : ∃ w1, w.alloc (.cells #[.int .i64 0, .int .i64 1] 155) = w1 := ⟨_, rfl⟩
  rw [hw1] at hb1 k1
  have H1 := Lib.hid (And.intro hb1 k1)
  clear hb1 k1
  unfold exC at CS
  have CS : Hid (∀ (W : World), Calls Tryz.prog 91 #[.agg #[.int .i64 2, .slice (some ⟨w.heap.size, 0, none⟩) 1 1, .int .i64 0, .int .i64 1, .int .i64 1, .int .i64 0, .int .i64 32, .int .i64 0, .int .i64 0, .int .i64 0, .int .i64 9, .int .i64 9, .int .i64 0, .int .i64 2, .int .i64 9]] W (SugPost exC (some ⟨w.heap.size, 0, none⟩) 1 1 W)) := CS
  unfold SugPost at CS
  have HK : Hid (newErr (sugC exC) [(0, 1)] 0 = 0 ∧ (sugC exC).n = 2) := ⟨ex_ok, ex_n⟩
  have HP : Hid (∀ e w', (∃ lo b x s R cap, e = .returned (.tuple #[.pointer (some ⟨b.N, 0, none⟩), .int .i64 0]) ∧ NodeAt w' lo b (sugC exC) x s ∧ s.ph = 2 ∧ s.at_ = 0 ∧ s.js = 2 ∧ s.jc = 0 ∧ s.vw = .slice (some ⟨R, 0, none⟩) 1 cap ∧ BoxAt w' R [.int .i64 0, .int .i64 0, .int .u64 3] ∧ Below w.heap.size w w') → ExPost w e w') := fun _ _ h => h
  obtain ⟨sc, hsc⟩ : ∃ sc, sugC exC = sc := ⟨_, rfl⟩
  rw [hsc] at CS HK HP
  clear hsc
  have CN := fun (W : World) (hW : LinksAt W (some ⟨w.heap.size, 0, none⟩) [(0, 1)]) => nodeNew sc (some ⟨w.heap.size, 0, none⟩) 1 1 [(0, 1)] rfl (by intro p hp; simp only [List.mem_cons, List.not_mem_nil, or_false] at hp; subst hp; exact ⟨⟨by decide, by decide⟩, ⟨by decide, by decide⟩⟩) (by decide) 0 0 W hW
  obtain ⟨n, f, dmin, dmax, rho, slew, round, window, attend, seen, hist, fly, quota, body⟩ := sc
  have CN := Lib.hid CN
  go_enter Tryz.func49, Tryz.ntmps49
  go_wp2_with fail
  refine (CS.out _).mono ?_
  rintro e w2 ⟨⟨bb, rfl⟩, hb2⟩
  have k3 := boxF_made w2 [.int .i64 n, .slice (some ⟨w.heap.size, 0, none⟩) 1 1, .int .i64 f, .int .i64 dmin, .int .i64 dmax, .int .i64 rho, .int .i64 slew, .int .i64 round, .int .i64 window, .int .i64 attend, .int .i64 seen, .int .i64 hist, .int .i64 fly, .int .i64 quota, .int .i64 body] 24
  have hb3 := (Below.refl w2.heap.size w2).alloc (Nat.le_refl _) (.cells #[.int .i64 n, .slice (some ⟨w.heap.size, 0, none⟩) 1 1, .int .i64 f, .int .i64 dmin, .int .i64 dmax, .int .i64 rho, .int .i64 slew, .int .i64 round, .int .i64 window, .int .i64 attend, .int .i64 seen, .int .i64 hist, .int .i64 fly, .int .i64 quota, .int .i64 body] 24)
  obtain ⟨w3, hw3⟩ : ∃ w3, w2.alloc (.cells #[.int .i64 n, .slice (some ⟨w.heap.size, 0, none⟩) 1 1, .int .i64 f, .int .i64 dmin, .int .i64 dmax, .int .i64 rho, .int .i64 slew, .int .i64 round, .int .i64 window, .int .i64 attend, .int .i64 seen, .int .i64 hist, .int .i64 fly, .int .i64 quota, .int .i64 body] 24) = w3 := ⟨_, rfl⟩
  rw [hw3] at hb3
  rw [show w2.alloc (.cells [.int .i64 n, .slice (some ⟨w.heap.size, 0, none⟩) 1 1, .int .i64 f, .int .i64 dmin, .int .i64 dmax, .int .i64 rho, .int .i64 slew, .int .i64 round, .int .i64 window, .int .i64 attend, .int .i64 seen, .int .i64 hist, .int .i64 fly, .int .i64 quota, .int .i64 body].toArray 24) = w3 from hw3] at k3
  have hb13 := hb2.trans (hb3.mono hb2.size)
  have kl := H1.out.2.keep hb13
  have hLA : LinksAt w3 (some ⟨w.heap.size, 0, none⟩) [(0, 1)] := by
    intro k e he
    match k, he with
    | 0, he =>
      injection he with he
      subst he
      refine ⟨w.heap.size, 0, rfl, kl.lt (by simp), fun j v hv => ?_⟩
      rw [show 0 + 0 * 2 + j = j by omega]
      exact kl.1 j v hv
  have C4 := Lib.hid (CN.out w3 hLA)
  have H3 := Lib.hid (H1.out.1.trans (hb13.mono H1.out.1.size))
  have kc0 := k3.1 0 _ rfl
  have kc1 := k3.1 1 _ rfl
  have kc2 := k3.1 2 _ rfl
  have kc3 := k3.1 3 _ rfl
  have kc4 := k3.1 4 _ rfl
  have kc5 := k3.1 5 _ rfl
  have kc6 := k3.1 6 _ rfl
  have kc7 := k3.1 7 _ rfl
  have kc8 := k3.1 8 _ rfl
  have kc9 := k3.1 9 _ rfl
  have kc10 := k3.1 10 _ rfl
  have kc11 := k3.1 11 _ rfl
  have kc12 := k3.1 12 _ rfl
  have kc13 := k3.1 13 _ rfl
  have kc14 := k3.1 14 _ rfl
  clear k3 hb3 hb13 kl hLA hb2
  simp only [Cn.cells, List.length_cons, List.length_nil]
  go_wp2_with fail
  refine C4.out.mono ?_
  rintro e w4 ⟨hb4, hok, -⟩
  obtain ⟨b, rfl, hN⟩ := hok HK.out.1
  have hn2 : n = 2 := HK.out.2
  have C5 := Lib.hid (nodeBoot hN rfl rfl rfl (by show (0 : Int) ≤ n; omega) (by show n ≤ 64; omega))
  have H4 := Lib.hid (H3.out.trans (hb4.mono H3.out.size))
  have H5 : Hid (w.heap.size ≤ w3.heap.size) := H3.out.size
  clear hb4 hok hN kc0 kc1 kc2 kc3 kc4 kc5 kc6 kc7 kc8 kc9 kc10 kc11 kc12 kc13 kc14
  go_wp2_with fail
  refine C5.out.mono ?_
  rintro e w5 ⟨rfl, r, m, R, cap, hN5, -, -, hR, u1, u2, u3, u4, hb5⟩
  have HF : Hid (ExPost w (.returned (.tuple #[.pointer (some ⟨b.N, 0, none⟩), .int .i64 0])) w5) := by
    rw [show ((⟨n, f, dmin, dmax, rho, slew, round, window, attend, seen, hist, fly, quota, body⟩ : Cn).n) = 2 from hn2] at hR
    exact HP.out _ _ ⟨_, b, _, _, R, cap, rfl, hN5, rfl, rfl, rfl, rfl, rfl, hR, H4.out.trans (hb5.mono H5.out)⟩
  clear hN5 hR u1 u2 u3 u4 hb5
  go_wp2
  go_ret2
  exact HF.out
set_option maxHeartbeats 3200000 in
theorem works44 (w : World) : Calls Tryz.prog 7 #[] w fun e w' => e = .returned (.bool true) ∧ Below w.heap.size w w' := by
  have C := Lib.hid (example44 w)
  go_enter Tryz.func7, Tryz.ntmps7
  go_wp2_with fail
  refine C.out.mono ?_
  rintro e w1 ⟨lo, b, x, s, R, cap, rfl, hN, h1, h2, h3, h4, h5, hR, hb⟩
  have C1 := nodeNow hN (by rw [h1]; decide)
  have C2 := nodeSince hN (.inl h3)
  rw [h2] at C1
  rw [h4] at C2
  have C1 := Lib.hid C1
  have C2 := Lib.hid C2
  have C3 := Lib.hid (nodeViews1 hN h5 hR)
  have HB := Lib.hid hb
  clear hN h1 h2 h3 h4 h5 hR hb
  go_wp2_with fail
  refine C1.out.mono ?_
  rintro e w' ⟨rfl, rfl⟩
  go_wp2_with fail
  refine C2.out.mono ?_
  rintro e w' ⟨rfl, rfl⟩
  go_wp2_with fail
  refine C3.out.mono ?_
  rintro e w2 ⟨R2, c2, rfl, hR2, hl, hb2⟩
  have c2' := hR2 2 _ rfl
  have HB2 := Lib.hid (HB.out.trans (hb2.mono HB.out.size))
  clear hR2 hl hb2
  go_wp2
  go_ret
  exact ⟨rfl, HB2.out⟩
end Go.Proofs.YtfkfheddhnjaaaaGreat
