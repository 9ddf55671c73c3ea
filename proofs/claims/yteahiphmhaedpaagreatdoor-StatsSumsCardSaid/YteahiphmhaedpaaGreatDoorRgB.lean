/- The reference's graph out of its links, or what is wrong with them. -/
import Derived.Test.YteahiphmhaedpaaGreatDoorRgA
namespace Go.Proofs.YteahiphmhaedpaaGreatDoor
open Go.RowKit Law
set_option linter.unusedVariables false
set_option linter.unusedSimpArgs false
set_option maxRecDepth 100000

def flatP (L : List Pr) : List Value := L.flatMap Pr.cells
theorem flatP_snoc (L : List Pr) (p : Pr) : flatP (L ++ [p]) = flatP L ++ Pr.cells p := by simp [flatP]
theorem flatP_at : ∀ (L : List Pr) (k j : Nat) (p : Pr) (v : Value), L[k]? = some p → (Pr.cells p)[j]? = some v → (flatP L)[k * 2 + j]? = some v
  | [], k, j, p, v, h, _ => by simp at h
  | x :: r, 0, j, p, v, h, hv => by
    obtain rfl : x = p := by simpa using h
    have hj : j < (Pr.cells x).length := (List.getElem?_eq_some_iff.1 hv).1
    have : flatP (x :: r) = Pr.cells x ++ flatP r := by simp [flatP]
    rw [this, Nat.zero_mul, Nat.zero_add, List.getElem?_append_left hj]
    exact hv
  | x :: r, k + 1, j, p, v, h, hv => by
    have : flatP (x :: r) = Pr.cells x ++ flatP r := by simp [flatP]
    rw [this, List.getElem?_append_right (by simp [Pr.cells]; omega), show (k + 1) * 2 + j - (Pr.cells x).length = k * 2 + j by simp [Pr.cells]; omega]
    exact flatP_at r k j p v (by simpa using h) hv
theorem ownLinks {w : World} {base n : Nat} {A : Option Addr} {c : Nat} {L : List Pr} (h : w.ownsRow base 58 2 (.slice A n c) n (flatP L)) : LinksAt w A L := by
  intro k p hp
  have hk : k < L.length := (List.getElem?_eq_some_iff.1 hp).1
  have hn : (flatP L).length = n * 2 := h.1
  have hl : (flatP L).length = L.length * 2 := by
    clear h hn hp hk
    induction L with
    | nil => rfl
    | cons x r ih =>
      have : flatP (x :: r) = Pr.cells x ++ flatP r := by simp [flatP]
      rw [this, List.length_append, ih, List.length_cons]
      simp [Pr.cells]; omega
  obtain ⟨g, cap, hv⟩ := Joins.ownsRow_form h (by omega)
  obtain rfl : A = some ⟨g, 0, none⟩ := by injection hv
  refine ⟨g, 0, rfl, (h.lt g rfl).2, fun j v hj => ?_⟩
  have := h.cells (g := g) rfl (k * 2 + j) v (flatP_at L k j p v hp hj)
  rw [Lib.add_plain] at this
  rw [← Nat.add_assoc] at this
  simpa using this
theorem own_form2 {w : World} {base n size : Nat} {e : TypeId} {v : Value} {xs : List Value} (h : w.ownsRow base e size v n xs) : ∃ A c, v = .slice A n c ∧ n ≤ c := by
  rcases h.2 with ⟨hv, h0⟩ | ⟨g, cap, cur, hv, _, _, hc, _⟩
  · exact ⟨none, 0, by rw [hv, h0], by omega⟩
  · exact ⟨_, _, hv, hc⟩
theorem prInfo : (Tryz.prog.info? 58).map (fun i => (i.zero, i.size, i.bytes)) = some (some (.agg #[.int .i64 0, .int .i64 0]), 2, 16) := by kernel_rfl
/-- How it stands in the loop. -/
structure RgS (w W : World) (m k : Nat) (v : Value) (L : List Pr) : Prop where
  zb : BoxF W w.heap.size [.int .i64 0, .slice none 0 0]
  bx : BoxF W (w.heap.size + 1) [.int .i64 (m : Int), v]
  own : W.ownsRow (w.heap.size + 2) 58 2 v k (flatP (L.take k))
  bel : Below w.heap.size w W
theorem RgS.keep {w W W' : World} {m k : Nat} {v : Value} {L : List Pr} (h : RgS w W m k v L) (hb : Below W.heap.size W W') : RgS w W' m k v L :=
  ⟨h.zb.keep hb, h.bx.keep hb, own_below h.own hb, h.bel.trans (hb.mono h.bel.size)⟩
def RNewPost (n : Int) (L : List Pr) (w : World) (e : Ending) (w' : World) : Prop := Below w.heap.size w w' ∧
  (gErr n L = 0 → ∃ A c, e = .returned (.tuple #[.agg #[.int .i64 n, .slice A L.length c], .int .i64 0]) ∧ LinksAt w' A L ∧ L.length ≤ c) ∧
  (gErr n L ≠ 0 → e = .returned (.tuple #[.agg #[.int .i64 0, .slice none 0 0], .int .i64 (gErr n L : Int)]))
theorem rnew_bad {n : Int} {L : List Pr} {w w' : World} {e : Ending} {x : Nat} (h : gErr n L = x) (hx : x ≠ 0) (he : e = .returned (.tuple #[.agg #[.int .i64 0, .slice none 0 0], .int .i64 (x : Int)])) (hb : Below w.heap.size w w') : RNewPost n L w e w' :=
  ⟨hb, fun h0 => absurd (h.symm.trans h0) hx, fun _ => by rw [h]; exact he⟩
theorem rnew_ok {n : Int} {L : List Pr} {w w' : World} {e : Ending} {A : Option Addr} {l c : Nat} (hl : l = L.length) (h : gErr n L = 0) (he : e = .returned (.tuple #[.agg #[.int .i64 n, .slice A l c], .int .i64 0])) (hb : Below w.heap.size w w') (hg : LinksAt w' A L) (hc : l ≤ c) : RNewPost n L w e w' :=
  ⟨hb, fun _ => ⟨A, c, by rw [← hl]; exact he, hg, by omega⟩, fun h0 => absurd h h0⟩
set_option maxHeartbeats 6400000 in
theorem rNew (n : Int) {len : Nat} (A : Option Addr) (c : Nat) (L : List Pr) (hn : L.length = len) (hm : len ≤ 4000000000) (w : World) (hA : LinksAt w A L) :
    Calls Tryz.prog 53 #[.int .i64 n, .slice A len c] w (RNewPost n L w) := by
  obtain ⟨i0, hi, hz0, hz1, hz2⟩ := info_parts prInfo
  have k1 := Lib.hid ((Below.refl w.heap.size w).alloc (Nat.le_refl _) (.cells #[.int .i64 0, .slice none 0 0] 118))
  by_cases h1 : n < 1
  · have HE : Hid (gErr n L = 1) := by unfold Hid gErr; rw [if_pos (.inl h1)]
    go_enter Tryz.func53, Tryz.ntmps53
    go_wp2
    refine bodyPost_ret (v := .tuple #[.agg #[.int .i64 0, .slice none 0 0], .int .i64 1]) (by simp [results, Tryz.results53, go_sem]) rfl ?_
    exact rnew_bad HE.out (by decide) rfl k1.out
  by_cases h2 : n > 64
  · have HE : Hid (gErr n L = 1) := by unfold Hid gErr; rw [if_pos (.inr h2)]
    go_enter Tryz.func53, Tryz.ntmps53
    go_wp2
    refine bodyPost_ret (v := .tuple #[.agg #[.int .i64 0, .slice none 0 0], .int .i64 1]) (by simp [results, Tryz.results53, go_sem]) rfl ?_
    exact rnew_bad HE.out (by decide) rfl k1.out
  obtain ⟨m, rfl⟩ : ∃ m : Nat, n = m := ⟨n.toNat, by omega⟩
  have HE : Hid (gErr (m : Int) L = errS m [] L) := by unfold Hid gErr; rw [if_neg (by omega)]; rfl
  have hm1 : 1 ≤ m := by omega
  have hm64 : m ≤ 64 := by omega
  have HN := Lib.hid hn
  clear hn h1 h2
  go_enter Tryz.func53, Tryz.ntmps53
  go_wp2
  go_loopw [7] (fun i wr => ∃ (k : Nat) (v : Value), k ≤ len ∧ i = .int .i64 k ∧ errS m (L.take k) (L.drop k) = errS m [] L ∧ RgS w wr m k v L) (fun i _ => len - (intOf i).toNat)
  case atStart =>
    have q1 := boxF_made w [.int .i64 0, .slice none 0 0] 118
    have q2 := boxF_made (w.alloc (.cells #[.int .i64 0, .slice none 0 0] 118)) [.int .i64 (m : Int), .slice none 0 0] 118
    rw [World.size_alloc] at q2
    exact ⟨0, .slice none 0 0, Nat.zero_le _, rfl, rfl, q1.keep ((Below.refl _ _).alloc (Nat.le_refl _) _), q2, World.ownsRow_nil _ _ _ _, (((Below.refl _ w).alloc (Nat.le_refl _) _).alloc (by simp) _)⟩
  case round =>
    obtain ⟨k, v, hk, rfl, hsc, hS⟩ := hrel
    by_cases hlt : k < len
    · have hlt' : k < L.length := by rw [HN.out]; exact hlt
      have hstep := errS_step m hlt'
      have hft : flatP (L.take (k + 1)) = flatP (L.take k) ++ Pr.cells L[k] := by rw [List.take_succ_eq_append_getElem hlt', flatP_snoc]
      have hll : (L.take k).length = k := by rw [List.length_take]; omega
      obtain ⟨b, off, rfl, c0, c1⟩ := hA.at_ hS.bel hlt'
      obtain ⟨⟨p1, p2⟩, hp⟩ : ∃ q, L[k] = q := ⟨_, rfl⟩
      rw [hp] at hstep hft c0 c1
      simp only at hstep c0 c1
      obtain ⟨A2, c2, rfl, hcap⟩ := own_form2 hS.own
      have hl2 := ownLinks hS.own
      have CN1 := Lib.hid (fun W => rNode m A2 k c2 p1 W)
      have CN2 := Lib.hid (fun W => rNode m A2 k c2 p2 W)
      have CL := Lib.hid (fun (W : World) (hW : Below wr.heap.size wr W) => rLinked (m : Int) A2 k c2 (L.take k) hll (by omega) p1 p2 W (hl2.below hW))
      have b0 := hS.bx.1 0 _ rfl
      have b1 := hS.bx.1 1 _ rfl
      have HS := Lib.hid hS
      have HFT := Lib.hid hft
      clear hp hll hl2 hS hft
      cases hn0 : nodeB m p1
      · have HX : Hid (gErr (m : Int) L = 8) := by
          unfold Hid; rw [HE.out, ← hsc, hstep, if_pos (by rw [hn0]; rfl)]
        rw [hn0] at CN1
        clear hsc hstep
        go_wp2_with fail
        go_quiet (fail)
        go_wp2_with fail
        refine (CN1.out _).mono ?_
        rintro e W1 ⟨rfl, hq⟩
        have hq1 : Below wr.heap.size wr W1 := Below.trans (by first | exact (Below.refl _ _).drew | exact below_draws (Below.refl _ _) _) (hq.mono (by first | exact Nat.le_refl _ | simp))
        have HS1 := Lib.hid (HS.out.keep hq1)
        have HQ1 := Lib.hid hq1
        have b0' := HS1.out.bx.1 0 _ rfl
        have b1' := HS1.out.bx.1 1 _ rfl
        clear hq hq1
        have z0 := HS1.out.zb.1 0 _ rfl
        have z1 := HS1.out.zb.1 1 _ rfl
        have f0 := HS1.out.zb.2 0 (by simp)
        have f1 := HS1.out.zb.2 1 (by simp)
        have hzp := (HS1.out.zb.put 0 (by simp) (.int .i64 0)).put 1 (by simp) (.slice none 0 0)
        have hbp := (HS1.out.bel.setCell (p := ⟨w.heap.size, 0, none⟩) (Nat.le_refl _) (.int .i64 0)).setCell (p := ⟨w.heap.size, 1, none⟩) (Nat.le_refl _) (.slice none 0 0)
        simp only [List.set_cons_succ, List.set_cons_zero] at hzp
        have e0 := hzp.1 0 _ rfl
        have e1 := hzp.1 1 _ rfl
        have HB := Lib.hid hbp
        clear hzp hbp
        go_wp2
        refine bodyPost_ret (v := .tuple #[.agg #[.int .i64 0, .slice none 0 0], .int .i64 8]) (by simp [results, Tryz.results53, go_sem, e0, e1]) rfl ?_
        exact rnew_bad HX.out (by decide) rfl HB.out
      cases hn1 : nodeB m p2
      · have HX : Hid (gErr (m : Int) L = 8) := by
          unfold Hid; rw [HE.out, ← hsc, hstep, if_pos (by rw [hn0, hn1]; rfl)]
        rw [hn0] at CN1
        rw [hn1] at CN2
        clear hsc hstep
        go_wp2_with fail
        go_quiet (fail)
        go_wp2_with fail
        refine (CN1.out _).mono ?_
        rintro e W1 ⟨rfl, hq⟩
        have hq1 : Below wr.heap.size wr W1 := Below.trans (by first | exact (Below.refl _ _).drew | exact below_draws (Below.refl _ _) _) (hq.mono (by first | exact Nat.le_refl _ | simp))
        have HS1 := Lib.hid (HS.out.keep hq1)
        have HQ1 := Lib.hid hq1
        have b0' := HS1.out.bx.1 0 _ rfl
        have b1' := HS1.out.bx.1 1 _ rfl
        clear hq hq1
        go_wp2_with fail
        refine (CN2.out _).mono ?_
        rintro e W2 ⟨rfl, hq⟩
        have HS2 := Lib.hid (HS1.out.keep hq)
        have HQ2 := Lib.hid (HQ1.out.trans (hq.mono HQ1.out.size))
        have b0'' := HS2.out.bx.1 0 _ rfl
        have b1'' := HS2.out.bx.1 1 _ rfl
        clear hq
        have z0 := HS2.out.zb.1 0 _ rfl
        have z1 := HS2.out.zb.1 1 _ rfl
        have f0 := HS2.out.zb.2 0 (by simp)
        have f1 := HS2.out.zb.2 1 (by simp)
        have hzp := (HS2.out.zb.put 0 (by simp) (.int .i64 0)).put 1 (by simp) (.slice none 0 0)
        have hbp := (HS2.out.bel.setCell (p := ⟨w.heap.size, 0, none⟩) (Nat.le_refl _) (.int .i64 0)).setCell (p := ⟨w.heap.size, 1, none⟩) (Nat.le_refl _) (.slice none 0 0)
        simp only [List.set_cons_succ, List.set_cons_zero] at hzp
        have e0 := hzp.1 0 _ rfl
        have e1 := hzp.1 1 _ rfl
        have HB := Lib.hid hbp
        clear hzp hbp
        go_wp2
        refine bodyPost_ret (v := .tuple #[.agg #[.int .i64 0, .slice none 0 0], .int .i64 8]) (by simp [results, Tryz.results53, go_sem, e0, e1]) rfl ?_
        exact rnew_bad HX.out (by decide) rfl HB.out
      by_cases hs : p1 = p2
      · have HX : Hid (gErr (m : Int) L = 5) := by
          unfold Hid; rw [HE.out, ← hsc, hstep, if_neg (by rw [hn0, hn1]; decide), if_pos hs]
        rw [hn0] at CN1
        rw [hn1] at CN2
        subst hs
        clear hsc hstep
        go_wp2_with fail
        go_quiet (fail)
        go_wp2_with fail
        refine (CN1.out _).mono ?_
        rintro e W1 ⟨rfl, hq⟩
        have hq1 : Below wr.heap.size wr W1 := Below.trans (by first | exact (Below.refl _ _).drew | exact below_draws (Below.refl _ _) _) (hq.mono (by first | exact Nat.le_refl _ | simp))
        have HS1 := Lib.hid (HS.out.keep hq1)
        have HQ1 := Lib.hid hq1
        have b0' := HS1.out.bx.1 0 _ rfl
        have b1' := HS1.out.bx.1 1 _ rfl
        clear hq hq1
        go_wp2_with fail
        refine (CN2.out _).mono ?_
        rintro e W2 ⟨rfl, hq⟩
        have HS2 := Lib.hid (HS1.out.keep hq)
        have HQ2 := Lib.hid (HQ1.out.trans (hq.mono HQ1.out.size))
        have b0'' := HS2.out.bx.1 0 _ rfl
        have b1'' := HS2.out.bx.1 1 _ rfl
        clear hq
        have z0 := HS2.out.zb.1 0 _ rfl
        have z1 := HS2.out.zb.1 1 _ rfl
        have f0 := HS2.out.zb.2 0 (by simp)
        have f1 := HS2.out.zb.2 1 (by simp)
        have hzp := (HS2.out.zb.put 0 (by simp) (.int .i64 0)).put 1 (by simp) (.slice none 0 0)
        have hbp := (HS2.out.bel.setCell (p := ⟨w.heap.size, 0, none⟩) (Nat.le_refl _) (.int .i64 0)).setCell (p := ⟨w.heap.size, 1, none⟩) (Nat.le_refl _) (.slice none 0 0)
        simp only [List.set_cons_succ, List.set_cons_zero] at hzp
        have e0 := hzp.1 0 _ rfl
        have e1 := hzp.1 1 _ rfl
        have HB := Lib.hid hbp
        clear hzp hbp
        go_wp2
        refine bodyPost_ret (v := .tuple #[.agg #[.int .i64 0, .slice none 0 0], .int .i64 5]) (by simp [results, Tryz.results53, go_sem, e0, e1]) rfl ?_
        exact rnew_bad HX.out (by decide) rfl HB.out
      have hs' : (p1 == p2) = false := beq_eq_false_iff_ne.2 hs
      cases hin : adjB (L.take k) p1 p2
      rotate_left
      · have HX : Hid (gErr (m : Int) L = 12) := by
          unfold Hid; rw [HE.out, ← hsc, hstep, if_neg (by rw [hn0, hn1]; decide), if_neg hs, if_pos hin]
        rw [hn0] at CN1
        rw [hn1] at CN2
        rw [hin] at CL
        clear hsc hstep hin
        go_wp2_with fail
        go_quiet (fail)
        go_wp2_with fail
        refine (CN1.out _).mono ?_
        rintro e W1 ⟨rfl, hq⟩
        have hq1 : Below wr.heap.size wr W1 := Below.trans (by first | exact (Below.refl _ _).drew | exact below_draws (Below.refl _ _) _) (hq.mono (by first | exact Nat.le_refl _ | simp))
        have HS1 := Lib.hid (HS.out.keep hq1)
        have HQ1 := Lib.hid hq1
        have b0' := HS1.out.bx.1 0 _ rfl
        have b1' := HS1.out.bx.1 1 _ rfl
        clear hq hq1
        go_wp2_with fail
        refine (CN2.out _).mono ?_
        rintro e W2 ⟨rfl, hq⟩
        have HS2 := Lib.hid (HS1.out.keep hq)
        have HQ2 := Lib.hid (HQ1.out.trans (hq.mono HQ1.out.size))
        have b0'' := HS2.out.bx.1 0 _ rfl
        have b1'' := HS2.out.bx.1 1 _ rfl
        clear hq
        go_wp2_with fail
        refine (CL.out _ HQ2.out).mono ?_
        rintro e W3 ⟨rfl, hq⟩
        have HS3 := Lib.hid (HS2.out.keep hq)
        clear hq
        have z0 := HS3.out.zb.1 0 _ rfl
        have z1 := HS3.out.zb.1 1 _ rfl
        have f0 := HS3.out.zb.2 0 (by simp)
        have f1 := HS3.out.zb.2 1 (by simp)
        have hzp := (HS3.out.zb.put 0 (by simp) (.int .i64 0)).put 1 (by simp) (.slice none 0 0)
        have hbp := (HS3.out.bel.setCell (p := ⟨w.heap.size, 0, none⟩) (Nat.le_refl _) (.int .i64 0)).setCell (p := ⟨w.heap.size, 1, none⟩) (Nat.le_refl _) (.slice none 0 0)
        simp only [List.set_cons_succ, List.set_cons_zero] at hzp
        have e0 := hzp.1 0 _ rfl
        have e1 := hzp.1 1 _ rfl
        have HB := Lib.hid hbp
        clear hzp hbp
        go_wp2
        refine bodyPost_ret (v := .tuple #[.agg #[.int .i64 0, .slice none 0 0], .int .i64 12]) (by simp [results, Tryz.results53, go_sem, e0, e1]) rfl ?_
        exact rnew_bad HX.out (by decide) rfl HB.out
      · have HSC : Hid (errS m (L.take (k + 1)) (L.drop (k + 1)) = errS m [] L) := by
          unfold Hid; rw [← hsc, hstep, if_neg (by rw [hn0, hn1]; decide), if_neg hs, if_neg (by rw [hin]; decide)]
        rw [hn0] at CN1
        rw [hn1] at CN2
        rw [hin] at CL
        clear hsc hstep hin
        go_wp2_with fail
        go_quiet (fail)
        go_wp2_with fail
        refine (CN1.out _).mono ?_
        rintro e W1 ⟨rfl, hq⟩
        have hq1 : Below wr.heap.size wr W1 := Below.trans (by first | exact (Below.refl _ _).drew | exact below_draws (Below.refl _ _) _) (hq.mono (by first | exact Nat.le_refl _ | simp))
        have HS1 := Lib.hid (HS.out.keep hq1)
        have HQ1 := Lib.hid hq1
        have b0' := HS1.out.bx.1 0 _ rfl
        have b1' := HS1.out.bx.1 1 _ rfl
        clear hq hq1
        go_wp2_with fail
        refine (CN2.out _).mono ?_
        rintro e W2 ⟨rfl, hq⟩
        have HS2 := Lib.hid (HS1.out.keep hq)
        have HQ2 := Lib.hid (HQ1.out.trans (hq.mono HQ1.out.size))
        have b0'' := HS2.out.bx.1 0 _ rfl
        have b1'' := HS2.out.bx.1 1 _ rfl
        clear hq
        go_wp2_with fail
        refine (CL.out _ HQ2.out).mono ?_
        rintro e W3 ⟨rfl, hq⟩
        have HS3 := Lib.hid (HS2.out.keep hq)
        clear hq
        have b1'''' := HS3.out.bx.1 1 _ rfl
        have hown1 := (HS3.out.own.alloc (.cells #[.int .i64 p1, .int .i64 p2] 58))
        have hb1 := (HS3.out.bel.alloc HS3.out.bel.size (.cells #[.int .i64 p1, .int .i64 p2] 58))
        have hsz3 : w.heap.size + 1 < W3.heap.size := HS3.out.bx.lt (by simp)
        go_wp2_with (at_builtin; refine wpList_append_own _ rfl _ _ 30 rfl (w.heap.size + 2) 58 i0 _ 2 16 Tryz.underlying30 hi hz0 hz1 hz2 rfl (by decide) _ _ _ rfl hown1 ⟨W3.heap.size, 0, none⟩ 1 1 [.int .i64 p1, .int .i64 p2] rfl rfl ?c1 ?c2 ?c3 ?c4 ?c5 ?_)
        case c1 =>
          intro j u hj
          rw [Lib.add_plain, World.cell?_alloc_at _ _ _ _ (by simp)]
          simpa using hj
        case c2 => intro u hu; simp at hu; rcases hu with rfl | rfl <;> rfl
        case c3 => unfold maxLen; omega
        case c4 => omega
        case c5 => simp; omega
        intro v' w1 hown' hgrow _
        obtain ⟨A3, c3, rfl, hcap3⟩ := own_form2 hown'
        have hne : ∀ B, B < w.heap.size + 2 → some B ≠ (Value.slice A2 k c2).ownBlock := fun B hB e => by have := (HS3.out.own.lt B e.symm).1; omega
        have hk1 : ∀ B (cs : List Value), B < w.heap.size + 2 → BoxF W3 B cs → 0 < cs.length → BoxF w1 B cs := fun B cs hB hbx hl => by
          have hlt3 := hbx.lt hl
          have hblk : w1.heap[B]? = W3.heap[B]? := (hgrow.block B (by simp; omega) (hne B hB)).trans (Below.heap_alloc _ _ _ hlt3)
          exact ⟨fun j u hj => by rw [World.cell?_of_block (w := W3) (w' := w1) (a := ⟨B, j, none⟩) hblk]; exact hbx.1 j u hj, fun j hj => by rw [World.frozen?_of_block (w := W3) (w' := w1) (a := ⟨B, j, none⟩) hblk]; exact hbx.2 j hj⟩
        have hz4 := hk1 _ _ (by omega) HS3.out.zb (by simp)
        have hx4 := hk1 _ _ (by omega) HS3.out.bx (by simp)
        have hb4 := hb1.grown hgrow hb1.size (fun j hj => by have := (HS3.out.own.lt j hj).1; omega)
        have d1 := hx4.1 1 _ rfl
        have d2 := hx4.2 1 (by simp)
        have hx5 := hx4.put 1 (by simp) (.slice A3 (k + 1) c3)
        simp only [List.set_cons_succ, List.set_cons_zero] at hx5
        have hS5 : RgS w (w1.setCell ⟨w.heap.size + 1, 1, none⟩ (.slice A3 (k + 1) c3)) m (k + 1) (.slice A3 (k + 1) c3) L := by
          refine ⟨hz4.other (by simp) _, hx5, ?_, hb4.setCell (p := ⟨w.heap.size + 1, 1, none⟩) (by simp) _⟩
          rw [HFT.out]
          refine hown'.kept (grownBy_setC w1 (w.heap.size + 1) 1 _) ?_
          cases hv : (Value.slice A3 (k + 1) c3).ownBlock with
          | none => exact .inl rfl
          | some g =>
            refine .inr fun h => ?_
            have := (hown'.lt g hv).1
            injection h
            omega
        have HS5 := Lib.hid hS5
        clear hS5 hx5 hz4 hx4 hb4 hk1 hne hgrow hown' hown1 hb1
        go_wp2
        go_roundw
        case rel => exact ⟨k + 1, _, by omega, by go_num, HSC.out, HS5.out⟩
        case measure => simp [intOf]; omega
    · obtain rfl : k = len := by omega
      have ht : L.take k = L := List.take_of_length_le (by rw [HN.out]; omega)
      have hd : L.drop k = [] := List.drop_eq_nil_of_le (by rw [HN.out]; omega)
      have hown := hS.own
      rw [ht] at hsc hown
      rw [hd] at hsc
      obtain ⟨A2, c2, rfl, hcap⟩ := own_form2 hown
      have HX : Hid (gErr (m : Int) L = 0) := by unfold Hid; rw [HE.out, ← hsc]; rfl
      have HL := Lib.hid (ownLinks hown)
      have HS := Lib.hid hS
      have b0 := hS.bx.1 0 _ rfl
      have b1 := hS.bx.1 1 _ rfl
      have z0 := hS.zb.1 0 _ rfl
      have z1 := hS.zb.1 1 _ rfl
      have f0 := hS.zb.2 0 (by simp)
      have f1 := hS.zb.2 1 (by simp)
      have hzp := (hS.zb.put 0 (by simp) (.int .i64 (m : Int))).put 1 (by simp) (.slice A2 k c2)
      have hbp := (hS.bel.setCell (p := ⟨w.heap.size, 0, none⟩) (Nat.le_refl _) (.int .i64 (m : Int))).setCell (p := ⟨w.heap.size, 1, none⟩) (Nat.le_refl _) (.slice A2 k c2)
      simp only [List.set_cons_succ, List.set_cons_zero] at hzp
      have e0 := hzp.1 0 _ rfl
      have e1 := hzp.1 1 _ rfl
      have hl3 : LinksAt ((wr.setCell ⟨w.heap.size, 0, none⟩ (.int .i64 (m : Int))).setCell ⟨w.heap.size, 1, none⟩ (.slice A2 k c2)) A2 L := by
        intro j p hp
        obtain ⟨b, off, rfl, hlt, hc⟩ := HL.out j p hp
        have hbb : b ≠ w.heap.size := by
          have h1 := hown.lt b (by simp [Value.ownBlock])
          omega
        refine ⟨b, off, rfl, by simpa using hlt, fun i u hu => ?_⟩
        rw [World.cell?_setCell_other _ _ _ _ (fun e => hbb (by injection e with e1; first | exact e1 | exact e1.symm)), World.cell?_setCell_other _ _ _ _ (fun e => hbb (by injection e with e1; first | exact e1 | exact e1.symm))]
        exact hc i u hu
      have HB := Lib.hid (And.intro hbp hl3)
      clear hzp hbp hS hown hsc ht hd hl3
      go_wp2
      refine bodyPost_ret (v := .tuple #[.agg #[.int .i64 (m : Int), .slice A2 k c2], .int .i64 0]) (by simp [results, Tryz.results53, go_sem, e0, e1]) rfl ?_
      exact rnew_ok HN.out.symm HX.out rfl HB.out.1 HB.out.2 hcap
end Go.Proofs.YteahiphmhaedpaaGreatDoor
