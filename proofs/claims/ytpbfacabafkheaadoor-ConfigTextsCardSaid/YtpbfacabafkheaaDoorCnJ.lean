/- Are two configurations the same? The reference's. -/
import Derived.Test.YtpbfacabafkheaaDoorCnI
import Derived.Test.YtpbfacabafkheaaDoorCnC
namespace Go.Proofs.YtpbfacabafkheaaDoor
open Go.RowKit Law
set_option linter.unusedVariables false
set_option linter.unusedSimpArgs false
set_option maxRecDepth 100000
attribute [local go_sem] Oper.semAt_some

theorem same_ne {a b : Cn} {L M : List Pr} (h : L ≠ M) : sameB a b L M = false := by unfold sameB; rw [decide_eq_false h]; simp
theorem same_txt {a b : Cn} {L : List Pr} : (sameB a b L L = true → textC a L = textC b L) ∧ (sameB a b L L = false → textC a L ≠ textC b L) := by
  have h := textC_same a b L
  unfold sameB
  simp only [decide_true, Bool.and_true]
  constructor
  · intro e; exact h.2 (by simpa using e)
  · intro e he
    have := h.1 he
    rw [this] at e
    simp at e
set_option maxHeartbeats 6400000 in
theorem rSame {n m : Nat} (a b : Cn) (fa : FitsC a) (fb : FitsC b) (A B : Option Addr) (c d : Nat) (L M : List Pr) (hL : L.length = n) (hM : M.length = m) (fL : ∀ x ∈ L, PrF x) (fM : ∀ x ∈ M, PrF x) (hn : n ≤ 4096) (hm : m ≤ 4096) (w : World) (hA : LinksAt w A L) (hB : LinksAt w B M) :
    Calls Tryd.prog 14 #[.agg (a.cells A n c).toArray, .agg (b.cells B m d).toArray] w fun e w' => e = .returned (.bool (sameB a b L M)) ∧ Below w.heap.size w w' := by
  have CTA := Lib.hid (fun W (h : Below w.heap.size w W) => rText a fa A n c L hL fL hn W (hA.below h))
  have CTB := Lib.hid (fun W (h : Below w.heap.size w W) => rText b fb B m d M hM fM hm W (hB.below h))
  have HNE := Lib.hid (fun (h : L ≠ M) => same_ne (a := a) (b := b) h)
  have HTX := Lib.hid (fun (h : L = M) => h ▸ same_txt (a := a) (b := b) (L := L))
  obtain ⟨ta, hta⟩ : ∃ ta, textC a L = ta := ⟨_, rfl⟩
  obtain ⟨tb, htb⟩ : ∃ tb, textC b M = tb := ⟨_, rfl⟩
  have HTE : Hid (L = M → (sameB a b L M = true → ta = tb) ∧ (sameB a b L M = false → ta ≠ tb)) := fun h => by subst h; rw [← hta, ← htb]; exact same_txt
  rw [hta] at CTA
  rw [htb] at CTB
  obtain ⟨SB, hSB⟩ : ∃ SB, sameB a b L M = SB := ⟨_, rfl⟩
  rw [hSB] at HNE HTE ⊢
  have HA := Lib.hid hA
  have HB := Lib.hid hB
  have HL := Lib.hid hL
  have HM := Lib.hid hM
  clear hA hB hta htb hSB HTX fa fb fL fM
  obtain ⟨an, af, admin, admax, arho, aslew, around, awindow, aattend, aseen, ahist, afly, aquota, abody⟩ := a
  obtain ⟨bn, bf, bdmin, bdmax, brho, bslew, bround, bwindow, battend, bseen, bhist, bfly, bquota, bbody⟩ := b
  have k0 := boxF_made w [.int .i64 an, .slice A n c, .int .i64 af, .int .i64 admin, .int .i64 admax, .int .i64 arho, .int .i64 aslew, .int .i64 around, .int .i64 awindow, .int .i64 aattend, .int .i64 aseen, .int .i64 ahist, .int .i64 afly, .int .i64 aquota, .int .i64 abody] 24
  have k1 := (Below.refl w.heap.size w).alloc (Nat.le_refl _) (.cells #[.int .i64 an, .slice A n c, .int .i64 af, .int .i64 admin, .int .i64 admax, .int .i64 arho, .int .i64 aslew, .int .i64 around, .int .i64 awindow, .int .i64 aattend, .int .i64 aseen, .int .i64 ahist, .int .i64 afly, .int .i64 aquota, .int .i64 abody] 24)
  obtain ⟨w1, hw1⟩ : ∃ w1, w.alloc (.cells #[.int .i64 an, .slice A n c, .int .i64 af, .int .i64 admin, .int .i64 admax, .int .i64 arho, .int .i64 aslew, .int .i64 around, .int .i64 awindow, .int .i64 aattend, .int .i64 aseen, .int .i64 ahist, .int .i64 afly, .int .i64 aquota, .int .i64 abody] 24) = w1 := ⟨_, rfl⟩
  have hs1 : w1.heap.size = w.heap.size + 1 := by rw [← hw1]; simp
  rw [hw1] at k0 k1
  have k2 := boxF_made w1 [.int .i64 bn, .slice B m d, .int .i64 bf, .int .i64 bdmin, .int .i64 bdmax, .int .i64 brho, .int .i64 bslew, .int .i64 bround, .int .i64 bwindow, .int .i64 battend, .int .i64 bseen, .int .i64 bhist, .int .i64 bfly, .int .i64 bquota, .int .i64 bbody] 24
  have k3 := k0.keep ((Below.refl w1.heap.size w1).alloc (Nat.le_refl _) (.cells #[.int .i64 bn, .slice B m d, .int .i64 bf, .int .i64 bdmin, .int .i64 bdmax, .int .i64 brho, .int .i64 bslew, .int .i64 bround, .int .i64 bwindow, .int .i64 battend, .int .i64 bseen, .int .i64 bhist, .int .i64 bfly, .int .i64 bquota, .int .i64 bbody] 24))
  have k4 := k1.alloc (by rw [hs1]; omega) (.cells #[.int .i64 bn, .slice B m d, .int .i64 bf, .int .i64 bdmin, .int .i64 bdmax, .int .i64 brho, .int .i64 bslew, .int .i64 bround, .int .i64 bwindow, .int .i64 battend, .int .i64 bseen, .int .i64 bhist, .int .i64 bfly, .int .i64 bquota, .int .i64 bbody] 24)
  obtain ⟨w2, hw2⟩ : ∃ w2, w1.alloc (.cells #[.int .i64 bn, .slice B m d, .int .i64 bf, .int .i64 bdmin, .int .i64 bdmax, .int .i64 brho, .int .i64 bslew, .int .i64 bround, .int .i64 bwindow, .int .i64 battend, .int .i64 bseen, .int .i64 bhist, .int .i64 bfly, .int .i64 bquota, .int .i64 bbody] 24) = w2 := ⟨_, rfl⟩
  rw [hw2] at k2 k3 k4
  have K2 := Lib.hid k2
  have K3 := Lib.hid k3
  have K4 := Lib.hid k4
  have pa := k3.1 1 _ rfl
  have pb := k2.1 1 _ rfl
  clear k0 k1 k2 k3 k4 hs1
  by_cases hnm : n = m
  rotate_left
  · have HV : Hid (SB = false) := HNE.out (fun e => hnm (by rw [← hL, ← hM, e]))
    clear hL hM
    go_enter Tryd.func14, Tryd.ntmps14
    go_wp2
    go_ret
    exact ⟨ret_bool HV.out.symm, K4.out⟩
  subst hnm
  clear hL hM
  go_enter Tryd.func14, Tryd.ntmps14
  go_wp2_with fail
  clear pa pb
  go_loopw [5] (fun i wr => ∃ k : Nat, k ≤ n ∧ i = .int .i64 k ∧ L.take k = M.take k ∧ Below w2.heap.size w2 wr) (fun i _ => n - (intOf i).toNat)
  case atStart => exact ⟨0, Nat.zero_le _, rfl, rfl, Below.refl _ _⟩
  case round =>
    obtain ⟨k, hk, rfl, hsame, hb⟩ := hrel
    obtain ⟨W1, rfl⟩ : ∃ W1, W1 = wr := ⟨_, rfl⟩
    have pa := (K3.out.keep hb).1 1 _ rfl
    have pb := (K2.out.keep hb).1 1 _ rfl
    have HBW := Lib.hid (K4.out.trans (hb.mono K4.out.size))
    by_cases hlt : k < n
    · have h1 : k < L.length := by rw [HL.out]; exact hlt
      have h2 : k < M.length := by rw [HM.out]; exact hlt
      obtain ⟨b1, o1, rfl, c0, c1⟩ := HA.out.at_ HBW.out h1
      obtain ⟨b2, o2, rfl, d0, d1⟩ := HB.out.at_ HBW.out h2
      have HT := Lib.hid (fun he => take_same hsame h1 h2 he)
      have HNV := Lib.hid (fun (he : L[k] ≠ M[k]) => HNE.out (fun e => by subst e; exact he rfl))
      have HBE := Lib.hid hb
      generalize L[k] = p at *
      generalize M[k] = q at *
      obtain ⟨p1, p2⟩ := p
      obtain ⟨q1, q2⟩ := q
      simp only at c0 c1 d0 d1
      have e0 := fun U : Later W1 => Later.cell c0 U
      have e1 := fun U : Later W1 => Later.cell c1 U
      have g0 := fun U : Later W1 => Later.cell d0 U
      have g1 := fun U : Later W1 => Later.cell d1 U
      have r0 := fun U : Later W1 => Later.cell pa U
      have r1 := fun U : Later W1 => Later.cell pb U
      clear hsame hb c0 c1 d0 d1
      by_cases hpq : ((p1, p2) : Pr) = (q1, q2)
      · have HT1 := Lib.hid (HT.out hpq)
        obtain ⟨rfl, rfl⟩ : p1 = q1 ∧ p2 = q2 := by simpa using hpq
        clear hpq HT HNV
        have hE : ∀ W : World, (Op.equalIn 10000 60 (.agg #[.int .i64 p1, .int .i64 p2]) (.agg #[.int .i64 p1, .int .i64 p2])).run Tryd.prog W = .ok true W := fun W => by rw [pr_eq]; simp
        go_wp2_with fail
        clear pa pb
        refine wp_region_later (by kernel_rfl) (by kernel_rfl) ?_
        repeat (go_big_quiet_step (fail))
        refine wpQuiet_nil ?_
        rintro W4 ⟨⟨W4_, hb4⟩, rfl⟩
        try dsimp only
        have HB4 := Lib.hid (HBE.out.trans (hb4.mono HBE.out.size))
        clear hb4 e0 e1 g0 g1 r0 r1
        go_wp2
        go_roundw
        case rel => exact ⟨k + 1, by omega, by go_num, HT1.out, HB4.out⟩
        case measure => simp [intOf]; omega
      · have HV := Lib.hid (HNV.out hpq)
        have hpq' : ¬ (p1 = q1 ∧ p2 = q2) := by simpa using hpq
        have hE : ∀ W : World, (Op.equalIn 10000 60 (.agg #[.int .i64 p1, .int .i64 p2]) (.agg #[.int .i64 q1, .int .i64 q2])).run Tryd.prog W = .ok false W := fun W => by
          rw [pr_eq]
          have : (p1 == q1 && p2 == q2) = false := by
            rw [Bool.eq_false_iff]; intro h; simp only [Bool.and_eq_true, beq_iff_eq] at h; exact hpq' h
          rw [this]
        clear hpq hpq' HT HNV
        go_wp2_with fail
        clear pa pb
        refine wp_region_later (by kernel_rfl) (by kernel_rfl) ?_
        repeat (go_big_quiet_step (fail))
        refine wpQuiet_nil ?_
        rintro W4 ⟨⟨W4_, hb4⟩, rfl⟩
        try dsimp only
        have HB4 := Lib.hid (HBW.out.trans (hb4.mono HBW.out.size))
        clear hb4 e0 e1 g0 g1 r0 r1
        go_wp2
        all_goals
          go_ret
          exact ⟨ret_bool HV.out.symm, HB4.out⟩
    · obtain rfl : k = n := by omega
      have hLM : L = M := by rw [← List.take_length (l := L), ← List.take_length (l := M), HL.out, HM.out]; exact hsame
      have HTE' := HTE.out hLM
      have HBE := Lib.hid hb
      have qa0 := fun U : Later W1 => (K3.out.keep (hb.trans (U.h.mono hb.size))).1 0 _ rfl
      have qb0 := fun U : Later W1 => (K2.out.keep (hb.trans (U.h.mono hb.size))).1 0 _ rfl
      have qa1 := fun U : Later W1 => (K3.out.keep (hb.trans (U.h.mono hb.size))).1 1 _ rfl
      have qb1 := fun U : Later W1 => (K2.out.keep (hb.trans (U.h.mono hb.size))).1 1 _ rfl
      have qa2 := fun U : Later W1 => (K3.out.keep (hb.trans (U.h.mono hb.size))).1 2 _ rfl
      have qb2 := fun U : Later W1 => (K2.out.keep (hb.trans (U.h.mono hb.size))).1 2 _ rfl
      have qa3 := fun U : Later W1 => (K3.out.keep (hb.trans (U.h.mono hb.size))).1 3 _ rfl
      have qb3 := fun U : Later W1 => (K2.out.keep (hb.trans (U.h.mono hb.size))).1 3 _ rfl
      have qa4 := fun U : Later W1 => (K3.out.keep (hb.trans (U.h.mono hb.size))).1 4 _ rfl
      have qb4 := fun U : Later W1 => (K2.out.keep (hb.trans (U.h.mono hb.size))).1 4 _ rfl
      have qa5 := fun U : Later W1 => (K3.out.keep (hb.trans (U.h.mono hb.size))).1 5 _ rfl
      have qb5 := fun U : Later W1 => (K2.out.keep (hb.trans (U.h.mono hb.size))).1 5 _ rfl
      have qa6 := fun U : Later W1 => (K3.out.keep (hb.trans (U.h.mono hb.size))).1 6 _ rfl
      have qb6 := fun U : Later W1 => (K2.out.keep (hb.trans (U.h.mono hb.size))).1 6 _ rfl
      have qa7 := fun U : Later W1 => (K3.out.keep (hb.trans (U.h.mono hb.size))).1 7 _ rfl
      have qb7 := fun U : Later W1 => (K2.out.keep (hb.trans (U.h.mono hb.size))).1 7 _ rfl
      have qa8 := fun U : Later W1 => (K3.out.keep (hb.trans (U.h.mono hb.size))).1 8 _ rfl
      have qb8 := fun U : Later W1 => (K2.out.keep (hb.trans (U.h.mono hb.size))).1 8 _ rfl
      have qa9 := fun U : Later W1 => (K3.out.keep (hb.trans (U.h.mono hb.size))).1 9 _ rfl
      have qb9 := fun U : Later W1 => (K2.out.keep (hb.trans (U.h.mono hb.size))).1 9 _ rfl
      have qa10 := fun U : Later W1 => (K3.out.keep (hb.trans (U.h.mono hb.size))).1 10 _ rfl
      have qb10 := fun U : Later W1 => (K2.out.keep (hb.trans (U.h.mono hb.size))).1 10 _ rfl
      have qa11 := fun U : Later W1 => (K3.out.keep (hb.trans (U.h.mono hb.size))).1 11 _ rfl
      have qb11 := fun U : Later W1 => (K2.out.keep (hb.trans (U.h.mono hb.size))).1 11 _ rfl
      have qa12 := fun U : Later W1 => (K3.out.keep (hb.trans (U.h.mono hb.size))).1 12 _ rfl
      have qb12 := fun U : Later W1 => (K2.out.keep (hb.trans (U.h.mono hb.size))).1 12 _ rfl
      have qa13 := fun U : Later W1 => (K3.out.keep (hb.trans (U.h.mono hb.size))).1 13 _ rfl
      have qb13 := fun U : Later W1 => (K2.out.keep (hb.trans (U.h.mono hb.size))).1 13 _ rfl
      have qa14 := fun U : Later W1 => (K3.out.keep (hb.trans (U.h.mono hb.size))).1 14 _ rfl
      have qb14 := fun U : Later W1 => (K2.out.keep (hb.trans (U.h.mono hb.size))).1 14 _ rfl
      have CA2 := Lib.hid (fun U : Later W1 => CTA.out U.val (HBW.out.trans (U.h.mono HBW.out.size)))
      have CB2 := Lib.hid (fun U : Later W1 => CTB.out U.val (HBW.out.trans (U.h.mono HBW.out.size)))
      clear hsame hb hLM
      cases SB
      · have hne := HTE'.2 rfl
        have hq : (ta == tb) = false := by simpa using hne
        clear HTE' hne
        go_wp2_with fail
        clear pa pb
        refine wp_region_later (by kernel_rfl) (by kernel_rfl) ?_
        go_big_quiet_step (fail)
        go_big_quiet_step (exact later_of (CA2.out _))
        go_big_quiet_step (fail)
        go_big_quiet_step (exact later_of (CB2.out _))
        repeat (go_big_quiet_step (fail))
        refine wpQuiet_nil ?_
        rintro W4 ⟨⟨W4_, hb4⟩, rfl⟩
        try dsimp only
        have HB4 := Lib.hid (HBW.out.trans (hb4.mono HBW.out.size))
        clear hb4 qa0 qb0 qa1 qb1 qa2 qb2 qa3 qb3 qa4 qb4 qa5 qb5 qa6 qb6 qa7 qb7 qa8 qb8 qa9 qb9 qa10 qb10 qa11 qb11 qa12 qb12 qa13 qb13 qa14 qb14
        go_wp2
        go_ret
        exact ⟨ret_bool (by simp), HB4.out⟩
      · obtain rfl := HTE'.1 rfl
        clear HTE'
        go_wp2_with fail
        clear pa pb
        refine wp_region_later (by kernel_rfl) (by kernel_rfl) ?_
        go_big_quiet_step (fail)
        go_big_quiet_step (exact later_of (CA2.out _))
        go_big_quiet_step (fail)
        go_big_quiet_step (exact later_of (CB2.out _))
        repeat (go_big_quiet_step (fail))
        refine wpQuiet_nil ?_
        rintro W4 ⟨⟨W4_, hb4⟩, rfl⟩
        try dsimp only
        have HB4 := Lib.hid (HBW.out.trans (hb4.mono HBW.out.size))
        clear hb4 qa0 qb0 qa1 qb1 qa2 qb2 qa3 qb3 qa4 qb4 qa5 qb5 qa6 qb6 qa7 qb7 qa8 qb8 qa9 qb9 qa10 qb10 qa11 qb11 qa12 qb12 qa13 qb13 qa14 qb14
        go_wp2
        go_ret
        exact ⟨ret_bool (by simp), HB4.out⟩
end Go.Proofs.YtpbfacabafkheaaDoor
