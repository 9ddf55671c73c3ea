/- Are two configurations the same? The program's. -/
import Derived.Test.YtpbfacabafkheaaDoorCnB
namespace Go.Proofs.YtpbfacabafkheaaDoor
open Go.RowKit Law Go.Shelf
set_option linter.unusedVariables false
set_option linter.unusedSimpArgs false
set_option maxRecDepth 100000
attribute [local go_sem] Oper.semAt_some

def sameB (a b : Cn) (L M : List Pr) : Bool := (numsC a == numsC b) && decide (L = M)
theorem eq14 (xs ys : List Int) (hx : xs.length = 14) (hy : ys.length = 14) (W : World) : (Op.equalIn 10000 77 (.agg (intV xs).toArray) (.agg (intV ys).toArray)).run Tryd.prog W = .ok (xs == ys) W :=
  run_eqArr (P := Tryd.prog) 77 14 2 .i64 Tryd.underlying77 Tryd.underlying2 (fun w => Tryd.isAgg2 w) (fun w => Tryd.sizeOf2 w) xs ys hx hy W 9998
set_option maxHeartbeats 6400000 in
theorem cSame (a b : Cn) (A B : Option Addr) (l k m d : Nat) (L M : List Pr) (hL : L.length = l) (hM : M.length = m) (hl : l ≤ 4000000000) (hm : m ≤ 4000000000) (w : World) (hA : LinksAt w A L) (hB : LinksAt w B M) :
    Calls Tryd.prog 22 #[.agg (a.cells A l k).toArray, .agg (b.cells B m d).toArray] w fun e w' => e = .returned (.bool (sameB a b L M)) ∧ Below w.heap.size w w' := by
  have CA := fun W => cNumbers a A l k W
  have CB := fun W => cNumbers b B m d W
  have HS : Hid (sameB a b L M = ((numsC a == numsC b) && decide (L = M))) := rfl
  have HE := fun W => eq14 (numsC a) (numsC b) rfl rfl W
  have CE := fun (W : World) (hW : Below w.heap.size w W) => linksEqual A B k d L M hL hM hl hm W (hA.below hW) (hB.below hW)
  obtain ⟨na, hna⟩ : ∃ x, numsC a = x := ⟨_, rfl⟩
  obtain ⟨nb, hnb⟩ : ∃ x, numsC b = x := ⟨_, rfl⟩
  rw [hna] at CA HE HS
  rw [hnb] at CB HE HS
  obtain ⟨va, hva⟩ : ∃ x, intV na = x := ⟨_, rfl⟩
  obtain ⟨vb, hvb⟩ : ∃ x, intV nb = x := ⟨_, rfl⟩
  rw [hva] at CA HE
  rw [hvb] at CB HE
  obtain ⟨eb, heb⟩ : ∃ x, (na == nb) = x := ⟨_, rfl⟩
  rw [heb] at HE HS
  generalize sameB a b L M = SB at *
  clear hna hnb hva hvb heb
  obtain ⟨an, af, admin, admax, arho, aslew, around, awindow, aattend, aseen, ahist, afly, aquota, abody⟩ := a
  obtain ⟨bn, bf, bdmin, bdmax, brho, bslew, bround, bwindow, battend, bseen, bhist, bfly, bquota, bbody⟩ := b
  simp only [Cn.cells] at CA CB
  have k0 := boxF_made w [.int .i64 an, .slice A l k, .int .i64 af, .int .i64 admin, .int .i64 admax, .int .i64 arho, .int .i64 aslew, .int .i64 around, .int .i64 awindow, .int .i64 aattend, .int .i64 aseen, .int .i64 ahist, .int .i64 afly, .int .i64 aquota, .int .i64 abody] 24
  have k1 := (Below.refl w.heap.size w).alloc (Nat.le_refl _) (.cells #[.int .i64 an, .slice A l k, .int .i64 af, .int .i64 admin, .int .i64 admax, .int .i64 arho, .int .i64 aslew, .int .i64 around, .int .i64 awindow, .int .i64 aattend, .int .i64 aseen, .int .i64 ahist, .int .i64 afly, .int .i64 aquota, .int .i64 abody] 24)
  obtain ⟨w1, hw1⟩ : ∃ w1, w.alloc (.cells #[.int .i64 an, .slice A l k, .int .i64 af, .int .i64 admin, .int .i64 admax, .int .i64 arho, .int .i64 aslew, .int .i64 around, .int .i64 awindow, .int .i64 aattend, .int .i64 aseen, .int .i64 ahist, .int .i64 afly, .int .i64 aquota, .int .i64 abody] 24) = w1 := ⟨_, rfl⟩
  have hs1 : w1.heap.size = w.heap.size + 1 := by rw [← hw1]; simp
  rw [hw1] at k0 k1
  have k2 := boxF_made w1 [.int .i64 bn, .slice B m d, .int .i64 bf, .int .i64 bdmin, .int .i64 bdmax, .int .i64 brho, .int .i64 bslew, .int .i64 bround, .int .i64 bwindow, .int .i64 battend, .int .i64 bseen, .int .i64 bhist, .int .i64 bfly, .int .i64 bquota, .int .i64 bbody] 24
  have k3 := k0.keep ((Below.refl _ _).alloc (Nat.le_refl _) (.cells #[.int .i64 bn, .slice B m d, .int .i64 bf, .int .i64 bdmin, .int .i64 bdmax, .int .i64 brho, .int .i64 bslew, .int .i64 bround, .int .i64 bwindow, .int .i64 battend, .int .i64 bseen, .int .i64 bhist, .int .i64 bfly, .int .i64 bquota, .int .i64 bbody] 24))
  have k4 := k1.alloc (by omega) (.cells #[.int .i64 bn, .slice B m d, .int .i64 bf, .int .i64 bdmin, .int .i64 bdmax, .int .i64 brho, .int .i64 bslew, .int .i64 bround, .int .i64 bwindow, .int .i64 battend, .int .i64 bseen, .int .i64 bhist, .int .i64 bfly, .int .i64 bquota, .int .i64 bbody] 24)
  obtain ⟨w2, hw2⟩ : ∃ w2, w1.alloc (.cells #[.int .i64 bn, .slice B m d, .int .i64 bf, .int .i64 bdmin, .int .i64 bdmax, .int .i64 brho, .int .i64 bslew, .int .i64 bround, .int .i64 bwindow, .int .i64 battend, .int .i64 bseen, .int .i64 bhist, .int .i64 bfly, .int .i64 bquota, .int .i64 bbody] 24) = w2 := ⟨_, rfl⟩
  rw [hw2] at k2 k3 k4
  rw [hs1] at k2
  have qa0 := fun U : Later w2 => (k3.keep U.h).1 0 _ rfl
  have qb0 := fun U : Later w2 => (k2.keep U.h).1 0 _ rfl
  have qa1 := fun U : Later w2 => (k3.keep U.h).1 1 _ rfl
  have qb1 := fun U : Later w2 => (k2.keep U.h).1 1 _ rfl
  have qa2 := fun U : Later w2 => (k3.keep U.h).1 2 _ rfl
  have qb2 := fun U : Later w2 => (k2.keep U.h).1 2 _ rfl
  have qa3 := fun U : Later w2 => (k3.keep U.h).1 3 _ rfl
  have qb3 := fun U : Later w2 => (k2.keep U.h).1 3 _ rfl
  have qa4 := fun U : Later w2 => (k3.keep U.h).1 4 _ rfl
  have qb4 := fun U : Later w2 => (k2.keep U.h).1 4 _ rfl
  have qa5 := fun U : Later w2 => (k3.keep U.h).1 5 _ rfl
  have qb5 := fun U : Later w2 => (k2.keep U.h).1 5 _ rfl
  have qa6 := fun U : Later w2 => (k3.keep U.h).1 6 _ rfl
  have qb6 := fun U : Later w2 => (k2.keep U.h).1 6 _ rfl
  have qa7 := fun U : Later w2 => (k3.keep U.h).1 7 _ rfl
  have qb7 := fun U : Later w2 => (k2.keep U.h).1 7 _ rfl
  have qa8 := fun U : Later w2 => (k3.keep U.h).1 8 _ rfl
  have qb8 := fun U : Later w2 => (k2.keep U.h).1 8 _ rfl
  have qa9 := fun U : Later w2 => (k3.keep U.h).1 9 _ rfl
  have qb9 := fun U : Later w2 => (k2.keep U.h).1 9 _ rfl
  have qa10 := fun U : Later w2 => (k3.keep U.h).1 10 _ rfl
  have qb10 := fun U : Later w2 => (k2.keep U.h).1 10 _ rfl
  have qa11 := fun U : Later w2 => (k3.keep U.h).1 11 _ rfl
  have qb11 := fun U : Later w2 => (k2.keep U.h).1 11 _ rfl
  have qa12 := fun U : Later w2 => (k3.keep U.h).1 12 _ rfl
  have qb12 := fun U : Later w2 => (k2.keep U.h).1 12 _ rfl
  have qa13 := fun U : Later w2 => (k3.keep U.h).1 13 _ rfl
  have qb13 := fun U : Later w2 => (k2.keep U.h).1 13 _ rfl
  have qa14 := fun U : Later w2 => (k3.keep U.h).1 14 _ rfl
  have qb14 := fun U : Later w2 => (k2.keep U.h).1 14 _ rfl
  have CA2 := Lib.hid CA
  have CB2 := Lib.hid CB
  have CE2 := Lib.hid (fun U : Later w2 => CE U.val (k4.trans (U.h.mono k4.size)))
  have HK := Lib.hid k4
  clear CA CB CE k0 k1 k2 k3 k4
  cases eb
  · have HV : Hid (SB = false) := HS.out
    go_enter Tryd.func22, Tryd.ntmps22
    go_wp2_with fail
    refine wp_region_later (by kernel_rfl) (by kernel_rfl) ?_
    go_big_quiet_step (fail)
    go_big_quiet_step (exact later_of (CA2.out _))
    go_big_quiet_step (fail)
    go_big_quiet_step (exact later_of (CB2.out _))
    repeat (go_big_quiet_step (fail))
    refine wpQuiet_nil ?_
    rintro W4 ⟨⟨W4_, hb4⟩, rfl⟩
    try dsimp only
    have HB4 := Lib.hid (HK.out.trans (hb4.mono HK.out.size))
    clear hb4 qa0 qb0 qa1 qb1 qa2 qb2 qa3 qb3 qa4 qb4 qa5 qb5 qa6 qb6 qa7 qb7 qa8 qb8 qa9 qb9 qa10 qb10 qa11 qb11 qa12 qb12 qa13 qb13 qa14 qb14
    go_wp2
    go_ret
    exact ⟨ret_bool HV.out.symm, HB4.out⟩
  · have HV : Hid (SB = decide (L = M)) := by unfold Hid; rw [HS.out]; rfl
    generalize decide (L = M) = DB at *
    go_enter Tryd.func22, Tryd.ntmps22
    go_wp2_with fail
    refine wp_region_later (by kernel_rfl) (by kernel_rfl) ?_
    go_big_quiet_step (fail)
    go_big_quiet_step (exact later_of (CA2.out _))
    go_big_quiet_step (fail)
    go_big_quiet_step (exact later_of (CB2.out _))
    repeat (go_big_quiet_step (exact later_of (CE2.out _)))
    refine wpQuiet_nil ?_
    rintro W4 ⟨⟨W4_, hb4⟩, rfl⟩
    try dsimp only
    have HB4 := Lib.hid (HK.out.trans (hb4.mono HK.out.size))
    clear hb4 qa0 qb0 qa1 qb1 qa2 qb2 qa3 qb3 qa4 qb4 qa5 qb5 qa6 qb6 qa7 qb7 qa8 qb8 qa9 qb9 qa10 qb10 qa11 qb11 qa12 qb12 qa13 qb13 qa14 qb14
    go_wp2
    go_ret
    exact ⟨ret_bool HV.out.symm, HB4.out⟩
end Go.Proofs.YtpbfacabafkheaaDoor
