/- The chapter's example: a node of two that is booted. -/
import Derived.Test.YteahiphmhaedpaaGreatDoorNdL
import Derived.Test.YteahiphmhaedpaaGreatDoorRhE
namespace Go.Proofs.YteahiphmhaedpaaGreatDoor
open Go.RowKit Law
set_option linter.unusedVariables false
set_option linter.unusedSimpArgs false
set_option maxRecDepth 100000

theorem nodeNew (c : Cn) (A : Option Addr) (l k : Nat) (L : List Pr) (hl : L.length = l) (hfit : ∀ x ∈ L, PrF x) (hm : l ≤ 9223372036854775807) (id hard : Int) (w : World) (hA : LinksAt w A L) :
    Calls Tryz.prog 20 #[.agg (c.cells A l k).toArray, .int .i64 id, .int .i64 hard] w (NdPost c L id hard w) := by
  by_cases h1 : gErr c.n L = 0
  · cases h2 : enoughB c
    · exact nodeNewB c A l k L hl hfit hm id hard w hA h1 h2
    · by_cases h3 : c.f < 0
      · exact nodeNewC c A l k L hl hfit hm id hard w hA h1 h2 h3
      · by_cases h4 : id < 0
        · exact nodeNewD c A l k L hl hfit hm id hard w hA h1 h2 h3 (.inl h4)
        · by_cases h5 : c.n ≤ id
          · exact nodeNewD c A l k L hl hfit hm id hard w hA h1 h2 h3 (.inr ⟨by omega, h5⟩)
          · exact nodeNewE c A l k L hl hfit hm id hard w hA h1 h2 h3 (by omega) h5
  · exact nodeNewA c A l k L hl hfit hm id hard w hA h1
theorem nodeNow {w : World} {lo : Nat} {b : NdO} {c : Cn} {x : NV} {s : NS} (h : NodeAt w lo b c x s) (hph : s.ph ≠ 0) :
    Calls Tryz.prog 173 #[.pointer (some ⟨b.N, 0, none⟩)] w fun e w' => e = .returned (.tuple #[.int .i64 s.at_, .bool true]) ∧ w = w' := by
  have C := Lib.hid (clockNow h.clk hph)
  have c35 := h.box.cell 35 _ rfl
  generalize b.N = N at *
  clear h hph
  go_enter Tryz.func173, Tryz.ntmps173
  go_wp2_with fail
  refine C.out.mono ?_
  rintro e w1 ⟨rfl, rfl⟩
  go_wp2
  go_ret2
  exact ⟨rfl, rfl⟩
theorem nodeSince {w : World} {lo : Nat} {b : NdO} {c : Cn} {x : NV} {s : NS} (h : NodeAt w lo b c x s) (hj : s.js = 2 ∨ s.js = 3) :
    Calls Tryz.prog 111 #[.pointer (some ⟨b.N, 0, none⟩)] w fun e w' => e = .returned (.tuple #[.int .i64 s.jc, .bool true]) ∧ w = w' := by
  have C := Lib.hid (joinSince h.jn hj)
  have c44 := h.box.cell 44 _ rfl
  generalize b.N = N at *
  clear h hj
  go_enter Tryz.func111, Tryz.ntmps111
  go_wp2_with fail
  refine C.out.mono ?_
  rintro e w1 ⟨rfl, rfl⟩
  go_wp2
  go_ret2
  exact ⟨rfl, rfl⟩
theorem nodeViews1 {w : World} {lo : Nat} {b : NdO} {c : Cn} {x : NV} {s : NS} {R cap : Nat} {no at_ st : Int} (h : NodeAt w lo b c x s) (hv : s.vw = .slice (some ⟨R, 0, none⟩) 1 cap) (hR : BoxAt w R [.int .i64 no, .int .i64 at_, .int .u64 st]) :
    Calls Tryz.prog 180 #[.pointer (some ⟨b.N, 0, none⟩)] w (ViewsPost no at_ st w) := by
  have hv1 := h.vws
  rw [hv] at hv1
  have C := Lib.hid (viewList1 hv1 hR)
  have c45 := h.box.cell 45 _ rfl
  generalize b.N = N at *
  clear h hv hv1 hR
  go_enter Tryz.func180, Tryz.ntmps180
  go_wp2_with fail
  refine C.out.mono ?_
  rintro e w1 h1
  have H := Lib.hid h1
  obtain ⟨g, c, rfl, -⟩ := h1
  go_wp2
  go_ret
  exact H.out
def exC : Cn := ⟨2, 0, 1, 1, 0, 32, 0, 0, 0, 9, 9, 0, 2, 9⟩
theorem ex_ok : newErr (sugC exC) [(0, 1)] 0 = 0 := by decide +kernel
theorem ex_n : (sugC exC).n = 2 := by decide +kernel
def ExPost (w : World) (e : Ending) (w' : World) : Prop := ∃ lo b x s R cap, e = .returned (.tuple #[.pointer (some ⟨b.N, 0, none⟩), .int .i64 0]) ∧ NodeAt w' lo b (sugC exC) x s ∧ s.ph = 2 ∧ s.at_ = 0 ∧ s.js = 2 ∧ s.jc = 0 ∧ s.vw = .slice (some ⟨R, 0, none⟩) 1 cap ∧ BoxAt w' R [.int .i64 0, .int .i64 0, .int .u64 3] ∧ Below w.heap.size w w'
end Go.Proofs.YteahiphmhaedpaaGreatDoor
