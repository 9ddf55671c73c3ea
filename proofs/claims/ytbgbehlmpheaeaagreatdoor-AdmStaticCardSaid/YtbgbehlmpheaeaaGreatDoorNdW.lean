/- The chapter's example: a node of two that is booted. -/
import Derived.Test.YtbgbehlmpheaeaaGreatDoorNdL
import Derived.Test.YtbgbehlmpheaeaaGreatDoorRhE
namespace Go.Proofs.YtbgbehlmpheaeaaGreatDoor
open Go.RowKit Law
set_option linter.unusedVariables false
set_option linter.unusedSimpArgs false
set_option maxRecDepth 100000

theorem nodeNew (c : Cn) (A : Option Addr) (l k : Nat) (L : List Pr) (hl : L.length = l) (hfit : ∀ x ∈ L, PrF x) (hm : l ≤ 9223372036854775807) (id hard : Int) (w : World) (hA : LinksAt w A L) :
    Calls Tryz.prog 80 #[.agg (c.cells A l k).toArray, .int .i64 id, .int .i64 hard] w (NdPost c L id hard w) := by
  by_cases h1 : gErr c.n L = 0
  · cases h2 : enoughB c
    · exact nodeNewB c A l k L hl hfit hm id hard w hA h1 h2
    · by_cases h3 : c.f < 0
      · exact nodeNewC c A l k L hl hfit hm id hard w hA h1 h2 h3
      · by_cases h4 : id < 0
        · exact nodeNewD c A l k L hl hfit hm id hard w hA h1 h2 h3 (.inl h4)
        · by_cases h5 : c.n ≤ id
          · exact nodeNewD c A l k L hl hfit hm id hard w hA h1 h2 h3 (.inr ⟨by omega, h5⟩)
          · exact nodeNewE c A l k L hl hfit hm id hard w hA h1 h2 h3 (by omega) h5
  · exact nodeNewA c A l k L hl hfit hm id hard w hA h1
def exC : Cn := ⟨2, 0, 1, 1, 0, 32, 0, 0, 0, 9, 9, 0, 2, 9⟩
theorem ex_ok : newErr (sugC exC) [(0, 1)] 0 = 0 := by decide +kernel
theorem ex_n : (sugC exC).n = 2 := by decide +kernel
def ExPost (w : World) (e : Ending) (w' : World) : Prop := ∃ lo b x s R cap, e = .returned (.tuple #[.pointer (some ⟨b.N, 0, none⟩), .int .i64 0]) ∧ NodeAt w' lo b (sugC exC) x s ∧ s.ph = 2 ∧ s.at_ = 0 ∧ s.js = 2 ∧ s.jc = 0 ∧ s.vw = .slice (some ⟨R, 0, none⟩) 1 cap ∧ BoxAt w' R [.int .i64 0, .int .i64 0, .int .u64 3] ∧ Below w.heap.size w w'
end Go.Proofs.YtbgbehlmpheaeaaGreatDoor
