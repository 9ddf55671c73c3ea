/- KeyArrays: the walks of its cases joined. -/
import Derived.Test.YtlkajpmfcibagaaDoorKeyE
namespace Go.Proofs.YtlkajpmfcibagaaDoor
open Go.RowKit Law

theorem walkArrays (x y z : Int) (k : K) (hk : k.Fits) (w : World) (h : P10 w) : Calls Tryd.prog 5 #[.agg #[.int .i64 x, .int .i64 y, .int .i64 z], .agg #[.int .i64 k.t, .int .i64 k.f, .int .u32 k.s]] w fun e w' => e = .returned (.bool true) ∧ Below w.heap.size w w' := by
  obtain ⟨_, _, s0, s1⟩ := hk
  by_cases hy0 : 0 ≤ y
  · by_cases hy1 : y < 64
    · by_cases hz0 : 0 ≤ z
      · by_cases hz1 : z ≤ 4294967295
        · by_cases f0 : 0 ≤ k.f
          · by_cases f1 : k.f < 64
            · exact walkArr_ya x y z k s0 s1 hy0 hy1 hz0 hz1 f0 f1 w h
            · exact walkArr_yc x y z k s0 s1 hy0 hy1 hz0 hz1 f0 f1 w h
          · exact walkArr_yb x y z k s0 s1 hy0 hy1 hz0 hz1 f0 w h
        · by_cases f0 : 0 ≤ k.f
          · by_cases f1 : k.f < 64
            · exact walkArr_n4a x y z k s0 s1 hy0 hy1 hz0 hz1 f0 f1 w h
            · exact walkArr_n4c x y z k s0 s1 hy0 hy1 hz0 hz1 f0 f1 w h
          · exact walkArr_n4b x y z k s0 s1 hy0 hy1 hz0 hz1 f0 w h
      · by_cases f0 : 0 ≤ k.f
        · by_cases f1 : k.f < 64
          · exact walkArr_n3a x y z k s0 s1 hy0 hy1 hz0 f0 f1 w h
          · exact walkArr_n3c x y z k s0 s1 hy0 hy1 hz0 f0 f1 w h
        · exact walkArr_n3b x y z k s0 s1 hy0 hy1 hz0 f0 w h
    · by_cases f0 : 0 ≤ k.f
      · by_cases f1 : k.f < 64
        · exact walkArr_n2a x y z k s0 s1 hy0 hy1 f0 f1 w h
        · exact walkArr_n2c x y z k s0 s1 hy0 hy1 f0 f1 w h
      · exact walkArr_n2b x y z k s0 s1 hy0 hy1 f0 w h
  · by_cases f0 : 0 ≤ k.f
    · by_cases f1 : k.f < 64
      · exact walkArr_n1a x y z k s0 s1 hy0 f0 f1 w h
      · exact walkArr_n1c x y z k s0 s1 hy0 f0 f1 w h
    · exact walkArr_n1b x y z k s0 s1 hy0 f0 w h
end Go.Proofs.YtlkajpmfcibagaaDoor
