/- The reference's neighbours of a node: some list. -/
import Derived.Test.YtfkfheddhnjaaaaGreatRgB
import Derived.Test.YtfkfheddhnjaaaaGreatNeB
namespace Go.Proofs.YtfkfheddhnjaaaaGreat
open Go.RowKit Law
set_option linter.unusedVariables false
set_option linter.unusedSimpArgs false
set_option maxRecDepth 100000

theorem intInfo2 : (Tryz.prog.info? 3).map (fun i => (i.zero, i.size, i.bytes)) = some (some (.int .i64 0), 1, 8) := by kernel_rfl
def SomeSl (w : World) (e : Ending) (w' : World) : Prop := (∃ A l k, e = .returned (.slice A l k)) ∧ Below w.heap.size w w'
set_option maxHeartbeats 3200000 in
theorem rNear (n : Nat) (hn : n ≤ 64) (A : Option Addr) (l c : Nat) (L : List Pr) (hl : L.length = l) (hm : l ≤ 140737488355328) (i : Int) (w : World) (hA : LinksAt w A L) :
    Calls Tryz.prog 27 #[.agg #[.int .i64 (n : Int), .slice A l c], .int .i64 i] w (SomeSl w) := by
  obtain ⟨i0, hi, hz0, hz1, hz2⟩ := info_parts intInfo2
  have b0 := (Below.refl w.heap.size w).alloc (Nat.le_refl _) (.cells #[.int .i64 (n : Int), .slice A l c] 88)
  have k0 := boxF_made w [.int .i64 (n : Int), .slice A l c] 88
  obtain ⟨w0, hw0⟩ : ∃ w0, w.alloc (.cells #[.int .i64 (n : Int), .slice A l c] 88) = w0 := ⟨_, rfl⟩
  rw [hw0] at b0
  rw [show w.alloc (.cells [.int .i64 (n : Int), .slice A l c].toArray 88) = w0 from hw0] at k0
  have b1 := (Below.refl w0.heap.size w0).alloc (Nat.le_refl _) (.cells #[] 3)
  have H := Lib.hid (And.intro (b0.trans (b1.mono b0.size)) (And.intro (k0.keep b1) (hA.below (b0.trans (b1.mono b0.size)))))
  have C := Lib.hid (fun (k : Int) (W : World) hW => rLinked (n : Int) A l c L hl hm i k W hW)
  have hnI : (n : Int) ≤ 64 := by omega
  clear b0 k0 b1 hA
  go_enter Tryz.func27, Tryz.ntmps27
  go_wp2_with fail
  obtain ⟨w1, hw1⟩ : ∃ w1, w0.alloc (.cells #[] 3) = w1 := ⟨_, rfl⟩
  rw [hw1] at H ⊢
  go_loopw [5, 6] (fun v k wr => ∃ (q : Nat) (xs : List Int), q ≤ n ∧ k = .int .i64 q ∧ xs.length ≤ q ∧ OwnOr wr w1.heap.size 3 1 v xs.length (intV xs) ∧ Below w1.heap.size w1 wr) (fun _ k _ => n - (intOf k).toNat)
  case atStart => exact ⟨0, [], Nat.zero_le _, rfl, Nat.le_refl _, .inr ⟨_, rfl, rfl, rfl⟩, Below.refl _ _⟩
  case round =>
    obtain ⟨q, xs, hq, rfl, hxl, hown, hb⟩ := hrel
    have kr := H.out.2.1.keep hb
    have kc0 := kr.1 0 _ rfl
    have kc1 := kr.1 1 _ rfl
    have hqI : (q : Int) ≤ 64 := by omega
    by_cases hlt : q < n
    · have hltI : (q : Int) < (n : Int) := by omega
      have C1 := Lib.hid (C.out (q : Int) wr (H.out.2.2.below hb))
      have HO := Lib.hid (And.intro hown hb)
      clear hown hb kr
      go_wp2_with fail
      refine C1.out.mono ?_
      rintro e w2 ⟨rfl, hb2⟩
      have hown := HO.out.1.kept hb2
      have hbb := HO.out.2.trans (hb2.mono HO.out.2.size)
      cases hadj : adjB L i (q : Int)
      · clear hb2
        go_wp2
        go_roundw
        case rel => exact ⟨q + 1, xs, by omega, by go_num, by omega, hown, hbb⟩
        case measure => simp [intOf]; omega
      · clear hb2
        go_wp2_with (at_builtin; refine wpList_append_or _ rfl _ _ 93 rfl w1.heap.size 3 i0 (.int .i64 0) 1 8 Tryz.underlying93 hi hz0 hz1 hz2 rfl (by decide) _ _ _ rfl (hown.alloc _) ⟨w2.heap.size, 0, none⟩ 1 1 [.int .i64 (q : Int)] rfl rfl ?c1 ?c2 (by decide) ?c3 ?c4 ?c5 ?_)
        case c1 =>
          intro j u hj
          match j, hj with
          | 0, hj => simp at hj; subst hj; simp [Addr.add]
        case c2 => intro u hu; simp at hu; subst hu; rfl
        case c3 => unfold maxLen; omega
        case c4 => omega
        case c5 => have := hbb.size; simp; omega
        intro v' w3 row hown' hgrow hrow
        have hb3 : Below w1.heap.size w1 w3 := (hbb.alloc hbb.size _).grown hgrow (by have := hbb.size; simp; omega) hrow
        go_wp2
        go_roundw
        case rel => exact ⟨q + 1, xs ++ [(q : Int)], by omega, by go_num, by simp; omega, by rw [List.length_append]; unfold intV; rw [List.map_append]; exact .inl hown', hb3⟩
        case measure => simp [intOf]; omega
    · obtain rfl : q = n := by omega
      obtain ⟨A3, c3, rfl, hc3⟩ := hown.form
      have HB := Lib.hid (H.out.1.trans (hb.mono H.out.1.size))
      clear hown hb kr
      go_wp2
      go_ret
      exact ⟨⟨_, _, _, rfl⟩, HB.out⟩
end Go.Proofs.YtfkfheddhnjaaaaGreat
