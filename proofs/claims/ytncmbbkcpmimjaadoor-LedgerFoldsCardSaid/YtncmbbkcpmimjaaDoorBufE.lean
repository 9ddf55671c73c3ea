/- buf.Writer.Byte where there is room. -/
import Derived.Test.YtncmbbkcpmimjaaDoorBufD
namespace Go.Proofs.YtncmbbkcpmimjaaDoor
open Go.RowKit Law
set_option linter.unusedVariables false

/-- What a writing leaves as it was: all blocks but the writer's and its row's. -/
structure Fr (bw : Nat) (v : Value) (w w' : World) : Prop where
  os : w'.os = w.os
  tape : w'.tape = w.tape
  output : w'.output = w.output
  size : w.heap.size ≤ w'.heap.size
  block : ∀ k, k < w.heap.size → k ≠ bw → v.ownBlock ≠ some k → w'.heap[k]? = w.heap[k]?
/-- A writer that has these bytes in a row of its own. -/
structure WrSt (w : World) (bw base : Nat) (T : List UInt8) (v : Value) : Prop where
  at_ : WrAt w bw v
  own : w.ownsRow base 5 1 v T.length (u8V T)
  lt : bw < base
  le : base ≤ w.heap.size
theorem WrSt.kept {w w' : World} {bw base : Nat} {T : List UInt8} {v : Value} (h : WrSt w bw base T v) (hb : Below w.heap.size w w') : WrSt w' bw base T v :=
  ⟨h.at_.kept hb, ownsRow_kept h.own hb, h.lt, Nat.le_trans h.le hb.size⟩
theorem grown_set1 (W : World) (b : Nat) (v : Value) : W.grownBy (W.setCell ⟨b, 1, none⟩ v) (some b) :=
  ⟨rfl, rfl, rfl, by simp, fun k _ hk => Below.heap_setCell _ _ _ k (fun e => hk (by rw [e]))⟩
theorem u8V_app (a b : List UInt8) : u8V (a ++ b) = u8V a ++ u8V b := by simp [u8V]
set_option maxHeartbeats 1600000 in
set_option maxRecDepth 100000 in
theorem wrByte {n : Nat} (bw base : Nat) (T : List UInt8) (v : Value) (ad : Addr) (c : Nat) (b : List UInt8) (hn : b.length = n) (w : World) (h : WrSt w bw base T v) (hr : T.length + n ≤ 400) (hA : U8At w (some ad) b) :
    Calls Tryd.prog 58 #[.pointer (some ⟨bw, 0, none⟩), .slice (some ad) n c] w fun e w' => e = .returned (.tuple #[]) ∧ ∃ v', WrSt w' bw base (T ++ b) v' ∧ Fr bw v w w' := by
  obtain ⟨i0, hi, hz0, hz1, hz2⟩ := info_parts u8Info
  obtain ⟨A1, c1, rfl, hc1⟩ := (OwnOr.form (.inl h.own) : ∃ A c, v = .slice A T.length c ∧ T.length ≤ c)
  have C := Lib.hid (wrRoom bw n T.length c1 A1 w h.at_ hr)
  have H := Lib.hid (And.intro h hA)
  have HN := Lib.hid hn
  have h1 := h.at_.c1
  have g1 := h.at_.f1
  clear h hA hn
  go_enter Tryd.func58, Tryd.ntmps58
  go_wp2_with fail
  refine C.out.mono ?_
  rintro e w1 ⟨rfl, q, rfl⟩
  have hown : (w.drewN q).ownsRow base 5 1 (.slice A1 T.length c1) T.length (u8V T) := ownsRow_kept H.out.1.own (below_draws (Below.refl _ _) q)
  go_wp2_with (at_builtin; refine wpList_append_own _ rfl _ _ 29 rfl base 5 i0 (.int .u8 0) 1 1 Tryd.underlying29 hi hz0 hz1 hz2 rfl (by decide) _ _ _ rfl hown ad n c (u8V b) rfl ?c1 ?c2 ?c3 ?c4 ?c5 ?c6 ?_)
  case c1 => unfold u8V; rw [List.length_map, HN.out, Nat.mul_one]
  case c2 => exact (H.out.2.keep (below_draws (Below.refl _ _) q)).flat ad rfl
  case c3 => exact u8_one
  case c4 => unfold maxLen; omega
  case c5 => omega
  case c6 => exact H.out.1.le
  intro v' w2 hown' hgrow _
  have hbl : Below base w w2 := (below_draws (Below.refl base w) q).grown hgrow H.out.1.le (fun j hj => (hown.lt j hj).1)
  have k1 : w2.cell? ⟨bw, 1, none⟩ = some (.slice A1 T.length c1) := (hbl.cell (p := ⟨bw, 1, none⟩) H.out.1.lt).trans h1
  have kf : w2.frozen? ⟨bw, 1, none⟩ = false := (hbl.frozen (p := ⟨bw, 1, none⟩) H.out.1.lt).trans g1
  have HW : Hid (WrSt (w2.setCell ⟨bw, 1, none⟩ v') bw base (T ++ b) v' ∧ Fr bw (.slice A1 T.length c1) w (w2.setCell ⟨bw, 1, none⟩ v')) := by
    refine ⟨⟨⟨?_, ?_, ?_, by rw [World.frozen?_setCell]; exact kf⟩, ?_, H.out.1.lt, ?_⟩, ?_⟩
    · rw [World.cell?_setCell_other _ _ _ _ (by simp)]
      exact (hbl.cell (p := ⟨bw, 0, none⟩) H.out.1.lt).trans H.out.1.at_.c0
    · exact World.cell?_setCell_same' _ _ _ (by rw [k1]; rfl)
    · rw [World.cell?_setCell_other _ _ _ _ (by simp)]
      exact (hbl.cell (p := ⟨bw, 2, none⟩) H.out.1.lt).trans H.out.1.at_.c2
    · have h9 : (w2.setCell ⟨bw, 1, none⟩ v').ownsRow base 5 1 v' (T.length + n) (u8V T ++ u8V b) := by
        refine hown'.kept (grown_set1 w2 bw v') ?_
        cases hv : v'.ownBlock with
        | none => exact .inl rfl
        | some g =>
          refine .inr fun h => ?_
          have := (hown'.lt g hv).1
          have := H.out.1.lt
          injection h
          omega
      rw [List.length_append, HN.out, u8V_app]
      exact h9
    · have h5 := hbl.size
      have h6 : (w2.setCell ⟨bw, 1, none⟩ v').heap.size = w2.heap.size := by simp
      have := H.out.1.le
      omega
    · refine ⟨hbl.os, hbl.tape, hbl.output, by simpa using hbl.size, fun k hk hne hno => ?_⟩
      rw [Below.heap_setCell w2 ⟨bw, 1, none⟩ v' k hne]
      exact hgrow.block k hk (fun h => hno h.symm)
  obtain ⟨A2, c2, rfl, -⟩ := (OwnOr.form (.inl hown') : ∃ A c, v' = .slice A (T.length + n) c ∧ T.length + n ≤ c)
  clear hown' hgrow hbl hown h1 g1
  go_wp2
  go_end0
  exact ⟨rfl, _, HW.out⟩
end Go.Proofs.YtncmbbkcpmimjaaDoor
