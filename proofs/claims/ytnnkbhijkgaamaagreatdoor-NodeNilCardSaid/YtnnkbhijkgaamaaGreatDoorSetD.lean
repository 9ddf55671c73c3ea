/- nodes.Each: going over a set gives its nodes, rising. -/
import Derived.Test.YtnnkbhijkgaamaaGreatDoorSetC
import Derived.Test.YtnnkbhijkgaamaaGreatDoorSeqBox
import Derived.RangeFuncBox
import Derived.Shelf.Abstract
import Derived.Shelf.RegionOpen
import Derived.WalkKit
import Derived.OwnWalkIn
import Derived.TacticsInMore
import Derived.LoopNIn
import Derived.LoopIn
namespace Go.Proofs.YtnnkbhijkgaamaaGreatDoor
open Go.RowKit Law Go.Shelf
set_option linter.unusedVariables false
set_option linter.unusedSimpArgs false
set_option maxRecDepth 100000
attribute [local go_sem] Oper.semAt_some

theorem nodesEach (s : Nat) (w : World) : Calls Tryz.prog 143 #[.int .u64 (s : Int)] w fun e w' =>
    e = .returned (.func (.func 224) #[] #[.pointer (some ⟨w.heap.size, 0, none⟩)]) ∧ w' = w.alloc (.cells #[.int .u64 (s : Int)] 62) := by
  go_enter Tryz.func143, Tryz.ntmps143
  go_wp2
  go_ret
  exact ⟨rfl, rfl⟩
/-- What is left in the box. -/
def inBox (B : Nat) (W : World) : Nat := match W.cell? ⟨B, 0, none⟩ with
  | some (.int _ z) => (els z.toNat).length
  | _ => 0
theorem inBox_eq {B : Nat} {W : World} {x : Nat} (h : W.cell? ⟨B, 0, none⟩ = some (.int .u64 (x : Int))) : inBox B W = (els x).length := by
  unfold inBox
  rw [h]
  simp
theorem eachSeq (B s : Nat) (hs : s < 18446744073709551616) : SeqBox Tryz.prog 224 B (.int .u64 (s : Int)) (intV (elsI s)) T64 := by
  intro n l J Jx W hset hT hY h0 hbox
  refine callsIn_of_wp Tryz.func224 rfl trivial ?_ rfl
  simp only [Tryz.ntmps224, List.size_toArray, List.length_cons, List.length_nil, Nat.reduceAdd, Nat.reduceSub, Array.replicate_succ, Array.replicate_zero, List.push_toArray, List.append_toArray, List.nil_append, List.cons_append]
  gi_wp2
  gi_loopw [3] (fun _ wr => ∃ (k x : Nat), x < 18446744073709551616 ∧ (elsI s).drop k = elsI x ∧ k ≤ (elsI s).length ∧ J k wr ∧ BoxIs B (.int .u64 (x : Int)) wr) (fun _ wr => inBox B wr)
  case atStart => exact ⟨0, s, hs, rfl, Nat.zero_le _, h0, hbox⟩
  case round =>
    obtain ⟨k, x, hx, hdr, hk, hJ, hb⟩ := hrel
    have hc := hb.1
    have hf := hb.2
    by_cases hx0 : x = 0
    · subst hx0
      obtain rfl : k = (elsI s).length := by
        have h2 : ((elsI s).drop k).length = 0 := by rw [hdr]; simp [elsI, els_zero]
        rw [List.length_drop] at h2
        omega
      have HK : Hid ((intV (elsI s)).length = (elsI s).length) := List.length_map ..
      gi_wp2
      go_end0
      exact ⟨⟨_, rfl⟩, .inl (by rw [HK.out]; exact hJ)⟩
    · have hx0' : ((x : Int) != 0) = true := by simp; omega
      have hxp : 1 ≤ x := by omega
      have hcons : (elsI s).drop k = (low x : Int) :: elsI (rest x) := by rw [hdr]; unfold elsI; rw [els_cons hx0 hx]; rfl
      have hat : (elsI s)[k]? = some (low x : Int) := by
        have h2 : ((elsI s).drop k)[0]? = some (low x : Int) := by rw [hcons]; rfl
        rw [List.getElem?_drop] at h2
        simpa using h2
      have hkl : k < (elsI s).length := (List.getElem?_eq_some_iff.1 hat).1
      have HD : Hid ((elsI s).drop (k + 1) = elsI (rest x)) := by
        unfold Hid
        rw [← List.tail_drop, hcons]
        rfl
      have HV : Hid ((intV (elsI s))[k]? = some (.int .i64 (low x : Int))) := by unfold Hid intV; rw [List.getElem?_map, hat]; rfl
      obtain ⟨fn, tmps, assign, body, hy, hR⟩ := hY k _ wr hJ HV.out
      have hsa := sub_and x hx0 hx
      have hrl := rest_lt (s := x) hx
      have HC := Lib.hid (nodesLeast x hx0 hx wr (hT _ _ hJ))
      have HX := Lib.hid hx0
      have HL := Lib.hid (els_rest_lt hx0 hx)
      have HKL : Hid (k < (intV (elsI s)).length) := by unfold Hid intV; rw [List.length_map]; exact hkl
      clear hx0 hcons hat hdr hY
      gi_wp2
      refine ⟨trivial, (fun h => by cases h), (callsIn_wide.2 HC.out).mono ?_⟩
      rintro e w' ⟨rfl, rfl⟩
      gi_wp2
      refine ⟨(fun h => by cases h), hR.mono ?_⟩
      rintro e W3 (⟨rfl, hJ3, hk3⟩ | ⟨rfl, hJx3⟩)
      · have hb3 := hk3 _ hb
        have hc3 := hb3.1
        have hf3 := hb3.2
        gi_wp2
        go_roundw
        case rel =>
          exact ⟨k + 1, rest x, hrl, HD.out, by omega, hset _ _ _ hJ3, by rw [World.cell?_setCell_same' _ _ _ (by rw [hc3]; rfl)], by rw [World.frozen?_setCell]; exact hf3⟩
        case measure =>
          rw [inBox_eq hc, inBox_eq (x := rest x) (World.cell?_setCell_same' _ _ _ (by rw [hc3]; rfl))]
          exact HL.out
      · gi_wp2
        refine bodyPost_ret (results_none rfl _ _ _) rfl ?_
        exact ⟨⟨_, rfl⟩, .inr ⟨k, HKL.out, hJx3⟩⟩

theorem Side.below {N B0 B : Nat} {w W W' : World} (h : Side B0 B W W') (hN : N ≤ B0) (hNB : N ≤ B) (hb : Below N w W) (hW : N ≤ W.heap.size) : Below N w W' :=
  ⟨h.os.trans hb.os, h.tape.trans hb.tape, h.output.trans hb.output, Nat.le_trans hb.size h.size, fun k hk => (h.low k (by omega) (by omega) (by omega)).trans (hb.block k hk)⟩
theorem Side.row {B0 B base size n : Nat} {e : TypeId} {v : Value} {xs : List Value} {W W' : World} (h : Side B0 B W W') (hB : B < base) (hown : W.ownsRow base e size v n xs) : W'.ownsRow base e size v n xs := by
  refine ⟨hown.1, ?_⟩
  rcases hown.2 with hn | ⟨g, cap, cur, hv, hg, hc, rest⟩
  · exact .inl hn
  · exact .inr ⟨g, cap, cur, hv, hg, h.cells g _ (by omega) hc rfl, rest⟩
theorem Side.cell {B0 B b : Nat} {u : Value} {W W' : World} (h : Side B0 B W W') (hne : b ≠ B) (hb : b < B0) (hx : BoxIs b u W) : BoxIs b u W' :=
  hx.kept (h.low b hx.lt hne hb)

/-- 'out = append(out, ..)' where out lies in a box: behind the append and the store. -/
theorem box_append {W w1 : World} {base b : Nat} {e : TypeId} {size : Nat} {v v' : Value} {k m : Nat} {xs ys : List Value} {tmp : Obj}
    (hb : b < base) (hbx : BoxIs b v W) (hown : W.ownsRow base e size v k xs) (hbase : base ≤ W.heap.size) (hown' : w1.ownsRow base e size v' m ys) (hgrow : (W.alloc tmp).grownBy w1 v.ownBlock) :
    BoxIs b v w1 ∧ BoxIs b v' (w1.setCell ⟨b, 0, none⟩ v') ∧ (w1.setCell ⟨b, 0, none⟩ v').ownsRow base e size v' m ys ∧ KeepsOthers W (w1.setCell ⟨b, 0, none⟩ v') ∧
      (∀ B u, B < base → B ≠ b → BoxIs B u W → BoxIs B u (w1.setCell ⟨b, 0, none⟩ v')) ∧ (∀ N, N ≤ b → Below N W (w1.setCell ⟨b, 0, none⟩ v')) := by
  have hblk : ∀ j, j < base → w1.heap[j]? = W.heap[j]? := fun j hj => by
    rw [hgrow.block j (by simp; omega) (fun h => by have := (hown.lt j h.symm).1; omega)]
    exact Below.heap_alloc W tmp j (by omega)
  have h1 : BoxIs b v w1 := hbx.kept (hblk b hb)
  refine ⟨h1, ⟨?_, by rw [World.frozen?_setCell]; exact h1.2⟩, ?_, ?_, ?_, ?_⟩
  · exact World.cell?_setCell_same' _ _ _ (by rw [h1.1]; rfl)
  · refine hown'.kept (grownBy_setCell' w1 b v') ?_
    cases hv : v'.ownBlock with
    | none => exact .inl rfl
    | some g =>
      refine .inr fun h => ?_
      have := (hown'.lt g hv).1
      injection h
      omega
  · refine ((KeepsOthers.alloc W tmp).trans (KeepsOthers.of_grownBy hgrow fun j o ej hj => ?_)).trans (KeepsOthers.setCell _ _ _)
    rcases (hown.alloc tmp).2 with ⟨rfl, _⟩ | ⟨g, cap, cur, rfl, _, hgb, _⟩
    · simp [Value.ownBlock] at ej
    · obtain rfl : g = j := by simpa [Value.ownBlock] using ej
      rw [hgb] at hj; cases hj; rfl
  · intro B u hB hne hx
    exact (hx.kept (hblk B hB)).kept (Below.heap_setCell w1 ⟨b, 0, none⟩ v' B hne)
  · intro N hN
    refine (((Below.refl N W).alloc (by omega) tmp).grown hgrow (by simp; omega) fun j ej => ?_).setCell (p := ⟨b, 0, none⟩) hN v'
    have := (hown.lt j ej).1
    omega

/-! ### List -/
def ListI (w : World) (zs : List Int) (k : Nat) (W : World) : Prop :=
  ∃ v, BoxIs w.heap.size v W ∧ W.ownsRow (w.heap.size + 2) 3 1 v k (intV (zs.take k)) ∧ Below w.heap.size w W
set_option maxHeartbeats 1600000 in
theorem nodesList (s : Nat) (hs : s < 18446744073709551616) (w : World) (hTw : T64 w) :
    Calls Tryz.prog 79 #[.int .u64 (s : Int)] w fun e w' => ∃ v, e = .returned v ∧ w'.ownsRow w.heap.size 3 1 v (elsI s).length (intV (elsI s)) ∧ Below w.heap.size w w' := by
  obtain ⟨i0, hi, hz0, hz1, hz2⟩ := info_parts intInfo
  have hel := elsI_len s
  refine (callsIn_wide (n := 9)).1 ?_
  refine callsIn_of_wp_marks Tryz.func79 rfl trivial ?_ rfl
  simp only [Tryz.ntmps79, List.size_toArray, List.length_cons, List.length_nil, Nat.reduceAdd, Nat.reduceSub, Array.replicate_succ, Array.replicate_zero, List.push_toArray, List.append_toArray, List.nil_append, List.cons_append]
  gi_wp2
  refine ⟨trivial, (callsIn_wide.2 (nodesEach s _)).mono ?_⟩
  rintro e w' ⟨rfl, hw'⟩
  have hsz : w'.heap.size = w.heap.size + 2 := by rw [hw']; simp
  have hbw : Below w.heap.size w w' := by rw [hw']; exact ((Below.refl _ w).alloc (Nat.le_refl _) _).alloc (by simp) _
  have hbox : BoxIs (w.heap.size + 1) (.int .u64 (s : Int)) w' := by rw [hw']; exact ⟨by simp, by simp⟩
  have hbx0 : BoxIs w.heap.size (.slice none 0 0) w' := by rw [hw']; exact ⟨by simp, by simp⟩
  clear hw'
  gi_wp2
  refine wp_rangeBox (gf := 224) (B := w.heap.size + 1) (u0 := .int .u64 (s : Int)) (zs := intV (elsI s)) (T := T64) (by simp [Act.eval, World.size_alloc]) (enters_of Tryz.func224 (by kernel_rfl) rfl) (eachSeq _ s hs) rfl hbox
    (ListI w (elsI s)) (fun _ _ _ => False) ?hI (fun _ _ _ _ h _ => h.elim) ?hT ?h0
    (fun x => { tmps := #[.int .u64 (s : Int), undef, .slice none 0 0, .pointer (some ⟨w.heap.size, 0, none⟩), x, .int .u64 (s : Int), .func (.func 224) #[] #[.pointer (some ⟨w.heap.size + 1, 0, none⟩)], x, undef, undef, undef, undef, undef], defers := [] }) ?assign ?body ?done (fun _ _ _ _ _ _ h => h.elim)
  case hI =>
    rintro k W W' ⟨v, h1, h2, h3⟩ hS
    exact ⟨v, hS.cell (by omega) (by omega) h1, hS.row (by omega) h2, hS.below (by omega) (by omega) h3 h3.size⟩
  case hT =>
    rintro k W ⟨v, h1, h2, h3⟩
    exact hTw.below h3
  case h0 => exact ⟨_, hbx0, World.ownsRow_nil _ _ _ _, hbw⟩
  case assign =>
    intro l x W K hK
    simp only [World.size_alloc]
    gi_wp2
    exact hK
  case body =>
    rintro l k x W ⟨v, hbx, hown, hb⟩ hx hlt
    have hc := hbx.1
    have hf := hbx.2
    have hk : k < (elsI s).length := by
      have := (List.getElem?_eq_some_iff.1 hx).1
      simpa using this
    obtain rfl : x = .int .i64 (elsI s)[k] := by
      rw [List.getElem?_map, List.getElem?_eq_getElem hk] at hx
      exact (Option.some.inj hx).symm
    have HS : Hid (intV ((elsI s).take (k + 1)) = intV ((elsI s).take k) ++ [.int .i64 (elsI s)[k]]) := by
      unfold Hid intV
      rw [List.take_succ_eq_append_getElem hk, List.map_append]
      rfl
    have hbs := hb.size
    gi_wp2_with (gi_at_builtin; refine wpListIn_append_own _ rfl _ _ 130 rfl (w.heap.size + 2) 3 i0 (.int .i64 0) 1 8 Tryz.underlying130 hi hz0 hz1 hz2 rfl (by decide) _ _ _ rfl (hown.alloc _) ⟨W.heap.size, 0, none⟩ 1 1 [.int .i64 (elsI s)[k]] rfl rfl ?c1 ?c2 ?c3 ?c4 ?c5 ?_)
    case c1 =>
      intro j u hj
      match j, hj with
      | 0, hj => simp at hj; subst hj; simp [Addr.add]
    case c2 => intro u hu; simp at hu; subst hu; rfl
    case c3 => unfold maxLen; omega
    case c4 => omega
    case c5 => simp; omega
    intro v' w1 hown' hgrow _
    obtain ⟨g', cap', rfl⟩ := ownsRow_succ hown'
    obtain ⟨q1, q2, q3, q4, q5, q6⟩ := box_append (by omega) hbx hown (by omega) hown' hgrow
    have hc1 := q1.1
    have hf1 := q1.2
    have HQ := Lib.hid (And.intro q2 (And.intro q3 (And.intro q4 (And.intro q5 q6))))
    clear q1 q2 q3 q4 q5 q6 hgrow hown'
    gi_wp2
    obtain ⟨q2, q3, q4, q5, q6⟩ := HQ.out
    exact ⟨q4, fun u hu => q5 _ u (by omega) (by omega) hu, _, q2, by rw [HS.out]; unfold intV; rw [List.map_take]; exact q3, hb.trans (q6 _ (Nat.le_refl _))⟩
  case done =>
    rintro D W hD ⟨v, hbx, hown, hb⟩ hK
    have hc := hbx.1
    have HT : Hid ((elsI s).take (intV (elsI s)).length = elsI s) := List.take_of_length_le (by simp [intV])
    have HL : Hid ((intV (elsI s)).length = (elsI s).length) := List.length_map ..
    rw [HT.out, HL.out] at hown
    gi_wp2
    refine ⟨by simp, .inl ⟨_, _, rfl, run_takeDeferred hK, ?_⟩⟩
    exact ⟨_, results_tmp rfl _ _ _, _, rfl, ownsRow_base (ownsRow_putObj hown _ hK rfl) (by omega), hb.trans (belowK_b (w := w) (Nat.le_refl _) W D _ _ (by omega) hK rfl rfl)⟩
end Go.Proofs.YtnnkbhijkgaamaaGreatDoor
