/- A map by pairs of ints, as its block holds it; lookup, mapEntry and entryStore there. -/
import Derived.Test.YteahiphmhaedpaaGreatDoorGrA
import Derived.DeepKeys4
import Derived.WideKeyEntry
namespace Go.Proofs.YteahiphmhaedpaaGreatDoor
open Go.RowKit Law
open Go.ChangeMaps (setBlock)
set_option linter.unusedVariables false
set_option linter.unusedSimpArgs false
set_option maxRecDepth 100000

abbrev Pr := Int × Int
abbrev Pr.cells (p : Pr) : List Value := [.int .i64 p.1, .int .i64 p.2]
abbrev Pr.val (p : Pr) : Value := .agg #[.int .i64 p.1, .int .i64 p.2]
def PrF (p : Pr) : Prop := (-9223372036854775808 ≤ p.1 ∧ p.1 ≤ 9223372036854775807) ∧ (-9223372036854775808 ≤ p.2 ∧ p.2 ≤ 9223372036854775807)
theorem mapRow : (58 : TypeId) < Tryz.prog.types.size := of_decide_eq_true (by kernel_rfl)
theorem mapLaid : laidOutB Tryz.prog = true := by kernel_rfl
theorem mapWide : (match Tryz.prog.underlying 58 with | some (.array _ _) | some (.struct _) => true | _ => false) = true := by kernel_rfl
theorem mapLaw : WideMaps.KeyLaw Tryz.prog 58 := deep_law_laid mapLaid (m := 3) (by omega) mapRow (by kernel_rfl) mapWide
theorem keyCells : Tryz.prog.cellsOf 58 = 2 := by kernel_rfl
theorem keyKey : Tryz.prog.keyType 58 = true := by kernel_rfl
theorem key_reads (k : Pr) (hk : PrF k) : ∃ l, keyOf Tryz.prog 58 (.agg #[.int .i64 k.1, .int .i64 k.2]) = some l := by
  obtain ⟨⟨t0, t1⟩, f0, f1⟩ := hk
  have w1 : (Lit.int .i64 k.1).wf = true := by simp [Lit.wf, IntKind.min, IntKind.max, IntKind.signed, IntKind.bits]; omega
  have w2 : (Lit.int .i64 k.2).wf = true := by simp [Lit.wf, IntKind.min, IntKind.max, IntKind.signed, IntKind.bits]; omega
  have c4 : Tryz.prog.cellsOf 3 = 1 := by kernel_rfl
  have hf : (Value.agg #[.int .i64 k.1, .int .i64 k.2]).formed Tryz.prog 58 = true := by simp [Value.formed, Tryz.underlying58, keyCells]
  have hl : ∀ n, ∃ ls, Tryz.prog.keyLits (n + 2) 58 [.int .i64 k.1, .int .i64 k.2] = some ls := by
    intro n
    have hr2 : List.range 2 = [0, 1] := rfl
    simp [Program.keyLits, Tryz.underlying58, Tryz.underlying3, keyCells, c4, w1, w2, hr2]
  obtain ⟨ls, hls⟩ := hl (Tryz.prog.types.size - 1)
  have hp : 0 < Tryz.prog.types.size := Nat.lt_of_le_of_lt (Nat.zero_le _) mapRow
  rw [show Tryz.prog.types.size - 1 + 2 = Tryz.prog.types.size + 1 by omega] at hls
  refine ⟨.string (keyBytes ls), ?_⟩
  unfold keyOf
  rw [Tryz.underlying58]
  dsimp only
  rw [keyKey, hf]
  show (if (true && true) = true then (Tryz.prog.keyLits (Tryz.prog.types.size + 1) 58 [.int .i64 k.1, .int .i64 k.2]).map (fun ls => Lit.string (keyBytes ls)) else none) = _
  rw [hls]
  rfl

def one : Value := .int .i64 1
/-- The entries of the keys, each once, each told 1. -/
def entriesOf (ks : List Pr) : List MapEntry := ks.mapIdx fun i k => ⟨(Pr.val k), one, i⟩
theorem entriesOf_snoc (ks : List Pr) (k : Pr) : entriesOf (ks ++ [k]) = entriesOf ks ++ [⟨(Pr.val k), one, ks.length⟩] := by
  unfold entriesOf
  rw [List.mapIdx_append]
  simp
theorem entriesOf_mem {ks : List Pr} {e : MapEntry} (h : e ∈ entriesOf ks) : ∃ k ∈ ks, e.key = (Pr.val k) ∧ e.val = one ∧ e.born < ks.length := by
  unfold entriesOf at h
  obtain ⟨i, hi, rfl⟩ := List.mem_mapIdx.1 h
  exact ⟨ks[i], List.getElem_mem hi, rfl, rfl, hi⟩
theorem entriesOf_has {ks : List Pr} {k : Pr} (h : k ∈ ks) : ∃ e ∈ entriesOf ks, e.key = (Pr.val k) := by
  obtain ⟨i, hi, rfl⟩ := List.getElem_of_mem h
  exact ⟨⟨(Pr.val ks[i]), one, i⟩, List.mem_mapIdx.2 ⟨i, hi, rfl⟩, rfl⟩
theorem entriesOf_born (ks : List Pr) : (entriesOf ks).map (·.born) = List.range ks.length := by
  unfold entriesOf
  apply List.ext_getElem
  · simp
  · intro i h1 h2
    simp
theorem entriesOf_nodup (ks : List Pr) : ((entriesOf ks).map (·.born)).Nodup := by rw [entriesOf_born]; exact List.nodup_range
theorem val_inj {a b : Pr} : Pr.val a = Pr.val b ↔ a = b := by
  obtain ⟨a1, a2⟩ := a
  obtain ⟨b1, b2⟩ := b
  simp [Pr.val]

theorem look_val {w : World} {b : Nat} {es : List MapEntry} {clock : Nat} (hb : w.heap[b]? = some (.map es.toArray clock)) (hk : ∀ e ∈ es, ∃ k : Pr, PrF k ∧ e.key = (Pr.val k)) (x : Pr) (hx : PrF x) (v : Value)
    (hv : ∀ e ∈ es, e.key = (Pr.val x) → e.val = v) (hz : v = .int .i64 0 ∨ ∃ e ∈ es, e.key = (Pr.val x)) :
    (Instr.lookup 206 (.map (some b)) (Pr.val x) false).run Tryz.prog w = .ok v w := by
  obtain ⟨l, hl⟩ := key_reads x hx
  have hl' : keyOf Tryz.prog 58 (Pr.val x) = some l := hl
  have hr : ∀ e ∈ es, ∃ l, keyOf Tryz.prog 58 e.key = some l := fun e he => by
    obtain ⟨k, hkf, hke⟩ := hk e he
    rw [hke]
    exact key_reads k hkf
  have hzero : (zeroValue 3).run Tryz.prog w = .ok (.int .i64 0) w := Tryz.zeroValue3 w
  rcases mapLaw.find w hl' es hr with ⟨h1, h2⟩ | ⟨j, e0, h1, h2, h3⟩
  · have : v = .int .i64 0 := by
      rcases hz with h | ⟨e, he, hek⟩
      · exact h
      · exact absurd hek (h2 e he)
    subst this
    simp [Instr.lookup, run_underlying Tryz.underlying206, MapKept.run_getObj_map hb, mapLaw.check w _ hl', h1, hzero, Result.andThen]
  · have hm : e0 ∈ es := List.mem_of_getElem? h2
    have : v = e0.val := (hv e0 hm h3).symm
    subst this
    simp [Instr.lookup, run_underlying Tryz.underlying206, MapKept.run_getObj_map hb, mapLaw.check w _ hl', h1, hzero, Result.andThen]
theorem entry_new {w : World} {b : Nat} {es : List MapEntry} {clock : Nat} (hb : w.heap[b]? = some (.map es.toArray clock)) (hk : ∀ e ∈ es, ∃ k : Pr, PrF k ∧ e.key = (Pr.val k)) (x : Pr) (hx : PrF x) (hn : ∀ e ∈ es, e.key ≠ (Pr.val x)) :
    (Instr.mapEntry 206 (.map (some b)) (Pr.val x)).run Tryz.prog w = .ok (.tuple #[.int .i64 0, goInt clock]) (setBlock w b (.map (es.toArray.push ⟨(Pr.val x), .int .i64 0, clock⟩) (clock + 1))) := by
  obtain ⟨l, hl⟩ := key_reads x hx
  have hl' : keyOf Tryz.prog 58 (Pr.val x) = some l := hl
  have hr : ∀ e ∈ es, ∃ l, keyOf Tryz.prog 58 e.key = some l := fun e he => by
    obtain ⟨k, hkf, hke⟩ := hk e he
    rw [hke]
    exact key_reads k hkf
  have hzero : (zeroValue 3).run Tryz.prog w = .ok (.int .i64 0) w := Tryz.zeroValue3 w
  rcases mapLaw.find w hl' es hr with ⟨h1, h2⟩ | ⟨j, e0, h1, h2, h3⟩
  · simp [Instr.mapEntry, run_underlying Tryz.underlying206, MapKept.run_getObj_map hb, mapLaw.check w _ hl', h1, hzero, MapKept.run_setObj_map _ hb, Result.andThen, setBlock]
  · exact absurd h3 (hn e0 (List.mem_of_getElem? h2))
theorem store_new {w : World} {b : Nat} {es : List MapEntry} {clock : Nat} {x : Value} {v0 : Value} (hb : w.heap[b]? = some (.map (es.toArray.push ⟨x, v0, clock⟩) (clock + 1))) (hc : ∀ e ∈ es, e.born < clock) (hd : (es.map (·.born)).Nodup) (v : Value) :
    (Instr.entryStore 206 (.map (some b)) (goInt clock) v).run Tryz.prog w = .ok () (setBlock w b (.map (es.toArray.push ⟨x, v, clock⟩) (clock + 1))) := by
  have hidx : (es.toArray.push ⟨x, v0, clock⟩).findIdx? (fun e => ((e.born : Nat) : Int) == ((clock : Nat) : Int)) = some es.length := by
    rw [WideElems.findIdx_arr]
    have := WideElems.findIdx_born (l := (es.toArray.push ⟨x, v0, clock⟩).toList) (j := es.length) (e0 := ⟨x, v0, clock⟩) (by
      simp only [Array.toList_push, List.map_append, List.map_cons, List.map_nil]
      refine List.nodup_append.2 ⟨hd, by simp, fun a ha c hc' e1 => ?_⟩
      simp only [List.mem_singleton] at hc'
      obtain ⟨y, hy, rfl⟩ := List.mem_map.1 ha
      have := hc y hy
      omega) (by simp)
    exact this
  have hmod : (es.toArray.push ⟨x, v0, clock⟩).modify es.length (fun e => { e with val := v }) = es.toArray.push ⟨x, v, clock⟩ := by
    apply Array.ext'
    rw [Array.toList_modify, Array.toList_push, Array.toList_push]
    exact WideElems.modify_last _ _ es
  generalize es.toArray.push ⟨x, v0, clock⟩ = A0 at *
  generalize es.toArray.push ⟨x, v, clock⟩ = A1 at *
  simp [Instr.entryStore, MapKept.run_getObj_map hb, asInt, asIntOf, goInt, hidx, hmod, MapKept.run_setObj_map _ hb, Result.andThen, setBlock]
end Go.Proofs.YteahiphmhaedpaaGreatDoor
