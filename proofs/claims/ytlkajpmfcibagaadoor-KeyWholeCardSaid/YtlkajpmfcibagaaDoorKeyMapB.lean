/- lookup, mapEntry and entryStore at a map by keys. -/
import Derived.Test.YtlkajpmfcibagaaDoorKeyMap
namespace Go.Proofs.YtlkajpmfcibagaaDoor
open Go.RowKit Law
open Go.ChangeMaps (setBlock)
set_option linter.unusedVariables false

def one : Value := .int .i64 1
/-- The entries of the keys, each once, each told 1. -/
def entriesOf (ks : List K) : List MapEntry := ks.mapIdx fun i k => ⟨k.val, one, i⟩
theorem entriesOf_snoc (ks : List K) (k : K) : entriesOf (ks ++ [k]) = entriesOf ks ++ [⟨k.val, one, ks.length⟩] := by
  unfold entriesOf
  rw [List.mapIdx_append]
  simp
theorem entriesOf_mem {ks : List K} {e : MapEntry} (h : e ∈ entriesOf ks) : ∃ k ∈ ks, e.key = k.val ∧ e.val = one ∧ e.born < ks.length := by
  unfold entriesOf at h
  obtain ⟨i, hi, rfl⟩ := List.mem_mapIdx.1 h
  exact ⟨ks[i], List.getElem_mem hi, rfl, rfl, hi⟩
theorem entriesOf_has {ks : List K} {k : K} (h : k ∈ ks) : ∃ e ∈ entriesOf ks, e.key = k.val := by
  obtain ⟨i, hi, rfl⟩ := List.getElem_of_mem h
  exact ⟨⟨ks[i].val, one, i⟩, List.mem_mapIdx.2 ⟨i, hi, rfl⟩, rfl⟩
theorem entriesOf_born (ks : List K) : (entriesOf ks).map (·.born) = List.range ks.length := by
  unfold entriesOf
  apply List.ext_getElem
  · simp
  · intro i h1 h2
    simp
theorem entriesOf_nodup (ks : List K) : ((entriesOf ks).map (·.born)).Nodup := by rw [entriesOf_born]; exact List.nodup_range
theorem val_inj {a b : K} : a.val = b.val ↔ eqK a b = true := by
  obtain ⟨a1, a2, a3⟩ := a
  obtain ⟨b1, b2, b3⟩ := b
  simp [K.val, eqK, and_assoc]

theorem look_val {w : World} {b : Nat} {es : List MapEntry} {clock : Nat} (hb : w.heap[b]? = some (.map es.toArray clock)) (hk : ∀ e ∈ es, ∃ k : K, k.Fits ∧ e.key = k.val) (x : K) (hx : x.Fits) (v : Value)
    (hv : ∀ e ∈ es, e.key = x.val → e.val = v) (hz : v = .int .i64 0 ∨ ∃ e ∈ es, e.key = x.val) :
    (Instr.lookup 53 (.map (some b)) x.val false).run Tryd.prog w = .ok v w := by
  obtain ⟨l, hl⟩ := key_reads x hx
  have hl' : keyOf Tryd.prog 24 x.val = some l := hl
  have hr : ∀ e ∈ es, ∃ l, keyOf Tryd.prog 24 e.key = some l := fun e he => by
    obtain ⟨k, hkf, hke⟩ := hk e he
    rw [hke]
    exact key_reads k hkf
  have hzero : (zeroValue 3).run Tryd.prog w = .ok (.int .i64 0) w := Tryd.zeroValue3 w
  rcases mapLaw.find w hl' es hr with ⟨h1, h2⟩ | ⟨j, e0, h1, h2, h3⟩
  · have : v = .int .i64 0 := by
      rcases hz with h | ⟨e, he, hek⟩
      · exact h
      · exact absurd hek (h2 e he)
    subst this
    simp [Instr.lookup, run_underlying Tryd.underlying53, MapKept.run_getObj_map hb, mapLaw.check w _ hl', h1, hzero, Result.andThen]
  · have hm : e0 ∈ es := List.mem_of_getElem? h2
    have : v = e0.val := (hv e0 hm h3).symm
    subst this
    simp [Instr.lookup, run_underlying Tryd.underlying53, MapKept.run_getObj_map hb, mapLaw.check w _ hl', h1, hzero, Result.andThen]
theorem entry_new {w : World} {b : Nat} {es : List MapEntry} {clock : Nat} (hb : w.heap[b]? = some (.map es.toArray clock)) (hk : ∀ e ∈ es, ∃ k : K, k.Fits ∧ e.key = k.val) (x : K) (hx : x.Fits) (hn : ∀ e ∈ es, e.key ≠ x.val) :
    (Instr.mapEntry 53 (.map (some b)) x.val).run Tryd.prog w = .ok (.tuple #[.int .i64 0, goInt clock]) (setBlock w b (.map (es.toArray.push ⟨x.val, .int .i64 0, clock⟩) (clock + 1))) := by
  obtain ⟨l, hl⟩ := key_reads x hx
  have hl' : keyOf Tryd.prog 24 x.val = some l := hl
  have hr : ∀ e ∈ es, ∃ l, keyOf Tryd.prog 24 e.key = some l := fun e he => by
    obtain ⟨k, hkf, hke⟩ := hk e he
    rw [hke]
    exact key_reads k hkf
  have hzero : (zeroValue 3).run Tryd.prog w = .ok (.int .i64 0) w := Tryd.zeroValue3 w
  rcases mapLaw.find w hl' es hr with ⟨h1, h2⟩ | ⟨j, e0, h1, h2, h3⟩
  · simp [Instr.mapEntry, run_underlying Tryd.underlying53, MapKept.run_getObj_map hb, mapLaw.check w _ hl', h1, hzero, MapKept.run_setObj_map _ hb, Result.andThen, setBlock]
  · exact absurd h3 (hn e0 (List.mem_of_getElem? h2))
theorem store_new {w : World} {b : Nat} {es : List MapEntry} {clock : Nat} {x : Value} {v0 : Value} (hb : w.heap[b]? = some (.map (es.toArray.push ⟨x, v0, clock⟩) (clock + 1))) (hc : ∀ e ∈ es, e.born < clock) (hd : (es.map (·.born)).Nodup) (v : Value) :
    (Instr.entryStore 53 (.map (some b)) (goInt clock) v).run Tryd.prog w = .ok () (setBlock w b (.map (es.toArray.push ⟨x, v, clock⟩) (clock + 1))) := by
  have hidx : (es.toArray.push ⟨x, v0, clock⟩).findIdx? (fun e => ((e.born : Nat) : Int) == ((clock : Nat) : Int)) = some es.length := by
    rw [WideElems.findIdx_arr]
    have := WideElems.findIdx_born (l := (es.toArray.push ⟨x, v0, clock⟩).toList) (j := es.length) (e0 := ⟨x, v0, clock⟩) (by
      simp only [Array.toList_push, List.map_append, List.map_cons, List.map_nil]
      refine List.nodup_append.2 ⟨hd, by simp, fun a ha c hc' e1 => ?_⟩
      simp only [List.mem_singleton] at hc'
      obtain ⟨y, hy, rfl⟩ := List.mem_map.1 ha
      have := hc y hy
      omega) (by simp)
    exact this
  have hmod : (es.toArray.push ⟨x, v0, clock⟩).modify es.length (fun e => { e with val := v }) = es.toArray.push ⟨x, v, clock⟩ := by
    apply Array.ext'
    rw [Array.toList_modify, Array.toList_push, Array.toList_push]
    exact WideElems.modify_last _ _ es
  generalize es.toArray.push ⟨x, v0, clock⟩ = A0 at *
  generalize es.toArray.push ⟨x, v, clock⟩ = A1 at *
  simp [Instr.entryStore, MapKept.run_getObj_map hb, asInt, asIntOf, goInt, hidx, hmod, MapKept.run_setObj_map _ hb, Result.andThen, setBlock]
end Go.Proofs.YtlkajpmfcibagaaDoor
