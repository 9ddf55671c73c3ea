/- A node's block: its cells by ONE function from offset to cell; a store is one lemma. How a node stands. -/
import Derived.Test.YteahiphmhaedpaaGreatDoorNdM
import Derived.Test.YteahiphmhaedpaaGreatDoorCfC
namespace Go.Proofs.YteahiphmhaedpaaGreatDoor
open Go.RowKit Law
set_option linter.unusedVariables false
set_option linter.unusedSimpArgs false
set_option maxRecDepth 100000

abbrev pB (b : Nat) : Value := .pointer (some ⟨b, 0, none⟩)
/-- The blocks of a node. -/
structure NdO where
  ser : Nat
  N : Nat
  slw : Nat
  clk : Nat
  tmp : Nat
  tab : Nat
  sen : Nat
  rel : Nat
  htm : Nat
  htb : Nat
  hq : Nat
  hst : Nat
  quo : Nat
  rom : Nat
  rol : Nat
  jn : Nat
  vws : Nat
  lg : Nat
  pim : Nat
  pie : Nat
/-- They rise. -/
structure NdO.Ord (b : NdO) (lo hi : Nat) : Prop where
  o0 : lo ≤ b.ser
  o1 : b.ser < b.N
  o2 : b.N < b.slw
  o3 : b.slw < b.clk
  o4 : b.clk < b.tmp
  o5 : b.tmp < b.tab
  o6 : b.tab < b.sen
  o7 : b.sen < b.rel
  o8 : b.rel < b.htm
  o9 : b.htm < b.htb
  o10 : b.htb < b.hq
  o11 : b.hq < b.hst
  o12 : b.hst < b.quo
  o13 : b.quo < b.rom
  o14 : b.rom < b.rol
  o15 : b.rol < b.jn
  o16 : b.jn < b.vws
  o17 : b.vws < b.lg
  o18 : b.lg < b.pim
  o19 : b.pim < b.pie
  o20 : b.pie < hi
/-- What a node's block holds. -/
structure NV where
  id : Int
  near : Nat
  hard : Int
  rnd : Value
  sent : Bool
  stamp : Int
  wait : Int
  last : Nat
  view : Int
  att : Int
  floor : Int
  base : List Value
  known : Bool
  frm : Int
  counts : List Int
  events : Value
def ndA (b : NdO) (c : Cn) (x : NV) : List Value := c.cells none 0 0 ++ (bCells c ++ [.int .i64 x.id, .int .u64 (x.near : Int), .int .i64 (perEvery c.attend), .int .i64 (perDelta (bDelta c)), pB b.ser, .int .i64 x.hard, pB b.clk, x.rnd, .bool x.sent, .int .i64 x.stamp, .int .i64 x.wait, pB b.rel, pB b.hst, pB b.quo, pB b.rol, pB b.jn, pB b.vws, .int .u64 (x.last : Int), .int .i64 x.view, .int .i64 x.att, .int .i64 x.floor, pB b.lg])
def ndB (b : NdO) (x : NV) : List Value := [.bool x.known, .int .i64 x.frm, pB b.pie]
def ndCell (b : NdO) (c : Cn) (x : NV) (o : Nat) : Option Value :=
  if o < 51 then (ndA b c x)[o]? else if o < 117 then x.base[o - 51]? else if o < 120 then (ndB b x)[o - 117]? else if o < 140 then (x.counts[o - 120]?).map fun (k : Int) => Value.int .i64 k else if o = 140 then some x.events else none
def ndL (b : NdO) (c : Cn) (x : NV) : List Value := ndA b c x ++ (x.base ++ (ndB b x ++ ((x.counts.map fun (k : Int) => Value.int .i64 k) ++ [x.events])))
theorem ndA_len (b : NdO) (c : Cn) (x : NV) : (ndA b c x).length = 51 := by simp [ndA]
theorem ndL_cell {b : NdO} {c : Cn} {x : NV} (hb : x.base.length = 66) (hc : x.counts.length = 20) {o : Nat} {v : Value} (h : ndCell b c x o = some v) : (ndL b c x)[o]? = some v := by
  have hA := ndA_len b c x
  unfold ndCell at h
  unfold ndL
  split at h
  · rw [List.getElem?_append_left (by omega)]; exact h
  · rw [List.getElem?_append_right (by omega), hA]
    split at h
    · rw [List.getElem?_append_left (by omega)]; exact h
    · rw [List.getElem?_append_right (by omega), hb, show o - 51 - 66 = o - 117 by omega]
      split at h
      · rw [List.getElem?_append_left (by simp [ndB]; omega)]; exact h
      · rw [List.getElem?_append_right (by simp [ndB]; omega), show (ndB b x).length = 3 from rfl, show o - 117 - 3 = o - 120 by omega]
        split at h
        · rw [List.getElem?_append_left (by simp; omega), List.getElem?_map]; exact h
        · split at h
          · rename_i ho
            subst ho
            rw [List.getElem?_append_right (by simp; omega)]
            simpa [hc] using h
          · cases h
theorem cell_sm {w w' : World} {b o : Nat} (h : w'.heap[b]? = w.heap[b]?) : w'.cell? ⟨b, o, none⟩ = w.cell? ⟨b, o, none⟩ := by
  simp only [World.cell?, h]
theorem frozen_sm {w w' : World} {b o : Nat} (h : w'.heap[b]? = w.heap[b]?) : w'.frozen? ⟨b, o, none⟩ = w.frozen? ⟨b, o, none⟩ := by
  simp only [World.frozen?, h]
/-- A node's block. -/
structure NdBox (w : World) (b : NdO) (c : Cn) (x : NV) : Prop where
  cell : ∀ o v, ndCell b c x o = some v → w.cell? ⟨b.N, o, none⟩ = some v
  fz : ∀ o, o < 141 → w.frozen? ⟨b.N, o, none⟩ = false
theorem NdBox.of {w : World} {b : NdO} {c : Cn} {x : NV} {L : List Value} (h : BoxF w b.N L) (hL : L = ndL b c x) (hb : x.base.length = 66) (hc : x.counts.length = 20) : NdBox w b c x := by
  subst hL
  exact ⟨fun o v hv => h.1 o v (ndL_cell hb hc hv), fun o ho => h.2 o (by simp [ndL, ndA, ndB, hb, hc]; omega)⟩
theorem NdBox.lt {w : World} {b : NdO} {c : Cn} {x : NV} (h : NdBox w b c x) : b.N < w.heap.size := World.block_lt_of_cell? _ _ (h.cell 0 _ rfl)
theorem NdBox.kept {w w' : World} {b : NdO} {c : Cn} {x : NV} (h : NdBox w b c x) (hb : w'.heap[b.N]? = w.heap[b.N]?) : NdBox w' b c x :=
  ⟨fun o v hv => (cell_sm hb).trans (h.cell o v hv), fun o ho => (frozen_sm hb).trans (h.fz o ho)⟩
theorem NdBox.keep {w w' : World} {b : NdO} {c : Cn} {x : NV} (h : NdBox w b c x) (hb : Below w.heap.size w w') : NdBox w' b c x := h.kept (hb.block b.N h.lt)
theorem NdBox.put {w : World} {b : NdO} {c : Cn} {x x' : NV} (h : NdBox w b c x) (k : Nat) (v : Value) (hk : ∃ u, ndCell b c x k = some u) (h1 : ndCell b c x' k = some v) (h2 : ∀ o, o ≠ k → ndCell b c x' o = ndCell b c x o) : NdBox (w.setCell ⟨b.N, k, none⟩ v) b c x' := by
  refine ⟨fun o u hu => ?_, fun o ho => by simpa using h.fz o ho⟩
  by_cases e : o = k
  · subst e
    rw [h1] at hu
    injection hu with hu
    subst hu
    obtain ⟨u0, hk⟩ := hk
    exact World.cell?_setCell_same _ _ _ (h.cell o _ hk)
  · rw [h2 o e] at hu
    rw [World.cell?_setCell_other _ _ _ _ (fun h => e (by injection h with _ h2 _; first | exact h2 | exact h2.symm))]
    exact h.cell o u hu
/-- A store into the first part. -/
theorem NdBox.putA {w : World} {b : NdO} {c : Cn} {x x' : NV} (h : NdBox w b c x) (k : Nat) (v : Value) (hk : k < 51) (h1 : ndA b c x' = (ndA b c x).set k v) (hb : x'.base = x.base) (hB : ndB b x' = ndB b x) (hc : x'.counts = x.counts) (he : x'.events = x.events) : NdBox (w.setCell ⟨b.N, k, none⟩ v) b c x' := by
  have hl : k < (ndA b c x).length := by rw [ndA_len]; exact hk
  refine h.put k v ⟨(ndA b c x)[k], ?_⟩ ?_ ?_
  · unfold ndCell; rw [if_pos hk, List.getElem?_eq_getElem hl]
  · unfold ndCell; rw [if_pos hk, h1, List.getElem?_set_self hl]
  · intro o ho
    unfold ndCell
    rw [h1, hb, hB, hc, he, List.getElem?_set_ne (Ne.symm ho)]
/-- A store into the second part. -/
theorem NdBox.putB {w : World} {b : NdO} {c : Cn} {x x' : NV} (h : NdBox w b c x) (k : Nat) (v : Value) (hk : k < 3) (h1 : ndB b x' = (ndB b x).set k v) (hb : x'.base = x.base) (hA : ndA b c x' = ndA b c x) (hc : x'.counts = x.counts) (he : x'.events = x.events) : NdBox (w.setCell ⟨b.N, 117 + k, none⟩ v) b c x' := by
  have hl : k < (ndB b x).length := hk
  have e0 : ¬ 117 + k < 51 := by omega
  have e1 : ¬ 117 + k < 117 := by omega
  have e2 : 117 + k < 120 := by omega
  refine h.put (117 + k) v ⟨(ndB b x)[k], ?_⟩ ?_ ?_
  · unfold ndCell; rw [if_neg e0, if_neg e1, if_pos e2, Nat.add_sub_cancel_left, List.getElem?_eq_getElem hl]
  · unfold ndCell; rw [if_neg e0, if_neg e1, if_pos e2, Nat.add_sub_cancel_left, h1, List.getElem?_set_self hl]
  · intro o ho
    unfold ndCell
    rw [h1, hb, hA, hc, he]
    split
    · rfl
    · split
      · rfl
      · rw [List.getElem?_set_ne (by omega)]
/-- What a node's small objects hold, as numbers. -/
structure NS where
  seq : Int
  left : Int
  ph : Int
  at_ : Int
  js : Int
  jf : Int
  jc : Int
  vw : Value
def bnOf (c : Cn) : Bn := ⟨bHops c, bFast c, bSlow c, bLink c, bRead c, bAgree c, bStart c, bEps c, bMost c, bCold c, bRough c, bDelta c, bDown c, bJoin c⟩
/-- How a node stands that keeps nothing of messages. -/
structure NodeAt (w : World) (lo : Nat) (b : NdO) (c : Cn) (x : NV) (s : NS) : Prop where
  box : NdBox w b c x
  ser : BoxF w b.ser [.int .u64 s.seq]
  slw : BoxF w b.slw [.int .i64 s.left, .int .i64 (clampI c.slew 1 256)]
  clk : BoxF w b.clk [pB b.slw, .int .i64 s.ph, .int .i64 s.at_, .int .i64 c.slew]
  tmp : NoMap w b.tmp
  tab : BoxF w b.tab [.slice none 0 0, .map (some b.tmp), .int .i64 (min (max c.seen 0) 65536)]
  sen : BoxF w b.sen [pB b.tab]
  rel : BoxF w b.rel (pB b.sen :: .int .i64 x.id :: .int .i64 c.n :: bCells c)
  htm : NoMap w b.htm
  htb : BoxF w b.htb [.slice none 0 0, .map (some b.htm), .int .i64 (min (max c.hist 0) 65536)]
  hq : NoMap w b.hq
  hst : BoxF w b.hst [pB b.htb, .map (some b.hq), .int .i64 (clampI (bDelta c) 0 1152921504606846976), .int .i64 0, .int .i64 0, .int .u32 0, .bool false]
  quo : BoxF w b.quo [.int .i64 (min (max c.quota 0) 65536), .int .i64 (min (max c.body 0) 1024), .int .i64 0]
  rom : NoMap w b.rom
  rol : BoxF w b.rol [.map (some b.rom), .int .i64 (min (max c.seen 0) 65536)]
  jn : BoxF w b.jn [.int .i64 s.js, .int .i64 s.jf, .int .i64 s.jc]
  vws : BoxF w b.vws [s.vw]
  lg : BoxF w b.lg [.slice none 0 0]
  pim : NoMap w b.pim
  pie : BoxF w b.pie [.int .i64 x.id, .int .i64 0, .int .i64 0, .map (some b.pim)]
  ord : b.Ord lo w.heap.size
theorem BoxF.same {w w' : World} {B : Nat} {cs : List Value} (h : BoxF w B cs) (hb : w'.heap[B]? = w.heap[B]?) : BoxF w' B cs :=
  ⟨fun o v hv => (cell_sm hb).trans (h.1 o v hv), fun o ho => (frozen_sm hb).trans (h.2 o ho)⟩
theorem NoMap.same {w w' : World} {m : Nat} (h : NoMap w m) (hb : w'.heap[m]? = w.heap[m]?) : NoMap w' m := by
  unfold NoMap
  rw [hb]
  exact h
theorem NdO.Ord.mono {b : NdO} {lo hi hi' : Nat} (h : b.Ord lo hi) (hh : hi ≤ hi') : b.Ord lo hi' := { h with o20 := Nat.lt_of_lt_of_le h.o20 hh }
theorem NodeAt.kept {w w' : World} {lo : Nat} {b : NdO} {c : Cn} {x : NV} {s : NS} (h : NodeAt w lo b c x s) (hs : w.heap.size ≤ w'.heap.size) (hb : ∀ k, lo ≤ k → k ≤ b.pie → w'.heap[k]? = w.heap[k]?) : NodeAt w' lo b c x s := by
  obtain ⟨o0, o1, o2, o3, o4, o5, o6, o7, o8, o9, o10, o11, o12, o13, o14, o15, o16, o17, o18, o19, o20⟩ := h.ord
  exact ⟨h.box.kept (hb _ (by omega) (by omega)), h.ser.same (hb _ (by omega) (by omega)), h.slw.same (hb _ (by omega) (by omega)), h.clk.same (hb _ (by omega) (by omega)), h.tmp.same (hb _ (by omega) (by omega)), h.tab.same (hb _ (by omega) (by omega)), h.sen.same (hb _ (by omega) (by omega)), h.rel.same (hb _ (by omega) (by omega)), h.htm.same (hb _ (by omega) (by omega)), h.htb.same (hb _ (by omega) (by omega)), h.hq.same (hb _ (by omega) (by omega)), h.hst.same (hb _ (by omega) (by omega)), h.quo.same (hb _ (by omega) (by omega)), h.rom.same (hb _ (by omega) (by omega)), h.rol.same (hb _ (by omega) (by omega)), h.jn.same (hb _ (by omega) (by omega)), h.vws.same (hb _ (by omega) (by omega)), h.lg.same (hb _ (by omega) (by omega)), h.pim.same (hb _ (by omega) (by omega)), h.pie.same (hb _ (by omega) (by omega)), h.ord.mono hs⟩
theorem NodeAt.keep {w w' : World} {lo : Nat} {b : NdO} {c : Cn} {x : NV} {s : NS} (h : NodeAt w lo b c x s) (hb : Below w.heap.size w w') : NodeAt w' lo b c x s :=
  h.kept hb.size (fun k _ h2 => hb.block k (by have := h.ord.o20; omega))
end Go.Proofs.YteahiphmhaedpaaGreatDoor
