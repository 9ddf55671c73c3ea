/- graph.New: a graph out of its links, or what is wrong with them. -/
import Derived.Test.YteahiphmhaedpaaGreatDoorGrM
import Derived.Test.YteahiphmhaedpaaGreatDoorBase
import Derived.Lib.Builder
import Derived.Deep.OwnRows
namespace Go.Proofs.YteahiphmhaedpaaGreatDoor
open Go.RowKit Law
open Go.ChangeMaps (setBlock)
set_option linter.unusedVariables false
set_option linter.unusedSimpArgs false
set_option maxRecDepth 100000

/-- A slice of links as it lies. -/
def LinksAt (w : World) (A : Option Addr) (L : List Pr) : Prop :=
  ∀ (k : Nat) (e : Pr), L[k]? = some e → ∃ b off, A = some ⟨b, off, none⟩ ∧ b < w.heap.size ∧ ∀ j v, (Pr.cells e)[j]? = some v → w.cell? ⟨b, off + k * 2 + j, none⟩ = some v
theorem LinksAt.below {w w' : World} {A : Option Addr} {L : List Pr} (h : LinksAt w A L) (hb : Below w.heap.size w w') : LinksAt w' A L := fun k e he => by
  obtain ⟨b, off, rfl, hlt, hc⟩ := h k e he
  exact ⟨b, off, rfl, Nat.lt_of_lt_of_le hlt hb.size, fun j v hv => by rw [hb.cell (p := ⟨b, off + k * 2 + j, none⟩) hlt]; exact hc j v hv⟩
theorem LinksAt.take {w : World} {A : Option Addr} {L : List Pr} (h : LinksAt w A L) (n : Nat) : LinksAt w A (L.take n) := fun k e he => h k e (by
  rw [List.getElem?_take] at he
  split at he
  · exact he
  · cases he)
theorem LinksAt.at_ {w wr : World} {A : Option Addr} {L : List Pr} (h : LinksAt w A L) (hb : Below w.heap.size w wr) {k : Nat} (hk : k < L.length) :
    ∃ b off, A = some ⟨b, off, none⟩ ∧ wr.cell? ⟨b, off + k * 2, none⟩ = some (.int .i64 L[k].1) ∧ wr.cell? ⟨b, off + k * 2 + 1, none⟩ = some (.int .i64 L[k].2) := by
  obtain ⟨b, off, rfl, hlt, hc⟩ := (h.below hb) k L[k] (List.getElem?_eq_getElem hk)
  exact ⟨b, off, rfl, hc 0 _ rfl, hc 1 _ rfl⟩

/-! ### what it computes -/
def nrm (l : Pr) : Pr := (min l.1 l.2, max l.1 l.2)
def errS (n : Nat) : List Pr → List Pr → Nat
  | _, [] => 0
  | P, l :: r => if (nodeB n l.1 && nodeB n l.2) = false then 8 else if l.1 = l.2 then 5 else if adjB P l.1 l.2 = true then 12 else errS n (P ++ [l]) r
def gErr (n : Int) (L : List Pr) : Nat := if n < 1 ∨ n > 64 then 1 else errS n.toNat [] L
def nearL (n : Nat) (L : List Pr) : List Nat := L.foldl (fun near l => joinL near (nrm l).1.toNat (nrm l).2.toNat) (List.replicate n 0)
theorem nearL_len (n : Nat) (L : List Pr) : (nearL n L).length = n := by
  unfold nearL
  generalize hx : List.replicate n 0 = x
  have hl : x.length = n := by rw [← hx]; simp
  clear hx
  induction L generalizing x with
  | nil => exact hl
  | cons l r ih => exact ih _ (by rw [joinL_len]; exact hl)
theorem nearL_snoc (n : Nat) (L : List Pr) (l : Pr) : nearL n (L ++ [l]) = joinL (nearL n L) (nrm l).1.toNat (nrm l).2.toNat := by
  unfold nearL; rw [List.foldl_append]; rfl
theorem errS_step (n : Nat) {L : List Pr} {k : Nat} (hk : k < L.length) : errS n (L.take k) (L.drop k) = if (nodeB n L[k].1 && nodeB n L[k].2) = false then 8 else if L[k].1 = L[k].2 then 5 else if adjB (L.take k) L[k].1 L[k].2 = true then 12 else errS n (L.take (k + 1)) (L.drop (k + 1)) := by
  rw [List.drop_eq_getElem_cons hk]
  show (if _ then _ else _) = _
  rw [List.take_succ_eq_append_getElem hk]
theorem nrm_node (n : Nat) (l : Pr) : (nodeB n (nrm l).1 && nodeB n (nrm l).2) = (nodeB n l.1 && nodeB n l.2) := by
  obtain ⟨a, b⟩ := l
  unfold nodeB nrm
  rw [Bool.eq_iff_iff]
  simp only [Bool.and_eq_true, decide_eq_true_eq]
  omega
theorem nrm_same (l : Pr) : (nrm l).1 = (nrm l).2 ↔ l.1 = l.2 := by
  obtain ⟨a, b⟩ := l
  unfold nrm
  simp only
  omega
theorem nrm_mem (P : List Pr) (l : Pr) : nrm l ∈ P.map nrm ↔ adjB P l.1 l.2 = true := by
  unfold adjB
  rw [List.mem_map, List.any_eq_true]
  constructor
  · rintro ⟨x, hx, he⟩
    refine ⟨x, hx, ?_⟩
    obtain ⟨a, b⟩ := l
    obtain ⟨c, d⟩ := x
    unfold nrm at he
    injection he with h1 h2
    simp only [Bool.or_eq_true, Bool.and_eq_true, beq_iff_eq]
    simp only at h1 h2
    omega
  · rintro ⟨x, hx, he⟩
    refine ⟨x, hx, ?_⟩
    obtain ⟨a, b⟩ := l
    obtain ⟨c, d⟩ := x
    simp only [Bool.or_eq_true, Bool.and_eq_true, beq_iff_eq] at he
    unfold nrm
    rcases he with ⟨rfl, rfl⟩ | ⟨rfl, rfl⟩
    · rfl
    · simp only [Prod.mk.injEq]; omega
theorem GrAt.kept {w w' : World} {G R : Nat} {near : List Nat} (h : GrAt w G R near) (hG : w'.heap[G]? = w.heap[G]?) (hR : w'.heap[R]? = w.heap[R]?) : GrAt w' G R near := by
  refine ⟨⟨fun j v hj => ?_, fun j hj => ?_⟩, ⟨fun j v hj => ?_, fun j hj => ?_⟩, h.lt, h.ne, h.le⟩
  · rw [World.cell?_of_block (w := w) (w' := w') (a := ⟨G, j, none⟩) hG]; exact h.box.1 j v hj
  · rw [World.frozen?_of_block (w := w) (w' := w') (a := ⟨G, j, none⟩) hG]; exact h.box.2 j hj
  · rw [World.cell?_of_block (w := w) (w' := w') (a := ⟨R, j, none⟩) hR]; exact h.row.1 j v hj
  · rw [World.frozen?_of_block (w := w) (w' := w') (a := ⟨R, j, none⟩) hR]; exact h.row.2 j hj
theorem make_map (W : World) : (Instr.makeMap 206 none).run Tryz.prog W = .ok (.map (some W.heap.size)) (W.alloc (.map #[] 0)) := by
  simp [Instr.makeMap, newObj, Sem.run]
theorem below_setBlock {B b : Nat} {a w : World} (h : Below B a w) (hb : B ≤ b) (o : Obj) : Below B a (setBlock w b o) :=
  h.trans ⟨rfl, rfl, rfl, by simp [setBlock], fun i hi => by simp [setBlock, Array.getElem?_setIfInBounds]; omega⟩
theorem at_setBlock {w : World} {b : Nat} {o o0 : Obj} (h : w.heap[b]? = some o0) : (setBlock w b o).heap[b]? = some o := by
  have hlt : b < w.heap.size := (Array.getElem?_eq_some_iff.1 h).1
  simp [setBlock, hlt]
theorem at_setBlock_ne {w : World} {b i : Nat} {o : Obj} (h : i ≠ b) : (setBlock w b o).heap[i]? = w.heap[i]? := by
  simp [setBlock, Array.getElem?_setIfInBounds, Ne.symm h]
def NewPost (n : Int) (L : List Pr) (w : World) (e : Ending) (w' : World) : Prop := Below w.heap.size w w' ∧
  (gErr n L = 0 → ∃ G R, e = .returned (.tuple #[.pointer (some ⟨G, 0, none⟩), .int .i64 0]) ∧ GrAt w' G R (nearL n.toNat L) ∧ w.heap.size ≤ G ∧ w.heap.size ≤ R) ∧
  (gErr n L ≠ 0 → e = .returned (.tuple #[.pointer none, .int .i64 (gErr n L : Int)]))
theorem newPost_bad {n : Int} {L : List Pr} {w w' : World} {e : Ending} {x : Nat} (h : gErr n L = x) (hx : x ≠ 0) (he : e = .returned (.tuple #[.pointer none, .int .i64 (x : Int)])) (hb : Below w.heap.size w w') : NewPost n L w e w' :=
  ⟨hb, fun h0 => absurd (h.symm.trans h0) hx, fun _ => by rw [h]; exact he⟩
theorem newPost_ok {n : Int} {L : List Pr} {w w' : World} {e : Ending} {G R : Nat} (h : gErr n L = 0) (he : e = .returned (.tuple #[.pointer (some ⟨G, 0, none⟩), .int .i64 0])) (hb : Below w.heap.size w w') (hg : GrAt w' G R (nearL n.toNat L)) (h1 : w.heap.size ≤ G) (h2 : w.heap.size ≤ R) : NewPost n L w e w' :=
  ⟨hb, fun _ => ⟨G, R, he, hg, h1, h2⟩, fun h0 => absurd h h0⟩
theorem setInfo : (Tryz.prog.info? 69).map (fun i => (i.zero, i.size, i.bytes)) = some (some (.int .u64 0), 1, 8) := by kernel_rfl
theorem made_row (z : Value) (n : Nat) : madeCells #[z] n = (List.replicate n z).toArray := by
  unfold madeCells
  apply Array.ext'
  rw [Array.toList_map]
  apply List.ext_getElem
  · simp
  · intro i h1 h2
    simp [Nat.mod_one]
theorem makeSets (m : Nat) (hm : m ≤ 64) (W : World) : (Instr.makeSlice 203 (.int .i64 (m : Int)) (.int .i64 (m : Int))).run Tryz.prog W = .ok (.slice (some ⟨W.heap.size, 0, none⟩) m m) (W.alloc (.cells (u64V (List.replicate m 0)).toArray 69)) := by
  rw [run_make_row' 203 69 (.int .u64 0) 8 Tryz.underlying203 setInfo rfl .i64 .i64 m (by omega) (by omega) W, made_row]
  simp [u64V]
theorem pr_eq (a b c d : Int) (W : World) : (Op.equalIn 10000 58 (.agg #[.int .i64 a, .int .i64 b]) (.agg #[.int .i64 c, .int .i64 d])).run Tryz.prog W = .ok (a == c && b == d) W := by
  have h := run_eqArr (P := Tryz.prog) 58 2 3 .i64 Tryz.underlying58 Tryz.underlying3 (fun w => Tryz.isAgg3 w) (fun w => Tryz.sizeOf3 w) [a, b] [c, d] rfl rfl W 9998
  refine Eq.trans h ?_
  congr 1
  simp [Bool.and_assoc]
set_option maxHeartbeats 3200000 in
theorem grNew (n : Int) {len : Nat} (A : Option Addr) (c : Nat) (L : List Pr) (hn : L.length = len) (hfit : ∀ l ∈ L, PrF l) (hm : len ≤ 9223372036854775807) (w : World) (hA : LinksAt w A L) :
    Calls Tryz.prog 57 #[.int .i64 n, .slice A len c] w (NewPost n L w) := by
  by_cases h1 : n < 1
  · have HE : Hid (gErr n L = 1) := by unfold Hid gErr; rw [if_pos (.inl h1)]
    go_enter Tryz.func57, Tryz.ntmps57
    go_wp2
    go_ret2
    exact newPost_bad HE.out (by decide) rfl (Below.refl _ _)
  by_cases h2 : n > 64
  · have HE : Hid (gErr n L = 1) := by unfold Hid gErr; rw [if_pos (.inr h2)]
    go_enter Tryz.func57, Tryz.ntmps57
    go_wp2
    go_ret2
    exact newPost_bad HE.out (by decide) rfl (Below.refl _ _)
  obtain ⟨m, rfl⟩ : ∃ m : Nat, n = m := ⟨n.toNat, by omega⟩
  have HE : Hid (gErr (m : Int) L = errS m [] L) := by unfold Hid gErr; rw [if_neg (by omega)]; rfl
  have hm1 : 1 ≤ m := by omega
  have hm64 : m ≤ 64 := by omega
  have HN := Lib.hid hn
  clear hn h1 h2
  go_enter Tryz.func57, Tryz.ntmps57
  have hms := makeSets m hm64
  have hmk := fun W => make_map W
  go_wp2
  clear hms hmk
  go_loopw [24] (fun i wr => ∃ k : Nat, k ≤ len ∧ i = .int .i64 k ∧ errS m (L.take k) (L.drop k) = errS m [] L ∧ GrAt wr (w.heap.size + 1) w.heap.size (nearL m (L.take k)) ∧
    wr.heap[w.heap.size + 1 + 1]? = some (.map (entriesOf ((L.map nrm).take k)).toArray k) ∧ Below w.heap.size w wr) (fun i _ => len - (intOf i).toNat)
  case atStart =>
    have e0 : (u64V (List.replicate m 0)).toArray = Array.replicate m (.int .u64 0) := by simp [u64V]
    have q1 := (boxF_made w (u64V (List.replicate m 0)) 69)
    rw [e0] at q1
    have q2 := boxF_made (w.alloc (.cells (Array.replicate m (.int .u64 0)) 69)) [.slice (some ⟨w.heap.size, 0, none⟩) m m] 205
    rw [World.size_alloc] at q2
    refine ⟨0, Nat.zero_le _, rfl, rfl, ⟨?_, ?_, ?_, by omega, ?_⟩, ?_, ((((Below.refl _ w).alloc (Nat.le_refl _) _).alloc (by simp) _).alloc (by simp only [World.size_alloc]; omega) _)⟩
    · rw [nearL_len]; exact q2.keep ((Below.refl _ _).alloc (Nat.le_refl _) _)
    · exact q1.keep (((Below.refl _ _).alloc (Nat.le_refl _) _).alloc (by simp only [World.size_alloc]; omega) _)
    · intro x hx
      have : x = 0 := by simpa [nearL, List.mem_replicate] using (List.mem_replicate.1 hx).2
      omega
    · rw [nearL_len]; exact hm64
    · have h := (MapKept.heap_alloc ((w.alloc (.cells (Array.replicate m (.int .u64 0)) 69)).alloc (.cells #[.slice (some ⟨w.heap.size, 0, none⟩) m m] 205)) (.map #[] 0)).1
      simpa [entriesOf] using h
  case round =>
    obtain ⟨k, hk, rfl, hsc, hG, hbm, hb⟩ := hrel
    by_cases hlt : k < len
    · have hlt' : k < L.length := by rw [HN.out]; exact hlt
      have hstep := errS_step m hlt'
      have hmemP := nrm_mem (L.take k) L[k]
      rw [List.map_take] at hmemP
      have hnode := nrm_node m L[k]
      have hsame := nrm_same L[k]
      have hfp := hfit L[k] (List.getElem_mem hlt')
      have hsn : nearL m (L.take (k + 1)) = joinL (nearL m (L.take k)) (nrm L[k]).1.toNat (nrm L[k]).2.toNat := by rw [List.take_succ_eq_append_getElem hlt', nearL_snoc]
      have hen : entriesOf ((L.map nrm).take (k + 1)) = entriesOf ((L.map nrm).take k) ++ [⟨Pr.val (nrm L[k]), one, k⟩] := by
        rw [List.take_succ_eq_append_getElem (by rw [List.length_map]; exact hlt'), List.getElem_map, entriesOf_snoc, List.length_take]
        congr 3
        have hlm2 : (L.map nrm).length = L.length := List.length_map ..
        omega
      obtain ⟨b, off, rfl, c0, c1⟩ := hA.at_ hb hlt'
      obtain ⟨⟨p1, p2⟩, hp⟩ : ∃ q, L[k] = q := ⟨_, rfl⟩
      rw [hp] at hstep hmemP hnode hsame hfp hsn hen c0 c1
      simp only [nrm] at hmemP hnode hsame hsn hen c0 c1
      have C1 := fun W => grLink p1 p2 W
      have hfn : PrF (min p1 p2, max p1 p2) := by
        obtain ⟨⟨f1, f2⟩, f3, f4⟩ := hfp
        simp only at f1 f2 f3 f4
        refine ⟨?_, ?_⟩ <;> simp only <;> omega
      obtain ⟨m0, hm0⟩ : ∃ x, min p1 p2 = x := ⟨_, rfl⟩
      obtain ⟨m1, hm1⟩ : ∃ x, max p1 p2 = x := ⟨_, rfl⟩
      rw [hm0, hm1] at hmemP hnode hsame hsn hen hfn
      simp only [hm0, hm1] at C1
      simp only at hstep
      have hlm : w.heap.size + 1 + 1 < wr.heap.size := (Array.getElem?_eq_some_iff.1 hbm).1
      have hfe : ∀ e ∈ entriesOf ((L.map nrm).take k), ∃ x : Pr, PrF x ∧ e.key = Pr.val x := fun e he => by
        obtain ⟨x, hx, hek, _⟩ := entriesOf_mem he
        obtain ⟨y, hy, rfl⟩ := List.mem_map.1 (List.mem_of_mem_take hx)
        have hyf := hfit y hy
        obtain ⟨⟨f1, f2⟩, f3, f4⟩ := hyf
        exact ⟨nrm y, by unfold nrm; refine ⟨?_, ?_⟩ <;> simp only <;> omega, hek⟩
      clear hm0 hm1 hp
      have HC1 := Lib.hid C1
      clear C1
      cases hn0 : nodeB m m0
      · have HX : Hid (gErr (m : Int) L = 8) := by
          unfold Hid; rw [HE.out, ← hsc, hstep, if_pos (by rw [← hnode, hn0]; rfl)]
        clear hsc hstep hnode hsame hmemP hsn hen hfe
        go_wp2_with fail
        refine (HC1.out _).mono ?_
        rintro e W1 ⟨rfl, hq⟩
        have hbW1 : Below wr.heap.size wr W1 := ((Below.refl _ _).alloc (Nat.le_refl _) _).trans (hq.mono (by simp))
        obtain ⟨W2, hW2⟩ : ∃ W2, W1.alloc (.cells #[.int .i64 m0, .int .i64 m1] 58) = W2 := ⟨_, rfl⟩
        have hbW2 : Below wr.heap.size wr W2 := by rw [← hW2]; exact hbW1.alloc hbW1.size _
        have hG2 := hG.keep hbW2
        have hM2 : W2.heap[w.heap.size + 1 + 1]? = some (.map (entriesOf ((L.map nrm).take k)).toArray k) := (hbW2.block _ hlm).trans hbm
        have k0 : W2.cell? ⟨W1.heap.size, 0, none⟩ = some (.int .i64 m0) := by rw [← hW2]; simp
        have k1 : W2.cell? ⟨W1.heap.size, 1, none⟩ = some (.int .i64 m1) := by rw [← hW2]; simp
        have CN0 := grNode m0 hG2
        have CN1 := grNode m1 hG2
        rw [nearL_len] at CN0 CN1
        have hbw := hb.trans (hbW2.mono hb.size)
        have hkl : W1.heap.size < W2.heap.size := by rw [← hW2]; simp
        have hlt1 : wr.heap.size ≤ W1.heap.size := hbW1.size
        clear hq hbW1
        rw [hn0] at CN0
        have HCN0 := Lib.hid CN0
        have HB := Lib.hid hbw
        clear CN0 CN1 hM2 hG2 hbW2 hbw hbm hG hb
        go_wp2_with fail
        refine HCN0.out.mono ?_
        rintro e w' ⟨rfl, rfl⟩
        go_wp2
        go_ret2
        exact newPost_bad HX.out (by decide) rfl HB.out
      cases hn1 : nodeB m m1
      · have HX : Hid (gErr (m : Int) L = 8) := by
          unfold Hid; rw [HE.out, ← hsc, hstep, if_pos (by rw [← hnode, hn0, hn1]; rfl)]
        clear hsc hstep hnode hsame hmemP hsn hen hfe
        go_wp2_with fail
        refine (HC1.out _).mono ?_
        rintro e W1 ⟨rfl, hq⟩
        have hbW1 : Below wr.heap.size wr W1 := ((Below.refl _ _).alloc (Nat.le_refl _) _).trans (hq.mono (by simp))
        obtain ⟨W2, hW2⟩ : ∃ W2, W1.alloc (.cells #[.int .i64 m0, .int .i64 m1] 58) = W2 := ⟨_, rfl⟩
        have hbW2 : Below wr.heap.size wr W2 := by rw [← hW2]; exact hbW1.alloc hbW1.size _
        have hG2 := hG.keep hbW2
        have hM2 : W2.heap[w.heap.size + 1 + 1]? = some (.map (entriesOf ((L.map nrm).take k)).toArray k) := (hbW2.block _ hlm).trans hbm
        have k0 : W2.cell? ⟨W1.heap.size, 0, none⟩ = some (.int .i64 m0) := by rw [← hW2]; simp
        have k1 : W2.cell? ⟨W1.heap.size, 1, none⟩ = some (.int .i64 m1) := by rw [← hW2]; simp
        have CN0 := grNode m0 hG2
        have CN1 := grNode m1 hG2
        rw [nearL_len] at CN0 CN1
        have hbw := hb.trans (hbW2.mono hb.size)
        have hkl : W1.heap.size < W2.heap.size := by rw [← hW2]; simp
        have hlt1 : wr.heap.size ≤ W1.heap.size := hbW1.size
        clear hq hbW1
        rw [hn0] at CN0
        rw [hn1] at CN1
        have HCN0 := Lib.hid CN0
        have HCN1 := Lib.hid CN1
        have HB := Lib.hid hbw
        clear CN0 CN1 hM2 hG2 hbW2 hbw hbm hG hb
        go_wp2_with fail
        refine HCN0.out.mono ?_
        rintro e w' ⟨rfl, rfl⟩
        go_wp2_with fail
        refine HCN1.out.mono ?_
        rintro e w' ⟨rfl, rfl⟩
        go_wp2
        go_ret2
        exact newPost_bad HX.out (by decide) rfl HB.out
      by_cases hs : m0 = m1
      · have HX : Hid (gErr (m : Int) L = 5) := by
          unfold Hid; rw [HE.out, ← hsc, hstep, if_neg (by rw [← hnode, hn0, hn1]; decide), if_pos (hsame.1 hs)]
        subst hs
        have hsq : (m0 == m0 && m0 == m0) = true := by simp
        clear hsc hstep hnode hsame hmemP hsn hen hfe
        go_wp2_with fail
        refine (HC1.out _).mono ?_
        rintro e W1 ⟨rfl, hq⟩
        have hbW1 : Below wr.heap.size wr W1 := ((Below.refl _ _).alloc (Nat.le_refl _) _).trans (hq.mono (by simp))
        obtain ⟨W2, hW2⟩ : ∃ W2, W1.alloc (.cells #[.int .i64 m0, .int .i64 m0] 58) = W2 := ⟨_, rfl⟩
        have hbW2 : Below wr.heap.size wr W2 := by rw [← hW2]; exact hbW1.alloc hbW1.size _
        have hG2 := hG.keep hbW2
        have hM2 : W2.heap[w.heap.size + 1 + 1]? = some (.map (entriesOf ((L.map nrm).take k)).toArray k) := (hbW2.block _ hlm).trans hbm
        have k0 : W2.cell? ⟨W1.heap.size, 0, none⟩ = some (.int .i64 m0) := by rw [← hW2]; simp
        have k1 : W2.cell? ⟨W1.heap.size, 1, none⟩ = some (.int .i64 m0) := by rw [← hW2]; simp
        have CN0 := grNode m0 hG2
        have CN1 := grNode m0 hG2
        rw [nearL_len] at CN0 CN1
        have hbw := hb.trans (hbW2.mono hb.size)
        have hkl : W1.heap.size < W2.heap.size := by rw [← hW2]; simp
        have hlt1 : wr.heap.size ≤ W1.heap.size := hbW1.size
        clear hq hbW1
        rw [hn0] at CN0
        rw [hn0] at CN1
        have HCN0 := Lib.hid CN0
        have HCN1 := Lib.hid CN1
        have hpe : ∀ W, _ := fun W => pr_eq m0 m0 m0 m0 W
        simp only [hsq] at hpe
        have HB := Lib.hid hbw
        clear CN0 CN1 hM2 hG2 hbW2 hbw hbm hG hb
        go_wp2_with fail
        refine HCN0.out.mono ?_
        rintro e w' ⟨rfl, rfl⟩
        go_wp2_with fail
        refine HCN1.out.mono ?_
        rintro e w' ⟨rfl, rfl⟩
        go_wp2
        go_ret2
        exact newPost_bad HX.out (by decide) rfl HB.out
      have hsq : (m0 == m1 && m1 == m0) = false := by rw [beq_eq_false_iff_ne.2 hs]; rfl
      by_cases hin : adjB (L.take k) p1 p2 = true
      · have HX : Hid (gErr (m : Int) L = 12) := by
          unfold Hid; rw [HE.out, ← hsc, hstep, if_neg (by rw [← hnode, hn0, hn1]; decide), if_neg (fun e => hs (hsame.2 e)), if_pos hin]
        obtain ⟨e0, he0, hek0⟩ := entriesOf_has (hmemP.2 hin)
        have hlk := fun (W : World) (hW : W.heap[w.heap.size + 1 + 1]? = some (.map (entriesOf ((L.map nrm).take k)).toArray k)) => look_val hW hfe (m0, m1) hfn (.int .i64 1) (fun e he hek => by
          obtain ⟨x, hx, _, hv, _⟩ := entriesOf_mem he
          exact hv) (.inr ⟨e0, he0, hek0⟩)
        clear hsc hstep hnode hsame hmemP hsn hen hfe
        go_wp2_with fail
        refine (HC1.out _).mono ?_
        rintro e W1 ⟨rfl, hq⟩
        have hbW1 : Below wr.heap.size wr W1 := ((Below.refl _ _).alloc (Nat.le_refl _) _).trans (hq.mono (by simp))
        obtain ⟨W2, hW2⟩ : ∃ W2, W1.alloc (.cells #[.int .i64 m0, .int .i64 m1] 58) = W2 := ⟨_, rfl⟩
        have hbW2 : Below wr.heap.size wr W2 := by rw [← hW2]; exact hbW1.alloc hbW1.size _
        have hG2 := hG.keep hbW2
        have hM2 : W2.heap[w.heap.size + 1 + 1]? = some (.map (entriesOf ((L.map nrm).take k)).toArray k) := (hbW2.block _ hlm).trans hbm
        have k0 : W2.cell? ⟨W1.heap.size, 0, none⟩ = some (.int .i64 m0) := by rw [← hW2]; simp
        have k1 : W2.cell? ⟨W1.heap.size, 1, none⟩ = some (.int .i64 m1) := by rw [← hW2]; simp
        have CN0 := grNode m0 hG2
        have CN1 := grNode m1 hG2
        rw [nearL_len] at CN0 CN1
        have hbw := hb.trans (hbW2.mono hb.size)
        have hkl : W1.heap.size < W2.heap.size := by rw [← hW2]; simp
        have hlt1 : wr.heap.size ≤ W1.heap.size := hbW1.size
        clear hq hbW1
        rw [hn0] at CN0
        rw [hn1] at CN1
        have HCN0 := Lib.hid CN0
        have HCN1 := Lib.hid CN1
        have hpe : ∀ W, _ := fun W => pr_eq m0 m1 m1 m0 W
        simp only [hsq] at hpe
        have HB := Lib.hid hbw
        have hlook := hlk W2 hM2
        clear CN0 CN1 hM2 hG2 hbW2 hbw hbm hG hb hlk hek0 he0
        go_wp2_with fail
        refine HCN0.out.mono ?_
        rintro e w' ⟨rfl, rfl⟩
        go_wp2_with fail
        refine HCN1.out.mono ?_
        rintro e w' ⟨rfl, rfl⟩
        go_wp2
        go_ret2
        exact newPost_bad HX.out (by decide) rfl HB.out
      have hin' : adjB (L.take k) p1 p2 = false := by simpa using hin
      obtain ⟨a, rfl⟩ : ∃ a : Nat, m0 = a := ⟨m0.toNat, by unfold nodeB at hn0; simp at hn0; omega⟩
      obtain ⟨b', rfl⟩ : ∃ a : Nat, m1 = a := ⟨m1.toNat, by unfold nodeB at hn1; simp at hn1; omega⟩
      have ham : a < m := by unfold nodeB at hn0; simp at hn0; omega
      have hbm' : b' < m := by unfold nodeB at hn1; simp at hn1; omega
      have HSC : Hid (errS m (L.take (k + 1)) (L.drop (k + 1)) = errS m [] L) := by
        unfold Hid; rw [← hsc, hstep, if_neg (by rw [← hnode, hn0, hn1]; decide), if_neg (fun e => hs (hsame.2 e)), if_neg hin]
      have hno : ∀ e ∈ entriesOf ((L.map nrm).take k), e.key ≠ Pr.val ((a : Int), (b' : Int)) := fun e he hek => by
        obtain ⟨x, hx, hex, _⟩ := entriesOf_mem he
        have h1 := val_inj.1 (hex.symm.trans hek)
        subst h1
        exact hin (hmemP.1 hx)
      have HEN := Lib.hid hen
      have HNL := Lib.hid hsn
      rw [Int.toNat_natCast, Int.toNat_natCast] at HNL
      clear hsc hstep hnode hsame hmemP hsn hen hin
      have hlk := fun (W : World) (hW : W.heap[w.heap.size + 1 + 1]? = some (.map (entriesOf ((L.map nrm).take k)).toArray k)) => look_val hW hfe ((a : Int), (b' : Int)) hfn (.int .i64 0) (fun e he hek => absurd hek (hno e he)) (.inl rfl)
      have hen1 := fun (W : World) (hW : W.heap[w.heap.size + 1 + 1]? = some (.map (entriesOf ((L.map nrm).take k)).toArray k)) => entry_new hW hfe ((a : Int), (b' : Int)) hfn hno
      have hsb : ∀ W : World, W.heap[w.heap.size + 1 + 1]? = some (.map (entriesOf ((L.map nrm).take k)).toArray k) → (setBlock W (w.heap.size + 1 + 1) (.map ((entriesOf ((L.map nrm).take k)).toArray.push ⟨Pr.val ((a : Int), (b' : Int)), .int .i64 0, k⟩) (k + 1))).heap[w.heap.size + 1 + 1]? = some (.map ((entriesOf ((L.map nrm).take k)).toArray.push ⟨Pr.val ((a : Int), (b' : Int)), .int .i64 0, k⟩) (k + 1)) := fun W hW => at_setBlock hW
      have hst := fun (W : World) (hW : W.heap[w.heap.size + 1 + 1]? = some (.map ((entriesOf ((L.map nrm).take k)).toArray.push ⟨Pr.val ((a : Int), (b' : Int)), .int .i64 0, k⟩) (k + 1))) => store_new hW (fun e he => by
          obtain ⟨x, hx, _, _, hbn⟩ := entriesOf_mem he
          have := List.length_take_le k (L.map nrm)
          omega) (entriesOf_nodup _) (.int .i64 1)
      have hlk2 := fun (W : World) (hW : W.heap[w.heap.size + 1 + 1]? = some (.map ((entriesOf ((L.map nrm).take k)).toArray.push ⟨Pr.val ((a : Int), (b' : Int)), .int .i64 0, k⟩) (k + 1))) => look_val (es := entriesOf ((L.map nrm).take k) ++ [⟨Pr.val ((a : Int), (b' : Int)), .int .i64 0, k⟩]) (by rw [List.push_toArray] at hW; exact hW) (fun e he => by
          rcases List.mem_append.1 he with he | he
          · exact hfe e he
          · simp at he; subst he; exact ⟨((a : Int), (b' : Int)), hfn, rfl⟩) ((a : Int), (b' : Int)) hfn (.int .i64 0) (fun e he hek => by
          rcases List.mem_append.1 he with he | he
          · exact absurd hek (hno e he)
          · simp at he; subst he; rfl) (.inl rfl)
      have HH := Lib.hid (And.intro hlk (And.intro hen1 (And.intro hsb (And.intro hst hlk2))))
      clear hlk hen1 hsb hst hlk2 hno hfe hfn
      go_wp2_with fail
      refine (HC1.out _).mono ?_
      rintro e W1 ⟨rfl, hq⟩
      have hbW1 : Below wr.heap.size wr W1 := ((Below.refl _ _).alloc (Nat.le_refl _) _).trans (hq.mono (by simp))
      obtain ⟨W2, hW2⟩ : ∃ W2, W1.alloc (.cells #[.int .i64 (a : Int), .int .i64 (b' : Int)] 58) = W2 := ⟨_, rfl⟩
      have hbW2 : Below wr.heap.size wr W2 := by rw [← hW2]; exact hbW1.alloc hbW1.size _
      have hG2 := hG.keep hbW2
      have hM2 : W2.heap[w.heap.size + 1 + 1]? = some (.map (entriesOf ((L.map nrm).take k)).toArray k) := (hbW2.block _ hlm).trans hbm
      have k0 : W2.cell? ⟨W1.heap.size, 0, none⟩ = some (.int .i64 (a : Int)) := by rw [← hW2]; simp
      have k1 : W2.cell? ⟨W1.heap.size, 1, none⟩ = some (.int .i64 (b' : Int)) := by rw [← hW2]; simp
      have CN0 := grNode (a : Int) hG2
      have CN1 := grNode (b' : Int) hG2
      rw [nearL_len] at CN0 CN1
      have hbw := hb.trans (hbW2.mono hb.size)
      have hkl : W1.heap.size < W2.heap.size := by rw [← hW2]; simp
      have hlt1 : wr.heap.size ≤ W1.heap.size := hbW1.size
      clear hq hbW1
      rw [hn0] at CN0
      rw [hn1] at CN1
      have HCN0 := Lib.hid CN0
      have HCN1 := Lib.hid CN1
      have hpe : ∀ W, _ := fun W => pr_eq (a : Int) (b' : Int) (b' : Int) (a : Int) W
      simp only [hsq] at hpe
      have hM2d : W2.drew.heap[w.heap.size + 1 + 1]? = some (.map (entriesOf ((L.map nrm).take k)).toArray k) := hM2
      have hlook := HH.out.1 W2 hM2
      have hlookd := HH.out.1 W2.drew hM2d
      have hentd := HH.out.2.1 W2.drew hM2d
      have hM3 := HH.out.2.2.1 W2.drew hM2d
      have hstore := HH.out.2.2.2.1 _ hM3
      have hlooks := HH.out.2.2.2.2 _ hM3
      have hM4 := at_setBlock hM3 (o := .map ((entriesOf ((L.map nrm).take k)).toArray.push ⟨Pr.val ((a : Int), (b' : Int)), one, k⟩) (k + 1))
      have hB4 := below_setBlock (below_setBlock hbw.drew (show w.heap.size ≤ w.heap.size + 1 + 1 by omega) (.map ((entriesOf ((L.map nrm).take k)).toArray.push ⟨Pr.val ((a : Int), (b' : Int)), .int .i64 0, k⟩) (k + 1))) (show w.heap.size ≤ w.heap.size + 1 + 1 by omega) (.map ((entriesOf ((L.map nrm).take k)).toArray.push ⟨Pr.val ((a : Int), (b' : Int)), one, k⟩) (k + 1))
      obtain ⟨W4, hW4⟩ : ∃ W4, setBlock (setBlock W2.drew (w.heap.size + 1 + 1) (.map ((entriesOf ((L.map nrm).take k)).toArray.push ⟨Pr.val ((a : Int), (b' : Int)), .int .i64 0, k⟩) (k + 1))) (w.heap.size + 1 + 1) (.map ((entriesOf ((L.map nrm).take k)).toArray.push ⟨Pr.val ((a : Int), (b' : Int)), one, k⟩) (k + 1)) = W4 := ⟨_, rfl⟩
      have hne4 : ∀ i, i ≠ w.heap.size + 1 + 1 → W4.heap[i]? = W2.heap[i]? := fun i hi => by rw [← hW4, at_setBlock_ne hi, at_setBlock_ne hi]; rfl
      have hG4 := hG2.kept (hne4 _ (by omega)) (hne4 _ (by omega))
      have k40 : W4.cell? ⟨W1.heap.size, 0, none⟩ = some (.int .i64 (a : Int)) := by rw [World.cell?_of_block (w := W2) (w' := W4) (a := ⟨W1.heap.size, 0, none⟩) (hne4 _ (by simp only; omega))]; exact k0
      have k41 : W4.cell? ⟨W1.heap.size, 1, none⟩ = some (.int .i64 (b' : Int)) := by rw [World.cell?_of_block (w := W2) (w' := W4) (a := ⟨W1.heap.size, 1, none⟩) (hne4 _ (by simp only; omega))]; exact k1
      rw [hW4] at hM4 hB4
      have CJ := Lib.hid (grJoin a b' (by rw [nearL_len]; exact ham) (by rw [nearL_len]; exact hbm') hG4)
      have HF := Lib.hid (And.intro hM4 hB4)
      clear CN0 CN1 hM2 hG2 hbW2 hbw hbm hG hb hM4 hB4 hM3 hM2d hG4 hne4
      simp only [Pr.val, one, goInt] at hlook hlookd hentd hlooks hstore hW4
      go_wp2_with fail
      refine HCN0.out.mono ?_
      rintro e w' ⟨rfl, rfl⟩
      go_wp2_with fail
      refine HCN1.out.mono ?_
      rintro e w' ⟨rfl, rfl⟩
      go_wp2_with fail
      simp only [List.push_toArray] at hentd hlooks hstore hW4 HF
      go_region
      all_goals
        go_wp2_with fail
        refine CJ.out.mono ?_
        rintro e W5 ⟨⟨v5, rfl⟩, hG5, hgr⟩
        have HF5 := Lib.hid (And.intro hG5 ((hgr.block (w.heap.size + 1 + 1) (Array.getElem?_eq_some_iff.1 HF.out.1).1 (fun e => by injection e with e; omega)).trans HF.out.1))
        have HB5 := Lib.hid (HF.out.2.grown hgr HF.out.2.size (fun k e => by injection e with e; omega))
        clear hG5 hgr
        go_wp2
        go_roundw
        case rel =>
          refine ⟨k + 1, by omega, by go_num, HSC.out, by rw [HNL.out]; exact HF5.out.1, ?_, HB5.out⟩
          rw [HEN.out]
          exact HF5.out.2
        case measure => simp [intOf]; omega
    · have ht : L.take k = L := List.take_of_length_le (by rw [HN.out]; omega)
      have hd : L.drop k = [] := List.drop_eq_nil_of_le (by rw [HN.out]; omega)
      rw [ht] at hG hsc
      rw [hd] at hsc
      have HX : Hid (gErr (m : Int) L = 0) := by unfold Hid; rw [HE.out, ← hsc]; rfl
      have HG := Lib.hid (And.intro hG hb)
      clear hG hb hsc hbm ht hd
      go_wp2
      go_ret2
      exact newPost_ok HX.out rfl HG.out.2 (by rw [Int.toNat_natCast]; exact HG.out.1) (by omega) (Nat.le_refl _)
end Go.Proofs.YteahiphmhaedpaaGreatDoor
