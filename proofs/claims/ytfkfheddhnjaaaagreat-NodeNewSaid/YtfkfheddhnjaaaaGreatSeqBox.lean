/- 'for x := range seq': a closure that keeps what is still to come in a box of its own; the loop's body leaves that box alone. -/
import Derived.RangeFuncNested
import Derived.RangeFuncBound
import Derived.RangeFuncCalls
import Derived.RangeFuncLeaves
namespace Go.Proofs.YtfkfheddhnjaaaaGreat
open Go Go.RowKit
set_option linter.unusedVariables false
set_option linter.unusedSimpArgs false

/-- The box at block B holds u and may be written. -/
def BoxIs (B : Nat) (u : Value) (W : World) : Prop := W.cell? ⟨B, 0, none⟩ = some u ∧ W.frozen? ⟨B, 0, none⟩ = false
/-- A step that turns the box, new blocks, and from B0 on whatever holds no cells. -/
structure Side (B0 B : Nat) (W W' : World) : Prop where
  os : W'.os = W.os
  tape : W'.tape = W.tape
  output : W'.output = W.output
  size : W.heap.size ≤ W'.heap.size
  low : ∀ k, k < W.heap.size → k ≠ B → k < B0 → W'.heap[k]? = W.heap[k]?
  cells : ∀ (k : Nat) (o : Obj), k ≠ B → W.heap[k]? = some o → o.isCells = true → W'.heap[k]? = some o
theorem Side.alloc (B0 B : Nat) (W : World) (o : Obj) : Side B0 B W (W.alloc o) :=
  ⟨rfl, rfl, rfl, by simp, fun k hk _ _ => Below.heap_alloc W o k hk, fun k o' _ hk _ => (Below.heap_alloc W o k (Array.getElem?_eq_some_iff.1 hk).1).trans hk⟩
theorem Side.putObj {B0 B l : Nat} {W : World} {o : Obj} (o' : Obj) (hB : B0 ≤ l) (hl : W.heap[l]? = some o) (ho : o.isCells = false) : Side B0 B W (W.putObj l o') :=
  ⟨rfl, rfl, rfl, by simp, fun k _ _ hk => World.putObj_heap_other (by omega), fun k u _ hk hu => by
    by_cases e : k = l
    · subst e; rw [hl] at hk; cases hk; rw [ho] at hu; cases hu
    · exact (World.putObj_heap_other e).trans hk⟩
theorem Side.setBox (B0 B : Nat) (W : World) (v : Value) : Side B0 B W (W.setCell ⟨B, 0, none⟩ v) :=
  ⟨rfl, rfl, rfl, by show W.heap.size ≤ (W.heap.modify _ _).size; rw [Array.size_modify]; exact Nat.le_refl _,
    fun k _ hne _ => Below.heap_setCell W ⟨B, 0, none⟩ v k hne, fun k o hne hk _ => (Below.heap_setCell W ⟨B, 0, none⟩ v k hne).trans hk⟩
theorem BoxIs.kept {B : Nat} {u : Value} {W W' : World} (h : BoxIs B u W) (hk : W'.heap[B]? = W.heap[B]?) : BoxIs B u W' :=
  ⟨by rw [World.cell?_of_block (w := W) (w' := W') (a := ⟨B, 0, none⟩) hk]; exact h.1, by rw [World.frozen?_of_block (w := W) (w' := W') (a := ⟨B, 0, none⟩) hk]; exact h.2⟩
theorem BoxIs.lt {B : Nat} {u : Value} {W : World} (h : BoxIs B u W) : B < W.heap.size := World.block_lt_of_cell? _ _ h.1

/-- THE ITERATOR's CONTRACT: it gives zs, one after another; its box held u0 when it was called. -/
def SeqBox (P : Program) (gf B : Nat) (u0 : Value) (zs : List Value) (T : World → Prop) : Prop :=
  ∀ (n l : Nat) (J Jx : Nat → World → Prop) (W : World), (∀ k W v, J k W → J k (W.setCell ⟨B, 0, none⟩ v)) → (∀ k W, J k W → T W) →
    (∀ k x W1, J k W1 → zs[k]? = some x → YieldAt Fence.wide (n - 1) P l #[x] W1 fun e W' =>
      (e = .returned (.bool true) ∧ J (k + 1) W' ∧ ∀ u, BoxIs B u W1 → BoxIs B u W') ∨ (e = .returned (.bool false) ∧ Jx (k + 1) W')) →
    J 0 W → BoxIs B u0 W →
    CallsIn Fence.wide n P gf #[.func (.yield l) #[] #[], .pointer (some ⟨B, 0, none⟩)] W fun e W' => (∃ v, e = .returned v) ∧ (J zs.length W' ∨ ∃ k, k < zs.length ∧ Jx (k + 1) W')

/-- How the body of a round may be left. -/
def boxPost (B : Nat) (I : Nat → World → Prop) (Ix : Code → Nat → World → Prop) (k : Nat) (W : World) : Exit → Act → World → Prop
  | .normal, _, W' => KeepsOthers W W' ∧ (∀ u, BoxIs B u W → BoxIs B u W') ∧ I k W'
  | .ret, _, W' => KeepsOthers W W' ∧ Ix .ret k W'
  | .exit id, _, W' => KeepsOthers W W' ∧ Ix (.exit id) k W'
  | .goto t, _, W' => KeepsOthers W W' ∧ Ix (.goto t) k W'
  | .panic _, _, _ => False
  | .outgrown, _, _ => False

theorem wp_rangeBox {P : Program} {n : Nat} {g : Operand} {ps : Array Tmp} {assign body : Code} {Q : Exit → Act → World → Prop} {a : Act} {w : World} {gf B : Nat} {u0 : Value} {zs : List Value} {T : World → Prop}
    (hg : a.eval g = .func (.func gf) #[] #[.pointer (some ⟨B, 0, none⟩)]) (eg : ∀ args w, (callFunc gf args).run P w = .ok (.enter gf args) w)
    (hseq : SeqBox P gf B u0 zs T) (hps : ps.size = 1) (hbox : BoxIs B u0 w)
    (I : Nat → World → Prop) (Ix : Code → Nat → World → Prop) (hI : ∀ k W W', I k W → Side w.heap.size B W W' → I k W') (hIx : ∀ c k W W', Ix c k W → Side w.heap.size B W W' → Ix c k W')
    (hT : ∀ k W, I k W → T W) (h0 : I 0 w) (a₁ : Value → Act)
    (hassign : ∀ (l : Nat) (x : Value) (W : World) (K : Act → World → Prop), K (a₁ x) W →
      assign.wpIn (Fence.wide.inRound l) (n - 1 - 1) P (Exit.then K (fun _ _ _ => False)) { tmps := (ps.zip #[x]).foldl (fun t (p, v) => t.setIfInBounds p v) a.tmps, defers := [] } W)
    (hbody : ∀ (l k : Nat) (x : Value) (W : World), I k W → zs[k]? = some x → B < W.heap.size → body.wpIn (Fence.wide.inRound l) (n - 1 - 1) P (boxPost B I Ix (k + 1) W) (a₁ x) W)
    (hdone : ∀ (D : Nat) (W : World), w.heap.size ≤ D → I zs.length W → W.heap[D]? = some (.deferred (some [])) → Q .normal { a with defers := { target := .collected D, args := #[] } :: a.defers } W)
    (hstop : ∀ (D : Nat) (c : Code) (k : Nat) (W : World), w.heap.size ≤ D → k < zs.length → Ix c (k + 1) W → W.heap[D]? = some (.deferred (some [])) → c.wpIn Fence.wide n P Q { a with defers := { target := .collected D, args := #[] } :: a.defers } W) :
    (Code.rangeFunc g ps assign body).wpIn Fence.wide n P Q a w := by
  refine wpIn_rangeFunc ?_
  intro fn hfn
  obtain ⟨rec, hrec⟩ : ∃ rec : LoopState → Option Code → Loop, rec = fun st pe => { state := st, pending := pe, fn, tmps := a.tmps, params := ps, assign, body, defers := w.heap.size } := ⟨_, rfl⟩
  obtain ⟨W1, hW1⟩ : ∃ W1, (w.alloc (.deferred (some []))).alloc (.loop (rec .ready none)) = W1 := ⟨_, rfl⟩
  have hBw := hbox.lt
  have hL1 : W1.heap[w.heap.size + 1]? = some (.loop (rec .ready none)) := by
    have := World.alloc_heap_new (w.alloc (.deferred (some []))) (.loop (rec .ready none))
    rwa [World.size_alloc, hW1] at this
  have hK1 : W1.heap[w.heap.size]? = some (.deferred (some [])) := by
    rw [← hW1]; exact (Below.heap_alloc _ _ _ (by simp)).trans (World.alloc_heap_new w _)
  have hI1 : I 0 W1 := by rw [← hW1]; exact hI _ _ _ (hI _ _ _ h0 (Side.alloc _ _ _ _)) (Side.alloc _ _ _ _)
  have hB1 : BoxIs B u0 W1 := by
    rw [← hW1]
    exact (hbox.kept (Below.heap_alloc _ _ _ hBw)).kept (Below.heap_alloc _ _ _ (by simp; omega))
  refine ⟨w.heap.size + 1, [{ target := .collected w.heap.size, args := #[] }], W1, { target := .fn (.func gf) #[.pointer (some ⟨B, 0, none⟩)], args := #[.func (.yield (w.heap.size + 1)) #[] #[]] }, W1, gf,
    #[.func (.yield (w.heap.size + 1)) #[] #[], .pointer (some ⟨B, 0, none⟩)], W1, ?_, ?_, fun _ _ => trivial, ?_, (fun h => by cases h), ?_⟩
  · rw [← hW1, hrec]; exact run_enterLoop_outer _ _ _ _ _
  · simp only [resolve, hg]
    simp [go_sem]
  · simp [invoke, go_sem, eg]
  have keepL : ∀ (W : World) (v : Value) (j : Nat) (o : Obj), W.heap[j]? = some o → o.isCells = false → (W.setCell ⟨B, 0, none⟩ v).heap[j]? = some o := fun W v j o hj ho =>
    (KeepsOthers.setCell W ⟨B, 0, none⟩ v).same j o hj ho
  refine (hseq (n - 1) (w.heap.size + 1)
    (fun k W => I k W ∧ W.heap[w.heap.size + 1]? = some (.loop (rec .ready none)) ∧ W.heap[w.heap.size]? = some (.deferred (some [])) ∧ B < W.heap.size)
    (fun k W => ∃ c, Ix c k W ∧ W.heap[w.heap.size + 1]? = some (.loop (rec .done (some c))) ∧ W.heap[w.heap.size]? = some (.deferred (some [])))
    W1 (fun k W v h => ⟨hI _ _ _ h.1 (Side.setBox _ _ _ _), keepL _ _ _ _ h.2.1 rfl, keepL _ _ _ _ h.2.2.1 rfl, Nat.lt_of_lt_of_le h.2.2.2 (Side.setBox 0 B W v).size⟩) (fun k W h => hT _ _ h.1) ?_ ⟨hI1, hL1, hK1, hB1.lt⟩ hB1).mono ?_
  · rintro k x W ⟨hi, hl, hk, hbW⟩ hx
    have hlt : w.heap.size + 1 < W.heap.size := (Array.getElem?_eq_some_iff.1 hl).1
    have hy := run_yield (P := P) (args := #[x]) hl (by rw [hrec]; exact hps.symm)
    rw [hrec] at hy
    refine ⟨fn, _, assign, body, hy, roundIn_of_wpIn hfn (hassign _ x W _ ⟨_, run_beginRound hl (by rw [hrec]), ?_⟩)⟩
    have hl2 : (W.putObj (w.heap.size + 1) (.loop { rec .ready none with state := .busy })).heap[w.heap.size + 1]? = some (.loop { rec .ready none with state := .busy }) := World.putObj_heap_same hlt
    have hk2 : (W.putObj (w.heap.size + 1) (.loop { rec .ready none with state := .busy })).heap[w.heap.size]? = some (.deferred (some [])) := (World.putObj_heap_other (by omega)).trans hk
    have hbx : ∀ u, BoxIs B u W → BoxIs B u (W.putObj (w.heap.size + 1) (.loop { rec .ready none with state := .busy })) := fun u h => h.kept (World.putObj_heap_other (by omega))
    refine wpIn_mono (hbody _ k x _ (hI _ _ _ hi (Side.putObj _ (by omega) hl rfl)) hx (by simpa using hbW)) ?_
    have fin : ∀ (jump : Option Code) (W3 : World), KeepsOthers (W.putObj (w.heap.size + 1) (.loop { rec .ready none with state := .busy })) W3 →
        (Instr.endRound (w.heap.size + 1) jump).run P W3 = .ok (.bool jump.isNone) (W3.putObj (w.heap.size + 1) (.loop (rec (if jump.isNone then .ready else .done) jump))) ∧
        W3.heap[w.heap.size + 1]? = some (.loop { rec .ready none with state := .busy }) ∧
        (W3.putObj (w.heap.size + 1) (.loop (rec (if jump.isNone then .ready else .done) jump))).heap[w.heap.size + 1]? = some (.loop (rec (if jump.isNone then .ready else .done) jump)) ∧
        (W3.putObj (w.heap.size + 1) (.loop (rec (if jump.isNone then .ready else .done) jump))).heap[w.heap.size]? = some (.deferred (some [])) := fun jump W3 hk3 => by
      have hl3 := hk3.same _ _ hl2 rfl
      have := run_endRound (P := P) jump hl3
      rw [hrec] at this ⊢
      exact ⟨this, by rw [hrec] at hl3; exact hl3, World.putObj_heap_same (Array.getElem?_eq_some_iff.1 hl3).1, (World.putObj_heap_other (by omega)).trans (hk3.same _ _ hk2 rfl)⟩
    rintro e a3 W3 hp
    cases e with
    | normal =>
      obtain ⟨hk3, hkp3, hi3⟩ := hp
      obtain ⟨hr, hl3, hl4, hk4⟩ := fin none W3 hk3
      refine ⟨_, _, hr, .inl ⟨rfl, ⟨hI _ _ _ hi3 (Side.putObj _ (by omega) hl3 rfl), hl4, hk4, ?_⟩, fun u hu => (hkp3 u (hbx u hu)).kept (World.putObj_heap_other (by omega))⟩⟩
      have := hk3.size
      simp at this ⊢
      omega
    | ret =>
      obtain ⟨hk3, hi3⟩ := hp
      obtain ⟨hr, hl3, hl4, hk4⟩ := fin (some .ret) W3 hk3
      exact ⟨_, _, hr, .inr ⟨rfl, .ret, hIx _ _ _ _ hi3 (Side.putObj _ (by omega) hl3 rfl), hl4, hk4⟩⟩
    | exit id =>
      obtain ⟨hk3, hi3⟩ := hp
      obtain ⟨hr, hl3, hl4, hk4⟩ := fin (some (.exit id)) W3 hk3
      exact ⟨_, _, hr, .inr ⟨rfl, .exit id, hIx _ _ _ _ hi3 (Side.putObj _ (by omega) hl3 rfl), hl4, hk4⟩⟩
    | goto t =>
      obtain ⟨hk3, hi3⟩ := hp
      obtain ⟨hr, hl3, hl4, hk4⟩ := fin (some (.goto t)) W3 hk3
      exact ⟨_, _, hr, .inr ⟨rfl, .goto t, hIx _ _ _ _ hi3 (Side.putObj _ (by omega) hl3 rfl), hl4, hk4⟩⟩
    | panic ch => exact hp.elim
    | outgrown => exact hp.elim
  · rintro e W2 ⟨⟨v, rfl⟩, (⟨hi, hl, hk, _⟩ | ⟨k, hkl, c, hi, hl, hk⟩)⟩
    · exact ⟨none, _, by have := run_endLoop (P := P) hl (by rw [hrec]; simp); rw [hrec] at this; exact this, hdone _ _ (Nat.le_refl _) (hI _ _ _ hi (Side.putObj _ (by omega) hl rfl)) ((World.putObj_heap_other (by omega)).trans hk)⟩
    · exact ⟨some c, _, by have := run_endLoop (P := P) hl (by rw [hrec]; simp); rw [hrec] at this; exact this, hstop _ c k _ (Nat.le_refl _) hkl (hIx _ _ _ _ hi (Side.putObj _ (by omega) hl rfl)) ((World.putObj_heap_other (by omega)).trans hk)⟩
end Go.Proofs.YtfkfheddhnjaaaaGreat
