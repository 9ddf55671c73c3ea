/- What all laws of this seat share: how a row's post is closed when the law returned true and only new memory was made; what the listed tables hold; a world for the witness. -/
import Derived.Test.YteahiphmhaedpaaGreatDoorRows
import Derived.WalkKit
import Derived.ProofKit
import Derived.OpenShut
import Derived.Carry
import Derived.Deep.DeepHandedRow
import Derived.Stop.LaidErr
import Derived.Lib.LaidTab
import Derived.Deep.Slices
import Derived.Deep.QuietTactic
import Derived.BigQuiet
import Derived.StillTail
namespace Go.Proofs.YteahiphmhaedpaaGreatDoor.Law
open Go.ChangeShapes Go.WideShapes Go.ChangeAt Go.RowKit

theorem own : ownKnob Tryz.prog.godebug = none := by kernel_rfl
theorem laidOut : laidOutB Tryz.prog = true := by kernel_rfl

section
variable {H : Type} {enc : TypeId × Value → H} {W W' : World}
theorem trodAll_below (hb : Below W.heap.size W W') (ts : List TypeId) : ∀ {vs : List Value} {ds : List (DataW H)} {ps : List MemPlace},
    (ts.all fun t => Tryz.prog.readableRec t && decide (t < Tryz.prog.types.size)) = true → DataW.TrodAll enc Tryz.prog W 0 (fun _ => true) true ts vs ds ps → (∀ x ∈ ps, x.block < W.heap.size) →
    DataW.TrodAll enc Tryz.prog W' 0 (fun b => decide (b < W.heap.size)) true ts vs ds ps := by
  induction ts with
  | nil =>
    intro vs ds ps _ h _
    obtain ⟨rfl, rfl, rfl⟩ := trodAll_nil h
    exact trodAll_mk0
  | cons t ts ih =>
    intro vs ds ps ht h hlt
    obtain ⟨v, vs1, d, ds1, p, q, rfl, rfl, rfl, h1, h2⟩ := trodAll_cons h
    rw [List.all_cons, Bool.and_eq_true, Bool.and_eq_true, decide_eq_true_eq] at ht
    exact ⟨p, q, Below.trod laidOut ht.1.1 ht.1.2 h1 hb (fun x hx => hlt x (by simp [hx])), ih ht.2 h2 (fun x hx => hlt x (by simp [hx])), rfl⟩

/-- A law that returned true and turned nothing that was there meets its row's post. -/
theorem shut {f : Func} {s : ChangeSpec} {args : Array Value} {ds gs : List (DataW H)} {before : List MemPlace}
    (hf : f.resultTypes = #[4]) (hts : (f.params.toList.all fun t => Tryz.prog.readableRec t && decide (t < Tryz.prog.types.size)) = true)
    (hv : s.vars = []) (hfn : s.fn H (ds ++ []) = { results := [.lit (.bool true)], args := ds })
    (hW : DataW.Whole enc Tryz.prog f.params.toList s.vars false W args.toList ds gs before) (hb : Below W.heap.size W W') :
    s.post enc Tryz.prog f false true false false W args (.bool true) W' := by
  have hlt := hW.lt
  have hW0 := hW
  obtain ⟨p, q, hA, hV, rfl, hfz, hnd⟩ := hW
  rw [hv] at hV
  obtain ⟨rfl, rfl⟩ := trodVars_none hV
  refine ⟨ds, [], _, [], p, [], hW0, ?_, ?_, ?_, ?_, fun h => by cases h⟩
  · rw [hfn, hf]
    exact trodAll_cons_mk (shut_bool Tryz.underlying4 _) trodAll_mk0
  · rw [hfn]
    exact trodAll_below hb _ hts hA (fun x hx => hlt x (by simp [hx]))
  · rw [hfn, hv]
    rfl
  · exact hb.frame _
end

/-- WHAT THE ROW LISTS: the tables. -/
def tables : List (String × DataW Unit) := [("math/bits.deBruijn64tab", Rows.laid_math_bits_deBruijn64tab)]
theorem g_bits_deBruijn64tab : Tryz.prog.globalNamed "math/bits.deBruijn64tab" = some 0 := by kernel_rfl
theorem gt_bits_deBruijn64tab : (Tryz.prog.globals[0]?).map (·.type) = some 471 := by kernel_rfl
theorem gc_bits_deBruijn64tab : Tryz.prog.cellsOf 471 = 64 := by kernel_rfl
theorem ge_bits_deBruijn64tab : Tryz.prog.cellsOf 5 = 1 := by kernel_rfl
def bits_deBruijn64tab : List Int := [0, 1, 56, 2, 57, 49, 28, 3, 61, 58, 42, 50, 38, 29, 17, 4, 62, 47, 59, 36, 45, 43, 51, 22, 53, 39, 33, 30, 24, 18, 12, 5, 63, 55, 48, 27, 60, 41, 37, 16, 46, 35, 44, 21, 52, 32, 23, 11, 54, 26, 40, 15, 34, 20, 31, 10, 25, 14, 19, 9, 13, 8, 7, 6]
theorem tab_bits_deBruijn64tab {W : World} (h : laidMet Tryz.prog tables W) : Lib.TabIs Tryz.prog W "math/bits.deBruijn64tab" .u8 bits_deBruijn64tab :=
  Lib.tabIs_of_head g_bits_deBruijn64tab gt_bits_deBruijn64tab Tryz.underlying471 Tryz.underlying5 ge_bits_deBruijn64tab gc_bits_deBruijn64tab h

/-! ### CELLS OF A VALUE THAT READS: the kinds of a type's cells in order, and that a reading fits them. -/
/-- A cell's kind: an integer's; 0: a bool, 1: a string, 2: anything of one cell. -/
abbrev FK := Sum IntKind Nat
def fit1 : FK → Value → Prop
  | .inl k, v => ∃ z : Int, v = .int k z ∧ (Lit.int k z).wf = true
  | .inr 0, v => ∃ b : Bool, v = .bool b
  | .inr 1, v => ∃ s : ByteArray, v = .string s ∧ s.size ≤ maxLen
  | .inr _, _ => True
def Fit : List FK → List Value → Prop
  | [], [] => True
  | k :: ks, v :: vs => fit1 k v ∧ Fit ks vs
  | _, _ => False
def joins : Nat → List (Nat × List FK) → Option (List FK)
  | _, [] => some []
  | n, (o, l) :: r => if o = n then (joins (n + l.length) r).map (l ++ ·) else none
def flat (P : Program) : Nat → TypeId → Option (List FK)
  | 0, _ => none
  | n + 1, t => match P.underlying t with
    | some (.int k) => some [.inl k]
    | some .bool => some [.inr 0]
    | some .string => some [.inr 1]
    | some (.struct fs) => ((fs.toList.mapM fun f => (flat P n f.type).bind fun l => if l.length = P.cellsOf f.type then some (f.offset, l) else none).bind (joins 0)).bind fun l => if l.length = P.cellsOf t then some l else none
    | some (.array m e) => (flat P n e).bind fun l => if l.length = P.cellsOf e ∧ m * P.cellsOf e = P.cellsOf t then some (List.replicate m l).flatten else none
    | some (.slice _) => some [.inr 2]
    | some (.map _ _) => some [.inr 2]
    | some (.pointer _) => some [.inr 2]
    | _ => none

theorem Fit.append : ∀ {ks ls : List FK} {vs us : List Value}, Fit ks vs → Fit ls us → Fit (ks ++ ls) (vs ++ us)
  | [], _, [], _, _, h => h
  | _ :: _, _, _ :: _, _, h, h' => ⟨h.1, Fit.append h.2 h'⟩
  | [], _, _ :: _, _, h, _ => h.elim
  | _ :: _, _, [], _, h, _ => h.elim
theorem Fit.length : ∀ {ks : List FK} {vs : List Value}, Fit ks vs → vs.length = ks.length
  | [], [], _ => rfl
  | _ :: _, _ :: _, h => by simp [Fit.length h.2]
  | [], _ :: _, h => h.elim
  | _ :: _, [], h => h.elim
theorem Fit.cons {k : FK} {ks : List FK} {l : List Value} (h : Fit (k :: ks) l) : ∃ v vs, l = v :: vs ∧ fit1 k v ∧ Fit ks vs := by
  cases l with
  | nil => exact h.elim
  | cons v vs => exact ⟨v, vs, rfl, h.1, h.2⟩
theorem Fit.int {k : IntKind} {ks : List FK} {l : List Value} (h : Fit (.inl k :: ks) l) : ∃ (z : Int) (vs : List Value), l = .int k z :: vs ∧ (Lit.int k z).wf = true ∧ Fit ks vs := by
  obtain ⟨v, vs, rfl, ⟨z, rfl, hw⟩, h2⟩ := h.cons
  exact ⟨z, vs, rfl, hw, h2⟩
theorem Fit.bool {ks : List FK} {l : List Value} (h : Fit (.inr 0 :: ks) l) : ∃ (b : Bool) (vs : List Value), l = .bool b :: vs ∧ Fit ks vs := by
  obtain ⟨v, vs, rfl, ⟨z, rfl⟩, h2⟩ := h.cons
  exact ⟨z, vs, rfl, h2⟩
theorem Fit.str {ks : List FK} {l : List Value} (h : Fit (.inr 1 :: ks) l) : ∃ (s : ByteArray) (vs : List Value), l = .string s :: vs ∧ s.size ≤ maxLen ∧ Fit ks vs := by
  obtain ⟨v, vs, rfl, ⟨z, rfl, hw⟩, h2⟩ := h.cons
  exact ⟨z, vs, rfl, hw, h2⟩
theorem Fit.any {ks : List FK} {l : List Value} (h : Fit (.inr 2 :: ks) l) : ∃ (v : Value) (vs : List Value), l = v :: vs ∧ Fit ks vs := by
  obtain ⟨v, vs, rfl, _, h2⟩ := h.cons
  exact ⟨v, vs, rfl, h2⟩
theorem Fit.nil {l : List Value} (h : Fit [] l) : l = [] := by
  cases l with
  | nil => rfl
  | cons _ _ => exact h.elim
theorem Fit.split : ∀ {ks ls : List FK} {l : List Value}, Fit (ks ++ ls) l → ∃ vs us, l = vs ++ us ∧ Fit ks vs ∧ Fit ls us
  | [], _, l, h => ⟨[], l, rfl, trivial, h⟩
  | k :: ks, ls, l, h => by
    obtain ⟨v, vs, rfl, h1, h2⟩ := h.cons
    obtain ⟨a, b, rfl, h3, h4⟩ := Fit.split (ks := ks) h2
    exact ⟨v :: a, b, rfl, ⟨h1, h3⟩, h4⟩
theorem Fit.ints {k : IntKind} : ∀ {m : Nat} {l : List Value}, Fit (List.replicate m (.inl k)) l → ∃ zs : List Int, l = zs.map (Value.int k) ∧ zs.length = m ∧ ∀ z ∈ zs, (Lit.int k z).wf = true
  | 0, l, h => ⟨[], by simpa using h.nil, rfl, by simp⟩
  | m + 1, l, h => by
    rw [List.replicate_succ] at h
    obtain ⟨z, vs, rfl, hw, h2⟩ := h.int
    obtain ⟨zs, rfl, hl, ha⟩ := Fit.ints h2
    exact ⟨z :: zs, rfl, by simp [hl], by simpa using ⟨hw, ha⟩⟩

section
variable {H : Type} {enc : TypeId × Value → H} {P : Program} {w : World} {base : Nat} {spare : Nat → Bool} {held : Bool}
theorem one_of_trod {fuel : Nat} {t : TypeId} {cs : List Value} {x : DataW H × List MemPlace} (ht : (∃ e, P.underlying t = some (.slice e)) ∨ (∃ k e, P.underlying t = some (.map k e)) ∨ (∃ e, P.underlying t = some (.pointer e)))
    (h : DataW.trod enc P w base spare held fuel t cs = some x) : ∃ v, cs = [v] := by
  cases fuel with
  | zero => simp [DataW.trod] at h
  | succ n =>
    unfold DataW.trod at h
    rcases ht with ⟨e, ht⟩ | ⟨k, e, ht⟩ | ⟨e, ht⟩ <;> rw [ht] at h <;> (split at h <;> first | exact ⟨_, rfl⟩ | simp_all)

theorem fit_joins : ∀ {ls : List (Nat × List FK)} {n : Nat} {ks : List FK} {cs : List Value}, joins n ls = some ks → n + ks.length ≤ cs.length → (∀ o l, (o, l) ∈ ls → Fit l ((cs.drop o).take l.length)) → Fit ks ((cs.drop n).take ks.length)
  | [], _, ks, _, h, _, _ => by
    obtain rfl : [] = ks := Option.some.inj h
    simp [Fit]
  | (o, l) :: r, n, ks, cs, h, hn, hf => by
    unfold joins at h
    split at h
    · rename_i ho
      obtain ⟨ks', hj, rfl⟩ := Option.map_eq_some_iff.1 h
      subst ho
      have h1 := hf o l (by simp)
      have h2 := fit_joins hj (by simp at hn; omega) (fun o' l' hm => hf o' l' (by simp [hm]))
      have e : (cs.drop o).take (l ++ ks').length = (cs.drop o).take l.length ++ (cs.drop (o + l.length)).take ks'.length := by
        rw [List.length_append, List.take_add, List.drop_drop]
      rw [e]
      exact h1.append h2
    · cases h
theorem mapM_mem {α β : Type} {f : α → Option β} : ∀ {l : List α} {r : List β}, l.mapM f = some r → ∀ b ∈ r, ∃ (i : Nat) (a : α), l[i]? = some a ∧ f a = some b
  | [], r, h, b, hb => by
    simp at h
    subst h
    cases hb
  | a :: l, r, h, b, hb => by
    simp only [List.mapM_cons, Option.bind_eq_bind, Option.bind_eq_some_iff, Option.pure_def, Option.some.injEq] at h
    obtain ⟨b', h1, r', h2, rfl⟩ := h
    cases hb with
    | head => exact ⟨0, a, rfl, h1⟩
    | tail _ hb =>
      obtain ⟨i, a', h3, h4⟩ := mapM_mem h2 b hb
      exact ⟨i + 1, a', h3, h4⟩
theorem fit_rep {l : List FK} : ∀ {m : Nat} {cs : List Value}, cs.length = m * l.length → (∀ i, i < m → Fit l ((cs.drop (i * l.length)).take l.length)) → Fit (List.replicate m l).flatten cs
  | 0, cs, hl, _ => by
    have : cs = [] := List.eq_nil_of_length_eq_zero (by simpa using hl)
    subst this
    trivial
  | m + 1, cs, hl, h => by
    rw [List.replicate_succ, List.flatten_cons, ← List.take_append_drop l.length cs]
    have h0 := h 0 (by omega)
    rw [Nat.zero_mul, List.drop_zero] at h0
    refine h0.append (fit_rep (by rw [List.length_drop, hl, Nat.succ_mul]; omega) fun i hi => ?_)
    have h1 := h (i + 1) (by omega)
    rwa [Nat.succ_mul, Nat.add_comm, ← List.drop_drop] at h1
theorem fit_of_trod : ∀ {n : Nat} {t : TypeId} {ks : List FK} {fuel : Nat} {cs : List Value} {x : DataW H × List MemPlace}, flat P n t = some ks → DataW.trod enc P w base spare held fuel t cs = some x → Fit ks cs
  | 0, _, _, _, _, _, hk, _ => by simp [flat] at hk
  | n + 1, t, ks, fuel, cs, x, hk, h => by
    unfold flat at hk
    split at hk
    · rename_i k ht
      obtain rfl := Option.some.inj hk
      obtain ⟨z, rfl, _, hw⟩ := DataW.trod_int ht h
      exact ⟨⟨z, rfl, hw⟩, trivial⟩
    · rename_i ht
      obtain rfl := Option.some.inj hk
      obtain ⟨z, rfl, _⟩ := DataW.trod_bool ht h
      exact ⟨⟨z, rfl⟩, trivial⟩
    · rename_i ht
      obtain rfl := Option.some.inj hk
      obtain ⟨z, rfl, _, hw⟩ := DataW.trod_string ht h
      exact ⟨⟨z, rfl, hw⟩, trivial⟩
    · rename_i fs ht
      obtain ⟨l, hj, hl⟩ := Option.bind_eq_some_iff.1 hk
      obtain ⟨ls, hm, hjo⟩ := Option.bind_eq_some_iff.1 hj
      split at hl
      · rename_i hlen
        obtain rfl := Option.some.inj hl
        obtain ⟨xs, m, _, _, hcl, _, hf⟩ := DataW.trod_struct ht h
        have := fit_joins (cs := cs) hjo (by omega) (fun o l' hmem => by
          obtain ⟨i, f, hfi, he⟩ := mapM_mem hm _ hmem
          obtain ⟨l2, hl2, he2⟩ := Option.bind_eq_some_iff.1 he
          split at he2
          · rename_i hsz
            simp only [Option.some.injEq, Prod.mk.injEq] at he2
            obtain ⟨rfl, rfl⟩ := he2
            have h3 := hf i f (by simpa using hfi)
            rw [hsz]
            cases hxi : xs[i]? with
            | none =>
              rw [hxi] at h3
              have hlt : i < fs.size := by
                have := (List.getElem?_eq_some_iff.1 hfi).1
                simpa using this
              rw [List.getElem?_eq_none_iff] at hxi
              omega
            | some y =>
              rw [hxi] at h3
              exact fit_of_trod hl2 h3
          · cases he2)
        rw [List.drop_zero, hlen, ← hcl, List.take_length] at this
        exact this
      · cases hl
    · rename_i m e ht
      obtain ⟨l, hl, he⟩ := Option.bind_eq_some_iff.1 hk
      split at he
      · rename_i hc
        obtain rfl := Option.some.inj he
        obtain ⟨xs, m', _, _, hcl, hxl, hf⟩ := DataW.trod_array ht h
        refine fit_rep (by rw [hcl, ← hc.2, hc.1]) fun i hi => ?_
        have h3 := hf i hi
        rw [hc.1]
        cases hxi : xs[i]? with
        | none =>
          rw [List.getElem?_eq_none_iff] at hxi
          omega
        | some y =>
          rw [hxi] at h3
          exact fit_of_trod hl h3
      · cases he
    · rename_i e ht
      obtain rfl := Option.some.inj hk
      obtain ⟨v, rfl⟩ := one_of_trod (.inl ⟨e, ht⟩) h
      exact ⟨trivial, trivial⟩
    · rename_i k e ht
      obtain rfl := Option.some.inj hk
      obtain ⟨v, rfl⟩ := one_of_trod (.inr (.inl ⟨k, e, ht⟩)) h
      exact ⟨trivial, trivial⟩
    · rename_i e ht
      obtain rfl := Option.some.inj hk
      obtain ⟨v, rfl⟩ := one_of_trod (.inr (.inr ⟨e, ht⟩)) h
      exact ⟨trivial, trivial⟩
    · cases hk
/-- An aggregate argument, opened: its cells fit their kinds. -/
theorem open_flat {n : Nat} {t : TypeId} {ks : List FK} {v : Value} {d : DataW H} {p : List MemPlace} {r : Reach} {b0 : Nat} (hk : flat P n t = some ks) (hag : (∃ fs, P.underlying t = some (.struct fs)) ∨ (∃ m e, P.underlying t = some (.array m e)))
    (hv : Value.okWide P w r b0 t v) (h : DataW.Trod enc P w base spare held t v d p) : ∃ cs : List Value, v = .agg cs.toArray ∧ Fit ks cs := by
  obtain ⟨fuel, hf⟩ := h
  have hag' : ∃ cs, v = .agg cs := by
    rcases hag with ⟨fs, ht⟩ | ⟨m, e, ht⟩ <;> simp only [Value.okWide, ht] at hv <;> obtain ⟨cs, h1, _⟩ := hv <;> exact ⟨cs, h1⟩
  obtain ⟨cs, rfl⟩ := hag'
  exact ⟨cs.toList, by simp, fit_of_trod hk (by simpa [Value.cells] using hf)⟩
/-- A slice argument, opened: each element's cells fit their kinds. -/
theorem open_slice_flat {n : Nat} {t e : TypeId} {ks : List FK} {v : Value} {d : DataW H} {p : List MemPlace} {r : Reach} {b0 : Nat} (ht : P.underlying t = some (.slice e)) (hk : flat P n e = some ks) (hC : P.cellsOf e = ks.length)
    (hv : Value.okWide P w r b0 t v) (h : DataW.Trod enc P w base spare held t v d p) :
    ∃ (a : Option Addr) (len cap : Nat), v = .slice a len cap ∧ len ≤ cap ∧ cap ≤ maxLen ∧ (a = none → cap = 0) ∧ ∀ ad, a = some ad → ∀ i, i < len → ∃ cs : List Value, Fit ks cs ∧ ∀ j v, cs[j]? = some v → w.cell? (ad.add (i * ks.length + j)) = some v := by
  obtain ⟨a0, len, cap, rfl⟩ := okWide_slice ht hv
  obtain ⟨fuel, hf⟩ := h
  rcases Go.Deep.open_slice ht hf with ⟨hcs, hx⟩ | ⟨a, len', cap', m, n', D, Pl, hcs, hb, hl, hm, hmm, hx, hi⟩
  · simp [Value.cells] at hcs
    obtain ⟨rfl, rfl, rfl⟩ := hcs
    exact ⟨none, 0, 0, rfl, Nat.le_refl _, by simp [maxLen], fun _ => rfl, fun ad h => by cases h⟩
  · simp [Value.cells] at hcs
    obtain ⟨rfl, rfl, rfl⟩ := hcs
    refine ⟨some a, len, cap, rfl, hl, hm, (fun h => by cases h), fun ad had i hlt => ?_⟩
    cases had
    obtain ⟨cs', hc, ht'⟩ := hi i (by rw [hmm]; split <;> omega)
    refine ⟨cs', fit_of_trod hk ht', fun j v hj => ?_⟩
    obtain ⟨_, hcl, hat⟩ := World.cells?_some hc
    have hjl : j < cs'.length := (List.getElem?_eq_some_iff.1 hj).1
    have h2 := hat j (by omega)
    rw [hC] at h2
    rw [← Go.Deep.add_add, h2, hj]
end


/-! ### A REGION THAT DRAWS ITS ORDER, WHOSE OPERATIONS READ AND WHOSE CALLEES MAKE NEW MEMORY ALONE: one walk in the order of the text. -/
/-- A world that lies behind w: what was there is as it was. -/
structure Later (w : World) where
  val : World
  h : Below w.heap.size w val
instance (w : World) : Nonempty (Later w) := ⟨⟨w, Below.refl _ _⟩⟩
theorem wp_region_later {P : Program} {id : Nat} {Q : Exit → Act → World → Prop} {a : Act} {w : World} {l : List Oper} (hm : P.follows .mixedOrders = true) (hB : Region.lexB .any l.toArray = true)
    (h : wpQuiet P l.toArray (fun w' => ∃ W : Later w, w' = W.val) (fun a' => ∀ w', (∃ W : Later w, w' = W.val) → Q .normal a' w') l a) : (Code.region id l.toArray true).wp P Q a w :=
  wp_region_quiet (C := fun w' => ∃ W : Later w, w' = W.val) hm hB ⟨⟨{ w with drawn := w.drawn + 1 }, (Below.refl _ w).drew⟩, rfl⟩ (by simpa using h)
/-- A callee's contract, met in a later world. -/
theorem later_of {P : Program} {f : FuncId} {args : Array Value} {w : World} {W : Later w} {v : Value}
    (h : Calls P f args W.val fun e w' => e = .returned v ∧ Below W.val.heap.size W.val w') : Calls P f args W.val fun e w'' => e = .returned v ∧ ∃ W' : Later w, w'' = W'.val :=
  h.mono fun _ _ ⟨he, hb⟩ => ⟨he, ⟨_, W.h.trans (hb.mono W.h.size)⟩, rfl⟩
theorem Later.cell {w : World} {p : Addr} {v : Value} (h : w.cell? p = some v) (W : Later w) : W.val.cell? p = some v := by
  rw [W.h.cell (World.block_lt_of_cell? _ _ h), h]
theorem Later.frozen {w : World} {p : Addr} {b : Bool} (h : w.frozen? p = b) (hp : p.block < w.heap.size) (W : Later w) : W.val.frozen? p = b := by
  rw [W.h.frozen hp, h]
theorem below_draws {B : Nat} {a w : World} (h : Below B a w) (n : Nat) : Below B a (w.drewN n) := ⟨h.os, h.tape, h.output, h.size, h.block⟩
/-- The same contract from a callee that only draws, or leaves the world. -/
theorem below_of_draws {P : Program} {f : FuncId} {args : Array Value} {w : World} {v : Value} (h : Calls P f args w fun e w' => e = .returned v ∧ ∃ n, w' = w.drewN n) :
    Calls P f args w fun e w' => e = .returned v ∧ Below w.heap.size w w' :=
  h.mono fun _ _ ⟨he, n, hw⟩ => ⟨he, by subst hw; exact below_draws (Below.refl _ _) n⟩
theorem below_of_same {P : Program} {f : FuncId} {args : Array Value} {w : World} {v : Value} (h : Calls P f args w fun e w' => e = .returned v ∧ w' = w) :
    Calls P f args w fun e w' => e = .returned v ∧ Below w.heap.size w w' :=
  h.mono fun _ _ ⟨he, hw⟩ => ⟨he, by subst hw; exact Below.refl _ _⟩
/-- The same for a region in a fixed order. -/
theorem wpList_later {P : Program} {ops : Array Oper} {C : World → Prop} {Q : Exit → Act → World → Prop} : ∀ {l : List Oper} {a : Act} {w : World}, C w → wpQuiet P ops C (fun a' => ∀ w', C w' → Q .normal a' w') l a → wpList P ops Q l a w
  | [], _, _, hw, h => h _ hw
  | o :: rest, a, w, hw, h => by
    unfold wpQuiet at h
    unfold wpList
    split
    · rename_i hwant
      rw [if_pos hwant] at h
      exact .inl (Oper.wp_of_quiet hw (fun _ _ hw' hK => wpList_later hw' hK) h)
    · rename_i hwant
      rw [if_neg hwant] at h
      exact wpList_later hw h
theorem wp_plain_later {P : Program} {id : Nat} {Q : Exit → Act → World → Prop} {a : Act} {w : World} {l : List Oper}
    (h : wpQuiet P l.toArray (fun w' => ∃ W : Later w, w' = W.val) (fun a' => ∀ w', (∃ W : Later w, w' = W.val) → Q .normal a' w') l a) : (Code.region id l.toArray false).wp P Q a w :=
  wp_region_lit (wpList_later ⟨⟨w, Below.refl _ _⟩, rfl⟩ h)


/-! ### The same, where the last operations come in one forced order (an allocation, a store, a call that follows them). -/
section
variable {P : Program} {ops : Array Oper} {md : Region.Mode} {C : World → Prop}
def wpAnyQL (P : Program) (md : Region.Mode) (ops : Array Oper) (C : World → Prop) (n : Nat) (L : Array Bool → Act → Prop) : Nat → Array Bool → Act → Prop
  | 0, listed, a => L listed a
  | f + 1, listed, a =>
    Region.ready md ops listed ≠ [] ∧ ∀ i ∈ Region.ready md ops listed, i < n ∧ qOp P ops C i (wpAnyQL P md ops C n L f (listed.setIfInBounds i true)) a
theorem wpAny_of_headQ {n g : Nat} {L : Array Bool → Act → Prop} {Q' : Exit → Act → World → Prop} (hL : ∀ listed a w, C w → L listed a → wpAny P md ops Q' g listed a w) :
    ∀ (f : Nat) (listed : Array Bool) (a : Act) (w : World), C w → wpAnyQL P md ops C n L f listed a → wpAny P md ops Q' (f + g) listed a w
  | 0, listed, a, w, hw, h => by rw [Nat.zero_add]; exact hL _ _ _ hw h
  | f + 1, listed, a, w, hw, h => by
    rw [show f + 1 + g = (f + g) + 1 by omega]
    exact ⟨fun h0 => absurd h0 h.1, fun i hi => wpOp_of_qOp hw (fun a' w' hw' h' => wpAny_of_headQ hL f _ a' w' hw' h') (h.2 i hi).2⟩
theorem wpAnyQL_first {n i : Nat} {oi : Oper} {v : Value} {L : Array Bool → Act → Prop} (hi : ops[i]? = some oi) (hsel : ∀ (j : Nat) (o : Oper) cs b, ops[j]? = some o → o.op ≠ .select cs b)
    (hs : Region.sinkB md ops n = true) (hc : Region.chainB md ops n = true) (hn : n < ops.size) (hin : i < n)
    (hdone : ∀ listed a, L listed a → ∀ j ∈ Region.ready md ops listed, n ≤ j) :
    ∀ (f : Nat) (listed : Array Bool) (a : Act), HeadInv md ops n listed →
      (∀ j oj, ops[j]? = some oj → j ≠ i → listed.getD j true = false → (∀ e ∈ oj.after, Region.binds md e = true → e.on ≠ i) → oi.apart ops oj = true) →
      i ∈ Region.ready md ops listed → YieldsIn P ops C oi v a →
      wpAnyQL P md ops C n L f (listed.setIfInBounds i true) (a.put oi.dst v) → wpAnyQL P md ops C n L (f + 1) listed a := by
  intro f
  induction f with
  | zero =>
    intro listed a inv _ hr hy H
    have hun := (mem_ready.1 hr).1
    refine ⟨fun h => (by rw [h] at hr; cases hr), fun j hj => ?_⟩
    have hjn : j < n := by
      rcases Nat.lt_or_ge j n with h | h
      · exact h
      · exact absurd hj (tail_waits hs hc hn inv _ i rfl hin hun j h)
    refine ⟨hjn, ?_⟩
    by_cases hji : j = i
    · subst hji; exact hy.qOp hi H
    · have := hdone _ _ H j (ready_mono hj hji)
      omega
  | succ f ih =>
    intro listed a inv hfree hr hy H
    have hun := (mem_ready.1 hr).1
    refine ⟨fun h => (by rw [h] at hr; cases hr), fun j hj => ?_⟩
    have hjn : j < n := by
      rcases Nat.lt_or_ge j n with h | h
      · exact h
      · exact absurd hj (tail_waits hs hc hn inv _ i rfl hin hun j h)
    refine ⟨hjn, ?_⟩
    by_cases hji : j = i
    · subst hji; exact hy.qOp hi H
    · have h1 := (H.2 j (ready_mono hj hji)).2
      obtain ⟨hjun, oj, hoj, hall⟩ := mem_ready.1 hj
      have hnot : ∀ e ∈ oj.after, Region.binds md e = true → e.on ≠ i := fun e he hb heq => by
        have h1 := hall e he hb
        rw [heq, getD_both hun] at h1
        cases h1
      have h2 := qOp_put hoj (hfree j oj hoj hji hjun hnot) (fun cs b => hsel i oi cs b hi) (fun cs b => hsel j oj cs b hoj) hy h1
      have hfree' : ∀ k ok, ops[k]? = some ok → k ≠ i → (listed.setIfInBounds j true).getD k true = false →
          (∀ e ∈ ok.after, Region.binds md e = true → e.on ≠ i) → oi.apart ops ok = true := fun k ok hk hki hun hno => by
        refine hfree k ok hk hki ?_ hno
        by_cases hjk : j = k
        · subst hjk; exact hjun
        · rw [getD_set_ne true hjk] at hun; exact hun
      refine qOp_mono (fun a' h3 => ih (listed.setIfInBounds j true) a' (inv.set hj hjn) hfree' (ready_mono hr (Ne.symm hji)) h3.1 ?_) h2
      rw [Array.setIfInBounds_comm _ _ hji]
      exact h3.2
theorem wpAnyQL_lex {n g : Nat} {Lq : Act → Prop} (hsel : Region.noSelect ops = true) (hs : Region.sinkB md ops n = true) (hc : Region.chainB md ops n = true) (hn : n < ops.size) :
    ∀ (l : List Oper) (k : Nat) (listed : Array Bool) (a : Act), (∀ j, j < l.length → l[j]? = ops[k + j]?) → k + l.length = n → HeadInv md ops n listed →
    Region.lexHead md ops g l.length k listed = true → wpQuiet P ops C Lq l a →
    wpAnyQL P md ops C n (fun listed' a' => Region.seqB md ops g n listed' = true ∧ Lq a') l.length listed a
  | [], k, listed, a, _, hk, _, hB, h => by
    have : k = n := by simpa using hk
    subst this
    exact ⟨by simpa [Region.lexHead] using hB, h⟩
  | o :: l, k, listed, a, hl, hk, inv, hB, h => by
    have h0 : ops[k]? = some o := by simpa using (hl 0 (by simp)).symm
    simp only [List.length_cons, Region.lexHead, Bool.and_eq_true] at hB
    obtain ⟨⟨hr, hf⟩, hB'⟩ := hB
    have hkn : k < n := by simp only [List.length_cons] at hk; omega
    have hr' : k ∈ Region.ready md ops listed := by simpa using hr
    have hst : qOp P ops C k (wpQuiet P ops C Lq l) a := by unfold qOp; simp only [h0]; exact h
    obtain ⟨v, hy, hK⟩ := yieldsIn_of_qOp h0 hst
    exact wpAnyQL_first h0 (Region.noSelect_spec hsel) hs hc hn hkn (fun listed' a' hL => seqB_ready hL.1) l.length listed a inv (Region.free_spec h0 hf) hr' hy
      (wpAnyQL_lex hsel hs hc hn l (k + 1) _ _ (fun j hj => by have := hl (j + 1) (by simp; omega); simpa [Nat.add_assoc, Nat.add_comm 1 j] using this) (by simp only [List.length_cons] at hk; omega) (inv.set hr' hkn) hB' hK)
end
theorem wp_region_later_tail {P : Program} {id : Nat} {Q : Exit → Act → World → Prop} {a : Act} {w : World} {l : List Oper} (n : Nat) (hm : P.follows .mixedOrders = true) (hB : Region.lexTailB .any l.toArray n = true)
    (h : wpQuiet P l.toArray (fun w' => ∃ W : Later w, w' = W.val) (fun a' => ∀ W : Later w, wpList P l.toArray Q (l.drop n) a' W.val) (l.take n) a) : (Code.region id l.toArray true).wp P Q a w := by
  simp only [Region.lexTailB, Bool.and_eq_true, decide_eq_true_eq] at hB
  obtain ⟨⟨⟨⟨hsel, hn⟩, hs⟩, hc⟩, hlex⟩ := hB
  have hn' : n < l.length := by simpa using hn
  have htl : (l.take n).length = n := by simp; omega
  have hdl : (l.drop n).length = l.toArray.size - n := by simp
  have inv0 : HeadInv .any l.toArray n (Array.replicate l.toArray.size false) :=
    ⟨by simp, fun j oj _ hl => (by rw [getD_replicate_false] at hl; cases hl), fun t _ ht => getD_in (by simpa using ht) (getD_replicate_false _ _)⟩
  have H := wpAnyQL_lex (md := .any) (g := l.toArray.size - n) hsel hs hc hn (l.take n) 0 _ a (fun j hj => by
    have hj' : j < n := by rw [htl] at hj; exact hj
    simp [hj']) (by simpa using htl) inv0 (by rw [htl]; exact hlex) h
  refine wp_region_any hm ?_
  have := wpAny_of_headQ (Q' := Q) (g := l.toArray.size - n) (fun listed a' w' hw' hL => by
    obtain ⟨W, rfl⟩ := hw'
    have := wpAny_of_seq (md := .any) (Q' := Q) (l.drop n) n listed a' W.val (fun j => by simp [List.getElem?_drop]) (by rw [hdl]; exact hL.1) (hL.2 W)
    rwa [hdl] at this) _ _ _ { w with drawn := w.drawn + 1 } ⟨⟨_, (Below.refl _ w).drew⟩, rfl⟩ H
  rw [htl, show n + (l.toArray.size - n) = l.toArray.size by omega] at this
  exact this

/-- A WORLD FOR THE WITNESS: the settled one, each listed table holding what its initialiser lays. -/
noncomputable def laidWorld (os : Os) : World :=
  { World.holding Tryz.prog os ⟨#[], #[], []⟩ with heap := ((World.holding Tryz.prog os ⟨#[], #[], []⟩).heap).modify 0 fun | .cells _ t frozen => .cells #[.int .u8 0, .int .u8 1, .int .u8 56, .int .u8 2, .int .u8 57, .int .u8 49, .int .u8 28, .int .u8 3, .int .u8 61, .int .u8 58, .int .u8 42, .int .u8 50, .int .u8 38, .int .u8 29, .int .u8 17, .int .u8 4, .int .u8 62, .int .u8 47, .int .u8 59, .int .u8 36, .int .u8 45, .int .u8 43, .int .u8 51, .int .u8 22, .int .u8 53, .int .u8 39, .int .u8 33, .int .u8 30, .int .u8 24, .int .u8 18, .int .u8 12, .int .u8 5, .int .u8 63, .int .u8 55, .int .u8 48, .int .u8 27, .int .u8 60, .int .u8 41, .int .u8 37, .int .u8 16, .int .u8 46, .int .u8 35, .int .u8 44, .int .u8 21, .int .u8 52, .int .u8 32, .int .u8 23, .int .u8 11, .int .u8 54, .int .u8 26, .int .u8 40, .int .u8 15, .int .u8 34, .int .u8 20, .int .u8 31, .int .u8 10, .int .u8 25, .int .u8 14, .int .u8 19, .int .u8 9, .int .u8 13, .int .u8 8, .int .u8 7, .int .u8 6] t frozen | o => o }
end Go.Proofs.YteahiphmhaedpaaGreatDoor.Law
