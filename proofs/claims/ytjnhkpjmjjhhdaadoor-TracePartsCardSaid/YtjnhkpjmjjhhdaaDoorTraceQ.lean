/- TraceParts: events printed in two parts; and those of all nodes. -/
import Derived.Test.YtjnhkpjmjjhhdaaDoorTraceP
import Derived.Test.YtjnhkpjmjjhhdaaDoorTraceE
namespace Go.Proofs.YtjnhkpjmjjhhdaaDoor
open Go.RowKit Law
set_option linter.unusedVariables false

/-- How many events are of a node that stands among the first k. -/
def seenIn (es : List Ev) (k : Nat) (x : Int) : Bool := (es.take k).any fun e => e.node == x
def inN (es : List Ev) (k : Nat) : Int := ((es.filter fun e => seenIn es k e.node).length : Int)
theorem seenIn_snoc (es : List Ev) (k : Nat) (hk : k < es.length) (x : Int) : seenIn es (k + 1) x = (seenIn es k x || (es[k].node == x)) := by
  unfold seenIn
  rw [List.take_succ_eq_append_getElem hk, List.any_append]
  simp
theorem filter_or (p q : Ev → Bool) : ∀ (l : List Ev), (∀ e ∈ l, p e = true → q e = true → False) → (l.filter fun e => p e || q e).length = (l.filter p).length + (l.filter q).length
  | [], _ => rfl
  | e :: l, h => by
    have ih := filter_or p q l (fun x hx => h x (by simp [hx]))
    have hd := h e (by simp)
    cases hp : p e <;> cases hq : q e <;> simp [List.filter_cons, hp, hq, ih] at hd ⊢ <;> omega
theorem inN_zero (es : List Ev) : inN es 0 = 0 := by simp [inN, seenIn]
theorem inN_seen (es : List Ev) (k : Nat) (hk : k < es.length) (h : seenIn es k es[k].node = true) : inN es (k + 1) = inN es k := by
  unfold inN
  have : (fun e : Ev => seenIn es (k + 1) e.node) = fun e : Ev => seenIn es k e.node := by
    funext e
    rw [seenIn_snoc es k hk]
    by_cases hq : es[k].node = e.node
    · rw [← hq, h]; simp
    · have : (es[k].node == e.node) = false := by simpa using hq
      rw [this, Bool.or_false]
  rw [this]
theorem inN_new (es : List Ev) (k : Nat) (hk : k < es.length) (h : seenIn es k es[k].node = false) : inN es (k + 1) = inN es k + ((nodeOf es es[k].node).length : Int) := by
  unfold inN nodeOf
  have h1 : (fun e : Ev => seenIn es (k + 1) e.node) = fun e : Ev => seenIn es k e.node || (e.node == es[k].node) := by
    funext e
    rw [seenIn_snoc es k hk]
    congr 1
    rw [Bool.eq_iff_iff, beq_iff_eq, beq_iff_eq]
    exact eq_comm
  rw [h1, filter_or]
  · omega
  · intro e _ hp hq
    have : e.node = es[k].node := by simpa using hq
    rw [this, h] at hp
    cases hp
theorem inN_all (es : List Ev) : inN es es.length = es.length := by
  unfold inN
  congr 2
  rw [List.filter_eq_self]
  intro e he
  unfold seenIn
  rw [List.take_length, List.any_eq_true]
  exact ⟨e, he, by simp⟩
theorem inN_le (es : List Ev) (k : Nat) : 0 ≤ inN es k ∧ inN es k ≤ es.length := by
  unfold inN
  exact ⟨by omega, by have := List.length_filter_le (fun e : Ev => seenIn es k e.node) es; omega⟩
theorem seenIn_step (es : List Ev) (k : Nat) (x : Int) (j : Nat) (hj : j < k) (hk : k ≤ es.length) : (es.take (j + 1)).any (fun e => e.node == x) = ((es.take j).any (fun e => e.node == x) || (es[j].node == x)) := by
  rw [List.take_succ_eq_append_getElem (by omega), List.any_append]
  simp
theorem printOf_parts (es : List Ev) (k : Nat) : (⟨(printOf es).toArray⟩ : ByteArray) = ⟨(printOf (es.take k)).toArray⟩ ++ ⟨(printOf (es.drop k)).toArray⟩ := by
  rw [str_app]
  congr 2
  unfold printOf
  rw [← List.flatMap_append, List.take_append_drop]
theorem EvAt.drop {w : World} {b off : Nat} {es : List Ev} (h : EvAt w (some ⟨b, off, none⟩) es) (k : Nat) : EvAt w (some ⟨b, off + k * 8, none⟩) (es.drop k) := fun i e he => by
  rw [List.getElem?_drop] at he
  obtain ⟨b', o', hA, hlt, hc⟩ := h (k + i) e he
  injection hA with hA
  injection hA with h1 h2 _
  subst h1 h2
  exact ⟨b, _, rfl, hlt, fun j v hj => by have := hc j v hj; rw [Nat.add_mul] at this; rw [← Nat.add_assoc] at this; exact this⟩
theorem tracePrintN {n : Nat} {r : ByteArray} (A : Option Addr) (c : Nat) (es : List Ev) (hn : es.length = n) (hr : (⟨(printOf es).toArray⟩ : ByteArray) = r) (w : World) (hA : EvAt w A es) (hfit : ∀ e ∈ es, e.Fits) (hl : n ≤ 60) (h : Tabs w) :
    Calls Tryd.prog 14 #[.slice A n c] w fun e w' => e = .returned (.string r) ∧ Below w.heap.size w w' := by
  subst hr; exact tracePrint A c es hn w hA hfit hl h

theorem slice_from (A : Option Addr) (n c k : Nat) (hk : k ≤ n) (W : World) : (Instr.slice 27 (.slice A n c) (some (.int .i64 (k : Int))) none none).run Tryd.prog W = .ok (.slice (if c = k then A else A.map (·.add (k * 8))) (n - k) (c - k)) W := by
  have h1 : (0 : Int) ≤ k ∧ (k : Int) ≤ n := by omega
  simp [Instr.slice, Instr.sliceBounds, Instr.sliceBound, asIntOf, run_underlying Tryd.underlying27, Tryd.sizeOf32, h1, hk, go_sem]
theorem slice_fromE {w : World} {A : Option Addr} {es : List Ev} (hA : EvAt w A es) (n c k : Nat) (hn : es.length = n) (hk : k ≤ n) (hc : n ≤ c) :
    ∃ A2, EvAt w A2 (es.drop k) ∧ ∀ W, (Instr.slice 27 (.slice A n c) (some (.int .i64 (k : Int))) none none).run Tryd.prog W = .ok (.slice A2 (n - k) (c - k)) W := by
  refine ⟨_, ?_, slice_from A n c k hk⟩
  by_cases hck : c = k
  · have : es.drop k = [] := List.drop_eq_nil_of_le (by omega)
    rw [this]
    intro i e he
    simp at he
  · rw [if_neg hck]
    by_cases hes : es.drop k = []
    · rw [hes]
      intro i e he
      simp at he
    · have hl : 0 < es.length := by
        have := List.length_pos_iff.2 hes
        rw [List.length_drop] at this
        omega
      obtain ⟨b, off, rfl, _⟩ := hA 0 es[0] (List.getElem?_eq_getElem hl)
      rw [Option.map_some, Lib.add_plain]
      exact hA.drop k

set_option maxHeartbeats 3200000 in
set_option maxRecDepth 100000 in
theorem walkParts (len n : Nat) (A : Option Addr) (c : Nat) (es : List Ev) (hn : es.length = n) (hmin : min (len : Int) 60 = (n : Int)) (hc : len ≤ c) (hm : c ≤ maxLen) (cut : Int) (hcut : 0 ≤ cut ∧ cut ≤ 255) (w : World) (hA : EvAt w A es) (hfit : ∀ e ∈ es, e.Fits) (h : Tabs w) :
    Calls Tryd.prog 5 #[.slice A len c, .int .u8 cut] w fun e w' => e = .returned (.bool true) ∧ Below w.heap.size w w' := by
  unfold maxLen at hm
  have hn60 : n ≤ 60 := by omega
  have hmax : max (n : Int) 0 = (n : Int) := by omega
  obtain ⟨kc, hkc, hkn⟩ : ∃ kc : Nat, min cut (n : Int) = (kc : Int) ∧ kc ≤ n := ⟨(min cut (n : Int)).toNat, by omega, by omega⟩
  have HN := Lib.hid hn
  have HT := Lib.hid h
  clear h hn
  go_enter Tryd.func5, Tryd.ntmps5
  go_wp2_with fail
  go_loopw [6, 24] (fun m i wr => ∃ k : Nat, k ≤ n ∧ i = .int .i64 k ∧ m = .int .i64 (inN es k) ∧ Below w.heap.size w wr) (fun _ i _ => n - (intOf i).toNat)
  case atStart => exact ⟨0, Nat.zero_le _, rfl, by rw [inN_zero], Below.refl _ _⟩
  case round =>
    obtain ⟨k, hk, rfl, rfl, hb⟩ := hrel
    have hd : 0 ≤ inN es k ∧ inN es k ≤ (n : Int) := by rw [← HN.out]; exact inN_le es k
    by_cases hlt : k < n
    · have hlt' : k < es.length := by rw [HN.out]; exact hlt
      obtain ⟨b, off, rfl, c0, c1, c2, c3, c4, c5, c6, c7⟩ := hA.at_ hb hlt'
      have hb1 := hb.alloc hb.size (.cells es[k].cells 32)
      have ce : (wr.alloc (.cells es[k].cells 32)).cell? ⟨wr.heap.size, 1, none⟩ = some (.int .i64 es[k].node) := by simp [Ev.cells]
      have hkm : max (k : Int) 0 = (k : Int) := by omega
      have hkeep : ∀ wq, Below (wr.alloc (.cells es[k].cells 32)).heap.size (wr.alloc (.cells es[k].cells 32)) wq → ∀ o, (wq.alloc o).cell? ⟨wr.heap.size, 1, none⟩ = some (.int .i64 es[k].node) := by
        intro wq hbq o
        rw [((Below.refl _ wq).alloc (Nat.le_refl _) _).cell (p := ⟨wr.heap.size, 1, none⟩) (by show wr.heap.size < wq.heap.size; have := hbq.size; simp at this; omega), hbq.cell (p := ⟨wr.heap.size, 1, none⟩) (by simp)]
        exact ce
      have hkeep0 : ∀ wq, Below (wr.alloc (.cells es[k].cells 32)).heap.size (wr.alloc (.cells es[k].cells 32)) wq → wq.cell? ⟨wr.heap.size, 1, none⟩ = some (.int .i64 es[k].node) := by
        intro wq hbq
        rw [hbq.cell (p := ⟨wr.heap.size, 1, none⟩) (by simp)]
        exact ce
      go_wp2_with fail
      go_loopw [9, 33] (fun ag j wq => ∃ i : Nat, i ≤ k ∧ j = .int .i64 i ∧ ag = .bool ((es.take i).any fun e => e.node == es[k].node) ∧ Below (wr.alloc (.cells es[k].cells 32)).heap.size (wr.alloc (.cells es[k].cells 32)) wq) (fun _ j _ => k - (intOf j).toNat)
      case atStart => exact ⟨0, Nat.zero_le _, rfl, rfl, Below.refl _ _⟩
      case round =>
        obtain ⟨i, hi, rfl, rfl, hbq⟩ := hrel
        have hbw := hb1.trans (hbq.mono hb1.size)
        by_cases hil : i < k
        · have hil' : i < es.length := by omega
          obtain ⟨b', off', hA', d0, d1, d2, d3, d4, d5, d6, d7⟩ := hA.at_ hbw hil'
          injection hA' with hA'
          injection hA' with hA1 hA2 _
          subst hA1 hA2
          have HS := Lib.hid (seenIn_step es k es[k].node i hil (by omega))
          have ce' := hkeep _ hbq (.cells es[i].cells 32)
          unfold Ev.cells at ce'
          clear c0 c1 c2 c3 c4 c5 c6 c7
          generalize ((es.take i).any fun e => e.node == es[k].node) = v at *
          cases v
          · by_cases hq : es[i].node = es[k].node
            · have hq' : (es[i].node == es[k].node) = true := by simpa using hq
              have HQ := Lib.hid hq'
              clear hq
              go_wp2
              go_roundw
              case rel => exact ⟨i + 1, by omega, by go_num, by rw [HS.out, HQ.out]; rfl, hbq.alloc hbq.size _⟩
              case measure => simp [intOf]; omega
            · have hq' : (es[i].node == es[k].node) = false := by simpa using hq
              have HQ := Lib.hid hq'
              clear hq
              go_wp2
              go_roundw
              case rel => exact ⟨i + 1, by omega, by go_num, by rw [HS.out, HQ.out]; rfl, hbq.alloc hbq.size _⟩
              case measure => simp [intOf]; omega
          · clear d0 d1 d2 d3 d4 d5 d6 d7 ce'
            obtain ⟨b', off', hA', d0, d1, d2, d3, d4, d5, d6, d7⟩ := hA.at_ hbw hil'
            injection hA' with hA'
            injection hA' with hA1 hA2 _
            subst hA1 hA2
            go_wp2
            go_roundw
            case rel => exact ⟨i + 1, by omega, by go_num, by rw [HS.out]; rfl, hbq.alloc hbq.size _⟩
            case measure => simp [intOf]; omega
        · obtain rfl : i = k := by omega
          have hv : ((es.take i).any fun e => e.node == es[i].node) = seenIn es i es[i].node := rfl
          rw [hv]
          have ce' := hkeep0 _ hbq
          have hd2 := inN_le es (i + 1)
          clear hv
          cases hs : seenIn es i es[i].node
          · have HS := Lib.hid (inN_new es i hlt' hs)
            have hnl : (nodeOf es es[i].node).length ≤ n := by have := nodeOf_le es es[i].node; rw [HN.out] at this; exact this
            have hA1 := hA.below hbw
            clear hs c0 c1 c2 c3 c4 c5 c6 c7
            go_wp2_with (go_at_call 12; refine (traceOfN _ c es HN.out es[i].node _ hA1 hn60).mono ?_)
            rintro e w2 ⟨A2, c2, rfl, hE2, hb2⟩
            go_wp2
            go_roundw
            case rel => exact ⟨i + 1, by omega, by go_num, by rw [HS.out], hbw.trans (hb2.mono hbw.size)⟩
            case measure => simp [intOf]; omega
          · have HS := Lib.hid (inN_seen es i hlt' hs)
            clear hs c0 c1 c2 c3 c4 c5 c6 c7
            go_wp2
            go_roundw
            case rel => exact ⟨i + 1, by omega, by go_num, by rw [HS.out], hbw⟩
            case measure => simp [intOf]; omega
    · obtain rfl : k = n := by omega
      have hall : inN es k = (k : Int) := by rw [← HN.out]; exact inN_all es
      rw [hall]
      clear hall hd
      obtain ⟨A2, hA2, hsl⟩ := slice_fromE hA k c kc HN.out hkn (by omega)
      have hT := HT.out.below hb
      have hfitT : ∀ e ∈ es.take kc, e.Fits := fun e he => hfit e (List.mem_of_mem_take he)
      have hfitD : ∀ e ∈ es.drop kc, e.Fits := fun e he => hfit e (List.mem_of_mem_drop he)
      have L1 := printOf_len _ hfitT
      have L2 := printOf_len _ hfitD
      have N1 : (es.take kc).length = kc := by rw [List.length_take, HN.out]; omega
      have N2 : (es.drop kc).length = k - kc := by rw [List.length_drop, HN.out]
      obtain ⟨s1, hs1⟩ : ∃ s1 : ByteArray, (⟨(printOf (es.take kc)).toArray⟩ : ByteArray) = s1 := ⟨_, rfl⟩
      obtain ⟨s2, hs2⟩ : ∃ s2 : ByteArray, (⟨(printOf (es.drop kc)).toArray⟩ : ByteArray) = s2 := ⟨_, rfl⟩
      have hs3 := printOf_parts es kc
      rw [hs1, hs2] at hs3
      have z1 : s1.size ≤ 20000 := by rw [← hs1, ByteArray.size]; simp only [List.size_toArray]; omega
      have z2 : s2.size ≤ 20000 := by rw [← hs2, ByteArray.size]; simp only [List.size_toArray]; omega
      have C1 := fun W : Later wr => tracePrintN A c (es.take kc) N1 hs1 W.val (((hA.below hb).below W.h).take kc) hfitT (by omega) (hT.later W)
      have C2 := fun W : Later wr => tracePrintN A2 (c - kc) (es.drop kc) N2 hs2 W.val ((hA2.below hb).below W.h) hfitD (by omega) (hT.later W)
      have C3 := fun W : Later wr => tracePrintN A c es HN.out hs3 W.val ((hA.below hb).below W.h) hfit hn60 (hT.later W)
      have C4 := fun W : Later wr => works50 W.val (hT.later W)
      have HC := Lib.hid (And.intro C1 (And.intro C2 (And.intro C3 C4)))
      clear C1 C2 C3 C4 hT hfitT hfitD L1 L2 N1 N2 hs1 hs2 hs3 hA2 hA hfit
      go_upto_region 16 with (fail)
      refine wp_region_later (by kernel_rfl) (by kernel_rfl) ?_
      iterate 3 (go_big_quiet_step (fail))
      go_big_quiet_step (exact later_of (HC.out.1 _))
      iterate 3 (go_big_quiet_step (fail))
      go_big_quiet_step (exact later_of (HC.out.2.1 _))
      iterate 2 (go_big_quiet_step (fail))
      go_big_quiet_step (exact later_of (HC.out.2.2.1 _))
      repeat (go_big_quiet_step (exact later_of (HC.out.2.2.2 _)))
      refine wpQuiet_nil ?_
      rintro _ ⟨⟨W, hW⟩, rfl⟩
      go_wp2_with fail
      go_ret
      exact ⟨rfl, hb.trans (hW.mono hb.size)⟩
end Go.Proofs.YtjnhkpjmjjhhdaaDoor
