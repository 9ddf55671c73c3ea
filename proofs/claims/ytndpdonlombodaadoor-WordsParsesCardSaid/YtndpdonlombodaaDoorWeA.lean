/- words.act. -/
import Derived.Test.YtndpdonlombodaaDoorWdZ
namespace Go.Proofs.YtndpdonlombodaaDoor
open Go.RowKit Law
set_option linter.unusedVariables false
set_option linter.unusedSimpArgs false

/-- A box: its cells, none of them frozen. -/
def BoxF (w : World) (B : Nat) (cs : List Value) : Prop := BoxAt w B cs ∧ ∀ j, j < cs.length → w.frozen? ⟨B, j, none⟩ = false
theorem BoxF.keep {w w' : World} {B : Nat} {cs : List Value} (h : BoxF w B cs) (hb : Below w.heap.size w w') : BoxF w' B cs :=
  ⟨h.1.keep hb, fun j hj => (hb.frozen (p := ⟨B, j, none⟩) (World.block_lt_of_cell? _ _ (h.1 j _ (List.getElem?_eq_getElem hj)))).trans (h.2 j hj)⟩
theorem boxF_made (w : World) (cs : List Value) (t : TypeId) : BoxF (w.alloc (.cells cs.toArray t)) w.heap.size cs := ⟨boxAt_made w cs t, fun j hj => by simp⟩
theorem BoxF.other {w : World} {B : Nat} {cs : List Value} (h : BoxF w B cs) {a : Addr} (hne : a.block ≠ B) (v : Value) : BoxF (w.setCell a v) B cs :=
  ⟨fun j u hj => by rw [World.cell?_setCell_other _ _ _ _ (fun e => hne (by first | rw [e] | rw [← e]))]; exact h.1 j u hj, fun j hj => by simpa using h.2 j hj⟩
theorem BoxF.put {w : World} {B : Nat} {cs : List Value} (h : BoxF w B cs) (k : Nat) (hk : k < cs.length) (v : Value) : BoxF (w.setCell ⟨B, k, none⟩ v) B (cs.set k v) := by
  refine ⟨fun j u hj => ?_, fun j hj => by simpa using h.2 j (by simpa using hj)⟩
  by_cases e : j = k
  · subst e
    rw [List.getElem?_set_self hk] at hj
    injection hj with hj
    subst hj
    exact World.cell?_setCell_same _ _ _ (h.1 j _ (List.getElem?_eq_getElem hk))
  · rw [List.getElem?_set_ne (Ne.symm e)] at hj
    rw [World.cell?_setCell_other _ _ _ _ (fun h => e (by injection h with _ h2 _; first | exact h2 | exact h2.symm))]
    exact h.1 j u hj
/-- What act and one hand back. -/
def ActPost (o : Ac × Int) (w : World) (e : Ending) (w' : World) : Prop := ∃ (x : Ac) (A : Option Addr) (n c : Nat), e = .returned (.tuple #[.agg (x.cells A n c).toArray, .int .i64 o.2]) ∧ (o.2 = 0 → x = o.1 ∧ x.b.length = n ∧ w'.ownsRow w.heap.size 5 1 (.slice A n c) n (u8V x.b)) ∧ Below w.heap.size w w'
theorem actPost_bad {o : Ac × Int} {w w' : World} {e : Ending} (x : Ac) (A : Option Addr) (n c : Nat) (k : Int) (he : e = .returned (.tuple #[.agg (x.cells A n c).toArray, .int .i64 k])) (hk : k = o.2) (h0 : ¬ o.2 = 0) (hb : Below w.heap.size w w') : ActPost o w e w' := by
  subst hk; exact ⟨x, A, n, c, he, fun h => absurd h h0, hb⟩
theorem actPost_ok {o : Ac × Int} {w w' : World} {e : Ending} (x : Ac) (A : Option Addr) (n c : Nat) (he : e = .returned (.tuple #[.agg (x.cells A n c).toArray, .int .i64 0])) (hk : o.2 = 0) (hx : x = o.1) (hn : x.b.length = n) (hO : w'.ownsRow w.heap.size 5 1 (.slice A n c) n (u8V x.b)) (hb : Below w.heap.size w w') : ActPost o w e w' :=
  ⟨x, A, n, c, by rw [hk]; exact he, fun _ => ⟨hx, hn, hO⟩, hb⟩
theorem own_nil (w : World) (B : Nat) : w.ownsRow B 5 1 (.slice none 0 0) 0 (u8V []) := ⟨by simp [u8V], .inl ⟨rfl, rfl⟩⟩
theorem own_set {w : World} {B s n b : Nat} {e : TypeId} {v : Value} {xs : List Value} (h : w.ownsRow B e s v n xs) (hb : b < B) (o : Nat) (u : Value) : (w.setCell ⟨b, o, none⟩ u).ownsRow B e s v n xs := own_setOther h h hb o u
theorem own_ap {w : World} {B e s n c m : Nat} {A : Option Addr} {xs : List Value} (h : w.ownsRow B e s (.slice A n c) m xs) : ∀ a, A = some a → B ≤ a.block := fun a ha => (h.lt a.block (by rw [ha]; rfl)).1
set_option maxHeartbeats 3200000 in
set_option maxRecDepth 100000 in
theorem act_1_len (A : Option Addr) (n c : Nat) (hnb : n ≤ 2000000) (w : World) (hm : ¬ (n : Int) = 1) :
    Calls Tryd.prog 40 #[.int .i64 1, .slice A n c] w (ActPost (Ac0, 19) w) := by
  obtain ⟨hz, hsz⟩ := zero_of_info (show (Tryd.prog.info? 29).map (fun i => (i.zero, i.size)) = some (some (.agg #[.int .i64 0, .int .i64 0, .int .i64 0, .int .i64 0, .int .i64 0, .int .i64 0, .int .u32 0, .int .u32 0, .slice none 0 0]), 9) by kernel_rfl)
  have hmb : ((n : Int) != 1) = true := by simpa using hm
  go_enter Tryd.func40, Tryd.ntmps40
  go_wp2
  refine bodyPost_ret (v := .tuple #[.agg #[.int .i64 1, .int .i64 0, .int .i64 0, .int .i64 0, .int .i64 0, .int .i64 0, .int .u32 0, .int .u32 0, .slice none 0 0], .int .i64 19]) (by simp [results, Tryd.results40, go_sem]) rfl ?_
  refine actPost_bad ⟨1, 0, 0, Fa0, []⟩ none 0 0 19 rfl rfl (by decide) ?_
  exact ((Below.refl _ _).alloc (Nat.le_refl _) _).alloc (by simp) _
set_option maxHeartbeats 3200000 in
set_option maxRecDepth 100000 in
theorem act_1_bad (A : Option Addr) (n c : Nat) (hnb : n ≤ 2000000) (w : World) (ws : List (List UInt8)) (hC : ∀ W, Below w.heap.size w W → Calls Tryd.prog 54 #[.slice A n c] W (NumsPost (numsL ws) W)) (hn : n = 1) (hN : numsL ws = none) :
    Calls Tryd.prog 40 #[.int .i64 1, .slice A n c] w (ActPost (Ac0, 5) w) := by
  obtain ⟨hz, hsz⟩ := zero_of_info (show (Tryd.prog.info? 29).map (fun i => (i.zero, i.size)) = some (some (.agg #[.int .i64 0, .int .i64 0, .int .i64 0, .int .i64 0, .int .i64 0, .int .i64 0, .int .u32 0, .int .u32 0, .slice none 0 0]), 9) by kernel_rfl)
  subst hn
  have hb1 : Below w.heap.size w ((w.alloc (.cells #[.int .i64 0, .int .i64 0, .int .i64 0, .int .i64 0, .int .i64 0, .int .i64 0, .int .u32 0, .int .u32 0, .slice none 0 0] 29)).alloc (.cells #[.int .i64 1, .int .i64 0, .int .i64 0, .int .i64 0, .int .i64 0, .int .i64 0, .int .u32 0, .int .u32 0, .slice none 0 0] 29)) := ((Below.refl _ _).alloc (Nat.le_refl _) _).alloc (by simp) _
  have hx2 : BoxF ((w.alloc (.cells #[.int .i64 0, .int .i64 0, .int .i64 0, .int .i64 0, .int .i64 0, .int .i64 0, .int .u32 0, .int .u32 0, .slice none 0 0] 29)).alloc (.cells #[.int .i64 1, .int .i64 0, .int .i64 0, .int .i64 0, .int .i64 0, .int .i64 0, .int .u32 0, .int .u32 0, .slice none 0 0] 29)) w.heap.size [.int .i64 0, .int .i64 0, .int .i64 0, .int .i64 0, .int .i64 0, .int .i64 0, .int .u32 0, .int .u32 0, .slice none 0 0] := BoxF.keep (boxF_made w [.int .i64 0, .int .i64 0, .int .i64 0, .int .i64 0, .int .i64 0, .int .i64 0, .int .u32 0, .int .u32 0, .slice none 0 0] 29) ((Below.refl _ _).alloc (Nat.le_refl _) _)
  have hx6 : BoxF ((w.alloc (.cells #[.int .i64 0, .int .i64 0, .int .i64 0, .int .i64 0, .int .i64 0, .int .i64 0, .int .u32 0, .int .u32 0, .slice none 0 0] 29)).alloc (.cells #[.int .i64 1, .int .i64 0, .int .i64 0, .int .i64 0, .int .i64 0, .int .i64 0, .int .u32 0, .int .u32 0, .slice none 0 0] 29)) (w.heap.size + 1) [.int .i64 1, .int .i64 0, .int .i64 0, .int .i64 0, .int .i64 0, .int .i64 0, .int .u32 0, .int .u32 0, .slice none 0 0] := by
    have h := boxF_made (w.alloc (.cells #[.int .i64 0, .int .i64 0, .int .i64 0, .int .i64 0, .int .i64 0, .int .i64 0, .int .u32 0, .int .u32 0, .slice none 0 0] 29)) [.int .i64 1, .int .i64 0, .int .i64 0, .int .i64 0, .int .i64 0, .int .i64 0, .int .u32 0, .int .u32 0, .slice none 0 0] 29
    rwa [show (w.alloc (.cells #[.int .i64 0, .int .i64 0, .int .i64 0, .int .i64 0, .int .i64 0, .int .i64 0, .int .u32 0, .int .u32 0, .slice none 0 0] 29)).heap.size = w.heap.size + 1 by simp] at h
  have C1 := hC _ hb1
  rw [hN] at C1
  unfold NumsPost at C1
  have C1 := Lib.hid (And.intro C1 hb1)
  have HX := Lib.hid (And.intro hx2 hx6)
  clear hC hN hb1 hx2 hx6
  go_enter Tryd.func40, Tryd.ntmps40
  go_wp2_with fail
  refine C1.out.1.mono ?_
  rintro e w2 ⟨rfl, hq⟩
  have hx2a := HX.out.1.keep hq
  have hx6a := HX.out.2.keep hq
  have u0a := hx2a.1 0 _ rfl
  have fu0a := hx2a.2 0 (by simp)
  have v0a := hx6a.1 0 _ rfl
  have fv0a := hx6a.2 0 (by simp)
  have u1a := hx2a.1 1 _ rfl
  have fu1a := hx2a.2 1 (by simp)
  have v1a := hx6a.1 1 _ rfl
  have fv1a := hx6a.2 1 (by simp)
  have u2a := hx2a.1 2 _ rfl
  have fu2a := hx2a.2 2 (by simp)
  have v2a := hx6a.1 2 _ rfl
  have fv2a := hx6a.2 2 (by simp)
  have u3a := hx2a.1 3 _ rfl
  have fu3a := hx2a.2 3 (by simp)
  have v3a := hx6a.1 3 _ rfl
  have fv3a := hx6a.2 3 (by simp)
  have u4a := hx2a.1 4 _ rfl
  have fu4a := hx2a.2 4 (by simp)
  have v4a := hx6a.1 4 _ rfl
  have fv4a := hx6a.2 4 (by simp)
  have u5a := hx2a.1 5 _ rfl
  have fu5a := hx2a.2 5 (by simp)
  have v5a := hx6a.1 5 _ rfl
  have fv5a := hx6a.2 5 (by simp)
  have u6a := hx2a.1 6 _ rfl
  have fu6a := hx2a.2 6 (by simp)
  have v6a := hx6a.1 6 _ rfl
  have fv6a := hx6a.2 6 (by simp)
  have u7a := hx2a.1 7 _ rfl
  have fu7a := hx2a.2 7 (by simp)
  have v7a := hx6a.1 7 _ rfl
  have fv7a := hx6a.2 7 (by simp)
  have u8a := hx2a.1 8 _ rfl
  have fu8a := hx2a.2 8 (by simp)
  have v8a := hx6a.1 8 _ rfl
  have fv8a := hx6a.2 8 (by simp)
  have HB := Lib.hid (C1.out.2.trans (hq.mono C1.out.2.size))
  clear hq hx2a hx6a
  go_wp2
  refine bodyPost_ret (v := .tuple #[.agg #[.int .i64 1, .int .i64 0, .int .i64 0, .int .i64 0, .int .i64 0, .int .i64 0, .int .u32 0, .int .u32 0, .slice none 0 0], .int .i64 5]) (by simp [results, Tryd.results40, go_sem, *]) rfl ?_
  refine actPost_bad ⟨1, 0, 0, Fa0, []⟩ none 0 0 5 rfl rfl (by decide) ?_
  · skip
    repeat (first | with_reducible refine Below.setCell ?_ (by first | exact Nat.le_refl _ | exact Nat.le_succ _) _ | with_reducible refine Below.drew ?_ | with_reducible refine below_drewN ?_ _)
    exact HB.out
set_option maxHeartbeats 3200000 in
set_option maxRecDepth 100000 in
theorem act_1_ok (A : Option Addr) (n c : Nat) (hnb : n ≤ 2000000) (w : World) (a : Int) (ws : List (List UInt8)) (hC : ∀ W, Below w.heap.size w W → Calls Tryd.prog 54 #[.slice A n c] W (NumsPost (numsL ws) W)) (hn : n = 1) (hN : numsL ws = some [a]) :
    Calls Tryd.prog 40 #[.int .i64 1, .slice A n c] w (ActPost (⟨1, 0, a, Fa0, []⟩, 0) w) := by
  obtain ⟨hz, hsz⟩ := zero_of_info (show (Tryd.prog.info? 29).map (fun i => (i.zero, i.size)) = some (some (.agg #[.int .i64 0, .int .i64 0, .int .i64 0, .int .i64 0, .int .i64 0, .int .i64 0, .int .u32 0, .int .u32 0, .slice none 0 0]), 9) by kernel_rfl)
  subst hn
  have hb1 : Below w.heap.size w ((w.alloc (.cells #[.int .i64 0, .int .i64 0, .int .i64 0, .int .i64 0, .int .i64 0, .int .i64 0, .int .u32 0, .int .u32 0, .slice none 0 0] 29)).alloc (.cells #[.int .i64 1, .int .i64 0, .int .i64 0, .int .i64 0, .int .i64 0, .int .i64 0, .int .u32 0, .int .u32 0, .slice none 0 0] 29)) := ((Below.refl _ _).alloc (Nat.le_refl _) _).alloc (by simp) _
  have hx2 : BoxF ((w.alloc (.cells #[.int .i64 0, .int .i64 0, .int .i64 0, .int .i64 0, .int .i64 0, .int .i64 0, .int .u32 0, .int .u32 0, .slice none 0 0] 29)).alloc (.cells #[.int .i64 1, .int .i64 0, .int .i64 0, .int .i64 0, .int .i64 0, .int .i64 0, .int .u32 0, .int .u32 0, .slice none 0 0] 29)) w.heap.size [.int .i64 0, .int .i64 0, .int .i64 0, .int .i64 0, .int .i64 0, .int .i64 0, .int .u32 0, .int .u32 0, .slice none 0 0] := BoxF.keep (boxF_made w [.int .i64 0, .int .i64 0, .int .i64 0, .int .i64 0, .int .i64 0, .int .i64 0, .int .u32 0, .int .u32 0, .slice none 0 0] 29) ((Below.refl _ _).alloc (Nat.le_refl _) _)
  have hx6 : BoxF ((w.alloc (.cells #[.int .i64 0, .int .i64 0, .int .i64 0, .int .i64 0, .int .i64 0, .int .i64 0, .int .u32 0, .int .u32 0, .slice none 0 0] 29)).alloc (.cells #[.int .i64 1, .int .i64 0, .int .i64 0, .int .i64 0, .int .i64 0, .int .i64 0, .int .u32 0, .int .u32 0, .slice none 0 0] 29)) (w.heap.size + 1) [.int .i64 1, .int .i64 0, .int .i64 0, .int .i64 0, .int .i64 0, .int .i64 0, .int .u32 0, .int .u32 0, .slice none 0 0] := by
    have h := boxF_made (w.alloc (.cells #[.int .i64 0, .int .i64 0, .int .i64 0, .int .i64 0, .int .i64 0, .int .i64 0, .int .u32 0, .int .u32 0, .slice none 0 0] 29)) [.int .i64 1, .int .i64 0, .int .i64 0, .int .i64 0, .int .i64 0, .int .i64 0, .int .u32 0, .int .u32 0, .slice none 0 0] 29
    rwa [show (w.alloc (.cells #[.int .i64 0, .int .i64 0, .int .i64 0, .int .i64 0, .int .i64 0, .int .i64 0, .int .u32 0, .int .u32 0, .slice none 0 0] 29)).heap.size = w.heap.size + 1 by simp] at h
  have C1 := hC _ hb1
  rw [hN] at C1
  unfold NumsPost at C1
  have C1 := Lib.hid (And.intro C1 hb1)
  have HX := Lib.hid (And.intro hx2 hx6)
  clear hC hN hb1 hx2 hx6
  go_enter Tryd.func40, Tryd.ntmps40
  go_wp2_with fail
  refine C1.out.1.mono ?_
  rintro e w2 ⟨A2, c2, rfl, hap, hrow, hq⟩
  have hx2a := HX.out.1.keep hq
  have hx6a := HX.out.2.keep hq
  have u0a := hx2a.1 0 _ rfl
  have fu0a := hx2a.2 0 (by simp)
  have v0a := hx6a.1 0 _ rfl
  have fv0a := hx6a.2 0 (by simp)
  have u1a := hx2a.1 1 _ rfl
  have fu1a := hx2a.2 1 (by simp)
  have v1a := hx6a.1 1 _ rfl
  have fv1a := hx6a.2 1 (by simp)
  have u2a := hx2a.1 2 _ rfl
  have fu2a := hx2a.2 2 (by simp)
  have v2a := hx6a.1 2 _ rfl
  have fv2a := hx6a.2 2 (by simp)
  have u3a := hx2a.1 3 _ rfl
  have fu3a := hx2a.2 3 (by simp)
  have v3a := hx6a.1 3 _ rfl
  have fv3a := hx6a.2 3 (by simp)
  have u4a := hx2a.1 4 _ rfl
  have fu4a := hx2a.2 4 (by simp)
  have v4a := hx6a.1 4 _ rfl
  have fv4a := hx6a.2 4 (by simp)
  have u5a := hx2a.1 5 _ rfl
  have fu5a := hx2a.2 5 (by simp)
  have v5a := hx6a.1 5 _ rfl
  have fv5a := hx6a.2 5 (by simp)
  have u6a := hx2a.1 6 _ rfl
  have fu6a := hx2a.2 6 (by simp)
  have v6a := hx6a.1 6 _ rfl
  have fv6a := hx6a.2 6 (by simp)
  have u7a := hx2a.1 7 _ rfl
  have fu7a := hx2a.2 7 (by simp)
  have v7a := hx6a.1 7 _ rfl
  have fv7a := hx6a.2 7 (by simp)
  have u8a := hx2a.1 8 _ rfl
  have fu8a := hx2a.2 8 (by simp)
  have v8a := hx6a.1 8 _ rfl
  have fv8a := hx6a.2 8 (by simp)
  have HB := Lib.hid (C1.out.2.trans (hq.mono C1.out.2.size))
  obtain ⟨b2, o2, rfl, hc0⟩ := hrow 0 _ rfl
  have hap := hap _ rfl
  have hap2 : ¬ b2 = w.heap.size ∧ ¬ b2 = w.heap.size + 1 := by simp at hap; omega
  obtain ⟨hap3, hap4⟩ := hap2
  simp only [Nat.add_zero] at hc0
  clear hq hrow hap hx2a hx6a
  go_wp2
  refine bodyPost_ret (v := .tuple #[.agg #[.int .i64 1, .int .i64 0, .int .i64 a, .int .i64 0, .int .i64 0, .int .i64 0, .int .u32 0, .int .u32 0, .slice none 0 0], .int .i64 0]) (by simp [results, Tryd.results40, go_sem, *]) rfl ?_
  refine actPost_ok ⟨1, 0, a, Fa0, []⟩ none 0 0 rfl rfl rfl rfl (own_nil _ _) ?_
  · skip
    repeat (first | with_reducible refine Below.setCell ?_ (by first | exact Nat.le_refl _ | exact Nat.le_succ _) _ | with_reducible refine Below.drew ?_ | with_reducible refine below_drewN ?_ _)
    exact HB.out
set_option maxHeartbeats 3200000 in
set_option maxRecDepth 100000 in
theorem act_2_len (A : Option Addr) (n c : Nat) (hnb : n ≤ 2000000) (w : World) (hm : ¬ (n : Int) = 2) :
    Calls Tryd.prog 40 #[.int .i64 2, .slice A n c] w (ActPost (Ac0, 19) w) := by
  obtain ⟨hz, hsz⟩ := zero_of_info (show (Tryd.prog.info? 29).map (fun i => (i.zero, i.size)) = some (some (.agg #[.int .i64 0, .int .i64 0, .int .i64 0, .int .i64 0, .int .i64 0, .int .i64 0, .int .u32 0, .int .u32 0, .slice none 0 0]), 9) by kernel_rfl)
  have hmb : ((n : Int) != 2) = true := by simpa using hm
  go_enter Tryd.func40, Tryd.ntmps40
  go_wp2
  refine bodyPost_ret (v := .tuple #[.agg #[.int .i64 2, .int .i64 0, .int .i64 0, .int .i64 0, .int .i64 0, .int .i64 0, .int .u32 0, .int .u32 0, .slice none 0 0], .int .i64 19]) (by simp [results, Tryd.results40, go_sem]) rfl ?_
  refine actPost_bad ⟨2, 0, 0, Fa0, []⟩ none 0 0 19 rfl rfl (by decide) ?_
  exact ((Below.refl _ _).alloc (Nat.le_refl _) _).alloc (by simp) _
set_option maxHeartbeats 3200000 in
set_option maxRecDepth 100000 in
theorem act_2_bad (A : Option Addr) (n c : Nat) (hnb : n ≤ 2000000) (w : World) (ws : List (List UInt8)) (hC : ∀ W, Below w.heap.size w W → Calls Tryd.prog 54 #[.slice A n c] W (NumsPost (numsL ws) W)) (hn : n = 2) (hN : numsL ws = none) :
    Calls Tryd.prog 40 #[.int .i64 2, .slice A n c] w (ActPost (Ac0, 5) w) := by
  obtain ⟨hz, hsz⟩ := zero_of_info (show (Tryd.prog.info? 29).map (fun i => (i.zero, i.size)) = some (some (.agg #[.int .i64 0, .int .i64 0, .int .i64 0, .int .i64 0, .int .i64 0, .int .i64 0, .int .u32 0, .int .u32 0, .slice none 0 0]), 9) by kernel_rfl)
  subst hn
  have hb1 : Below w.heap.size w ((w.alloc (.cells #[.int .i64 0, .int .i64 0, .int .i64 0, .int .i64 0, .int .i64 0, .int .i64 0, .int .u32 0, .int .u32 0, .slice none 0 0] 29)).alloc (.cells #[.int .i64 2, .int .i64 0, .int .i64 0, .int .i64 0, .int .i64 0, .int .i64 0, .int .u32 0, .int .u32 0, .slice none 0 0] 29)) := ((Below.refl _ _).alloc (Nat.le_refl _) _).alloc (by simp) _
  have hx2 : BoxF ((w.alloc (.cells #[.int .i64 0, .int .i64 0, .int .i64 0, .int .i64 0, .int .i64 0, .int .i64 0, .int .u32 0, .int .u32 0, .slice none 0 0] 29)).alloc (.cells #[.int .i64 2, .int .i64 0, .int .i64 0, .int .i64 0, .int .i64 0, .int .i64 0, .int .u32 0, .int .u32 0, .slice none 0 0] 29)) w.heap.size [.int .i64 0, .int .i64 0, .int .i64 0, .int .i64 0, .int .i64 0, .int .i64 0, .int .u32 0, .int .u32 0, .slice none 0 0] := BoxF.keep (boxF_made w [.int .i64 0, .int .i64 0, .int .i64 0, .int .i64 0, .int .i64 0, .int .i64 0, .int .u32 0, .int .u32 0, .slice none 0 0] 29) ((Below.refl _ _).alloc (Nat.le_refl _) _)
  have hx6 : BoxF ((w.alloc (.cells #[.int .i64 0, .int .i64 0, .int .i64 0, .int .i64 0, .int .i64 0, .int .i64 0, .int .u32 0, .int .u32 0, .slice none 0 0] 29)).alloc (.cells #[.int .i64 2, .int .i64 0, .int .i64 0, .int .i64 0, .int .i64 0, .int .i64 0, .int .u32 0, .int .u32 0, .slice none 0 0] 29)) (w.heap.size + 1) [.int .i64 2, .int .i64 0, .int .i64 0, .int .i64 0, .int .i64 0, .int .i64 0, .int .u32 0, .int .u32 0, .slice none 0 0] := by
    have h := boxF_made (w.alloc (.cells #[.int .i64 0, .int .i64 0, .int .i64 0, .int .i64 0, .int .i64 0, .int .i64 0, .int .u32 0, .int .u32 0, .slice none 0 0] 29)) [.int .i64 2, .int .i64 0, .int .i64 0, .int .i64 0, .int .i64 0, .int .i64 0, .int .u32 0, .int .u32 0, .slice none 0 0] 29
    rwa [show (w.alloc (.cells #[.int .i64 0, .int .i64 0, .int .i64 0, .int .i64 0, .int .i64 0, .int .i64 0, .int .u32 0, .int .u32 0, .slice none 0 0] 29)).heap.size = w.heap.size + 1 by simp] at h
  have C1 := hC _ hb1
  rw [hN] at C1
  unfold NumsPost at C1
  have C1 := Lib.hid (And.intro C1 hb1)
  have HX := Lib.hid (And.intro hx2 hx6)
  clear hC hN hb1 hx2 hx6
  go_enter Tryd.func40, Tryd.ntmps40
  go_wp2_with fail
  refine C1.out.1.mono ?_
  rintro e w2 ⟨rfl, hq⟩
  have hx2a := HX.out.1.keep hq
  have hx6a := HX.out.2.keep hq
  have u0a := hx2a.1 0 _ rfl
  have fu0a := hx2a.2 0 (by simp)
  have v0a := hx6a.1 0 _ rfl
  have fv0a := hx6a.2 0 (by simp)
  have u1a := hx2a.1 1 _ rfl
  have fu1a := hx2a.2 1 (by simp)
  have v1a := hx6a.1 1 _ rfl
  have fv1a := hx6a.2 1 (by simp)
  have u2a := hx2a.1 2 _ rfl
  have fu2a := hx2a.2 2 (by simp)
  have v2a := hx6a.1 2 _ rfl
  have fv2a := hx6a.2 2 (by simp)
  have u3a := hx2a.1 3 _ rfl
  have fu3a := hx2a.2 3 (by simp)
  have v3a := hx6a.1 3 _ rfl
  have fv3a := hx6a.2 3 (by simp)
  have u4a := hx2a.1 4 _ rfl
  have fu4a := hx2a.2 4 (by simp)
  have v4a := hx6a.1 4 _ rfl
  have fv4a := hx6a.2 4 (by simp)
  have u5a := hx2a.1 5 _ rfl
  have fu5a := hx2a.2 5 (by simp)
  have v5a := hx6a.1 5 _ rfl
  have fv5a := hx6a.2 5 (by simp)
  have u6a := hx2a.1 6 _ rfl
  have fu6a := hx2a.2 6 (by simp)
  have v6a := hx6a.1 6 _ rfl
  have fv6a := hx6a.2 6 (by simp)
  have u7a := hx2a.1 7 _ rfl
  have fu7a := hx2a.2 7 (by simp)
  have v7a := hx6a.1 7 _ rfl
  have fv7a := hx6a.2 7 (by simp)
  have u8a := hx2a.1 8 _ rfl
  have fu8a := hx2a.2 8 (by simp)
  have v8a := hx6a.1 8 _ rfl
  have fv8a := hx6a.2 8 (by simp)
  have HB := Lib.hid (C1.out.2.trans (hq.mono C1.out.2.size))
  clear hq hx2a hx6a
  go_wp2
  refine bodyPost_ret (v := .tuple #[.agg #[.int .i64 2, .int .i64 0, .int .i64 0, .int .i64 0, .int .i64 0, .int .i64 0, .int .u32 0, .int .u32 0, .slice none 0 0], .int .i64 5]) (by simp [results, Tryd.results40, go_sem, *]) rfl ?_
  refine actPost_bad ⟨2, 0, 0, Fa0, []⟩ none 0 0 5 rfl rfl (by decide) ?_
  · skip
    repeat (first | with_reducible refine Below.setCell ?_ (by first | exact Nat.le_refl _ | exact Nat.le_succ _) _ | with_reducible refine Below.drew ?_ | with_reducible refine below_drewN ?_ _)
    exact HB.out
set_option maxHeartbeats 3200000 in
set_option maxRecDepth 100000 in
theorem act_2_ok (A : Option Addr) (n c : Nat) (hnb : n ≤ 2000000) (w : World) (a b : Int) (ws : List (List UInt8)) (hC : ∀ W, Below w.heap.size w W → Calls Tryd.prog 54 #[.slice A n c] W (NumsPost (numsL ws) W)) (hn : n = 2) (hN : numsL ws = some [a, b]) :
    Calls Tryd.prog 40 #[.int .i64 2, .slice A n c] w (ActPost (⟨2, a, b, Fa0, []⟩, 0) w) := by
  obtain ⟨hz, hsz⟩ := zero_of_info (show (Tryd.prog.info? 29).map (fun i => (i.zero, i.size)) = some (some (.agg #[.int .i64 0, .int .i64 0, .int .i64 0, .int .i64 0, .int .i64 0, .int .i64 0, .int .u32 0, .int .u32 0, .slice none 0 0]), 9) by kernel_rfl)
  subst hn
  have hb1 : Below w.heap.size w ((w.alloc (.cells #[.int .i64 0, .int .i64 0, .int .i64 0, .int .i64 0, .int .i64 0, .int .i64 0, .int .u32 0, .int .u32 0, .slice none 0 0] 29)).alloc (.cells #[.int .i64 2, .int .i64 0, .int .i64 0, .int .i64 0, .int .i64 0, .int .i64 0, .int .u32 0, .int .u32 0, .slice none 0 0] 29)) := ((Below.refl _ _).alloc (Nat.le_refl _) _).alloc (by simp) _
  have hx2 : BoxF ((w.alloc (.cells #[.int .i64 0, .int .i64 0, .int .i64 0, .int .i64 0, .int .i64 0, .int .i64 0, .int .u32 0, .int .u32 0, .slice none 0 0] 29)).alloc (.cells #[.int .i64 2, .int .i64 0, .int .i64 0, .int .i64 0, .int .i64 0, .int .i64 0, .int .u32 0, .int .u32 0, .slice none 0 0] 29)) w.heap.size [.int .i64 0, .int .i64 0, .int .i64 0, .int .i64 0, .int .i64 0, .int .i64 0, .int .u32 0, .int .u32 0, .slice none 0 0] := BoxF.keep (boxF_made w [.int .i64 0, .int .i64 0, .int .i64 0, .int .i64 0, .int .i64 0, .int .i64 0, .int .u32 0, .int .u32 0, .slice none 0 0] 29) ((Below.refl _ _).alloc (Nat.le_refl _) _)
  have hx6 : BoxF ((w.alloc (.cells #[.int .i64 0, .int .i64 0, .int .i64 0, .int .i64 0, .int .i64 0, .int .i64 0, .int .u32 0, .int .u32 0, .slice none 0 0] 29)).alloc (.cells #[.int .i64 2, .int .i64 0, .int .i64 0, .int .i64 0, .int .i64 0, .int .i64 0, .int .u32 0, .int .u32 0, .slice none 0 0] 29)) (w.heap.size + 1) [.int .i64 2, .int .i64 0, .int .i64 0, .int .i64 0, .int .i64 0, .int .i64 0, .int .u32 0, .int .u32 0, .slice none 0 0] := by
    have h := boxF_made (w.alloc (.cells #[.int .i64 0, .int .i64 0, .int .i64 0, .int .i64 0, .int .i64 0, .int .i64 0, .int .u32 0, .int .u32 0, .slice none 0 0] 29)) [.int .i64 2, .int .i64 0, .int .i64 0, .int .i64 0, .int .i64 0, .int .i64 0, .int .u32 0, .int .u32 0, .slice none 0 0] 29
    rwa [show (w.alloc (.cells #[.int .i64 0, .int .i64 0, .int .i64 0, .int .i64 0, .int .i64 0, .int .i64 0, .int .u32 0, .int .u32 0, .slice none 0 0] 29)).heap.size = w.heap.size + 1 by simp] at h
  have C1 := hC _ hb1
  rw [hN] at C1
  unfold NumsPost at C1
  have C1 := Lib.hid (And.intro C1 hb1)
  have HX := Lib.hid (And.intro hx2 hx6)
  clear hC hN hb1 hx2 hx6
  go_enter Tryd.func40, Tryd.ntmps40
  go_wp2_with fail
  refine C1.out.1.mono ?_
  rintro e w2 ⟨A2, c2, rfl, hap, hrow, hq⟩
  have hx2a := HX.out.1.keep hq
  have hx6a := HX.out.2.keep hq
  have u0a := hx2a.1 0 _ rfl
  have fu0a := hx2a.2 0 (by simp)
  have v0a := hx6a.1 0 _ rfl
  have fv0a := hx6a.2 0 (by simp)
  have u1a := hx2a.1 1 _ rfl
  have fu1a := hx2a.2 1 (by simp)
  have v1a := hx6a.1 1 _ rfl
  have fv1a := hx6a.2 1 (by simp)
  have u2a := hx2a.1 2 _ rfl
  have fu2a := hx2a.2 2 (by simp)
  have v2a := hx6a.1 2 _ rfl
  have fv2a := hx6a.2 2 (by simp)
  have u3a := hx2a.1 3 _ rfl
  have fu3a := hx2a.2 3 (by simp)
  have v3a := hx6a.1 3 _ rfl
  have fv3a := hx6a.2 3 (by simp)
  have u4a := hx2a.1 4 _ rfl
  have fu4a := hx2a.2 4 (by simp)
  have v4a := hx6a.1 4 _ rfl
  have fv4a := hx6a.2 4 (by simp)
  have u5a := hx2a.1 5 _ rfl
  have fu5a := hx2a.2 5 (by simp)
  have v5a := hx6a.1 5 _ rfl
  have fv5a := hx6a.2 5 (by simp)
  have u6a := hx2a.1 6 _ rfl
  have fu6a := hx2a.2 6 (by simp)
  have v6a := hx6a.1 6 _ rfl
  have fv6a := hx6a.2 6 (by simp)
  have u7a := hx2a.1 7 _ rfl
  have fu7a := hx2a.2 7 (by simp)
  have v7a := hx6a.1 7 _ rfl
  have fv7a := hx6a.2 7 (by simp)
  have u8a := hx2a.1 8 _ rfl
  have fu8a := hx2a.2 8 (by simp)
  have v8a := hx6a.1 8 _ rfl
  have fv8a := hx6a.2 8 (by simp)
  have HB := Lib.hid (C1.out.2.trans (hq.mono C1.out.2.size))
  obtain ⟨b2, o2, rfl, hc0⟩ := hrow 0 _ rfl
  have hap := hap _ rfl
  have hap2 : ¬ b2 = w.heap.size ∧ ¬ b2 = w.heap.size + 1 := by simp at hap; omega
  obtain ⟨hap3, hap4⟩ := hap2
  have hc1 : w2.cell? ⟨b2, o2 + 1, none⟩ = some (.int .i64 b) := by
    obtain ⟨b3, o3, he, hc⟩ := hrow 1 _ rfl
    injection he with he
    injection he with h1 h2 h3
    subst h1 h2
    exact hc
  simp only [Nat.add_zero] at hc0
  clear hq hrow hap hx2a hx6a
  go_wp2_with fail
  go_big_region
  go_wp2
  refine bodyPost_ret (v := .tuple #[.agg #[.int .i64 2, .int .i64 a, .int .i64 b, .int .i64 0, .int .i64 0, .int .i64 0, .int .u32 0, .int .u32 0, .slice none 0 0], .int .i64 0]) (by simp [results, Tryd.results40, go_sem, *]) rfl ?_
  refine actPost_ok ⟨2, a, b, Fa0, []⟩ none 0 0 rfl rfl rfl rfl (own_nil _ _) ?_
  · skip
    repeat (first | with_reducible refine Below.setCell ?_ (by first | exact Nat.le_refl _ | exact Nat.le_succ _) _ | with_reducible refine Below.drew ?_ | with_reducible refine below_drewN ?_ _)
    exact HB.out
set_option maxHeartbeats 3200000 in
set_option maxRecDepth 100000 in
theorem act_o_len (k : Int) (A : Option Addr) (n c : Nat) (hnb : n ≤ 2000000) (w : World) (q6 : (k == 6) = false) (q2 : (k == 2) = false) (q1 : (k == 1) = false) (hm : ¬ (n : Int) = 1) :
    Calls Tryd.prog 40 #[.int .i64 k, .slice A n c] w (ActPost (Ac0, 19) w) := by
  obtain ⟨hz, hsz⟩ := zero_of_info (show (Tryd.prog.info? 29).map (fun i => (i.zero, i.size)) = some (some (.agg #[.int .i64 0, .int .i64 0, .int .i64 0, .int .i64 0, .int .i64 0, .int .i64 0, .int .u32 0, .int .u32 0, .slice none 0 0]), 9) by kernel_rfl)
  have hmb : ((n : Int) != 1) = true := by simpa using hm
  go_enter Tryd.func40, Tryd.ntmps40
  go_wp2
  refine bodyPost_ret (v := .tuple #[.agg #[.int .i64 k, .int .i64 0, .int .i64 0, .int .i64 0, .int .i64 0, .int .i64 0, .int .u32 0, .int .u32 0, .slice none 0 0], .int .i64 19]) (by simp [results, Tryd.results40, go_sem]) rfl ?_
  refine actPost_bad ⟨k, 0, 0, Fa0, []⟩ none 0 0 19 rfl rfl (by decide) ?_
  exact ((Below.refl _ _).alloc (Nat.le_refl _) _).alloc (by simp) _
set_option maxHeartbeats 3200000 in
set_option maxRecDepth 100000 in
theorem act_o_bad (k : Int) (A : Option Addr) (n c : Nat) (hnb : n ≤ 2000000) (w : World) (q6 : (k == 6) = false) (q2 : (k == 2) = false) (q1 : (k == 1) = false) (ws : List (List UInt8)) (hC : ∀ W, Below w.heap.size w W → Calls Tryd.prog 54 #[.slice A n c] W (NumsPost (numsL ws) W)) (hn : n = 1) (hN : numsL ws = none) :
    Calls Tryd.prog 40 #[.int .i64 k, .slice A n c] w (ActPost (Ac0, 5) w) := by
  obtain ⟨hz, hsz⟩ := zero_of_info (show (Tryd.prog.info? 29).map (fun i => (i.zero, i.size)) = some (some (.agg #[.int .i64 0, .int .i64 0, .int .i64 0, .int .i64 0, .int .i64 0, .int .i64 0, .int .u32 0, .int .u32 0, .slice none 0 0]), 9) by kernel_rfl)
  subst hn
  have hb1 : Below w.heap.size w ((w.alloc (.cells #[.int .i64 0, .int .i64 0, .int .i64 0, .int .i64 0, .int .i64 0, .int .i64 0, .int .u32 0, .int .u32 0, .slice none 0 0] 29)).alloc (.cells #[.int .i64 k, .int .i64 0, .int .i64 0, .int .i64 0, .int .i64 0, .int .i64 0, .int .u32 0, .int .u32 0, .slice none 0 0] 29)) := ((Below.refl _ _).alloc (Nat.le_refl _) _).alloc (by simp) _
  have hx2 : BoxF ((w.alloc (.cells #[.int .i64 0, .int .i64 0, .int .i64 0, .int .i64 0, .int .i64 0, .int .i64 0, .int .u32 0, .int .u32 0, .slice none 0 0] 29)).alloc (.cells #[.int .i64 k, .int .i64 0, .int .i64 0, .int .i64 0, .int .i64 0, .int .i64 0, .int .u32 0, .int .u32 0, .slice none 0 0] 29)) w.heap.size [.int .i64 0, .int .i64 0, .int .i64 0, .int .i64 0, .int .i64 0, .int .i64 0, .int .u32 0, .int .u32 0, .slice none 0 0] := BoxF.keep (boxF_made w [.int .i64 0, .int .i64 0, .int .i64 0, .int .i64 0, .int .i64 0, .int .i64 0, .int .u32 0, .int .u32 0, .slice none 0 0] 29) ((Below.refl _ _).alloc (Nat.le_refl _) _)
  have hx6 : BoxF ((w.alloc (.cells #[.int .i64 0, .int .i64 0, .int .i64 0, .int .i64 0, .int .i64 0, .int .i64 0, .int .u32 0, .int .u32 0, .slice none 0 0] 29)).alloc (.cells #[.int .i64 k, .int .i64 0, .int .i64 0, .int .i64 0, .int .i64 0, .int .i64 0, .int .u32 0, .int .u32 0, .slice none 0 0] 29)) (w.heap.size + 1) [.int .i64 k, .int .i64 0, .int .i64 0, .int .i64 0, .int .i64 0, .int .i64 0, .int .u32 0, .int .u32 0, .slice none 0 0] := by
    have h := boxF_made (w.alloc (.cells #[.int .i64 0, .int .i64 0, .int .i64 0, .int .i64 0, .int .i64 0, .int .i64 0, .int .u32 0, .int .u32 0, .slice none 0 0] 29)) [.int .i64 k, .int .i64 0, .int .i64 0, .int .i64 0, .int .i64 0, .int .i64 0, .int .u32 0, .int .u32 0, .slice none 0 0] 29
    rwa [show (w.alloc (.cells #[.int .i64 0, .int .i64 0, .int .i64 0, .int .i64 0, .int .i64 0, .int .i64 0, .int .u32 0, .int .u32 0, .slice none 0 0] 29)).heap.size = w.heap.size + 1 by simp] at h
  have C1 := hC _ hb1
  rw [hN] at C1
  unfold NumsPost at C1
  have C1 := Lib.hid (And.intro C1 hb1)
  have HX := Lib.hid (And.intro hx2 hx6)
  clear hC hN hb1 hx2 hx6
  go_enter Tryd.func40, Tryd.ntmps40
  go_wp2_with fail
  refine C1.out.1.mono ?_
  rintro e w2 ⟨rfl, hq⟩
  have hx2a := HX.out.1.keep hq
  have hx6a := HX.out.2.keep hq
  have u0a := hx2a.1 0 _ rfl
  have fu0a := hx2a.2 0 (by simp)
  have v0a := hx6a.1 0 _ rfl
  have fv0a := hx6a.2 0 (by simp)
  have u1a := hx2a.1 1 _ rfl
  have fu1a := hx2a.2 1 (by simp)
  have v1a := hx6a.1 1 _ rfl
  have fv1a := hx6a.2 1 (by simp)
  have u2a := hx2a.1 2 _ rfl
  have fu2a := hx2a.2 2 (by simp)
  have v2a := hx6a.1 2 _ rfl
  have fv2a := hx6a.2 2 (by simp)
  have u3a := hx2a.1 3 _ rfl
  have fu3a := hx2a.2 3 (by simp)
  have v3a := hx6a.1 3 _ rfl
  have fv3a := hx6a.2 3 (by simp)
  have u4a := hx2a.1 4 _ rfl
  have fu4a := hx2a.2 4 (by simp)
  have v4a := hx6a.1 4 _ rfl
  have fv4a := hx6a.2 4 (by simp)
  have u5a := hx2a.1 5 _ rfl
  have fu5a := hx2a.2 5 (by simp)
  have v5a := hx6a.1 5 _ rfl
  have fv5a := hx6a.2 5 (by simp)
  have u6a := hx2a.1 6 _ rfl
  have fu6a := hx2a.2 6 (by simp)
  have v6a := hx6a.1 6 _ rfl
  have fv6a := hx6a.2 6 (by simp)
  have u7a := hx2a.1 7 _ rfl
  have fu7a := hx2a.2 7 (by simp)
  have v7a := hx6a.1 7 _ rfl
  have fv7a := hx6a.2 7 (by simp)
  have u8a := hx2a.1 8 _ rfl
  have fu8a := hx2a.2 8 (by simp)
  have v8a := hx6a.1 8 _ rfl
  have fv8a := hx6a.2 8 (by simp)
  have HB := Lib.hid (C1.out.2.trans (hq.mono C1.out.2.size))
  clear hq hx2a hx6a
  go_wp2
  refine bodyPost_ret (v := .tuple #[.agg #[.int .i64 k, .int .i64 0, .int .i64 0, .int .i64 0, .int .i64 0, .int .i64 0, .int .u32 0, .int .u32 0, .slice none 0 0], .int .i64 5]) (by simp [results, Tryd.results40, go_sem, *]) rfl ?_
  refine actPost_bad ⟨k, 0, 0, Fa0, []⟩ none 0 0 5 rfl rfl (by decide) ?_
  · skip
    repeat (first | with_reducible refine Below.setCell ?_ (by first | exact Nat.le_refl _ | exact Nat.le_succ _) _ | with_reducible refine Below.drew ?_ | with_reducible refine below_drewN ?_ _)
    exact HB.out
set_option maxHeartbeats 3200000 in
set_option maxRecDepth 100000 in
theorem act_o_ok (k : Int) (A : Option Addr) (n c : Nat) (hnb : n ≤ 2000000) (w : World) (q6 : (k == 6) = false) (q2 : (k == 2) = false) (q1 : (k == 1) = false) (a : Int) (ws : List (List UInt8)) (hC : ∀ W, Below w.heap.size w W → Calls Tryd.prog 54 #[.slice A n c] W (NumsPost (numsL ws) W)) (hn : n = 1) (hN : numsL ws = some [a]) :
    Calls Tryd.prog 40 #[.int .i64 k, .slice A n c] w (ActPost (⟨k, a, 0, Fa0, []⟩, 0) w) := by
  obtain ⟨hz, hsz⟩ := zero_of_info (show (Tryd.prog.info? 29).map (fun i => (i.zero, i.size)) = some (some (.agg #[.int .i64 0, .int .i64 0, .int .i64 0, .int .i64 0, .int .i64 0, .int .i64 0, .int .u32 0, .int .u32 0, .slice none 0 0]), 9) by kernel_rfl)
  subst hn
  have hb1 : Below w.heap.size w ((w.alloc (.cells #[.int .i64 0, .int .i64 0, .int .i64 0, .int .i64 0, .int .i64 0, .int .i64 0, .int .u32 0, .int .u32 0, .slice none 0 0] 29)).alloc (.cells #[.int .i64 k, .int .i64 0, .int .i64 0, .int .i64 0, .int .i64 0, .int .i64 0, .int .u32 0, .int .u32 0, .slice none 0 0] 29)) := ((Below.refl _ _).alloc (Nat.le_refl _) _).alloc (by simp) _
  have hx2 : BoxF ((w.alloc (.cells #[.int .i64 0, .int .i64 0, .int .i64 0, .int .i64 0, .int .i64 0, .int .i64 0, .int .u32 0, .int .u32 0, .slice none 0 0] 29)).alloc (.cells #[.int .i64 k, .int .i64 0, .int .i64 0, .int .i64 0, .int .i64 0, .int .i64 0, .int .u32 0, .int .u32 0, .slice none 0 0] 29)) w.heap.size [.int .i64 0, .int .i64 0, .int .i64 0, .int .i64 0, .int .i64 0, .int .i64 0, .int .u32 0, .int .u32 0, .slice none 0 0] := BoxF.keep (boxF_made w [.int .i64 0, .int .i64 0, .int .i64 0, .int .i64 0, .int .i64 0, .int .i64 0, .int .u32 0, .int .u32 0, .slice none 0 0] 29) ((Below.refl _ _).alloc (Nat.le_refl _) _)
  have hx6 : BoxF ((w.alloc (.cells #[.int .i64 0, .int .i64 0, .int .i64 0, .int .i64 0, .int .i64 0, .int .i64 0, .int .u32 0, .int .u32 0, .slice none 0 0] 29)).alloc (.cells #[.int .i64 k, .int .i64 0, .int .i64 0, .int .i64 0, .int .i64 0, .int .i64 0, .int .u32 0, .int .u32 0, .slice none 0 0] 29)) (w.heap.size + 1) [.int .i64 k, .int .i64 0, .int .i64 0, .int .i64 0, .int .i64 0, .int .i64 0, .int .u32 0, .int .u32 0, .slice none 0 0] := by
    have h := boxF_made (w.alloc (.cells #[.int .i64 0, .int .i64 0, .int .i64 0, .int .i64 0, .int .i64 0, .int .i64 0, .int .u32 0, .int .u32 0, .slice none 0 0] 29)) [.int .i64 k, .int .i64 0, .int .i64 0, .int .i64 0, .int .i64 0, .int .i64 0, .int .u32 0, .int .u32 0, .slice none 0 0] 29
    rwa [show (w.alloc (.cells #[.int .i64 0, .int .i64 0, .int .i64 0, .int .i64 0, .int .i64 0, .int .i64 0, .int .u32 0, .int .u32 0, .slice none 0 0] 29)).heap.size = w.heap.size + 1 by simp] at h
  have C1 := hC _ hb1
  rw [hN] at C1
  unfold NumsPost at C1
  have C1 := Lib.hid (And.intro C1 hb1)
  have HX := Lib.hid (And.intro hx2 hx6)
  clear hC hN hb1 hx2 hx6
  go_enter Tryd.func40, Tryd.ntmps40
  go_wp2_with fail
  refine C1.out.1.mono ?_
  rintro e w2 ⟨A2, c2, rfl, hap, hrow, hq⟩
  have hx2a := HX.out.1.keep hq
  have hx6a := HX.out.2.keep hq
  have u0a := hx2a.1 0 _ rfl
  have fu0a := hx2a.2 0 (by simp)
  have v0a := hx6a.1 0 _ rfl
  have fv0a := hx6a.2 0 (by simp)
  have u1a := hx2a.1 1 _ rfl
  have fu1a := hx2a.2 1 (by simp)
  have v1a := hx6a.1 1 _ rfl
  have fv1a := hx6a.2 1 (by simp)
  have u2a := hx2a.1 2 _ rfl
  have fu2a := hx2a.2 2 (by simp)
  have v2a := hx6a.1 2 _ rfl
  have fv2a := hx6a.2 2 (by simp)
  have u3a := hx2a.1 3 _ rfl
  have fu3a := hx2a.2 3 (by simp)
  have v3a := hx6a.1 3 _ rfl
  have fv3a := hx6a.2 3 (by simp)
  have u4a := hx2a.1 4 _ rfl
  have fu4a := hx2a.2 4 (by simp)
  have v4a := hx6a.1 4 _ rfl
  have fv4a := hx6a.2 4 (by simp)
  have u5a := hx2a.1 5 _ rfl
  have fu5a := hx2a.2 5 (by simp)
  have v5a := hx6a.1 5 _ rfl
  have fv5a := hx6a.2 5 (by simp)
  have u6a := hx2a.1 6 _ rfl
  have fu6a := hx2a.2 6 (by simp)
  have v6a := hx6a.1 6 _ rfl
  have fv6a := hx6a.2 6 (by simp)
  have u7a := hx2a.1 7 _ rfl
  have fu7a := hx2a.2 7 (by simp)
  have v7a := hx6a.1 7 _ rfl
  have fv7a := hx6a.2 7 (by simp)
  have u8a := hx2a.1 8 _ rfl
  have fu8a := hx2a.2 8 (by simp)
  have v8a := hx6a.1 8 _ rfl
  have fv8a := hx6a.2 8 (by simp)
  have HB := Lib.hid (C1.out.2.trans (hq.mono C1.out.2.size))
  obtain ⟨b2, o2, rfl, hc0⟩ := hrow 0 _ rfl
  have hap := hap _ rfl
  have hap2 : ¬ b2 = w.heap.size ∧ ¬ b2 = w.heap.size + 1 := by simp at hap; omega
  obtain ⟨hap3, hap4⟩ := hap2
  simp only [Nat.add_zero] at hc0
  clear hq hrow hap hx2a hx6a
  go_wp2
  refine bodyPost_ret (v := .tuple #[.agg #[.int .i64 k, .int .i64 a, .int .i64 0, .int .i64 0, .int .i64 0, .int .i64 0, .int .u32 0, .int .u32 0, .slice none 0 0], .int .i64 0]) (by simp [results, Tryd.results40, go_sem, *]) rfl ?_
  refine actPost_ok ⟨k, a, 0, Fa0, []⟩ none 0 0 rfl rfl rfl rfl (own_nil _ _) ?_
  · skip
    repeat (first | with_reducible refine Below.setCell ?_ (by first | exact Nat.le_refl _ | exact Nat.le_succ _) _ | with_reducible refine Below.drew ?_ | with_reducible refine below_drewN ?_ _)
    exact HB.out
set_option maxHeartbeats 3200000 in
set_option maxRecDepth 100000 in
theorem act_6_len (A : Option Addr) (n c : Nat) (hnb : n ≤ 2000000) (w : World) (h2 : ¬ (n : Int) = 2) (hm : ¬ (n : Int) = 1) :
    Calls Tryd.prog 40 #[.int .i64 6, .slice A n c] w (ActPost (Ac0, 19) w) := by
  obtain ⟨hz, hsz⟩ := zero_of_info (show (Tryd.prog.info? 29).map (fun i => (i.zero, i.size)) = some (some (.agg #[.int .i64 0, .int .i64 0, .int .i64 0, .int .i64 0, .int .i64 0, .int .i64 0, .int .u32 0, .int .u32 0, .slice none 0 0]), 9) by kernel_rfl)
  have hmb : ((n : Int) != 1) = true := by simpa using hm
  have h2b : ((n : Int) == 2) = false := by simpa using h2
  go_enter Tryd.func40, Tryd.ntmps40
  go_wp2
  refine bodyPost_ret (v := .tuple #[.agg #[.int .i64 6, .int .i64 0, .int .i64 0, .int .i64 0, .int .i64 0, .int .i64 0, .int .u32 0, .int .u32 0, .slice none 0 0], .int .i64 19]) (by simp [results, Tryd.results40, go_sem]) rfl ?_
  refine actPost_bad ⟨6, 0, 0, Fa0, []⟩ none 0 0 19 rfl rfl (by decide) ?_
  exact ((Below.refl _ _).alloc (Nat.le_refl _) _).alloc (by simp) _
set_option maxHeartbeats 3200000 in
set_option maxRecDepth 100000 in
theorem act_6_bad (A : Option Addr) (n c : Nat) (hnb : n ≤ 2000000) (w : World) (ws : List (List UInt8)) (hC : ∀ W, Below w.heap.size w W → Calls Tryd.prog 54 #[.slice A n c] W (NumsPost (numsL ws) W)) (hn : n = 1) (hN : numsL ws = none) :
    Calls Tryd.prog 40 #[.int .i64 6, .slice A n c] w (ActPost (Ac0, 5) w) := by
  obtain ⟨hz, hsz⟩ := zero_of_info (show (Tryd.prog.info? 29).map (fun i => (i.zero, i.size)) = some (some (.agg #[.int .i64 0, .int .i64 0, .int .i64 0, .int .i64 0, .int .i64 0, .int .i64 0, .int .u32 0, .int .u32 0, .slice none 0 0]), 9) by kernel_rfl)
  subst hn
  have hb1 : Below w.heap.size w ((w.alloc (.cells #[.int .i64 0, .int .i64 0, .int .i64 0, .int .i64 0, .int .i64 0, .int .i64 0, .int .u32 0, .int .u32 0, .slice none 0 0] 29)).alloc (.cells #[.int .i64 6, .int .i64 0, .int .i64 0, .int .i64 0, .int .i64 0, .int .i64 0, .int .u32 0, .int .u32 0, .slice none 0 0] 29)) := ((Below.refl _ _).alloc (Nat.le_refl _) _).alloc (by simp) _
  have hx2 : BoxF ((w.alloc (.cells #[.int .i64 0, .int .i64 0, .int .i64 0, .int .i64 0, .int .i64 0, .int .i64 0, .int .u32 0, .int .u32 0, .slice none 0 0] 29)).alloc (.cells #[.int .i64 6, .int .i64 0, .int .i64 0, .int .i64 0, .int .i64 0, .int .i64 0, .int .u32 0, .int .u32 0, .slice none 0 0] 29)) w.heap.size [.int .i64 0, .int .i64 0, .int .i64 0, .int .i64 0, .int .i64 0, .int .i64 0, .int .u32 0, .int .u32 0, .slice none 0 0] := BoxF.keep (boxF_made w [.int .i64 0, .int .i64 0, .int .i64 0, .int .i64 0, .int .i64 0, .int .i64 0, .int .u32 0, .int .u32 0, .slice none 0 0] 29) ((Below.refl _ _).alloc (Nat.le_refl _) _)
  have hx6 : BoxF ((w.alloc (.cells #[.int .i64 0, .int .i64 0, .int .i64 0, .int .i64 0, .int .i64 0, .int .i64 0, .int .u32 0, .int .u32 0, .slice none 0 0] 29)).alloc (.cells #[.int .i64 6, .int .i64 0, .int .i64 0, .int .i64 0, .int .i64 0, .int .i64 0, .int .u32 0, .int .u32 0, .slice none 0 0] 29)) (w.heap.size + 1) [.int .i64 6, .int .i64 0, .int .i64 0, .int .i64 0, .int .i64 0, .int .i64 0, .int .u32 0, .int .u32 0, .slice none 0 0] := by
    have h := boxF_made (w.alloc (.cells #[.int .i64 0, .int .i64 0, .int .i64 0, .int .i64 0, .int .i64 0, .int .i64 0, .int .u32 0, .int .u32 0, .slice none 0 0] 29)) [.int .i64 6, .int .i64 0, .int .i64 0, .int .i64 0, .int .i64 0, .int .i64 0, .int .u32 0, .int .u32 0, .slice none 0 0] 29
    rwa [show (w.alloc (.cells #[.int .i64 0, .int .i64 0, .int .i64 0, .int .i64 0, .int .i64 0, .int .i64 0, .int .u32 0, .int .u32 0, .slice none 0 0] 29)).heap.size = w.heap.size + 1 by simp] at h
  have C1 := hC _ hb1
  rw [hN] at C1
  unfold NumsPost at C1
  have C1 := Lib.hid (And.intro C1 hb1)
  have HX := Lib.hid (And.intro hx2 hx6)
  clear hC hN hb1 hx2 hx6
  go_enter Tryd.func40, Tryd.ntmps40
  go_wp2_with fail
  refine C1.out.1.mono ?_
  rintro e w2 ⟨rfl, hq⟩
  have hx2a := HX.out.1.keep hq
  have hx6a := HX.out.2.keep hq
  have u0a := hx2a.1 0 _ rfl
  have fu0a := hx2a.2 0 (by simp)
  have v0a := hx6a.1 0 _ rfl
  have fv0a := hx6a.2 0 (by simp)
  have u1a := hx2a.1 1 _ rfl
  have fu1a := hx2a.2 1 (by simp)
  have v1a := hx6a.1 1 _ rfl
  have fv1a := hx6a.2 1 (by simp)
  have u2a := hx2a.1 2 _ rfl
  have fu2a := hx2a.2 2 (by simp)
  have v2a := hx6a.1 2 _ rfl
  have fv2a := hx6a.2 2 (by simp)
  have u3a := hx2a.1 3 _ rfl
  have fu3a := hx2a.2 3 (by simp)
  have v3a := hx6a.1 3 _ rfl
  have fv3a := hx6a.2 3 (by simp)
  have u4a := hx2a.1 4 _ rfl
  have fu4a := hx2a.2 4 (by simp)
  have v4a := hx6a.1 4 _ rfl
  have fv4a := hx6a.2 4 (by simp)
  have u5a := hx2a.1 5 _ rfl
  have fu5a := hx2a.2 5 (by simp)
  have v5a := hx6a.1 5 _ rfl
  have fv5a := hx6a.2 5 (by simp)
  have u6a := hx2a.1 6 _ rfl
  have fu6a := hx2a.2 6 (by simp)
  have v6a := hx6a.1 6 _ rfl
  have fv6a := hx6a.2 6 (by simp)
  have u7a := hx2a.1 7 _ rfl
  have fu7a := hx2a.2 7 (by simp)
  have v7a := hx6a.1 7 _ rfl
  have fv7a := hx6a.2 7 (by simp)
  have u8a := hx2a.1 8 _ rfl
  have fu8a := hx2a.2 8 (by simp)
  have v8a := hx6a.1 8 _ rfl
  have fv8a := hx6a.2 8 (by simp)
  have HB := Lib.hid (C1.out.2.trans (hq.mono C1.out.2.size))
  clear hq hx2a hx6a
  go_wp2
  refine bodyPost_ret (v := .tuple #[.agg #[.int .i64 6, .int .i64 0, .int .i64 0, .int .i64 0, .int .i64 0, .int .i64 0, .int .u32 0, .int .u32 0, .slice none 0 0], .int .i64 5]) (by simp [results, Tryd.results40, go_sem, *]) rfl ?_
  refine actPost_bad ⟨6, 0, 0, Fa0, []⟩ none 0 0 5 rfl rfl (by decide) ?_
  · skip
    repeat (first | with_reducible refine Below.setCell ?_ (by first | exact Nat.le_refl _ | exact Nat.le_succ _) _ | with_reducible refine Below.drew ?_ | with_reducible refine below_drewN ?_ _)
    exact HB.out
set_option maxHeartbeats 3200000 in
set_option maxRecDepth 100000 in
theorem act_6_ok (A : Option Addr) (n c : Nat) (hnb : n ≤ 2000000) (w : World) (a : Int) (ws : List (List UInt8)) (hC : ∀ W, Below w.heap.size w W → Calls Tryd.prog 54 #[.slice A n c] W (NumsPost (numsL ws) W)) (hn : n = 1) (hN : numsL ws = some [a]) :
    Calls Tryd.prog 40 #[.int .i64 6, .slice A n c] w (ActPost (⟨6, a, 0, Fa0, []⟩, 0) w) := by
  obtain ⟨hz, hsz⟩ := zero_of_info (show (Tryd.prog.info? 29).map (fun i => (i.zero, i.size)) = some (some (.agg #[.int .i64 0, .int .i64 0, .int .i64 0, .int .i64 0, .int .i64 0, .int .i64 0, .int .u32 0, .int .u32 0, .slice none 0 0]), 9) by kernel_rfl)
  subst hn
  have hb1 : Below w.heap.size w ((w.alloc (.cells #[.int .i64 0, .int .i64 0, .int .i64 0, .int .i64 0, .int .i64 0, .int .i64 0, .int .u32 0, .int .u32 0, .slice none 0 0] 29)).alloc (.cells #[.int .i64 6, .int .i64 0, .int .i64 0, .int .i64 0, .int .i64 0, .int .i64 0, .int .u32 0, .int .u32 0, .slice none 0 0] 29)) := ((Below.refl _ _).alloc (Nat.le_refl _) _).alloc (by simp) _
  have hx2 : BoxF ((w.alloc (.cells #[.int .i64 0, .int .i64 0, .int .i64 0, .int .i64 0, .int .i64 0, .int .i64 0, .int .u32 0, .int .u32 0, .slice none 0 0] 29)).alloc (.cells #[.int .i64 6, .int .i64 0, .int .i64 0, .int .i64 0, .int .i64 0, .int .i64 0, .int .u32 0, .int .u32 0, .slice none 0 0] 29)) w.heap.size [.int .i64 0, .int .i64 0, .int .i64 0, .int .i64 0, .int .i64 0, .int .i64 0, .int .u32 0, .int .u32 0, .slice none 0 0] := BoxF.keep (boxF_made w [.int .i64 0, .int .i64 0, .int .i64 0, .int .i64 0, .int .i64 0, .int .i64 0, .int .u32 0, .int .u32 0, .slice none 0 0] 29) ((Below.refl _ _).alloc (Nat.le_refl _) _)
  have hx6 : BoxF ((w.alloc (.cells #[.int .i64 0, .int .i64 0, .int .i64 0, .int .i64 0, .int .i64 0, .int .i64 0, .int .u32 0, .int .u32 0, .slice none 0 0] 29)).alloc (.cells #[.int .i64 6, .int .i64 0, .int .i64 0, .int .i64 0, .int .i64 0, .int .i64 0, .int .u32 0, .int .u32 0, .slice none 0 0] 29)) (w.heap.size + 1) [.int .i64 6, .int .i64 0, .int .i64 0, .int .i64 0, .int .i64 0, .int .i64 0, .int .u32 0, .int .u32 0, .slice none 0 0] := by
    have h := boxF_made (w.alloc (.cells #[.int .i64 0, .int .i64 0, .int .i64 0, .int .i64 0, .int .i64 0, .int .i64 0, .int .u32 0, .int .u32 0, .slice none 0 0] 29)) [.int .i64 6, .int .i64 0, .int .i64 0, .int .i64 0, .int .i64 0, .int .i64 0, .int .u32 0, .int .u32 0, .slice none 0 0] 29
    rwa [show (w.alloc (.cells #[.int .i64 0, .int .i64 0, .int .i64 0, .int .i64 0, .int .i64 0, .int .i64 0, .int .u32 0, .int .u32 0, .slice none 0 0] 29)).heap.size = w.heap.size + 1 by simp] at h
  have C1 := hC _ hb1
  rw [hN] at C1
  unfold NumsPost at C1
  have C1 := Lib.hid (And.intro C1 hb1)
  have HX := Lib.hid (And.intro hx2 hx6)
  clear hC hN hb1 hx2 hx6
  go_enter Tryd.func40, Tryd.ntmps40
  go_wp2_with fail
  refine C1.out.1.mono ?_
  rintro e w2 ⟨A2, c2, rfl, hap, hrow, hq⟩
  have hx2a := HX.out.1.keep hq
  have hx6a := HX.out.2.keep hq
  have u0a := hx2a.1 0 _ rfl
  have fu0a := hx2a.2 0 (by simp)
  have v0a := hx6a.1 0 _ rfl
  have fv0a := hx6a.2 0 (by simp)
  have u1a := hx2a.1 1 _ rfl
  have fu1a := hx2a.2 1 (by simp)
  have v1a := hx6a.1 1 _ rfl
  have fv1a := hx6a.2 1 (by simp)
  have u2a := hx2a.1 2 _ rfl
  have fu2a := hx2a.2 2 (by simp)
  have v2a := hx6a.1 2 _ rfl
  have fv2a := hx6a.2 2 (by simp)
  have u3a := hx2a.1 3 _ rfl
  have fu3a := hx2a.2 3 (by simp)
  have v3a := hx6a.1 3 _ rfl
  have fv3a := hx6a.2 3 (by simp)
  have u4a := hx2a.1 4 _ rfl
  have fu4a := hx2a.2 4 (by simp)
  have v4a := hx6a.1 4 _ rfl
  have fv4a := hx6a.2 4 (by simp)
  have u5a := hx2a.1 5 _ rfl
  have fu5a := hx2a.2 5 (by simp)
  have v5a := hx6a.1 5 _ rfl
  have fv5a := hx6a.2 5 (by simp)
  have u6a := hx2a.1 6 _ rfl
  have fu6a := hx2a.2 6 (by simp)
  have v6a := hx6a.1 6 _ rfl
  have fv6a := hx6a.2 6 (by simp)
  have u7a := hx2a.1 7 _ rfl
  have fu7a := hx2a.2 7 (by simp)
  have v7a := hx6a.1 7 _ rfl
  have fv7a := hx6a.2 7 (by simp)
  have u8a := hx2a.1 8 _ rfl
  have fu8a := hx2a.2 8 (by simp)
  have v8a := hx6a.1 8 _ rfl
  have fv8a := hx6a.2 8 (by simp)
  have HB := Lib.hid (C1.out.2.trans (hq.mono C1.out.2.size))
  obtain ⟨b2, o2, rfl, hc0⟩ := hrow 0 _ rfl
  have hap := hap _ rfl
  have hap2 : ¬ b2 = w.heap.size ∧ ¬ b2 = w.heap.size + 1 := by simp at hap; omega
  obtain ⟨hap3, hap4⟩ := hap2
  simp only [Nat.add_zero] at hc0
  clear hq hrow hap hx2a hx6a
  go_wp2
  refine bodyPost_ret (v := .tuple #[.agg #[.int .i64 6, .int .i64 a, .int .i64 0, .int .i64 0, .int .i64 0, .int .i64 0, .int .u32 0, .int .u32 0, .slice none 0 0], .int .i64 0]) (by simp [results, Tryd.results40, go_sem, *]) rfl ?_
  refine actPost_ok ⟨6, a, 0, Fa0, []⟩ none 0 0 rfl rfl rfl rfl (own_nil _ _) ?_
  · skip
    repeat (first | with_reducible refine Below.setCell ?_ (by first | exact Nat.le_refl _ | exact Nat.le_succ _) _ | with_reducible refine Below.drew ?_ | with_reducible refine below_drewN ?_ _)
    exact HB.out
set_option maxHeartbeats 3200000 in
set_option maxRecDepth 100000 in
theorem act_6l_b (A : Option Addr) (n c : Nat) (hnb : n ≤ 2000000) (w : World) (blk off : Nat) (s0 s1 : ByteArray) (w0 : List UInt8) (hn : n = 2) (hA : A = some ⟨blk, off, none⟩) (hc0 : w.cell? ⟨blk, off, none⟩ = some (.string s0)) (hc1 : w.cell? ⟨blk, off + 1, none⟩ = some (.string s1)) (ob : Option (List UInt8)) (on : Option Int) (CB : ∀ W, Below w.heap.size w W → Calls Tryd.prog 56 #[.string s1] W (BodyPost ob W)) (CN : ∀ W, Below w.heap.size w W → Calls Tryd.prog 57 #[.string s0] W (NumPost on W)) (hB : ob = none) :
    Calls Tryd.prog 40 #[.int .i64 6, .slice A n c] w (ActPost (Ac0, 5) w) := by
  obtain ⟨hz, hsz⟩ := zero_of_info (show (Tryd.prog.info? 29).map (fun i => (i.zero, i.size)) = some (some (.agg #[.int .i64 0, .int .i64 0, .int .i64 0, .int .i64 0, .int .i64 0, .int .i64 0, .int .u32 0, .int .u32 0, .slice none 0 0]), 9) by kernel_rfl)
  subst hn hA
  have hb1 : Below w.heap.size w ((w.alloc (.cells #[.int .i64 0, .int .i64 0, .int .i64 0, .int .i64 0, .int .i64 0, .int .i64 0, .int .u32 0, .int .u32 0, .slice none 0 0] 29)).alloc (.cells #[.int .i64 6, .int .i64 0, .int .i64 0, .int .i64 0, .int .i64 0, .int .i64 0, .int .u32 0, .int .u32 0, .slice none 0 0] 29)) := ((Below.refl _ _).alloc (Nat.le_refl _) _).alloc (by simp) _
  have hx2 : BoxF ((w.alloc (.cells #[.int .i64 0, .int .i64 0, .int .i64 0, .int .i64 0, .int .i64 0, .int .i64 0, .int .u32 0, .int .u32 0, .slice none 0 0] 29)).alloc (.cells #[.int .i64 6, .int .i64 0, .int .i64 0, .int .i64 0, .int .i64 0, .int .i64 0, .int .u32 0, .int .u32 0, .slice none 0 0] 29)) w.heap.size [.int .i64 0, .int .i64 0, .int .i64 0, .int .i64 0, .int .i64 0, .int .i64 0, .int .u32 0, .int .u32 0, .slice none 0 0] := BoxF.keep (boxF_made w [.int .i64 0, .int .i64 0, .int .i64 0, .int .i64 0, .int .i64 0, .int .i64 0, .int .u32 0, .int .u32 0, .slice none 0 0] 29) ((Below.refl _ _).alloc (Nat.le_refl _) _)
  have hx6 : BoxF ((w.alloc (.cells #[.int .i64 0, .int .i64 0, .int .i64 0, .int .i64 0, .int .i64 0, .int .i64 0, .int .u32 0, .int .u32 0, .slice none 0 0] 29)).alloc (.cells #[.int .i64 6, .int .i64 0, .int .i64 0, .int .i64 0, .int .i64 0, .int .i64 0, .int .u32 0, .int .u32 0, .slice none 0 0] 29)) (w.heap.size + 1) [.int .i64 6, .int .i64 0, .int .i64 0, .int .i64 0, .int .i64 0, .int .i64 0, .int .u32 0, .int .u32 0, .slice none 0 0] := by
    have h := boxF_made (w.alloc (.cells #[.int .i64 0, .int .i64 0, .int .i64 0, .int .i64 0, .int .i64 0, .int .i64 0, .int .u32 0, .int .u32 0, .slice none 0 0] 29)) [.int .i64 6, .int .i64 0, .int .i64 0, .int .i64 0, .int .i64 0, .int .i64 0, .int .u32 0, .int .u32 0, .slice none 0 0] 29
    rwa [show (w.alloc (.cells #[.int .i64 0, .int .i64 0, .int .i64 0, .int .i64 0, .int .i64 0, .int .i64 0, .int .u32 0, .int .u32 0, .slice none 0 0] 29)).heap.size = w.heap.size + 1 by simp] at h
  have hlt := World.block_lt_of_cell? _ _ hc0
  have hne1 : ¬ blk = w.heap.size := by intro e; simp only at hlt; omega
  have hne2 : ¬ blk = w.heap.size + 1 := by intro e; simp only at hlt; omega
  have HK : Hid (∀ W, Below w.heap.size w W → W.cell? ⟨blk, off, none⟩ = some (.string s0) ∧ W.cell? ⟨blk, off + 1, none⟩ = some (.string s1)) := fun W hW => ⟨(hW.cell (p := ⟨blk, off, none⟩) hlt).trans hc0, (hW.cell (p := ⟨blk, off + 1, none⟩) hlt).trans hc1⟩
  obtain ⟨e0, e1⟩ := HK.out _ hb1
  have C1 := CB _ hb1
  have HX := Lib.hid (And.intro hx2 (And.intro hx6 (And.intro hb1 CN)))
  subst hB
  unfold BodyPost at C1
  have C1 := Lib.hid C1
  clear CB CN hb1 hx2 hx6 hlt
  go_enter Tryd.func40, Tryd.ntmps40
  go_wp2_with fail
  refine C1.out.mono ?_
  rintro e w2 ⟨⟨Ab, nb, cb, rfl⟩, hq⟩
  have hb2 := HX.out.2.2.1.trans (hq.mono HX.out.2.2.1.size)
  have C2 := HX.out.2.2.2 _ hb2
  obtain ⟨e02, e12⟩ := HK.out _ hb2
  have hx2a := HX.out.1.keep hq
  have hx6a := HX.out.2.1.keep hq
  have HX3 := Lib.hid (And.intro hx2a (And.intro hx6a hb2))
  clear hq hx2a hx6a hb2
  cases on with
  | none =>
    unfold NumPost at C2
    have C2 := Lib.hid C2
    go_wp2_with fail
    refine C2.out.mono ?_
    rintro e w3 ⟨⟨mm, rfl⟩, hq3⟩
    have hx2b := HX3.out.1.keep hq3
    have hx6b := HX3.out.2.1.keep hq3
    have u0b := hx2b.1 0 _ rfl
    have fu0b := hx2b.2 0 (by simp)
    have v0b := hx6b.1 0 _ rfl
    have fv0b := hx6b.2 0 (by simp)
    have u1b := hx2b.1 1 _ rfl
    have fu1b := hx2b.2 1 (by simp)
    have v1b := hx6b.1 1 _ rfl
    have fv1b := hx6b.2 1 (by simp)
    have u2b := hx2b.1 2 _ rfl
    have fu2b := hx2b.2 2 (by simp)
    have v2b := hx6b.1 2 _ rfl
    have fv2b := hx6b.2 2 (by simp)
    have u3b := hx2b.1 3 _ rfl
    have fu3b := hx2b.2 3 (by simp)
    have v3b := hx6b.1 3 _ rfl
    have fv3b := hx6b.2 3 (by simp)
    have u4b := hx2b.1 4 _ rfl
    have fu4b := hx2b.2 4 (by simp)
    have v4b := hx6b.1 4 _ rfl
    have fv4b := hx6b.2 4 (by simp)
    have u5b := hx2b.1 5 _ rfl
    have fu5b := hx2b.2 5 (by simp)
    have v5b := hx6b.1 5 _ rfl
    have fv5b := hx6b.2 5 (by simp)
    have u6b := hx2b.1 6 _ rfl
    have fu6b := hx2b.2 6 (by simp)
    have v6b := hx6b.1 6 _ rfl
    have fv6b := hx6b.2 6 (by simp)
    have u7b := hx2b.1 7 _ rfl
    have fu7b := hx2b.2 7 (by simp)
    have v7b := hx6b.1 7 _ rfl
    have fv7b := hx6b.2 7 (by simp)
    have u8b := hx2b.1 8 _ rfl
    have fu8b := hx2b.2 8 (by simp)
    have v8b := hx6b.1 8 _ rfl
    have fv8b := hx6b.2 8 (by simp)
    have HB := Lib.hid (HX3.out.2.2.trans (hq3.mono HX3.out.2.2.size))
    clear hq3 hx2b hx6b
    go_wp2
    refine bodyPost_ret (v := .tuple #[.agg #[.int .i64 6, .int .i64 0, .int .i64 0, .int .i64 0, .int .i64 0, .int .i64 0, .int .u32 0, .int .u32 0, .slice none 0 0], .int .i64 5]) (by simp [results, Tryd.results40, go_sem, *]) rfl ?_
    refine actPost_bad ⟨6, 0, 0, Fa0, []⟩ none 0 0 5 rfl rfl (by decide) ?_
    · skip
      repeat (first | with_reducible refine Below.setCell ?_ (by first | exact Nat.le_refl _ | exact Nat.le_succ _) _ | with_reducible refine Below.drew ?_ | with_reducible refine below_drewN ?_ _)
      exact HB.out
  | some z =>
    unfold NumPost at C2
    have C2 := Lib.hid C2
    go_wp2_with fail
    refine C2.out.mono ?_
    rintro e w3 ⟨rfl, hq3⟩
    have hx2b := HX3.out.1.keep hq3
    have hx6b := HX3.out.2.1.keep hq3
    have u0b := hx2b.1 0 _ rfl
    have fu0b := hx2b.2 0 (by simp)
    have v0b := hx6b.1 0 _ rfl
    have fv0b := hx6b.2 0 (by simp)
    have u1b := hx2b.1 1 _ rfl
    have fu1b := hx2b.2 1 (by simp)
    have v1b := hx6b.1 1 _ rfl
    have fv1b := hx6b.2 1 (by simp)
    have u2b := hx2b.1 2 _ rfl
    have fu2b := hx2b.2 2 (by simp)
    have v2b := hx6b.1 2 _ rfl
    have fv2b := hx6b.2 2 (by simp)
    have u3b := hx2b.1 3 _ rfl
    have fu3b := hx2b.2 3 (by simp)
    have v3b := hx6b.1 3 _ rfl
    have fv3b := hx6b.2 3 (by simp)
    have u4b := hx2b.1 4 _ rfl
    have fu4b := hx2b.2 4 (by simp)
    have v4b := hx6b.1 4 _ rfl
    have fv4b := hx6b.2 4 (by simp)
    have u5b := hx2b.1 5 _ rfl
    have fu5b := hx2b.2 5 (by simp)
    have v5b := hx6b.1 5 _ rfl
    have fv5b := hx6b.2 5 (by simp)
    have u6b := hx2b.1 6 _ rfl
    have fu6b := hx2b.2 6 (by simp)
    have v6b := hx6b.1 6 _ rfl
    have fv6b := hx6b.2 6 (by simp)
    have u7b := hx2b.1 7 _ rfl
    have fu7b := hx2b.2 7 (by simp)
    have v7b := hx6b.1 7 _ rfl
    have fv7b := hx6b.2 7 (by simp)
    have u8b := hx2b.1 8 _ rfl
    have fu8b := hx2b.2 8 (by simp)
    have v8b := hx6b.1 8 _ rfl
    have fv8b := hx6b.2 8 (by simp)
    have HB := Lib.hid (HX3.out.2.2.trans (hq3.mono HX3.out.2.2.size))
    clear hq3 hx2b hx6b
    go_wp2
    refine bodyPost_ret (v := .tuple #[.agg #[.int .i64 6, .int .i64 0, .int .i64 0, .int .i64 0, .int .i64 0, .int .i64 0, .int .u32 0, .int .u32 0, .slice none 0 0], .int .i64 5]) (by simp [results, Tryd.results40, go_sem, *]) rfl ?_
    refine actPost_bad ⟨6, 0, 0, Fa0, []⟩ none 0 0 5 rfl rfl (by decide) ?_
    · skip
      repeat (first | with_reducible refine Below.setCell ?_ (by first | exact Nat.le_refl _ | exact Nat.le_succ _) _ | with_reducible refine Below.drew ?_ | with_reducible refine below_drewN ?_ _)
      exact HB.out
set_option maxHeartbeats 3200000 in
set_option maxRecDepth 100000 in
theorem act_6l_n (A : Option Addr) (n c : Nat) (hnb : n ≤ 2000000) (w : World) (blk off : Nat) (s0 s1 : ByteArray) (w0 : List UInt8) (hn : n = 2) (hA : A = some ⟨blk, off, none⟩) (hc0 : w.cell? ⟨blk, off, none⟩ = some (.string s0)) (hc1 : w.cell? ⟨blk, off + 1, none⟩ = some (.string s1)) (ob : Option (List UInt8)) (on : Option Int) (CB : ∀ W, Below w.heap.size w W → Calls Tryd.prog 56 #[.string s1] W (BodyPost ob W)) (CN : ∀ W, Below w.heap.size w W → Calls Tryd.prog 57 #[.string s0] W (NumPost on W)) (b : List UInt8) (hB : ob = some b) (hN : on = none) :
    Calls Tryd.prog 40 #[.int .i64 6, .slice A n c] w (ActPost (Ac0, 5) w) := by
  obtain ⟨hz, hsz⟩ := zero_of_info (show (Tryd.prog.info? 29).map (fun i => (i.zero, i.size)) = some (some (.agg #[.int .i64 0, .int .i64 0, .int .i64 0, .int .i64 0, .int .i64 0, .int .i64 0, .int .u32 0, .int .u32 0, .slice none 0 0]), 9) by kernel_rfl)
  subst hn hA
  have hb1 : Below w.heap.size w ((w.alloc (.cells #[.int .i64 0, .int .i64 0, .int .i64 0, .int .i64 0, .int .i64 0, .int .i64 0, .int .u32 0, .int .u32 0, .slice none 0 0] 29)).alloc (.cells #[.int .i64 6, .int .i64 0, .int .i64 0, .int .i64 0, .int .i64 0, .int .i64 0, .int .u32 0, .int .u32 0, .slice none 0 0] 29)) := ((Below.refl _ _).alloc (Nat.le_refl _) _).alloc (by simp) _
  have hx2 : BoxF ((w.alloc (.cells #[.int .i64 0, .int .i64 0, .int .i64 0, .int .i64 0, .int .i64 0, .int .i64 0, .int .u32 0, .int .u32 0, .slice none 0 0] 29)).alloc (.cells #[.int .i64 6, .int .i64 0, .int .i64 0, .int .i64 0, .int .i64 0, .int .i64 0, .int .u32 0, .int .u32 0, .slice none 0 0] 29)) w.heap.size [.int .i64 0, .int .i64 0, .int .i64 0, .int .i64 0, .int .i64 0, .int .i64 0, .int .u32 0, .int .u32 0, .slice none 0 0] := BoxF.keep (boxF_made w [.int .i64 0, .int .i64 0, .int .i64 0, .int .i64 0, .int .i64 0, .int .i64 0, .int .u32 0, .int .u32 0, .slice none 0 0] 29) ((Below.refl _ _).alloc (Nat.le_refl _) _)
  have hx6 : BoxF ((w.alloc (.cells #[.int .i64 0, .int .i64 0, .int .i64 0, .int .i64 0, .int .i64 0, .int .i64 0, .int .u32 0, .int .u32 0, .slice none 0 0] 29)).alloc (.cells #[.int .i64 6, .int .i64 0, .int .i64 0, .int .i64 0, .int .i64 0, .int .i64 0, .int .u32 0, .int .u32 0, .slice none 0 0] 29)) (w.heap.size + 1) [.int .i64 6, .int .i64 0, .int .i64 0, .int .i64 0, .int .i64 0, .int .i64 0, .int .u32 0, .int .u32 0, .slice none 0 0] := by
    have h := boxF_made (w.alloc (.cells #[.int .i64 0, .int .i64 0, .int .i64 0, .int .i64 0, .int .i64 0, .int .i64 0, .int .u32 0, .int .u32 0, .slice none 0 0] 29)) [.int .i64 6, .int .i64 0, .int .i64 0, .int .i64 0, .int .i64 0, .int .i64 0, .int .u32 0, .int .u32 0, .slice none 0 0] 29
    rwa [show (w.alloc (.cells #[.int .i64 0, .int .i64 0, .int .i64 0, .int .i64 0, .int .i64 0, .int .i64 0, .int .u32 0, .int .u32 0, .slice none 0 0] 29)).heap.size = w.heap.size + 1 by simp] at h
  have hlt := World.block_lt_of_cell? _ _ hc0
  have hne1 : ¬ blk = w.heap.size := by intro e; simp only at hlt; omega
  have hne2 : ¬ blk = w.heap.size + 1 := by intro e; simp only at hlt; omega
  have HK : Hid (∀ W, Below w.heap.size w W → W.cell? ⟨blk, off, none⟩ = some (.string s0) ∧ W.cell? ⟨blk, off + 1, none⟩ = some (.string s1)) := fun W hW => ⟨(hW.cell (p := ⟨blk, off, none⟩) hlt).trans hc0, (hW.cell (p := ⟨blk, off + 1, none⟩) hlt).trans hc1⟩
  obtain ⟨e0, e1⟩ := HK.out _ hb1
  have C1 := CB _ hb1
  have HX := Lib.hid (And.intro hx2 (And.intro hx6 (And.intro hb1 CN)))
  subst hB
  unfold BodyPost at C1
  have C1 := Lib.hid C1
  clear CB CN hb1 hx2 hx6 hlt
  go_enter Tryd.func40, Tryd.ntmps40
  go_wp2_with fail
  refine C1.out.mono ?_
  rintro e w2 ⟨Ab, cb, rfl, hOb, hq⟩
  have hb2 := HX.out.2.2.1.trans (hq.mono HX.out.2.2.1.size)
  have C2 := HX.out.2.2.2 _ hb2
  obtain ⟨e02, e12⟩ := HK.out _ hb2
  have hx2a := HX.out.1.keep hq
  have hx6a := HX.out.2.1.keep hq
  have HX3 := Lib.hid (And.intro hx2a (And.intro hx6a hb2))
  clear hq hx2a hx6a hb2 hOb
  subst hN
  unfold NumPost at C2
  have C2 := Lib.hid C2
  go_wp2_with fail
  refine C2.out.mono ?_
  rintro e w3 ⟨⟨mm, rfl⟩, hq3⟩
  have hx2b := HX3.out.1.keep hq3
  have hx6b := HX3.out.2.1.keep hq3
  have u0b := hx2b.1 0 _ rfl
  have fu0b := hx2b.2 0 (by simp)
  have v0b := hx6b.1 0 _ rfl
  have fv0b := hx6b.2 0 (by simp)
  have u1b := hx2b.1 1 _ rfl
  have fu1b := hx2b.2 1 (by simp)
  have v1b := hx6b.1 1 _ rfl
  have fv1b := hx6b.2 1 (by simp)
  have u2b := hx2b.1 2 _ rfl
  have fu2b := hx2b.2 2 (by simp)
  have v2b := hx6b.1 2 _ rfl
  have fv2b := hx6b.2 2 (by simp)
  have u3b := hx2b.1 3 _ rfl
  have fu3b := hx2b.2 3 (by simp)
  have v3b := hx6b.1 3 _ rfl
  have fv3b := hx6b.2 3 (by simp)
  have u4b := hx2b.1 4 _ rfl
  have fu4b := hx2b.2 4 (by simp)
  have v4b := hx6b.1 4 _ rfl
  have fv4b := hx6b.2 4 (by simp)
  have u5b := hx2b.1 5 _ rfl
  have fu5b := hx2b.2 5 (by simp)
  have v5b := hx6b.1 5 _ rfl
  have fv5b := hx6b.2 5 (by simp)
  have u6b := hx2b.1 6 _ rfl
  have fu6b := hx2b.2 6 (by simp)
  have v6b := hx6b.1 6 _ rfl
  have fv6b := hx6b.2 6 (by simp)
  have u7b := hx2b.1 7 _ rfl
  have fu7b := hx2b.2 7 (by simp)
  have v7b := hx6b.1 7 _ rfl
  have fv7b := hx6b.2 7 (by simp)
  have u8b := hx2b.1 8 _ rfl
  have fu8b := hx2b.2 8 (by simp)
  have v8b := hx6b.1 8 _ rfl
  have fv8b := hx6b.2 8 (by simp)
  have HB := Lib.hid (HX3.out.2.2.trans (hq3.mono HX3.out.2.2.size))
  clear hq3 hx2b hx6b
  go_wp2
  refine bodyPost_ret (v := .tuple #[.agg #[.int .i64 6, .int .i64 0, .int .i64 0, .int .i64 0, .int .i64 0, .int .i64 0, .int .u32 0, .int .u32 0, .slice none 0 0], .int .i64 5]) (by simp [results, Tryd.results40, go_sem, *]) rfl ?_
  refine actPost_bad ⟨6, 0, 0, Fa0, []⟩ none 0 0 5 rfl rfl (by decide) ?_
  · skip
    repeat (first | with_reducible refine Below.setCell ?_ (by first | exact Nat.le_refl _ | exact Nat.le_succ _) _ | with_reducible refine Below.drew ?_ | with_reducible refine below_drewN ?_ _)
    exact HB.out
set_option maxHeartbeats 3200000 in
set_option maxRecDepth 100000 in
theorem act_6l_ok (A : Option Addr) (n c : Nat) (hnb : n ≤ 2000000) (w : World) (blk off : Nat) (s0 s1 : ByteArray) (w0 : List UInt8) (hn : n = 2) (hA : A = some ⟨blk, off, none⟩) (hc0 : w.cell? ⟨blk, off, none⟩ = some (.string s0)) (hc1 : w.cell? ⟨blk, off + 1, none⟩ = some (.string s1)) (ob : Option (List UInt8)) (on : Option Int) (CB : ∀ W, Below w.heap.size w W → Calls Tryd.prog 56 #[.string s1] W (BodyPost ob W)) (CN : ∀ W, Below w.heap.size w W → Calls Tryd.prog 57 #[.string s0] W (NumPost on W)) (b : List UInt8) (z : Int) (hB : ob = some b) (hN : on = some z) (hsl : ∀ W, (Instr.slice 56 (.slice (some ⟨blk, off, none⟩) 2 c) none (some (.int .i64 1)) none).run Tryd.prog W = .ok (.slice (some ⟨blk, off, none⟩) 1 c) W) (CM : ∀ W, Below w.heap.size w W → Calls Tryd.prog 54 #[.slice (some ⟨blk, off, none⟩) 1 c] W (NumsPost (some [z]) W)) :
    Calls Tryd.prog 40 #[.int .i64 6, .slice A n c] w (ActPost (⟨6, z, 0, Fa0, b⟩, 0) w) := by
  obtain ⟨hz, hsz⟩ := zero_of_info (show (Tryd.prog.info? 29).map (fun i => (i.zero, i.size)) = some (some (.agg #[.int .i64 0, .int .i64 0, .int .i64 0, .int .i64 0, .int .i64 0, .int .i64 0, .int .u32 0, .int .u32 0, .slice none 0 0]), 9) by kernel_rfl)
  subst hn hA
  have hb1 : Below w.heap.size w ((w.alloc (.cells #[.int .i64 0, .int .i64 0, .int .i64 0, .int .i64 0, .int .i64 0, .int .i64 0, .int .u32 0, .int .u32 0, .slice none 0 0] 29)).alloc (.cells #[.int .i64 6, .int .i64 0, .int .i64 0, .int .i64 0, .int .i64 0, .int .i64 0, .int .u32 0, .int .u32 0, .slice none 0 0] 29)) := ((Below.refl _ _).alloc (Nat.le_refl _) _).alloc (by simp) _
  have hx2 : BoxF ((w.alloc (.cells #[.int .i64 0, .int .i64 0, .int .i64 0, .int .i64 0, .int .i64 0, .int .i64 0, .int .u32 0, .int .u32 0, .slice none 0 0] 29)).alloc (.cells #[.int .i64 6, .int .i64 0, .int .i64 0, .int .i64 0, .int .i64 0, .int .i64 0, .int .u32 0, .int .u32 0, .slice none 0 0] 29)) w.heap.size [.int .i64 0, .int .i64 0, .int .i64 0, .int .i64 0, .int .i64 0, .int .i64 0, .int .u32 0, .int .u32 0, .slice none 0 0] := BoxF.keep (boxF_made w [.int .i64 0, .int .i64 0, .int .i64 0, .int .i64 0, .int .i64 0, .int .i64 0, .int .u32 0, .int .u32 0, .slice none 0 0] 29) ((Below.refl _ _).alloc (Nat.le_refl _) _)
  have hx6 : BoxF ((w.alloc (.cells #[.int .i64 0, .int .i64 0, .int .i64 0, .int .i64 0, .int .i64 0, .int .i64 0, .int .u32 0, .int .u32 0, .slice none 0 0] 29)).alloc (.cells #[.int .i64 6, .int .i64 0, .int .i64 0, .int .i64 0, .int .i64 0, .int .i64 0, .int .u32 0, .int .u32 0, .slice none 0 0] 29)) (w.heap.size + 1) [.int .i64 6, .int .i64 0, .int .i64 0, .int .i64 0, .int .i64 0, .int .i64 0, .int .u32 0, .int .u32 0, .slice none 0 0] := by
    have h := boxF_made (w.alloc (.cells #[.int .i64 0, .int .i64 0, .int .i64 0, .int .i64 0, .int .i64 0, .int .i64 0, .int .u32 0, .int .u32 0, .slice none 0 0] 29)) [.int .i64 6, .int .i64 0, .int .i64 0, .int .i64 0, .int .i64 0, .int .i64 0, .int .u32 0, .int .u32 0, .slice none 0 0] 29
    rwa [show (w.alloc (.cells #[.int .i64 0, .int .i64 0, .int .i64 0, .int .i64 0, .int .i64 0, .int .i64 0, .int .u32 0, .int .u32 0, .slice none 0 0] 29)).heap.size = w.heap.size + 1 by simp] at h
  have hlt := World.block_lt_of_cell? _ _ hc0
  have hne1 : ¬ blk = w.heap.size := by intro e; simp only at hlt; omega
  have hne2 : ¬ blk = w.heap.size + 1 := by intro e; simp only at hlt; omega
  have HK : Hid (∀ W, Below w.heap.size w W → W.cell? ⟨blk, off, none⟩ = some (.string s0) ∧ W.cell? ⟨blk, off + 1, none⟩ = some (.string s1)) := fun W hW => ⟨(hW.cell (p := ⟨blk, off, none⟩) hlt).trans hc0, (hW.cell (p := ⟨blk, off + 1, none⟩) hlt).trans hc1⟩
  obtain ⟨e0, e1⟩ := HK.out _ hb1
  have C1 := CB _ hb1
  have HX := Lib.hid (And.intro hx2 (And.intro hx6 (And.intro hb1 CN)))
  subst hB
  unfold BodyPost at C1
  have C1 := Lib.hid C1
  clear CB CN hb1 hx2 hx6 hlt
  go_enter Tryd.func40, Tryd.ntmps40
  go_wp2_with fail
  refine C1.out.mono ?_
  rintro e w2 ⟨Ab, cb, rfl, hOb, hq⟩
  have hb2 := HX.out.2.2.1.trans (hq.mono HX.out.2.2.1.size)
  have C2 := HX.out.2.2.2 _ hb2
  obtain ⟨e02, e12⟩ := HK.out _ hb2
  have hx2a := HX.out.1.keep hq
  have hx6a := HX.out.2.1.keep hq
  have HX3 := Lib.hid (And.intro hx2a (And.intro hx6a (And.intro hb2 hOb)))
  clear hq hx2a hx6a hb2 hOb
  subst hN
  unfold NumPost at C2
  have C2 := Lib.hid C2
  go_wp2_with fail
  refine C2.out.mono ?_
  rintro e w3 ⟨rfl, hq3⟩
  have hx2b := HX3.out.1.keep hq3
  have hx6b := HX3.out.2.1.keep hq3
  have u0b := hx2b.1 0 _ rfl
  have fu0b := hx2b.2 0 (by simp)
  have v0b := hx6b.1 0 _ rfl
  have fv0b := hx6b.2 0 (by simp)
  have u1b := hx2b.1 1 _ rfl
  have fu1b := hx2b.2 1 (by simp)
  have v1b := hx6b.1 1 _ rfl
  have fv1b := hx6b.2 1 (by simp)
  have u2b := hx2b.1 2 _ rfl
  have fu2b := hx2b.2 2 (by simp)
  have v2b := hx6b.1 2 _ rfl
  have fv2b := hx6b.2 2 (by simp)
  have u3b := hx2b.1 3 _ rfl
  have fu3b := hx2b.2 3 (by simp)
  have v3b := hx6b.1 3 _ rfl
  have fv3b := hx6b.2 3 (by simp)
  have u4b := hx2b.1 4 _ rfl
  have fu4b := hx2b.2 4 (by simp)
  have v4b := hx6b.1 4 _ rfl
  have fv4b := hx6b.2 4 (by simp)
  have u5b := hx2b.1 5 _ rfl
  have fu5b := hx2b.2 5 (by simp)
  have v5b := hx6b.1 5 _ rfl
  have fv5b := hx6b.2 5 (by simp)
  have u6b := hx2b.1 6 _ rfl
  have fu6b := hx2b.2 6 (by simp)
  have v6b := hx6b.1 6 _ rfl
  have fv6b := hx6b.2 6 (by simp)
  have u7b := hx2b.1 7 _ rfl
  have fu7b := hx2b.2 7 (by simp)
  have v7b := hx6b.1 7 _ rfl
  have fv7b := hx6b.2 7 (by simp)
  have u8b := hx2b.1 8 _ rfl
  have fu8b := hx2b.2 8 (by simp)
  have v8b := hx6b.1 8 _ rfl
  have fv8b := hx6b.2 8 (by simp)
  have HB := Lib.hid (HX3.out.2.2.1.trans (hq3.mono HX3.out.2.2.1.size))
  obtain ⟨e03, e13⟩ := HK.out _ HB.out
  have HU3 := Lib.hid (And.intro hx2b (And.intro hx6b (ownsRow_kept HX3.out.2.2.2 hq3)))
  clear hq3 hx2b hx6b
  obtain ⟨W4, hW4⟩ : ∃ W4, (w3.setCell ⟨w.heap.size + 1, 8, none⟩ (.slice Ab b.length cb)).drew = W4 := ⟨_, rfl⟩
  have hb4 : Below w.heap.size w W4 := hW4 ▸ (HB.out.setCell (p := ⟨w.heap.size + 1, 8, none⟩) (Nat.le_succ _) _).drew
  have hx24 : BoxF W4 w.heap.size [.int .i64 0, .int .i64 0, .int .i64 0, .int .i64 0, .int .i64 0, .int .i64 0, .int .u32 0, .int .u32 0, .slice none 0 0] := hW4 ▸ HU3.out.1.other (a := ⟨w.heap.size + 1, 8, none⟩) (by simp) (.slice Ab b.length cb)
  have hx64 : BoxF W4 (w.heap.size + 1) [.int .i64 6, .int .i64 0, .int .i64 0, .int .i64 0, .int .i64 0, .int .i64 0, .int .u32 0, .int .u32 0, .slice Ab b.length cb] := hW4 ▸ HU3.out.2.1.put 8 (by simp) (.slice Ab b.length cb)
  have hlt1 : w.heap.size + 1 < ((w.alloc (.cells #[.int .i64 0, .int .i64 0, .int .i64 0, .int .i64 0, .int .i64 0, .int .i64 0, .int .u32 0, .int .u32 0, .slice none 0 0] 29)).alloc (.cells #[.int .i64 6, .int .i64 0, .int .i64 0, .int .i64 0, .int .i64 0, .int .i64 0, .int .u32 0, .int .u32 0, .slice none 0 0] 29)).heap.size := by simp
  have hO4 := hW4 ▸ (own_set HU3.out.2.2 hlt1 8 (.slice Ab b.length cb)).drew
  have C4 := CM W4 hb4
  unfold NumsPost at C4
  have C4 := Lib.hid C4
  have H4 := Lib.hid (And.intro hW4 (And.intro hb4 (And.intro hx24 (And.intro hx64 (And.intro hO4 hlt1)))))
  clear hW4 hb4 hx24 hx64 hO4 hlt1 CM
  go_wp2_with fail
  go_big_region
  go_wp2_with fail
  rw [H4.out.1]
  refine C4.out.mono ?_
  rintro e w5 ⟨A5, c5, rfl, hap5, hrow, hq5⟩
  have hx25 := H4.out.2.2.1.keep hq5
  have hx65 := H4.out.2.2.2.1.keep hq5
  clear u0b fu0b v0b fv0b u1b fu1b v1b fv1b u2b fu2b v2b fv2b u3b fu3b v3b fv3b u4b fu4b v4b fv4b u5b fu5b v5b fv5b u6b fu6b v6b fv6b u7b fu7b v7b fv7b u8b fu8b v8b fv8b
  have u0e := hx25.1 0 _ rfl
  have fu0e := hx25.2 0 (by simp)
  have v0e := hx65.1 0 _ rfl
  have fv0e := hx65.2 0 (by simp)
  have u1e := hx25.1 1 _ rfl
  have fu1e := hx25.2 1 (by simp)
  have v1e := hx65.1 1 _ rfl
  have fv1e := hx65.2 1 (by simp)
  have u2e := hx25.1 2 _ rfl
  have fu2e := hx25.2 2 (by simp)
  have v2e := hx65.1 2 _ rfl
  have fv2e := hx65.2 2 (by simp)
  have u3e := hx25.1 3 _ rfl
  have fu3e := hx25.2 3 (by simp)
  have v3e := hx65.1 3 _ rfl
  have fv3e := hx65.2 3 (by simp)
  have u4e := hx25.1 4 _ rfl
  have fu4e := hx25.2 4 (by simp)
  have v4e := hx65.1 4 _ rfl
  have fv4e := hx65.2 4 (by simp)
  have u5e := hx25.1 5 _ rfl
  have fu5e := hx25.2 5 (by simp)
  have v5e := hx65.1 5 _ rfl
  have fv5e := hx65.2 5 (by simp)
  have u6e := hx25.1 6 _ rfl
  have fu6e := hx25.2 6 (by simp)
  have v6e := hx65.1 6 _ rfl
  have fv6e := hx65.2 6 (by simp)
  have u7e := hx25.1 7 _ rfl
  have fu7e := hx25.2 7 (by simp)
  have v7e := hx65.1 7 _ rfl
  have fv7e := hx65.2 7 (by simp)
  have u8e := hx25.1 8 _ rfl
  have fu8e := hx25.2 8 (by simp)
  have v8e := hx65.1 8 _ rfl
  have fv8e := hx65.2 8 (by simp)
  have hO5 := ownsRow_kept H4.out.2.2.2.2.1 hq5
  have HB := Lib.hid (H4.out.2.1.trans (hq5.mono H4.out.2.1.size))
  obtain ⟨b2, o2, rfl, hz0⟩ := hrow 0 _ rfl
  have hap := hap5 _ rfl
  have hsz4 := H4.out.2.1.size
  have hgt : w.heap.size + 1 < W4.heap.size := World.block_lt_of_cell? _ _ (H4.out.2.2.2.1.1 0 _ rfl)
  have hap2 : ¬ b2 = w.heap.size ∧ ¬ b2 = w.heap.size + 1 := by simp at hap; omega
  obtain ⟨hap3, hap4⟩ := hap2
  simp only [Nat.add_zero] at hz0
  have HO5 := Lib.hid hO5
  clear hrow hq5 hap hap5 hx25 hx65 hO5
  go_wp2
  refine bodyPost_ret (v := .tuple #[.agg #[.int .i64 6, .int .i64 z, .int .i64 0, .int .i64 0, .int .i64 0, .int .i64 0, .int .u32 0, .int .u32 0, .slice Ab b.length cb], .int .i64 0]) (by simp [results, Tryd.results40, go_sem, *]) rfl ?_
  refine actPost_ok ⟨6, z, 0, Fa0, b⟩ Ab b.length cb rfl rfl rfl rfl ?_ ?_
  · refine ownsRow_base (base := ((w.alloc (.cells #[.int .i64 0, .int .i64 0, .int .i64 0, .int .i64 0, .int .i64 0, .int .i64 0, .int .u32 0, .int .u32 0, .slice none 0 0] 29)).alloc (.cells #[.int .i64 6, .int .i64 0, .int .i64 0, .int .i64 0, .int .i64 0, .int .i64 0, .int .u32 0, .int .u32 0, .slice none 0 0] 29)).heap.size) ?_ (by simp; omega)
    repeat (first | with_reducible refine own_set ?_ (Nat.lt_trans (Nat.lt_succ_self _) H4.out.2.2.2.2.2) _ _ | with_reducible refine own_set ?_ H4.out.2.2.2.2.2 _ _)
    exact HO5.out
  · skip
    repeat (first | with_reducible refine Below.setCell ?_ (by first | exact Nat.le_refl _ | exact Nat.le_succ _) _ | with_reducible refine Below.drew ?_ | with_reducible refine below_drewN ?_ _)
    exact HB.out
theorem wordsAct (k : Int) (hk : k = 1 ∨ k = 2 ∨ k = 4 ∨ k = 5 ∨ k = 6 ∨ k = 7 ∨ k = 8) (ws : List (List UInt8)) (A : Option Addr) (n c : Nat) (hn : ws.length = n) (hm : n ≤ 1048577) (hc : n ≤ c) (hs : ∀ x ∈ ws, x.length ≤ 1048576) (w : World) (hA : RowAt w A (strV ws)) (hE : E7 w) :
    Calls Tryd.prog 40 #[.int .i64 k, .slice A n c] w (ActPost (actW k ws) w) := by
  have hC := fun (W : World) (hW : Below w.heap.size w W) => wordsNumbers ws A n c hn hm hs W (hA.keep hW) (hE.below hW)
  rcases hk with hk | hk | hk | hk | hk | hk | hk
  · subst hk
    have hmk : manyK 1 = 1 := by decide
    by_cases hl : n = 1
    · cases hN : numsL ws with
      | none =>
        rw [show actW 1 ws = (Ac0, 5) by unfold actW; rw [if_neg (by simp), if_neg (by rw [hmk, hn]; simpa using hl), hN]]
        exact act_1_bad A n c (by omega) w ws hC hl hN
      | some l =>
        have hll := (numsL_len hN).1
        rw [hn, hl] at hll
        match l, hll, hN with
        | [a], _, hN =>
          rw [show actW 1 ws = (⟨1, 0, a, Fa0, []⟩, 0) by unfold actW; rw [if_neg (by simp), if_neg (by rw [hmk, hn]; simpa using hl), hN]; rfl]
          exact act_1_ok A n c (by omega) w a ws hC hl hN
    · rw [show actW 1 ws = (Ac0, 19) by unfold actW; rw [if_neg (by simp), if_pos (by rw [hmk, hn]; exact hl)]]
      exact act_1_len A n c (by omega) w (by omega)
  · subst hk
    have hmk : manyK 2 = 2 := by decide
    by_cases hl : n = 2
    · cases hN : numsL ws with
      | none =>
        rw [show actW 2 ws = (Ac0, 5) by unfold actW; rw [if_neg (by simp), if_neg (by rw [hmk, hn]; simpa using hl), hN]]
        exact act_2_bad A n c (by omega) w ws hC hl hN
      | some l =>
        have hll := (numsL_len hN).1
        rw [hn, hl] at hll
        match l, hll, hN with
        | [a, b], _, hN =>
          rw [show actW 2 ws = (⟨2, a, b, Fa0, []⟩, 0) by unfold actW; rw [if_neg (by simp), if_neg (by rw [hmk, hn]; simpa using hl), hN]; rfl]
          exact act_2_ok A n c (by omega) w a b ws hC hl hN
    · rw [show actW 2 ws = (Ac0, 19) by unfold actW; rw [if_neg (by simp), if_pos (by rw [hmk, hn]; exact hl)]]
      exact act_2_len A n c (by omega) w (by omega)
  · subst hk
    have hmk : manyK 4 = 1 := by decide
    by_cases hl : n = 1
    · cases hN : numsL ws with
      | none =>
        rw [show actW 4 ws = (Ac0, 5) by unfold actW; rw [if_neg (by simp), if_neg (by rw [hmk, hn]; simpa using hl), hN]]
        exact act_o_bad 4 A n c (by omega) w (by decide) (by decide) (by decide) ws hC hl hN
      | some l =>
        have hll := (numsL_len hN).1
        rw [hn, hl] at hll
        match l, hll, hN with
        | [a], _, hN =>
          rw [show actW 4 ws = (⟨4, a, 0, Fa0, []⟩, 0) by unfold actW; rw [if_neg (by simp), if_neg (by rw [hmk, hn]; simpa using hl), hN]; rfl]
          exact act_o_ok 4 A n c (by omega) w (by decide) (by decide) (by decide) a ws hC hl hN
    · rw [show actW 4 ws = (Ac0, 19) by unfold actW; rw [if_neg (by simp), if_pos (by rw [hmk, hn]; exact hl)]]
      exact act_o_len 4 A n c (by omega) w (by decide) (by decide) (by decide) (by omega)
  · subst hk
    have hmk : manyK 5 = 1 := by decide
    by_cases hl : n = 1
    · cases hN : numsL ws with
      | none =>
        rw [show actW 5 ws = (Ac0, 5) by unfold actW; rw [if_neg (by simp), if_neg (by rw [hmk, hn]; simpa using hl), hN]]
        exact act_o_bad 5 A n c (by omega) w (by decide) (by decide) (by decide) ws hC hl hN
      | some l =>
        have hll := (numsL_len hN).1
        rw [hn, hl] at hll
        match l, hll, hN with
        | [a], _, hN =>
          rw [show actW 5 ws = (⟨5, a, 0, Fa0, []⟩, 0) by unfold actW; rw [if_neg (by simp), if_neg (by rw [hmk, hn]; simpa using hl), hN]; rfl]
          exact act_o_ok 5 A n c (by omega) w (by decide) (by decide) (by decide) a ws hC hl hN
    · rw [show actW 5 ws = (Ac0, 19) by unfold actW; rw [if_neg (by simp), if_pos (by rw [hmk, hn]; exact hl)]]
      exact act_o_len 5 A n c (by omega) w (by decide) (by decide) (by decide) (by omega)
  · subst hk
    have hmk : manyK 6 = 1 := by decide
    by_cases h6 : n = 2
    · match ws, hn, h6 with
      | [w0, w1], hn, h6 =>
        obtain ⟨blk, off, rfl, hc0⟩ := hA 0 _ rfl
        obtain ⟨b3, o3, he, hc1⟩ := hA 1 _ rfl
        injection he with he
        injection he with e1 e2 e3
        subst e1 e2
        simp only [Nat.add_zero] at hc0
        have CB := fun (W : World) (hW : Below w.heap.size w W) => wordsBody ⟨w1.toArray⟩ (by have := hs w1 (by simp); simpa [ByteArray.size] using this) W
        have CN := fun (W : World) (hW : Below w.heap.size w W) => wordsNumber ⟨w0.toArray⟩ (by have := hs w0 (by simp); simpa [ByteArray.size] using this) W (hE.below hW)
        rw [show (⟨w1.toArray⟩ : ByteArray).data.toList = w1 from rfl] at CB
        rw [show (⟨w0.toArray⟩ : ByteArray).data.toList = w0 from rfl] at CN
        cases hB : hexL w1 with
        | none =>
          rw [show actW 6 [w0, w1] = (Ac0, 5) by unfold actW; simp [hB]]
          exact act_6l_b _ n c (by omega) w blk off _ _ w0 h6 rfl hc0 hc1 _ _ CB CN hB
        | some b =>
          cases hN : numL w0 with
          | none =>
            rw [show actW 6 [w0, w1] = (Ac0, 5) by unfold actW; simp [hB, hN]]
            exact act_6l_n _ n c (by omega) w blk off _ _ w0 h6 rfl hc0 hc1 _ _ CB CN b hB hN
          | some z =>
            rw [show actW 6 [w0, w1] = (⟨6, z, 0, Fa0, b⟩, 0) by unfold actW; simp [hB, hN]]
            have hR : RowAt w (some ⟨blk, off, none⟩) (strV [w0]) := hA.take 1
            have CM := fun (W : World) (hW : Below w.heap.size w W) => wordsNumbers [w0] (some ⟨blk, off, none⟩) 1 c rfl (by omega) (fun x hx => hs x (by simp at hx; simp [hx])) W (hR.keep hW) (hE.below hW)
            rw [show numsL [w0] = some [z] by unfold numsL; rw [hN]; rfl] at CM
            exact act_6l_ok _ n c (by omega) w blk off _ _ w0 h6 rfl hc0 hc1 _ _ CB CN b z hB hN (str_slice_upto _ 2 c 1 (by omega)) CM
    by_cases hl : n = 1
    · cases hN : numsL ws with
      | none =>
        rw [show actW 6 ws = (Ac0, 5) by unfold actW; rw [if_neg (fun h => h6 (by rw [← hn]; exact h.2)), if_neg (by rw [hmk, hn]; simpa using hl), hN]]
        exact act_6_bad A n c (by omega) w ws hC hl hN
      | some l =>
        have hll := (numsL_len hN).1
        rw [hn, hl] at hll
        match l, hll, hN with
        | [a], _, hN =>
          rw [show actW 6 ws = (⟨6, a, 0, Fa0, []⟩, 0) by unfold actW; rw [if_neg (fun h => h6 (by rw [← hn]; exact h.2)), if_neg (by rw [hmk, hn]; simpa using hl), hN]; rfl]
          exact act_6_ok A n c (by omega) w a ws hC hl hN
    · rw [show actW 6 ws = (Ac0, 19) by unfold actW; rw [if_neg (fun h => h6 (by rw [← hn]; exact h.2)), if_pos (by rw [hmk, hn]; exact hl)]]
      exact act_6_len A n c (by omega) w (fun h => h6 (by omega)) (by omega)
  · subst hk
    have hmk : manyK 7 = 1 := by decide
    by_cases hl : n = 1
    · cases hN : numsL ws with
      | none =>
        rw [show actW 7 ws = (Ac0, 5) by unfold actW; rw [if_neg (by simp), if_neg (by rw [hmk, hn]; simpa using hl), hN]]
        exact act_o_bad 7 A n c (by omega) w (by decide) (by decide) (by decide) ws hC hl hN
      | some l =>
        have hll := (numsL_len hN).1
        rw [hn, hl] at hll
        match l, hll, hN with
        | [a], _, hN =>
          rw [show actW 7 ws = (⟨7, a, 0, Fa0, []⟩, 0) by unfold actW; rw [if_neg (by simp), if_neg (by rw [hmk, hn]; simpa using hl), hN]; rfl]
          exact act_o_ok 7 A n c (by omega) w (by decide) (by decide) (by decide) a ws hC hl hN
    · rw [show actW 7 ws = (Ac0, 19) by unfold actW; rw [if_neg (by simp), if_pos (by rw [hmk, hn]; exact hl)]]
      exact act_o_len 7 A n c (by omega) w (by decide) (by decide) (by decide) (by omega)
  · subst hk
    have hmk : manyK 8 = 1 := by decide
    by_cases hl : n = 1
    · cases hN : numsL ws with
      | none =>
        rw [show actW 8 ws = (Ac0, 5) by unfold actW; rw [if_neg (by simp), if_neg (by rw [hmk, hn]; simpa using hl), hN]]
        exact act_o_bad 8 A n c (by omega) w (by decide) (by decide) (by decide) ws hC hl hN
      | some l =>
        have hll := (numsL_len hN).1
        rw [hn, hl] at hll
        match l, hll, hN with
        | [a], _, hN =>
          rw [show actW 8 ws = (⟨8, a, 0, Fa0, []⟩, 0) by unfold actW; rw [if_neg (by simp), if_neg (by rw [hmk, hn]; simpa using hl), hN]; rfl]
          exact act_o_ok 8 A n c (by omega) w (by decide) (by decide) (by decide) a ws hC hl hN
    · rw [show actW 8 ws = (Ac0, 19) by unfold actW; rw [if_neg (by simp), if_pos (by rw [hmk, hn]; exact hl)]]
      exact act_o_len 8 A n c (by omega) w (by decide) (by decide) (by decide) (by omega)
end Go.Proofs.YtndpdonlombodaaDoor
