/- The reference's One: what it hands back is the plain law's. -/
import Derived.Test.YtndpdonlombodaaDoorWeK
import Derived.Test.YtndpdonlombodaaDoorWeH
namespace Go.Proofs.YtndpdonlombodaaDoor
open Go.RowKit Law
set_option linter.unusedVariables false
set_option linter.unusedSimpArgs false

theorem one_act {v : List UInt8} {r : List (List UInt8)} {k : Int} (hk : kindL v = k) (h0 : k ≠ 0) (h3 : k ≠ 3) :
    oneW (v :: r) = if (actW k r).2 ≠ 0 then (Ac0, (actW k r).2) else if goodA (actW k r).1 then ((actW k r).1, 0) else (Ac0, 2) := by
  have h : rawW (v :: r) = actW k r := by
    unfold rawW
    rw [show (v :: r).headD [] = v from rfl, hk, if_neg h0, if_neg h3]; rfl
  unfold oneW
  rw [h]
theorem one_fate {v : List UInt8} {r : List (List UInt8)} (hk : kindL v = 3) :
    oneW (v :: r) = if (fatedW r).2 ≠ 0 then (Ac0, (fatedW r).2) else if goodA ⟨3, 0, 0, (fatedW r).1, []⟩ then (⟨3, 0, 0, (fatedW r).1, []⟩, 0) else (Ac0, 2) := by
  have h : rawW (v :: r) = (⟨3, 0, 0, (fatedW r).1, []⟩, (fatedW r).2) := by
    unfold rawW
    rw [show (v :: r).headD [] = v from rfl, hk, if_neg (by decide), if_pos rfl]; rfl
  unfold oneW
  rw [h]
theorem one_zero {v : List UInt8} {r : List (List UInt8)} (hk : kindL v = 0) : oneW (v :: r) = (Ac0, 19) := by
  have h : rawW (v :: r) = (Ac0, 19) := by
    unfold rawW
    rw [show (v :: r).headD [] = v from rfl, hk, if_pos rfl]
  unfold oneW
  rw [h]; rfl
theorem act_len {k : Int} {r : List (List UInt8)} (h6 : ¬ (k = 6 ∧ r.length = 2)) (h : r.length ≠ manyK k) : actW k r = (Ac0, 19) := by
  unfold actW; rw [if_neg h6, if_pos h]
theorem act_num {k : Int} {r : List (List UInt8)} (h6 : ¬ (k = 6 ∧ r.length = 2)) (h : r.length = manyK k) : actW k r = (match numsL r with
    | none => (Ac0, 5)
    | some l => if k = 1 then (⟨1, 0, l.getD 0 0, Fa0, []⟩, 0) else if k = 2 then (⟨2, l.getD 0 0, l.getD 1 0, Fa0, []⟩, 0) else (⟨k, l.getD 0 0, 0, Fa0, []⟩, 0)) := by
  unfold actW; rw [if_neg h6, if_neg (by simpa using h)]; rfl
theorem nums1n {a : List UInt8} (h : numL a = none) (r : List (List UInt8)) : numsL (a :: r) = none := by unfold numsL; rw [h]
theorem nums1 {a : List UInt8} {z : Int} (h : numL a = some z) : numsL [a] = some [z] := by simp [numsL, h]
theorem numsC {a : List UInt8} {z : Int} (h : numL a = some z) (r : List (List UInt8)) : numsL (a :: r) = (match numsL r with | none => none | some l => some (z :: l)) := by
  conv => lhs; unfold numsL
  rw [h]
  cases numsL r <;> rfl

/-! ### shapes -/
theorem row_head {W : World} {A : Option Addr} {v : List UInt8} {r : List (List UInt8)} (h : RowAt W A (strV (v :: r))) : ∃ blk off, A = some ⟨blk, off, none⟩ ∧ W.cell? ⟨blk, off, none⟩ = some (.string ⟨v.toArray⟩) := by
  obtain ⟨b, o, he, hc⟩ := h 0 _ rfl
  exact ⟨b, o, he, by simpa using hc⟩
theorem row_two {W : World} {A : Option Addr} {v u : List UInt8} {r : List (List UInt8)} (h : RowAt W A (strV (v :: u :: r))) : ∃ blk off, A = some ⟨blk, off, none⟩ ∧ W.cell? ⟨blk, off, none⟩ = some (.string ⟨v.toArray⟩) ∧ W.cell? ⟨blk, off + 1, none⟩ = some (.string ⟨u.toArray⟩) := by
  obtain ⟨b, o, he, hc⟩ := h 0 _ rfl
  obtain ⟨b3, o3, he3, hc3⟩ := h 1 _ rfl
  subst he
  injection he3 with he3
  injection he3 with e1 e2 e3
  subst e1 e2
  exact ⟨b, o, rfl, by simpa using hc, hc3⟩
abbrev ShapeC (ws : List (List UInt8)) (N : Nat) (k f h n : Int) : Prop := ∀ (W : World) (A : Option Addr) (c : Nat), RowAt W A (strV ws) → Calls Tryd.prog 41 #[.slice A N c] W (ShapePost k f h n W)
theorem shape_of (K : Nat) (hK1 : 1 ≤ K) (hK : K < 9) (h2 : K ≠ 2) (hne : nmL K ≠ []) (hd : ∀ m, m < K → 1 ≤ m → ¬ (nmL m ≠ [] ∧ nmL K = nmL m)) (r : List (List UInt8)) (N : Nat) (hN : 0 < N) : ShapeC (nmL K :: r) N K 0 1 1 := fun W A c h => by
  obtain ⟨b, o, rfl, hc⟩ := row_head h
  exact shape_hit_one (nmL K) ⟨(nmL K).toArray⟩ rfl b o N c hN W hc K hK1 hK (beq_eq_false_iff_ne.2 (by omega)) (fun m h1 hm => hd m hm h1) ⟨hne, rfl⟩
theorem shape_of2 (r : List (List UInt8)) (N : Nat) (hN : 0 < N) : ShapeC (nmL 2 :: r) N 2 0 1 2 := fun W A c h => by
  obtain ⟨b, o, rfl, hc⟩ := row_head h
  exact shape_hit_two (nmL 2) ⟨(nmL 2).toArray⟩ rfl b o N c hN W hc 2 (by decide) (by decide) rfl (fun m h1 hm => by obtain rfl : m = 1 := (by omega); decide) ⟨by decide, rfl⟩
theorem kind_nm : ∀ m, m < 9 → nmL m ≠ [] → kindL (nmL m) = m := by decide
theorem no_names {v : List UInt8} (h : kindL v = 0 ∨ kindL v = 3) : ∀ m, 1 ≤ m → m < 9 → ¬ (nmL m ≠ [] ∧ v = nmL m) := by
  rintro m h1 hm ⟨hne, rfl⟩
  rw [kind_nm m hm hne] at h
  have : m = 3 := by omega
  subst this
  exact hne rfl
theorem shape_none {v : List UInt8} (hk : kindL v = 0) (r : List (List UInt8)) (N : Nat) (hN : 0 < N) : ShapeC (v :: r) N 0 0 0 0 := fun W A c h => by
  obtain ⟨b, o, rfl, hc⟩ := row_head h
  exact shape_no1 v ⟨v.toArray⟩ rfl b o N c hN W hc (no_names (.inl hk)) (fun e => by subst e; revert hk; decide)
theorem shape_fate0 : ShapeC [wFate] 1 0 0 0 0 := fun W A c h => by
  obtain ⟨b, o, rfl, hc⟩ := row_head h
  exact shape_no2 wFate ⟨wFate.toArray⟩ rfl b o 1 c (by decide) W hc (no_names (.inr (by decide))) rfl rfl
theorem fate_nm : ∀ m, m < 4 → fateK (ftL m) = m := by decide
theorem shape_fateN {u : List UInt8} (hf : fateK u < 0) (r : List (List UInt8)) (N : Nat) (hN : 1 < N) : ShapeC (wFate :: u :: r) N 0 0 0 0 := fun W A c h => by
  obtain ⟨b, o, rfl, hc, hc1⟩ := row_two h
  exact shape_no3 wFate ⟨wFate.toArray⟩ rfl b o N c (by omega) W hc (no_names (.inr (by decide))) rfl hN u ⟨u.toArray⟩ rfl hc1 (fun m hm e => by subst e; rw [fate_nm m hm] at hf; omega)
theorem shape_fate_0 (r : List (List UInt8)) (N : Nat) (hN : 1 < N) : ShapeC (wFate :: ftL 0 :: r) N 3 0 2 1 := fun W A c h => by
  obtain ⟨b, o, rfl, hc, hc1⟩ := row_two h
  exact shape_f0 wFate ⟨wFate.toArray⟩ rfl b o N c (by omega) W hc (no_names (.inr (by decide))) rfl hN (ftL 0) ⟨(ftL 0).toArray⟩ rfl hc1 (fun m hm => absurd hm (Nat.not_lt_zero _)) rfl
theorem shape_fate_1 (r : List (List UInt8)) (N : Nat) (hN : 1 < N) : ShapeC (wFate :: ftL 1 :: r) N 3 1 2 0 := fun W A c h => by
  obtain ⟨b, o, rfl, hc, hc1⟩ := row_two h
  exact shape_f1 wFate ⟨wFate.toArray⟩ rfl b o N c (by omega) W hc (no_names (.inr (by decide))) rfl hN (ftL 1) ⟨(ftL 1).toArray⟩ rfl hc1 (by decide) rfl
theorem shape_fate_2 (r : List (List UInt8)) (N : Nat) (hN : 1 < N) : ShapeC (wFate :: ftL 2 :: r) N 3 2 2 2 := fun W A c h => by
  obtain ⟨b, o, rfl, hc, hc1⟩ := row_two h
  exact shape_f2 wFate ⟨wFate.toArray⟩ rfl b o N c (by omega) W hc (no_names (.inr (by decide))) rfl hN (ftL 2) ⟨(ftL 2).toArray⟩ rfl hc1 (by decide) rfl
theorem shape_fate_3 (r : List (List UInt8)) (N : Nat) (hN : 1 < N) : ShapeC (wFate :: ftL 3 :: r) N 3 3 2 3 := fun W A c h => by
  obtain ⟨b, o, rfl, hc, hc1⟩ := row_two h
  exact shape_f3 wFate ⟨wFate.toArray⟩ rfl b o N c (by omega) W hc (no_names (.inr (by decide))) rfl hN (ftL 3) ⟨(ftL 3).toArray⟩ rfl hc1 (by decide) rfl

/-! ### One, kind by kind -/
abbrev ZW (w : World) : World := w.alloc (.cells #[.int .i64 0, .int .i64 0, .int .i64 0, .int .i64 0, .int .i64 0, .int .i64 0, .int .u32 0, .int .u32 0, .slice none 0 0] 29)
abbrev SplitC (s : ByteArray) (w : World) (ws : List (List UInt8)) (N : Nat) : Prop := Calls Tryd.prog 28 #[.string s, .int .u8 32] (ZW w) (SplitP N ws (ZW w))
abbrev OneC (s : ByteArray) (w : World) (o : Ac × Int) : Prop := Calls Tryd.prog 29 #[.string s] w (ActPost o w)
abbrev NumC (a : List UInt8) (o : Option Int) : Prop := ∀ W, Calls Tryd.prog 42 #[.string ⟨a.toArray⟩] W (NumPost o W)
abbrev BytesC (a : List UInt8) (o : Option (List UInt8)) : Prop := ∀ W, Calls Tryd.prog 43 #[.string ⟨a.toArray⟩] W (BodyPost o W)
theorem numC (a : List UInt8) (h : a.length ≤ 1048576) : NumC a (numL a) := fun W => refNum ⟨a.toArray⟩ (by simpa [ByteArray.size] using h) W
theorem bytesC (a : List UInt8) (h : a.length ≤ 1048576) : BytesC a (hexL a) := fun W => refBytes ⟨a.toArray⟩ (by simpa [ByteArray.size] using h) W
theorem one_pick {o : Ac × Int} {x : Ac} {s : ByteArray} {w : World} (ho : o = if goodA x then (x, 0) else (Ac0, 2)) (ok : goodA x = true → OneC s w (x, 0)) (ng : goodA x = false → OneC s w (Ac0, 2)) : OneC s w o := by
  cases hg : goodA x with
  | true => rw [ho, hg, if_pos rfl]; exact ok hg
  | false => rw [ho, hg, if_neg (by simp)]; exact ng hg
theorem one_k1 (s : ByteArray) (w : World) (r : List (List UInt8)) (hr : ∀ x ∈ r, x.length ≤ 1048576) (hl : r.length ≤ 1048577) (CS : SplitC s w (wTick :: r) (r.length + 1)) : OneC s w (oneW (wTick :: r)) := by
  have CH : ShapeC (wTick :: r) (r.length + 1) 1 0 1 1 := shape_of 1 (by decide) (by decide) (by decide) (by decide) (by decide) r _ (by omega)
  rw [one_act (k := 1) (by decide) (by decide) (by decide)]
  by_cases h1 : r.length = 1
  · match r, h1 with
    | [a], _ =>
      have CN := numC a (hr a (by simp))
      rw [act_num (by simp) rfl]
      cases hn : numL a with
      | none =>
        rw [hn] at CN
        rw [nums1n hn]
        exact rone_k1_b0 s w _ _ CN CS CH
      | some z =>
        rw [hn] at CN
        rw [nums1 hn]
        exact one_pick rfl (fun hg => rone_k1_ok s w _ _ z CN hg CS CH) (fun hg => rone_k1_ng s w _ _ z CN hg CS CH)
  · rw [act_len (by simp) (by simpa [manyK] using h1)]
    exact rone_len s w _ _ 1 0 1 1 rfl rfl (by decide) (by decide) (by decide) (by decide) (by rw [bne_iff_ne]; omega) CS CH
theorem one_k2 (s : ByteArray) (w : World) (r : List (List UInt8)) (hr : ∀ x ∈ r, x.length ≤ 1048576) (hl : r.length ≤ 1048577) (CS : SplitC s w (wDrift :: r) (r.length + 1)) : OneC s w (oneW (wDrift :: r)) := by
  have CH : ShapeC (wDrift :: r) (r.length + 1) 2 0 1 2 := shape_of2 r _ (by omega)
  rw [one_act (k := 2) (by decide) (by decide) (by decide)]
  by_cases h1 : r.length = 2
  · match r, h1 with
    | [a, b], _ =>
      have CN := numC a (hr a (by simp))
      have CN1 := numC b (hr b (by simp))
      rw [act_num (by simp) rfl]
      cases hn : numL a with
      | none =>
        rw [hn] at CN
        rw [nums1n hn]
        exact rone_k2_b0 s w _ _ _ CN CS CH
      | some z =>
        rw [hn] at CN
        rw [numsC hn]
        cases hn1 : numL b with
        | none =>
          rw [hn1] at CN1
          rw [nums1n hn1]
          exact rone_k2_b1 s w _ _ _ z CN CN1 CS CH
        | some y =>
          rw [hn1] at CN1
          rw [nums1 hn1]
          exact one_pick rfl (fun hg => rone_k2_ok s w _ _ _ z y CN CN1 hg CS CH) (fun hg => rone_k2_ng s w _ _ _ z y CN CN1 hg CS CH)
  · rw [act_len (by simp) (by simpa [manyK] using h1)]
    exact rone_len s w _ _ 2 0 1 2 rfl rfl (by decide) (by decide) (by decide) (by decide) (by rw [bne_iff_ne]; omega) CS CH
theorem one_ko (K : Nat) (hK : K = 4 ∨ K = 5 ∨ K = 7 ∨ K = 8) (s : ByteArray) (w : World) (r : List (List UInt8)) (hr : ∀ x ∈ r, x.length ≤ 1048576) (hl : r.length ≤ 1048577) (CS : SplitC s w (nmL K :: r) (r.length + 1)) : OneC s w (oneW (nmL K :: r)) := by
  have hne : nmL K ≠ [] := by rcases hK with rfl | rfl | rfl | rfl <;> decide
  have CH : ShapeC (nmL K :: r) (r.length + 1) K 0 1 1 := shape_of K (by omega) (by omega) (by omega) hne (by rcases hK with rfl | rfl | rfl | rfl <;> decide) r _ (by omega)
  have q0 : ((K : Int) == 0) = false := beq_eq_false_iff_ne.2 (by omega)
  have q1 : ((K : Int) == 1) = false := beq_eq_false_iff_ne.2 (by omega)
  have q2 : ((K : Int) == 2) = false := beq_eq_false_iff_ne.2 (by omega)
  have q3 : ((K : Int) == 3) = false := beq_eq_false_iff_ne.2 (by omega)
  have q6 : ((K : Int) == 6) = false := beq_eq_false_iff_ne.2 (by omega)
  have hm : manyK (K : Int) = 1 := by unfold manyK; rw [if_neg (by omega)]
  rw [one_act (k := K) (kind_nm K (by omega) hne) (by omega) (by omega)]
  by_cases h1 : r.length = 1
  · match r, h1 with
    | [a], _ =>
      have CN := numC a (hr a (by simp))
      rw [act_num (fun h => by omega) (by rw [hm]; rfl)]
      cases hn : numL a with
      | none =>
        rw [hn] at CN
        rw [nums1n hn]
        exact rone_ko_b0 s w K q0 q1 q2 q3 q6 _ _ CN CS CH
      | some z =>
        rw [hn] at CN
        rw [nums1 hn]
        simp only
        rw [if_neg (show ¬ ((K : Int) = 1) by omega), if_neg (show ¬ ((K : Int) = 2) by omega)]
        exact one_pick rfl (fun hg => rone_ko_ok s w K q0 q1 q2 q3 q6 _ _ z CN hg CS CH) (fun hg => rone_ko_ng s w K q0 q1 q2 q3 q6 _ _ z CN hg CS CH)
  · rw [act_len (fun h => by omega) (by rw [hm]; exact h1)]
    exact rone_len s w _ _ K 0 1 1 q0 q6 (by decide) (by decide) (by decide) (by decide) (by rw [bne_iff_ne]; omega) CS CH
theorem one_k6 (s : ByteArray) (w : World) (r : List (List UInt8)) (hr : ∀ x ∈ r, x.length ≤ 1048576) (hl : r.length ≤ 1048577) (CS : SplitC s w (wSend :: r) (r.length + 1)) : OneC s w (oneW (wSend :: r)) := by
  have CH : ShapeC (wSend :: r) (r.length + 1) 6 0 1 1 := shape_of 6 (by decide) (by decide) (by decide) (by decide) (by decide) r _ (by omega)
  rw [one_act (k := 6) (by decide) (by decide) (by decide)]
  by_cases h1 : r.length = 1
  · match r, h1 with
    | [a], _ =>
      have CN := numC a (hr a (by simp))
      rw [act_num (by simp) rfl]
      cases hn : numL a with
      | none =>
        rw [hn] at CN
        rw [nums1n hn]
        exact rone_k6_b0 s w _ _ CN CS CH
      | some z =>
        rw [hn] at CN
        rw [nums1 hn]
        exact one_pick rfl (fun hg => rone_k6_ok s w _ _ z CN hg CS CH) (fun hg => rone_k6_ng s w _ _ z CN hg CS CH)
  · by_cases h2 : r.length = 2
    · match r, h2 with
      | [a, b], _ =>
        have CN := numC a (hr a (by simp))
        have CB := bytesC b (hr b (by simp))
        have ha : actW 6 [a, b] = (match numL a, hexL b with
            | some n, some x => (⟨6, n, 0, Fa0, x⟩, 0)
            | _, _ => (Ac0, 5)) := by
          unfold actW; rw [if_pos ⟨rfl, rfl⟩]; rfl
        rw [ha]
        cases hn : numL a with
        | none =>
          rw [hn] at CN
          exact rone_k6l_b0 s w _ _ _ CN CS CH
        | some z =>
          rw [hn] at CN
          cases hb : hexL b with
          | none =>
            rw [hb] at CB
            exact rone_k6l_bb s w _ _ _ z CN CB CS CH
          | some x =>
            rw [hb] at CB
            exact one_pick rfl (fun hg => rone_k6l_ok s w _ _ _ z x CN CB hg CS CH) (fun hg => rone_k6l_ng s w _ _ _ z x CN CB hg CS CH)
    · rw [act_len (fun h => h2 h.2) (by simpa [manyK] using h1)]
      exact rone_len6 s w _ _ 0 1 1 (by decide) (by decide) (by decide) (by decide) (by rw [bne_iff_ne]; omega) (beq_eq_false_iff_ne.2 (by omega)) CS CH
theorem u32_low (z : Int) : IntKind.u32.wrap z = ((lowN z : Nat) : Int) ∧ z % 4294967296 = ((lowN z : Nat) : Int) ∧ lowN z < 4294967296 := by
  unfold lowN
  rw [IntKind.wrap_u32]
  omega
theorem wide_ne {z : Int} (h : wideN z = true) : (((lowN z : Nat) : Int) != z) = true := by
  have h2 := (u32_low z).2.1
  unfold wideN at h
  rw [bne_iff_ne, ← h2]
  simpa using h
theorem fated_len {u : List UInt8} {r : List (List UInt8)} (h : fateK u < 0 ∨ r.length ≠ manyF (fateK u)) : fatedW (u :: r) = (Fa0, 19) := by
  unfold fatedW; simp only; rw [if_pos h]
theorem fated_num {u : List UInt8} {r : List (List UInt8)} {f : Int} (hf : fateK u = f) (h0 : 0 ≤ f) (h : r.length = manyF f) : fatedW (u :: r) = (match numsL r with
      | none => (Fa0, 5)
      | some l =>
        if f = 0 then (⟨0, l.getD 0 0, 0, 0, 0⟩, 0)
        else if f = 1 then (⟨1, 0, 0, 0, 0⟩, 0)
        else if f = 2 then (⟨2, l.getD 0 0, l.getD 1 0, 0, 0⟩, 0)
        else if wideN (l.getD 1 0) || wideN (l.getD 2 0) then (Fa0, 2)
        else (⟨3, l.getD 0 0, 0, lowN (l.getD 1 0), lowN (l.getD 2 0)⟩, 0)) := by
  unfold fatedW
  simp only
  rw [hf, if_neg (by omega)]
  cases numsL r <;> rfl
theorem one_f0 (s : ByteArray) (w : World) (r : List (List UInt8)) (hr : ∀ x ∈ r, x.length ≤ 1048576) (hl : r.length ≤ 1048577) (CS : SplitC s w (wFate :: ftL 0 :: r) (r.length + 2)) : OneC s w (oneW (wFate :: ftL 0 :: r)) := by
  have CH : ShapeC (wFate :: ftL 0 :: r) (r.length + 2) 3 0 2 1 := shape_fate_0 r _ (by omega)
  rw [one_fate (by decide)]
  by_cases h1 : r.length = 1
  · match r, h1 with
    | [a], _ =>
      have CN := numC a (hr a (by simp))
      rw [fated_num (f := 0) (by decide) (by decide) rfl]
      cases hn : numL a with
      | none =>
        rw [hn] at CN
        rw [nums1n hn]
        exact rone_f0_b0 s w _ _ _ CN CS CH
      | some z =>
        rw [hn] at CN
        rw [nums1 hn]
        exact one_pick rfl (fun hg => rone_f0_ok s w _ _ _ z CN hg CS CH) (fun hg => rone_f0_ng s w _ _ _ z CN hg CS CH)
  · rw [fated_len (.inr (by rw [show manyF (fateK (ftL 0)) = 1 by decide]; exact h1))]
    exact rone_len s w _ _ 3 0 2 1 rfl rfl (by decide) (by decide) (by decide) (by decide) (by rw [bne_iff_ne]; omega) CS CH
theorem one_f1 (s : ByteArray) (w : World) (r : List (List UInt8)) (hr : ∀ x ∈ r, x.length ≤ 1048576) (hl : r.length ≤ 1048577) (CS : SplitC s w (wFate :: ftL 1 :: r) (r.length + 2)) : OneC s w (oneW (wFate :: ftL 1 :: r)) := by
  have CH : ShapeC (wFate :: ftL 1 :: r) (r.length + 2) 3 1 2 0 := shape_fate_1 r _ (by omega)
  rw [one_fate (by decide)]
  by_cases h1 : r.length = 0
  · match r, h1 with
    | [], _ =>
      rw [fated_num (f := 1) (by decide) (by decide) rfl]
      exact one_pick rfl (fun hg => rone_f1_ok s w _ _ hg CS CH) (fun hg => rone_f1_ng s w _ _ hg CS CH)
  · rw [fated_len (.inr (by rw [show manyF (fateK (ftL 1)) = 0 by decide]; exact h1))]
    exact rone_len s w _ _ 3 1 2 0 rfl rfl (by decide) (by decide) (by decide) (by decide) (by rw [bne_iff_ne]; omega) CS CH
theorem one_f2 (s : ByteArray) (w : World) (r : List (List UInt8)) (hr : ∀ x ∈ r, x.length ≤ 1048576) (hl : r.length ≤ 1048577) (CS : SplitC s w (wFate :: ftL 2 :: r) (r.length + 2)) : OneC s w (oneW (wFate :: ftL 2 :: r)) := by
  have CH : ShapeC (wFate :: ftL 2 :: r) (r.length + 2) 3 2 2 2 := shape_fate_2 r _ (by omega)
  rw [one_fate (by decide)]
  by_cases h1 : r.length = 2
  · match r, h1 with
    | [a, b], _ =>
      have CN := numC a (hr a (by simp))
      have CN1 := numC b (hr b (by simp))
      rw [fated_num (f := 2) (by decide) (by decide) rfl]
      cases hn : numL a with
      | none =>
        rw [hn] at CN
        rw [nums1n hn]
        exact rone_f2_b0 s w _ _ _ _ CN CS CH
      | some z =>
        rw [hn] at CN
        rw [numsC hn]
        cases hn1 : numL b with
        | none =>
          rw [hn1] at CN1
          rw [nums1n hn1]
          exact rone_f2_b1 s w _ _ _ _ z CN CN1 CS CH
        | some y =>
          rw [hn1] at CN1
          rw [nums1 hn1]
          exact one_pick rfl (fun hg => rone_f2_ok s w _ _ _ _ z y CN CN1 hg CS CH) (fun hg => rone_f2_ng s w _ _ _ _ z y CN CN1 hg CS CH)
  · rw [fated_len (.inr (by rw [show manyF (fateK (ftL 2)) = 2 by decide]; exact h1))]
    exact rone_len s w _ _ 3 2 2 2 rfl rfl (by decide) (by decide) (by decide) (by decide) (by rw [bne_iff_ne]; omega) CS CH
theorem one_f3 (s : ByteArray) (w : World) (r : List (List UInt8)) (hr : ∀ x ∈ r, x.length ≤ 1048576) (hl : r.length ≤ 1048577) (CS : SplitC s w (wFate :: ftL 3 :: r) (r.length + 2)) : OneC s w (oneW (wFate :: ftL 3 :: r)) := by
  have CH : ShapeC (wFate :: ftL 3 :: r) (r.length + 2) 3 3 2 3 := shape_fate_3 r _ (by omega)
  rw [one_fate (by decide)]
  by_cases h1 : r.length = 3
  · match r, h1 with
    | [a, b, d], _ =>
      have CN := numC a (hr a (by simp))
      have CN1 := numC b (hr b (by simp))
      have CN2 := numC d (hr d (by simp))
      rw [fated_num (f := 3) (by decide) (by decide) rfl]
      cases hn : numL a with
      | none =>
        rw [hn] at CN
        rw [nums1n hn]
        exact rone_f3_b0 s w _ _ _ _ _ CN CS CH
      | some z =>
        rw [hn] at CN
        rw [numsC hn]
        cases hn1 : numL b with
        | none =>
          rw [hn1] at CN1
          rw [nums1n hn1]
          exact rone_f3_b1 s w _ _ _ _ _ z CN CN1 CS CH
        | some y =>
          rw [hn1] at CN1
          rw [numsC hn1]
          cases hn2 : numL d with
          | none =>
            rw [hn2] at CN2
            rw [nums1n hn2]
            exact rone_f3_b2 s w _ _ _ _ _ z y CN CN1 CN2 CS CH
          | some x =>
            rw [hn2] at CN2
            rw [nums1 hn2]
            simp only [List.getD_cons_zero, List.getD_cons_succ]
            rw [if_neg (show ¬ ((3 : Int) = 0) by decide), if_neg (show ¬ ((3 : Int) = 1) by decide), if_neg (show ¬ ((3 : Int) = 2) by decide)]
            obtain ⟨e1, e2, e5⟩ := u32_low y
            obtain ⟨e3, e4, e6⟩ := u32_low x
            cases h5 : wideN y with
            | true =>
              rw [Bool.true_or, if_pos rfl]
              exact rone_f3_w1 s w _ _ _ _ _ z y x (lowN y) (lowN x) CN CN1 CN2 e1 e2 e3 e4 e5 e6 (wide_ne h5) CS CH
            | false =>
              have hy := (low_wide h5).2
              cases h6 : wideN x with
              | true =>
                rw [Bool.or_true, if_pos rfl]
                rw [← hy] at CN1
                exact rone_f3_w2 s w _ _ _ _ _ z (lowN y) (lowN x) x CN CN1 CN2 e3 e4 e5 e6 (wide_ne h6) CS CH
              | false =>
                have hx := (low_wide h6).2
                rw [Bool.or_false, if_neg (by simp)]
                rw [← hy] at CN1
                rw [← hx] at CN2
                exact one_pick rfl (fun hg => rone_f3_ok s w _ _ _ _ _ z (lowN y) (lowN x) CN CN1 CN2 hg e5 e6 CS CH) (fun hg => rone_f3_ng s w _ _ _ _ _ z (lowN y) (lowN x) CN CN1 CN2 hg e5 e6 CS CH)
  · rw [fated_len (.inr (by rw [show manyF (fateK (ftL 3)) = 3 by decide]; exact h1))]
    exact rone_len s w _ _ 3 3 2 3 rfl rfl (by decide) (by decide) (by decide) (by decide) (by rw [bne_iff_ne]; omega) CS CH
theorem refOne (s : ByteArray) (hs : s.size ≤ 1048576) (w : World) : OneC s w (oneL s.data.toList) := by
  have hml : ∀ x ∈ cutBy 32 s.data.toList, x.length ≤ 1048576 := fun x hx => by
    have h1 := mem_cut_len 32 s.data.toList x hx
    have e := Lib.size_eq s
    omega
  have hcl : (cutBy 32 s.data.toList).length ≤ 1048577 := by
    have h1 := cut_len 32 s.data.toList
    have e := Lib.size_eq s
    omega
  have CSp := refSplit s hs 32 32 rfl (ZW w)
  unfold oneL
  obtain ⟨v, r, hvr⟩ : ∃ v r, cutBy 32 s.data.toList = v :: r := by
    cases h : cutBy 32 s.data.toList with
    | nil => exact absurd h (cutBy_ne _ _)
    | cons v r => exact ⟨v, r, rfl⟩
  rw [hvr] at CSp hml hcl ⊢
  have hl : r.length ≤ 1048577 := by simp at hcl; omega
  have hmr : ∀ x ∈ r, x.length ≤ 1048576 := fun x hx => hml x (by simp [hx])
  have CS : SplitC s w (v :: r) (r.length + 1) := CSp.mono fun e w' ⟨A, c, he, hc, hr, hb⟩ => ⟨A, c, he, hc, hr, hb⟩
  clear CSp hvr hml hcl
  obtain ⟨k1, k2, k3, k4, k5, k6, k7, k8, k0, k9⟩ := @kindL_eq v
  by_cases h0 : kindL v = 0
  · rw [one_zero h0]
    exact rone_z s w _ _ CS (shape_none h0 r _ (by omega))
  by_cases h1 : kindL v = 1
  · obtain rfl := k1 h1; exact one_k1 s w r hmr hl CS
  by_cases h2 : kindL v = 2
  · obtain rfl := k2 h2; exact one_k2 s w r hmr hl CS
  by_cases h4 : kindL v = 4
  · obtain rfl := k4 h4; exact one_ko 4 (by decide) s w r hmr hl CS
  by_cases h5 : kindL v = 5
  · obtain rfl := k5 h5; exact one_ko 5 (by decide) s w r hmr hl CS
  by_cases h6 : kindL v = 6
  · obtain rfl := k6 h6; exact one_k6 s w r hmr hl CS
  by_cases h7 : kindL v = 7
  · obtain rfl := k7 h7; exact one_ko 7 (by decide) s w r hmr hl CS
  by_cases h8 : kindL v = 8
  · obtain rfl := k8 h8; exact one_ko 8 (by decide) s w r hmr hl CS
  have h3 : kindL v = 3 := by omega
  obtain rfl := k3 h3
  cases r with
  | nil =>
    rw [one_fate h3]
    exact rone_z s w _ _ CS shape_fate0
  | cons u r =>
    have hl2 : r.length ≤ 1048577 := by simp at hl; omega
    have hm2 : ∀ x ∈ r, x.length ≤ 1048576 := fun x hx => hmr x (by simp [hx])
    obtain ⟨f0, f1, f2, f3, f4, f5⟩ := @fateK_eq u
    by_cases g : fateK u < 0
    · rw [one_fate h3, fated_len (.inl g)]
      exact rone_z s w _ _ CS (shape_fateN g r _ (by simp))
    by_cases g0 : fateK u = 0
    · obtain rfl := f0 g0; exact one_f0 s w r hm2 hl2 CS
    by_cases g1 : fateK u = 1
    · obtain rfl := f1 g1; exact one_f1 s w r hm2 hl2 CS
    by_cases g2 : fateK u = 2
    · obtain rfl := f2 g2; exact one_f2 s w r hm2 hl2 CS
    obtain rfl := f3 (by omega)
    exact one_f3 s w r hm2 hl2 CS
end Go.Proofs.YtndpdonlombodaaDoor
