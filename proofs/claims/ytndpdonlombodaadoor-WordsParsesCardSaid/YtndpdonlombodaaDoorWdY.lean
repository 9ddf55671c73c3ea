/- words.numbers, words.body. -/
import Derived.Test.YtndpdonlombodaaDoorWdX
namespace Go.Proofs.YtndpdonlombodaaDoor
open Go.RowKit Law
set_option linter.unusedVariables false
set_option linter.unusedSimpArgs false

def NumsPost (o : Option (List Int)) (w : World) (e : Ending) (w' : World) : Prop :=
  match o with
  | some l => ∃ A c, e = .returned (.tuple #[.slice A l.length c, .bool true]) ∧ (∀ a, A = some a → w.heap.size ≤ a.block) ∧ RowAt w' A (intV l) ∧ Below w.heap.size w w'
  | none => e = .returned (.tuple #[.slice none 0 0, .bool false]) ∧ Below w.heap.size w w'
theorem numsL_snoc : ∀ (a : List (List UInt8)) (l : List Int) (x : List UInt8) (n : Int), numsL a = some l → numL x = some n → numsL (a ++ [x]) = some (l ++ [n])
  | [], l, x, n, h, hx => by
    injection h with h; subst h
    show numsL [x] = _
    unfold numsL
    rw [hx]; rfl
  | s :: r, l, x, n, h, hx => by
    unfold numsL at h
    rw [List.cons_append]
    unfold numsL
    cases hs : numL s with
    | none => rw [hs] at h; cases h
    | some m =>
      cases hr : numsL r with
      | none => rw [hs, hr] at h; cases h
      | some l2 =>
        rw [hs, hr] at h
        injection h with h
        subst h
        rw [numsL_snoc r l2 x n hr hx]
        rfl
theorem numsL_none : ∀ (ws : List (List UInt8)) (k : Nat) (hk : k < ws.length), numL ws[k] = none → numsL ws = none
  | s :: r, 0, hk, h => by
    unfold numsL
    rw [show numL s = none from h]
  | s :: r, k + 1, hk, h => by
    have := numsL_none r k (by simpa using hk) (by simpa using h)
    unfold numsL
    rw [this]
    cases numL s <;> rfl
theorem i64Info : (Tryd.prog.info? 2).map (fun i => (i.zero, i.size, i.bytes)) = some (some (.int .i64 0), 1, 8) := by kernel_rfl
set_option maxHeartbeats 3200000 in
theorem wordsNumbers (ws : List (List UInt8)) (A : Option Addr) (n c : Nat) (hn : ws.length = n) (hm : n ≤ 1048577) (hs : ∀ x ∈ ws, x.length ≤ 1048576) (w : World) (hA : RowAt w A (strV ws)) (hE : E7 w) :
    Calls Tryd.prog 54 #[.slice A n c] w (NumsPost (numsL ws) w) := by
  obtain ⟨i0, hi, hz0, hz1, hz2⟩ := info_parts i64Info
  have HX := Lib.hid (And.intro hn (And.intro hA (And.intro hs hE)))
  clear hn hA hs hE
  go_enter Tryd.func54, Tryd.ntmps54
  go_wp2
  go_loopw [4, 11] (fun v i wr => ∃ (k : Nat) (ns : List Int), k ≤ n ∧ i = .int .i64 k ∧ ns.length = k ∧ numsL (ws.take k) = some ns ∧ wr.ownsRow w.heap.size 2 1 v k (intV ns) ∧ Below w.heap.size w wr) (fun _ i _ => n - (intOf i).toNat)
  case atStart => exact ⟨0, [], Nat.zero_le _, rfl, rfl, rfl, ⟨by simp [intV], .inl ⟨rfl, rfl⟩⟩, Below.refl _ _⟩
  case round =>
    obtain ⟨k, ns, hk, rfl, hln, hns, hown, hb⟩ := hrel
    obtain ⟨Av, cv, rfl, hcv⟩ := OwnOr.form (show OwnOr _ _ _ _ _ _ _ from .inl hown)
    by_cases hlt : k < n
    · have hlt' : k < ws.length := by rw [HX.out.1]; exact hlt
      obtain ⟨blk, off, rfl, hc⟩ := (HX.out.2.1.keep hb) k (.string ⟨ws[k].toArray⟩) (by unfold strV; rw [List.getElem?_map, List.getElem?_eq_getElem hlt']; rfl)
      have hxl := HX.out.2.2.1 _ (List.getElem_mem hlt')
      have CN := wordsNumber ⟨ws[k].toArray⟩ (by simpa [ByteArray.size] using hxl) wr (HX.out.2.2.2.below hb)
      have hstep := fun m (h : numL ws[k] = some m) => numsL_snoc (ws.take k) ns ws[k] m hns h
      rw [← List.take_succ_eq_append_getElem hlt'] at hstep
      have hnone := numsL_none ws k hlt'
      rw [show (⟨ws[k].toArray⟩ : ByteArray).data.toList = ws[k] from rfl] at CN
      have HH := Lib.hid (And.intro hown (And.intro hb (And.intro hln (And.intro hstep hnone))))
      obtain ⟨x, hx⟩ : ∃ x, ws[k] = x := ⟨_, rfl⟩
      rw [hx] at CN hc HH
      have hlen0 : hown = hown := rfl
      clear hown hb hns hstep hnone hx hlen0
      cases hnum : numL x with
      | none =>
        rw [hnum] at CN
        unfold NumPost at CN
        have CN := Lib.hid CN
        go_wp2_with fail
        refine CN.out.mono ?_
        rintro e w1 ⟨⟨m, rfl⟩, hq⟩
        have HB := Lib.hid (HH.out.2.1.trans (hq.mono HH.out.2.1.size))
        clear hq
        go_wp2
        go_ret2
        unfold NumsPost
        rw [HH.out.2.2.2.2 hnum]
        exact ⟨rfl, HB.out⟩
      | some m =>
        rw [hnum] at CN
        unfold NumPost at CN
        have CN := Lib.hid CN
        go_wp2_with fail
        refine CN.out.mono ?_
        rintro e w1 ⟨rfl, hq⟩
        have hown1 := ownsRow_kept HH.out.1 hq
        have HB := Lib.hid (And.intro (HH.out.2.1.trans (hq.mono HH.out.2.1.size)) hown1)
        clear hq hown1
        go_wp2_with (at_builtin; refine wpList_append_own _ rfl _ _ 65 rfl w.heap.size 2 i0 _ 1 8 Tryd.underlying65 hi hz0 hz1 hz2 rfl (by decide) _ _ _ rfl (HB.out.2.alloc _) ⟨w1.heap.size, 0, none⟩ 1 1 [.int .i64 m] rfl rfl ?c1 ?c2 ?c3 ?c4 ?c5 ?_)
        case c1 =>
          intro j u hu
          rw [Lib.add_plain, Nat.zero_add, World.cell?_alloc_at _ _ _ _ (by simp)]
          simpa using hu
        case c2 => intro u hu; simp at hu; subst hu; rfl
        case c3 => unfold maxLen; omega
        case c4 => omega
        case c5 => have := HB.out.1.size; simp; omega
        intro v' w2 hown2 hgrow _
        have hbA := HB.out.1.alloc HB.out.1.size (.cells #[.int .i64 m] 2)
        have hb2 : Below w.heap.size w w2 := hbA.grown hgrow hbA.size (fun j hj => ((HB.out.2.alloc (.cells #[.int .i64 m] 2)).lt j hj).1)
        have HN := Lib.hid (And.intro hown2 hb2)
        clear hown2 hgrow hbA hb2
        go_wp2
        go_roundw
        case rel => exact ⟨k + 1, ns ++ [m], by omega, by go_num, by simp [HH.out.2.2.1], HH.out.2.2.2.1 m hnum, by rw [show intV (ns ++ [m]) = intV ns ++ [.int .i64 m] by simp [intV]]; exact HN.out.1, HN.out.2⟩
        case measure => simp [intOf]; omega
    · obtain rfl : k = n := by omega
      have hT : ws.take k = ws := List.take_of_length_le (by rw [HX.out.1]; exact Nat.le_refl _)
      rw [hT] at hns
      have HH := Lib.hid (And.intro hns (And.intro hown (And.intro hb hln)))
      clear hns hown hb hln hT
      go_wp2
      go_ret2
      unfold NumsPost
      rw [HH.out.1]
      refine ⟨Av, cv, by rw [HH.out.2.2.2]; rfl, fun a ha => (HH.out.2.1.lt a.block (by rw [ha]; rfl)).1, RowAt.of_own HH.out.2.1 (by simp [intV, HH.out.2.2.2]), HH.out.2.2.1⟩

/-! ### bodies -/
def BodyPost (o : Option (List UInt8)) (w : World) (e : Ending) (w' : World) : Prop :=
  match o with
  | some b => ∃ A c, e = .returned (.tuple #[.slice A b.length c, .bool true]) ∧ w'.ownsRow w.heap.size 5 1 (.slice A b.length c) b.length (u8V b) ∧ Below w.heap.size w w'
  | none => (∃ A n c, e = .returned (.tuple #[.slice A n c, .bool false])) ∧ Below w.heap.size w w'
theorem idx_all : ∀ n : Fin 256, Lib.indexByte [48, 49, 50, 51, 52, 53, 54, 55, 56, 57, 97, 98, 99, 100, 101, 102] (UInt8.ofNat n.val) = digV (UInt8.ofNat n.val) := by decide +kernel
theorem idx_dig (x : UInt8) : Lib.indexByte [48, 49, 50, 51, 52, 53, 54, 55, 56, 57, 97, 98, 99, 100, 101, 102] x = digV x := by
  have h := idx_all ⟨x.toNat, x.toNat_lt⟩
  simpa using h
theorem hexP_snoc : ∀ (k : Nat) (p : List UInt8) (bs : List UInt8) (a b : UInt8), p.length = 2 * k → hexP p = some bs → ¬ (digV a < 0 ∨ digV b < 0) → hexP (p ++ [a, b]) = some (bs ++ [UInt8.ofNat (16 * (digV a).toNat + (digV b).toNat)])
  | 0, p, bs, a, b, hl, h, hd => by
    obtain rfl : p = [] := List.eq_nil_of_length_eq_zero (by omega)
    injection h with h; subst h
    show hexP [a, b] = _
    unfold hexP
    rw [if_neg hd]
    rfl
  | k + 1, x :: y :: r, bs, a, b, hl, h, hd => by
    unfold hexP at h
    split at h
    · cases h
    · rename_i hxy
      cases hr : hexP r with
      | none => rw [hr] at h; cases h
      | some l =>
        rw [hr] at h
        injection h with h
        subst h
        have ih := hexP_snoc k r l a b (by simp at hl; omega) hr hd
        show hexP (x :: y :: (r ++ [a, b])) = _
        unfold hexP
        rw [if_neg hxy, ih]
        rfl
theorem hexP_bad : ∀ (k : Nat) (p : List UInt8) (a b : UInt8) (r : List UInt8), p.length = 2 * k → (digV a < 0 ∨ digV b < 0) → hexP (p ++ a :: b :: r) = none
  | 0, p, a, b, r, hl, hd => by
    obtain rfl : p = [] := List.eq_nil_of_length_eq_zero (by omega)
    show hexP (a :: b :: r) = _
    unfold hexP
    rw [if_pos hd]
  | k + 1, x :: y :: q, a, b, r, hl, hd => by
    show hexP (x :: y :: (q ++ a :: b :: r)) = _
    unfold hexP
    rw [hexP_bad k q a b r (by simp at hl; omega) hd]
    split <;> rfl
theorem take_two (s : List UInt8) (j : Nat) (h : j + 1 < s.length) : s.take (j + 2) = s.take j ++ [s[j], s[j + 1]] := by
  rw [show j + 2 = (j + 1) + 1 from rfl, List.take_succ_eq_append_getElem (i := j + 1) h, List.take_succ_eq_append_getElem (i := j) (by omega), List.append_assoc]
  rfl
theorem cut_two (s : List UInt8) (j : Nat) (h : j + 1 < s.length) : s = s.take j ++ s[j] :: s[j + 1] :: s.drop (j + 2) := by
  have h1 : s.drop j = s[j] :: s.drop (j + 1) := List.drop_eq_getElem_cons (by omega)
  have h2 : s.drop (j + 1) = s[j + 1] :: s.drop (j + 1 + 1) := List.drop_eq_getElem_cons h
  conv => lhs; rw [← List.take_append_drop j s]
  rw [h1, h2]
def hexDs : ByteArray := ⟨#[48, 49, 50, 51, 52, 53, 54, 55, 56, 57, 97, 98, 99, 100, 101, 102]⟩
theorem idxC (x : UInt8) (W : World) : Calls Tryd.prog 67 #[.string ⟨#[48, 49, 50, 51, 52, 53, 54, 55, 56, 57, 97, 98, 99, 100, 101, 102]⟩, .int .u8 (x.toNat : Int)] W fun e w' => e = .returned (.int .i64 (digV x)) ∧ w' = W := by
  have h := Tryd.strings_IndexByte ⟨#[48, 49, 50, 51, 52, 53, 54, 55, 56, 57, 97, 98, 99, 100, 101, 102]⟩ (x.toNat : Int) W
  rw [show (⟨#[48, 49, 50, 51, 52, 53, 54, 55, 56, 57, 97, 98, 99, 100, 101, 102]⟩ : ByteArray).data.toList = [48, 49, 50, 51, 52, 53, 54, 55, 56, 57, 97, 98, 99, 100, 101, 102] from rfl, Lib.byte_back, idx_dig] at h
  exact h
theorem or_all : ∀ P Q : Fin 16, bits .or .i64 (((P.val : Nat) : Int) * 16) ((Q.val : Nat) : Int) % 256 = (((UInt8.ofNat (16 * P.val + Q.val)).toNat : Nat) : Int) := by decide +kernel
theorem or_nib {P Q : Nat} (hP : P < 16) (hQ : Q < 16) : bits .or .i64 ((P : Int) * 16) (Q : Int) % 256 = ((UInt8.ofNat (16 * P + Q)).toNat : Int) := or_all ⟨P, hP⟩ ⟨Q, hQ⟩
theorem digV_lt (x : UInt8) : -1 ≤ digV x ∧ digV x < 16 := by
  unfold digV
  split
  · omega
  · split <;> omega
set_option maxHeartbeats 3200000 in
set_option maxRecDepth 100000 in
theorem wordsBody (s : ByteArray) (hs : s.size ≤ 1048576) (w : World) : Calls Tryd.prog 56 #[.string s] w (BodyPost (hexL s.data.toList) w) := by
  obtain ⟨i0, hi, hz0, hz1, hz2⟩ := info_parts u8Info
  have HL : Hid (s.data.toList.length = s.size) := by unfold Hid; rw [Lib.size_eq]
  by_cases h0 : s.size = 0
  · have HN : Hid (hexL s.data.toList = none) := by
      unfold Hid hexL hexOk
      rw [HL.out, h0]; rfl
    have hse : s = ⟨#[]⟩ := by
      have : s.data.toList = [] := List.eq_nil_of_length_eq_zero (by rw [HL.out]; exact h0)
      exact ByteArray.ext (Array.ext' this)
    subst hse
    go_enter Tryd.func56, Tryd.ntmps56
    go_wp2
    go_ret2
    unfold BodyPost
    rw [HN.out]
    exact ⟨⟨_, _, _, rfl⟩, Below.refl _ _⟩
  have hsn : (s.toList == []) = false := by
    rw [ByteArray.toList_eq]
    cases h : s.data.toList with
    | nil => have := HL.out; rw [h] at this; exact absurd this.symm h0
    | cons a r => rfl
  by_cases h1 : s.size % 2 = 0
  · have HK : Hid (hexL s.data.toList = hexP s.data.toList) := by
      unfold Hid hexL hexOk
      rw [HL.out, if_pos]
      simp [h1]; omega
    have hm2 : (s.size : Int).tmod 2 = 0 := by
      rw [Int.tmod_eq_emod_of_nonneg (by omega)]; omega
    have hm3 : (s.size : Int) % 2 = 0 := by omega
    clear h0
    go_enter Tryd.func56, Tryd.ntmps56
    go_wp2
    go_loopw [4, 5] (fun v i wr => ∃ (k j : Nat) (bs : List UInt8), j ≤ s.size ∧ Hid (j = 2 * k) ∧ i = .int .i64 j ∧ bs.length = k ∧ hexP (s.data.toList.take j) = some bs ∧ wr.ownsRow w.heap.size 5 1 v k (u8V bs) ∧ Below w.heap.size w wr) (fun _ i _ => s.size - (intOf i).toNat)
    case atStart => exact ⟨0, 0, [], Nat.zero_le _, Lib.hid rfl, rfl, rfl, rfl, ⟨by simp [u8V], .inl ⟨rfl, rfl⟩⟩, Below.refl _ _⟩
    case round =>
      obtain ⟨k, j, bs, hj, hjk, rfl, hlb, hbs, hown, hb⟩ := hrel
      obtain ⟨Av, cv, rfl, hcv⟩ := OwnOr.form (show OwnOr _ _ _ _ _ _ _ from .inl hown)
      by_cases hlt : j < s.size
      · have hlt2 : j + 1 < s.size := by have := hjk.out; omega
        have hlL : j + 1 < s.data.toList.length := by rw [HL.out]; exact hlt2
        have htl : (s.data.toList.take j).length = 2 * k := by rw [List.length_take, HL.out]; have := hjk.out; omega
        have hok := hexP_snoc k (s.data.toList.take j) bs s.data.toList[j] s.data.toList[j + 1] htl hbs
        rw [← take_two _ j hlL] at hok
        have hbad := hexP_bad k (s.data.toList.take j) s.data.toList[j] s.data.toList[j + 1] (s.data.toList.drop (j + 2)) htl
        rw [← cut_two _ j hlL] at hbad
        rw [show s.data.toList[j] = s[j] from rfl, show s.data.toList[j + 1] = s[j + 1] from rfl] at hok hbad
        have g1 : (0 : Int) ≤ (j : Int) + 1 := by omega
        have g2 : (j : Int) + 1 < (s.size : Int) := by omega
        have C1 := Lib.hid (fun W : Later wr => idxC s[j] W.val)
        have C2 := Lib.hid (fun W : Later wr => idxC s[j + 1] W.val)
        obtain ⟨a0, a1⟩ := digV_lt s[j]
        obtain ⟨b0, b1⟩ := digV_lt s[j + 1]
        have HH := Lib.hid (And.intro hown (And.intro hb (And.intro hlb (And.intro hok hbad))))
        clear hown hb hbs hok hbad htl
        go_wp2_with fail
        refine wp_region_later (by kernel_rfl) (by kernel_rfl) ?_
        iterate 3 (go_big_quiet_step (fail))
        go_big_quiet_step (exact later_of (below_of_same (C1.out _)))
        iterate 4 (go_big_quiet_step (fail))
        go_big_quiet_step (exact later_of (below_of_same (C2.out _)))
        repeat (go_big_quiet_step (fail))
        refine wpQuiet_nil ?_
        rintro w9 ⟨⟨W, hW⟩, rfl⟩
        have hW2 := hW
        clear hW2
        obtain ⟨p, hp⟩ : ∃ p, digV s[j] = p := ⟨_, rfl⟩
        obtain ⟨q, hq⟩ : ∃ q, digV s[j + 1] = q := ⟨_, rfl⟩
        have HB := Lib.hid (And.intro (HH.out.2.1.trans (hW.mono HH.out.2.1.size)) (ownsRow_kept HH.out.1 hW))
        rw [hp, hq] at HH
        rw [hp] at a0 a1 ⊢
        rw [hq] at b0 b1 ⊢
        clear hp hq hW
        by_cases d1 : p < 0
        · have HN := Lib.hid (HH.out.2.2.2.2 (Or.inl d1))
          go_wp2
          go_ret2
          unfold BodyPost
          rw [HK.out, HN.out]
          exact ⟨⟨_, _, _, rfl⟩, HB.out.1⟩
        by_cases d2 : q < 0
        · have HN := Lib.hid (HH.out.2.2.2.2 (Or.inr d2))
          go_wp2
          go_ret2
          unfold BodyPost
          rw [HK.out, HN.out]
          exact ⟨⟨_, _, _, rfl⟩, HB.out.1⟩
        obtain ⟨P, hP⟩ : ∃ P : Nat, p = (P : Int) := ⟨p.toNat, by omega⟩
        obtain ⟨Q, hQ⟩ : ∃ Q : Nat, q = (Q : Int) := ⟨q.toNat, by omega⟩
        subst hP hQ
        have HO := Lib.hid (HH.out.2.2.2.1 (by omega))
        have hor := or_nib (P := P) (Q := Q) (by omega) (by omega)
        obtain ⟨B, hB⟩ : ∃ B, UInt8.ofNat (16 * P + Q) = B := ⟨_, rfl⟩
        rw [hB] at hor
        have HBB := Lib.hid hB
        clear hB
        go_wp2_with (at_builtin; refine wpList_append_own _ rfl _ _ 27 rfl w.heap.size 5 i0 _ 1 1 Tryd.underlying27 hi hz0 hz1 hz2 rfl (by decide) _ _ _ rfl (HB.out.2.alloc _) ⟨w9.heap.size, 0, none⟩ 1 1 [.int .u8 (B.toNat : Int)] rfl rfl ?c1 ?c2 ?c3 ?c4 ?c5 ?_)
        case c2 => first | rfl | (intro u hu; simp at hu; subst hu; rfl)
        case c3 => unfold maxLen; have := hjk.out; omega
        case c4 => have := hjk.out; omega
        case c5 => have := HB.out.1.size; simp; omega
        intro v' w2 hown2 hgrow _
        have hbA := HB.out.1.alloc HB.out.1.size (.cells #[.int .u8 (B.toNat : Int)] 5)
        have hb2 : Below w.heap.size w w2 := hbA.grown hgrow hbA.size (fun j hj => ((HB.out.2.alloc (.cells #[.int .u8 (B.toNat : Int)] 5)).lt j hj).1)
        have HN := Lib.hid (And.intro hown2 hb2)
        clear hown2 hgrow hbA hb2
        go_wp2
        go_roundw
        case rel =>
          refine ⟨k + 1, j + 2, bs ++ [B], by omega, Lib.hid (by have := hjk.out; omega), by go_num, by simp [HH.out.2.2.1], ?_, by rw [show u8V (bs ++ [B]) = u8V bs ++ [.int .u8 (B.toNat : Int)] by simp [u8V]]; exact HN.out.1, HN.out.2⟩
          rw [← HBB.out]
          simpa using HO.out
        case measure => simp [intOf]; omega
      · obtain rfl : j = s.size := by omega
        have hT : s.data.toList.take s.size = s.data.toList := List.take_of_length_le (by rw [HL.out]; exact Nat.le_refl _)
        rw [hT] at hbs
        have HH := Lib.hid (And.intro hbs (And.intro hown (And.intro hb hlb)))
        clear hbs hown hb hlb hT
        go_wp2
        go_ret2
        unfold BodyPost
        rw [HK.out, HH.out.1]
        refine ⟨Av, cv, by rw [HH.out.2.2.2]; rfl, by rw [HH.out.2.2.2]; exact HH.out.2.1, HH.out.2.2.1⟩
  · have HN : Hid (hexL s.data.toList = none) := by
      unfold Hid hexL hexOk
      rw [HL.out, if_neg]
      simp [h1]
    have hm2 : (s.size : Int).tmod 2 = 1 := by
      rw [Int.tmod_eq_emod_of_nonneg (by omega)]; omega
    have hm3 : (s.size : Int) % 2 = 1 := by omega
    clear h0 h1
    go_enter Tryd.func56, Tryd.ntmps56
    go_wp2
    go_ret2
    unfold BodyPost
    rw [HN.out]
    exact ⟨⟨_, _, _, rfl⟩, Below.refl _ _⟩
end Go.Proofs.YtndpdonlombodaaDoor
