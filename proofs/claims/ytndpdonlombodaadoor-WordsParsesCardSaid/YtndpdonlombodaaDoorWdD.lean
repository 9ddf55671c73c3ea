/- The reference's split. -/
import Derived.Test.YtndpdonlombodaaDoorWdR
namespace Go.Proofs.YtndpdonlombodaaDoor
open Go.RowKit Law
set_option linter.unusedVariables false
set_option linter.unusedSimpArgs false

def lastP (c : UInt8) (s : List UInt8) : List UInt8 := (cutBy c s).getLastD []
def doneP (c : UInt8) (s : List UInt8) : List (List UInt8) := (cutBy c s).dropLast
theorem cut_parts (c : UInt8) (s : List UInt8) : cutBy c s = doneP c s ++ [lastP c s] := by
  have h := cutBy_ne c s
  unfold doneP lastP
  rw [List.getLastD_eq_getLast?, List.getLast?_eq_some_getLast h]
  exact (List.dropLast_concat_getLast h).symm
theorem parts_snoc (c x : UInt8) (s : List UInt8) : doneP c (s ++ [x]) = (if x = c then doneP c s ++ [lastP c s] else doneP c s) ∧ lastP c (s ++ [x]) = (if x = c then [] else lastP c s ++ [x]) := by
  have h := cut_snoc c x s
  unfold doneP lastP
  rw [h]
  have h3 : (cutBy c s).dropLast ++ [(cutBy c s).getLastD []] = cutBy c s := (cut_parts c s).symm
  split
  · rw [h3]; simp
  · simp
theorem lastP_suf (c : UInt8) (s : List UInt8) : ∃ t, s = t ++ lastP c s := by
  induction s using snocInd with
  | h0 => exact ⟨[], rfl⟩
  | h1 s x ih =>
    obtain ⟨t, ht⟩ := ih
    rw [(parts_snoc c x s).2]
    split
    · exact ⟨s ++ [x], by simp⟩
    · exact ⟨t, by rw [← List.append_assoc, ← ht]⟩
/-- Where the last piece of the first k bytes starts. -/
def frm (c : UInt8) (s : List UInt8) (k : Nat) : Nat := k - (lastP c (s.take k)).length
theorem frm_drop (c : UInt8) (s : List UInt8) (k : Nat) (hk : k ≤ s.length) : frm c s k ≤ k ∧ lastP c (s.take k) = (s.take k).drop (frm c s k) := by
  obtain ⟨t, ht⟩ := lastP_suf c (s.take k)
  have hl := congrArg List.length ht
  rw [List.length_append, List.length_take, Nat.min_eq_left hk] at hl
  unfold frm
  refine ⟨by omega, ?_⟩
  rw [show k - (lastP c (s.take k)).length = t.length by omega]
  conv => rhs; rw [ht]
  simp
theorem frm_hit (c : UInt8) (s : List UInt8) (k : Nat) (hk : k < s.length) (h : s[k] = c) : frm c s (k + 1) = k + 1 ∧ doneP c (s.take (k + 1)) = doneP c (s.take k) ++ [(s.take k).drop (frm c s k)] := by
  have h1 := parts_snoc c s[k] (s.take k)
  rw [← List.take_succ_eq_append_getElem hk, if_pos h, if_pos h] at h1
  refine ⟨?_, by rw [h1.1, (frm_drop c s k (by omega)).2]⟩
  unfold frm; rw [h1.2]; rfl
theorem frm_miss (c : UInt8) (s : List UInt8) (k : Nat) (hk : k < s.length) (h : s[k] ≠ c) : frm c s (k + 1) = frm c s k ∧ doneP c (s.take (k + 1)) = doneP c (s.take k) := by
  have h1 := parts_snoc c s[k] (s.take k)
  rw [← List.take_succ_eq_append_getElem hk, if_neg h, if_neg h] at h1
  refine ⟨?_, h1.1⟩
  have h2 := (frm_drop c s k (by omega)).1
  unfold frm at h2 ⊢
  rw [h1.2, List.length_append]
  simp
theorem doneP_len (c : UInt8) (s : List UInt8) : (doneP c s).length ≤ s.length := by
  induction s using snocInd with
  | h0 => simp [doneP, cutBy]
  | h1 s x ih =>
    rw [(parts_snoc c x s).1]
    split
    · simp; exact ih
    · simp; omega
theorem extract_str (s : ByteArray) (a b : Nat) (hab : a ≤ b) : s.extract a b = ⟨((s.data.toList.take b).drop a).toArray⟩ := by
  apply ByteArray.ext
  apply Array.ext'
  rw [List.drop_take]
  simp
set_option maxHeartbeats 3200000 in
theorem refSplit (s : ByteArray) (hs : s.size ≤ 1048576) (c : UInt8) (cv : Int) (hcv : (c.toNat : Int) = cv) (w : World) :
    Calls Tryd.prog 28 #[.string s, .int .u8 cv] w (StrsPost (cutBy c s.data.toList) w) := by
  obtain ⟨i0, hi, hz0, hz1, hz2⟩ := info_parts strInfo
  have HL : Hid (s.data.toList.length = s.size) := by unfold Hid; rw [Lib.size_eq]
  have HC := Lib.hid hcv
  clear hcv
  have hown0 : OwnOr (w.alloc (.cells #[] 9)) w.heap.size 9 1 (.slice (some ⟨w.heap.size, 0, none⟩) 0 0) 0 (strV (doneP c (s.data.toList.take 0))) := .inr ⟨_, rfl, rfl, by simp [doneP, cutBy, strV]⟩
  have HO := Lib.hid (And.intro hown0 ((Below.refl w.heap.size w).alloc (Nat.le_refl _) (.cells #[] 9)))
  clear hown0
  go_enter Tryd.func28, Tryd.ntmps28
  go_wp2
  go_loopw [5, 6, 7] (fun v f i wr => ∃ k : Nat, k ≤ s.size ∧ i = .int .i64 k ∧ f = .int .i64 (frm c s.data.toList k : Nat) ∧ OwnOr wr w.heap.size 9 1 v (doneP c (s.data.toList.take k)).length (strV (doneP c (s.data.toList.take k))) ∧ Below w.heap.size w wr) (fun _ _ i _ => s.size - (intOf i).toNat)
  case atStart => exact ⟨0, Nat.zero_le _, rfl, by simp [frm], HO.out.1, HO.out.2⟩
  case round =>
    obtain ⟨k, hk, rfl, rfl, hown, hb⟩ := hrel
    obtain ⟨hf0, hf1⟩ := frm_drop c s.data.toList k (by rw [HL.out]; exact hk)
    have hd := doneP_len c (s.data.toList.take k)
    have hd2 : (s.data.toList.take k).length ≤ k := List.length_take_le _ _
    obtain ⟨f, hf⟩ : ∃ f, frm c s.data.toList k = f := ⟨_, rfl⟩
    obtain ⟨ds, hds⟩ : ∃ ds, doneP c (s.data.toList.take k) = ds := ⟨_, rfl⟩
    obtain ⟨A, cap, rfl, hcap⟩ := hown.form
    rw [hf] at hf0 hf1 ⊢
    rw [hds] at hown hd hcap ⊢
    have HF := Lib.hid (And.intro hf (And.intro hds hf1))
    have HB := Lib.hid (And.intro hown hb)
    clear hf hds hf1 hown hb
    by_cases hlt : k < s.size
    · have hlt' : k < s.data.toList.length := by rw [HL.out]; exact hlt
      by_cases hc : s[k] = c
      · have q : (((s[k]).toNat : Int) == cv) = true := by rw [hc, HC.out]; simp
        have HH := Lib.hid (frm_hit c s.data.toList k hlt' hc)
        have HE := Lib.hid (extract_str s f k hf0)
        clear hc
        go_wp2_with (at_builtin; refine wpList_append_or _ rfl _ _ 56 rfl w.heap.size 9 i0 _ 1 16 Tryd.underlying56 hi hz0 hz1 hz2 rfl (by decide) _ _ _ rfl (HB.out.1.alloc _) ⟨wr.heap.size, 0, none⟩ 1 1 [.string (s.extract f k)] rfl rfl ?c1 ?c2 ?c3 ?c4 ?c5 ?c6 ?_)
        case c1 =>
          intro j u hu
          rw [Lib.add_plain, Nat.zero_add, World.cell?_alloc_at _ _ _ _ (by simp)]
          simpa using hu
        case c2 => intro u hu; simp at hu; subst hu; rfl
        case c3 => decide
        case c4 => unfold maxLen; omega
        case c5 => omega
        case c6 => have := HB.out.2.size; simp; omega
        intro v' w2 row hown2 hgrow hrow
        have hbA := HB.out.2.alloc HB.out.2.size (.cells #[.string (s.extract f k)] 9)
        have hb2 : Below w.heap.size w w2 := hbA.grown hgrow hbA.size hrow
        have HN := Lib.hid (And.intro hown2 hb2)
        clear hown2 hgrow hrow hbA hb2
        go_wp2
        go_roundw
        case rel =>
          have h1 := HH.out
          rw [HF.out.1, HF.out.2.1] at h1
          refine ⟨k + 1, by omega, by go_num, by rw [h1.1]; go_num, .inl ?_, HN.out.2⟩
          rw [h1.2, strV_snoc, List.length_append, ← HE.out]
          exact HN.out.1
        case measure => simp [intOf]; omega
      · have q : (((s[k]).toNat : Int) == cv) = false := by
          rw [beq_eq_false_iff_ne, ← HC.out]
          intro e
          exact hc (UInt8.toNat_inj.1 (by omega))
        have HH := Lib.hid (frm_miss c s.data.toList k hlt' hc)
        clear hc
        go_wp2
        go_roundw
        case rel =>
          have h1 := HH.out
          rw [HF.out.1, HF.out.2.1] at h1
          exact ⟨k + 1, by omega, by go_num, by rw [h1.1], by rw [h1.2]; exact HB.out.1, HB.out.2⟩
        case measure => simp [intOf]; omega
    · obtain rfl : k = s.size := by omega
      have HE := Lib.hid (extract_str s f s.size hf0)
      go_wp2_with (at_builtin; refine wpList_append_or _ rfl _ _ 56 rfl w.heap.size 9 i0 _ 1 16 Tryd.underlying56 hi hz0 hz1 hz2 rfl (by decide) _ _ _ rfl (HB.out.1.alloc _) ⟨wr.heap.size, 0, none⟩ 1 1 [.string (s.extract f s.size)] rfl rfl ?d1 ?d2 ?d3 ?d4 ?d5 ?d6 ?_)
      case d1 =>
        intro j u hu
        rw [Lib.add_plain, Nat.zero_add, World.cell?_alloc_at _ _ _ _ (by simp)]
        simpa using hu
      case d2 => intro u hu; simp at hu; subst hu; rfl
      case d3 => decide
      case d4 => unfold maxLen; omega
      case d5 => omega
      case d6 => have := HB.out.2.size; simp; omega
      intro v' w2 row hown2 hgrow hrow
      have hbA := HB.out.2.alloc HB.out.2.size (.cells #[.string (s.extract f s.size)] 9)
      have hb2 : Below w.heap.size w w2 := hbA.grown hgrow hbA.size hrow
      obtain ⟨A2, c2, rfl, hc2⟩ := (OwnOr.form (.inl hown2) : ∃ A c, v' = .slice A (ds.length + 1) c ∧ ds.length + 1 ≤ c)
      have hlen : (cutBy c s.data.toList).length = ds.length + 1 := by
        have h1 := cut_parts c (s.data.toList.take s.size)
        rw [HF.out.2.1, List.take_of_length_le (by rw [HL.out]; exact Nat.le_refl _)] at h1
        rw [h1]; simp
      have hfin : strV (cutBy c s.data.toList) = strV ds ++ [.string (s.extract f s.size)] := by
        have h1 := cut_parts c (s.data.toList.take s.size)
        rw [HF.out.2.1, HF.out.2.2] at h1
        have e : s.data.toList.take s.size = s.data.toList := List.take_of_length_le (by rw [HL.out]; exact Nat.le_refl _)
        rw [e] at h1
        rw [HE.out, e, h1, strV_snoc]
      have HN := Lib.hid (And.intro hown2 (And.intro hb2 (And.intro hlen hfin)))
      clear hown2 hgrow hrow hbA hb2 hlen hfin
      go_wp2
      go_ret
      refine ⟨A2, c2, ?_, ?_, ?_, HN.out.2.1⟩
      · rw [HN.out.2.2.1]; rfl
      · rw [HN.out.2.2.1]; exact hc2
      · rw [HN.out.2.2.2]
        exact RowAt.of_own HN.out.1 (by simp [strV])
end Go.Proofs.YtndpdonlombodaaDoor
