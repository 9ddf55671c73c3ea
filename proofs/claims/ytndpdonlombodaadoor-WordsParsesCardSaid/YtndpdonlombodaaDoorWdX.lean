/- strings.Split at one byte; words.number. -/
import Derived.Test.YtndpdonlombodaaDoorWdT
import Derived.Test.YtndpdonlombodaaDoorWdN
import Derived.Laws.RangeAny
import Derived.Lib.AtoiErrMem
import Derived.Lib.ParseIntB
namespace Go.Proofs.YtndpdonlombodaaDoor
open Go.RowKit Law
set_option linter.unusedVariables false
set_option linter.unusedSimpArgs false

/-! ### what the library's functions read: the length that bytealg bears; the error of a number out of range -/
def MX (w : World) : Prop := ∃ m : Int, w.cell? ⟨1, 0, none⟩ = some (.int .i64 m)
theorem MX.below {w w' : World} (h : MX w) (hb : Below w.heap.size w w') : MX w' := by
  obtain ⟨m, hc⟩ := h
  exact ⟨m, (hb.cell (p := ⟨1, 0, none⟩) (World.block_lt_of_cell? _ _ hc)).trans hc⟩
def E7 (w : World) : Prop := ∃ u x, w.cell? ⟨7, 0, none⟩ = some (.iface u x)
theorem E7.below {w w' : World} (h : E7 w) (hb : Below w.heap.size w w') : E7 w' := by
  obtain ⟨u, x, hc⟩ := h
  exact ⟨u, x, (hb.cell (p := ⟨7, 0, none⟩) (World.block_lt_of_cell? _ _ hc)).trans hc⟩
theorem splitB_cut (c : UInt8) (s : ByteArray) : ((Lib.splitB ⟨#[c]⟩ 0 (Lib.countB s ⟨#[c]⟩) s).map Value.string) = strV (cutBy c s.data.toList) := by
  have h := Lib.splitB_data ⟨#[c]⟩ 0 (Lib.countB s ⟨#[c]⟩) s
  have h2 := splitK_cut c _ s.data.toList (Nat.le_refl _)
  have e : (⟨#[c]⟩ : ByteArray).data.toList = [c] := rfl
  rw [e] at h
  have h3 : Lib.countB s ⟨#[c]⟩ = Lib.count s.data.toList [c] := rfl
  rw [h3] at h ⊢
  rw [h2] at h
  unfold strV
  rw [← h, List.map_map]
  apply List.map_congr_left
  intro b _
  rfl
theorem cutBy_count (c : UInt8) (s : ByteArray) : Lib.countB s ⟨#[c]⟩ + 1 = (cutBy c s.data.toList).length := by
  have h := congrArg List.length (splitB_cut c s)
  rw [List.length_map, Lib.splitB_all ⟨#[c]⟩ (Nat.le_refl 1) 0 _ s rfl] at h
  rw [h]; simp [strV]
theorem wordsSplit (s : ByteArray) (hs : s.size ≤ 1048576) (c : UInt8) (w : World) (hM : MX w) :
    Calls Tryd.prog 26 #[.string s, .string ⟨#[c]⟩] w fun e w' => e = .returned (.slice (some ⟨w.heap.size, 0, none⟩) (cutBy c s.data.toList).length (cutBy c s.data.toList).length) ∧ w' = w.alloc (.cells (strV (cutBy c s.data.toList)).toArray 9) := by
  obtain ⟨m, hm⟩ := hM
  have h := Tryd.strings_Split s ⟨#[c]⟩ m w (by omega) hm (Nat.le_refl 1)
  rw [cutBy_count, splitB_cut] at h
  exact h

/-! ### numbers -/
theorem val_ge : ∀ (l : List UInt8) (acc : Nat), acc ≤ valU acc l
  | [], acc => by rw [valU_nil]; exact Nat.le_refl _
  | c :: r, acc => by rw [valU_cons]; have := val_ge r (acc * 10 + (c.toNat - 48)); omega
theorem parseU_ok : ∀ (l : List UInt8) (acc : Nat), l.all isDig = true → valU acc l < 10000000000000000000 → Lib.parseUintM (2 ^ 64 - 1) acc l = .ok (valU acc l)
  | [], acc, _, _ => by rw [valU_nil]; rfl
  | c :: r, acc, hd, hv => by
    rw [List.all_cons, Bool.and_eq_true] at hd
    have hc := (isDig_iff c).1 hd.1
    rw [valU_cons] at hv ⊢
    have hg := val_ge r (acc * 10 + (c.toNat - 48))
    unfold Lib.parseUintM
    rw [if_pos hc, if_neg (by omega), if_neg (by omega)]
    exact parseU_ok r _ hd.2 hv
theorem parse_num (s : List UInt8) (h1 : 1 ≤ (numT s).length) (h2 : (numT s).length ≤ 19) (hd : (numT s).all isDig = true) :
    Lib.parseIntB 64 s = if (if s.head? = some 45 then decide (valU 0 (numT s) ≤ 9223372036854775808) else decide (valU 0 (numT s) < 9223372036854775808)) = true then .ok (numV s) else .range := by
  have hv := val_bound hd h2
  have hp := parseU_ok (numT s) 0 hd hv
  have hne : numT s ≠ [] := fun e => by rw [e] at h1; simp at h1
  cases s with
  | nil => exact absurd rfl hne
  | cons c r =>
    by_cases hc : c = 45
    · subst hc
      have e : numT (45 :: r) = r := rfl
      rw [e] at hp hne ⊢
      unfold Lib.parseIntB
      simp only [List.head?_cons, if_pos]
      rw [if_pos (Or.inr (by decide)), Lib.parseUintB, if_neg hne, hp]
      simp only [numV, e, List.head?_cons, if_pos]
      by_cases hb : valU 0 r ≤ 9223372036854775808
      · rw [if_neg (by simp), if_neg (by simp; omega), if_pos (by decide)]
        simp [hb]
      · rw [if_neg (by simp), if_pos ⟨by decide, by omega⟩]
        simp [hb]
    · have hh : ¬ (c :: r).head? = some 45 := by simpa using hc
      have e : numT (c :: r) = c :: r := by unfold numT; rw [if_neg hh]
      rw [e] at hp hd hne ⊢
      rw [List.all_cons, Bool.and_eq_true] at hd
      have hcd := (isDig_iff c).1 hd.1
      have n43 : ¬ (c.toNat = 43 ∨ c.toNat = 45) := by omega
      have n45 : ¬ c.toNat = 45 := by omega
      unfold Lib.parseIntB
      rw [if_neg hh]
      simp only [n43, if_false]
      rw [Lib.parseUintB, if_neg hne, hp]
      unfold numV
      rw [if_neg hh, e]
      by_cases hb : valU 0 (c :: r) < 9223372036854775808
      · simp [n45, hb]
      · simp [n45, hb]
theorem trim_numT (s : List UInt8) : Lib.trimPrefix s [45] = numT s := by
  unfold Lib.trimPrefix Lib.hasPrefix numT
  cases s with
  | nil => rfl
  | cons c r =>
    by_cases h : c = 45
    · subst h; rfl
    · have : ([45] : List UInt8).isPrefixOf (c :: r) = false := by simp [List.isPrefixOf, Ne.symm h]
      rw [this, if_neg (by simp), if_neg (by simpa using h)]
set_option maxHeartbeats 3200000 in
set_option maxRecDepth 100000 in
theorem wordsNumber (s : ByteArray) (hs : s.size ≤ 1048576) (w : World) (hE : E7 w) : Calls Tryd.prog 57 #[.string s] w (NumPost (numL s.data.toList) w) := by
  have HL : Hid (s.data.toList.length = s.size) := by unfold Hid; rw [Lib.size_eq]
  have CT := Tryd.strings_TrimPrefix s ⟨#[45]⟩
  rw [show (⟨#[45]⟩ : ByteArray).data.toList = [45] from rfl, trim_numT] at CT
  have HK : Hid (numOk s.data.toList = (decide (1 ≤ (numT s.data.toList).length) && decide ((numT s.data.toList).length ≤ 19) && !(decide ((numT s.data.toList).head? = some 48) && decide (1 < s.data.toList.length)) && (numT s.data.toList).all isDig &&
    (if s.data.toList.head? = some 45 then decide (valU 0 (numT s.data.toList) ≤ 9223372036854775808) else decide (valU 0 (numT s.data.toList) < 9223372036854775808)))) := rfl
  have HPN := Lib.hid (parse_num s.data.toList)
  obtain ⟨T, hT⟩ : ∃ T, numT s.data.toList = T := ⟨_, rfl⟩
  rw [hT] at CT HK HPN
  obtain ⟨t, ht⟩ : ∃ t : ByteArray, (⟨T.toArray⟩ : ByteArray) = t := ⟨_, rfl⟩
  have htT : t.data.toList = T := by rw [← ht]
  rw [ht] at CT
  have HLt : Hid (T.length = t.size) := by unfold Hid; rw [← htT, Lib.size_eq]
  have HT := Lib.hid (And.intro htT hE)
  have CT := Lib.hid CT
  clear hT ht htT hE
  by_cases a1 : t.size = 0
  · have HN := Lib.hid (numL_none (s := s.data.toList) (by rw [HK.out, HLt.out, a1]; simp))
    go_enter Tryd.func57, Tryd.ntmps57
    go_wp2_with fail
    refine (CT.out _).mono ?_
    rintro e w1 ⟨rfl, rfl⟩
    go_wp2
    go_ret2
    unfold NumPost
    rw [HN.out]
    exact ⟨⟨_, rfl⟩, Below.refl _ _⟩
  have hp1 : 0 < t.size := by omega
  have hh : T.head? = some t[0] := by
    rw [← HT.out.1, List.head?_eq_getElem?, List.getElem?_eq_getElem (by rw [HT.out.1, HLt.out]; exact hp1)]
    rfl
  by_cases a2 : 19 < t.size
  · have HN := Lib.hid (numL_none (s := s.data.toList) (by rw [HK.out]; rw [HLt.out, decide_eq_false (show ¬ t.size ≤ 19 by omega)]; simp))
    go_enter Tryd.func57, Tryd.ntmps57
    go_wp2_with fail
    refine (CT.out _).mono ?_
    rintro e w1 ⟨rfl, rfl⟩
    go_wp2
    go_ret2
    unfold NumPost
    rw [HN.out]
    exact ⟨⟨_, rfl⟩, Below.refl _ _⟩
  have c1 : ((t.size : Int) == 0) = false := by rw [beq_eq_false_iff_ne]; omega
  have c2 : decide (19 < (t.size : Int)) = false := decide_eq_false (by omega)
  by_cases a3 : t[0] = 48
  · have q2 : ((t[0].toNat : Int) == 48) = true := by rw [a3]; rfl
    by_cases a4 : 1 < s.size
    · have HN := Lib.hid (numL_none (s := s.data.toList) (by rw [HK.out]; rw [hh, a3, HL.out]; simp [a4]))
      go_enter Tryd.func57, Tryd.ntmps57
      go_wp2_with fail
      refine (CT.out _).mono ?_
      rintro e w1 ⟨rfl, hw1⟩
      subst w1
      go_wp2
      go_ret2
      unfold NumPost
      rw [HN.out]
      exact ⟨⟨_, rfl⟩, Below.refl _ _⟩
    have HA4 : Hid (decide (1 < s.data.toList.length) = false) := decide_eq_false (by rw [HL.out]; exact a4)
    clear hh
    go_enter Tryd.func57, Tryd.ntmps57
    go_wp2_with fail
    refine (CT.out _).mono ?_
    rintro e w1 ⟨rfl, hw1⟩
    subst w1
    go_wp2
    go_loopw [] (fun wr => ∃ k : Nat, k ≤ t.size ∧ wr = w.iter t k ∧ (T.take k).all isDig = true) (fun wr => t.size - wr.iterPos w.heap.size)
    case atStart => exact ⟨0, Nat.zero_le _, rfl, by simp⟩
    case round =>
      obtain ⟨k, hk, rfl, hall⟩ := hrel
      by_cases hlt : k < t.size
      · have hlt' : k < T.length := by rw [HLt.out]; exact hlt
        have hg : T[k] = t[k] := by
          have h1 := HT.out.1
          subst h1
          rfl
        have HA := all_take T k hlt'
        have HF := all_false k hlt'
        rw [hg] at HA HF
        have hid := isDig_iff t[k]
        have HH := Lib.hid (And.intro hall (And.intro HA (And.intro HF hid)))
        clear hall HA HF hid hg
        by_cases ha : t[k].toNat < 128
        · have hnx : ∀ ty, (Instr.next (.pointer (some ⟨w.heap.size, 0, none⟩)) true ty).run Tryd.prog (w.iter t k) = _ := fun ty => run_next_ascii w t k ty hlt ha
          by_cases b1 : 48 ≤ t[k].toNat
          · by_cases b2 : t[k].toNat ≤ 57
            · have HD := Lib.hid (HH.out.2.2.2.2 ⟨b1, b2⟩)
              go_wp2
              go_roundw
              case rel => exact ⟨k + 1, by omega, rfl, by rw [HH.out.2.1, HH.out.1, HD.out]; rfl⟩
              case measure => simp; omega
            · have HN := Lib.hid (numL_none (s := s.data.toList) (by rw [HK.out, HH.out.2.2.1 (by rw [Bool.eq_false_iff]; intro h; have := HH.out.2.2.2.1 h; omega)]; simp))
              go_wp2
              go_ret2
              unfold NumPost
              rw [HN.out]
              exact ⟨⟨_, rfl⟩, (Below.refl _ _).alloc (Nat.le_refl _) _⟩
          · have HN := Lib.hid (numL_none (s := s.data.toList) (by rw [HK.out, HH.out.2.2.1 (by rw [Bool.eq_false_iff]; intro h; have := HH.out.2.2.2.1 h; omega)]; simp))
            go_wp2
            go_ret2
            unfold NumPost
            rw [HN.out]
            exact ⟨⟨_, rfl⟩, (Below.refl _ _).alloc (Nat.le_refl _) _⟩
        · have hnx : ∀ ty, (Instr.next (.pointer (some ⟨w.heap.size, 0, none⟩)) true ty).run Tryd.prog (w.iter t k) = _ := fun ty => run_next_any w t k ty hlt
          have hdh := (decode_high t k hlt (by omega)).1
          obtain ⟨r, hr⟩ : ∃ r, Utf8.decode t k = r := ⟨_, rfl⟩
          rw [hr] at hdh hnx
          have HN := Lib.hid (numL_none (s := s.data.toList) (by rw [HK.out, HH.out.2.2.1 (by rw [Bool.eq_false_iff]; intro h; have := HH.out.2.2.2.1 h; omega)]; simp))
          have hd48 : ¬ (r.1 : Int) < 48 := by omega
          have hd57 : (57 : Int) < (r.1 : Int) := by omega
          go_wp2
          go_ret2
          unfold NumPost
          rw [HN.out]
          exact ⟨⟨_, rfl⟩, (Below.refl _ _).alloc (Nat.le_refl _) _⟩
      · obtain rfl : k = t.size := by omega
        have hnx : ∀ ty, (Instr.next (.pointer (some ⟨w.heap.size, 0, none⟩)) true ty).run Tryd.prog (w.iter t t.size) = _ := fun ty => run_next_end w t t.size ty hlt
        have hTl : T.take t.size = T := List.take_of_length_le (by rw [HLt.out]; exact Nat.le_refl _)
        rw [hTl] at hall
        have hbI : Below w.heap.size w (w.iter t t.size) := (Below.refl _ _).alloc (Nat.le_refl _) _
        have hpn := HPN.out (by rw [HLt.out]; omega) (by rw [HLt.out]; omega) hall
        have hok : numOk s.data.toList = (if s.data.toList.head? = some 45 then decide (valU 0 T ≤ 9223372036854775808) else decide (valU 0 T < 9223372036854775808)) := by
          rw [HK.out, hall, HLt.out, decide_eq_true (show 1 ≤ t.size by omega), decide_eq_true (show t.size ≤ 19 by omega)]
          rw [HA4.out]; simp
        rw [← hok] at hpn
        by_cases hn : numOk s.data.toList = true
        · rw [if_pos hn] at hpn
          have CP := Lib.hid (Tryd.strconv_ParseInt_10_at64_ok s (by omega) (numV s.data.toList) hpn (w.iter t t.size))
          have HN := Lib.hid (And.intro (numL_some hn) hbI)
          clear hpn hok hn hbI hall hTl
          go_wp2_with fail
          refine CP.out.mono ?_
          rintro e w2 ⟨rfl, hw2⟩
          have hb2 : Below w.heap.size w w2 := by
            rcases hw2 with rfl | ⟨t2, rfl⟩
            · exact HN.out.2
            · exact HN.out.2.trans ((Lib.bytesWorld_below _ _ _).mono HN.out.2.size)
          have HB := Lib.hid hb2
          clear hw2 hb2
          go_wp2
          go_quiet (fail)
          go_wp2
          go_ret2
          unfold NumPost
          rw [HN.out.1]
          exact ⟨rfl, below_drewN HB.out _⟩
        · rw [if_neg hn] at hpn
          obtain ⟨u, x, hE⟩ := HT.out.2.below hbI
          have CP := Lib.hid (Tryd.strconv_ParseInt_10_at64_range s (by omega) hpn _ (w.iter t t.size) hE (Or.inr ⟨u, x, rfl⟩))
          have HN := Lib.hid (And.intro (numL_none (s := s.data.toList) (by simpa using hn)) hbI)
          clear hpn hok hn hbI hall hTl hE
          go_wp2_with fail
          refine CP.out.mono ?_
          rintro e w2 ⟨N, rfl, hN, hcN, hq⟩
          have HB := Lib.hid (HN.out.2.trans (hq.mono HN.out.2.size))
          clear hq hcN
          go_wp2
          go_quiet (fail)
          go_wp2
          go_ret2
          unfold NumPost
          rw [HN.out.1]
          exact ⟨⟨_, rfl⟩, below_drewN HB.out _⟩
  have q2 : ((t[0].toNat : Int) == 48) = false := by
    rw [beq_eq_false_iff_ne]
    intro e
    exact a3 (UInt8.toNat_inj.1 (by show t[0].toNat = 48; omega))
  have HH0 := Lib.hid (show T.head? ≠ some 48 by rw [hh]; simpa using a3)
  clear hh a3
  go_enter Tryd.func57, Tryd.ntmps57
  go_wp2_with fail
  refine (CT.out _).mono ?_
  rintro e w1 ⟨rfl, hw1⟩
  subst w1
  go_wp2
  go_loopw [] (fun wr => ∃ k : Nat, k ≤ t.size ∧ wr = w.iter t k ∧ (T.take k).all isDig = true) (fun wr => t.size - wr.iterPos w.heap.size)
  case atStart => exact ⟨0, Nat.zero_le _, rfl, by simp⟩
  case round =>
    obtain ⟨k, hk, rfl, hall⟩ := hrel
    by_cases hlt : k < t.size
    · have hlt' : k < T.length := by rw [HLt.out]; exact hlt
      have hg : T[k] = t[k] := by
        have h1 := HT.out.1
        subst h1
        rfl
      have HA := all_take T k hlt'
      have HF := all_false k hlt'
      rw [hg] at HA HF
      have hid := isDig_iff t[k]
      have HH := Lib.hid (And.intro hall (And.intro HA (And.intro HF hid)))
      clear hall HA HF hid hg
      by_cases ha : t[k].toNat < 128
      · have hnx : ∀ ty, (Instr.next (.pointer (some ⟨w.heap.size, 0, none⟩)) true ty).run Tryd.prog (w.iter t k) = _ := fun ty => run_next_ascii w t k ty hlt ha
        by_cases b1 : 48 ≤ t[k].toNat
        · by_cases b2 : t[k].toNat ≤ 57
          · have HD := Lib.hid (HH.out.2.2.2.2 ⟨b1, b2⟩)
            go_wp2
            go_roundw
            case rel => exact ⟨k + 1, by omega, rfl, by rw [HH.out.2.1, HH.out.1, HD.out]; rfl⟩
            case measure => simp; omega
          · have HN := Lib.hid (numL_none (s := s.data.toList) (by rw [HK.out, HH.out.2.2.1 (by rw [Bool.eq_false_iff]; intro h; have := HH.out.2.2.2.1 h; omega)]; simp))
            go_wp2
            go_ret2
            unfold NumPost
            rw [HN.out]
            exact ⟨⟨_, rfl⟩, (Below.refl _ _).alloc (Nat.le_refl _) _⟩
        · have HN := Lib.hid (numL_none (s := s.data.toList) (by rw [HK.out, HH.out.2.2.1 (by rw [Bool.eq_false_iff]; intro h; have := HH.out.2.2.2.1 h; omega)]; simp))
          go_wp2
          go_ret2
          unfold NumPost
          rw [HN.out]
          exact ⟨⟨_, rfl⟩, (Below.refl _ _).alloc (Nat.le_refl _) _⟩
      · have hnx : ∀ ty, (Instr.next (.pointer (some ⟨w.heap.size, 0, none⟩)) true ty).run Tryd.prog (w.iter t k) = _ := fun ty => run_next_any w t k ty hlt
        have hdh := (decode_high t k hlt (by omega)).1
        obtain ⟨r, hr⟩ : ∃ r, Utf8.decode t k = r := ⟨_, rfl⟩
        rw [hr] at hdh hnx
        have HN := Lib.hid (numL_none (s := s.data.toList) (by rw [HK.out, HH.out.2.2.1 (by rw [Bool.eq_false_iff]; intro h; have := HH.out.2.2.2.1 h; omega)]; simp))
        have hd48 : ¬ (r.1 : Int) < 48 := by omega
        have hd57 : (57 : Int) < (r.1 : Int) := by omega
        go_wp2
        go_ret2
        unfold NumPost
        rw [HN.out]
        exact ⟨⟨_, rfl⟩, (Below.refl _ _).alloc (Nat.le_refl _) _⟩
    · obtain rfl : k = t.size := by omega
      have hnx : ∀ ty, (Instr.next (.pointer (some ⟨w.heap.size, 0, none⟩)) true ty).run Tryd.prog (w.iter t t.size) = _ := fun ty => run_next_end w t t.size ty hlt
      have hTl : T.take t.size = T := List.take_of_length_le (by rw [HLt.out]; exact Nat.le_refl _)
      rw [hTl] at hall
      have hbI : Below w.heap.size w (w.iter t t.size) := (Below.refl _ _).alloc (Nat.le_refl _) _
      have hpn := HPN.out (by rw [HLt.out]; omega) (by rw [HLt.out]; omega) hall
      have hok : numOk s.data.toList = (if s.data.toList.head? = some 45 then decide (valU 0 T ≤ 9223372036854775808) else decide (valU 0 T < 9223372036854775808)) := by
        rw [HK.out, hall, HLt.out, decide_eq_true (show 1 ≤ t.size by omega), decide_eq_true (show t.size ≤ 19 by omega)]
        rw [decide_eq_false HH0.out]; simp
      rw [← hok] at hpn
      by_cases hn : numOk s.data.toList = true
      · rw [if_pos hn] at hpn
        have CP := Lib.hid (Tryd.strconv_ParseInt_10_at64_ok s (by omega) (numV s.data.toList) hpn (w.iter t t.size))
        have HN := Lib.hid (And.intro (numL_some hn) hbI)
        clear hpn hok hn hbI hall hTl
        go_wp2_with fail
        refine CP.out.mono ?_
        rintro e w2 ⟨rfl, hw2⟩
        have hb2 : Below w.heap.size w w2 := by
          rcases hw2 with rfl | ⟨t2, rfl⟩
          · exact HN.out.2
          · exact HN.out.2.trans ((Lib.bytesWorld_below _ _ _).mono HN.out.2.size)
        have HB := Lib.hid hb2
        clear hw2 hb2
        go_wp2
        go_quiet (fail)
        go_wp2
        go_ret2
        unfold NumPost
        rw [HN.out.1]
        exact ⟨rfl, below_drewN HB.out _⟩
      · rw [if_neg hn] at hpn
        obtain ⟨u, x, hE⟩ := HT.out.2.below hbI
        have CP := Lib.hid (Tryd.strconv_ParseInt_10_at64_range s (by omega) hpn _ (w.iter t t.size) hE (Or.inr ⟨u, x, rfl⟩))
        have HN := Lib.hid (And.intro (numL_none (s := s.data.toList) (by simpa using hn)) hbI)
        clear hpn hok hn hbI hall hTl hE
        go_wp2_with fail
        refine CP.out.mono ?_
        rintro e w2 ⟨N, rfl, hN, hcN, hq⟩
        have HB := Lib.hid (HN.out.2.trans (hq.mono HN.out.2.size))
        clear hq hcN
        go_wp2
        go_quiet (fail)
        go_wp2
        go_ret2
        unfold NumPost
        rw [HN.out.1]
        exact ⟨⟨_, rfl⟩, below_drewN HB.out _⟩
end Go.Proofs.YtndpdonlombodaaDoor
