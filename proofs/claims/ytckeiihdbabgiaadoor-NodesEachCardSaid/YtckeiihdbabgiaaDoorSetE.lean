/- nodes.Text: the nodes of a set as a text. -/
import Derived.Test.YtckeiihdbabgiaaDoorSetD
import Derived.OrdersIn
namespace Go.Proofs.YtckeiihdbabgiaaDoor
open Go.RowKit Law Go.Shelf
set_option linter.unusedVariables false
attribute [local go_sem] Oper.semAt_some

theorem operIn_append_own {F : Fence} {n : Nat} {P : Program} (w : World) {o : Oper} {a : Act} {K : Act → World → Prop} {Q : Exit → Act → World → Prop}
    (s x : Operand) (t : TypeId) (hop : o.op = Op.call { callee := Callee.builtin Builtin.append, args := #[s, x], argTypes := #[t, t] })
    (base : Nat) (e : TypeId) (i : TypeInfo) (z : Value) (size bytes : Nat) (h1 : P.underlying t = some (.slice e)) (h2 : P.info? e = some i) (h3 : i.zero = some z) (h4 : i.size = size) (h5 : i.bytes = bytes) (h6 : z.cells.size = size) (h7 : 0 < size)
    (v : Value) (k : Nat) (xs : List Value) (hs : a.eval s = v) (hown : w.ownsRow base e size v k xs) (ad : Addr) (m c : Nat) (news : List Value) (hx : a.eval x = .slice (some ad) m c) (hn : news.length = m * size)
    (hc : ∀ j u, news[j]? = some u → w.cell? (ad.add j) = some u) (h1c : ∀ u ∈ news, u.oneCell' = true) (b1 : k + m ≤ maxLen) (b2 : (k + m) * bytes ≤ 140737488355328) (b3 : base ≤ w.heap.size)
    (hK : ∀ v' w', w'.ownsRow base e size v' (k + m) (xs ++ news) → w.grownBy w' v.ownBlock → K (a.put o.dst v') w') :
    o.wpIn F n P a w K Q := by
  obtain ⟨v', w', hrun, r1, r2, r3⟩ := run_append_own (P := P) w base t o.type e i z size bytes h1 h2 h3 h4 h5 h6 h7 v k xs hown ad m c news hn hc h1c b1 b2 b3
  unfold Oper.wpIn
  refine ⟨?_, ?_⟩
  · simp [Oper.about, hop, resolve, Target.leads, Sem.run_pure]
  · rw [Oper.semAt_plain F _ _ (by rw [hop]; intro c hc'; cases hc')]
    simp [execOp, hop, resolve, invoke, builtin, hs, hx, hrun, Result.andThen]
    exact hK v' w' r1 r2

theorem wanted_if {c : Bool} {A B : Prop} (hc : c = true) (h : A) : if c = true then A else B := by rw [if_pos hc]; exact h
theorem strInfo : (Tryd.prog.info? 9).map (fun i => (i.zero, i.size, i.bytes)) = some (some (.string ⟨#[]⟩), 1, 16) := by kernel_rfl
def itoaB (z : Int) : ByteArray := ⟨(Lib.itoa z).toArray⟩
abbrev txtV (zs : List Int) : List Value := zs.map fun z => Value.string (itoaB z)
theorem itoaSmall (i : Nat) (hi : i < 100) (w : World) : Calls Tryd.prog 39 #[.int .i64 (i : Int)] w fun e w' => e = .returned (.string (itoaB i)) ∧ w' = w := by
  have h := Tryd.strconv_Itoa_small i hi w
  have e : Lib.itoa (i : Int) = Lib.decDigits i := by
    unfold Lib.itoa
    rw [if_neg (by omega)]
    rfl
  unfold itoaB
  rw [e]
  exact h
theorem lens_le (m : Nat) : ∀ l : List (List UInt8), (∀ x ∈ l, x.length ≤ m) → Lib.lens l ≤ m * l.length
  | [], _ => by simp [Lib.lens]
  | x :: l, h => by
    have h1 := h x (by simp)
    have h2 := lens_le m l (fun y hy => h y (by simp [hy]))
    have e : Lib.lens (x :: l) = x.length + Lib.lens l := by simp [Lib.lens]
    rw [e, List.length_cons, Nat.mul_add]
    omega
theorem text_len (s : Nat) : (Lib.join ((elsI s).map Lib.itoa) [44]).length ≤ 2000 := by
  have hel := elsI_len s
  have hm : ∀ x ∈ (elsI s).map Lib.itoa, x.length ≤ 21 := by
    intro x hx
    obtain ⟨z, hz, rfl⟩ := List.mem_map.1 hx
    unfold elsI at hz
    obtain ⟨y, hy, rfl⟩ := List.mem_map.1 hz
    have hy1 := (mem_els.1 hy).1
    have := itoa_len (n := Int.ofNat y) (by show (-9223372036854775808 : Int) ≤ (y : Int); omega) (by show (y : Int) ≤ 9223372036854775807; omega)
    omega
  generalize elsI s = l at *
  cases l with
  | nil => simp [Lib.join_nil]
  | cons a r =>
    have h1 := Lib.join_length (Lib.itoa a) (r.map Lib.itoa) [44]
    have h2 := lens_le 21 _ hm
    rw [List.map_cons] at h2 ⊢
    rw [h1]
    rw [List.length_map] at *
    rw [List.length_cons, List.length_map] at h2
    rw [List.length_cons] at hel
    simp only [List.length_cons, List.length_nil]
    omega
def TextI (w : World) (zs : List Int) (k : Nat) (W : World) : Prop :=
  ∃ v, BoxIs w.heap.size v W ∧ W.ownsRow (w.heap.size + 2) 9 1 v k (txtV (zs.take k)) ∧ Below w.heap.size w W
set_option maxHeartbeats 1600000 in
theorem nodesText1 (s : Nat) (h0 : s ≠ 0) (hs : s < 18446744073709551616) (w : World) (hTw : T64 w) :
    Calls Tryd.prog 31 #[.int .u64 (s : Int)] w fun e w' => e = .returned (.string ⟨(Lib.join ((elsI s).map Lib.itoa) [44]).toArray⟩) ∧ Below w.heap.size w w' := by
  obtain ⟨i0, hi, hz0, hz1, hz2⟩ := info_parts strInfo
  have hel := elsI_len s
  have hx0 : ((s : Int) == 0) = false := by simp; omega
  have H0 := Lib.hid h0
  clear h0
  refine (callsIn_wide (n := 9)).1 ?_
  refine callsIn_of_wp_marks Tryd.func31 rfl trivial ?_ rfl
  simp only [Tryd.ntmps31, List.size_toArray, List.length_cons, List.length_nil, Nat.reduceAdd, Nat.reduceSub, Array.replicate_succ, Array.replicate_zero, List.push_toArray, List.append_toArray, List.nil_append, List.cons_append]
  gi_wp2
  refine ⟨trivial, (callsIn_wide.2 (nodesEach s _)).mono ?_⟩
  rintro e w' ⟨rfl, hw'⟩
  have hsz : w'.heap.size = w.heap.size + 2 := by rw [hw']; simp
  have hbw : Below w.heap.size w w' := by rw [hw']; exact ((Below.refl _ w).alloc (Nat.le_refl _) _).alloc (by simp) _
  have hbox : BoxIs (w.heap.size + 1) (.int .u64 (s : Int)) w' := by rw [hw']; exact ⟨by simp, by simp⟩
  have hbx0 : BoxIs w.heap.size (.slice none 0 0) w' := by rw [hw']; exact ⟨by simp, by simp⟩
  clear hw'
  gi_wp2
  refine wp_rangeBox (gf := 33) (B := w.heap.size + 1) (u0 := .int .u64 (s : Int)) (zs := intV (elsI s)) (T := T64) (by simp [Act.eval, World.size_alloc]) (enters_of Tryd.func33 (by kernel_rfl) rfl) (eachSeq _ s hs) rfl hbox
    (TextI w (elsI s)) (fun _ _ _ => False) ?hI (fun _ _ _ _ h _ => h.elim) ?hT ?h0
    (fun x => { tmps := #[.int .u64 (s : Int), undef, .string ⟨#[]⟩, .pointer (some ⟨w.heap.size, 0, none⟩), x, .int .u64 (s : Int), .bool false, .int .u64 (s : Int), .func (.func 33) #[] #[.pointer (some ⟨w.heap.size + 1, 0, none⟩)], x, undef, undef, undef, undef, undef, undef, undef], defers := [] }) ?assign ?body ?done (fun _ _ _ _ _ _ h => h.elim)
  case hI =>
    rintro k W W' ⟨v, h1, h2, h3⟩ hS
    exact ⟨v, hS.cell (by omega) (by omega) h1, hS.row (by omega) h2, hS.below (by omega) (by omega) h3 h3.size⟩
  case hT =>
    rintro k W ⟨v, h1, h2, h3⟩
    exact hTw.below h3
  case h0 => exact ⟨_, hbx0, World.ownsRow_nil _ _ _ _, hbw⟩
  case assign =>
    intro l x W K hK
    simp only [World.size_alloc]
    gi_wp2
    exact hK
  case body =>
    rintro l k x W ⟨v, hbx, hown, hb⟩ hx hlt
    have hc := hbx.1
    have hf := hbx.2
    have hk : k < (elsI s).length := by
      have := (List.getElem?_eq_some_iff.1 hx).1
      simpa using this
    obtain rfl : x = .int .i64 (elsI s)[k] := by
      rw [List.getElem?_map, List.getElem?_eq_getElem hk] at hx
      exact (Option.some.inj hx).symm
    obtain ⟨y, hy, hy1⟩ : ∃ y : Nat, (elsI s)[k] = (y : Int) ∧ y < 64 := by
      have hm : (elsI s)[k] ∈ elsI s := List.getElem_mem hk
      unfold elsI at hm
      obtain ⟨y, hy, he⟩ := List.mem_map.1 hm
      exact ⟨y, he.symm, (mem_els.1 hy).1⟩
    have HS : Hid (txtV ((elsI s).take (k + 1)) = txtV ((elsI s).take k) ++ [.string (itoaB (y : Int))]) := by
      unfold Hid txtV
      rw [List.take_succ_eq_append_getElem hk, List.map_append, hy]
      rfl
    have hbs := hb.size
    rw [hy]
    clear hx hy
    have hca : (W.alloc (.cells #[.string (itoaB (y : Int))] 9)).cell? ⟨w.heap.size, 0, none⟩ = some v := (World.cell?_of_block (w := W) (a := ⟨w.heap.size, 0, none⟩) (Below.heap_alloc W _ _ (show w.heap.size < W.heap.size by omega))).trans hc
    gi_wp2
    refine wpIn_region_any (by kernel_rfl) ?_
    change wpAnyIn _ _ _ _ _ _ _ _ _ (World.drew _)
    refine wpAnyIn_ready (rs := [0, 1]) (by kernel_rfl) (by simp) (AllReadyIn.cons rfl (fun K hK => ?_) (AllReadyIn.cons rfl (fun K hK => ?_) AllReadyIn.nil))
    · go_simp
      refine hK _ _ ?_
      clear hK K
      refine wpAnyIn_ready (rs := [1]) (by kernel_rfl) (by simp) (AllReadyIn.cons rfl (fun K hK => ?_) AllReadyIn.nil)
      go_simp
      refine hK _ _ ?_
      clear hK K
      refine wpAnyIn_ready (rs := [2]) (by kernel_rfl) (by simp) (AllReadyIn.cons rfl (fun K hK => ?_) AllReadyIn.nil)
      go_simp
      refine ⟨trivial, (CallsIn.inRound l (callsIn_wide.2 (itoaSmall y (by omega) _))).mono ?_⟩
      rintro e w' ⟨rfl, rfl⟩
      refine hK _ _ ?_
      clear hK K
      refine wpAnyIn_ready (rs := [3]) (by kernel_rfl) (by simp) (AllReadyIn.cons rfl (fun K hK => ?_) AllReadyIn.nil)
      go_simp
      refine hK _ _ ?_
      clear hK K
      refine wpAnyIn_ready (rs := [4]) (by kernel_rfl) (by simp) (AllReadyIn.cons rfl (fun K hK => ?_) AllReadyIn.nil)
      refine wanted_if rfl ?_
      refine operIn_append_own _ _ _ 54 rfl (w.heap.size + 2) 9 i0 (.string ⟨#[]⟩) 1 16 Tryd.underlying54 hi hz0 hz1 hz2 rfl (by decide) v k _ rfl (hown.alloc _) ⟨W.heap.size, 0, none⟩ 1 1 [.string (itoaB (y : Int))] rfl rfl ?_ ?_ ?_ ?_ ?_ ?_
      · intro j u hj
        match j, hj with
        | 0, hj => simp at hj; subst hj; simp [Addr.add]
      · intro u hu; simp at hu; subst hu; rfl
      · unfold maxLen; omega
      · omega
      · simp; omega
      intro v' w1 hown' hgrow
      obtain ⟨g', cap', rfl⟩ := ownsRow_succ hown'
      obtain ⟨q1, q2, q3, q4, q5, q6⟩ := box_append (W := W.drew) (by omega) hbx hown (by show _ ≤ W.heap.size; omega) hown' hgrow
      have hc1 := q1.1
      have hf1 := q1.2
      have HQ := Lib.hid (And.intro q2 (And.intro q3 (And.intro q4 (And.intro q5 q6))))
      clear q1 q2 q3 q4 q5 q6 hgrow hown'
      refine hK _ _ ?_
      clear hK K
      refine wpAnyIn_ready (rs := [5]) (by kernel_rfl) (by simp) (AllReadyIn.cons rfl (fun K hK => ?_) AllReadyIn.nil)
      go_simp
      refine hK _ _ ?_
      clear hK K
      refine wpAnyIn_done (by kernel_rfl) ?_ _
      obtain ⟨q2, q3, q4, q5, q6⟩ := HQ.out
      exact ⟨(KeepsOthers.drew W).trans q4, fun u hu => q5 _ u (by omega) (by omega) hu, _, q2, by rw [HS.out]; exact q3, hb.trans (((Below.refl _ W).drew).trans (q6 _ (Nat.le_refl _)))⟩
    · go_simp
      refine hK _ _ ?_
      clear hK K
      refine wpAnyIn_ready (rs := [0, 2]) (by kernel_rfl) (by simp) (AllReadyIn.cons rfl (fun K hK => ?_) (AllReadyIn.cons rfl (fun K hK => ?_) AllReadyIn.nil))
      · go_simp
        refine hK _ _ ?_
        clear hK K
        refine wpAnyIn_ready (rs := [2]) (by kernel_rfl) (by simp) (AllReadyIn.cons rfl (fun K hK => ?_) AllReadyIn.nil)
        go_simp
        refine ⟨trivial, (CallsIn.inRound l (callsIn_wide.2 (itoaSmall y (by omega) _))).mono ?_⟩
        rintro e w' ⟨rfl, rfl⟩
        refine hK _ _ ?_
        clear hK K
        refine wpAnyIn_ready (rs := [3]) (by kernel_rfl) (by simp) (AllReadyIn.cons rfl (fun K hK => ?_) AllReadyIn.nil)
        go_simp
        refine hK _ _ ?_
        clear hK K
        refine wpAnyIn_ready (rs := [4]) (by kernel_rfl) (by simp) (AllReadyIn.cons rfl (fun K hK => ?_) AllReadyIn.nil)
        refine wanted_if rfl ?_
        refine operIn_append_own _ _ _ 54 rfl (w.heap.size + 2) 9 i0 (.string ⟨#[]⟩) 1 16 Tryd.underlying54 hi hz0 hz1 hz2 rfl (by decide) v k _ rfl (hown.alloc _) ⟨W.heap.size, 0, none⟩ 1 1 [.string (itoaB (y : Int))] rfl rfl ?_ ?_ ?_ ?_ ?_ ?_
        · intro j u hj
          match j, hj with
          | 0, hj => simp at hj; subst hj; simp [Addr.add]
        · intro u hu; simp at hu; subst hu; rfl
        · unfold maxLen; omega
        · omega
        · simp; omega
        intro v' w1 hown' hgrow
        obtain ⟨g', cap', rfl⟩ := ownsRow_succ hown'
        obtain ⟨q1, q2, q3, q4, q5, q6⟩ := box_append (W := W.drew) (by omega) hbx hown (by show _ ≤ W.heap.size; omega) hown' hgrow
        have hc1 := q1.1
        have hf1 := q1.2
        have HQ := Lib.hid (And.intro q2 (And.intro q3 (And.intro q4 (And.intro q5 q6))))
        clear q1 q2 q3 q4 q5 q6 hgrow hown'
        refine hK _ _ ?_
        clear hK K
        refine wpAnyIn_ready (rs := [5]) (by kernel_rfl) (by simp) (AllReadyIn.cons rfl (fun K hK => ?_) AllReadyIn.nil)
        go_simp
        refine hK _ _ ?_
        clear hK K
        refine wpAnyIn_done (by kernel_rfl) ?_ _
        obtain ⟨q2, q3, q4, q5, q6⟩ := HQ.out
        exact ⟨(KeepsOthers.drew W).trans q4, fun u hu => q5 _ u (by omega) (by omega) hu, _, q2, by rw [HS.out]; exact q3, hb.trans (((Below.refl _ W).drew).trans (q6 _ (Nat.le_refl _)))⟩
      · go_simp
        refine ⟨trivial, (CallsIn.inRound l (callsIn_wide.2 (itoaSmall y (by omega) _))).mono ?_⟩
        rintro e w' ⟨rfl, rfl⟩
        refine hK _ _ ?_
        clear hK K
        refine wpAnyIn_ready (rs := [0, 3]) (by kernel_rfl) (by simp) (AllReadyIn.cons rfl (fun K hK => ?_) (AllReadyIn.cons rfl (fun K hK => ?_) AllReadyIn.nil))
        · go_simp
          refine hK _ _ ?_
          clear hK K
          refine wpAnyIn_ready (rs := [3]) (by kernel_rfl) (by simp) (AllReadyIn.cons rfl (fun K hK => ?_) AllReadyIn.nil)
          go_simp
          refine hK _ _ ?_
          clear hK K
          refine wpAnyIn_ready (rs := [4]) (by kernel_rfl) (by simp) (AllReadyIn.cons rfl (fun K hK => ?_) AllReadyIn.nil)
          refine wanted_if rfl ?_
          refine operIn_append_own _ _ _ 54 rfl (w.heap.size + 2) 9 i0 (.string ⟨#[]⟩) 1 16 Tryd.underlying54 hi hz0 hz1 hz2 rfl (by decide) v k _ rfl (hown.alloc _) ⟨W.heap.size, 0, none⟩ 1 1 [.string (itoaB (y : Int))] rfl rfl ?_ ?_ ?_ ?_ ?_ ?_
          · intro j u hj
            match j, hj with
            | 0, hj => simp at hj; subst hj; simp [Addr.add]
          · intro u hu; simp at hu; subst hu; rfl
          · unfold maxLen; omega
          · omega
          · simp; omega
          intro v' w1 hown' hgrow
          obtain ⟨g', cap', rfl⟩ := ownsRow_succ hown'
          obtain ⟨q1, q2, q3, q4, q5, q6⟩ := box_append (W := W.drew) (by omega) hbx hown (by show _ ≤ W.heap.size; omega) hown' hgrow
          have hc1 := q1.1
          have hf1 := q1.2
          have HQ := Lib.hid (And.intro q2 (And.intro q3 (And.intro q4 (And.intro q5 q6))))
          clear q1 q2 q3 q4 q5 q6 hgrow hown'
          refine hK _ _ ?_
          clear hK K
          refine wpAnyIn_ready (rs := [5]) (by kernel_rfl) (by simp) (AllReadyIn.cons rfl (fun K hK => ?_) AllReadyIn.nil)
          go_simp
          refine hK _ _ ?_
          clear hK K
          refine wpAnyIn_done (by kernel_rfl) ?_ _
          obtain ⟨q2, q3, q4, q5, q6⟩ := HQ.out
          exact ⟨(KeepsOthers.drew W).trans q4, fun u hu => q5 _ u (by omega) (by omega) hu, _, q2, by rw [HS.out]; exact q3, hb.trans (((Below.refl _ W).drew).trans (q6 _ (Nat.le_refl _)))⟩
        · go_simp
          refine hK _ _ ?_
          clear hK K
          refine wpAnyIn_ready (rs := [0]) (by kernel_rfl) (by simp) (AllReadyIn.cons rfl (fun K hK => ?_) AllReadyIn.nil)
          go_simp
          refine hK _ _ ?_
          clear hK K
          refine wpAnyIn_ready (rs := [4]) (by kernel_rfl) (by simp) (AllReadyIn.cons rfl (fun K hK => ?_) AllReadyIn.nil)
          refine wanted_if rfl ?_
          refine operIn_append_own _ _ _ 54 rfl (w.heap.size + 2) 9 i0 (.string ⟨#[]⟩) 1 16 Tryd.underlying54 hi hz0 hz1 hz2 rfl (by decide) v k _ rfl (hown.alloc _) ⟨W.heap.size, 0, none⟩ 1 1 [.string (itoaB (y : Int))] rfl rfl ?_ ?_ ?_ ?_ ?_ ?_
          · intro j u hj
            match j, hj with
            | 0, hj => simp at hj; subst hj; simp [Addr.add]
          · intro u hu; simp at hu; subst hu; rfl
          · unfold maxLen; omega
          · omega
          · simp; omega
          intro v' w1 hown' hgrow
          obtain ⟨g', cap', rfl⟩ := ownsRow_succ hown'
          obtain ⟨q1, q2, q3, q4, q5, q6⟩ := box_append (W := W.drew) (by omega) hbx hown (by show _ ≤ W.heap.size; omega) hown' hgrow
          have hc1 := q1.1
          have hf1 := q1.2
          have HQ := Lib.hid (And.intro q2 (And.intro q3 (And.intro q4 (And.intro q5 q6))))
          clear q1 q2 q3 q4 q5 q6 hgrow hown'
          refine hK _ _ ?_
          clear hK K
          refine wpAnyIn_ready (rs := [5]) (by kernel_rfl) (by simp) (AllReadyIn.cons rfl (fun K hK => ?_) AllReadyIn.nil)
          go_simp
          refine hK _ _ ?_
          clear hK K
          refine wpAnyIn_done (by kernel_rfl) ?_ _
          obtain ⟨q2, q3, q4, q5, q6⟩ := HQ.out
          exact ⟨(KeepsOthers.drew W).trans q4, fun u hu => q5 _ u (by omega) (by omega) hu, _, q2, by rw [HS.out]; exact q3, hb.trans (((Below.refl _ W).drew).trans (q6 _ (Nat.le_refl _)))⟩
  case done =>
    rintro D W hD ⟨v, hbx, hown, hb⟩ hK
    have hc := hbx.1
    have HT : Hid ((elsI s).take (intV (elsI s)).length = elsI s) := List.take_of_length_le (by simp [intV])
    have HL : Hid ((intV (elsI s)).length = (elsI s).length) := List.length_map ..
    rw [HT.out, HL.out] at hown
    have hpos : 0 < (elsI s).length := by
      unfold elsI
      rw [List.length_map, els_cons H0.out hs]
      simp
    obtain ⟨g, cap, hv⟩ := Joins.ownsRow_form hown hpos
    subst hv
    have hcap : (elsI s).length ≤ cap := by
      obtain ⟨A, c, h1, h2⟩ := own_form hown
      injection h1 with _ _ h3
      omega
    have hgl := hown.lt g rfl
    have HX : Hid (((elsI s).map fun z => itoaB z).length = (elsI s).length) := List.length_map ..
    have HJ : Hid ((((elsI s).map fun z => itoaB z).map (·.data.toList)) = (elsI s).map Lib.itoa) := by
      unfold Hid
      rw [List.map_map]
      apply List.map_congr_left
      intro z _
      simp [itoaB]
    have hC := Tryd.strings_Join g 0 cap ((elsI s).map fun z => itoaB z) ⟨#[44]⟩ W (fun j x hj => by
        have h1 := hown.cells (g := g) rfl j (.string x) (by
          unfold txtV
          rw [List.getElem?_map] at hj ⊢
          cases hz : (elsI s)[j]? with
          | none => rw [hz] at hj; cases hj
          | some z => rw [hz] at hj; simp at hj; simp [hj])
        rw [Lib.add_plain] at h1
        exact h1) hgl.2 (by rw [HX.out]; omega) (by rw [HX.out]; exact hcap) (by rw [HJ.out]; exact Nat.le_trans (text_len s) (by omega))
    rw [HX.out, HJ.out] at hC
    have HC := Lib.hid hC
    clear hC
    gi_wp2
    refine ⟨trivial, (callsIn_wide.2 HC.out).mono ?_⟩
    rintro e w2 ⟨rfl, hq⟩
    have hK2 : w2.heap[D]? = some (.deferred (some [])) := (hq.block D (Array.getElem?_eq_some_iff.1 hK).1).trans hK
    have hb2 := hb.trans (hq.mono hb.size)
    gi_wp2
    refine ⟨by simp, .inl ⟨_, _, rfl, run_takeDeferred hK2, ?_⟩⟩
    exact ⟨_, results_tmp rfl _ _ _, rfl, hb2.trans (belowK_b (w := w) (Nat.le_refl _) w2 D _ _ (by omega) hK2 rfl rfl)⟩
end Go.Proofs.YtckeiihdbabgiaaDoor
