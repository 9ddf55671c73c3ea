/- A node is started; the list of its one view. -/
import Derived.Test.YteahiphmhaedpaaGreatDoorNdJ
import Derived.Test.YteahiphmhaedpaaGreatDoorNdK
namespace Go.Proofs.YteahiphmhaedpaaGreatDoor
open Go.RowKit Law
set_option linter.unusedVariables false
set_option linter.unusedSimpArgs false
set_option maxRecDepth 100000

def ViewsPost (no at_ st : Int) (w : World) (e : Ending) (w' : World) : Prop := ∃ R cap, e = .returned (.slice (some ⟨R, 0, none⟩) 1 cap) ∧ BoxAt w' R [.int .i64 no, .int .i64 at_, .int .u64 st] ∧ w.heap.size ≤ R ∧ Below w.heap.size w w'
set_option maxHeartbeats 1600000 in
theorem viewClone1 {w : World} {R : Nat} {no at_ st : Int} (h : BoxAt w R [.int .i64 no, .int .i64 at_, .int .u64 st]) (c : Nat) :
    Calls Tryz.prog 316 #[.slice (some ⟨R, 0, none⟩) 1 c] w (ViewsPost no at_ st w) := by
  obtain ⟨i0, hi, hz0, hz1, hz2⟩ := info_parts viewInfo
  have h00 := World.ownsRow_made (base := w.heap.size) (e := 109) (size := 3) w #[] 0 (Nat.le_refl _) (by simp [maxLen]) rfl
  have hb0 : Below w.heap.size w (w.alloc (.cells #[] 109)) := (Below.refl _ _).alloc (Nat.le_refl _) _
  have HX := Lib.hid (h.keep hb0)
  clear h
  have hq : ∀ W, (binOp .eql 106 (.slice (some ⟨R, 0, none⟩) 1 c) (.slice none 0 0)).run Tryz.prog W = .ok (.bool false) W := fun W => by kernel_rfl
  go_enter Tryz.func316, Tryz.ntmps316
  go_wp2_with (at_builtin; refine wpList_append_copy _ rfl _ _ 106 rfl w.heap.size 109 i0 _ 3 24 Tryz.underlying106 hi hz0 hz1 hz2 rfl (by decide) _ _ _ rfl h00 (some ⟨R, 0, none⟩) 1 c [.int .i64 no, .int .i64 at_, .int .u64 st] rfl ?c0 ?c1 ?c2 ?c3 ?c4 ?c5 ?c6 ?_)
  case c0 => intro hx; cases hx
  case c1 => rfl
  case c2 =>
    intro ad had j u hu
    injection had with had
    subst had
    have e : (⟨R, 0, none⟩ : Addr).add j = ⟨R, j, none⟩ := by unfold Addr.add; split <;> simp_all
    rw [e]
    exact HX.out j u hu
  case c3 =>
    intro u hu
    simp only [List.mem_cons, List.not_mem_nil, or_false] at hu
    rcases hu with rfl | rfl | rfl <;> rfl
  case c4 => decide
  case c5 => decide
  case c6 => simp
  intro v' w3 row hown hgrow hrow
  have hb3 : Below w.heap.size w w3 := hb0.grown hgrow (by simp) hrow
  have hown : w3.ownsRow w.heap.size 109 3 v' 1 [.int .i64 no, .int .i64 at_, .int .u64 st] := by simpa using hown
  have hex : ∃ g cap, v' = .slice (some ⟨g, 0, none⟩) 1 cap := by
    rcases hown.2 with ⟨_, h0⟩ | ⟨g, cap, cur, hv, _⟩
    · cases h0
    · exact ⟨g, cap, hv⟩
  obtain ⟨g, cap, hv⟩ := hex
  rw [hv] at hown ⊢
  have HF : Hid (ViewsPost no at_ st w (.returned (.slice (some ⟨g, 0, none⟩) 1 cap)) w3) := by
    refine ⟨g, cap, rfl, fun k u hk => ?_, (hown.lt g rfl).1, hb3⟩
    have hk3 : k < 3 := by
      rcases Nat.lt_or_ge k 3 with h | h
      · exact h
      · rw [List.getElem?_eq_none (by simpa using h)] at hk; cases hk
    exact (hown.cellAt k (by omega)).trans hk
  clear hown hgrow hrow hb3 hb0 h00 hv
  go_wp2
  go_ret
  exact HF.out
theorem viewList1 {w : World} {V R cap : Nat} {no at_ st : Int} (h : BoxF w V [.slice (some ⟨R, 0, none⟩) 1 cap]) (hR : BoxAt w R [.int .i64 no, .int .i64 at_, .int .u64 st]) :
    Calls Tryz.prog 253 #[.pointer (some ⟨V, 0, none⟩)] w (ViewsPost no at_ st w) := by
  have c0 := h.1 0 _ rfl
  have C := Lib.hid (viewClone1 hR cap)
  clear h hR
  go_enter Tryz.func253, Tryz.ntmps253
  go_wp2_with fail
  refine C.out.mono ?_
  rintro e w1 h1
  have H := Lib.hid h1
  obtain ⟨g, c, rfl, -⟩ := h1
  go_wp2
  go_ret
  exact H.out
/-- A round is opened. -/
def OpenPost (b : NdO) (c : Cn) (x : NV) (no : Int) (w : World) (e : Ending) (w' : World) : Prop := e = .returned (.tuple #[]) ∧ ∃ r m, NdBox w' b c { x with rnd := pB r, sent := false } ∧ BoxF w' r [.int .i64 no, .map (some m)] ∧ NoMap w' m ∧ w.heap.size ≤ m ∧ m < r ∧ r < w'.heap.size ∧ FrB b.N w w'
set_option maxHeartbeats 1600000 in
theorem nodeOpen {w : World} {b : NdO} {c : Cn} {x : NV} (h : NdBox w b c x) (no : Int) :
    Calls Tryz.prog 76 #[.pointer (some ⟨b.N, 0, none⟩), .int .i64 no] w (OpenPost b c x no w) := by
  have C := Lib.hid (roundNew no w)
  have H := Lib.hid h
  obtain ⟨N, hN⟩ : ∃ N, b.N = N := ⟨_, rfl⟩
  have HN := Lib.hid hN
  rw [hN]
  clear h hN
  go_enter Tryz.func76, Tryz.ntmps76
  go_wp2_with fail
  refine C.out.mono ?_
  rintro e w1 ⟨r, m, rfl, hr, hm, h1, h2, hb⟩
  have q := H.out.keep hb
  have hNr : b.N < m := Nat.lt_of_lt_of_le H.out.lt h1
  have q1 := q.putA (x' := { x with rnd := pB r }) 36 (pB r) (by decide) rfl rfl rfl rfl rfl
  have q2 := q1.putA (x' := { x with rnd := pB r, sent := false }) 37 (.bool false) (by decide) rfl rfl rfl rfl rfl
  have c36 := q.cell 36 _ rfl
  have c37 := q.cell 37 _ rfl
  have f36 := q.fz 36 (by decide)
  have f37 := q.fz 37 (by decide)
  have HF : Hid (OpenPost b c x no w (.returned (.tuple #[])) ((w1.setCell ⟨N, 36, none⟩ (pB r)).setCell ⟨N, 37, none⟩ (.bool false))) := by
    rw [← HN.out]
    have F : FrB b.N w1 ((w1.setCell ⟨b.N, 36, none⟩ (pB r)).setCell ⟨b.N, 37, none⟩ (.bool false)) := (FrB.set _ _ _ _).trans (FrB.set _ _ _ _)
    have hrl := hr.lt (by simp)
    exact ⟨rfl, r, m, q2, hr.same (F.block _ hrl (by omega)), hm.same (F.block _ (by omega) (by omega)), h1, h2, Nat.lt_of_lt_of_le hrl F.size, (FrB.of hb).trans F⟩
  rw [HN.out] at c36 c37 f36 f37
  have hx : ∃ u, x.rnd = u := ⟨_, rfl⟩
  clear q q1 q2 hr hm h1 h2 hb hNr hx
  go_wp2
  go_end0
  exact HF.out

/-- A node's block behind its start. -/
def bootV (c : Cn) (x : NV) (r : Nat) : NV := { x with rnd := pB r, sent := false, last := allN c.n, view := 1, att := 1, known := true }
def bootS (s : NS) (R cap : Nat) : NS := { s with ph := 2, at_ := 0, js := 2, jf := 0, jc := 0, vw := .slice (some ⟨R, 0, none⟩) 1 cap }
def BootPost (lo : Nat) (b : NdO) (c : Cn) (x : NV) (s : NS) (w : World) (e : Ending) (w' : World) : Prop := e = .returned (.int .i64 0) ∧ ∃ r m R cap, NodeAt w' lo b c (bootV c x r) (bootS s R cap) ∧ BoxF w' r [.int .i64 1, .map (some m)] ∧ NoMap w' m ∧ BoxAt w' R [.int .i64 0, .int .i64 0, .int .u64 (allN c.n : Int)] ∧ w.heap.size ≤ m ∧ m < r ∧ r < R ∧ R < w'.heap.size ∧ Below lo w w'
theorem FrB.box {B b : Nat} {w w' : World} {cs : List Value} (h : FrB B w w') (k : BoxF w b cs) (hb : 0 < cs.length) (hne : b ≠ B) : BoxF w' b cs := k.same (h.block b (k.lt hb) hne)
theorem NoMap.lt {w : World} {m : Nat} (h : NoMap w m) : m < w.heap.size := (Array.getElem?_eq_some_iff.1 h).1
theorem FrB.map {B m : Nat} {w w' : World} (h : FrB B w w') (k : NoMap w m) (hne : m ≠ B) : NoMap w' m := k.same (h.block m k.lt hne)
/-- All but the clock's, the membership's, the views' and the node's own block. -/
theorem boot_done {w w1 w2 w3 w4 w5 : World} {lo : Nat} {b : NdO} {c : Cn} {x : NV} {s : NS} {r m R cap : Nat} (h : NodeAt w lo b c x s)
    (k1 : BoxF w1 b.clk [pB b.slw, .int .i64 2, .int .i64 0, .int .i64 c.slew]) (F1 : FrB b.clk w w1)
    (k2 : BoxF w2 b.jn [.int .i64 2, .int .i64 0, .int .i64 0]) (F2 : FrB b.jn w1 w2)
    (k3 : BoxF w3 r [.int .i64 1, .map (some m)]) (n3 : NoMap w3 m) (u1 : w2.heap.size ≤ m) (u2 : m < r) (u3 : r < w3.heap.size) (F3 : FrB b.N w2 w3)
    (k4 : NdBox w4 b c (bootV c x r)) (F4 : FrB b.N w3 w4)
    (k5 : BoxF w5 b.vws [.slice (some ⟨R, 0, none⟩) 1 cap]) (c5 : BoxAt w5 R [.int .i64 0, .int .i64 0, .int .u64 (allN c.n : Int)]) (u4 : w4.heap.size ≤ R) (u5 : R < w5.heap.size) (F5 : FrB b.vws w4 w5) :
    BootPost lo b c x s w (.returned (.int .i64 0)) w5 := by
  obtain ⟨o0, o1, o2, o3, o4, o5, o6, o7, o8, o9, o10, o11, o12, o13, o14, o15, o16, o17, o18, o19, o20⟩ := h.ord
  have s1 := F1.size
  have s2 := F2.size
  have s3 := F3.size
  have s4 := F4.size
  have s5 := F5.size
  have hk : ∀ k, k < w.heap.size → k ≠ b.clk → k ≠ b.jn → k ≠ b.N → k ≠ b.vws → w5.heap[k]? = w.heap[k]? := fun k h0 h1 h2 h3 h4 =>
    (F5.block k (by omega) h4).trans ((F4.block k (by omega) h3).trans ((F3.block k (by omega) h3).trans ((F2.block k (by omega) h2).trans (F1.block k h0 h1))))
  have hB : Below lo w w5 := ((((F1.below (by omega) (by omega)).trans (F2.below (by omega) (by omega))).trans (F3.below (by omega) (by omega))).trans (F4.below (by omega) (by omega))).trans (F5.below (by omega) (by omega))
  refine ⟨rfl, r, m, R, cap, ⟨k4.kept (F5.block _ k4.lt (by omega)), h.ser.same (hk _ (by omega) (by omega) (by omega) (by omega) (by omega)), h.slw.same (hk _ (by omega) (by omega) (by omega) (by omega) (by omega)),
    F5.box (F4.box (F3.box (F2.box k1 (by simp) (by omega)) (by simp) (by omega)) (by simp) (by omega)) (by simp) (by omega),
    h.tmp.same (hk _ (by omega) (by omega) (by omega) (by omega) (by omega)), h.tab.same (hk _ (by omega) (by omega) (by omega) (by omega) (by omega)), h.sen.same (hk _ (by omega) (by omega) (by omega) (by omega) (by omega)), h.rel.same (hk _ (by omega) (by omega) (by omega) (by omega) (by omega)), h.htm.same (hk _ (by omega) (by omega) (by omega) (by omega) (by omega)), h.htb.same (hk _ (by omega) (by omega) (by omega) (by omega) (by omega)), h.hq.same (hk _ (by omega) (by omega) (by omega) (by omega) (by omega)), h.hst.same (hk _ (by omega) (by omega) (by omega) (by omega) (by omega)), h.quo.same (hk _ (by omega) (by omega) (by omega) (by omega) (by omega)), h.rom.same (hk _ (by omega) (by omega) (by omega) (by omega) (by omega)), h.rol.same (hk _ (by omega) (by omega) (by omega) (by omega) (by omega)),
    F5.box (F4.box (F3.box k2 (by simp) (by omega)) (by simp) (by omega)) (by simp) (by omega), k5, h.lg.same (hk _ (by omega) (by omega) (by omega) (by omega) (by omega)), h.pim.same (hk _ (by omega) (by omega) (by omega) (by omega) (by omega)), h.pie.same (hk _ (by omega) (by omega) (by omega) (by omega) (by omega)), h.ord.mono (by omega)⟩,
    F5.box (F4.box k3 (by simp) (by omega)) (by simp) (by omega), F5.map (F4.map n3 (by omega)) (by omega), c5, by omega, u2, by omega, u5, hB⟩
set_option maxHeartbeats 6400000 in
theorem nodeBoot {w : World} {lo : Nat} {b : NdO} {c : Cn} {x : NV} {s : NS} (h : NodeAt w lo b c x s) (hph : s.ph = 0) (hjs : s.js = 0) (hvw : s.vw = .slice none 0 0) (hn0 : 0 ≤ c.n) (hn1 : c.n ≤ 64) :
    Calls Tryz.prog 21 #[.pointer (some ⟨b.N, 0, none⟩)] w (BootPost lo b c x s w) := by
  have hclk := h.clk
  have hjn := h.jn
  have hvws := h.vws
  rw [hph] at hclk
  rw [hjs] at hjn
  rw [hvw] at hvws
  have CA := Lib.hid (clockPhase hclk)
  have CB := Lib.hid (joinState hjn)
  have CC := Lib.hid (clockBoot hclk 0)
  have c35 := h.box.cell 35 _ rfl
  have c44 := h.box.cell 44 _ rfl
  have H := Lib.hid (And.intro h (And.intro hjn hvws))
  have HN := Lib.hid (And.intro hn0 hn1)
  obtain ⟨N, hN⟩ : ∃ N, b.N = N := ⟨_, rfl⟩
  obtain ⟨ck, hck⟩ : ∃ ck, b.clk = ck := ⟨_, rfl⟩
  obtain ⟨jn, hjn2⟩ : ∃ jn, b.jn = jn := ⟨_, rfl⟩
  have HE := Lib.hid (And.intro hN (And.intro hck hjn2))
  rw [hN, hck] at c35
  rw [hN, hjn2] at c44
  rw [hck] at CA CC
  rw [hjn2] at CB
  rw [hN]
  clear h hclk hjn hvws hph hjs hvw hN hck hjn2 hn0 hn1
  go_enter Tryz.func21, Tryz.ntmps21
  go_wp2_with fail
  refine CA.out.mono ?_
  rintro e w' ⟨rfl, rfl⟩
  go_wp2_with fail
  refine CB.out.mono ?_
  rintro e w' ⟨rfl, rfl⟩
  go_wp2_with fail
  refine CC.out.mono ?_
  rintro e w1 ⟨rfl, k1, F1⟩
  rw [← HE.out.2.1] at k1 F1
  have HO := H.out.1.ord
  have k1j := F1.box H.out.2.1 (by simp) (by have := HO.o4; have := HO.o5; have := HO.o6; have := HO.o7; have := HO.o8; have := HO.o9; have := HO.o10; have := HO.o11; have := HO.o12; have := HO.o13; have := HO.o14; have := HO.o15; omega)
  have n1 : NdBox w1 b c x := H.out.1.box.kept (F1.block _ H.out.1.box.lt (by have := HO.o2; have := HO.o3; omega))
  have d44 := n1.cell 44 _ rfl
  rw [HE.out.1, HE.out.2.2] at d44
  have CD := joinBoot k1j
  rw [HE.out.2.2] at CD
  have CD := Lib.hid CD
  have H1 := Lib.hid (And.intro k1 (And.intro F1 n1))
  clear k1 F1 k1j n1 HO c35 c44
  go_wp2_with fail
  refine CD.out.mono ?_
  rintro e w2 ⟨rfl, k2, F2⟩
  rw [← HE.out.2.2] at k2 F2
  have n2 : NdBox w2 b c x := H1.out.2.2.kept (F2.block _ H1.out.2.2.lt (by have HO := H.out.1.ord; have := HO.o2; have := HO.o3; have := HO.o4; have := HO.o5; have := HO.o6; have := HO.o7; have := HO.o8; have := HO.o9; have := HO.o10; have := HO.o11; have := HO.o12; have := HO.o13; have := HO.o14; have := HO.o15; omega))
  have CE := nodeOpen n2 1
  rw [HE.out.1] at CE
  have CE := Lib.hid CE
  have H2 := Lib.hid (And.intro k2 (And.intro F2 n2))
  clear k2 F2 n2 d44
  go_wp2_with fail
  refine CE.out.mono ?_
  rintro e w3 ⟨rfl, r, m, n3, k3, m3, u1, u2, u3, F3⟩
  have CL := Lib.hid (fun W => (nodesAll c.n (by have := HN.out.1; omega) (by have := HN.out.2; omega) W).mono fun _ _ h => And.intro h.1 h.2.symm)
  have d0 := n3.cell 0 _ rfl
  have d46 := n3.cell 46 _ rfl
  have d47 := n3.cell 47 _ rfl
  have d48 := n3.cell 48 _ rfl
  have d117 := n3.cell 117 _ rfl
  have f46 := n3.fz 46 (by decide)
  have f47 := n3.fz 47 (by decide)
  have f48 := n3.fz 48 (by decide)
  have f117 := n3.fz 117 (by decide)
  have q1 := n3.putA (x' := { x with rnd := pB r, sent := false, last := allN c.n }) 46 (.int .u64 (allN c.n : Int)) (by decide) rfl rfl rfl rfl rfl
  have q2 := q1.putA (x' := { x with rnd := pB r, sent := false, last := allN c.n, view := 1 }) 47 (.int .i64 1) (by decide) rfl rfl rfl rfl rfl
  have q3 := q2.putA (x' := { x with rnd := pB r, sent := false, last := allN c.n, view := 1, att := 1 }) 48 (.int .i64 1) (by decide) rfl rfl rfl rfl rfl
  have q4 : NdBox _ b c (bootV c x r) := q3.putB (x' := bootV c x r) 0 (.bool true) (by decide) rfl rfl rfl rfl rfl
  have F4 : FrB b.N w3 _ := (((FrB.set w3 b.N 46 (.int .u64 (allN c.n : Int))).trans (FrB.set _ b.N 47 (.int .i64 1))).trans (FrB.set _ b.N 48 (.int .i64 1))).trans (FrB.set _ b.N 117 (.bool true))
  have e117 : 117 + 0 = 117 := rfl
  rw [e117] at q4
  have H3 := Lib.hid (And.intro k3 (And.intro m3 (And.intro u1 (And.intro u2 (And.intro u3 F3)))))
  obtain ⟨w4, hw4⟩ : ∃ w4, (((w3.setCell ⟨b.N, 46, none⟩ (.int .u64 (allN c.n : Int))).setCell ⟨b.N, 47, none⟩ (.int .i64 1)).setCell ⟨b.N, 48, none⟩ (.int .i64 1)).setCell ⟨b.N, 117, none⟩ (.bool true) = w4 := ⟨_, rfl⟩
  rw [hw4] at q4 F4
  have H4 := Lib.hid (And.intro q4 F4)
  have d45 := q4.cell 45 _ rfl
  have e46 : w4.cell? ⟨b.N, 46, none⟩ = some (.int .u64 (allN c.n : Int)) := q4.cell 46 _ rfl
  rw [HE.out.1] at d0 d46 d47 d48 d117 f46 f47 f48 f117 hw4 d45 e46
  clear q1 q2 q3 q4 F4 k3 m3 u1 u2 u3 F3 n3 e117
  have hvl : BoxF w4 b.vws [.slice none 0 0] := by
    have HO := H.out.1.ord
    have := HO.o2; have := HO.o3; have := HO.o4; have := HO.o5; have := HO.o6; have := HO.o7; have := HO.o8; have := HO.o9; have := HO.o10; have := HO.o11; have := HO.o12; have := HO.o13; have := HO.o14; have := HO.o15; have := HO.o16
    exact H4.out.2.box (H3.out.2.2.2.2.2.box (H2.out.2.1.box (H1.out.2.1.box H.out.2.2 (by simp) (by omega)) (by simp) (by omega)) (by simp) (by omega)) (by simp) (by omega)
  obtain ⟨al, hal⟩ : ∃ al, allN c.n = al := ⟨_, rfl⟩
  have HA := Lib.hid hal
  rw [hal] at CL hw4 e46
  obtain ⟨cn, hcn⟩ : ∃ cn, c.n = cn := ⟨_, rfl⟩
  rw [hcn] at CL d0
  obtain ⟨vw, hvw⟩ : ∃ vw, b.vws = vw := ⟨_, rfl⟩
  rw [hvw] at hvl d45
  have HW := Lib.hid hvw
  have hNv : N ≠ vw := by
    have HO := H.out.1.ord
    have := HO.o2; have := HO.o3; have := HO.o4; have := HO.o5; have := HO.o6; have := HO.o7; have := HO.o8; have := HO.o9; have := HO.o10; have := HO.o11; have := HO.o12; have := HO.o13; have := HO.o14; have := HO.o15; have := HO.o16
    have e1 := HE.out.1
    omega
  have CI := viewInstall0 (w := w4.drew) (hvl.keep (show Below w4.heap.size w4 w4.drew from (Below.refl _ _).drew)) 0 0 (al : Int)
  have CI := Lib.hid CI
  have HV := Lib.hid (And.intro hvl (And.intro d45 (And.intro e46 (And.intro hNv (H4.out.1.lt)))))
  clear hal hcn hvw hvl d45 e46 hNv
  go_wp2_with fail
  refine (CL.out _).mono ?_
  rintro e w' ⟨rfl, rfl⟩
  go_wp2_with fail
  refine wp_region_perm [] [0, 1, 2, 3, 4, 5, 6, 7, 8, 9, 10] [11] 12 16 (fun W => W.cell? ⟨N, 45, none⟩ = some (pB vw) ∧ W.cell? ⟨N, 46, none⟩ = some (.int .u64 (al : Int))) (by kernel_rfl) (by kernel_rfl) (by intro c a t v w h; exact h) ⟨HV.out.2.1, HV.out.2.2.1⟩ ?_
  simp only [pickL, List.drop_succ_cons, List.drop_zero, List.head?_cons, Option.toList_some, List.cons_append, List.nil_append]
  refine wpHead_nil ?_
  iterate 11 (refine wpHead_step _ (by rfl) (by rintro W ⟨z45, z46⟩; go_simp; with_reducible rfl) ?_; simp only [Act.put, List.setIfInBounds_toArray, List.set_cons_zero, List.set_cons_succ])
  refine wpHead_nil ?_
  refine ⟨by rfl, ?_⟩
  go_simp
  go_at_call 78
  refine CI.out.mono ?_
  rintro e w5 ⟨rfl, R, cap, k5, c5, u4, u5, hcap, F5⟩
  have HF : Hid (BootPost lo b c x s w (.returned (.int .i64 0)) w5) := by
    rw [← HA.out] at c5
    rw [← HW.out] at k5 F5
    have F5' : FrB b.vws w4 w5 := (FrB.of (show Below w4.heap.size w4 w4.drew from (Below.refl _ _).drew)).trans F5
    exact boot_done H.out.1 H1.out.1 H1.out.2.1 H2.out.1 H2.out.2.1 H3.out.1 H3.out.2.1 H3.out.2.2.1 H3.out.2.2.2.1 H3.out.2.2.2.2.1 H3.out.2.2.2.2.2 H4.out.1 H4.out.2 k5 c5 u4 u5 F5'
  have hS : w5.cell? ⟨N, 45, none⟩ = some (pB vw) ∧ w5.cell? ⟨N, 46, none⟩ = some (.int .u64 (al : Int)) := by
    have hl := HV.out.2.2.2.2
    rw [HE.out.1] at hl
    have hb := F5.block N hl HV.out.2.2.2.1
    exact ⟨(cell_sm hb).trans HV.out.2.1, (cell_sm hb).trans HV.out.2.2.1⟩
  refine ⟨hS, ?_⟩
  refine wpMid_nil ?_
  clear k5 c5 u4 u5 hcap F5 hS
  go_wp2
  go_ret
  exact HF.out
end Go.Proofs.YteahiphmhaedpaaGreatDoor
