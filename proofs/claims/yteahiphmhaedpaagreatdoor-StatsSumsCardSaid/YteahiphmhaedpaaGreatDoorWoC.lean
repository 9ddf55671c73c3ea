/- world.New: a cluster is made. -/
import Derived.Test.YteahiphmhaedpaaGreatDoorWoX
import Derived.Test.YteahiphmhaedpaaGreatDoorCfF
import Derived.Test.YteahiphmhaedpaaGreatDoorLnk
import Derived.Test.YteahiphmhaedpaaGreatDoorNdW
import Derived.Deep.AppendLies
import Derived.Lib.SliceRun
namespace Go.Proofs.YteahiphmhaedpaaGreatDoor
open Go.RowKit Law
set_option linter.unusedVariables false
set_option linter.unusedSimpArgs false
set_option maxRecDepth 100000

def LnkPost (l : Nat) (L : List Pr) (w : World) (e : Ending) (w' : World) : Prop := ∃ g cp, e = .returned (.slice (some ⟨g, 0, none⟩) l cp) ∧ LinksAt w' (some ⟨g, 0, none⟩) L ∧ w.heap.size ≤ g ∧ g < w'.heap.size ∧ Below w.heap.size w w'
set_option maxHeartbeats 1600000 in
theorem lnkClone (A : Option Addr) (l k : Nat) (L : List Pr) (hl : L.length = l) (h0 : 0 < l) (hm : l ≤ 4000000) (w : World) (hA : LinksAt w A L) :
    Calls Tryz.prog 18 #[.slice A l k] w (LnkPost l L w) := by
  obtain ⟨i0, hi, hz0, hz1, hz2⟩ := info_parts prInfo
  obtain ⟨b, off, rfl, -, -⟩ := hA 0 _ (List.getElem?_eq_getElem (by omega))
  have h00 := World.ownsRow_made (base := w.heap.size) (e := 58) (size := 2) w #[] 0 (Nat.le_refl _) (by simp [maxLen]) rfl
  have hb0 : Below w.heap.size w (w.alloc (.cells #[] 58)) := (Below.refl _ _).alloc (Nat.le_refl _) _
  have HA0 := Lib.hid (hA.below hb0)
  have HN := Lib.hid (And.intro hl (And.intro h0 hm))
  have hq : ∀ W, (binOp .eql 30 (.slice (some ⟨b, off, none⟩) l k) (.slice none 0 0)).run Tryz.prog W = .ok (.bool false) W := fun W => Lib.run_eql_slice_nil W _ _ (some _) l k 0 0 Tryz.underlying30
  clear hl h0 hm hA
  go_enter Tryz.func18, Tryz.ntmps18
  go_wp2_with (at_builtin; refine wpList_append_copy _ rfl _ _ 30 rfl w.heap.size 58 i0 _ 2 16 Tryz.underlying30 hi hz0 hz1 hz2 rfl (by decide) _ _ _ rfl h00 (some ⟨b, off, none⟩) l k (flatP L) rfl ?c0 ?c1 ?c2 ?c3 ?c4 ?c5 ?c6 ?_)
  case c0 => intro hx; cases hx
  case c1 => rw [flatP_len, HN.out.1]
  case c2 => exact HA0.out.flat
  case c3 => exact flatP_one
  case c4 => have := HN.out; unfold maxLen; omega
  case c5 => have := HN.out; omega
  case c6 => simp
  intro v' w3 row hown hgrow hrow
  have hb3 : Below w.heap.size w w3 := hb0.grown hgrow (by simp) hrow
  have hown : w3.ownsRow w.heap.size 58 2 v' l (flatP L) := by simpa using hown
  have hex : ∃ g cap, v' = .slice (some ⟨g, 0, none⟩) l cap := by
    rcases hown.2 with ⟨_, h0⟩ | ⟨g, cap, cur, hv, _⟩
    · have := HN.out; omega
    · exact ⟨g, cap, hv⟩
  obtain ⟨g, cap, hv⟩ := hex
  rw [hv] at hown ⊢
  have HF : Hid (LnkPost l L w (.returned (.slice (some ⟨g, 0, none⟩) l cap)) w3) := ⟨g, cap, rfl, ownLinks hown, own_base hown g 0 rfl, (hown.lt g rfl).2, hb3⟩
  clear hown hgrow hrow hb3 hb0 h00 hv hq
  go_wp2
  go_ret
  exact HF.out
/-- A cluster while it is made. -/
structure WdIn (w : World) (base W : Nat) (c : Cn) (A : Option Addr) (l k : Nat) (v : Value) (ps : List PlV) (air : Nat) : Prop where
  box : BoxF w W (wdL c A l k 0 v air (.slice none 0 0) 0)
  own : w.ownsRow (W + 1) 76 1 v ps.length (ps.map fun p => pB p.P)
  airb : BoxF w air [.slice none 0 0, .int .i64 (min (max c.fly 0) 65536), .int .u64 0]
  pl : ∀ (i : Nat) (p : PlV), ps[i]? = some p → PlAt w c p
  apart : ∀ (i j : Nat) (p q : PlV), i < j → ps[i]? = some p → ps[j]? = some q → p.hi ≤ q.lo
  oW : ∀ (i : Nat) (p : PlV), ps[i]? = some p → W < p.lo
  oA : ∀ (i : Nat) (p : PlV), ps[i]? = some p → air < p.lo
  oR : ∀ (i : Nat) (p : PlV), ps[i]? = some p → ∀ r, v.ownBlock = some r → r < p.lo ∨ p.hi ≤ r
  rW : ∀ r, v.ownBlock = some r → r ≠ W ∧ r ≠ air
  nWA : W ≠ air
  bW : base ≤ W
  bA : base ≤ air
theorem ownsRow_sm {w w' : World} {base size n g cap : Nat} {e : TypeId} {xs : List Value} (h : w.ownsRow base e size (.slice (some ⟨g, 0, none⟩) n cap) n xs) (hb : w'.heap[g]? = w.heap[g]?) : w'.ownsRow base e size (.slice (some ⟨g, 0, none⟩) n cap) n xs := by
  refine ⟨h.1, ?_⟩
  rcases h.2 with ⟨h1, _⟩ | ⟨g', cap', cur, hv, hbs, hc, rest⟩
  · cases h1
  · injection hv with h1 h2 h3
    injection h1 with h1
    injection h1 with h1
    subst h1
    subst h3
    exact .inr ⟨_, _, cur, rfl, hbs, hb.trans hc, rest⟩
theorem WdIn.below {w w' : World} {base W : Nat} {c : Cn} {A : Option Addr} {l k : Nat} {v : Value} {ps : List PlV} {air : Nat} (h : WdIn w base W c A l k v ps air) (hb : Below w.heap.size w w') : WdIn w' base W c A l k v ps air :=
  { h with box := h.box.keep hb, own := ownsRow_kept h.own hb, airb := h.airb.keep hb, pl := fun i p hp => (h.pl i p hp).below hb }
theorem ownB_lt {w : World} {base size n : Nat} {e : TypeId} {v : Value} {xs : List Value} (h : w.ownsRow base e size v n xs) {r : Nat} (hr : v.ownBlock = some r) : r < w.heap.size := (h.lt r hr).2
/-- One place more. -/
theorem WdIn.snoc {w0 x5 x6 : World} {base W : Nat} {c : Cn} {A : Option Addr} {l k : Nat} {v : Value} {ps : List PlV} {air : Nat} (h : WdIn w0 base W c A l k v ps air) (hb : Below w0.heap.size w0 x5) (p : PlV) (hp : PlAt x5 c p) (hlo : w0.heap.size ≤ p.lo) {g cap : Nat} (hgrow : x5.grownBy x6 v.ownBlock)
    (hown : x6.ownsRow (W + 1) 76 1 (.slice (some ⟨g, 0, none⟩) (ps.length + 1) cap) (ps.length + 1) ((ps.map fun p => pB p.P) ++ [pB p.P])) (hat : v.ownBlock = some g ∨ g = x5.heap.size) :
    WdIn (x6.setCell ⟨W, 16, none⟩ (.slice (some ⟨g, 0, none⟩) (ps.length + 1) cap)) base W c A l k (.slice (some ⟨g, 0, none⟩) (ps.length + 1) cap) (ps ++ [p]) air := by
  have hWlt : W < w0.heap.size := h.box.lt (by unfold wdL; simp)
  have hAlt : air < w0.heap.size := h.airb.lt (by simp)
  have hsz := hb.size
  have hr : ∀ r, v.ownBlock = some r → r < w0.heap.size ∧ r ≠ W ∧ r ≠ air := fun r hr => ⟨ownB_lt h.own hr, h.rW r hr⟩
  have hgW : g ≠ W ∧ g ≠ air := by
    rcases hat with h1 | h1
    · exact ⟨(hr g h1).2.1, (hr g h1).2.2⟩
    · omega
  have hk : ∀ q, q < x5.heap.size → v.ownBlock ≠ some q → q ≠ W → (x6.setCell ⟨W, 16, none⟩ (.slice (some ⟨g, 0, none⟩) (ps.length + 1) cap)).heap[q]? = x5.heap[q]? := fun q h1 h2 h3 =>
    (Below.heap_setCell _ _ _ q h3).trans (hgrow.block q h1 (fun e => h2 e.symm))
  have hset : (x6.setCell ⟨W, 16, none⟩ (.slice (some ⟨g, 0, none⟩) (ps.length + 1) cap)).heap.size = x6.heap.size := by simp
  have hs6 : x5.heap.size ≤ (x6.setCell ⟨W, 16, none⟩ (.slice (some ⟨g, 0, none⟩) (ps.length + 1) cap)).heap.size := by rw [hset]; exact hgrow.size
  have hb5 := h.box.keep hb
  have hb6 := hb5.same (hgrow.block W (by omega) (fun e => (hr W e.symm).2.1 rfl))
  have hget : ∀ (i : Nat) (q : PlV), (ps ++ [p])[i]? = some q → (i < ps.length ∧ ps[i]? = some q) ∨ (i = ps.length ∧ q = p) := fun i q hq => by
    rcases Nat.lt_or_ge i ps.length with h1 | h1
    · rw [List.getElem?_append_left h1] at hq; exact .inl ⟨h1, hq⟩
    · rw [List.getElem?_append_right h1] at hq
      have : i - ps.length = 0 := by
        rcases Nat.eq_zero_or_pos (i - ps.length) with h2 | h2
        · exact h2
        · rw [List.getElem?_eq_none (by simp; omega)] at hq; cases hq
      rw [this] at hq
      exact .inr ⟨by omega, (Option.some.inj hq).symm⟩
  have htop : ∀ (i : Nat) (q : PlV), ps[i]? = some q → q.hi ≤ w0.heap.size := fun i q hq => (h.pl i q hq).top
  have hptop := hp.top
  refine ⟨hb6.put 16 (by unfold wdL; simp) _, ?_, ?_, ?_, ?_, ?_, ?_, ?_, ?_, h.nWA, h.bW, h.bA⟩
  · rw [List.length_append, List.length_singleton, List.map_append]
    exact ownsRow_sm hown (Below.heap_setCell _ _ _ g hgW.1)
  · exact (h.airb.keep hb).same (hk air (by omega) (fun e => (hr air e).2.2 rfl) (Ne.symm h.nWA))
  · intro i q hq
    rcases hget i q hq with ⟨h1, h2⟩ | ⟨h1, rfl⟩
    · have o1 := h.oR i q h2
      have o2 := h.oW i q h2
      have o3 := htop i q h2
      exact ((h.pl i q h2).below hb).kept hs6 (fun z z1 z2 => hk z (by omega) (fun e => by have := o1 z e; omega) (by omega))
    · exact hp.kept hs6 (fun z z1 z2 => hk z (by omega) (fun e => by have := (hr z e).1; omega) (by omega))
  · intro i j q q2 hlt hq hq2
    rcases hget i q hq with ⟨h1, h2⟩ | ⟨h1, rfl⟩ <;> rcases hget j q2 hq2 with ⟨h3, h4⟩ | ⟨h3, h4⟩
    · exact h.apart i j q q2 hlt h2 h4
    · subst h4; have := htop i q h2; omega
    · omega
    · omega
  · intro i q hq
    rcases hget i q hq with ⟨h1, h2⟩ | ⟨h1, rfl⟩
    · exact h.oW i q h2
    · omega
  · intro i q hq
    rcases hget i q hq with ⟨h1, h2⟩ | ⟨h1, rfl⟩
    · exact h.oA i q h2
    · omega
  · intro i q hq r hr2
    have hrg : r = g := (Option.some.inj hr2).symm
    subst hrg
    rcases hget i q hq with ⟨h1, h2⟩ | ⟨h1, rfl⟩
    · rcases hat with h3 | h3
      · exact h.oR i q h2 _ h3
      · have := htop i q h2; omega
    · rcases hat with h3 | h3
      · have := (hr _ h3).1; omega
      · omega
  · intro r hr2
    have hrg : r = g := (Option.some.inj hr2).symm
    subst hrg
    exact hgW
/-- The places of a new cluster. -/
def FreshP (p : PlV) : Prop := p.at_ = 0 ∧ p.downs = 0 ∧ ∃ n, p.nd = some n
def IdleC (c : Cn) : Prop := 0 < c.round ∧ c.round ≤ 1152921504606846976 ∧ 0 ≤ c.window ∧ c.window ≤ 1152921504606846976 ∧ 0 < perEvery c.attend
def WNewPost (c : Cn) (l : Nat) (L : List Pr) (w : World) (e : Ending) (w' : World) : Prop := ∃ W g cp R cap ps air, e = .returned (.tuple #[pB W, .int .i64 0]) ∧ WdAt w' w.heap.size W c (some ⟨g, 0, none⟩) l cp 0 R cap ps air (.slice none 0 0) 0 ∧ (ps.length : Int) = c.n ∧ (∀ p ∈ ps, FreshP p) ∧ LinksAt w' (some ⟨g, 0, none⟩) L ∧ Below w.heap.size w w'
theorem lnk_same {w w' : World} {g : Nat} {L : List Pr} (h : LinksAt w (some ⟨g, 0, none⟩) L) (hs : w.heap.size ≤ w'.heap.size) (hb : w'.heap[g]? = w.heap[g]?) : LinksAt w' (some ⟨g, 0, none⟩) L := fun k e he => by
  obtain ⟨b, off, hA, hlt, hc⟩ := h k e he
  obtain ⟨rfl, rfl⟩ : g = b ∧ 0 = off := by injection hA with hA; injection hA with h1 h2; exact ⟨h1, h2⟩
  exact ⟨g, 0, rfl, Nat.lt_of_lt_of_le hlt hs, fun j v hj => (cell_sm hb).trans (hc j v hj)⟩
theorem ndOk_new {w : World} {lo : Nat} {b : NdO} {c : Cn} {id : Int} {near r m R cap lo' hi P hd : Nat} (h : NodeAt w lo b c (bootV c (nv0 id 0 near) r) (bootS ns0 R cap)) (hr : BoxF w r [.int .i64 1, .map (some m)]) (hv : BoxAt w R [.int .i64 0, .int .i64 0, .int .u64 (allN c.n : Int)]) (h1 : b.pie < m) (h2 : m < r) (h3 : r < R) (h4 : R < P) (h5 : R < hd) (hI : IdleC c) (hlo : lo' ≤ lo) (downs : Int) :
    NdOk w c ⟨lo', hi, P, hd, some ⟨lo, b, bootV c (nv0 id 0 near) r, bootS ns0 R cap, r, .map (some m), R, cap⟩, 0, downs⟩ ⟨lo, b, bootV c (nv0 id 0 near) r, bootS ns0 R cap, r, .map (some m), R, cap⟩ := by
  obtain ⟨i0, i1, i2, i3, i4⟩ := hI
  exact { idle := { nd := h, ph := rfl, rnd := rfl, rb := hr, c0 := by omega, c1 := i1, cw := i2, cw1 := i3, a0 := Int.le_refl 0, a1 := i0, a2 := i4, sent := rfl, view := rfl, att := rfl, js := rfl, known := rfl }, l0 := hlo, l1 := by show b.pie < r; omega, l2 := h3, l3 := h4, l4 := h5, ev := rfl, cnt := rfl, left := rfl, at_ := rfl, hard := rfl, vw := rfl, vr := hv, jc := rfl }
def NewRel (base W g cp : Nat) (c : Cn) (l : Nat) (L : List Pr) (air C0 j : Nat) (w wr : World) : Prop := ∃ (ps : List PlV) (v : Value), ps.length = j ∧ WdIn wr base W c (some ⟨g, 0, none⟩) l cp v ps air ∧ (∀ p ∈ ps, FreshP p) ∧ LinksAt wr (some ⟨g, 0, none⟩) L ∧ BoxF wr C0 (c.cells (some ⟨g, 0, none⟩) l cp) ∧ Below base w wr
theorem plInfo : (Tryz.prog.info? 76).map (fun i => (i.zero, i.size, i.bytes)) = some (some (.pointer none), 1, 8) := by kernel_rfl
set_option maxHeartbeats 12800000 in
theorem wNewOk (c : Cn) (A : Option Addr) (l k : Nat) (L : List Pr) (hl : L.length = l) (h0 : 0 < l) (hfit : ∀ x ∈ L, PrF x) (hm : l ≤ 4000000) (h9 : gErr c.n L = 0 → c.n < 9) (hF : faultN c L = 0) (hE : ∀ i : Int, 0 ≤ i → i < c.n → newErr c L i = 0) (hn : 0 < c.n) (hn9 : c.n ≤ 64) (hI : IdleC c) (w : World) (hA : LinksAt w A L) (hT : T64 w) :
    Calls Tryz.prog 8 #[.agg (c.cells A l k).toArray] w (WNewPost c l L w) := by
  obtain ⟨i0, hi, hz0, hz1, hz2⟩ := info_parts plInfo
  have HP : Hid (∀ e w', (∃ W g cp R cap ps air, e = .returned (.tuple #[pB W, .int .i64 0]) ∧ WdAt w' w.heap.size W c (some ⟨g, 0, none⟩) l cp 0 R cap ps air (.slice none 0 0) 0 ∧ (ps.length : Int) = c.n ∧ (∀ p ∈ ps, FreshP p) ∧ LinksAt w' (some ⟨g, 0, none⟩) L ∧ Below w.heap.size w w') → WNewPost c l L w e w') := fun _ _ h => h
  have HCC := Lib.hid (fun (W : World) (hA : LinksAt W A L) (hT : T64 W) => cCheck c A l k L hl hfit (by omega) h9 W hA hT)
  rw [hF, if_pos rfl] at HCC
  have HCL := Lib.hid (fun (W : World) (hA : LinksAt W A L) => lnkClone A l k L hl h0 hm W hA)
  have HCN := Lib.hid (fun (g cp : Nat) (i : Int) (W : World) (hW : LinksAt W (some ⟨g, 0, none⟩) L) => nodeNew c (some ⟨g, 0, none⟩) l cp L hl hfit (by omega) i 0 W hW)
  have HE := Lib.hid hE
  have HI := Lib.hid hI
  have HN := Lib.hid (And.intro (Int.le_of_lt hn) hn9)
  have HPOS := Lib.hid hn
  clear hl h0 hfit hm h9 hF hE hI hn hn9
  obtain ⟨n, f, dmin, dmax, rho, slew, round, window, attend, seen, hist, fly, quota, body⟩ := c
  obtain ⟨nn, hnn⟩ : ∃ nn : Nat, n = (nn : Int) := ⟨n.toNat, by have := HN.out.1; simp only at this; omega⟩
  have HNN := Lib.hid hnn
  have hnn64 : (nn : Int) ≤ 64 := by have h2 : n ≤ 64 := HN.out.2; omega
  simp only [Cn.cells] at HCC HCN ⊢
  have k0 := boxF_made w [.int .i64 n, .slice A l k, .int .i64 f, .int .i64 dmin, .int .i64 dmax, .int .i64 rho, .int .i64 slew, .int .i64 round, .int .i64 window, .int .i64 attend, .int .i64 seen, .int .i64 hist, .int .i64 fly, .int .i64 quota, .int .i64 body] 32
  have k1 := (Below.refl w.heap.size w).alloc (Nat.le_refl _) (.cells #[.int .i64 n, .slice A l k, .int .i64 f, .int .i64 dmin, .int .i64 dmax, .int .i64 rho, .int .i64 slew, .int .i64 round, .int .i64 window, .int .i64 attend, .int .i64 seen, .int .i64 hist, .int .i64 fly, .int .i64 quota, .int .i64 body] 32)
  obtain ⟨w1, hw1⟩ : ∃ w1, w.alloc (.cells #[.int .i64 n, .slice A l k, .int .i64 f, .int .i64 dmin, .int .i64 dmax, .int .i64 rho, .int .i64 slew, .int .i64 round, .int .i64 window, .int .i64 attend, .int .i64 seen, .int .i64 hist, .int .i64 fly, .int .i64 quota, .int .i64 body] 32) = w1 := ⟨_, rfl⟩
  have hs1 : w1.heap.size = w.heap.size + 1 := by rw [← hw1]; simp
  rw [hw1] at k0 k1
  have d0_ := k0.1 0 _ rfl
  have d1_ := k0.1 1 _ rfl
  have d2_ := k0.1 2 _ rfl
  have d3_ := k0.1 3 _ rfl
  have d4_ := k0.1 4 _ rfl
  have d5_ := k0.1 5 _ rfl
  have d6_ := k0.1 6 _ rfl
  have d7_ := k0.1 7 _ rfl
  have d8_ := k0.1 8 _ rfl
  have d9_ := k0.1 9 _ rfl
  have d10_ := k0.1 10 _ rfl
  have d11_ := k0.1 11 _ rfl
  have d12_ := k0.1 12 _ rfl
  have d13_ := k0.1 13 _ rfl
  have d14_ := k0.1 14 _ rfl
  have H1 := Lib.hid (And.intro k0 (And.intro k1 (And.intro hs1 (And.intro (hA.below k1) (hT.below k1)))))
  clear k0 k1 hs1 hA hT hnn
  go_enter Tryz.func8, Tryz.ntmps8
  go_wp2_with fail
  clear d0_ d1_ d2_ d3_ d4_ d5_ d6_ d7_ d8_ d9_ d10_ d11_ d12_ d13_ d14_
  refine (HCC.out w1 H1.out.2.2.2.1 H1.out.2.2.2.2).mono ?_
  rintro e w2 ⟨rfl, hb2⟩
  have H2 := Lib.hid (And.intro (H1.out.1.keep hb2) (And.intro (H1.out.2.1.trans (hb2.mono H1.out.2.1.size)) (H1.out.2.2.2.1.below hb2)))
  have hx := H2.out.1
  have e1_ := hx.1 1 _ rfl
  clear hx hb2
  go_wp2_with fail
  clear e1_
  refine (HCL.out w2 H2.out.2.2).mono ?_
  rintro e w3 ⟨g, cp, rfl, hL3, hg3, hgl3, hb3⟩
  have q3 := H2.out.1.keep hb3
  have q4 := q3.put 1 (by simp) (.slice (some ⟨g, 0, none⟩) l cp)
  simp only [List.set_cons_succ, List.set_cons_zero] at q4
  have hlt0 : w.heap.size < w2.heap.size := H2.out.1.lt (by simp)
  have g1 := q3.1 1 _ rfl
  have f1 := q3.2 1 (by simp)
  have L4 := set_links (B := w.heap.size) (fun b off h => by injection h with h; injection h with h; omega) 1 (.slice (some ⟨g, 0, none⟩) l cp) hL3
  have B4 := (H2.out.2.1.trans (hb3.mono H2.out.2.1.size)).setCell (p := ⟨w.heap.size, 1, none⟩) (Nat.le_refl _) (.slice (some ⟨g, 0, none⟩) l cp)
  obtain ⟨w4, hw4⟩ : ∃ w4, w3.setCell ⟨w.heap.size, 1, none⟩ (.slice (some ⟨g, 0, none⟩) l cp) = w4 := ⟨_, rfl⟩
  rw [hw4] at q4 L4 B4
  have H4 := Lib.hid (And.intro q4 (And.intro L4 B4))
  have HD4 : Hid (Below w4.heap.size w4 w4.drew) := (Below.refl _ _).drew
  have HK4 : Hid (∀ W, Below w4.heap.size w4 W → BoxF W w.heap.size [.int .i64 n, .slice (some ⟨g, 0, none⟩) l cp, .int .i64 f, .int .i64 dmin, .int .i64 dmax, .int .i64 rho, .int .i64 slew, .int .i64 round, .int .i64 window, .int .i64 attend, .int .i64 seen, .int .i64 hist, .int .i64 fly, .int .i64 quota, .int .i64 body]) := fun W hW => H4.out.1.keep hW
  have hsz4 : w4.heap.size = w3.heap.size := by rw [← hw4]; simp
  have HG := Lib.hid (And.intro hg3 (And.intro hlt0 (show g < w4.heap.size from by omega)))
  clear q3 q4 L4 B4 hL3 hb3 hg3 hlt0 hgl3 hsz4
  go_wp2_with fail
  clear hw4 g1 f1
  refine wp_region_plan [] [(true, 0), (true, 1), (true, 2), (false, 3), (true, 4), (false, 5), (true, 6)] 7 12 (fun W => Below w4.heap.size w4 W) (by kernel_rfl) (by kernel_rfl) (by intro c a t v w h; exact h) HD4.out ?_
  simp only [pickB, pickL, List.drop_succ_cons, List.drop_zero, List.head?_cons, Option.toList_some, List.map_cons, List.map_nil, List.cons_append, List.nil_append]
  refine wpHead_nil ?_
  iterate 3 (refine wpPlan_rd _ (by rfl) (by intro W hW; have hk := HK4.out W hW; have z0 := hk.1 0 _ rfl; have z1 := hk.1 1 _ rfl; have z2 := hk.1 2 _ rfl; have z3 := hk.1 3 _ rfl; have z4 := hk.1 4 _ rfl; have z5 := hk.1 5 _ rfl; have z6 := hk.1 6 _ rfl; have z7 := hk.1 7 _ rfl; have z8 := hk.1 8 _ rfl; have z9 := hk.1 9 _ rfl; have z10 := hk.1 10 _ rfl; have z11 := hk.1 11 _ rfl; have z12 := hk.1 12 _ rfl; have z13 := hk.1 13 _ rfl; have z14 := hk.1 14 _ rfl; clear hk hW; go_simp; with_reducible rfl) ?_; simp only [Act.put, List.setIfInBounds_toArray, List.set_cons_zero, List.set_cons_succ])
  refine wpPlan_do (by rfl) ?_
  go_simp
  go_at_call 19
  refine (agNew fly _).mono ?_
  rintro e w5 ⟨rfl, hA5, hs5, hb5⟩
  have H5 := Lib.hid (And.intro hA5 (And.intro hs5 (HD4.out.trans (hb5.mono HD4.out.size))))
  clear hA5 hs5 hb5
  refine ⟨H5.out.2.2, ?_⟩
  iterate 1 (refine wpPlan_rd _ (by rfl) (by intro W hW; have hk := HK4.out W hW; have z0 := hk.1 0 _ rfl; have z1 := hk.1 1 _ rfl; have z2 := hk.1 2 _ rfl; have z3 := hk.1 3 _ rfl; have z4 := hk.1 4 _ rfl; have z5 := hk.1 5 _ rfl; have z6 := hk.1 6 _ rfl; have z7 := hk.1 7 _ rfl; have z8 := hk.1 8 _ rfl; have z9 := hk.1 9 _ rfl; have z10 := hk.1 10 _ rfl; have z11 := hk.1 11 _ rfl; have z12 := hk.1 12 _ rfl; have z13 := hk.1 13 _ rfl; have z14 := hk.1 14 _ rfl; clear hk hW; go_simp; with_reducible rfl) ?_; simp only [Act.put, List.setIfInBounds_toArray, List.set_cons_zero, List.set_cons_succ])
  have k6 : BoxF (w5.alloc (.cells #[.int .i64 n, .slice (some ⟨g, 0, none⟩) l cp, .int .i64 f, .int .i64 dmin, .int .i64 dmax, .int .i64 rho, .int .i64 slew, .int .i64 round, .int .i64 window, .int .i64 attend, .int .i64 seen, .int .i64 hist, .int .i64 fly, .int .i64 quota, .int .i64 body, .int .i64 0, .slice none 0 0, .slice none 0 0, .pointer (some ⟨w4.heap.size, 0, none⟩), .slice none 0 0, .int .i64 0, .int .i64 0, .int .i64 0, .int .i64 0, .int .i64 0, .int .i64 0, .int .i64 0, .int .i64 0, .int .i64 0, .int .i64 0, .int .i64 0, .int .i64 0, .int .i64 0, .int .i64 0, .int .i64 0, .int .i64 0, .int .i64 0, .int .i64 0, .int .i64 0, .int .i64 0, .int .i64 0, .int .i64 0, .slice none 0 0, .slice none 0 0, .int .u64 0] 71)) w5.heap.size (wdL ⟨n, f, dmin, dmax, rho, slew, round, window, attend, seen, hist, fly, quota, body⟩ (some ⟨g, 0, none⟩) l cp 0 (.slice none 0 0) w4.heap.size (.slice none 0 0) 0) := boxF_made w5 (wdL ⟨n, f, dmin, dmax, rho, slew, round, window, attend, seen, hist, fly, quota, body⟩ (some ⟨g, 0, none⟩) l cp 0 (.slice none 0 0) w4.heap.size (.slice none 0 0) 0) 71
  have b6 := (Below.refl w5.heap.size w5).alloc (Nat.le_refl _) (.cells #[.int .i64 n, .slice (some ⟨g, 0, none⟩) l cp, .int .i64 f, .int .i64 dmin, .int .i64 dmax, .int .i64 rho, .int .i64 slew, .int .i64 round, .int .i64 window, .int .i64 attend, .int .i64 seen, .int .i64 hist, .int .i64 fly, .int .i64 quota, .int .i64 body, .int .i64 0, .slice none 0 0, .slice none 0 0, .pointer (some ⟨w4.heap.size, 0, none⟩), .slice none 0 0, .int .i64 0, .int .i64 0, .int .i64 0, .int .i64 0, .int .i64 0, .int .i64 0, .int .i64 0, .int .i64 0, .int .i64 0, .int .i64 0, .int .i64 0, .int .i64 0, .int .i64 0, .int .i64 0, .int .i64 0, .int .i64 0, .int .i64 0, .int .i64 0, .int .i64 0, .int .i64 0, .int .i64 0, .int .i64 0, .slice none 0 0, .slice none 0 0, .int .u64 0] 71)
  obtain ⟨w6, hw6⟩ : ∃ w6, w5.alloc (.cells #[.int .i64 n, .slice (some ⟨g, 0, none⟩) l cp, .int .i64 f, .int .i64 dmin, .int .i64 dmax, .int .i64 rho, .int .i64 slew, .int .i64 round, .int .i64 window, .int .i64 attend, .int .i64 seen, .int .i64 hist, .int .i64 fly, .int .i64 quota, .int .i64 body, .int .i64 0, .slice none 0 0, .slice none 0 0, .pointer (some ⟨w4.heap.size, 0, none⟩), .slice none 0 0, .int .i64 0, .int .i64 0, .int .i64 0, .int .i64 0, .int .i64 0, .int .i64 0, .int .i64 0, .int .i64 0, .int .i64 0, .int .i64 0, .int .i64 0, .int .i64 0, .int .i64 0, .int .i64 0, .int .i64 0, .int .i64 0, .int .i64 0, .int .i64 0, .int .i64 0, .int .i64 0, .int .i64 0, .int .i64 0, .slice none 0 0, .slice none 0 0, .int .u64 0] 71) = w6 := ⟨_, rfl⟩
  rw [hw6] at k6 b6
  have H6 : Hid (Below w4.heap.size w4 w6) := H5.out.2.2.trans (b6.mono H5.out.2.2.size)
  have HI6 : Hid (WdIn w6 w.heap.size w5.heap.size ⟨n, f, dmin, dmax, rho, slew, round, window, attend, seen, hist, fly, quota, body⟩ (some ⟨g, 0, none⟩) l cp (.slice none 0 0) [] w4.heap.size) := by
    have s4 := H4.out.2.2.size
    have s5 : w5.heap.size = w4.heap.size + 1 := H5.out.2.1
    exact ⟨k6, World.ownsRow_nil _ _ _ _, H5.out.1.keep b6, fun i p hp => by simp at hp, fun i j p q _ hp => by simp at hp, fun i p hp => by simp at hp, fun i p hp => by simp at hp, fun i p hp => by simp at hp, (fun r hr => by cases hr), by omega, by omega, s4⟩
  clear k6 b6
  refine wpPlan_do (by rfl) ?_
  go_simp
  refine ⟨H6.out, ?_⟩
  iterate 1 (refine wpPlan_rd _ (by rfl) (by intro W hW; have hk := HK4.out W hW; have z0 := hk.1 0 _ rfl; have z1 := hk.1 1 _ rfl; have z2 := hk.1 2 _ rfl; have z3 := hk.1 3 _ rfl; have z4 := hk.1 4 _ rfl; have z5 := hk.1 5 _ rfl; have z6 := hk.1 6 _ rfl; have z7 := hk.1 7 _ rfl; have z8 := hk.1 8 _ rfl; have z9 := hk.1 9 _ rfl; have z10 := hk.1 10 _ rfl; have z11 := hk.1 11 _ rfl; have z12 := hk.1 12 _ rfl; have z13 := hk.1 13 _ rfl; have z14 := hk.1 14 _ rfl; clear hk hW; go_simp; with_reducible rfl) ?_; simp only [Act.put, List.setIfInBounds_toArray, List.set_cons_zero, List.set_cons_succ])
  refine wpPlan_nil ?_
  clear hw6
  have HL6 : Hid (LinksAt w6 (some ⟨g, 0, none⟩) L ∧ BoxF w6 w.heap.size [.int .i64 n, .slice (some ⟨g, 0, none⟩) l cp, .int .i64 f, .int .i64 dmin, .int .i64 dmax, .int .i64 rho, .int .i64 slew, .int .i64 round, .int .i64 window, .int .i64 attend, .int .i64 seen, .int .i64 hist, .int .i64 fly, .int .i64 quota, .int .i64 body] ∧ Below w.heap.size w w6) := ⟨H4.out.2.1.below H6.out, H4.out.1.keep H6.out, H4.out.2.2.trans (H6.out.mono H4.out.2.2.size)⟩
  have hx := HL6.out.2.1
  have e0_ := hx.1 0 _ rfl
  clear hx
  go_wp2
  clear e0_
  rw [HNN.out]
  go_loopw [6, 7, 8, 26] (fun a1 a2 a3 i wr => ∃ j : Nat, j ≤ nn ∧ i = .int .i64 (j : Int) ∧ NewRel w.heap.size w5.heap.size g cp ⟨n, f, dmin, dmax, rho, slew, round, window, attend, seen, hist, fly, quota, body⟩ l L w4.heap.size w.heap.size j w wr) (fun _ _ _ i _ => nn - (intOf i).toNat)
  case atStart => exact ⟨0, Nat.zero_le _, rfl, [], .slice none 0 0, rfl, HI6.out, fun p hp => absurd hp List.not_mem_nil, HL6.out.1, HL6.out.2.1, HL6.out.2.2⟩
  case round =>
    obtain ⟨j, hj, rfl, ps, v, hlen, hI, hfr, hLk, hC0, hBB⟩ := hrel
    by_cases hlt : j < nn
    · have hltI : (j : Int) < (nn : Int) := by omega
      have HLN : Hid (ps.length ≤ 64) := by
        have h2 : n ≤ 64 := HN.out.2
        have h3 : n = (nn : Int) := HNN.out
        unfold Hid
        omega
      have H0 := Lib.hid (And.intro hI (And.intro hfr (And.intro hLk (And.intro hC0 hBB))))
      have c0_ := hC0.1 0 _ rfl
      have c1_ := hC0.1 1 _ rfl
      have c2_ := hC0.1 2 _ rfl
      have c3_ := hC0.1 3 _ rfl
      have c4_ := hC0.1 4 _ rfl
      have c5_ := hC0.1 5 _ rfl
      have c6_ := hC0.1 6 _ rfl
      have c7_ := hC0.1 7 _ rfl
      have c8_ := hC0.1 8 _ rfl
      have c9_ := hC0.1 9 _ rfl
      have c10_ := hC0.1 10 _ rfl
      have c11_ := hC0.1 11 _ rfl
      have c12_ := hC0.1 12 _ rfl
      have c13_ := hC0.1 13 _ rfl
      have c14_ := hC0.1 14 _ rfl
      have CN := HCN.out g cp (j : Int) wr hLk
      unfold NdPost at CN
      obtain ⟨near, hnear⟩ : ∃ near, (nearL (Cn.n ⟨n, f, dmin, dmax, rho, slew, round, window, attend, seen, hist, fly, quota, body⟩).toNat L).getD (j : Int).toNat 0 = near := ⟨_, rfl⟩
      rw [hnear] at CN
      have CN := Lib.hid CN
      clear hnear
      have HEj := Lib.hid (HE.out (j : Int) (by omega) (by have h3 : n = (nn : Int) := HNN.out; show (j : Int) < n; omega))
      have HLEN := Lib.hid hlen
      clear hI hfr hLk hC0 hBB hlen
      go_wp2_with fail
      clear c0_ c1_ c2_ c3_ c4_ c5_ c6_ c7_ c8_ c9_ c10_ c11_ c12_ c13_ c14_
      refine CN.out.mono ?_
      rintro e x1 ⟨hbx, hok, -⟩
      obtain ⟨b, rfl, hNd⟩ := hok HEj.out
      have C5 := Lib.hid (nodeBoot hNd rfl rfl rfl HN.out.1 HN.out.2)
      have HBX := Lib.hid hbx
      have hNdt : Hid (b.pie < x1.heap.size) := hNd.ord.o20
      clear hbx hok hNd
      go_wp2_with fail
      refine C5.out.mono ?_
      rintro e x2 ⟨rfl, r, m, RR, rcap, hN5, hr5, hm5, hR5, u1, u2, u3, u4, hb5⟩
      have HB02 : Hid (Below wr.heap.size wr x2) := HBX.out.trans hb5
      have HI2 := Lib.hid (H0.out.1.below HB02.out)
      have HB2 : Hid (Below w.heap.size w x2) := H0.out.2.2.2.2.trans (HB02.out.mono H0.out.2.2.2.2.size)
      have HNd := Lib.hid (And.intro hN5 (And.intro hr5 (And.intro hR5 (And.intro (Nat.lt_of_lt_of_le hNdt.out u1) (And.intro u2 (And.intro u3 u4))))))
      have HC16 : Hid (x2.cell? ⟨w5.heap.size, 16, none⟩ = some v) := HI2.out.box.1 16 _ rfl
      have HLT : Hid (w5.heap.size < x2.heap.size) := HI2.out.box.lt (by unfold wdL; simp)
      have C6 := rateNew0 x2.drew
      obtain ⟨hd, hhd⟩ : ∃ hd, x2.drew.heap.size = hd := ⟨_, rfl⟩
      rw [hhd] at C6
      have HHD : Hid (hd = x2.heap.size) := hhd.symm
      have C6 := Lib.hid C6
      clear hN5 hr5 hm5 hR5 u1 u2 u3 u4 hb5 hhd
      go_wp2_with fail
      refine wp_region_plan [] [(true, 0), (true, 1), (true, 2), (true, 3), (true, 4), (true, 5), (false, 6), (true, 7), (false, 8), (false, 9), (false, 10), (true, 11), (true, 12)] 13 12 (fun X => X.heap[w5.heap.size]? = x2.heap[w5.heap.size]?) (by kernel_rfl) (by kernel_rfl) (by intro c a t v w h; exact h) rfl ?_
      simp only [pickB, pickL, List.drop_succ_cons, List.drop_zero, List.head?_cons, Option.toList_some, List.map_cons, List.map_nil, List.cons_append, List.nil_append]
      refine wpHead_nil ?_
      iterate 6 (refine wpPlan_rd _ (by rfl) (by intro W hW; have z16 := (cell_sm (b := w5.heap.size) (o := 16) hW).trans HC16.out; clear hW; go_simp; with_reducible rfl) ?_; simp only [Act.put, List.setIfInBounds_toArray, List.set_cons_zero, List.set_cons_succ])
      refine wpPlan_do (by rfl) ?_
      go_simp
      go_at_call 22
      refine C6.out.mono ?_
      rintro e x3 ⟨rfl, hh3, hs3, hb3⟩
      replace hb3 : Below x2.heap.size x2 x3 := by
        rw [HHD.out] at hb3
        exact (show Below x2.heap.size x2 x2.drew from (Below.refl _ _).drew).trans hb3
      have H3 : Hid (BoxF x3 hd [.int .i64 0, .int .i64 0] ∧ Below x2.heap.size x2 x3 ∧ hd < x3.heap.size ∧ hd = x2.heap.size) := ⟨hh3, hb3, hh3.lt (by simp), HHD.out⟩
      have HS3 : Hid (x3.heap[w5.heap.size]? = x2.heap[w5.heap.size]?) := hb3.block _ HLT.out
      have k4 := boxF_made x3 [pB b.N, pB hd, .int .i64 0] 80
      have b4 := (Below.refl x3.heap.size x3).alloc (Nat.le_refl _) (.cells #[pB b.N, pB hd, .int .i64 0] 80)
      obtain ⟨x4, hx4⟩ : ∃ x4, x3.alloc (.cells #[pB b.N, pB hd, .int .i64 0] 80) = x4 := ⟨_, rfl⟩
      have hs4 : x4.heap.size = x3.heap.size + 1 := by rw [← hx4]; simp
      rw [hx4] at b4
      rw [show x3.alloc (.cells [pB b.N, pB hd, .int .i64 0].toArray 80) = x4 from hx4] at k4
      have H4' := Lib.hid (And.intro k4 (And.intro b4 hs4))
      have HS4 : Hid (x4.heap[w5.heap.size]? = x2.heap[w5.heap.size]?) := (b4.block _ (Nat.lt_of_lt_of_le HLT.out hb3.size)).trans HS3.out
      clear hh3 hs3 hb3 k4 b4 hs4
      refine ⟨HS3.out, ?_⟩
      iterate 1 (refine wpPlan_rd _ (by rfl) (by intro W hW; have z16 := (cell_sm (b := w5.heap.size) (o := 16) hW).trans HC16.out; clear hW; go_simp; with_reducible rfl) ?_; simp only [Act.put, List.setIfInBounds_toArray, List.set_cons_zero, List.set_cons_succ])
      refine wpPlan_do (by rfl) ?_
      go_simp
      refine ⟨HS4.out, ?_⟩
      obtain ⟨P, hP⟩ : ∃ P, x3.heap.size = P := ⟨_, rfl⟩
      rw [hP] at H4' ⊢
      have HP4 := Lib.hid hP
      clear hP hx4
      have b5 := (Below.refl x4.heap.size x4).alloc (Nat.le_refl _) (.cells #[pB P] 76)
      have h5n := heap_alloc_new x4 (.cells #[pB P] 76)
      obtain ⟨x5, hx5⟩ : ∃ x5, x4.alloc (.cells #[pB P] 76) = x5 := ⟨_, rfl⟩
      rw [hx5] at b5 h5n
      have H5' := Lib.hid (And.intro b5 h5n)
      have HS5 : Hid (x5.heap[w5.heap.size]? = x2.heap[w5.heap.size]?) := (b5.block _ (Nat.lt_of_lt_of_le HLT.out (Nat.le_trans H3.out.2.1.size H4'.out.2.1.size))).trans HS4.out
      have HB35 : Hid (Below x3.heap.size x3 x5) := (show Below x3.heap.size x3 x4 from HP4.out ▸ H4'.out.2.1).trans (b5.mono (by have := H4'.out.2.2; have := HP4.out; omega))
      have HB25 : Hid (Below x2.heap.size x2 x5) := H3.out.2.1.trans ((H4'.out.2.1.mono (by rw [← HP4.out]; exact H3.out.2.1.size)).trans (b5.mono (Nat.le_trans H3.out.2.1.size H4'.out.2.1.size)))
      clear b5 h5n
      refine wpPlan_do (by rfl) ?_
      go_simp
      refine ⟨HS5.out, ?_⟩
      clear hx5
      have HOW := Lib.hid (ownsRow_kept HI2.out.own HB25.out)
      refine wpPlan_do (by rfl) ?_
      refine wp_append_lies x5 _ _ 63 (by rfl) (w5.heap.size + 1) 76 i0 _ 1 8 Tryz.underlying63 hi hz0 hz1 hz2 rfl (by decide) v ps.length (ps.map fun p => pB p.P) (by rfl) HOW.out ⟨x4.heap.size, 0, none⟩ 1 1 [pB P] (by rfl) (by rfl) (World.news_of_block H5'.out.2) ?_ (by decide) (by have := HLN.out; unfold maxLen; omega) (by have := HLN.out; omega) (Nat.le_trans (Nat.succ_le_of_lt HLT.out) HB25.out.size) _ rfl ?_
      · intro u hu
        simp only [List.mem_cons, List.not_mem_nil, or_false] at hu
        subst hu; rfl
      intro gg cap x6 hown hgrow hat hlt6
      have HPL : Hid (PlAt x5 ⟨n, f, dmin, dmax, rho, slew, round, window, attend, seen, hist, fly, quota, body⟩ ⟨wr.heap.size, P + 1, P, hd, some ⟨wr.heap.size, b, bootV ⟨n, f, dmin, dmax, rho, slew, round, window, attend, seen, hist, fly, quota, body⟩ (nv0 (j : Int) 0 near) r, bootS ns0 RR rcap, r, .map (some m), RR, rcap⟩, 0, 0⟩) := by
        have hs3 := H3.out.2.2.2
        have hs4 := H3.out.2.2.1
        have hs0 := HB02.out.size
        have hP := HP4.out
        have b2 : Below x2.heap.size x2 x5 := HB25.out
        have kP : BoxF x5 P [pB b.N, pB hd, .int .i64 0] := H4'.out.1.keep H5'.out.1
        have kh : BoxF x5 hd [.int .i64 0, .int .i64 0] := H3.out.1.keep (HB35.out)
        exact { pb := kP, hb := kh, a0 := by show wr.heap.size ≤ P; omega, a1 := Nat.lt_succ_self _, b0 := by show wr.heap.size ≤ hd; omega, b1 := by show hd < P + 1; omega, ne := by show P ≠ hd; omega, t0 := Int.le_refl 0, top := by show P + 1 ≤ x5.heap.size; have := H4'.out.2.2; have := H5'.out.1.size; omega, nd := fun n' hn' => by
                  obtain rfl := Option.some.inj hn'
                  exact ndOk_new (HNd.out.1.keep b2) (HNd.out.2.1.keep b2) (HNd.out.2.2.1.keep b2) HNd.out.2.2.2.1 HNd.out.2.2.2.2.1 HNd.out.2.2.2.2.2.1 (by have := HNd.out.2.2.2.2.2.2; omega) (by have := HNd.out.2.2.2.2.2.2; omega) HI.out (Nat.le_refl _) 0 }
      have HB05 : Hid (Below wr.heap.size wr x5) := HB02.out.trans (HB25.out.mono HB02.out.size)
      have HN2 := Lib.hid (H0.out.1.snoc HB05.out _ HPL.out (Nat.le_refl _) hgrow hown hat)
      have HS6 : Hid (x6.heap[w5.heap.size]? = x2.heap[w5.heap.size]?) := (hgrow.block _ (Nat.lt_of_lt_of_le HLT.out HB25.out.size) (fun e => (HI2.out.rW _ e.symm).1 rfl)).trans HS5.out
      have HBG : Hid (Below w5.heap.size x5 x6) := ⟨hgrow.os, hgrow.tape, hgrow.output, hgrow.size, fun q hq => hgrow.block q (Nat.lt_of_lt_of_le hq (Nat.le_trans (Nat.le_of_lt HLT.out) HB25.out.size)) (fun e => by have := (HOW.out.lt q e.symm).1; omega)⟩
      have c16' := (cell_sm (b := w5.heap.size) (o := 16) HS6.out).trans HC16.out
      have f16' : x6.frozen? ⟨w5.heap.size, 16, none⟩ = false := (frozen_sm HS6.out).trans (HI2.out.box.2 16 (by unfold wdL; simp))
      clear hgrow hown hat hlt6
      refine ⟨HS6.out, ?_⟩
      iterate 2 (refine wpPlan_rd _ (by rfl) (by intro W hW; have z16 := (cell_sm (b := w5.heap.size) (o := 16) hW).trans HC16.out; clear hW; go_simp; with_reducible rfl) ?_; simp only [Act.put, List.setIfInBounds_toArray, List.set_cons_zero, List.set_cons_succ])
      refine wpPlan_nil ?_
      have HFIN : Hid (NewRel w.heap.size w5.heap.size g cp ⟨n, f, dmin, dmax, rho, slew, round, window, attend, seen, hist, fly, quota, body⟩ l L w4.heap.size w.heap.size (j + 1) w (x6.setCell ⟨w5.heap.size, 16, none⟩ (.slice (some ⟨gg, 0, none⟩) (ps.length + 1) cap))) := by
        have hB57 : Below w5.heap.size x5 (x6.setCell ⟨w5.heap.size, 16, none⟩ (.slice (some ⟨gg, 0, none⟩) (ps.length + 1) cap)) := HBG.out.setCell (p := ⟨w5.heap.size, 16, none⟩) (Nat.le_refl _) _
        have hB5 : Below w.heap.size w x5 := H0.out.2.2.2.2.trans (HB05.out.mono H0.out.2.2.2.2.size)
        have s5 : w5.heap.size = w4.heap.size + 1 := H5.out.2.1
        have s4 := H4.out.2.2.size
        have hg := HG.out
        refine ⟨_, _, by rw [List.length_append, List.length_singleton, HLEN.out], HN2.out, ?_, ?_, ?_, hB5.trans (hB57.mono (by omega))⟩
        · intro q hq
          rcases List.mem_append.1 hq with hq | hq
          · exact H0.out.2.1 q hq
          · simp only [List.mem_singleton] at hq
            subst hq
            exact ⟨rfl, rfl, _, rfl⟩
        · exact lnk_same (H0.out.2.2.1.below HB05.out) hB57.size (hB57.block g (by have := hg.2.2; omega))
        · exact (H0.out.2.2.2.1.keep HB05.out).same (hB57.block _ (by omega))
      go_wp2
      go_roundw
      case rel => exact ⟨j + 1, by omega, by go_num, HFIN.out⟩
      case measure => simp [intOf]; omega
    · obtain rfl : j = nn := by omega
      have HF : Hid (WNewPost ⟨n, f, dmin, dmax, rho, slew, round, window, attend, seen, hist, fly, quota, body⟩ l L w (.returned (.tuple #[pB w5.heap.size, .int .i64 0])) wr) := by
        refine HP.out _ _ ?_
        have hp0 : 0 < j := by have := HPOS.out; have h2 : n = (j : Int) := HNN.out; omega
        rcases hI.own.2 with ⟨_, h0⟩ | ⟨R, cap, cur, hv, _⟩
        · omega
        · have hown := hI.own
          rw [hv] at hI hown
          refine ⟨_, g, cp, R, cap, ps, _, rfl, ⟨hI.box, fun i p hp => ?_, hI.airb, hI.pl, hI.apart, hI.oW, hI.oA, fun i p hp => hI.oR i p hp R rfl, hI.nWA, Ne.symm (hI.rW R rfl).1, Ne.symm (hI.rW R rfl).2, (hown.lt R rfl).2, hI.bW, hI.bA, ?_⟩, ?_, hfr, hLk, hBB⟩
          · have hil : i < ps.length := (List.getElem?_eq_some_iff.1 hp).1
            have := hown.cellAt i (by omega)
            rw [this, List.getElem?_map, hp]
            rfl
          · have := (hown.lt R rfl).1
            have := hI.bW
            omega
          · show (ps.length : Int) = n
            have h2 : n = (j : Int) := HNN.out
            omega
      clear hI hfr hLk hC0 hBB
      go_wp2
      go_ret2
      exact HF.out
end Go.Proofs.YteahiphmhaedpaaGreatDoor
