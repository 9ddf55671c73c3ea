/- ledger.Add and the reference's. -/
import Derived.Test.YtncmbbkcpmimjaaDoorLedB
namespace Go.Proofs.YtncmbbkcpmimjaaDoor
open Go.RowKit Law
set_option linter.unusedVariables false

def EnV (e : En) (A : Option Addr) (n cap : Nat) : Value := .agg #[.int .i64 e.at_, .int .i64 e.t, .int .i64 e.f, .int .u32 (e.s : Int), .slice A n cap]
def wrapI (x : Int) : Int := IntKind.i64.wrap x
def addL (l : Ld) (e : En) (b : List UInt8) : Ld := ⟨wrapI (l.count + 1), mixS l.sum e (crcL b) b.length, l.of.set e.f.toNat ((l.of.getD e.f.toNat 0 + 1) % 4294967296)⟩
def okE (e : En) : Prop := 0 ≤ e.f ∧ e.f < 64
instance (e : En) : Decidable (okE e) := by unfold okE; infer_instance
theorem addL_fits {l : Ld} (h : l.Fits) (e : En) (b : List UInt8) : (addL l e b).Fits := by
  obtain ⟨c0, c1, s, n, o⟩ := h
  have hw : wrapI (l.count + 1) = if l.count = 9223372036854775807 then -9223372036854775808 else l.count + 1 := by
    unfold wrapI
    split
    · rename_i h; rw [h]; rfl
    · rw [IntKind.wrap_i64]; omega
  refine ⟨?_, ?_, ?_, ?_, ?_⟩
  · show _ ≤ wrapI _; rw [hw]; split <;> omega
  · show wrapI _ ≤ _; rw [hw]; split <;> omega
  · show mixS _ _ _ _ < _; unfold mixS; omega
  · show (List.set _ _ _).length = _; rw [List.length_set]; exact n
  · intro c hc
    rcases List.mem_or_eq_of_mem_set hc with h | h
    · exact o c h
    · rw [h]; omega
theorem below_setCells {B : Nat} {a : World} {g : Nat} (hg : B ≤ g) : ∀ (vs : List Value) (o : Nat) (w : World), Below B a w → Below B a (w.setCells g o vs)
  | [], _, _, h => h
  | v :: vs, o, w, h => below_setCells hg vs (o + 1) _ (h.setCell (p := ⟨g, o, none⟩) hg v)
theorem ldLoadU {w : World} {b : Nat} {l : Ld} (h : LdAt w b l) (hf : l.Fits) : (loadVar 26 ⟨b, 0, none⟩).run Tryd.prog w = .ok l.val w :=
  run_loadVar_mid w b 0 26 l.cells _ h Tryd.underlying26 rfl (by rw [Ld.len hf]; exact ldInfo)
/-- A ledger read as a whole. -/
theorem wp_ldLoad {ops : Array Oper} {rest : List Oper} {op : Oper} {a : Act} {w : World} {Q : Exit → Act → World → Prop} (hgd : op.guard = none) (x : Operand) (ho : op.op = .load 26 x)
    (b : Nat) (hx : a.eval x = .pointer (some ⟨b, 0, none⟩)) (l : Ld) (hf : l.Fits) (h : LdAt w b l) (hk : wpList Tryd.prog ops Q rest (a.put op.dst (.agg l.cells.toArray)) w) : wpList Tryd.prog ops Q (op :: rest) a w :=
  wpList_load_mid hgd 26 x ho b 0 hx l.cells _ h Tryd.underlying26 rfl (by rw [Ld.len hf]; exact ldInfo) hk
/-- A ledger written as a whole. -/
theorem wp_ldStore {ops : Array Oper} {rest : List Oper} {op : Oper} {a : Act} {w : World} {Q : Exit → Act → World → Prop} (hgd : op.guard = none) (x y : Operand) (ho : op.op = .store 26 x y)
    (b : Nat) (l l' : Ld) (hx : a.eval x = .pointer (some ⟨b, 0, none⟩)) (hy : a.eval y = .agg l'.cells.toArray) (hf : l.Fits) (hf' : l'.Fits) (h : LdBox w b l)
    (hk : ∀ w', LdBox w' b l' → (∀ N w0, N ≤ b → Below N w0 w → Below N w0 w') → (∀ b1 l1, b1 ≠ b → LdBox w b1 l1 → LdBox w' b1 l1) → wpList Tryd.prog ops Q rest (a.put op.dst undef) w') : wpList Tryd.prog ops Q (op :: rest) a w := by
  have hth : w.there b 0 66 := fun j hj => by
    rw [Nat.zero_add]
    refine ⟨?_, h.2 j hj⟩
    have hj' : j < l.cells.length := by rw [Ld.len hf]; exact hj
    have h2 := h.1 j l.cells[j] (List.getElem?_eq_getElem hj')
    rw [Nat.zero_add] at h2
    rw [h2]; rfl
  have hsz : l'.cells.toArray.size = 66 := by simpa using Ld.len hf'
  refine wpList_store_mid hgd 26 x y ho b 0 l'.cells.toArray hx hy (by rw [hsz]; exact hth) (by rw [hsz]; exact ldInfo) Ld.one ?_
  refine hk _ (h.store hf hf').2 (fun N w0 hN hb => below_setCells hN _ _ _ hb) (fun b1 l1 hne h1 => ⟨?_, fun j hj => by rw [World.frozen?_setCells]; exact h1.2 j hj⟩)
  exact World.rangeAt_setCells_apart h1.1 b 0 l'.cells (.inl hne)
set_option maxHeartbeats 1600000 in
set_option maxRecDepth 100000 in
theorem ledAdd_no (l : Ld) (hf : l.Fits) (e : En) (he : e.Fits) (hno : ¬ okE e) (A : Option Addr) (n cap : Nat) (w : World) :
    Calls Tryd.prog 8 #[l.val, EnV e A n cap] w fun en w' => en = .returned (.tuple #[l.val, .int .i64 8]) ∧ Below w.heap.size w w' := by
  obtain ⟨hz, -⟩ := zero_of_info ldZero
  have hb1 : Below w.heap.size w (w.alloc (.cells l.cells.toArray 26)) := (Below.refl _ _).alloc (Nat.le_refl _) _
  have hb2 := hb1.alloc (by simp) (.cells #[.int .i64 e.at_, .int .i64 e.t, .int .i64 e.f, .int .u32 (e.s : Int), .slice A n cap] 31)
  have hb3 := hb2.alloc (by simp; omega) (.cells Ld0.cells.toArray 26)
  have hB1 : LdBox (((w.alloc (.cells l.cells.toArray 26)).alloc (.cells #[.int .i64 e.at_, .int .i64 e.t, .int .i64 e.f, .int .u32 (e.s : Int), .slice A n cap] 31)).alloc (.cells Ld0.cells.toArray 26)) w.heap.size l :=
    ((LdBox.new w l 26).below ((Below.refl _ _).alloc (Nat.le_refl _) _)).below ((Below.refl _ _).alloc (Nat.le_refl _) _)
  have hB3 : LdBox (((w.alloc (.cells l.cells.toArray 26)).alloc (.cells #[.int .i64 e.at_, .int .i64 e.t, .int .i64 e.f, .int .u32 (e.s : Int), .slice A n cap] 31)).alloc (.cells Ld0.cells.toArray 26)) (w.heap.size + 1 + 1) Ld0 := by
    have := LdBox.new ((w.alloc (.cells l.cells.toArray 26)).alloc (.cells #[.int .i64 e.at_, .int .i64 e.t, .int .i64 e.f, .int .u32 (e.s : Int), .slice A n cap] 31)) Ld0 26
    simpa using this
  have HB := Lib.hid (And.intro hB1 (And.intro hB3 hb3))
  unfold Ld.val at hz ⊢
  unfold EnV
  clear hb1 hb2 hb3 hB1 hB3
  go_enter Tryd.func8, Tryd.ntmps8
  have h01 : e.f < 0 ∨ (¬ e.f < 0 ∧ 64 ≤ e.f) := by unfold okE at hno; omega
  rcases h01 with h0 | ⟨h0, h1⟩
  · go_wp2_with (first | (refine wp_ldLoad rfl _ rfl w.heap.size rfl l hf HB.out.1.1 ?_) | (refine wp_ldStore rfl _ _ rfl (w.heap.size + 1 + 1) Ld0 l rfl rfl Ld0.fits hf HB.out.2.1 ?_; intro w4 hB4 hbb hoo))
    refine bodyPost_ret (v := .tuple #[.agg l.cells.toArray, .int .i64 8]) (by simp [results, Tryd.results8, asAddr, ldLoadU hB4.1 hf, Ld.val]) rfl ⟨rfl, hbb _ _ (by omega) HB.out.2.2⟩
  · go_wp2_with (first | (refine wp_ldLoad rfl _ rfl w.heap.size rfl l hf HB.out.1.1 ?_) | (refine wp_ldStore rfl _ _ rfl (w.heap.size + 1 + 1) Ld0 l rfl rfl Ld0.fits hf HB.out.2.1 ?_; intro w4 hB4 hbb hoo))
    refine bodyPost_ret (v := .tuple #[.agg l.cells.toArray, .int .i64 8]) (by simp [results, Tryd.results8, asAddr, ldLoadU hB4.1 hf, Ld.val]) rfl ⟨rfl, hbb _ _ (by omega) HB.out.2.2⟩
theorem three (w : World) (l : Ld) (v : Array Value) : LdBox (((w.alloc (.cells l.cells.toArray 26)).alloc (.cells v 31)).alloc (.cells Ld0.cells.toArray 26)) w.heap.size l ∧
    LdBox (((w.alloc (.cells l.cells.toArray 26)).alloc (.cells v 31)).alloc (.cells Ld0.cells.toArray 26)) (w.heap.size + 1 + 1) Ld0 ∧
    Below w.heap.size w (((w.alloc (.cells l.cells.toArray 26)).alloc (.cells v 31)).alloc (.cells Ld0.cells.toArray 26)) := by
  refine ⟨((LdBox.new w l 26).below ((Below.refl _ _).alloc (Nat.le_refl _) _)).below ((Below.refl _ _).alloc (Nat.le_refl _) _), ?_, (((Below.refl _ _).alloc (Nat.le_refl _) _).alloc (by simp) _).alloc (by simp; omega) _⟩
  have := LdBox.new ((w.alloc (.cells l.cells.toArray 26)).alloc (.cells v 31)) Ld0 26
  simpa using this
set_option maxHeartbeats 3200000 in
set_option maxRecDepth 100000 in
theorem ledAdd_yes (l : Ld) (hf : l.Fits) (e : En) (he : e.Fits) (hok : okE e) (A : Option Addr) (n cap : Nat) (b : List UInt8) (hn : b.length = n) (hm : n ≤ 1000000) (w : World) (hA : U8At w A b) :
    Calls Tryd.prog 8 #[l.val, EnV e A n cap] w fun en w' => en = .returned (.tuple #[(addL l e b).val, .int .i64 0]) ∧ Below w.heap.size w w' := by
  have HL := Lib.hid (addL_fits hf e b)
  obtain ⟨at_, t, f', s⟩ := e
  obtain ⟨f, rfl⟩ : ∃ f : Nat, f' = (f : Int) := ⟨f'.toNat, by have := hok.1; simp at this; omega⟩
  have hf64 : f < 64 := by have := hok.2; simp at this; omega
  obtain ⟨hz, -⟩ := zero_of_info ldZero
  obtain ⟨cnt, hcnt⟩ : ∃ cnt, wrapI (l.count + 1) = cnt := ⟨_, rfl⟩
  have hcnt2 : IntKind.i64.wrap (l.count + 1) = cnt := hcnt
  have h3 := three w l #[.int .i64 at_, .int .i64 t, .int .i64 (f : Int), .int .u32 (s : Int), .slice A n cap]
  have h4 := three w { l with count := cnt } #[.int .i64 at_, .int .i64 t, .int .i64 (f : Int), .int .u32 (s : Int), .slice A n cap]
  have hc0 := h3.1.1.count
  have hg0 := h3.1.2 0 (by omega)
  have hc1 : (((w.alloc (.cells (l.cells.set 0 (.int .i64 cnt)).toArray 26)).alloc (.cells #[.int .i64 at_, .int .i64 t, .int .i64 (f : Int), .int .u32 (s : Int), .slice A n cap] 31)).alloc (.cells Ld0.cells.toArray 26)).cell? ⟨w.heap.size, 1, none⟩ = some (.int .u64 (l.sum : Int)) := h4.1.1.sum
  have HE0 : Hid ((((w.alloc (.cells (l.cells.set 0 (.int .i64 cnt)).toArray 26)).alloc (.cells #[.int .i64 at_, .int .i64 t, .int .i64 (f : Int), .int .u32 (s : Int), .slice A n cap] 31)).alloc (.cells Ld0.cells.toArray 26)).cell? ⟨w.heap.size + 1, 2, none⟩ = some (.int .i64 (f : Int))) := by
    have h : ((w.alloc (.cells (l.cells.set 0 (.int .i64 cnt)).toArray 26)).alloc (.cells #[.int .i64 at_, .int .i64 t, .int .i64 (f : Int), .int .u32 (s : Int), .slice A n cap] 31)).cell? ⟨w.heap.size + 1, 2, none⟩ = some (.int .i64 (f : Int)) := by
      rw [World.cell?_alloc_at _ _ _ _ (by simp)]; rfl
    exact (((Below.refl _ ((w.alloc (.cells (l.cells.set 0 (.int .i64 cnt)).toArray 26)).alloc (.cells #[.int .i64 at_, .int .i64 t, .int .i64 (f : Int), .int .u32 (s : Int), .slice A n cap] 31))).alloc (Nat.le_refl _) (.cells Ld0.cells.toArray 26)).cell (p := ⟨w.heap.size + 1, 2, none⟩) (by simp)).trans h
  obtain ⟨r, hr⟩ : ∃ r, mixS l.sum ⟨at_, t, f, s⟩ (crcL b) n = r := ⟨_, rfl⟩
  have C : Hid (∀ W, U8At W A b → Calls Tryd.prog 27 #[.int .u64 (l.sum : Int), .agg #[.int .i64 at_, .int .i64 t, .int .i64 (f : Int), .int .u32 (s : Int), .slice A n cap]] W fun en w' => en = .returned (.int .u64 (r : Int)) ∧ Below W.heap.size W w') := by
    intro W hW
    rw [← hr]
    exact ledMixed l.sum hf.s ⟨at_, t, f, s⟩ he hok.1 hok.2 A cap b hn hm W hW
  have HR := Lib.hid (And.intro hr (And.intro hcnt hn))
  have HA := Lib.hid (hA.keep h4.2.2)
  have HB := Lib.hid h4
  have hfn := hf.n
  obtain ⟨c, hc⟩ : ∃ c, l.of.getD f 0 = c := ⟨_, rfl⟩
  have hcg : l.of[f]'(by omega) = c := by rw [← hc, List.getD_eq_getElem?_getD, List.getElem?_eq_getElem (by omega)]; rfl
  have hc32 : c < 4294967296 := by rw [← hcg]; exact hf.o _ (List.getElem_mem _)
  obtain ⟨c1, hc1e⟩ : ∃ c1, (c + 1) % 4294967296 = c1 := ⟨_, rfl⟩
  have hcw : IntKind.u32.wrap ((c : Int) + 1) = (c1 : Int) := by rw [IntKind.wrap_u32]; omega
  have HC := Lib.hid (And.intro hc (And.intro hcg hc1e))
  unfold Ld.val at hz ⊢
  unfold EnV
  clear h3 h4 hr hcnt hn hA hc hcg hc1e
  go_enter Tryd.func8, Tryd.ntmps8
  go_wp2_with fail
  refine (C.out _ HA.out).mono ?_
  rintro en w5 ⟨rfl, hb5⟩
  have hB5 := HB.out.1.below hb5
  have hc5 := hB5.1.sum
  have hg5 := hB5.2 1 (by omega)
  have hB6 := hB5.sum r
  have hB7 : LdBox (w5.setCell ⟨w.heap.size, 1, none⟩ (.int .u64 (r : Int))) (w.heap.size + 1 + 1) Ld0 := (HB.out.2.1.below hb5).other (by simp; omega) _
  have hc6 : w5.cell? ⟨w.heap.size, 2 + f, none⟩ = some (.int .u32 (c : Int)) := by
    have := hB5.1.of (k := f) (by show f < l.of.length; omega)
    rw [this]
    show some (Value.int .u32 ((l.of[f]'(by omega) : Nat) : Int)) = _
    rw [HC.out.2.1]
  have hg6 := hB5.2 (2 + f) (by omega)
  have hE : w5.cell? ⟨w.heap.size + 1, 2, none⟩ = some (.int .i64 (f : Int)) := by
    exact (hb5.cell (p := ⟨w.heap.size + 1, 2, none⟩) (by simp)).trans HE0.out
  have hB8 := hB6.of f c1 (by show f < l.of.length; omega)
  have hB9 : LdBox ((w5.setCell ⟨w.heap.size, 1, none⟩ (.int .u64 (r : Int))).setCell ⟨w.heap.size, 2 + f, none⟩ (.int .u32 (c1 : Int))) (w.heap.size + 1 + 1) Ld0 := hB7.other (by simp; omega) _
  have hb9 : Below w.heap.size w ((w5.setCell ⟨w.heap.size, 1, none⟩ (.int .u64 (r : Int))).setCell ⟨w.heap.size, 2 + f, none⟩ (.int .u32 (c1 : Int))) :=
    ((HB.out.2.2.trans (hb5.mono (by simp; omega))).setCell (p := ⟨w.heap.size, 1, none⟩) (Nat.le_refl _) _).setCell (p := ⟨w.heap.size, 2 + f, none⟩) (Nat.le_refl _) _
  have hLL : (⟨cnt, r, l.of.set f c1⟩ : Ld) = addL l ⟨at_, t, f, s⟩ b := by
    unfold addL
    rw [HR.out.2.1, HR.out.2.2, HR.out.1]
    simp only [Int.toNat_natCast]
    rw [HC.out.1, HC.out.2.2]
  have hB8' : LdBox ((w5.setCell ⟨w.heap.size, 1, none⟩ (.int .u64 (r : Int))).setCell ⟨w.heap.size, 2 + f, none⟩ (.int .u32 (c1 : Int))) w.heap.size (addL l ⟨at_, t, f, s⟩ b) := by rw [← hLL]; exact hB8
  have H9 := Lib.hid (And.intro hB8' (And.intro hB9 hb9))
  clear hB5 hB6 hB7 hB8 hB8' hB9 hb9 hLL hc0 hg0 hc1 hcnt2
  go_wp2_with (first | (refine wp_ldLoad rfl _ rfl w.heap.size rfl (addL l ⟨at_, t, f, s⟩ b) HL.out H9.out.1.1 ?_) | (refine wp_ldStore rfl _ _ rfl (w.heap.size + 1 + 1) Ld0 (addL l ⟨at_, t, f, s⟩ b) rfl rfl Ld0.fits HL.out H9.out.2.1 ?_; intro w9 hB9 hbb hoo))
  refine bodyPost_ret (v := .tuple #[.agg (addL l ⟨at_, t, f, s⟩ b).cells.toArray, .int .i64 0]) (by simp [results, Tryd.results8, asAddr, ldLoadU hB9.1 HL.out, Ld.val]) rfl ⟨rfl, hbb _ _ (by omega) H9.out.2.2⟩
end Go.Proofs.YtncmbbkcpmimjaaDoor
