/- What kinds of events and errors are called: the program's tables and the reference's lists. -/
import Derived.Test.YtjnhkpjmjjhhdaaDoorKeyT
namespace Go.Proofs.YtjnhkpjmjjhhdaaDoor
open Go.RowKit Law
set_option linter.unusedVariables false

theorem StrTab.below {w w' : World} {name : String} {g : Nat} {zs : List (List UInt8)} (hg : Tryd.prog.globalNamed name = some g) (h : StrTab w name zs) (hb : Below w.heap.size w w') : StrTab w' name zs :=
  Joins.var_stays hg h hb (Nat.le_refl _)
structure Tabs (w : World) : Prop where
  p10 : P10 w
  names : StrTab w "angelus/trace.names" trace_names
  errs : StrTab w "angelus/trace.errs" trace_errs
theorem Tabs.below {w w' : World} (h : Tabs w) (hb : Below w.heap.size w w') : Tabs w' := ⟨h.p10.below hb, StrTab.below g_trace_names h.names hb, StrTab.below g_trace_errs h.errs hb⟩
theorem Tabs.later {w : World} (h : Tabs w) (W : Later w) : Tabs W.val := h.below W.h
theorem Tabs.of_laid {w : World} (h : laidMet Tryd.prog tables w) : Tabs w := ⟨P10.of_laid h, tab_trace_names h, tab_trace_errs h⟩

def nameOf (k : Int) : List UInt8 := if 1 ≤ k ∧ k ≤ 9 then trace_names.getD k.toNat [] else [63]
def errOf (k : Int) : List UInt8 := if 0 ≤ k ∧ k ≤ 19 then trace_errs.getD k.toNat [] else [63]
theorem nameOf_out {k : Int} (h : ¬ (1 ≤ k ∧ k ≤ 9)) : nameOf k = [63] := if_neg h
theorem nameOf_in {k : Int} (h : 1 ≤ k ∧ k ≤ 9) : nameOf k = trace_names.getD k.toNat [] := if_pos h
theorem errOf_out {k : Int} (h : ¬ (0 ≤ k ∧ k ≤ 19)) : errOf k = [63] := if_neg h
theorem errOf_in {k : Int} (h : 0 ≤ k ∧ k ≤ 19) : errOf k = trace_errs.getD k.toNat [] := if_pos h

theorem traceName (k : Int) (w : World) (h : Tabs w) : Calls Tryd.prog 7 #[.int .i64 k] w fun e w' => e = .returned (.string ⟨(nameOf k).toArray⟩) ∧ w' = w := by
  by_cases h1 : k < 1
  · have E := Lib.hid (nameOf_out (k := k) (by omega))
    clear h
    go_enter Tryd.func7, Tryd.ntmps7
    go_wp2
    go_ret
    exact ⟨ret_str (by rw [E.out]), rfl⟩
  · by_cases h2 : 10 ≤ k
    · have E := Lib.hid (nameOf_out (k := k) (by omega))
      have hd : decide (k < 1) = false := by simpa using h1
      clear h
      go_enter Tryd.func7, Tryd.ntmps7
      go_wp2
      go_ret
      exact ⟨ret_str (by rw [E.out]), rfl⟩
    · have E := Lib.hid (nameOf_in (k := k) (by omega))
      have hc := h.names.cell g_trace_names k.toNat (by have : trace_names.length = 10 := rfl; omega)
      have hd : decide (k < 1) = false := by simpa using h1
      have hk0 : 0 ≤ k := by omega
      have hk9 : k < 10 := by omega
      generalize trace_names.getD k.toNat [] = s at hc E
      clear h
      go_enter Tryd.func7, Tryd.ntmps7
      go_wp2
      go_ret
      exact ⟨ret_str (by rw [E.out]), rfl⟩
theorem traceErr (k : Int) (w : World) (h : Tabs w) : Calls Tryd.prog 9 #[.int .i64 k] w fun e w' => e = .returned (.string ⟨(errOf k).toArray⟩) ∧ w' = w := by
  by_cases h1 : k < 0
  · have E := Lib.hid (errOf_out (k := k) (by omega))
    clear h
    go_enter Tryd.func9, Tryd.ntmps9
    go_wp2
    go_ret
    exact ⟨ret_str (by rw [E.out]), rfl⟩
  · by_cases h2 : 20 ≤ k
    · have E := Lib.hid (errOf_out (k := k) (by omega))
      have hd : decide (k < 0) = false := by simpa using h1
      clear h
      go_enter Tryd.func9, Tryd.ntmps9
      go_wp2
      go_ret
      exact ⟨ret_str (by rw [E.out]), rfl⟩
    · have E := Lib.hid (errOf_in (k := k) (by omega))
      have hc := h.errs.cell g_trace_errs k.toNat (by have : trace_errs.length = 20 := rfl; omega)
      have hd : decide (k < 0) = false := by simpa using h1
      have hk0 : 0 ≤ k := by omega
      have hk9 : k < 20 := by omega
      generalize trace_errs.getD k.toNat [] = s at hc E
      clear h
      go_enter Tryd.func9, Tryd.ntmps9
      go_wp2
      go_ret
      exact ⟨ret_str (by rw [E.out]), rfl⟩

theorem refName_out (k : Int) (h : ¬ (1 ≤ k ∧ k ≤ 9)) (w : World) : Calls Tryd.prog 8 #[.int .i64 k] w fun e w' => e = .returned (.string ⟨(nameOf k).toArray⟩) ∧ Below w.heap.size w w' := by
  have E := Lib.hid (nameOf_out h)
  by_cases h1 : k < 1
  · clear h
    go_enter Tryd.func8, Tryd.ntmps8
    go_wp2
    go_ret
    exact ⟨ret_str (by rw [E.out]), Below.refl _ _⟩
  · have h2 : 9 < k := by omega
    have hd : decide (k < 1) = false := by simpa using h1
    clear h
    go_enter Tryd.func8, Tryd.ntmps8
    go_wp2
    go_ret
    exact ⟨ret_str (by rw [E.out]), Below.refl _ _⟩
def refNameCells : Array Value := #[.string ⟨#[100, 101, 108, 105, 118, 101, 114]⟩, .string ⟨#[118, 105, 101, 119]⟩, .string ⟨#[115, 101, 110, 100]⟩, .string ⟨#[99, 114, 97, 115, 104]⟩, .string ⟨#[114, 101, 115, 116, 97, 114, 116]⟩, .string ⟨#[115, 121, 110, 99]⟩, .string ⟨#[97, 100, 109, 105, 116]⟩, .string ⟨#[114, 101, 109, 111, 118, 101]⟩, .string ⟨#[114, 101, 102, 117, 115, 101]⟩]
theorem refNameCells_at (k : Int) (h : 1 ≤ k ∧ k ≤ 9) : refNameCells[k.toNat - 1]? = some (.string ⟨(nameOf k).toArray⟩) := by
  have hk : k = 1 ∨ k = 2 ∨ k = 3 ∨ k = 4 ∨ k = 5 ∨ k = 6 ∨ k = 7 ∨ k = 8 ∨ k = 9 := by omega
  rcases hk with rfl | rfl | rfl | rfl | rfl | rfl | rfl | rfl | rfl <;> rfl
set_option maxHeartbeats 1600000 in
theorem refName (k : Int) (w : World) : Calls Tryd.prog 8 #[.int .i64 k] w fun e w' => e = .returned (.string ⟨(nameOf k).toArray⟩) ∧ Below w.heap.size w w' := by
  by_cases h : 1 ≤ k ∧ k ≤ 9
  · have hc : (w.alloc (.cells #[.string ⟨#[100, 101, 108, 105, 118, 101, 114]⟩, .string ⟨#[118, 105, 101, 119]⟩, .string ⟨#[115, 101, 110, 100]⟩, .string ⟨#[99, 114, 97, 115, 104]⟩, .string ⟨#[114, 101, 115, 116, 97, 114, 116]⟩, .string ⟨#[115, 121, 110, 99]⟩, .string ⟨#[97, 100, 109, 105, 116]⟩, .string ⟨#[114, 101, 109, 111, 118, 101]⟩, .string ⟨#[114, 101, 102, 117, 115, 101]⟩] 9)).cell? ⟨w.heap.size, k.toNat - 1, none⟩ = some (.string ⟨(nameOf k).toArray⟩) := by
      have := refNameCells_at k h
      rw [World.cell?_alloc_new]
      exact this
    have hc2 : (#[.string ⟨#[100, 101, 108, 105, 118, 101, 114]⟩, .string ⟨#[118, 105, 101, 119]⟩, .string ⟨#[115, 101, 110, 100]⟩, .string ⟨#[99, 114, 97, 115, 104]⟩, .string ⟨#[114, 101, 115, 116, 97, 114, 116]⟩, .string ⟨#[115, 121, 110, 99]⟩, .string ⟨#[97, 100, 109, 105, 116]⟩, .string ⟨#[114, 101, 109, 111, 118, 101]⟩, .string ⟨#[114, 101, 102, 117, 115, 101]⟩] : Array Value)[k.toNat - 1]? = some (.string ⟨(nameOf k).toArray⟩) := refNameCells_at k h
    obtain ⟨h1, h2⟩ := h
    have hd : decide (k < 1) = false := by simpa using h1
    generalize (nameOf k).toArray = s at hc hc2 ⊢
    go_enter Tryd.func8, Tryd.ntmps8
    go_wp2
    go_ret
    exact ⟨rfl, (Below.refl _ w).alloc (Nat.le_refl _) _⟩
  · exact refName_out k h w
theorem refErr_out (k : Int) (h : ¬ (0 ≤ k ∧ k ≤ 19)) (w : World) : Calls Tryd.prog 10 #[.int .i64 k] w fun e w' => e = .returned (.string ⟨(errOf k).toArray⟩) ∧ Below w.heap.size w w' := by
  have E := Lib.hid (errOf_out h)
  by_cases h1 : k < 0
  · clear h
    go_enter Tryd.func10, Tryd.ntmps10
    go_wp2
    go_ret
    exact ⟨ret_str (by rw [E.out]), Below.refl _ _⟩
  · have h2 : 19 < k := by omega
    have hd : decide (k < 0) = false := by simpa using h1
    clear h
    go_enter Tryd.func10, Tryd.ntmps10
    go_wp2
    go_ret
    exact ⟨ret_str (by rw [E.out]), Below.refl _ _⟩
def refErrCells : Array Value := #[.string ⟨#[111, 107]⟩, .string ⟨#[97, 114, 103]⟩, .string ⟨#[114, 97, 110, 103, 101]⟩, .string ⟨#[115, 104, 111, 114, 116]⟩, .string ⟨#[108, 111, 110, 103]⟩, .string ⟨#[102, 111, 114, 109]⟩, .string ⟨#[115, 117, 109]⟩, .string ⟨#[107, 105, 110, 100]⟩, .string ⟨#[110, 111, 100, 101]⟩, .string ⟨#[104, 111, 112, 115]⟩, .string ⟨#[101, 97, 114, 108, 121]⟩, .string ⟨#[108, 97, 116, 101]⟩, .string ⟨#[100, 117, 112]⟩, .string ⟨#[102, 117, 108, 108]⟩, .string ⟨#[112, 104, 97, 115, 101]⟩, .string ⟨#[109, 101, 109, 98, 101, 114]⟩, .string ⟨#[100, 111, 119, 110]⟩, .string ⟨#[99, 111, 110, 102, 105, 103]⟩, .string ⟨#[111, 118, 101, 114]⟩, .string ⟨#[119, 111, 114, 100]⟩]
theorem refErrCells_at (k : Int) (h : 0 ≤ k ∧ k ≤ 19) : refErrCells[k.toNat]? = some (.string ⟨(errOf k).toArray⟩) := by
  have hk : k = 0 ∨ k = 1 ∨ k = 2 ∨ k = 3 ∨ k = 4 ∨ k = 5 ∨ k = 6 ∨ k = 7 ∨ k = 8 ∨ k = 9 ∨ k = 10 ∨ k = 11 ∨ k = 12 ∨ k = 13 ∨ k = 14 ∨ k = 15 ∨ k = 16 ∨ k = 17 ∨ k = 18 ∨ k = 19 := by omega
  rcases hk with rfl | rfl | rfl | rfl | rfl | rfl | rfl | rfl | rfl | rfl | rfl | rfl | rfl | rfl | rfl | rfl | rfl | rfl | rfl | rfl <;> rfl
set_option maxHeartbeats 1600000 in
theorem refErr (k : Int) (w : World) : Calls Tryd.prog 10 #[.int .i64 k] w fun e w' => e = .returned (.string ⟨(errOf k).toArray⟩) ∧ Below w.heap.size w w' := by
  by_cases h : 0 ≤ k ∧ k ≤ 19
  · have hc : (w.alloc (.cells #[.string ⟨#[111, 107]⟩, .string ⟨#[97, 114, 103]⟩, .string ⟨#[114, 97, 110, 103, 101]⟩, .string ⟨#[115, 104, 111, 114, 116]⟩, .string ⟨#[108, 111, 110, 103]⟩, .string ⟨#[102, 111, 114, 109]⟩, .string ⟨#[115, 117, 109]⟩, .string ⟨#[107, 105, 110, 100]⟩, .string ⟨#[110, 111, 100, 101]⟩, .string ⟨#[104, 111, 112, 115]⟩, .string ⟨#[101, 97, 114, 108, 121]⟩, .string ⟨#[108, 97, 116, 101]⟩, .string ⟨#[100, 117, 112]⟩, .string ⟨#[102, 117, 108, 108]⟩, .string ⟨#[112, 104, 97, 115, 101]⟩, .string ⟨#[109, 101, 109, 98, 101, 114]⟩, .string ⟨#[100, 111, 119, 110]⟩, .string ⟨#[99, 111, 110, 102, 105, 103]⟩, .string ⟨#[111, 118, 101, 114]⟩, .string ⟨#[119, 111, 114, 100]⟩] 9)).cell? ⟨w.heap.size, k.toNat, none⟩ = some (.string ⟨(errOf k).toArray⟩) := by
      have := refErrCells_at k h
      rw [World.cell?_alloc_new]
      exact this
    have hc2 : (#[.string ⟨#[111, 107]⟩, .string ⟨#[97, 114, 103]⟩, .string ⟨#[114, 97, 110, 103, 101]⟩, .string ⟨#[115, 104, 111, 114, 116]⟩, .string ⟨#[108, 111, 110, 103]⟩, .string ⟨#[102, 111, 114, 109]⟩, .string ⟨#[115, 117, 109]⟩, .string ⟨#[107, 105, 110, 100]⟩, .string ⟨#[110, 111, 100, 101]⟩, .string ⟨#[104, 111, 112, 115]⟩, .string ⟨#[101, 97, 114, 108, 121]⟩, .string ⟨#[108, 97, 116, 101]⟩, .string ⟨#[100, 117, 112]⟩, .string ⟨#[102, 117, 108, 108]⟩, .string ⟨#[112, 104, 97, 115, 101]⟩, .string ⟨#[109, 101, 109, 98, 101, 114]⟩, .string ⟨#[100, 111, 119, 110]⟩, .string ⟨#[99, 111, 110, 102, 105, 103]⟩, .string ⟨#[111, 118, 101, 114]⟩, .string ⟨#[119, 111, 114, 100]⟩] : Array Value)[k.toNat]? = some (.string ⟨(errOf k).toArray⟩) := refErrCells_at k h
    obtain ⟨h1, h2⟩ := h
    have hd : decide (k < 0) = false := by simpa using h1
    generalize (errOf k).toArray = s at hc hc2 ⊢
    go_enter Tryd.func10, Tryd.ntmps10
    go_wp2
    go_ret
    exact ⟨rfl, (Below.refl _ w).alloc (Nat.le_refl _) _⟩
  · exact refErr_out k h w
end Go.Proofs.YtjnhkpjmjjhhdaaDoor
