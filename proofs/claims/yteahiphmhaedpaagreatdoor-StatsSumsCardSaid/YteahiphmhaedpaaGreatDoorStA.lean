/- What a cluster tells that keeps nothing of messages. -/
import Derived.Test.YteahiphmhaedpaaGreatDoorWoY
import Derived.Test.YteahiphmhaedpaaGreatDoorNeA
import Derived.Test.YteahiphmhaedpaaGreatDoorNdW
namespace Go.Proofs.YteahiphmhaedpaaGreatDoor
open Go.RowKit Law
set_option linter.unusedVariables false
set_option linter.unusedSimpArgs false
set_option maxRecDepth 100000

theorem worldNowT {w : World} {base W : Nat} {c : Cn} {A : Option Addr} {l k : Nat} {t : Int} {R cap : Nat} {ps : List PlV} {air : Nat} {ev : Value} {cr : Int} (h : WdAt w base W c A l k t R cap ps air ev cr) : Calls Tryz.prog 30 #[.pointer (some ⟨W, 0, none⟩)] w fun en w' => en = .returned (.int .i64 t) ∧ w = w' := by
  have c0 : w.cell? ⟨W, 15, none⟩ = some (.int .i64 t) := h.box.1 15 _ rfl
  clear h
  go_enter Tryz.func30, Tryz.ntmps30
  go_wp2
  go_ret
  exact ⟨rfl, rfl⟩
theorem worldCrashedT {w : World} {base W : Nat} {c : Cn} {A : Option Addr} {l k : Nat} {t : Int} {R cap : Nat} {ps : List PlV} {air : Nat} {ev : Value} {cr : Int} (h : WdAt w base W c A l k t R cap ps air ev cr) : Calls Tryz.prog 49 #[.pointer (some ⟨W, 0, none⟩)] w fun en w' => en = .returned (.int .u64 cr) ∧ w = w' := by
  have c0 : w.cell? ⟨W, 44, none⟩ = some (.int .u64 cr) := h.box.1 44 _ rfl
  clear h
  go_enter Tryz.func49, Tryz.ntmps49
  go_wp2
  go_ret
  exact ⟨rfl, rfl⟩
theorem worldNT {w : World} {base W : Nat} {c : Cn} {A : Option Addr} {l k : Nat} {t : Int} {R cap : Nat} {ps : List PlV} {air : Nat} {ev : Value} {cr : Int} (h : WdAt w base W c A l k t R cap ps air ev cr) : Calls Tryz.prog 35 #[.pointer (some ⟨W, 0, none⟩)] w fun en w' => en = .returned (.int .i64 (ps.length : Int)) ∧ w = w' := by
  have c0 := h.plC
  obtain ⟨m, hm⟩ : ∃ m, ps.length = m := ⟨_, rfl⟩
  rw [hm] at c0 ⊢
  clear h hm
  go_enter Tryz.func35, Tryz.ntmps35
  go_wp2
  go_ret
  exact ⟨rfl, rfl⟩
theorem worldSentT {w : World} {base W : Nat} {c : Cn} {A : Option Addr} {l k : Nat} {t : Int} {R cap : Nat} {ps : List PlV} {air : Nat} {ev : Value} {cr : Int} (h : WdAt w base W c A l k t R cap ps air ev cr) : Calls Tryz.prog 31 #[.pointer (some ⟨W, 0, none⟩)] w fun en w' => en = .returned (.slice none 0 0) ∧ w = w' := by
  have c0 : w.cell? ⟨W, 42, none⟩ = some (.slice none 0 0) := h.box.1 42 _ rfl
  clear h
  go_enter Tryz.func31, Tryz.ntmps31
  go_wp2
  go_loop [3, 13] (fun s i => i = .int .i64 0 ∧ s = .slice none 0 0) (fun _ _ => 0)
  case atStart => exact ⟨rfl, rfl⟩
  case round =>
    obtain ⟨rfl, rfl⟩ := hrel
    go_wp2
    go_ret
    exact ⟨rfl, rfl⟩
theorem placeUp {p : PlV} {n : NdI} (hn : p.nd = some n) : p.ndV = pB n.b.N := by unfold PlV.ndV; rw [hn]
theorem worldUpT {w : World} {base W : Nat} {c : Cn} {A : Option Addr} {l k : Nat} {t : Int} {R cap : Nat} {ps : List PlV} {air : Nat} {ev : Value} {cr : Int} (h : WdAt w base W c A l k t R cap ps air ev cr) {i : Nat} {p : PlV} {n : NdI} (hp : ps[i]? = some p) (hn : p.nd = some n) : Calls Tryz.prog 36 #[.pointer (some ⟨W, 0, none⟩), .int .i64 (i : Int)] w fun en w' => en = .returned (.bool true) ∧ w = w' := by
  have C := worldNode h hp
  rw [placeUp hn] at C
  have C := Lib.hid C
  clear h hp hn
  go_enter Tryz.func36, Tryz.ntmps36
  go_wp2_with fail
  refine C.out.mono ?_
  rintro e w' ⟨rfl, rfl⟩
  go_wp2
  go_ret
  exact ⟨rfl, rfl⟩
theorem worldPhaseT {w : World} {base W : Nat} {c : Cn} {A : Option Addr} {l k : Nat} {t : Int} {R cap : Nat} {ps : List PlV} {air : Nat} {ev : Value} {cr : Int} (h : WdAt w base W c A l k t R cap ps air ev cr) {i : Nat} {p : PlV} {n : NdI} (hp : ps[i]? = some p) (hn : p.nd = some n) : Calls Tryz.prog 37 #[.pointer (some ⟨W, 0, none⟩), .int .i64 (i : Int)] w fun en w' => en = .returned (.int .i64 2) ∧ w = w' := by
  have C := worldNode h hp
  rw [placeUp hn] at C
  have C := Lib.hid C
  have K := (h.pl i p hp).nd n hn
  have C2 := nodePhase K.idle.nd
  rw [K.idle.ph] at C2
  have C2 := Lib.hid C2
  clear h hp hn K
  go_enter Tryz.func37, Tryz.ntmps37
  go_wp2_with fail
  refine C.out.mono ?_
  rintro e w' ⟨rfl, rfl⟩
  go_wp2_with fail
  refine C2.out.mono ?_
  rintro e w' ⟨rfl, rfl⟩
  go_wp2
  go_ret
  exact ⟨rfl, rfl⟩
theorem worldStateT {w : World} {base W : Nat} {c : Cn} {A : Option Addr} {l k : Nat} {t : Int} {R cap : Nat} {ps : List PlV} {air : Nat} {ev : Value} {cr : Int} (h : WdAt w base W c A l k t R cap ps air ev cr) {i : Nat} {p : PlV} {n : NdI} (hp : ps[i]? = some p) (hn : p.nd = some n) : Calls Tryz.prog 99 #[.pointer (some ⟨W, 0, none⟩), .int .i64 (i : Int)] w fun en w' => en = .returned (.int .i64 2) ∧ w = w' := by
  have C := worldNode h hp
  rw [placeUp hn] at C
  have C := Lib.hid C
  have K := (h.pl i p hp).nd n hn
  have C2 := nodeState K.idle.nd
  rw [K.idle.js] at C2
  have C2 := Lib.hid C2
  clear h hp hn K
  go_enter Tryz.func99, Tryz.ntmps99
  go_wp2_with fail
  refine C.out.mono ?_
  rintro e w' ⟨rfl, rfl⟩
  go_wp2_with fail
  refine C2.out.mono ?_
  rintro e w' ⟨rfl, rfl⟩
  go_wp2
  go_ret
  exact ⟨rfl, rfl⟩
theorem worldClockT {w : World} {base W : Nat} {c : Cn} {A : Option Addr} {l k : Nat} {t : Int} {R cap : Nat} {ps : List PlV} {air : Nat} {ev : Value} {cr : Int} (h : WdAt w base W c A l k t R cap ps air ev cr) {i : Nat} {p : PlV} {n : NdI} (hp : ps[i]? = some p) (hn : p.nd = some n) : Calls Tryz.prog 100 #[.pointer (some ⟨W, 0, none⟩), .int .i64 (i : Int)] w fun en w' => en = .returned (.tuple #[.int .i64 p.at_, .bool true]) ∧ w = w' := by
  have C := worldNode h hp
  rw [placeUp hn] at C
  have C := Lib.hid C
  have K := (h.pl i p hp).nd n hn
  have C2 := nodeNow K.idle.nd (by rw [K.idle.ph]; decide)
  rw [K.at_] at C2
  have C2 := Lib.hid C2
  clear h hp hn K
  go_enter Tryz.func100, Tryz.ntmps100
  go_wp2_with fail
  refine C.out.mono ?_
  rintro e w' ⟨rfl, rfl⟩
  go_wp2_with fail
  refine C2.out.mono ?_
  rintro e w' ⟨rfl, rfl⟩
  go_wp2
  go_ret2
  exact ⟨rfl, rfl⟩
theorem worldSinceT {w : World} {base W : Nat} {c : Cn} {A : Option Addr} {l k : Nat} {t : Int} {R cap : Nat} {ps : List PlV} {air : Nat} {ev : Value} {cr : Int} (h : WdAt w base W c A l k t R cap ps air ev cr) {i : Nat} {p : PlV} {n : NdI} (hp : ps[i]? = some p) (hn : p.nd = some n) : Calls Tryz.prog 45 #[.pointer (some ⟨W, 0, none⟩), .int .i64 (i : Int)] w fun en w' => en = .returned (.tuple #[.int .i64 0, .bool true]) ∧ w = w' := by
  have C := worldNode h hp
  rw [placeUp hn] at C
  have C := Lib.hid C
  have K := (h.pl i p hp).nd n hn
  have C2 := nodeSince K.idle.nd (.inl K.idle.js)
  rw [K.jc] at C2
  have C2 := Lib.hid C2
  clear h hp hn K
  go_enter Tryz.func45, Tryz.ntmps45
  go_wp2_with fail
  refine C.out.mono ?_
  rintro e w' ⟨rfl, rfl⟩
  go_wp2_with fail
  refine C2.out.mono ?_
  rintro e w' ⟨rfl, rfl⟩
  go_wp2
  go_ret2
  exact ⟨rfl, rfl⟩
theorem worldLogT {w : World} {base W : Nat} {c : Cn} {A : Option Addr} {l k : Nat} {t : Int} {R cap : Nat} {ps : List PlV} {air : Nat} {ev : Value} {cr : Int} (h : WdAt w base W c A l k t R cap ps air ev cr) {i : Nat} {p : PlV} {n : NdI} (hp : ps[i]? = some p) (hn : p.nd = some n) : Calls Tryz.prog 47 #[.pointer (some ⟨W, 0, none⟩), .int .i64 (i : Int), .int .i64 0] w fun en w' => en = .returned (.slice none 0 0) ∧ w = w' := by
  have C := worldNode h hp
  rw [placeUp hn] at C
  have C := Lib.hid C
  have K := (h.pl i p hp).nd n hn
  have C2 := nodeLog0 K.idle.nd
  have C2 := Lib.hid C2
  clear h hp hn K
  go_enter Tryz.func47, Tryz.ntmps47
  go_wp2_with fail
  refine C.out.mono ?_
  rintro e w' ⟨rfl, rfl⟩
  go_wp2_with fail
  refine C2.out.mono ?_
  rintro e w' ⟨rfl, rfl⟩
  go_wp2
  go_ret
  exact ⟨rfl, rfl⟩
theorem worldViewsT {w : World} {base W : Nat} {c : Cn} {A : Option Addr} {l k : Nat} {t : Int} {R cap : Nat} {ps : List PlV} {air : Nat} {ev : Value} {cr : Int} (h : WdAt w base W c A l k t R cap ps air ev cr) {i : Nat} {p : PlV} {n : NdI} (hp : ps[i]? = some p) (hn : p.nd = some n) : Calls Tryz.prog 112 #[.pointer (some ⟨W, 0, none⟩), .int .i64 (i : Int)] w (ViewsPost 0 0 (allN c.n : Int) w) := by
  have C := worldNode h hp
  rw [placeUp hn] at C
  have C := Lib.hid C
  have K := (h.pl i p hp).nd n hn
  have C2 := Lib.hid (nodeViews1 K.idle.nd K.vw K.vr)
  clear h hp hn K
  go_enter Tryz.func112, Tryz.ntmps112
  go_wp2_with fail
  refine C.out.mono ?_
  rintro e w' ⟨rfl, rfl⟩
  go_wp2_with fail
  refine C2.out.mono ?_
  rintro e w1 h1
  have H := Lib.hid h1
  obtain ⟨g, c, rfl, -⟩ := h1
  go_wp2
  go_ret
  exact H.out
end Go.Proofs.YteahiphmhaedpaaGreatDoor
