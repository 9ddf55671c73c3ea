/- A node that keeps nothing of messages: what its tables' sizes are, and what it tells. -/
import Derived.Test.YtfkfheddhnjaaaaGreatNdL
namespace Go.Proofs.YtfkfheddhnjaaaaGreat
open Go.RowKit Law
set_option linter.unusedVariables false
set_option linter.unusedSimpArgs false
set_option maxRecDepth 100000

theorem tabLenI {w : World} {t l k : Nat} {A : Option Addr} {x y : Value} (h : BoxF w t [.slice A l k, x, y]) : Calls Tryz.prog 121 #[.pointer (some ⟨t, 0, none⟩)] w fun e w' => e = .returned (.int .i64 (l : Int)) ∧ w = w' := by
  have c0 := h.1 0 _ rfl
  go_enter Tryz.func121, Tryz.ntmps121
  go_wp2
  go_ret
  exact ⟨rfl, rfl⟩
theorem tabLenP {w : World} {t l k : Nat} {A : Option Addr} {x y : Value} (h : BoxF w t [.slice A l k, x, y]) : Calls Tryz.prog 108 #[.pointer (some ⟨t, 0, none⟩)] w fun e w' => e = .returned (.int .i64 (l : Int)) ∧ w = w' := by
  have c0 := h.1 0 _ rfl
  go_enter Tryz.func108, Tryz.ntmps108
  go_wp2
  go_ret
  exact ⟨rfl, rfl⟩
theorem seenLen {w : World} {s t l k : Nat} {A : Option Addr} {x y : Value} (hs : BoxF w s [.pointer (some ⟨t, 0, none⟩)]) (h : BoxF w t [.slice A l k, x, y]) : Calls Tryz.prog 107 #[.pointer (some ⟨s, 0, none⟩)] w fun e w' => e = .returned (.int .i64 (l : Int)) ∧ w = w' := by
  have c0 := hs.1 0 _ rfl
  have C := Lib.hid (tabLenI h)
  clear hs h
  go_enter Tryz.func107, Tryz.ntmps107
  go_wp2_with fail
  refine C.out.mono ?_
  rintro e w1 ⟨rfl, rfl⟩
  go_wp2
  go_ret
  exact ⟨rfl, rfl⟩
theorem relayLen {w : World} {r s t l k : Nat} {A : Option Addr} {x y : Value} {cs : List Value} (hr : BoxF w r (.pointer (some ⟨s, 0, none⟩) :: cs)) (hs : BoxF w s [.pointer (some ⟨t, 0, none⟩)]) (h : BoxF w t [.slice A l k, x, y]) : Calls Tryz.prog 85 #[.pointer (some ⟨r, 0, none⟩)] w fun e w' => e = .returned (.int .i64 (l : Int)) ∧ w = w' := by
  have c0 := hr.1 0 _ rfl
  have C := Lib.hid (seenLen hs h)
  clear hr hs h
  go_enter Tryz.func85, Tryz.ntmps85
  go_wp2_with fail
  refine C.out.mono ?_
  rintro e w1 ⟨rfl, rfl⟩
  go_wp2
  go_ret
  exact ⟨rfl, rfl⟩
theorem histLen {w : World} {s t l k : Nat} {A : Option Addr} {x y : Value} {cs : List Value} (hs : BoxF w s (.pointer (some ⟨t, 0, none⟩) :: cs)) (h : BoxF w t [.slice A l k, x, y]) : Calls Tryz.prog 86 #[.pointer (some ⟨s, 0, none⟩)] w fun e w' => e = .returned (.int .i64 (l : Int)) ∧ w = w' := by
  have c0 := hs.1 0 _ rfl
  have C := Lib.hid (tabLenP h)
  clear hs h
  go_enter Tryz.func86, Tryz.ntmps86
  go_wp2_with fail
  refine C.out.mono ?_
  rintro e w1 ⟨rfl, rfl⟩
  go_wp2
  go_ret
  exact ⟨rfl, rfl⟩
theorem len_nomap {w : World} {m : Nat} (t ty : TypeId) (h : NoMap w m) (ht : Tryz.prog.underlying t = some (.map (Tryz.prog.mapKeyOf t) (Tryz.prog.mapElemOf t))) : (Builtin.len_ #[t] ty #[.map (some m)]).run Tryz.prog w = .ok (.int .i64 0) w := by
  rw [run_len_map w t ty m #[] 0 ht h]
  rfl
theorem rollLen0 {w : World} {r m : Nat} {x : Value} (h : BoxF w r [.map (some m), x]) (hm : NoMap w m) : Calls Tryz.prog 88 #[.pointer (some ⟨r, 0, none⟩)] w fun e w' => e = .returned (.int .i64 0) ∧ w = w' := by
  have c0 := h.1 0 _ rfl
  have hl := len_nomap 181 3 hm (by kernel_rfl)
  clear h hm
  go_enter Tryz.func88, Tryz.ntmps88
  go_wp2
  go_ret
  exact ⟨rfl, rfl⟩
theorem logPart0 (v : Value) (w : World) : Calls Tryz.prog 104 #[v, .int .i64 0, .int .i64 0] w fun e w' => e = .returned (.slice none 0 0) ∧ w = w' := by
  go_enter Tryz.func104, Tryz.ntmps104
  go_wp2
  refine wp_loop_rounds 1 ?_
  rw [rounds_succ]
  go_wp2
  go_ret
  exact ⟨rfl, rfl⟩
set_option maxHeartbeats 3200000 in
theorem nodeSizes {w : World} {lo : Nat} {b : NdO} {c : Cn} {x : NV} {s : NS} (h : NodeAt w lo b c x s) : Calls Tryz.prog 42 #[.pointer (some ⟨b.N, 0, none⟩)] w fun e w' => e = .returned (.agg #[.int .i64 0, .int .i64 0, .int .i64 0, .int .i64 0]) ∧ Below w.heap.size w w' := by
  have b1 := (Below.refl w.heap.size w).alloc (Nat.le_refl _) (.cells #[.int .i64 0, .int .i64 0, .int .i64 0, .int .i64 0] 136)
  have h1 := h.keep b1
  have HS : Hid (∀ W, Below w.heap.size (w.alloc (.cells #[.int .i64 0, .int .i64 0, .int .i64 0, .int .i64 0] 136)) W → NodeAt W lo b c x s) := fun W hW => h1.kept hW.size (fun k _ h2 => hW.block k (by have := h.ord.o20; omega))
  have HD : Hid (Below w.heap.size (w.alloc (.cells #[.int .i64 0, .int .i64 0, .int .i64 0, .int .i64 0] 136)) (w.alloc (.cells #[.int .i64 0, .int .i64 0, .int .i64 0, .int .i64 0] 136)).drew) := (Below.refl _ _).drew
  have H2 := HS.out _ HD.out
  have C1 := Lib.hid (relayLen H2.rel H2.sen H2.tab)
  have C2 := Lib.hid (histLen H2.hst H2.htb)
  have C3 := Lib.hid (quotaWaiting H2.quo)
  have C4 := Lib.hid (rollLen0 H2.rol H2.rom)
  have HB := Lib.hid b1
  clear h h1 H2 b1
  obtain ⟨N, hN⟩ : ∃ N, b.N = N := ⟨_, rfl⟩
  have HN := Lib.hid hN
  rw [hN]
  clear hN
  go_enter Tryz.func42, Tryz.ntmps42
  go_wp2_with fail
  refine wp_region_perm [] [0, 1, 2, 3, 4, 6, 7, 8, 9, 10, 12, 13, 14, 15, 16, 18, 19, 20, 21, 22] [5, 11, 17, 23, 24, 25] 26 30 (fun W => Below w.heap.size (w.alloc (.cells #[.int .i64 0, .int .i64 0, .int .i64 0, .int .i64 0] 136)) W) (by kernel_rfl) (by kernel_rfl) (by intro c a t v w h; exact h) HD.out ?_
  simp only [pickL, List.drop_succ_cons, List.drop_zero, List.head?_cons, Option.toList_some, List.cons_append, List.nil_append]
  refine wpHead_nil ?_
  iterate 20 (refine wpHead_step _ (by rfl) (by intro W hW; have hq := HS.out W hW; have z40 := hq.box.cell 40 _ rfl; have z41 := hq.box.cell 41 _ rfl; have z42 := hq.box.cell 42 _ rfl; have z43 := hq.box.cell 43 _ rfl; rw [HN.out] at z40 z41 z42 z43; clear hq hW; go_simp; with_reducible rfl) ?_; simp only [Act.put, List.setIfInBounds_toArray, List.set_cons_zero, List.set_cons_succ])
  refine wpHead_nil ?_
  refine ⟨by rfl, ?_⟩
  go_simp
  go_at_call 85
  refine C1.out.mono ?_
  rintro e w' ⟨rfl, rfl⟩
  refine ⟨HD.out, by rfl, ?_⟩
  go_simp
  go_at_call 86
  refine C2.out.mono ?_
  rintro e w' ⟨rfl, rfl⟩
  refine ⟨HD.out, by rfl, ?_⟩
  go_simp
  go_at_call 87
  refine C3.out.mono ?_
  rintro e w' ⟨rfl, rfl⟩
  refine ⟨HD.out, by rfl, ?_⟩
  go_simp
  go_at_call 88
  refine C4.out.mono ?_
  rintro e w' ⟨rfl, rfl⟩
  refine ⟨HD.out, by rfl, ?_⟩
  go_simp
  refine ⟨HD.out, by rfl, ?_⟩
  go_simp
  refine ⟨?_, ?_⟩
  · repeat (first | exact HD.out | exact Below.refl _ _ | (refine Below.setCell ?_ (by simp) _) | (refine Below.drew ?_))
  refine wpMid_nil ?_
  go_wp2
  refine bodyPost_ret (v := .agg #[.int .i64 0, .int .i64 0, .int .i64 0, .int .i64 0]) (by simp [results, Tryz.results42, go_sem]) rfl ⟨rfl, ?_⟩
  repeat (first | exact HB.out | exact Below.refl _ _ | (refine Below.setCell ?_ (by simp) _) | (refine Below.drew ?_) | (refine Below.alloc ?_ (by simp) _))
theorem logSince0 {w : World} {l : Nat} (h : BoxF w l [.slice none 0 0]) : Calls Tryz.prog 83 #[.pointer (some ⟨l, 0, none⟩), .int .i64 0] w fun e w' => e = .returned (.slice none 0 0) ∧ w = w' := by
  have C1 := Lib.hid (logLen0 h)
  have C2 := Lib.hid (logPart0 (.pointer (some ⟨l, 0, none⟩)) w)
  clear h
  go_enter Tryz.func83, Tryz.ntmps83
  go_wp2_with fail
  refine C1.out.mono ?_
  rintro e w1 ⟨rfl, rfl⟩
  go_wp2_with fail
  refine C2.out.mono ?_
  rintro e w1 ⟨rfl, rfl⟩
  go_wp2
  go_ret
  exact ⟨rfl, rfl⟩
theorem nodeLog0 {w : World} {lo : Nat} {b : NdO} {c : Cn} {x : NV} {s : NS} (h : NodeAt w lo b c x s) : Calls Tryz.prog 46 #[.pointer (some ⟨b.N, 0, none⟩), .int .i64 0] w fun e w' => e = .returned (.slice none 0 0) ∧ w = w' := by
  have C := Lib.hid (logSince0 h.lg)
  have c50 := h.box.cell 50 _ rfl
  generalize b.N = N at *
  clear h
  go_enter Tryz.func46, Tryz.ntmps46
  go_wp2_with fail
  refine C.out.mono ?_
  rintro e w1 ⟨rfl, rfl⟩
  go_wp2
  go_ret
  exact ⟨rfl, rfl⟩
theorem viewClone0 (w : World) : Calls Tryz.prog 109 #[.slice none 0 0] w fun e w' => e = .returned (.slice none 0 0) ∧ w = w' := by
  have hq : ∀ W, (binOp .eql 120 (.slice none 0 0) (.slice none 0 0)).run Tryz.prog W = .ok (.bool true) W := fun W => by kernel_rfl
  go_enter Tryz.func109, Tryz.ntmps109
  go_wp2
  go_ret
  exact ⟨rfl, rfl⟩
theorem viewList0 {w : World} {V : Nat} (h : BoxF w V [.slice none 0 0]) : Calls Tryz.prog 90 #[.pointer (some ⟨V, 0, none⟩)] w fun e w' => e = .returned (.slice none 0 0) ∧ w = w' := by
  have c0 := h.1 0 _ rfl
  have C := Lib.hid (viewClone0 w)
  clear h
  go_enter Tryz.func90, Tryz.ntmps90
  go_wp2_with fail
  refine C.out.mono ?_
  rintro e w1 ⟨rfl, rfl⟩
  go_wp2
  go_ret
  exact ⟨rfl, rfl⟩
theorem nodeViews0 {w : World} {lo : Nat} {b : NdO} {c : Cn} {x : NV} {s : NS} (h : NodeAt w lo b c x s) (hv : s.vw = .slice none 0 0) : Calls Tryz.prog 48 #[.pointer (some ⟨b.N, 0, none⟩)] w fun e w' => e = .returned (.slice none 0 0) ∧ w = w' := by
  have hv1 := h.vws
  rw [hv] at hv1
  have C := Lib.hid (viewList0 hv1)
  have c45 := h.box.cell 45 _ rfl
  generalize b.N = N at *
  clear h hv hv1
  go_enter Tryz.func48, Tryz.ntmps48
  go_wp2_with fail
  refine C.out.mono ?_
  rintro e w1 ⟨rfl, rfl⟩
  go_wp2
  go_ret
  exact ⟨rfl, rfl⟩
theorem nodePhase {w : World} {lo : Nat} {b : NdO} {c : Cn} {x : NV} {s : NS} (h : NodeAt w lo b c x s) : Calls Tryz.prog 38 #[.pointer (some ⟨b.N, 0, none⟩)] w fun e w' => e = .returned (.int .i64 s.ph) ∧ w = w' := by
  have C := Lib.hid (clockPhase h.clk)
  have c35 := h.box.cell 35 _ rfl
  generalize b.N = N at *
  clear h
  go_enter Tryz.func38, Tryz.ntmps38
  go_wp2_with fail
  refine C.out.mono ?_
  rintro e w1 ⟨rfl, rfl⟩
  go_wp2
  go_ret
  exact ⟨rfl, rfl⟩
theorem nodeState {w : World} {lo : Nat} {b : NdO} {c : Cn} {x : NV} {s : NS} (h : NodeAt w lo b c x s) : Calls Tryz.prog 39 #[.pointer (some ⟨b.N, 0, none⟩)] w fun e w' => e = .returned (.int .i64 s.js) ∧ w = w' := by
  have C := Lib.hid (joinState h.jn)
  have c44 := h.box.cell 44 _ rfl
  generalize b.N = N at *
  clear h
  go_enter Tryz.func39, Tryz.ntmps39
  go_wp2_with fail
  refine C.out.mono ?_
  rintro e w1 ⟨rfl, rfl⟩
  go_wp2
  go_ret
  exact ⟨rfl, rfl⟩
theorem clockNowCold {w : World} {b : Nat} {sl y z : Value} (h : BoxF w b [sl, .int .i64 0, y, z]) : Calls Tryz.prog 78 #[.pointer (some ⟨b, 0, none⟩)] w fun e w' => e = .returned (.tuple #[.int .i64 0, .bool false]) ∧ w = w' := by
  have C := Lib.hid (clockPhase h)
  clear h
  go_enter Tryz.func78, Tryz.ntmps78
  go_wp2_with fail
  refine C.out.mono ?_
  rintro e w1 ⟨rfl, rfl⟩
  go_wp2
  go_ret2
  exact ⟨rfl, rfl⟩
theorem nodeNowCold {w : World} {lo : Nat} {b : NdO} {c : Cn} {x : NV} {s : NS} (h : NodeAt w lo b c x s) (hp : s.ph = 0) : Calls Tryz.prog 36 #[.pointer (some ⟨b.N, 0, none⟩)] w fun e w' => e = .returned (.tuple #[.int .i64 0, .bool false]) ∧ w = w' := by
  have hc := h.clk
  rw [hp] at hc
  have C := Lib.hid (clockNowCold hc)
  have c35 := h.box.cell 35 _ rfl
  generalize b.N = N at *
  clear h hp hc
  go_enter Tryz.func36, Tryz.ntmps36
  go_wp2_with fail
  refine C.out.mono ?_
  rintro e w1 ⟨rfl, rfl⟩
  go_wp2
  go_ret2
  exact ⟨rfl, rfl⟩
theorem joinMember0 {w : World} {b : Nat} {x y : Value} (h : BoxF w b [.int .i64 0, x, y]) : Calls Tryz.prog 102 #[.pointer (some ⟨b, 0, none⟩)] w fun e w' => e = .returned (.bool false) ∧ w = w' := by
  have C := Lib.hid (joinState h)
  clear h
  go_enter Tryz.func102, Tryz.ntmps102
  go_wp2_with fail
  refine C.out.mono ?_
  rintro e w1 ⟨rfl, rfl⟩
  go_wp2
  go_ret
  exact ⟨rfl, rfl⟩
theorem joinSince0 {w : World} {b : Nat} {x y : Value} (h : BoxF w b [.int .i64 0, x, y]) : Calls Tryz.prog 79 #[.pointer (some ⟨b, 0, none⟩)] w fun e w' => e = .returned (.tuple #[.int .i64 0, .bool false]) ∧ w = w' := by
  have C := Lib.hid (joinMember0 h)
  clear h
  go_enter Tryz.func79, Tryz.ntmps79
  go_wp2_with fail
  refine C.out.mono ?_
  rintro e w1 ⟨rfl, rfl⟩
  go_wp2
  go_ret2
  exact ⟨rfl, rfl⟩
theorem nodeSince0 {w : World} {lo : Nat} {b : NdO} {c : Cn} {x : NV} {s : NS} (h : NodeAt w lo b c x s) (hj : s.js = 0) : Calls Tryz.prog 37 #[.pointer (some ⟨b.N, 0, none⟩)] w fun e w' => e = .returned (.tuple #[.int .i64 0, .bool false]) ∧ w = w' := by
  have hc := h.jn
  rw [hj] at hc
  have C := Lib.hid (joinSince0 hc)
  have c44 := h.box.cell 44 _ rfl
  generalize b.N = N at *
  clear h hj hc
  go_enter Tryz.func37, Tryz.ntmps37
  go_wp2_with fail
  refine C.out.mono ?_
  rintro e w1 ⟨rfl, rfl⟩
  go_wp2
  go_ret2
  exact ⟨rfl, rfl⟩
end Go.Proofs.YtfkfheddhnjaaaaGreat
