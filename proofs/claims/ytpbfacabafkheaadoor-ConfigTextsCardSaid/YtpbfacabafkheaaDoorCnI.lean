/- A configuration's text, the reference's. -/
import Derived.Test.YtpbfacabafkheaaDoorCnG
namespace Go.Proofs.YtpbfacabafkheaaDoor
open Go.RowKit Law
set_option linter.unusedVariables false
set_option linter.unusedSimpArgs false
set_option maxRecDepth 100000
attribute [local go_sem] Oper.semAt_some

theorem rName_at {w : World} {B : Nat} (h : BoxF w B [.string ⟨#[110, 111, 100, 101, 115]⟩, .string ⟨#[102, 97, 117, 108, 116, 115]⟩, .string ⟨#[100, 101, 108, 97, 121]⟩, .string ⟨#[]⟩, .string ⟨#[100, 114, 105, 102, 116]⟩, .string ⟨#[]⟩, .string ⟨#[114, 111, 117, 110, 100]⟩, .string ⟨#[119, 105, 110, 100, 111, 119]⟩, .string ⟨#[97, 116, 116, 101, 110, 100]⟩, .string ⟨#[115, 101, 101, 110]⟩, .string ⟨#[104, 105, 115, 116]⟩, .string ⟨#[102, 108, 121]⟩, .string ⟨#[113, 117, 111, 116, 97]⟩, .string ⟨#[98, 111, 100, 121]⟩]) (j : Nat) (hj : j < 14) : w.cell? ⟨B, j, none⟩ = some (.string ⟨(rNameL.getD j []).toArray⟩) := by
  refine h.1 j _ ?_
  rcases (show j = 0 ∨ j = 1 ∨ j = 2 ∨ j = 3 ∨ j = 4 ∨ j = 5 ∨ j = 6 ∨ j = 7 ∨ j = 8 ∨ j = 9 ∨ j = 10 ∨ j = 11 ∨ j = 12 ∨ j = 13 by omega) with rfl | rfl | rfl | rfl | rfl | rfl | rfl | rfl | rfl | rfl | rfl | rfl | rfl | rfl
  all_goals rfl
theorem rNum_at {n f dmin dmax rho slew round window attend seen hist fly quota body : Int} {w : World} {B : Nat} (h : BoxF w B [.int .i64 n, .int .i64 f, .int .i64 dmin, .int .i64 dmax, .int .i64 rho, .int .i64 slew, .int .i64 round, .int .i64 window, .int .i64 attend, .int .i64 seen, .int .i64 hist, .int .i64 fly, .int .i64 quota, .int .i64 body]) (j : Nat) (hj : j < 14) : w.cell? ⟨B, j, none⟩ = some (.int .i64 ((numsC ⟨n, f, dmin, dmax, rho, slew, round, window, attend, seen, hist, fly, quota, body⟩).getD j 0)) := by
  refine h.1 j _ ?_
  rcases (show j = 0 ∨ j = 1 ∨ j = 2 ∨ j = 3 ∨ j = 4 ∨ j = 5 ∨ j = 6 ∨ j = 7 ∨ j = 8 ∨ j = 9 ∨ j = 10 ∨ j = 11 ∨ j = 12 ∨ j = 13 by omega) with rfl | rfl | rfl | rfl | rfl | rfl | rfl | rfl | rfl | rfl | rfl | rfl | rfl | rfl
  all_goals rfl
theorem digLater {n : Int} {s : ByteArray} (hs : (⟨(Lib.itoa n).toArray⟩ : ByteArray) = s) (h : -9223372036854775808 ≤ n ∧ n ≤ 9223372036854775807) {w : World} (W : Later w) : Calls Tryd.prog 50 #[.int .i64 n] W.val fun e w'' => e = .returned (.string s) ∧ ∃ W' : Later w, w'' = W'.val :=
  (digits06 n h.1 h.2 W.val).mono fun _ _ ⟨he, hw⟩ => ⟨by rw [he, hs], ⟨_, W.h⟩, hw.symm⟩
theorem str_size' (l : List UInt8) : (⟨l.toArray⟩ : ByteArray).size = l.length := by simp [ByteArray.size]
set_option maxHeartbeats 6400000 in
theorem rText (c : Cn) (hc : FitsC c) (A : Option Addr) (l k : Nat) (L : List Pr) (hl : L.length = l) (hfit : ∀ x ∈ L, PrF x) (hm : l ≤ 4096) (w : World) (hA : LinksAt w A L) :
    Calls Tryd.prog 21 #[.agg (c.cells A l k).toArray] w fun e w' => e = .returned (.string ⟨(textC c L).toArray⟩) ∧ Below w.heap.size w w' := by
  have HFT := Lib.hid (fun k => hc.at_ k)
  have HHL := Lib.hid (fun k => rHead_le hc k)
  have HTX : Hid (textC c L = rHead (numsC c) 14 ++ [108, 105, 110, 107, 115] ++ linksT L) := by rw [rHead_all]; rfl
  have HLL := Lib.hid (linksT_le hfit)
  have HLN := Lib.hid hl
  have HFI := Lib.hid hfit
  have HLT := Lib.hid (fun (k : Nat) => linksT_le (L := L.take k) (fun x hx => hfit x (List.mem_of_mem_take hx)))
  clear hfit hc
  obtain ⟨n, f, dmin, dmax, rho, slew, round, window, attend, seen, hist, fly, quota, body⟩ := c
  have HNU := Lib.hid (fun (W : World) (B : Nat) (h : BoxF W B [.int .i64 n, .int .i64 f, .int .i64 dmin, .int .i64 dmax, .int .i64 rho, .int .i64 slew, .int .i64 round, .int .i64 window, .int .i64 attend, .int .i64 seen, .int .i64 hist, .int .i64 fly, .int .i64 quota, .int .i64 body]) (j : Nat) (hj : j < 14) => rNum_at h j hj)
  have HNA := Lib.hid (fun (W : World) (B : Nat) (h : BoxF W B [.string ⟨#[110, 111, 100, 101, 115]⟩, .string ⟨#[102, 97, 117, 108, 116, 115]⟩, .string ⟨#[100, 101, 108, 97, 121]⟩, .string ⟨#[]⟩, .string ⟨#[100, 114, 105, 102, 116]⟩, .string ⟨#[]⟩, .string ⟨#[114, 111, 117, 110, 100]⟩, .string ⟨#[119, 105, 110, 100, 111, 119]⟩, .string ⟨#[97, 116, 116, 101, 110, 100]⟩, .string ⟨#[115, 101, 101, 110]⟩, .string ⟨#[104, 105, 115, 116]⟩, .string ⟨#[102, 108, 121]⟩, .string ⟨#[113, 117, 111, 116, 97]⟩, .string ⟨#[98, 111, 100, 121]⟩]) (j : Nat) (hj : j < 14) => rName_at h j hj)
  obtain ⟨ns, hns⟩ : ∃ ns, numsC ⟨n, f, dmin, dmax, rho, slew, round, window, attend, seen, hist, fly, quota, body⟩ = ns := ⟨_, rfl⟩
  rw [hns] at HNU HFT HHL HTX
  obtain ⟨tx, htx⟩ : ∃ tx, textC ⟨n, f, dmin, dmax, rho, slew, round, window, attend, seen, hist, fly, quota, body⟩ L = tx := ⟨_, rfl⟩
  rw [htx] at HTX ⊢
  clear hns htx
  have k0 := boxF_made w [.int .i64 n, .slice A l k, .int .i64 f, .int .i64 dmin, .int .i64 dmax, .int .i64 rho, .int .i64 slew, .int .i64 round, .int .i64 window, .int .i64 attend, .int .i64 seen, .int .i64 hist, .int .i64 fly, .int .i64 quota, .int .i64 body] 24
  have k1 := (Below.refl w.heap.size w).alloc (Nat.le_refl _) (.cells #[.int .i64 n, .slice A l k, .int .i64 f, .int .i64 dmin, .int .i64 dmax, .int .i64 rho, .int .i64 slew, .int .i64 round, .int .i64 window, .int .i64 attend, .int .i64 seen, .int .i64 hist, .int .i64 fly, .int .i64 quota, .int .i64 body] 24)
  obtain ⟨w1, hw1⟩ : ∃ w1, w.alloc (.cells #[.int .i64 n, .slice A l k, .int .i64 f, .int .i64 dmin, .int .i64 dmax, .int .i64 rho, .int .i64 slew, .int .i64 round, .int .i64 window, .int .i64 attend, .int .i64 seen, .int .i64 hist, .int .i64 fly, .int .i64 quota, .int .i64 body] 24) = w1 := ⟨_, rfl⟩
  have hs1 : w1.heap.size = w.heap.size + 1 := by rw [← hw1]; simp
  rw [hw1] at k0 k1
  have n0 := boxF_made w1 [.string ⟨#[110, 111, 100, 101, 115]⟩, .string ⟨#[102, 97, 117, 108, 116, 115]⟩, .string ⟨#[100, 101, 108, 97, 121]⟩, .string ⟨#[]⟩, .string ⟨#[100, 114, 105, 102, 116]⟩, .string ⟨#[]⟩, .string ⟨#[114, 111, 117, 110, 100]⟩, .string ⟨#[119, 105, 110, 100, 111, 119]⟩, .string ⟨#[97, 116, 116, 101, 110, 100]⟩, .string ⟨#[115, 101, 101, 110]⟩, .string ⟨#[104, 105, 115, 116]⟩, .string ⟨#[102, 108, 121]⟩, .string ⟨#[113, 117, 111, 116, 97]⟩, .string ⟨#[98, 111, 100, 121]⟩] 9
  have n1 := k0.keep ((Below.refl w1.heap.size w1).alloc (Nat.le_refl _) (.cells #[.string ⟨#[110, 111, 100, 101, 115]⟩, .string ⟨#[102, 97, 117, 108, 116, 115]⟩, .string ⟨#[100, 101, 108, 97, 121]⟩, .string ⟨#[]⟩, .string ⟨#[100, 114, 105, 102, 116]⟩, .string ⟨#[]⟩, .string ⟨#[114, 111, 117, 110, 100]⟩, .string ⟨#[119, 105, 110, 100, 111, 119]⟩, .string ⟨#[97, 116, 116, 101, 110, 100]⟩, .string ⟨#[115, 101, 101, 110]⟩, .string ⟨#[104, 105, 115, 116]⟩, .string ⟨#[102, 108, 121]⟩, .string ⟨#[113, 117, 111, 116, 97]⟩, .string ⟨#[98, 111, 100, 121]⟩] 9))
  have n2 := k1.alloc (by rw [hs1]; omega) (.cells #[.string ⟨#[110, 111, 100, 101, 115]⟩, .string ⟨#[102, 97, 117, 108, 116, 115]⟩, .string ⟨#[100, 101, 108, 97, 121]⟩, .string ⟨#[]⟩, .string ⟨#[100, 114, 105, 102, 116]⟩, .string ⟨#[]⟩, .string ⟨#[114, 111, 117, 110, 100]⟩, .string ⟨#[119, 105, 110, 100, 111, 119]⟩, .string ⟨#[97, 116, 116, 101, 110, 100]⟩, .string ⟨#[115, 101, 101, 110]⟩, .string ⟨#[104, 105, 115, 116]⟩, .string ⟨#[102, 108, 121]⟩, .string ⟨#[113, 117, 111, 116, 97]⟩, .string ⟨#[98, 111, 100, 121]⟩] 9)
  obtain ⟨w2, hw2⟩ : ∃ w2, w1.alloc (.cells #[.string ⟨#[110, 111, 100, 101, 115]⟩, .string ⟨#[102, 97, 117, 108, 116, 115]⟩, .string ⟨#[100, 101, 108, 97, 121]⟩, .string ⟨#[]⟩, .string ⟨#[100, 114, 105, 102, 116]⟩, .string ⟨#[]⟩, .string ⟨#[114, 111, 117, 110, 100]⟩, .string ⟨#[119, 105, 110, 100, 111, 119]⟩, .string ⟨#[97, 116, 116, 101, 110, 100]⟩, .string ⟨#[115, 101, 101, 110]⟩, .string ⟨#[104, 105, 115, 116]⟩, .string ⟨#[102, 108, 121]⟩, .string ⟨#[113, 117, 111, 116, 97]⟩, .string ⟨#[98, 111, 100, 121]⟩] 9) = w2 := ⟨_, rfl⟩
  have hs2 : w2.heap.size = w1.heap.size + 1 := by rw [← hw2]; simp
  rw [hw2] at n0 n1 n2
  have d0 := n1.1 0 _ rfl
  have d1 := n1.1 1 _ rfl
  have d2 := n1.1 2 _ rfl
  have d3 := n1.1 3 _ rfl
  have d4 := n1.1 4 _ rfl
  have d5 := n1.1 5 _ rfl
  have d6 := n1.1 6 _ rfl
  have d7 := n1.1 7 _ rfl
  have d8 := n1.1 8 _ rfl
  have d9 := n1.1 9 _ rfl
  have d10 := n1.1 10 _ rfl
  have d11 := n1.1 11 _ rfl
  have d12 := n1.1 12 _ rfl
  have d13 := n1.1 13 _ rfl
  have d14 := n1.1 14 _ rfl
  have m0 := boxF_made w2 [.int .i64 n, .int .i64 f, .int .i64 dmin, .int .i64 dmax, .int .i64 rho, .int .i64 slew, .int .i64 round, .int .i64 window, .int .i64 attend, .int .i64 seen, .int .i64 hist, .int .i64 fly, .int .i64 quota, .int .i64 body] 2
  have m1 := n0.keep ((Below.refl w2.heap.size w2).alloc (Nat.le_refl _) (.cells #[.int .i64 n, .int .i64 f, .int .i64 dmin, .int .i64 dmax, .int .i64 rho, .int .i64 slew, .int .i64 round, .int .i64 window, .int .i64 attend, .int .i64 seen, .int .i64 hist, .int .i64 fly, .int .i64 quota, .int .i64 body] 2))
  have m2 := n1.keep ((Below.refl w2.heap.size w2).alloc (Nat.le_refl _) (.cells #[.int .i64 n, .int .i64 f, .int .i64 dmin, .int .i64 dmax, .int .i64 rho, .int .i64 slew, .int .i64 round, .int .i64 window, .int .i64 attend, .int .i64 seen, .int .i64 hist, .int .i64 fly, .int .i64 quota, .int .i64 body] 2))
  have m3 := n2.alloc (by rw [hs2, hs1]; omega) (.cells #[.int .i64 n, .int .i64 f, .int .i64 dmin, .int .i64 dmax, .int .i64 rho, .int .i64 slew, .int .i64 round, .int .i64 window, .int .i64 attend, .int .i64 seen, .int .i64 hist, .int .i64 fly, .int .i64 quota, .int .i64 body] 2)
  obtain ⟨w3, hw3⟩ : ∃ w3, w2.alloc (.cells #[.int .i64 n, .int .i64 f, .int .i64 dmin, .int .i64 dmax, .int .i64 rho, .int .i64 slew, .int .i64 round, .int .i64 window, .int .i64 attend, .int .i64 seen, .int .i64 hist, .int .i64 fly, .int .i64 quota, .int .i64 body] 2) = w3 := ⟨_, rfl⟩
  have hs3 : w3.heap.size = w2.heap.size + 1 := by rw [← hw3]; simp
  rw [hw3] at m0 m1 m2 m3
  have HS := Lib.hid (And.intro hs1 (And.intro hs2 hs3))
  have HNB := Lib.hid m1
  have HUB := Lib.hid m0
  have HCB := Lib.hid m2
  have HB3 := Lib.hid m3
  clear hs1 hs2 hs3 m0 m1 m2 m3 n0 n2 k0 k1
  go_enter Tryd.func21, Tryd.ntmps21
  go_wp2_with fail
  clear d0 d1 d2 d3 d4 d5 d6 d7 d8 d9 d10 d11 d12 d13 d14 n1 hw1 hw2 hw3
  go_loopw [5, 6] (fun s i wr => ∃ j : Nat, j ≤ 14 ∧ i = .int .i64 j ∧ s = .string ⟨(rHead ns j).toArray⟩ ∧ Below w3.heap.size w3 wr) (fun _ i _ => 14 - (intOf i).toNat)
  case atStart => exact ⟨0, by omega, rfl, rfl, Below.refl _ _⟩
  case round =>
    obtain ⟨j, hj, rfl, rfl, hb⟩ := hrel
    by_cases hlt : j < 14
    · have cn := HNA.out wr _ (HNB.out.keep hb) j hlt
      have cu := HNU.out wr _ (HUB.out.keep hb) j hlt
      have hft := HFT.out j
      have hsn := rHead_succ ns j
      have hnl := rNameL_le j
      have hhl := HHL.out j
      have HP0 : Hid (rNameL.getD j [] = [] → rPre j = []) := fun h => by unfold rPre; rw [if_pos h]
      have HP1 : Hid (rNameL.getD j [] ≠ [] → rPre j = rNameL.getD j [] ++ [32]) := fun h => by unfold rPre; rw [if_neg h]
      obtain ⟨x, hx⟩ : ∃ x, ns.getD j 0 = x := ⟨_, rfl⟩
      obtain ⟨nm, hnm⟩ : ∃ nm, rNameL.getD j [] = nm := ⟨_, rfl⟩
      obtain ⟨pr, hpr⟩ : ∃ pr, rPre j = pr := ⟨_, rfl⟩
      rw [hx] at cu hft hsn
      rw [hnm] at cn hnl HP0 HP1
      rw [hpr] at hsn HP0 HP1
      have hil := itoa_le hft
      obtain ⟨hd, hhd⟩ : ∃ hd, rHead ns j = hd := ⟨_, rfl⟩
      rw [hhd] at hsn hhl ⊢
      obtain ⟨it, hit⟩ : ∃ it, Lib.itoa x = it := ⟨_, rfl⟩
      have CD := Lib.hid (fun W => hit ▸ digits06 x hft.1 hft.2 W)
      rw [hit] at hsn hil
      have HSN := Lib.hid hsn
      have HB := Lib.hid hb
      clear hsn hx hnm hpr hhd hit hb hft
      by_cases hq : nm = []
      · subst hq
        go_wp2_with fail
        refine (CD.out _).mono ?_
        rintro e w4 ⟨rfl, rfl⟩
        go_wp2
        go_roundw
        case rel => exact ⟨j + 1, by omega, by go_num, by rw [HSN.out, HP0.out (by trivial), str_app, str_app, List.nil_append, List.append_assoc], HB.out⟩
        case measure => simp [intOf]; omega
      · have hq' : nm.isEmpty = false := by cases nm with
          | nil => exact absurd rfl hq
          | cons a r => rfl
        have HQ := Lib.hid (HP1.out hq)
        clear hq
        go_wp2_with fail
        refine (CD.out _).mono ?_
        rintro e w4 ⟨rfl, rfl⟩
        go_wp2
        go_roundw
        case rel => exact ⟨j + 1, by omega, by go_num, by rw [HSN.out, HQ.out, str_app, str_app, str_app, str_app]; simp only [List.append_assoc], HB.out⟩
        case measure => simp [intOf]; omega
    · obtain rfl : j = 14 := by omega
      have hhl := HHL.out 14
      obtain ⟨hd, hhd⟩ : ∃ hd, rHead ns 14 = hd := ⟨_, rfl⟩
      rw [hhd] at hhl HTX ⊢
      have HB := Lib.hid hb
      clear hb hhd
      obtain ⟨hw, hhw⟩ : ∃ hw, hd ++ [108, 105, 110, 107, 115] = hw := ⟨_, rfl⟩
      have HST : Hid ((⟨hd.toArray⟩ : ByteArray) ++ ⟨#[108, 105, 110, 107, 115]⟩ = ⟨hw.toArray⟩) := by rw [← hhw]; exact str_app hd [108, 105, 110, 107, 115]
      have hwl : hw.length ≤ 420 := by rw [← hhw, List.length_append]; show hd.length + 5 ≤ 420; omega
      rw [hhw] at HTX
      clear hhw
      have c1 := fun (W : World) (h : Below w3.heap.size w3 W) => (HCB.out.keep h).1 1 _ rfl
      have CC1 := Lib.hid c1
      have q1 := c1 wr HB.out
      clear c1
      go_wp2_with fail
      go_loopw [5, 7] (fun s i wr => ∃ j : Nat, j ≤ l ∧ i = .int .i64 j ∧ s = .string ⟨(hw ++ linksT (L.take j)).toArray⟩ ∧ Below w3.heap.size w3 wr) (fun _ i _ => l - (intOf i).toNat)
      case atStart => exact ⟨0, by omega, rfl, by rw [HST.out]; simp [linksT], HB.out⟩
      case round =>
        obtain ⟨j, hj, rfl, rfl, hb⟩ := hrel
        clear q1
        have q2 := CC1.out wr hb
        clear HB
        by_cases hlt : j < l
        · have hlt' : j < L.length := by rw [HLN.out]; exact hlt
          have hbw : Below w.heap.size w wr := HB3.out.trans (hb.mono HB3.out.size)
          obtain ⟨b, off, rfl, e0, e1⟩ := hA.at_ hbw hlt'
          have hpf := HFI.out L[j] (List.getElem_mem hlt')
          have HSN := Lib.hid (linksT_succ L j hlt')
          have hLT := HLT.out j
          have hll := linkT_le hpf
          rw [List.length_take] at hLT
          obtain ⟨ls, hls⟩ : ∃ ls, hw ++ linksT (L.take j) = ls := ⟨_, rfl⟩
          have hlsl : ls.length ≤ 420 + 44 * 4096 := by rw [← hls, List.length_append]; omega
          rw [hls]
          have HLS := Lib.hid hls
          obtain ⟨x, hx⟩ : ∃ x, L[j].1 = x := ⟨_, rfl⟩
          obtain ⟨y, hy⟩ : ∃ y, L[j].2 = y := ⟨_, rfl⟩
          have HLK : Hid (linkT L[j] = 32 :: (Lib.itoa x ++ 45 :: Lib.itoa y)) := by unfold Hid linkT; rw [hx, hy]
          unfold PrF at hpf
          rw [hx, hy] at hpf
          rw [hx] at e0
          rw [hy] at e1
          have fx : -9223372036854775808 ≤ x ∧ x ≤ 9223372036854775807 := by omega
          have fy : -9223372036854775808 ≤ y ∧ y ≤ 9223372036854775807 := by omega
          have ix := itoa_le fx
          have iy := itoa_le fy
          have hlt1 := World.block_lt_of_cell? _ _ q2
          have d0 : ∀ W : Later wr, W.val.cell? ⟨b, off + j * 2, none⟩ = some (.int .i64 x) := fun W => Later.cell e0 W
          have d1 : ∀ W : Later wr, W.val.cell? ⟨b, off + j * 2 + 1, none⟩ = some (.int .i64 y) := fun W => Later.cell e1 W
          have d2 : ∀ W : Later wr, W.val.cell? ⟨w.heap.size, 1, none⟩ = some (.slice (some ⟨b, off, none⟩) l k) := fun W => Later.cell q2 W
          obtain ⟨sx, hsx⟩ : ∃ sx : ByteArray, (⟨(Lib.itoa x).toArray⟩ : ByteArray) = sx := ⟨_, rfl⟩
          obtain ⟨sy, hsy⟩ : ∃ sy : ByteArray, (⟨(Lib.itoa y).toArray⟩ : ByteArray) = sy := ⟨_, rfl⟩
          have CX := Lib.hid (fun W : Later wr => digLater hsx fx W)
          have CY := Lib.hid (fun W : Later wr => digLater hsy fy W)
          have hsx1 : (sx.size : Int) ≤ 21 := by rw [← hsx, str_size']; omega
          have hsy1 : (sy.size : Int) ≤ 21 := by rw [← hsy, str_size']; omega
          have HSX := Lib.hid hsx
          have HSY := Lib.hid hsy
          have HB4 := Lib.hid hb
          clear hb hbw e0 e1 hsx hsy hls hx hy ix iy hLT hll fx fy hpf hlt1
          go_wp2_with fail
          clear q2
          refine wp_region_later (by kernel_rfl) (by kernel_rfl) ?_
          iterate 8 (go_big_quiet_step (fail))
          go_big_quiet_step (exact CX.out _)
          iterate 8 (go_big_quiet_step (fail))
          go_big_quiet_step (exact CY.out _)
          repeat (go_big_quiet_step (fail))
          refine wpQuiet_nil ?_
          rintro w5 ⟨⟨W, hW⟩, rfl⟩
          have hW0 : Below wr.heap.size wr w5 := hW
          clear hW
          clear d0 d1 d2 CX CY
          go_wp2
          go_roundw
          case rel => exact ⟨j + 1, by omega, by go_num, by rw [HSN.out, HLK.out, ← List.append_assoc, HLS.out, ← HSX.out, ← HSY.out, show (⟨#[32]⟩ : ByteArray) = ⟨([32] : List UInt8).toArray⟩ from rfl, show (⟨#[45]⟩ : ByteArray) = ⟨([45] : List UInt8).toArray⟩ from rfl, str_app, str_app, str_app, str_app]; simp only [List.append_assoc, List.cons_append, List.nil_append], HB4.out.trans (hW0.mono HB4.out.size)⟩
          case measure => simp [intOf]; omega
        · obtain rfl : j = l := by omega
          have ht : L.take j = L := List.take_of_length_le (by rw [HLN.out]; exact Nat.le_refl _)
          rw [ht, ← HTX.out]
          have HB := Lib.hid hb
          clear hb ht
          go_wp2
          go_ret
          exact ⟨rfl, HB3.out.trans (HB.out.mono HB3.out.size)⟩
end Go.Proofs.YtpbfacabafkheaaDoor
