/- The walk of DiskPlays: each call answers, and each sector shows, as the document's. Conditions: none. -/
import Derived.Test.YtdldclakkplliaaShows
namespace Go.Proofs.Ytdldclakkplliaa
set_option linter.unusedVariables false
set_option linter.unusedSimpArgs false
open Go.RowKit

set_option maxRecDepth 100000 in
set_option maxHeartbeats 8000000 in
theorem plays_walk (S : Int) (A : Option Addr) (c : Nat) (ss : List S3) (w : World) (hr : RT w A ss) (hl : ss.length ≤ 60) (hwf : ∀ s ∈ ss, s.wf) (hS : -9223372036854775808 ≤ S ∧ S ≤ 9223372036854775807) :
    Calls Try.prog 8 #[.int .i64 S, .slice A ss.length c] w fun e w' => e = .returned (.bool true) ∧ Below w.heap.size w w' := by
  have HR := Lib.hid hr
  have HWF := Lib.hid hwf
  obtain ⟨len, hlen⟩ : ∃ m, m = ss.length := ⟨_, rfl⟩
  have HLEN := Lib.hid hlen
  rw [← hlen] at hl ⊢
  have hz3 : decide (60 < (len : Int)) = false := by simp; omega
  clear hr hwf hlen
  by_cases hin : 1 ≤ S ∧ S ≤ 65536
  · obtain ⟨n, rfl⟩ : ∃ n : Nat, S = (n : Int) := ⟨S.toNat, by omega⟩
    go_enter Try.func8, Try.ntmps8
    go_wp2_with fail
    refine (new_any 1 n (by omega) w (fun _ => 0) ⟨by omega, by omega⟩).mono ?_
    rintro e w1 ⟨gd, mb, c1, rfl, s1, h1⟩
    have O1 := Lib.hid ((Old.init w).step s1 (by omega))
    have D1 := Lib.hid h1
    clear s1 h1
    go_wp2_with fail
    refine (rnew_any 2 n (by omega) w1 c1 ⟨by omega, by omega⟩).mono ?_
    rintro e w2 ⟨gm, c2, rfl, s2, h2⟩
    have O2 := Lib.hid (O1.out.step s2 (by omega))
    have P2 : Hid (Pair w2 c2 1 2 gd mb gm 0 (newDK n) (newRK n)) := Lib.hid ⟨D1.out.step s2 (by omega) (by omega), h2, twin_new n, newDK_fits n, by simp [newDK]⟩
    clear s2 h2 O1 D1
    go_wp2
    go_loopw [9, 10, 11] (fun u9 u10 u11 w' => ∃ (i : Nat) (d : DK) (r : RK) (col : Nat → Nat), i ≤ len ∧ u9 = .int .i64 i ∧ Hid (Old w w' col) ∧ Hid (Pair w' col 1 2 gd mb gm i d r)) (fun u9 _ _ _ => len - (intOf u9).toNat)
    case atStart => exact ⟨0, _, _, c2, by omega, rfl, O2, P2⟩
    case round =>
      clear O2 P2
      obtain ⟨i, d, r, col, hi, rfl, HO, HP⟩ := hrel
      by_cases hlt : i < len
      · obtain ⟨s, hs⟩ : ∃ s, ss[i]? = some s := ⟨_, List.getElem?_eq_getElem (by rw [← HLEN.out]; exact hlt)⟩
        obtain ⟨ad, rfl, x0, x1, x2⟩ := (HR.out.below HO.out.below).at_ i s hs
        have HS := Lib.hid (HWF.out s (List.mem_of_getElem? hs))
        obtain ⟨sk, sa, sn⟩ := s
        simp only at x0 x1 x2
        clear hs
        go_wp2_with fail
        refine (does_any 1 2 gd mb gm i d r sk sa sn wr col HP.out (by omega) (by omega) (by omega) (by omega) HS.out.2.2).mono ?_
        rintro e w3 ⟨x, d3, r3, c3, rfl, p3, hp3, -⟩
        have O3 := Lib.hid (HO.out.path p3 (fun j hj => by rcases hj with rfl | rfl <;> omega))
        have P3 := Lib.hid hp3
        have hxx : (x != x) = false := by simp
        clear p3 hp3 x0 x1 x2 HO HP
        go_wp2_with fail
        refine (shows_any 1 2 gd mb gm (i + 1) d3 r3 w3 c3 P3.out (by omega)).mono ?_
        rintro e w4 ⟨rfl, hb4⟩
        have O4 := Lib.hid (O3.out.grow hb4 (fun _ => 0))
        have P4 := Lib.hid (P3.out.grow hb4 (fun _ => 0))
        clear hb4 O3 P3
        go_wp2
        go_roundw
        case rel => exact ⟨i + 1, _, _, _, by omega, by go_num, O4, P4⟩
        case measure => simp [intOf]; omega
      · obtain rfl : i = len := by omega
        go_wp2_with fail
        refine (awake_any wr).mono ?_
        rintro e w5 ⟨rfl, hb⟩
        have O5 := Lib.hid (HO.out.grow hb (fun _ => 0))
        clear hb
        go_wp2
        go_ret
        exact ⟨rfl, O5.out.below⟩
  · have hbad : S < 1 ∨ 65536 < S := by omega
    have HBAD := Lib.hid hbad
    clear hin hbad
    go_enter Try.func8, Try.ntmps8
    go_wp2_with fail
    refine (new_bad S w HBAD.out).mono ?_
    rintro e w' ⟨rfl, rfl⟩
    go_wp2_with fail
    refine (rnew_bad S w HBAD.out).mono ?_
    rintro e w' ⟨rfl, rfl⟩
    go_wp2_with fail
    refine (awake_any w).mono ?_
    rintro e w5 ⟨rfl, hb⟩
    have HB := Lib.hid hb
    clear hb
    go_wp2
    go_ret
    exact ⟨rfl, HB.out⟩
set_option maxRecDepth 100000 in
theorem plays_main (S : Int) (A : Option Addr) (c : Nat) (ss : List S3) (w : World) (hr : RT w A ss) (hwf : ∀ s ∈ ss, s.wf) (hS : -9223372036854775808 ≤ S ∧ S ≤ 9223372036854775807) :
    Calls Try.prog 8 #[.int .i64 S, .slice A ss.length c] w fun e w' => e = .returned (.bool true) ∧ Below w.heap.size w w' := by
  by_cases h : ss.length ≤ 60
  · exact plays_walk S A c ss w hr h hwf hS
  · obtain ⟨len, hxa⟩ : ∃ m, m = ss.length := ⟨_, rfl⟩
    rw [← hxa] at h
    rw [← hxa]
    clear hxa hr hwf
    have hz : (decide (60 < (len : Int))) = true := by
      simp only [Bool.or_eq_true, decide_eq_true_eq]
      omega
    clear h 
    go_enter Try.func8, Try.ntmps8
    go_wp2_with fail
    refine (awake_any w).mono ?_
    rintro e w1 ⟨rfl, hb⟩
    have HB := Lib.hid hb
    clear hb
    go_wp2
    go_ret
    exact ⟨rfl, HB.out⟩

end Go.Proofs.Ytdldclakkplliaa
