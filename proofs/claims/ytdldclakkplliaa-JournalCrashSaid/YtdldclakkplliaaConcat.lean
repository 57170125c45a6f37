/- The walks of slices.Grow (of nothing) and slices.Concat. Conditions: none. -/
import Derived.Test.YtdldclakkplliaaClone
import Derived.Lib.AppendZerosOnto
import Derived.Lib.SliceRun
import Derived.Lib.Walk
namespace Go.Proofs.Ytdldclakkplliaa
set_option linter.unusedVariables false
set_option linter.unusedSimpArgs false
open Go.RowKit

theorem OB.room (w : World) (G : Nat) (hG : G ≤ maxLen) (cs : Array Value) (hc : cs.size = G) : OB (w.alloc (.cells cs 5)) w.heap.size 5 (.slice (some ⟨w.heap.size, 0, none⟩) 0 G) [] := by
  refine OB.mk' ⟨rfl, .inr ⟨_, G, cs, rfl, Nat.le_refl _, heap_alloc_new w _, Nat.zero_le _, hG, by omega, by simp [cellsOf]⟩⟩
set_option maxHeartbeats 2000000 in
set_option maxRecDepth 100000 in
theorem grow_any (n : Nat) (w : World) (hn : n ≤ 1000000000) : Calls Try.prog 70 #[.slice none 0 0, .int .i64 n] w fun e w' => ∃ v, e = .returned v ∧ OB w' w.heap.size 5 v [] ∧ Below w.heap.size w w' := by
  rcases Nat.eq_zero_or_pos n with h0 | h0
  · subst h0
    go_enter Try.func70, Try.ntmps70
    go_wp2
    go_ret
    exact ⟨_, rfl, OB.nil _ _ _, Below.refl _ _⟩
  · obtain ⟨i5, hi5, hz5⟩ := Option.map_eq_some_iff.1 info5
    simp only [Prod.mk.injEq] at hz5
    obtain ⟨hz0, hz1, hz2⟩ := hz5
    have hrz : ∀ ty, (Builtin.append_ #[22, 3] ty #[.slice none 0 0, .int .i64 (n : Int)]).run Try.prog w = .ok (.slice (some ⟨w.heap.size, 0, none⟩) n (grownCap w n 0 5)) (w.drew.alloc (.cells (#[] ++ Builtin.zeroCells (Value.int .u8 0).cells n ++ Builtin.zeroCells (Value.int .u8 0).cells (grownCap w n 0 5 - n)) 5)) := fun ty => by
      have h := Lib.run_append_grow_zeros (P := Try.prog) w 22 3 ty 5 i5 (.int .u8 0) .i64 .i64 Try.underlying22 Try.underlying3 hi5 hz0 none 0 0 [] (run_firstCells_none w.drew i5.size 0 0 0) n h0 (by omega) (by omega) (by omega) (by rw [hz2]; omega) (growslice_fits (by omega) (by rw [hz2]; omega))
      rw [Nat.zero_add] at h
      exact h
    have hGn : n ≤ grownCap w n 0 5 := grownCap_ge w _ _ _
    have hGm : grownCap w n 0 5 ≤ maxLen := grownCap_le_maxLen w n 0 5 (by unfold maxLen; omega)
    obtain ⟨G, hG⟩ : ∃ G, G = grownCap w n 0 5 := ⟨_, rfl⟩
    rw [← hG] at hrz hGn hGm
    have hG63 : G ≤ 9223372036854775807 := by unfold maxLen at hGm; omega
    have HGM := Lib.hid hGm
    have hpos : 0 < n := h0
    obtain ⟨C, hC⟩ : ∃ C, C = (#[] ++ Builtin.zeroCells (Value.int .u8 0).cells n ++ Builtin.zeroCells (Value.int .u8 0).cells (G - n)) := ⟨_, rfl⟩
    have hcs : C.size = G := by 
      have h1 : (Value.int .u8 0).cells.size = 1 := rfl
      rw [hC, Array.size_append, Array.size_append]
      simp only [Builtin.zeroCells, Array.size_map, Array.size_range, h1]
      simp
      omega
    have HCS := Lib.hid hcs
    rw [← hC] at hrz
    clear hG hC hcs hGm
    go_enter Try.func70, Try.ntmps70
    go_wp2_with (at_builtin; refine Lib.wpList_append_run _ rfl _ _ _ _ rfl _ _ rfl rfl _ _ (hrz _) ?_)
    go_ret
    exact ⟨_, rfl, OB.room w.drew G HGM.out C HCS.out, bel_alloc (bel_drew (Below.refl _ _)) _⟩

/-- How many bytes the first pieces have. -/
def lens (ls : List (List UInt8)) : Nat := ls.flatten.length
theorem lens_take (ls : List (List UInt8)) (k : Nat) (h : k < ls.length) : (ls.take (k + 1)).flatten = (ls.take k).flatten ++ ls.getD k [] := by
  rw [List.take_succ_eq_append_getElem h, List.flatten_append, List.getD_eq_getElem?_getD, List.getElem?_eq_getElem h]
  simp
theorem lens_le (ls : List (List UInt8)) (k : Nat) : (ls.take k).flatten.length ≤ ls.flatten.length := by
  have e : ls.flatten = (ls.take k).flatten ++ (ls.drop k).flatten := by rw [← List.flatten_append, List.take_append_drop]
  rw [e, List.length_append]
  omega
set_option maxHeartbeats 2000000 in
set_option maxRecDepth 100000 in
theorem concat_any (A : Option Addr) (c : Nat) (ls : List (List UInt8)) (w : World) (hr : RL w A ls) (hl : ls.length ≤ 1000) (ht : ls.flatten.length ≤ 1000000000) :
    Calls Try.prog 47 #[.slice A ls.length c] w fun e w' => ∃ v, e = .returned v ∧ OB w' w.heap.size 5 v ls.flatten ∧ Below w.heap.size w w' := by
  have HR := Lib.hid hr
  obtain ⟨n, hn⟩ : ∃ n, n = ls.length := ⟨_, rfl⟩
  obtain ⟨t, htt⟩ : ∃ t, t = ls.flatten.length := ⟨_, rfl⟩
  have HN := Lib.hid hn
  have HT := Lib.hid htt
  rw [← hn] at hl
  rw [← htt] at ht
  rw [← hn]
  clear hr hn htt
  go_enter Try.func47, Try.ntmps47
  go_wp2
  go_loop [3, 5, 11] (fun u3 u5 u11 => ∃ (k q : Nat), k ≤ n ∧ q ≤ t ∧ u11 = .int .i64 k ∧ u3 = .int .i64 q ∧ Hid (q = (ls.take k).flatten.length)) (fun _ _ u11 => n - (intOf u11).toNat)
  case atStart => exact ⟨0, 0, Nat.zero_le _, Nat.zero_le _, rfl, rfl, Lib.hid rfl⟩
  case round =>
    obtain ⟨k, q, hk, hq, rfl, rfl, HQ⟩ := hrel
    by_cases hlt : k < n
    · obtain ⟨ad, Ak, ck, b, rfl, hb, hcell, -, -⟩ := HR.out.at_ k (by rw [← HN.out]; exact hlt)
      have hst := lens_take ls k (by rw [← HN.out]; exact hlt)
      have hle := lens_le ls (k + 1)
      rw [← hb] at hst
      have hq2 : (ls.take (k + 1)).flatten.length = q + b.length := by rw [hst, List.length_append, ← HQ.out]
      rw [hq2, ← HT.out] at hle
      have HQ2 := Lib.hid hq2
      obtain ⟨m, hm⟩ : ∃ m, m = b.length := ⟨_, rfl⟩
      rw [← hm] at hle hcell HQ2
      clear hst hq2 hb hm
      have hnn : ¬ ((q : Int) + m < 0) := by omega
      go_wp2
      go_round
      case rel => exact ⟨k + 1, q + m, by omega, hle, by go_num, by go_num, Lib.hid HQ2.out.symm⟩
      case measure => simp [intOf]; omega
    · obtain rfl : k = n := by omega
      have hqt : q = t := by rw [HQ.out, HT.out, List.take_of_length_le (by rw [HN.out]; exact Nat.le_refl _)]
      subst hqt
      clear HQ
      go_wp2_with fail
      refine (grow_any q w (by omega)).mono ?_
      rintro e w1 ⟨v, rfl, ho, hb⟩
      have HO := Lib.hid ho
      have HB := Lib.hid hb
      clear ho hb
      go_wp2
      go_loopw [6, 8, 27] (fun u6 u8 u27 w' => ∃ (j : Nat), j ≤ k ∧ u27 = .int .i64 j ∧ Hid (OB w' w.heap.size 5 u6 (ls.take j).flatten) ∧ Hid (Below w.heap.size w w')) (fun _ _ u27 _ => k - (intOf u27).toNat)
      case atStart => exact ⟨0, Nat.zero_le _, rfl, HO, HB⟩
      case round =>
        clear HO HB
        obtain ⟨j, hj, rfl, HO, HB⟩ := hrel
        by_cases hlt2 : j < k
        · obtain ⟨ad, Ak, ck, b, rfl, hb, hcell0, hsv, hrb⟩ := HR.out.at_ j (by rw [← HN.out]; exact hlt2)
          have hcell := (HB.out.cell (World.block_lt_of_cell? w _ hcell0)).trans hcell0
          have hst := lens_take ls j (by rw [← HN.out]; exact hlt2)
          have hle := lens_le ls (j + 1)
          rw [← hb] at hst
          rw [hst, List.length_append, ← HT.out] at hle
          have HST := Lib.hid hst
          have HRB := Lib.hid (hrb.below HB.out)
          have HSV := Lib.hid hsv
          obtain ⟨pre, hpre⟩ : ∃ p, p = (ls.take j).flatten := ⟨_, rfl⟩
          rw [← hpre] at hle HST HO
          clear hst hcell0 hb hsv hrb hpre
          go_wp2_with (first | (at_builtin; go_loud (refine wp_app_bytes rfl _ _ 22 rfl w.heap.size 5 Try.underlying22 info5 _ pre rfl HO.out _ _ b rfl HSV.out.2 HRB.out (by omega) HB.out.size ?_); intro v1 w2 ho hg _; have HO2 := Lib.hid ho; have HB2 := Lib.hid (bel_grown HB.out hg (fun k e => HO.out.base_ k e)); clear ho hg) | fail)
          go_roundw
          case rel => exact ⟨j + 1, by omega, by go_num, Lib.hid (by rw [HST.out]; exact HO2.out), HB2⟩
          case measure => simp [intOf]; omega
        · obtain rfl : j = k := by omega
          go_wp2
          go_ret
          have := HO.out
          rw [List.take_of_length_le (by rw [HN.out]; exact Nat.le_refl _)] at this
          exact ⟨_, rfl, this, HB.out⟩
end Go.Proofs.Ytdldclakkplliaa
