/- The walks of the law's small helpers: same, Sum, Ints. Conditions: none. -/
import Derived.Test.YtbjkeakehdljlaaRefDouble
namespace Go.Proofs.Ytbjkeakehdljlaa
set_option linter.unusedVariables false
set_option linter.unusedSimpArgs false
open Go.RowKit

def sat : Int → List Int → Int
  | n, [] => n
  | n, m :: ms => if n > 1099511627776 ∨ m > 1099511627776 - n then 1099511627776 else sat (n + m) ms
theorem sat_drop (n : Int) (xs : List Int) (k : Nat) (h : k < xs.length) : sat n (xs.drop k) = if n > 1099511627776 ∨ xs.getD k 0 > 1099511627776 - n then 1099511627776 else sat (n + xs.getD k 0) (xs.drop (k + 1)) := by
  rw [List.drop_eq_getElem_cons h, List.getD_eq_getElem?_getD, List.getElem?_eq_getElem h]
  rfl

theorem asum_any (n : Int) (h0 : 0 ≤ n) (h1 : n ≤ 1099511627776) (A : Option Addr) (c : Nat) (xs : List Int) (hx : ∀ x ∈ xs, 0 ≤ x ∧ x ≤ 9223372036854775807) (w : World) (hr : RI w A xs) :
    Calls Try.prog 12 #[.int .i64 n, .slice A xs.length c] w fun e w' => e = .returned (.int .i64 (sat n xs)) ∧ w = w' := by
  have hl := hr.len
  have HR := Lib.hid hr
  clear hr
  have HX := Lib.hid hx
  clear hx
  go_enter Try.func12, Try.ntmps12
  go_wp2
  go_loop [0, 5] (fun r i => ∃ (k : Nat) (q : Int), k ≤ xs.length ∧ 0 ≤ q ∧ q ≤ 1099511627776 ∧ i = .int .i64 k ∧ r = .int .i64 q ∧ Hid (sat q (xs.drop k) = sat n xs)) (fun _ i => xs.length - (intOf i).toNat)
  case atStart => exact ⟨0, n, Nat.zero_le _, h0, h1, rfl, rfl, Lib.hid rfl⟩
  case round =>
    obtain ⟨k, q, hk, hq0, hq1, rfl, rfl, HQ⟩ := hrel
    by_cases hlt : k < xs.length
    · obtain ⟨ad, rfl, hcell⟩ := HR.out.at_ k hlt
      have hx := HX.out (xs.getD k 0) (by rw [List.getD_eq_getElem?_getD, List.getElem?_eq_getElem hlt]; simp)
      have hsd := Lib.hid (sat_drop q xs k hlt)
      obtain ⟨x, hxe⟩ : ∃ x, x = xs.getD k 0 := ⟨_, rfl⟩
      rw [← hxe] at hcell hx hsd
      have HE := Lib.hid hxe
      clear hxe
      obtain ⟨hx0, hx1⟩ := hx
      by_cases hbig : x > 1099511627776 - q
      · go_wp2
        go_ret
        exact ⟨ret_int (by rw [← HQ.out, hsd.out, if_pos (Or.inr hbig)]), rfl⟩
      · have hb2 : x + q ≤ 1099511627776 := by omega
        go_wp2
        go_round
        case rel => exact ⟨k + 1, q + x, by omega, by omega, by omega, by go_num, rfl, Lib.hid (by rw [← HQ.out, hsd.out, if_neg (by omega)])⟩
        case measure => simp [intOf]; omega
    · go_wp2
      go_ret
      obtain rfl : k = xs.length := by omega
      exact ⟨ret_int (by rw [← HQ.out, List.drop_length]; rfl), rfl⟩

set_option maxHeartbeats 1000000 in
theorem same_true (a t : Int) (A B : Option Addr) (c c' : Nat) (b : List UInt8) (w : World) (h : RB w A b) (h' : RB w B b) :
    Calls Try.prog 16 #[.agg #[.int .i64 a, .int .i64 t, .slice A b.length c], .agg #[.int .i64 a, .int .i64 t, .slice B b.length c']] w fun e w' => e = .returned (.bool true) ∧ Below w.heap.size w w' := by
  have hB : Below w.heap.size w ((w.alloc (.cells #[.int .i64 a, .int .i64 t, .slice A b.length c] 31)).alloc (.cells #[.int .i64 a, .int .i64 t, .slice B b.length c'] 47)) := bel_alloc (bel_alloc (Below.refl _ _) _) _
  have q1 := conv_str (n := b.length) (c := c) rfl (h.below hB)
  have q2 := conv_str (n := b.length) (c := c') rfl (h'.below hB)
  have HB := Lib.hid hB
  have x1 : ((w.alloc (.cells #[.int .i64 a, .int .i64 t, .slice A b.length c] 31)).alloc (.cells #[.int .i64 a, .int .i64 t, .slice B b.length c'] 47)).heap[w.heap.size]? = some (.cells #[.int .i64 a, .int .i64 t, .slice A b.length c] 31 (0, 0)) := by
    rw [Below.heap_alloc _ _ _ (by simp)]
    exact heap_alloc_new w _
  have d0 := cell_of_row _ _ 0 _ _ _ x1
  have d1 := cell_of_row _ _ 1 _ _ _ x1
  have d2 := cell_of_row _ _ 2 _ _ _ x1
  have x2 : ((w.alloc (.cells #[.int .i64 a, .int .i64 t, .slice A b.length c] 31)).alloc (.cells #[.int .i64 a, .int .i64 t, .slice B b.length c'] 47)).heap[w.heap.size + 1]? = some (.cells #[.int .i64 a, .int .i64 t, .slice B b.length c'] 47 (0, 0)) := by
    have := heap_alloc_new (w.alloc (.cells #[.int .i64 a, .int .i64 t, .slice A b.length c] 31)) (.cells #[.int .i64 a, .int .i64 t, .slice B b.length c'] 47)
    simpa using this
  have e0 := cell_of_row _ _ 0 _ _ _ x2
  have e1 := cell_of_row _ _ 1 _ _ _ x2
  have e2 := cell_of_row _ _ 2 _ _ _ x2
  simp at d0 d1 d2 e0 e1 e2
  clear x1 x2 hB h h'
  go_enter Try.func16, Try.ntmps16
  go_wp2
  go_ret
  exact ⟨by simp, HB.out⟩

set_option maxHeartbeats 1000000 in
theorem ints_true (A B : Option Addr) (c c' : Nat) (xs : List Int) (w : World) (h : RI w A xs) (h' : RI w B xs) :
    Calls Try.prog 18 #[.slice A xs.length c, .slice B xs.length c'] w fun e w' => e = .returned (.bool true) ∧ Below w.heap.size w w' := by
  have H1 := Lib.hid h
  have H2 := Lib.hid h'
  obtain ⟨n, hn⟩ : ∃ n, n = xs.length := ⟨_, rfl⟩
  have HN := Lib.hid hn
  have hl := H1.out.len
  rw [← hn] at hl
  rw [← hn]
  clear h h' hn
  go_enter Try.func18, Try.ntmps18
  go_wp2
  go_loopw [5] (fun u5 w' => ∃ (k : Nat), k ≤ n ∧ u5 = .int .i64 k ∧ Hid (Below w.heap.size w w')) (fun u5 _ => n - (intOf u5).toNat)
  case atStart => exact ⟨0, Nat.zero_le _, rfl, Lib.hid (Below.refl _ _)⟩
  case round =>
    obtain ⟨k, hk, rfl, HB⟩ := hrel
    by_cases hlt : k < n
    · obtain ⟨a1, rfl, hc1⟩ := H1.out.at_ k (by rw [← HN.out]; exact hlt)
      obtain ⟨a2, rfl, hc2⟩ := H2.out.at_ k (by rw [← HN.out]; exact hlt)
      have d1 := (HB.out.cell (World.block_lt_of_cell? w _ hc1)).trans hc1
      have d2 := (HB.out.cell (World.block_lt_of_cell? w _ hc2)).trans hc2
      generalize xs.getD k 0 = y at *
      clear hc1 hc2
      go_wp2_with fail
      have HD := Lib.hid (bel_drew HB.out)
      have d1' : wr.drew.cell? (a1.add k) = some (.int .i64 y) := d1
      have d2' : wr.drew.cell? (a2.add k) = some (.int .i64 y) := d2
      clear d1 d2
      generalize hW : wr.drew = W at *
      go_region
      clear hW
      go_wp2
      go_round
      case rel => exact ⟨k + 1, by omega, by go_num, HD⟩
      case measure => simp [intOf]; omega
    · go_wp2
      go_ret
      exact ⟨rfl, HB.out⟩
end Go.Proofs.Ytbjkeakehdljlaa
