/- What the document fixes of chapter 2 holds: the law's own 'awake' answers true. Conditions: none. -/
import Derived.Test.YtigpeghfhfknjaaWalks
namespace Go.Proofs.Ytigpeghfhfknjaa
set_option linter.unusedVariables false
set_option linter.unusedSimpArgs false
open Go.RowKit

theorem sum_nine : Crc.sum [49, 50, 51, 52, 53, 54, 55, 56, 57] = 3421780262 := by kernel_rfl
theorem sum_a : Crc.sum [97] = 3904355907 := by kernel_rfl

theorem lit_nine (w : World) (fr : Nat × Nat) (n : Nat) (hn : n = w.heap.size) : RB (w.alloc (.cells #[.int .u8 49, .int .u8 50, .int .u8 51, .int .u8 52, .int .u8 53, .int .u8 54, .int .u8 55, .int .u8 56, .int .u8 57] 5 fr)) (some ⟨n, 0, none⟩) [49, 50, 51, 52, 53, 54, 55, 56, 57] :=
  RB.lit w 5 fr _ (by simp) n hn _ (by simp [cellsOf])
theorem lit_a (w : World) (fr : Nat × Nat) (n : Nat) (hn : n = w.heap.size) : RB (w.alloc (.cells #[.int .u8 97] 5 fr)) (some ⟨n, 0, none⟩) [97] :=
  RB.lit w 5 fr _ (by simp) n hn _ (by simp [cellsOf])

theorem sum_at (n : Nat) (A : Option Addr) (c : Nat) (ls : List (List UInt8)) (w : World) (hr : RL w A ls) (h : Crc.sum ls.flatten = n) :
    Calls Try.prog 8 #[.slice A ls.length c] w fun e w' => e = .returned (.int .u32 (n : Nat)) ∧ w = w' := by
  subst h
  exact sum_any A c ls w hr

set_option maxHeartbeats 1000000 in
theorem awake_any (w : World) : Calls Try.prog 7 #[] w fun e w' => e = .returned (.bool true) ∧ Below w.heap.size w w' := by
  have kc := fun (w : World) (C : Array Value) (n c g : Nat) (hg : g = w.heap.size) => Joins.run_convert_bytes_const_at (P := Try.prog) w 24 5 C n c g hg Try.underlying24 Try.underlying5
  go_enter Try.func7, Try.ntmps7
  go_wp2_with fail
  have h1 := sum_at 3421780262 (some ⟨w.heap.size + 1, 0, none⟩) 1 [[49, 50, 51, 52, 53, 54, 55, 56, 57]] _ (RL.one (c := 9) 24 (lit_nine w (9, 10) w.heap.size rfl) ⟨Nat.le_refl _, fun h => by cases h⟩ (n := w.heap.size + 1) (by simp) (m := 9) rfl) sum_nine
  refine h1.mono ?_
  clear h1
  rintro e W ⟨rfl, hW⟩
  have HB : Hid (Below w.heap.size w W) := by rw [← hW]; exact ((Below.refl _ _).alloc (Nat.le_refl _) _).alloc (by simp) _
  clear hW
  go_wp2_with fail
  refine (sum_at 0 none 0 [] W (RL.nil W none) rfl).mono ?_
  rintro e w' ⟨rfl, rfl⟩
  go_wp2_with fail
  have h1 := sum_at 3904355907 (some ⟨W.heap.size + 1, 0, none⟩) 1 [[97]] _ (RL.one (c := 1) 24 (lit_a W (1, 2) W.heap.size rfl) ⟨Nat.le_refl _, fun h => by cases h⟩ (n := W.heap.size + 1) (by simp) (m := 1) rfl) sum_a
  refine h1.mono ?_
  clear h1
  rintro e W2 ⟨rfl, hW⟩
  have HB2 : Hid (Below w.heap.size w W2) := by rw [← hW]; exact (HB.out.alloc HB.out.size _).alloc (by have := HB.out.size; simp; omega) _
  clear hW HB
  go_wp2_with fail
  have h1 := same_any 3904355907 (some ⟨W2.heap.size, 0, none⟩) 1 [97] _ (lit_a W2 (1, 2) W2.heap.size rfl) ⟨Nat.le_refl _, fun h => by cases h⟩
  rw [sum_a] at h1
  refine h1.mono ?_
  clear h1
  rintro e W3 ⟨rfl, hW⟩
  have HB : Hid (Below w.heap.size w W3) := (HB2.out.alloc HB2.out.size _).trans (hW.mono (by have := HB2.out.size; simp; omega))
  clear hW HB2
  go_wp2_with fail
  have h1 := same_any 1 (some ⟨W3.heap.size, 0, none⟩) 1 [97] _ (lit_a W3 (1, 2) W3.heap.size rfl) ⟨Nat.le_refl _, fun h => by cases h⟩
  rw [sum_a] at h1
  refine h1.mono ?_
  clear h1
  rintro e W4 ⟨rfl, hW⟩
  have HB2 : Hid (Below w.heap.size w W4) := (HB.out.alloc HB.out.size _).trans (hW.mono (by have := HB.out.size; simp; omega))
  clear hW HB
  go_wp2
  go_ret
  exact ⟨rfl, HB2.out⟩
end Go.Proofs.Ytigpeghfhfknjaa
