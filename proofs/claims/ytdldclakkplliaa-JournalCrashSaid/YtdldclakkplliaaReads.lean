/- The walks of Read of a disk where there is no such sector, and of none. Conditions: none. -/
import Derived.Test.YtdldclakkplliaaRead
namespace Go.Proofs.Ytdldclakkplliaa
set_option linter.unusedVariables false
set_option linter.unusedSimpArgs false
open Go.RowKit Go.Shelf

set_option maxRecDepth 100000 in
set_option maxHeartbeats 4000000 in
theorem read_nil (i : Int) (w : World) :
    Calls Try.prog 31 #[.pointer none, .int .i64 i] w fun e w' => e = .returned (.tuple #[.slice none 0 0, .int .i64 1]) ∧ Below w.heap.size w w' := by

  go_enter Try.func31, Try.ntmps31
  go_wp2_with fail
  obtain ⟨W1, hW1⟩ : ∃ W, W = ((w.alloc (.cells #[.int .i64 i] 3)).alloc (.cells #[.slice none 0 0] 22)).alloc (.cells #[.int .i64 0] 27) := ⟨_, rfl⟩
  have hb1 : Below w.heap.size w W1 := by rw [hW1]; exact bel_alloc (bel_alloc (bel_alloc (Below.refl _ _) _) _) _
  have hr3 : W1.heap[w.heap.size]? = some (.cells #[.int .i64 i] 3 (0, 0)) := by
    rw [hW1, Below.heap_alloc _ _ _ (by simp; omega), Below.heap_alloc _ _ _ (by simp)]
    exact heap_alloc_new w _
  have hr4 : W1.heap[w.heap.size + 1]? = some (.cells #[.slice none 0 0] 22 (0, 0)) := by
    rw [hW1, Below.heap_alloc _ _ _ (by simp)]
    have := heap_alloc_new (w.alloc (.cells #[.int .i64 i] 3)) (.cells #[.slice none 0 0] 22)
    simpa using this
  have hr5 : W1.heap[w.heap.size + 1 + 1]? = some (.cells #[.int .i64 0] 27 (0, 0)) := by
    rw [hW1]
    have := heap_alloc_new ((w.alloc (.cells #[.int .i64 i] 3)).alloc (.cells #[.slice none 0 0] 22)) (.cells #[.int .i64 0] 27)
    simpa using this
  rw [← hW1]
  clear hW1
  have HB1 : Hid (Below w.heap.size w W1.drew) := Lib.hid (bel_drew hb1)
  obtain ⟨r3, hr3e⟩ : ∃ r, r = w.heap.size := ⟨_, rfl⟩
  obtain ⟨r4, hr4e⟩ : ∃ r, r = r3 + 1 := ⟨_, rfl⟩
  obtain ⟨r5, hr5e⟩ : ∃ r, r = r4 + 1 := ⟨_, rfl⟩
  rw [← hr3e, ← hr4e, ← hr5e] at hr5
  rw [← hr3e, ← hr4e] at hr4
  rw [← hr3e] at hr3
  have HL4 : Hid (w.heap.size ≤ r4) := Lib.hid (by omega)
  have HL5 : Hid (w.heap.size ≤ r5) := Lib.hid (by omega)
  have n45 : r5 ≠ r4 := by omega
  rw [← hr3e, ← hr4e, ← hr5e]
  have HR3 : Hid (W1.drew.heap[r3]? = some (.cells #[.int .i64 i] 3 (0, 0))) := Lib.hid hr3
  have HR4 : Hid (W1.drew.heap[r4]? = some (.cells #[.slice none 0 0] 22 (0, 0))) := Lib.hid hr4
  have HR5 : Hid (W1.drew.heap[r5]? = some (.cells #[.int .i64 0] 27 (0, 0))) := Lib.hid hr5
  have z3 : W1.drew.cell? ⟨r3, 0, none⟩ = some (.int .i64 i) := by have := cell_of_row _ r3 0 _ _ _ HR3.out; exact this

  clear hr3e hr4e hr5e hr3 hr4 hr5 hb1
  refine region_norm ?_
  refine region_const (G := G31a) (S := fun X => X = W1.drew) (n := 14) (by kernel_rfl) (by kernel_rfl) rfl rfl (fun HG hS0 => ?_)
  have Gns := Gns31a
  generalize W1.drew = V at *
  simp only [Array.replicate_succ, Array.replicate_zero, List.push_toArray, List.nil_append, List.cons_append]
  refine wpAnyH_take (i := 0) (v := ?_) (o_at HG 0 rfl) Gns (by kernel_rfl) (by kernel_rfl) (fun _ _ _ h => h) (Or.inl ⟨(by kernel_rfl), ?_⟩) (by first | trivial | assumption) ?_
  rotate_left
  · (intro w hSw; (try dsimp only at hSw); go_simp; try with_reducible rfl)
  try simp only [Act.put, List.getElem_toArray, List.getElem_cons_zero, List.getElem_cons_succ, List.setIfInBounds_toArray, List.set_cons_zero, List.set_cons_succ]
  refine wpAnyH_take (i := 1) (v := ?_) (o_at HG 1 rfl) Gns (by kernel_rfl) (by kernel_rfl) (fun _ _ _ h => h) (Or.inl ⟨(by kernel_rfl), ?_⟩) (by first | trivial | assumption) ?_
  rotate_left
  · (intro w hSw; (try dsimp only at hSw); go_simp; try with_reducible rfl)
  try simp only [Act.put, List.getElem_toArray, List.getElem_cons_zero, List.getElem_cons_succ, List.setIfInBounds_toArray, List.set_cons_zero, List.set_cons_succ]
  refine wpAnyH_take (i := 2) (v := ?_) (o_at HG 2 rfl) Gns (by kernel_rfl) (by kernel_rfl) (fun _ _ _ h => h) (Or.inl ⟨(by kernel_rfl), ?_⟩) (by first | trivial | assumption) ?_
  rotate_left
  · (intro w hSw; (try dsimp only at hSw); go_simp; try with_reducible rfl)
  try simp only [Act.put, List.getElem_toArray, List.getElem_cons_zero, List.getElem_cons_succ, List.setIfInBounds_toArray, List.set_cons_zero, List.set_cons_succ]
  refine wpAnyH_take (i := 3) (v := undef) (o_at HG 3 rfl) Gns (by kernel_rfl) (by kernel_rfl) (fun _ _ _ h => h) (Or.inr ⟨(by kernel_rfl), rfl⟩) (by first | trivial | assumption) ?_
  try simp only [Act.put, List.getElem_toArray, List.getElem_cons_zero, List.getElem_cons_succ, List.setIfInBounds_toArray, List.set_cons_zero, List.set_cons_succ]
  refine wpAnyH_take (i := 4) (v := undef) (o_at HG 4 rfl) Gns (by kernel_rfl) (by kernel_rfl) (fun _ _ _ h => h) (Or.inr ⟨(by kernel_rfl), rfl⟩) (by first | trivial | assumption) ?_
  try simp only [Act.put, List.getElem_toArray, List.getElem_cons_zero, List.getElem_cons_succ, List.setIfInBounds_toArray, List.set_cons_zero, List.set_cons_succ]
  refine wpAnyH_take (i := 5) (v := ?_) (o_at HG 5 rfl) Gns (by kernel_rfl) (by kernel_rfl) (fun _ _ _ h => h) (Or.inl ⟨(by kernel_rfl), ?_⟩) (by first | trivial | assumption) ?_
  rotate_left
  · (intro w hSw; (try dsimp only at hSw); go_simp; try with_reducible rfl)
  try simp only [Act.put, List.getElem_toArray, List.getElem_cons_zero, List.getElem_cons_succ, List.setIfInBounds_toArray, List.set_cons_zero, List.set_cons_succ]
  refine wpAnyH_take (i := 6) (v := ?_) (o_at HG 6 rfl) Gns (by kernel_rfl) (by kernel_rfl) (fun _ _ _ h => h) (Or.inl ⟨(by kernel_rfl), ?_⟩) (by first | trivial | assumption) ?_
  rotate_left
  · (intro w hSw; (try dsimp only at hSw); go_simp; try with_reducible rfl)
  try simp only [Act.put, List.getElem_toArray, List.getElem_cons_zero, List.getElem_cons_succ, List.setIfInBounds_toArray, List.set_cons_zero, List.set_cons_succ]
  refine wpAnyH_take (i := 7) (v := undef) (o_at HG 7 rfl) Gns (by kernel_rfl) (by kernel_rfl) (fun _ _ _ h => h) (Or.inr ⟨(by kernel_rfl), rfl⟩) (by first | trivial | assumption) ?_
  try simp only [Act.put, List.getElem_toArray, List.getElem_cons_zero, List.getElem_cons_succ, List.setIfInBounds_toArray, List.set_cons_zero, List.set_cons_succ]
  refine wpAnyH_take (i := 8) (v := undef) (o_at HG 8 rfl) Gns (by kernel_rfl) (by kernel_rfl) (fun _ _ _ h => h) (Or.inr ⟨(by kernel_rfl), rfl⟩) (by first | trivial | assumption) ?_
  try simp only [Act.put, List.getElem_toArray, List.getElem_cons_zero, List.getElem_cons_succ, List.setIfInBounds_toArray, List.set_cons_zero, List.set_cons_succ]
  refine wpAnyH_take (i := 9) (v := undef) (o_at HG 9 rfl) Gns (by kernel_rfl) (by kernel_rfl) (fun _ _ _ h => h) (Or.inr ⟨(by kernel_rfl), rfl⟩) (by first | trivial | assumption) ?_
  try simp only [Act.put, List.getElem_toArray, List.getElem_cons_zero, List.getElem_cons_succ, List.setIfInBounds_toArray, List.set_cons_zero, List.set_cons_succ]
  refine wpAnyH_take (i := 10) (v := undef) (o_at HG 10 rfl) Gns (by kernel_rfl) (by kernel_rfl) (fun _ _ _ h => h) (Or.inr ⟨(by kernel_rfl), rfl⟩) (by first | trivial | assumption) ?_
  try simp only [Act.put, List.getElem_toArray, List.getElem_cons_zero, List.getElem_cons_succ, List.setIfInBounds_toArray, List.set_cons_zero, List.set_cons_succ]
  refine wpAnyH_take (i := 11) (v := undef) (o_at HG 11 rfl) Gns (by kernel_rfl) (by kernel_rfl) (fun _ _ _ h => h) (Or.inr ⟨(by kernel_rfl), rfl⟩) (by first | trivial | assumption) ?_
  try simp only [Act.put, List.getElem_toArray, List.getElem_cons_zero, List.getElem_cons_succ, List.setIfInBounds_toArray, List.set_cons_zero, List.set_cons_succ]
  refine wpAnyH_take (i := 12) (v := undef) (o_at HG 12 rfl) Gns (by kernel_rfl) (by kernel_rfl) (fun _ _ _ h => h) (Or.inr ⟨(by kernel_rfl), rfl⟩) (by first | trivial | assumption) ?_
  try simp only [Act.put, List.getElem_toArray, List.getElem_cons_zero, List.getElem_cons_succ, List.setIfInBounds_toArray, List.set_cons_zero, List.set_cons_succ]
  refine wpAnyH_take (i := 13) (v := ?_) (o_at HG 13 rfl) Gns (by kernel_rfl) (by kernel_rfl) (fun _ _ _ h => h) (Or.inl ⟨(by kernel_rfl), ?_⟩) (by first | trivial | assumption) ?_
  rotate_left
  · (intro w hSw; (try dsimp only at hSw); go_simp; try with_reducible rfl)
  try simp only [Act.put, List.getElem_toArray, List.getElem_cons_zero, List.getElem_cons_succ, List.setIfInBounds_toArray, List.set_cons_zero, List.set_cons_succ]
  refine wpAnyH_done (by kernel_rfl) ?_ _
  simp only [normOnly]
  clear hS0
  have hbF := HB1.out
  have x4 := frozen_of_row _ _ 0 _ _ HR4.out
  have y4 := cell_of_row _ _ 0 _ _ _ HR4.out
  have hv5 := (Below.heap_setCell V ⟨r4, 0, none⟩ (.slice none 0 0) r5 n45).trans HR5.out
  have x5 := frozen_of_row _ _ 0 _ _ hv5
  have y5 := cell_of_row _ _ 0 _ _ _ hv5
  simp at y4 y5
  have hf4 := (Below.heap_setCell (V.setCell ⟨r4, 0, none⟩ (.slice none 0 0)) ⟨r5, 0, none⟩ (.int .i64 1) r4 (fun e => n45 e.symm)).trans (row_set (j := 0) (.slice none 0 0) HR4.out)
  have hf5 := row_set (j := 0) (.int .i64 1) hv5
  have k4 := cell_of_row _ _ 0 _ _ _ hf4
  have k5 := cell_of_row _ _ 0 _ _ _ hf5
  simp at k4 k5
  have HBF := Lib.hid ((hbF.setCell (p := ⟨r4, 0, none⟩) HL4.out (.slice none 0 0)).setCell (p := ⟨r5, 0, none⟩) HL5.out (.int .i64 1))
  clear hbF hv5 hf4 hf5
  go_wp2
  refine bodyPost_ret (v := .tuple #[.slice none 0 0, .int .i64 1]) ?_ rfl ⟨rfl, HBF.out⟩
  simp [results, Try.f31, go_sem, k4, k5]

set_option maxRecDepth 100000 in
set_option maxHeartbeats 4000000 in
theorem read_low (gd : Nat) (i : Int) (w : World) (hi : i < 0) :
    Calls Try.prog 31 #[.pointer (some ⟨gd, 0, none⟩), .int .i64 i] w fun e w' => e = .returned (.tuple #[.slice none 0 0, .int .i64 1]) ∧ Below w.heap.size w w' := by
  have hz1 : decide (i < 0) = true := by simp; omega
  go_enter Try.func31, Try.ntmps31
  go_wp2_with fail
  obtain ⟨W1, hW1⟩ : ∃ W, W = ((w.alloc (.cells #[.int .i64 i] 3)).alloc (.cells #[.slice none 0 0] 22)).alloc (.cells #[.int .i64 0] 27) := ⟨_, rfl⟩
  have hb1 : Below w.heap.size w W1 := by rw [hW1]; exact bel_alloc (bel_alloc (bel_alloc (Below.refl _ _) _) _) _
  have hr3 : W1.heap[w.heap.size]? = some (.cells #[.int .i64 i] 3 (0, 0)) := by
    rw [hW1, Below.heap_alloc _ _ _ (by simp; omega), Below.heap_alloc _ _ _ (by simp)]
    exact heap_alloc_new w _
  have hr4 : W1.heap[w.heap.size + 1]? = some (.cells #[.slice none 0 0] 22 (0, 0)) := by
    rw [hW1, Below.heap_alloc _ _ _ (by simp)]
    have := heap_alloc_new (w.alloc (.cells #[.int .i64 i] 3)) (.cells #[.slice none 0 0] 22)
    simpa using this
  have hr5 : W1.heap[w.heap.size + 1 + 1]? = some (.cells #[.int .i64 0] 27 (0, 0)) := by
    rw [hW1]
    have := heap_alloc_new ((w.alloc (.cells #[.int .i64 i] 3)).alloc (.cells #[.slice none 0 0] 22)) (.cells #[.int .i64 0] 27)
    simpa using this
  rw [← hW1]
  clear hW1
  have HB1 : Hid (Below w.heap.size w W1.drew) := Lib.hid (bel_drew hb1)
  obtain ⟨r3, hr3e⟩ : ∃ r, r = w.heap.size := ⟨_, rfl⟩
  obtain ⟨r4, hr4e⟩ : ∃ r, r = r3 + 1 := ⟨_, rfl⟩
  obtain ⟨r5, hr5e⟩ : ∃ r, r = r4 + 1 := ⟨_, rfl⟩
  rw [← hr3e, ← hr4e, ← hr5e] at hr5
  rw [← hr3e, ← hr4e] at hr4
  rw [← hr3e] at hr3
  have HL4 : Hid (w.heap.size ≤ r4) := Lib.hid (by omega)
  have HL5 : Hid (w.heap.size ≤ r5) := Lib.hid (by omega)
  have n45 : r5 ≠ r4 := by omega
  rw [← hr3e, ← hr4e, ← hr5e]
  have HR3 : Hid (W1.drew.heap[r3]? = some (.cells #[.int .i64 i] 3 (0, 0))) := Lib.hid hr3
  have HR4 : Hid (W1.drew.heap[r4]? = some (.cells #[.slice none 0 0] 22 (0, 0))) := Lib.hid hr4
  have HR5 : Hid (W1.drew.heap[r5]? = some (.cells #[.int .i64 0] 27 (0, 0))) := Lib.hid hr5
  have z3 : W1.drew.cell? ⟨r3, 0, none⟩ = some (.int .i64 i) := by have := cell_of_row _ r3 0 _ _ _ HR3.out; exact this

  clear hr3e hr4e hr5e hr3 hr4 hr5 hb1
  refine region_norm ?_
  refine region_const (G := G31a) (S := fun X => X = W1.drew) (n := 14) (by kernel_rfl) (by kernel_rfl) rfl rfl (fun HG hS0 => ?_)
  have Gns := Gns31a
  generalize W1.drew = V at *
  simp only [Array.replicate_succ, Array.replicate_zero, List.push_toArray, List.nil_append, List.cons_append]
  refine wpAnyH_take (i := 0) (v := ?_) (o_at HG 0 rfl) Gns (by kernel_rfl) (by kernel_rfl) (fun _ _ _ h => h) (Or.inl ⟨(by kernel_rfl), ?_⟩) (by first | trivial | assumption) ?_
  rotate_left
  · (intro w hSw; (try dsimp only at hSw); go_simp; try with_reducible rfl)
  try simp only [Act.put, List.getElem_toArray, List.getElem_cons_zero, List.getElem_cons_succ, List.setIfInBounds_toArray, List.set_cons_zero, List.set_cons_succ]
  refine wpAnyH_take (i := 1) (v := ?_) (o_at HG 1 rfl) Gns (by kernel_rfl) (by kernel_rfl) (fun _ _ _ h => h) (Or.inl ⟨(by kernel_rfl), ?_⟩) (by first | trivial | assumption) ?_
  rotate_left
  · (intro w hSw; (try dsimp only at hSw); go_simp; try with_reducible rfl)
  try simp only [Act.put, List.getElem_toArray, List.getElem_cons_zero, List.getElem_cons_succ, List.setIfInBounds_toArray, List.set_cons_zero, List.set_cons_succ]
  refine wpAnyH_take (i := 2) (v := ?_) (o_at HG 2 rfl) Gns (by kernel_rfl) (by kernel_rfl) (fun _ _ _ h => h) (Or.inl ⟨(by kernel_rfl), ?_⟩) (by first | trivial | assumption) ?_
  rotate_left
  · (intro w hSw; (try dsimp only at hSw); go_simp; try with_reducible rfl)
  try simp only [Act.put, List.getElem_toArray, List.getElem_cons_zero, List.getElem_cons_succ, List.setIfInBounds_toArray, List.set_cons_zero, List.set_cons_succ]
  refine wpAnyH_take (i := 3) (v := ?_) (o_at HG 3 rfl) Gns (by kernel_rfl) (by kernel_rfl) (fun _ _ _ h => h) (Or.inl ⟨(by kernel_rfl), ?_⟩) (by first | trivial | assumption) ?_
  rotate_left
  · (intro w hSw; (try dsimp only at hSw); go_simp; try with_reducible rfl)
  try simp only [Act.put, List.getElem_toArray, List.getElem_cons_zero, List.getElem_cons_succ, List.setIfInBounds_toArray, List.set_cons_zero, List.set_cons_succ]
  refine wpAnyH_take (i := 4) (v := ?_) (o_at HG 4 rfl) Gns (by kernel_rfl) (by kernel_rfl) (fun _ _ _ h => h) (Or.inl ⟨(by kernel_rfl), ?_⟩) (by first | trivial | assumption) ?_
  rotate_left
  · (intro w hSw; (try dsimp only at hSw); go_simp; try with_reducible rfl)
  try simp only [Act.put, List.getElem_toArray, List.getElem_cons_zero, List.getElem_cons_succ, List.setIfInBounds_toArray, List.set_cons_zero, List.set_cons_succ]
  refine wpAnyH_take (i := 5) (v := ?_) (o_at HG 5 rfl) Gns (by kernel_rfl) (by kernel_rfl) (fun _ _ _ h => h) (Or.inl ⟨(by kernel_rfl), ?_⟩) (by first | trivial | assumption) ?_
  rotate_left
  · (intro w hSw; (try dsimp only at hSw); go_simp; try with_reducible rfl)
  try simp only [Act.put, List.getElem_toArray, List.getElem_cons_zero, List.getElem_cons_succ, List.setIfInBounds_toArray, List.set_cons_zero, List.set_cons_succ]
  refine wpAnyH_take (i := 6) (v := ?_) (o_at HG 6 rfl) Gns (by kernel_rfl) (by kernel_rfl) (fun _ _ _ h => h) (Or.inl ⟨(by kernel_rfl), ?_⟩) (by first | trivial | assumption) ?_
  rotate_left
  · (intro w hSw; (try dsimp only at hSw); go_simp; try with_reducible rfl)
  try simp only [Act.put, List.getElem_toArray, List.getElem_cons_zero, List.getElem_cons_succ, List.setIfInBounds_toArray, List.set_cons_zero, List.set_cons_succ]
  refine wpAnyH_take (i := 7) (v := undef) (o_at HG 7 rfl) Gns (by kernel_rfl) (by kernel_rfl) (fun _ _ _ h => h) (Or.inr ⟨(by kernel_rfl), rfl⟩) (by first | trivial | assumption) ?_
  try simp only [Act.put, List.getElem_toArray, List.getElem_cons_zero, List.getElem_cons_succ, List.setIfInBounds_toArray, List.set_cons_zero, List.set_cons_succ]
  refine wpAnyH_take (i := 8) (v := undef) (o_at HG 8 rfl) Gns (by kernel_rfl) (by kernel_rfl) (fun _ _ _ h => h) (Or.inr ⟨(by kernel_rfl), rfl⟩) (by first | trivial | assumption) ?_
  try simp only [Act.put, List.getElem_toArray, List.getElem_cons_zero, List.getElem_cons_succ, List.setIfInBounds_toArray, List.set_cons_zero, List.set_cons_succ]
  refine wpAnyH_take (i := 9) (v := undef) (o_at HG 9 rfl) Gns (by kernel_rfl) (by kernel_rfl) (fun _ _ _ h => h) (Or.inr ⟨(by kernel_rfl), rfl⟩) (by first | trivial | assumption) ?_
  try simp only [Act.put, List.getElem_toArray, List.getElem_cons_zero, List.getElem_cons_succ, List.setIfInBounds_toArray, List.set_cons_zero, List.set_cons_succ]
  refine wpAnyH_take (i := 10) (v := undef) (o_at HG 10 rfl) Gns (by kernel_rfl) (by kernel_rfl) (fun _ _ _ h => h) (Or.inr ⟨(by kernel_rfl), rfl⟩) (by first | trivial | assumption) ?_
  try simp only [Act.put, List.getElem_toArray, List.getElem_cons_zero, List.getElem_cons_succ, List.setIfInBounds_toArray, List.set_cons_zero, List.set_cons_succ]
  refine wpAnyH_take (i := 11) (v := undef) (o_at HG 11 rfl) Gns (by kernel_rfl) (by kernel_rfl) (fun _ _ _ h => h) (Or.inr ⟨(by kernel_rfl), rfl⟩) (by first | trivial | assumption) ?_
  try simp only [Act.put, List.getElem_toArray, List.getElem_cons_zero, List.getElem_cons_succ, List.setIfInBounds_toArray, List.set_cons_zero, List.set_cons_succ]
  refine wpAnyH_take (i := 12) (v := undef) (o_at HG 12 rfl) Gns (by kernel_rfl) (by kernel_rfl) (fun _ _ _ h => h) (Or.inr ⟨(by kernel_rfl), rfl⟩) (by first | trivial | assumption) ?_
  try simp only [Act.put, List.getElem_toArray, List.getElem_cons_zero, List.getElem_cons_succ, List.setIfInBounds_toArray, List.set_cons_zero, List.set_cons_succ]
  refine wpAnyH_take (i := 13) (v := ?_) (o_at HG 13 rfl) Gns (by kernel_rfl) (by kernel_rfl) (fun _ _ _ h => h) (Or.inl ⟨(by kernel_rfl), ?_⟩) (by first | trivial | assumption) ?_
  rotate_left
  · (intro w hSw; (try dsimp only at hSw); go_simp; try with_reducible rfl)
  try simp only [Act.put, List.getElem_toArray, List.getElem_cons_zero, List.getElem_cons_succ, List.setIfInBounds_toArray, List.set_cons_zero, List.set_cons_succ]
  refine wpAnyH_done (by kernel_rfl) ?_ _
  simp only [normOnly]
  clear hS0
  have hbF := HB1.out
  have x4 := frozen_of_row _ _ 0 _ _ HR4.out
  have y4 := cell_of_row _ _ 0 _ _ _ HR4.out
  have hv5 := (Below.heap_setCell V ⟨r4, 0, none⟩ (.slice none 0 0) r5 n45).trans HR5.out
  have x5 := frozen_of_row _ _ 0 _ _ hv5
  have y5 := cell_of_row _ _ 0 _ _ _ hv5
  simp at y4 y5
  have hf4 := (Below.heap_setCell (V.setCell ⟨r4, 0, none⟩ (.slice none 0 0)) ⟨r5, 0, none⟩ (.int .i64 1) r4 (fun e => n45 e.symm)).trans (row_set (j := 0) (.slice none 0 0) HR4.out)
  have hf5 := row_set (j := 0) (.int .i64 1) hv5
  have k4 := cell_of_row _ _ 0 _ _ _ hf4
  have k5 := cell_of_row _ _ 0 _ _ _ hf5
  simp at k4 k5
  have HBF := Lib.hid ((hbF.setCell (p := ⟨r4, 0, none⟩) HL4.out (.slice none 0 0)).setCell (p := ⟨r5, 0, none⟩) HL5.out (.int .i64 1))
  clear hbF hv5 hf4 hf5
  go_wp2
  refine bodyPost_ret (v := .tuple #[.slice none 0 0, .int .i64 1]) ?_ rfl ⟨rfl, HBF.out⟩
  simp [results, Try.f31, go_sem, k4, k5]

set_option maxRecDepth 100000 in
set_option maxHeartbeats 4000000 in
theorem read_high (id gd mb : Nat) (d : DK) (v : Value) (i : Int) (w : World) (col : Nat → Nat) (h : DiskV w col id gd mb v d) (hi : (d.n : Int) ≤ i) :
    Calls Try.prog 31 #[.pointer (some ⟨gd, 0, none⟩), .int .i64 i] w fun e w' => e = .returned (.tuple #[.slice none 0 0, .int .i64 1]) ∧ Below w.heap.size w w' := by
  have HD := Lib.hid h
  have hz1 : decide (i < 0) = false := by have := h.dom; simp; omega
  have hz2 : decide ((d.n : Int) ≤ i) = true := by simp; omega
  clear h
  go_enter Try.func31, Try.ntmps31
  go_wp2_with fail
  obtain ⟨W1, hW1⟩ : ∃ W, W = ((w.alloc (.cells #[.int .i64 i] 3)).alloc (.cells #[.slice none 0 0] 22)).alloc (.cells #[.int .i64 0] 27) := ⟨_, rfl⟩
  have hb1 : Below w.heap.size w W1 := by rw [hW1]; exact bel_alloc (bel_alloc (bel_alloc (Below.refl _ _) _) _) _
  have hr3 : W1.heap[w.heap.size]? = some (.cells #[.int .i64 i] 3 (0, 0)) := by
    rw [hW1, Below.heap_alloc _ _ _ (by simp; omega), Below.heap_alloc _ _ _ (by simp)]
    exact heap_alloc_new w _
  have hr4 : W1.heap[w.heap.size + 1]? = some (.cells #[.slice none 0 0] 22 (0, 0)) := by
    rw [hW1, Below.heap_alloc _ _ _ (by simp)]
    have := heap_alloc_new (w.alloc (.cells #[.int .i64 i] 3)) (.cells #[.slice none 0 0] 22)
    simpa using this
  have hr5 : W1.heap[w.heap.size + 1 + 1]? = some (.cells #[.int .i64 0] 27 (0, 0)) := by
    rw [hW1]
    have := heap_alloc_new ((w.alloc (.cells #[.int .i64 i] 3)).alloc (.cells #[.slice none 0 0] 22)) (.cells #[.int .i64 0] 27)
    simpa using this
  rw [← hW1]
  clear hW1
  have HB1 : Hid (Below w.heap.size w W1.drew) := Lib.hid (bel_drew hb1)
  obtain ⟨r3, hr3e⟩ : ∃ r, r = w.heap.size := ⟨_, rfl⟩
  obtain ⟨r4, hr4e⟩ : ∃ r, r = r3 + 1 := ⟨_, rfl⟩
  obtain ⟨r5, hr5e⟩ : ∃ r, r = r4 + 1 := ⟨_, rfl⟩
  rw [← hr3e, ← hr4e, ← hr5e] at hr5
  rw [← hr3e, ← hr4e] at hr4
  rw [← hr3e] at hr3
  have HL4 : Hid (w.heap.size ≤ r4) := Lib.hid (by omega)
  have HL5 : Hid (w.heap.size ≤ r5) := Lib.hid (by omega)
  have n45 : r5 ≠ r4 := by omega
  rw [← hr3e, ← hr4e, ← hr5e]
  have HR3 : Hid (W1.drew.heap[r3]? = some (.cells #[.int .i64 i] 3 (0, 0))) := Lib.hid hr3
  have HR4 : Hid (W1.drew.heap[r4]? = some (.cells #[.slice none 0 0] 22 (0, 0))) := Lib.hid hr4
  have HR5 : Hid (W1.drew.heap[r5]? = some (.cells #[.int .i64 0] 27 (0, 0))) := Lib.hid hr5
  have z3 : W1.drew.cell? ⟨r3, 0, none⟩ = some (.int .i64 i) := by have := cell_of_row _ r3 0 _ _ _ HR3.out; exact this
  have z0 : W1.drew.cell? ⟨gd, 0, none⟩ = some (.int .i64 d.n) := by have := cell_of_row _ gd 0 _ _ _ (heap_below HD.out.obj HB1.out); exact this
  clear hr3e hr4e hr5e hr3 hr4 hr5 hb1
  refine region_norm ?_
  refine region_const (G := G31a) (S := fun X => X = W1.drew) (n := 14) (by kernel_rfl) (by kernel_rfl) rfl rfl (fun HG hS0 => ?_)
  have Gns := Gns31a
  generalize W1.drew = V at *
  simp only [Array.replicate_succ, Array.replicate_zero, List.push_toArray, List.nil_append, List.cons_append]
  refine wpAnyH_take (i := 0) (v := ?_) (o_at HG 0 rfl) Gns (by kernel_rfl) (by kernel_rfl) (fun _ _ _ h => h) (Or.inl ⟨(by kernel_rfl), ?_⟩) (by first | trivial | assumption) ?_
  rotate_left
  · (intro w hSw; (try dsimp only at hSw); go_simp; try with_reducible rfl)
  try simp only [Act.put, List.getElem_toArray, List.getElem_cons_zero, List.getElem_cons_succ, List.setIfInBounds_toArray, List.set_cons_zero, List.set_cons_succ]
  refine wpAnyH_take (i := 1) (v := ?_) (o_at HG 1 rfl) Gns (by kernel_rfl) (by kernel_rfl) (fun _ _ _ h => h) (Or.inl ⟨(by kernel_rfl), ?_⟩) (by first | trivial | assumption) ?_
  rotate_left
  · (intro w hSw; (try dsimp only at hSw); go_simp; try with_reducible rfl)
  try simp only [Act.put, List.getElem_toArray, List.getElem_cons_zero, List.getElem_cons_succ, List.setIfInBounds_toArray, List.set_cons_zero, List.set_cons_succ]
  refine wpAnyH_take (i := 2) (v := ?_) (o_at HG 2 rfl) Gns (by kernel_rfl) (by kernel_rfl) (fun _ _ _ h => h) (Or.inl ⟨(by kernel_rfl), ?_⟩) (by first | trivial | assumption) ?_
  rotate_left
  · (intro w hSw; (try dsimp only at hSw); go_simp; try with_reducible rfl)
  try simp only [Act.put, List.getElem_toArray, List.getElem_cons_zero, List.getElem_cons_succ, List.setIfInBounds_toArray, List.set_cons_zero, List.set_cons_succ]
  refine wpAnyH_take (i := 3) (v := ?_) (o_at HG 3 rfl) Gns (by kernel_rfl) (by kernel_rfl) (fun _ _ _ h => h) (Or.inl ⟨(by kernel_rfl), ?_⟩) (by first | trivial | assumption) ?_
  rotate_left
  · (intro w hSw; (try dsimp only at hSw); go_simp; try with_reducible rfl)
  try simp only [Act.put, List.getElem_toArray, List.getElem_cons_zero, List.getElem_cons_succ, List.setIfInBounds_toArray, List.set_cons_zero, List.set_cons_succ]
  refine wpAnyH_take (i := 4) (v := ?_) (o_at HG 4 rfl) Gns (by kernel_rfl) (by kernel_rfl) (fun _ _ _ h => h) (Or.inl ⟨(by kernel_rfl), ?_⟩) (by first | trivial | assumption) ?_
  rotate_left
  · (intro w hSw; (try dsimp only at hSw); go_simp; try with_reducible rfl)
  try simp only [Act.put, List.getElem_toArray, List.getElem_cons_zero, List.getElem_cons_succ, List.setIfInBounds_toArray, List.set_cons_zero, List.set_cons_succ]
  refine wpAnyH_take (i := 5) (v := ?_) (o_at HG 5 rfl) Gns (by kernel_rfl) (by kernel_rfl) (fun _ _ _ h => h) (Or.inl ⟨(by kernel_rfl), ?_⟩) (by first | trivial | assumption) ?_
  rotate_left
  · (intro w hSw; (try dsimp only at hSw); go_simp; try with_reducible rfl)
  try simp only [Act.put, List.getElem_toArray, List.getElem_cons_zero, List.getElem_cons_succ, List.setIfInBounds_toArray, List.set_cons_zero, List.set_cons_succ]
  refine wpAnyH_take (i := 6) (v := ?_) (o_at HG 6 rfl) Gns (by kernel_rfl) (by kernel_rfl) (fun _ _ _ h => h) (Or.inl ⟨(by kernel_rfl), ?_⟩) (by first | trivial | assumption) ?_
  rotate_left
  · (intro w hSw; (try dsimp only at hSw); go_simp; try with_reducible rfl)
  try simp only [Act.put, List.getElem_toArray, List.getElem_cons_zero, List.getElem_cons_succ, List.setIfInBounds_toArray, List.set_cons_zero, List.set_cons_succ]
  refine wpAnyH_take (i := 7) (v := ?_) (o_at HG 7 rfl) Gns (by kernel_rfl) (by kernel_rfl) (fun _ _ _ h => h) (Or.inl ⟨(by kernel_rfl), ?_⟩) (by first | trivial | assumption) ?_
  rotate_left
  · (intro w hSw; (try dsimp only at hSw); go_simp; try with_reducible rfl)
  try simp only [Act.put, List.getElem_toArray, List.getElem_cons_zero, List.getElem_cons_succ, List.setIfInBounds_toArray, List.set_cons_zero, List.set_cons_succ]
  refine wpAnyH_take (i := 8) (v := ?_) (o_at HG 8 rfl) Gns (by kernel_rfl) (by kernel_rfl) (fun _ _ _ h => h) (Or.inl ⟨(by kernel_rfl), ?_⟩) (by first | trivial | assumption) ?_
  rotate_left
  · (intro w hSw; (try dsimp only at hSw); go_simp; try with_reducible rfl)
  try simp only [Act.put, List.getElem_toArray, List.getElem_cons_zero, List.getElem_cons_succ, List.setIfInBounds_toArray, List.set_cons_zero, List.set_cons_succ]
  refine wpAnyH_take (i := 9) (v := ?_) (o_at HG 9 rfl) Gns (by kernel_rfl) (by kernel_rfl) (fun _ _ _ h => h) (Or.inl ⟨(by kernel_rfl), ?_⟩) (by first | trivial | assumption) ?_
  rotate_left
  · (intro w hSw; (try dsimp only at hSw); go_simp; try with_reducible rfl)
  try simp only [Act.put, List.getElem_toArray, List.getElem_cons_zero, List.getElem_cons_succ, List.setIfInBounds_toArray, List.set_cons_zero, List.set_cons_succ]
  refine wpAnyH_take (i := 10) (v := ?_) (o_at HG 10 rfl) Gns (by kernel_rfl) (by kernel_rfl) (fun _ _ _ h => h) (Or.inl ⟨(by kernel_rfl), ?_⟩) (by first | trivial | assumption) ?_
  rotate_left
  · (intro w hSw; (try dsimp only at hSw); go_simp; try with_reducible rfl)
  try simp only [Act.put, List.getElem_toArray, List.getElem_cons_zero, List.getElem_cons_succ, List.setIfInBounds_toArray, List.set_cons_zero, List.set_cons_succ]
  refine wpAnyH_take (i := 11) (v := ?_) (o_at HG 11 rfl) Gns (by kernel_rfl) (by kernel_rfl) (fun _ _ _ h => h) (Or.inl ⟨(by kernel_rfl), ?_⟩) (by first | trivial | assumption) ?_
  rotate_left
  · (intro w hSw; (try dsimp only at hSw); go_simp; try with_reducible rfl)
  try simp only [Act.put, List.getElem_toArray, List.getElem_cons_zero, List.getElem_cons_succ, List.setIfInBounds_toArray, List.set_cons_zero, List.set_cons_succ]
  refine wpAnyH_take (i := 12) (v := ?_) (o_at HG 12 rfl) Gns (by kernel_rfl) (by kernel_rfl) (fun _ _ _ h => h) (Or.inl ⟨(by kernel_rfl), ?_⟩) (by first | trivial | assumption) ?_
  rotate_left
  · (intro w hSw; (try dsimp only at hSw); go_simp; try with_reducible rfl)
  try simp only [Act.put, List.getElem_toArray, List.getElem_cons_zero, List.getElem_cons_succ, List.setIfInBounds_toArray, List.set_cons_zero, List.set_cons_succ]
  refine wpAnyH_take (i := 13) (v := ?_) (o_at HG 13 rfl) Gns (by kernel_rfl) (by kernel_rfl) (fun _ _ _ h => h) (Or.inl ⟨(by kernel_rfl), ?_⟩) (by first | trivial | assumption) ?_
  rotate_left
  · (intro w hSw; (try dsimp only at hSw); go_simp; try with_reducible rfl)
  try simp only [Act.put, List.getElem_toArray, List.getElem_cons_zero, List.getElem_cons_succ, List.setIfInBounds_toArray, List.set_cons_zero, List.set_cons_succ]
  refine wpAnyH_done (by kernel_rfl) ?_ _
  simp only [normOnly]
  clear hS0
  have hbF := HB1.out
  have x4 := frozen_of_row _ _ 0 _ _ HR4.out
  have y4 := cell_of_row _ _ 0 _ _ _ HR4.out
  have hv5 := (Below.heap_setCell V ⟨r4, 0, none⟩ (.slice none 0 0) r5 n45).trans HR5.out
  have x5 := frozen_of_row _ _ 0 _ _ hv5
  have y5 := cell_of_row _ _ 0 _ _ _ hv5
  simp at y4 y5
  have hf4 := (Below.heap_setCell (V.setCell ⟨r4, 0, none⟩ (.slice none 0 0)) ⟨r5, 0, none⟩ (.int .i64 1) r4 (fun e => n45 e.symm)).trans (row_set (j := 0) (.slice none 0 0) HR4.out)
  have hf5 := row_set (j := 0) (.int .i64 1) hv5
  have k4 := cell_of_row _ _ 0 _ _ _ hf4
  have k5 := cell_of_row _ _ 0 _ _ _ hf5
  simp at k4 k5
  have HBF := Lib.hid ((hbF.setCell (p := ⟨r4, 0, none⟩) HL4.out (.slice none 0 0)).setCell (p := ⟨r5, 0, none⟩) HL5.out (.int .i64 1))
  clear hbF hv5 hf4 hf5
  go_wp2
  refine bodyPost_ret (v := .tuple #[.slice none 0 0, .int .i64 1]) ?_ rfl ⟨rfl, HBF.out⟩
  simp [results, Try.f31, go_sem, k4, k5]

end Go.Proofs.Ytdldclakkplliaa
