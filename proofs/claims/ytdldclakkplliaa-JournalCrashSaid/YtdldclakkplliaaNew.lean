/- The walks of New, Cut, Sectors, Cached, Ops and sector of a disk. Conditions: none. -/
import Derived.Test.YtdldclakkplliaaDisk
namespace Go.Proofs.Ytdldclakkplliaa
set_option linter.unusedVariables false
set_option linter.unusedSimpArgs false
open Go.RowKit

def newDK (n : Nat) : DK := ⟨n, fun _ => none, [], false, false, 0, 0, 0⟩
def NewQ (id n : Nat) (w : World) (col : Nat → Nat) (e : Ending) (w' : World) : Prop :=
  ∃ gd mb col', e = .returned (.tuple #[.pointer (some ⟨gd, 0, none⟩), .int .i64 0]) ∧ Step id w col w' col' ∧ DiskAt w' col' id gd mb (newDK n)
theorem new_any (id n : Nat) (hid : id ≠ 0) (w : World) (col : Nat → Nat) (h : 1 ≤ n ∧ n ≤ 65536) : Calls Try.prog 14 #[.int .i64 n] w (NewQ id n w col) := by
  obtain ⟨h1, h2⟩ := h
  have hz1 : decide ((n : Int) < 1) = false := by simp; omega
  have hz2 : decide ((65536 : Int) < (n : Int)) = false := by simp; omega
  have hmk := fun (w : World) => run_makeMap (P := Try.prog) 76 w
  go_enter Try.func14, Try.ntmps14
  go_wp2
  go_ret2
  have hb0 : Below w.heap.size w (w.alloc (.map #[] 0)) := bel_alloc (Below.refl _ _) _
  have hb1 := bel_alloc hb0 (.cells #[.int .i64 n, .map (some w.heap.size), .slice none 0 0, .bool false, .bool false, .int .i64 0, .int .i64 0] 79)
  have hs : Step id w col ((w.alloc (.map #[] 0)).alloc (.cells #[.int .i64 n, .map (some w.heap.size), .slice none 0 0, .bool false, .bool false, .int .i64 0, .int .i64 0] 79)) (paint w col (fun _ => id)) := (Step.refl id w col).grow hb1 _
  have hn := heap_alloc_new (w.alloc (.map #[] 0)) (.cells #[.int .i64 n, .map (some w.heap.size), .slice none 0 0, .bool false, .bool false, .int .i64 0, .int .i64 0] 79)
  have hsz : (w.alloc (.map #[] 0)).heap.size = w.heap.size + 1 := by simp
  rw [hsz] at hn
  refine ⟨w.heap.size + 1, w.heap.size, _, rfl, hs, .slice none 0 0, ⟨paint_new (by omega), hid, hn, World.ownsRow_nil _ 0 94 2, fun k hk => by simp [Value.ownBlock] at hk, ?_, by omega, paint_new (Nat.le_refl _), (fun i s hs => by cases hs), (fun s hs => by cases hs), ⟨h1, h2⟩⟩⟩
  exact (MapAt.made w).keep (Below.heap_alloc _ _ _ (by simp))
theorem new_bad (n : Int) (w : World) (h : n < 1 ∨ 65536 < n) : Calls Try.prog 14 #[.int .i64 n] w fun e w' => e = .returned (.tuple #[.pointer none, .int .i64 1]) ∧ w = w' := by
  by_cases h1 : n < 1
  · go_enter Try.func14, Try.ntmps14
    go_wp2
    go_ret2
    exact ⟨rfl, rfl⟩
  · have h2 : 65536 < n := by omega
    clear h
    go_enter Try.func14, Try.ntmps14
    go_wp2
    go_ret2
    exact ⟨rfl, rfl⟩

/-! ### what a disk tells -/
theorem sectors_any (gd mb : Nat) (v : Value) (d : DK) (w : World) (hg : w.heap[gd]? = some (.cells (dcells d mb v) 79 (0, 0))) :
    Calls Try.prog 41 #[.pointer (some ⟨gd, 0, none⟩)] w fun e w' => e = .returned (.int .i64 d.n) ∧ w = w' := by
  have c0 : w.cell? ⟨gd, 0, none⟩ = some (.int .i64 d.n) := by rw [cell_of_row _ _ 0 _ _ _ hg]; rfl
  clear hg
  go_enter Try.func41, Try.ntmps41
  go_wp2
  go_ret
  exact ⟨rfl, rfl⟩
theorem sectors_nil (w : World) : Calls Try.prog 41 #[.pointer none] w fun e w' => e = .returned (.int .i64 0) ∧ w = w' := by
  go_enter Try.func41, Try.ntmps41
  go_wp2
  go_ret
  exact ⟨rfl, rfl⟩
theorem cached_any (gd mb : Nat) (A : Option Addr) (k c : Nat) (d : DK) (w : World) (hg : w.heap[gd]? = some (.cells (dcells d mb (.slice A k c)) 79 (0, 0))) :
    Calls Try.prog 32 #[.pointer (some ⟨gd, 0, none⟩)] w fun e w' => e = .returned (.int .i64 k) ∧ w = w' := by
  have c0 : w.cell? ⟨gd, 2, none⟩ = some (.slice A k c) := by rw [cell_of_row _ _ 2 _ _ _ hg]; rfl
  clear hg
  go_enter Try.func32, Try.ntmps32
  go_wp2
  go_ret
  exact ⟨rfl, rfl⟩
theorem ops_any (gd mb : Nat) (v : Value) (d : DK) (w : World) (hg : w.heap[gd]? = some (.cells (dcells d mb v) 79 (0, 0))) :
    Calls Try.prog 33 #[.pointer (some ⟨gd, 0, none⟩)] w fun e w' => e = .returned (.int .i64 d.ops) ∧ w = w' := by
  have c0 : w.cell? ⟨gd, 6, none⟩ = some (.int .i64 d.ops) := by rw [cell_of_row _ _ 6 _ _ _ hg]; rfl
  clear hg
  go_enter Try.func33, Try.ntmps33
  go_wp2
  go_ret
  exact ⟨rfl, rfl⟩

/-! ### Cut -/
def cutK (d : DK) (n : Int) : DK := { d with cut := true, left := if n < 0 then 0 else n }
theorem cut_any (id gd mb : Nat) (v : Value) (d : DK) (n : Int) (w : World) (col : Nat → Nat) (h : DiskV w col id gd mb v d) :
    Calls Try.prog 22 #[.pointer (some ⟨gd, 0, none⟩), .int .i64 n] w fun e w' => e = .returned (.tuple #[]) ∧ Step id w col w' col ∧ DiskV w' col id gd mb v (cutK d n) := by
  have hg := h.obj
  have h1 := row_set (j := 3) (.bool true) hg
  have h2 := fun x : Int => row_set (j := 5) (.int .i64 x) h1
  have z3 := frozen_of_row _ _ 3 _ _ hg
  have z5 := frozen_of_row _ _ 5 _ _ h1
  have H2 := Lib.hid h2
  have HK := Lib.hid (fun x : Int => keeps_set (j := 5) (u := .int .i64 x) (keeps_set (j := 3) (u := .bool true) (Keeps.refl (fun k => k = gd) w) rfl) rfl)
  have c3 : w.cell? ⟨gd, 3, none⟩ = some (.bool d.cut) := by rw [cell_of_row _ _ 3 _ _ _ hg]; rfl
  have c5 : (w.setCell ⟨gd, 3, none⟩ (.bool true)).cell? ⟨gd, 5, none⟩ = some (.int .i64 d.left) := by rw [cell_of_row _ _ 5 _ _ _ h1]; rfl
  have HD := Lib.hid h
  clear h h1 h2 hg
  go_enter Try.func22, Try.ntmps22
  by_cases hn : n < 0
  · go_wp2
    go_end0
    obtain ⟨st, hd⟩ := HD.out.put (d' := cutK d n) (HK.out 0) (by have := H2.out 0; simpa [dcells, cutK, hn] using this) rfl rfl rfl rfl
    exact ⟨rfl, st, hd⟩
  · go_wp2
    go_end0
    have h1 := H2.out n
    have e : cutK d n = { d with cut := true, left := n } := by
      simp only [cutK]
      rw [if_neg (by omega)]
    have h2 : ((w.setCell ⟨gd, 3, none⟩ (.bool true)).setCell ⟨gd, 5, none⟩ (.int .i64 n)).heap[gd]? = some (.cells (dcells (cutK d n) mb v) 79 (0, 0)) := by
      rw [e]
      simpa [dcells] using h1
    obtain ⟨st, hd⟩ := HD.out.put (d' := cutK d n) (HK.out n) h2 rfl rfl rfl rfl
    exact ⟨rfl, st, hd⟩
end Go.Proofs.Ytdldclakkplliaa
