/- A row of thirty-two sectors, or numbers, of the law's own. Conditions: none. -/
import Derived.Test.YtdldclakkplliaaDisk
namespace Go.Proofs.Ytdldclakkplliaa
set_option linter.unusedVariables false
set_option linter.unusedSimpArgs false
open Go.RowKit

structure ArrAt (w : World) (col : Nat → Nat) (g cg m : Nat) (bs : Nat → List UInt8) : Prop where
  row : ∃ cs : Array Value, w.heap[g]? = some (.cells cs 49 (0, 0)) ∧ cs.size = 32 ∧ ∀ j, j < m → ∃ A c, cs[j]? = some (.slice A 64 c) ∧ SV A 64 c ∧ RC w col 0 A (bs j) ∧ (bs j).length = 64
  hcol : col g = cg
theorem ArrAt.lt {w : World} {col : Nat → Nat} {g cg m : Nat} {bs : Nat → List UInt8} (h : ArrAt w col g cg m bs) : g < w.heap.size := by
  obtain ⟨cs, h1, -⟩ := h.row
  exact (Array.getElem?_eq_some_iff.1 h1).1
theorem ArrAt.step {w w' : World} {col col' : Nat → Nat} {g cg m j : Nat} {bs : Nat → List UInt8} (h : ArrAt w col g cg m bs) (s : Step j w col w' col') (hj : j ≠ cg) (hz : j ≠ 0) : ArrAt w' col' g cg m bs := by
  have hl := h.lt
  obtain ⟨cs, h1, h2, h3⟩ := h.row
  refine ⟨⟨cs, (s.keeps.block g hl (fun e => hj (e.symm.trans h.hcol))).trans h1, h2, fun i hi => ?_⟩, (s.same g hl).trans h.hcol⟩
  obtain ⟨A, c, e, hs, hr, hn⟩ := h3 i hi
  exact ⟨A, c, e, hs, hr.step s hz, hn⟩
theorem ArrAt.grow {w w' : World} {col : Nat → Nat} {g cg m : Nat} {bs : Nat → List UInt8} (h : ArrAt w col g cg m bs) (hb : Below w.heap.size w w') (new : Nat → Nat) : ArrAt w' (paint w col new) g cg m bs := by
  have hl := h.lt
  obtain ⟨cs, h1, h2, h3⟩ := h.row
  refine ⟨⟨cs, (hb.block g hl).trans h1, h2, fun i hi => ?_⟩, (paint_old hl).trans h.hcol⟩
  obtain ⟨A, c, e, hs, hr, hn⟩ := h3 i hi
  exact ⟨A, c, e, hs, (hr.recol fun k hk => paint_old hk).below hb, hn⟩
theorem ArrAt.load {w : World} {col : Nat → Nat} {g cg m : Nat} {bs : Nat → List UInt8} (h : ArrAt w col g cg m bs) (j : Nat) (hj : j < m) : ∃ A c, w.cell? ⟨g, j, none⟩ = some (.slice A 64 c) ∧ SV A 64 c ∧ RC w col 0 A (bs j) ∧ (bs j).length = 64 := by
  obtain ⟨cs, h1, h2, h3⟩ := h.row
  obtain ⟨A, c, e, hs, hr, hn⟩ := h3 j hj
  exact ⟨A, c, by rw [cell_of_row _ _ j _ _ _ h1]; exact e, hs, hr, hn⟩
theorem ArrAt.free {w : World} {col : Nat → Nat} {g cg m : Nat} {bs : Nat → List UInt8} (h : ArrAt w col g cg m bs) (j : Nat) : w.frozen? ⟨g, j, none⟩ = false := by
  obtain ⟨cs, h1, h2, h3⟩ := h.row
  exact frozen_of_row _ _ j _ _ h1
theorem ArrAt.store {w : World} {col : Nat → Nat} {g cg m m' : Nat} {bs : Nat → List UInt8} (h : ArrAt w col g cg m bs) (hz : cg ≠ 0) (j : Nat) (hj : j < 32) (hm : ∀ i, i < m' → i < m ∨ i = j) {A : Option Addr} {c : Nat} {b : List UInt8} (hs : SV A 64 c) (hr : RC w col 0 A b) (hb : b.length = 64) :
    Step cg w col (w.setCell ⟨g, j, none⟩ (.slice A 64 c)) col ∧ ArrAt (w.setCell ⟨g, j, none⟩ (.slice A 64 c)) col g cg m' (fun i => if i = j then b else bs i) := by
  have hl := h.lt
  obtain ⟨cs, h1, h2, h3⟩ := h.row
  have st : Step cg w col (w.setCell ⟨g, j, none⟩ (.slice A 64 c)) col := ⟨(Keeps.refl _ w).setCell (.inl h.hcol) _, fun _ _ => rfl⟩
  refine ⟨st, ⟨_, row_set (j := j) (.slice A 64 c) h1, by simpa using h2, fun i hi => ?_⟩, h.hcol⟩
  by_cases hij : i = j
  · subst hij
    refine ⟨A, c, by simp [Array.getElem?_setIfInBounds, h2, hj], hs, ?_, ?_⟩
    · rw [if_pos rfl]; exact hr.step st hz
    · rw [if_pos rfl]; exact hb
  · obtain ⟨A', c', e, hs', hr', hn'⟩ := h3 i ((hm i hi).resolve_right hij)
    refine ⟨A', c', by rw [Array.getElem?_setIfInBounds, if_neg (fun e => hij e.symm)]; exact e, hs', ?_, ?_⟩
    · rw [if_neg hij]; exact hr'.step st hz
    · rw [if_neg hij]; exact hn'
theorem ArrAt.same {w : World} {col : Nat → Nat} {g cg m : Nat} {bs bs' : Nat → List UInt8} (h : ArrAt w col g cg m bs) (e : ∀ j, j < m → bs' j = bs j) : ArrAt w col g cg m bs' := by
  obtain ⟨cs, h1, h2, h3⟩ := h.row
  refine ⟨⟨cs, h1, h2, fun i hi => ?_⟩, h.hcol⟩
  obtain ⟨A, c, e1, hs, hr, hn⟩ := h3 i hi
  exact ⟨A, c, e1, hs, by rw [e i hi]; exact hr, by rw [e i hi]; exact hn⟩

structure CntAt (w : World) (col : Nat → Nat) (g cg : Nat) (ns : Nat → Nat) : Prop where
  row : ∃ cs : Array Value, w.heap[g]? = some (.cells cs 54 (0, 0)) ∧ cs.size = 32 ∧ ∀ j, j < 32 → cs[j]? = some (.int .i64 (ns j : Int))
  hcol : col g = cg
theorem CntAt.lt {w : World} {col : Nat → Nat} {g cg : Nat} {ns : Nat → Nat} (h : CntAt w col g cg ns) : g < w.heap.size := by
  obtain ⟨cs, h1, -⟩ := h.row
  exact (Array.getElem?_eq_some_iff.1 h1).1
theorem CntAt.step {w w' : World} {col col' : Nat → Nat} {g cg j : Nat} {ns : Nat → Nat} (h : CntAt w col g cg ns) (s : Step j w col w' col') (hj : j ≠ cg) : CntAt w' col' g cg ns := by
  have hl := h.lt
  obtain ⟨cs, h1, h2, h3⟩ := h.row
  exact ⟨⟨cs, (s.keeps.block g hl (fun e => hj (e.symm.trans h.hcol))).trans h1, h2, h3⟩, (s.same g hl).trans h.hcol⟩
theorem CntAt.grow {w w' : World} {col : Nat → Nat} {g cg : Nat} {ns : Nat → Nat} (h : CntAt w col g cg ns) (hb : Below w.heap.size w w') (new : Nat → Nat) : CntAt w' (paint w col new) g cg ns := by
  have hl := h.lt
  obtain ⟨cs, h1, h2, h3⟩ := h.row
  exact ⟨⟨cs, (hb.block g hl).trans h1, h2, h3⟩, (paint_old hl).trans h.hcol⟩
theorem CntAt.load {w : World} {col : Nat → Nat} {g cg : Nat} {ns : Nat → Nat} (h : CntAt w col g cg ns) (j : Nat) (hj : j < 32) : w.cell? ⟨g, j, none⟩ = some (.int .i64 (ns j : Int)) := by
  obtain ⟨cs, h1, h2, h3⟩ := h.row
  rw [cell_of_row _ _ j _ _ _ h1]
  exact h3 j hj
theorem CntAt.free {w : World} {col : Nat → Nat} {g cg : Nat} {ns : Nat → Nat} (h : CntAt w col g cg ns) (j : Nat) : w.frozen? ⟨g, j, none⟩ = false := by
  obtain ⟨cs, h1, h2, h3⟩ := h.row
  exact frozen_of_row _ _ j _ _ h1
theorem CntAt.store {w : World} {col : Nat → Nat} {g cg : Nat} {ns : Nat → Nat} (h : CntAt w col g cg ns) (j : Nat) (hj : j < 32) (x : Nat) :
    Step cg w col (w.setCell ⟨g, j, none⟩ (.int .i64 (x : Int))) col ∧ CntAt (w.setCell ⟨g, j, none⟩ (.int .i64 (x : Int))) col g cg (fun i => if i = j then x else ns i) := by
  obtain ⟨cs, h1, h2, h3⟩ := h.row
  refine ⟨⟨(Keeps.refl _ w).setCell (.inl h.hcol) _, fun _ _ => rfl⟩, ⟨_, row_set (j := j) (.int .i64 (x : Int)) h1, by simpa using h2, fun i hi => ?_⟩, h.hcol⟩
  by_cases hij : i = j
  · subst hij
    rw [if_pos rfl]
    simp [Array.getElem?_setIfInBounds, h2, hj]
  · rw [Array.getElem?_setIfInBounds, if_neg (fun e => hij e.symm), if_neg hij]
    exact h3 i hi
theorem CntAt.same {w : World} {col : Nat → Nat} {g cg : Nat} {ns ns' : Nat → Nat} (h : CntAt w col g cg ns) (e : ∀ j, j < 32 → ns' j = ns j) : CntAt w col g cg ns' := by
  obtain ⟨cs, h1, h2, h3⟩ := h.row
  exact ⟨⟨cs, h1, h2, fun i hi => by rw [e i hi]; exact h3 i hi⟩, h.hcol⟩
end Go.Proofs.Ytdldclakkplliaa
