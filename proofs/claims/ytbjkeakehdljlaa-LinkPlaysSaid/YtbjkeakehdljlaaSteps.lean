/- A list of steps (kind, number, bytes) as it is read, and its weight. Conditions: none; no program is named here. -/
import Derived.Test.YtbjkeakehdljlaaBase
namespace Go.Proofs.Ytbjkeakehdljlaa
set_option linter.unusedVariables false
set_option linter.unusedSimpArgs false
open Go.RowKit

structure St where
  k : Int
  a : Int
  b : List UInt8
def RS (w : World) (A : Option Addr) (ss : List St) : Prop := ss.length ≤ 9223372036854775807 ∧ ∀ j s, ss[j]? = some s → ∃ ad Aj cj, A = some ad ∧ w.cell? (ad.add (j * 3)) = some (.int .i64 s.k) ∧ w.cell? ((ad.add (j * 3)).add 1) = some (.int .i64 s.a) ∧ w.cell? ((ad.add (j * 3)).add 2) = some (.slice Aj s.b.length cj) ∧ SV Aj s.b.length cj ∧ RB w Aj s.b
theorem RS.at_ {w : World} {A : Option Addr} {ss : List St} (h : RS w A ss) (j : Nat) (s : St) (hs : ss[j]? = some s) : ∃ ad Aj cj, A = some ad ∧ w.cell? (ad.add (j * 3)) = some (.int .i64 s.k) ∧ w.cell? ⟨(ad.add (j * 3)).block, (ad.add (j * 3)).off + 1, none⟩ = some (.int .i64 s.a) ∧ w.cell? ⟨(ad.add (j * 3)).block, (ad.add (j * 3)).off + 2, none⟩ = some (.slice Aj s.b.length cj) ∧ SV Aj s.b.length cj ∧ RB w Aj s.b := h.2 j s hs
theorem RS.mk' {w : World} {A : Option Addr} {ss : List St} (h1 : ss.length ≤ 9223372036854775807) (h2 : ∀ j s, ss[j]? = some s → ∃ ad Aj cj, A = some ad ∧ w.cell? (ad.add (j * 3)) = some (.int .i64 s.k) ∧ w.cell? ((ad.add (j * 3)).add 1) = some (.int .i64 s.a) ∧ w.cell? ((ad.add (j * 3)).add 2) = some (.slice Aj s.b.length cj) ∧ SV Aj s.b.length cj ∧ RB w Aj s.b) : RS w A ss := ⟨h1, h2⟩
theorem RS.len {w : World} {A : Option Addr} {ss : List St} (h : RS w A ss) : ss.length ≤ 9223372036854775807 := h.1
def weight (ss : List St) : Nat := (ss.map fun s => s.b.length + 1).sum
theorem weight_take (ss : List St) (k : Nat) (s : St) (h : ss[k]? = some s) : weight (ss.take (k + 1)) = weight (ss.take k) + s.b.length + 1 := by
  rw [List.take_add_one, h]
  simp only [weight, List.map_append, List.sum_append, Option.toList_some, List.map_cons, List.map_nil, List.sum_cons, List.sum_nil]
  omega
theorem weight_le (ss : List St) (k : Nat) : weight (ss.take k) ≤ weight ss := by
  have e2 : weight ss = weight (ss.take k) + weight (ss.drop k) := by
    have : weight ss = weight (ss.take k ++ ss.drop k) := by rw [List.take_append_drop]
    rw [this]
    simp only [weight, List.map_append, List.sum_append]
  omega
theorem weight_len (ss : List St) : ss.length ≤ weight ss := by
  induction ss with
  | nil => simp [weight]
  | cons s ss ih => simp only [weight, List.length_cons, List.map_cons, List.sum_cons] at *; omega
theorem weight_at (ss : List St) (s : St) (h : s ∈ ss) : s.b.length ≤ weight ss := by
  induction ss with
  | nil => cases h
  | cons t ss ih =>
    simp only [weight, List.map_cons, List.sum_cons] at *
    rcases List.mem_cons.1 h with h | h
    · subst h; omega
    · have := ih h; omega
def Weighs (m : Int) (ss : List St) (r : Int) : Prop := (m < r ∧ m < weight ss) ∨ (r ≤ m ∧ r = weight ss)
attribute [irreducible] RS
end Go.Proofs.Ytbjkeakehdljlaa
