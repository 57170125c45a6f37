/- A list of steps of three numbers as it is read. Conditions: none; no program is named here. -/
import Derived.Test.YtdldclakkplliaaBase
namespace Go.Proofs.Ytdldclakkplliaa
set_option linter.unusedVariables false
set_option linter.unusedSimpArgs false
open Go.RowKit

structure S3 where
  k : Int
  a : Int
  n : Int
def S3.wf (s : S3) : Prop := (-9223372036854775808 ≤ s.k ∧ s.k ≤ 9223372036854775807) ∧ (-9223372036854775808 ≤ s.a ∧ s.a ≤ 9223372036854775807) ∧ (-9223372036854775808 ≤ s.n ∧ s.n ≤ 9223372036854775807)
def RT (w : World) (A : Option Addr) (ss : List S3) : Prop := ss.length ≤ 9223372036854775807 ∧ ∀ j s, ss[j]? = some s → ∃ ad, A = some ad ∧ w.cell? (ad.add (j * 3)) = some (.int .i64 s.k) ∧ w.cell? ((ad.add (j * 3)).add 1) = some (.int .i64 s.a) ∧ w.cell? ((ad.add (j * 3)).add 2) = some (.int .i64 s.n)
theorem RT.at_ {w : World} {A : Option Addr} {ss : List S3} (h : RT w A ss) (j : Nat) (s : S3) (hs : ss[j]? = some s) : ∃ ad, A = some ad ∧ w.cell? (ad.add (j * 3)) = some (.int .i64 s.k) ∧ w.cell? ⟨(ad.add (j * 3)).block, (ad.add (j * 3)).off + 1, none⟩ = some (.int .i64 s.a) ∧ w.cell? ⟨(ad.add (j * 3)).block, (ad.add (j * 3)).off + 2, none⟩ = some (.int .i64 s.n) := h.2 j s hs
theorem RT.mk' {w : World} {A : Option Addr} {ss : List S3} (h1 : ss.length ≤ 9223372036854775807) (h2 : ∀ j s, ss[j]? = some s → ∃ ad, A = some ad ∧ w.cell? (ad.add (j * 3)) = some (.int .i64 s.k) ∧ w.cell? ((ad.add (j * 3)).add 1) = some (.int .i64 s.a) ∧ w.cell? ((ad.add (j * 3)).add 2) = some (.int .i64 s.n)) : RT w A ss := ⟨h1, h2⟩
theorem RT.len {w : World} {A : Option Addr} {ss : List S3} (h : RT w A ss) : ss.length ≤ 9223372036854775807 := h.1
theorem RT.below {w w' : World} {A : Option Addr} {ss : List S3} (h : RT w A ss) (hb : Below w.heap.size w w') : RT w' A ss :=
  ⟨h.1, fun j s hs => by
    obtain ⟨ad, e, h0, h1, h2⟩ := h.2 j s hs
    exact ⟨ad, e, (hb.cell (World.block_lt_of_cell? _ _ h0)).trans h0, (hb.cell (World.block_lt_of_cell? _ _ h1)).trans h1, (hb.cell (World.block_lt_of_cell? _ _ h2)).trans h2⟩⟩
attribute [irreducible] RT
end Go.Proofs.Ytdldclakkplliaa
