/- A list of steps, opened to the words of the walks. Conditions: none. -/
import Derived.Test.YtbjkeakehdljlaaOpen
import Derived.Test.YtbjkeakehdljlaaSteps
import Derived.Test.YtbjkeakehdljlaaProg
import Derived.Deep.Slices
namespace Go.Proofs.Ytbjkeakehdljlaa
set_option linter.unusedVariables false
set_option linter.unusedSimpArgs false
open Go.ChangeShapes Go.WideShapes Go.ChangeAt Go.RowKit Go.Deep
section
variable {H : Type} {enc : TypeId × Value → H} {P : Program} {w : World} {base : Nat} {spare : Nat → Bool} {held : Bool}
theorem open_slice_fields {t e : TypeId} {fs : Array Field} {fuel : Nat} {cs : List Value} {x : DataW H × List MemPlace} (ht : P.underlying t = some (.slice e)) (he : P.underlying e = some (.struct fs))
    (hone : oneCellFields P fs = true) (hC : P.cellsOf e = fs.size) (h : DataW.trod enc P w base spare held fuel t cs = some x) :
    (cs = [.slice none 0 0] ∧ x = (.nil, [])) ∨
    ∃ (a : Addr) (len cap m : Nat) (D : Nat → DataW H) (Pl : Nat → List MemPlace), cs = [.slice (some a) len cap] ∧ base ≤ a.block ∧ len ≤ cap ∧ cap ≤ maxLen ∧ m = (if spare a.block then cap else len) ∧
      x = (.slice ((List.range len).map D) ((List.range (m - len)).map fun j => D (len + j)), MemPlace.row a (m * fs.size) ++ (List.range m).flatMap Pl) ∧
      ∀ i, i < m → ∃ (ys : List (DataW H × List MemPlace)) (n : Nat), D i = .agg (ys.map (·.1)) ∧ Pl i = ys.flatMap (·.2) ∧ ys.length = fs.size ∧
        ∀ (j : Nat) (f : Field), fs[j]? = some f → ∃ (v : Value) (y : DataW H × List MemPlace), w.cell? (a.add (i * fs.size + j)) = some v ∧ ys[j]? = some y ∧ DataW.trod enc P w base spare held n f.type [v] = some y := by
  rcases open_slice ht h with h0 | ⟨a, len, cap, m, n, D, Pl, hcs, hb, hl, hm, hmm, hx, hi⟩
  · exact .inl h0
  · refine .inr ⟨a, len, cap, m, D, Pl, hcs, hb, hl, hm, hmm, by rw [hC] at hx; exact hx, fun i him => ?_⟩
    obtain ⟨cs', hc, ht'⟩ := hi i him
    rw [hC] at hc
    obtain ⟨ys, n', hn', hy, hlen, hyl, hf⟩ := DataW.trod_struct he ht'
    obtain ⟨_, hcl, hat⟩ := World.cells?_some hc
    simp only [Prod.mk.injEq] at hy
    refine ⟨ys, n', hy.1, hy.2, hyl, fun j f hj => ?_⟩
    obtain ⟨ho, hk⟩ := hone_of hone j f hj
    have hjl : j < fs.size := (Array.getElem?_eq_some_iff.1 hj).1
    have hcell := hat j hjl
    have hv : cs'[j]? = some (cs'[j]'(by omega)) := List.getElem?_eq_getElem (by omega)
    have h1 := hf j f hj
    rw [ho, hk] at h1
    have hone' : (cs'.drop j).take 1 = [cs'[j]'(by omega)] := by
      rw [List.drop_eq_getElem_cons (by omega)]
      rfl
    rw [hone'] at h1
    have hys : ys[j]? = some (ys[j]'(by omega)) := List.getElem?_eq_getElem (by omega)
    refine ⟨_, _, ?_, hys, h1.trans hys⟩
    rw [← Go.Deep.add_add, hcell, hv]
end

section
variable {H : Type} {enc : TypeId × Value → H} {w : World} {base : Nat} {v : Value} {d : DataW H} {p : List MemPlace} {r : Reach} {b0 : Nat}
theorem open_step_bytes {fuel : Nat} {u : Value} {x : DataW H × List MemPlace} (h : DataW.trod enc Try.prog w base (fun _ => true) true fuel 22 [u] = some x) : ∃ A c bs, u = .slice A bs.length c ∧ SV A bs.length c ∧ RB w A bs := by
  rcases open_ints Try.underlying22 Try.underlying5 (by kernel_rfl) h with ⟨hcs, _⟩ | ⟨x, l, c, zs, hcs, _, hl, hm, hz, _, hcell, hwz⟩
  · simp at hcs
    subst hcs
    exact ⟨none, 0, [], rfl, ⟨Nat.le_refl _, fun _ => rfl⟩, RB.nil _ _⟩
  · simp at hcs
    subst hcs
    simp only [if_true] at hz
    obtain ⟨bs, hbl, hb⟩ := RB_of_ints (A := some x) (n := l) (w := w) (by omega) (by omega) hwz (fun _ => ⟨x, rfl, hcell⟩)
    subst hbl
    exact ⟨_, _, bs, rfl, ⟨hl, fun h => by cases h⟩, hb⟩
theorem open_sends (hv : Value.okWide Try.prog w r b0 37 v) (h : DataW.Trod enc Try.prog w base (fun _ => true) true 37 v d p) :
    ∃ A c ss, v = .slice A (List.length (α := St) ss) c ∧ RS w A ss ∧ ∀ s ∈ ss, (-9223372036854775808 ≤ s.k ∧ s.k ≤ 9223372036854775807) ∧ -9223372036854775808 ≤ s.a ∧ s.a ≤ 9223372036854775807 := by
  obtain ⟨a, len, cap, rfl⟩ := okWide_slice Try.underlying37 hv
  obtain ⟨fuel, hf⟩ := h
  rcases open_slice_fields Try.underlying37 Try.underlying40 (by kernel_rfl) (by kernel_rfl) hf with ⟨hcs, _⟩ | ⟨x, l, c, m, D, Pl, hcs, _, hl, hm, hmm, _, hi⟩
  · simp [Value.cells] at hcs
    obtain ⟨rfl, rfl, rfl⟩ := hcs
    exact ⟨none, 0, [], rfl, RS.mk' (by simp) (fun j s h => by simp at h), by simp⟩
  · simp [Value.cells] at hcs
    obtain ⟨rfl, rfl, rfl⟩ := hcs
    simp only [if_true] at hmm
    have each : ∀ j, ∃ s : St, j < len → (∃ Aj cj, w.cell? (x.add (j * 3)) = some (.int .i64 s.k) ∧ w.cell? ((x.add (j * 3)).add 1) = some (.int .i64 s.a) ∧ w.cell? ((x.add (j * 3)).add 2) = some (.slice Aj s.b.length cj) ∧ SV Aj s.b.length cj ∧ RB w Aj s.b) ∧ (-9223372036854775808 ≤ s.k ∧ s.k ≤ 9223372036854775807) ∧ -9223372036854775808 ≤ s.a ∧ s.a ≤ 9223372036854775807 := by
      intro j
      by_cases hj : j < len
      · obtain ⟨ys, n, _, _, _, hfl⟩ := hi j (by omega)
        obtain ⟨v0, y0, c0, _, t0⟩ := hfl 0 _ rfl
        obtain ⟨v1, y1, c1, _, t1⟩ := hfl 1 _ rfl
        obtain ⟨v2, y2, c2, _, t2⟩ := hfl 2 _ rfl
        obtain ⟨z0, e0, _, w0⟩ := DataW.trod_int Try.underlying3 t0
        obtain ⟨z1, e1, _, w1⟩ := DataW.trod_int Try.underlying3 t1
        obtain ⟨Aj, cj, bs, rfl, hsv, hrb⟩ := open_step_bytes t2
        simp at e0 e1
        subst e0 e1
        have q0 := i64_wf w0
        have q1 := i64_wf w1
        refine ⟨⟨z0, z1, bs⟩, fun _ => ⟨⟨Aj, cj, c0, ?_, ?_, hsv, hrb⟩, q0, q1⟩⟩
        · rw [Go.Proofs.Ytbjkeakehdljlaa.add_add]; exact c1
        · rw [Go.Proofs.Ytbjkeakehdljlaa.add_add]; exact c2
      · exact ⟨⟨0, 0, []⟩, fun h => absurd h hj⟩
    obtain ⟨f, hf2⟩ := Classical.axiomOfChoice each
    have hll : ((List.range len).map f).length = len := by simp
    refine ⟨some x, cap, (List.range len).map f, by rw [hll], RS.mk' (by rw [hll]; simp only [maxLen] at hm; omega) (fun j s hs => ?_), fun s hs => ?_⟩
    · rw [List.getElem?_map] at hs
      obtain ⟨i, hi2, rfl⟩ := Option.map_eq_some_iff.1 hs
      obtain ⟨h1, h2⟩ := List.getElem?_eq_some_iff.1 hi2
      rw [List.getElem_range] at h2
      subst h2
      rw [List.length_range] at h1
      obtain ⟨⟨Aj, cj, e0, e1, e2, e3, e4⟩, _⟩ := hf2 j h1
      exact ⟨x, Aj, cj, rfl, e0, e1, e2, e3, e4⟩
    · obtain ⟨i, hi2, rfl⟩ := List.mem_map.1 hs
      exact (hf2 i (List.mem_range.1 hi2)).2
end
end Go.Proofs.Ytbjkeakehdljlaa
