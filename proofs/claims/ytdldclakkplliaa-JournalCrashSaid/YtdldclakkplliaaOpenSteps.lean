/- A list of steps of three numbers, opened to the words of the walks. Conditions: none. -/
import Derived.Test.YtdldclakkplliaaOpen
import Derived.Test.YtdldclakkplliaaSteps
import Derived.Test.YtdldclakkplliaaProg
import Derived.Deep.Slices
namespace Go.Proofs.Ytdldclakkplliaa
set_option linter.unusedVariables false
set_option linter.unusedSimpArgs false
open Go.ChangeShapes Go.WideShapes Go.ChangeAt Go.RowKit Go.Deep
section
variable {H : Type} {enc : TypeId × Value → H} {P : Program} {w : World} {base : Nat} {spare : Nat → Bool} {held : Bool}
theorem open_slice_fields {t e : TypeId} {fs : Array Field} {fuel : Nat} {cs : List Value} {x : DataW H × List MemPlace} (ht : P.underlying t = some (.slice e)) (he : P.underlying e = some (.struct fs))
    (hone : oneCellFields P fs = true) (hC : P.cellsOf e = fs.size) (h : DataW.trod enc P w base spare held fuel t cs = some x) :
    (cs = [.slice none 0 0] ∧ x = (.nil, [])) ∨
    ∃ (a : Addr) (len cap m : Nat) (D : Nat → DataW H) (Pl : Nat → List MemPlace), cs = [.slice (some a) len cap] ∧ base ≤ a.block ∧ len ≤ cap ∧ cap ≤ maxLen ∧ m = (if spare a.block then cap else len) ∧
      x = (.slice ((List.range len).map D) ((List.range (m - len)).map fun j => D (len + j)), MemPlace.row a (m * fs.size) ++ (List.range m).flatMap Pl) ∧
      ∀ i, i < m → ∃ (ys : List (DataW H × List MemPlace)) (n : Nat), D i = .agg (ys.map (·.1)) ∧ Pl i = ys.flatMap (·.2) ∧ ys.length = fs.size ∧
        ∀ (j : Nat) (f : Field), fs[j]? = some f → ∃ (v : Value) (y : DataW H × List MemPlace), w.cell? (a.add (i * fs.size + j)) = some v ∧ ys[j]? = some y ∧ DataW.trod enc P w base spare held n f.type [v] = some y := by
  rcases open_slice ht h with h0 | ⟨a, len, cap, m, n, D, Pl, hcs, hb, hl, hm, hmm, hx, hi⟩
  · exact .inl h0
  · refine .inr ⟨a, len, cap, m, D, Pl, hcs, hb, hl, hm, hmm, by rw [hC] at hx; exact hx, fun i him => ?_⟩
    obtain ⟨cs', hc, ht'⟩ := hi i him
    rw [hC] at hc
    obtain ⟨ys, n', hn', hy, hlen, hyl, hf⟩ := DataW.trod_struct he ht'
    obtain ⟨_, hcl, hat⟩ := World.cells?_some hc
    simp only [Prod.mk.injEq] at hy
    refine ⟨ys, n', hy.1, hy.2, hyl, fun j f hj => ?_⟩
    obtain ⟨ho, hk⟩ := hone_of hone j f hj
    have hjl : j < fs.size := (Array.getElem?_eq_some_iff.1 hj).1
    have hcell := hat j hjl
    have hv : cs'[j]? = some (cs'[j]'(by omega)) := List.getElem?_eq_getElem (by omega)
    have h1 := hf j f hj
    rw [ho, hk] at h1
    have hone' : (cs'.drop j).take 1 = [cs'[j]'(by omega)] := by
      rw [List.drop_eq_getElem_cons (by omega)]
      rfl
    rw [hone'] at h1
    have hys : ys[j]? = some (ys[j]'(by omega)) := List.getElem?_eq_getElem (by omega)
    refine ⟨_, _, ?_, hys, h1.trans hys⟩
    rw [← Go.Deep.add_add, hcell, hv]
end
section
variable {H : Type} {enc : TypeId × Value → H} {w : World} {base : Nat} {v : Value} {d : DataW H} {p : List MemPlace} {r : Reach} {b0 : Nat}
set_option maxRecDepth 100000 in
theorem open_steps3 {t e : TypeId} {fs : Array Field} (ht : Try.prog.underlying t = some (.slice e)) (he : Try.prog.underlying e = some (.struct fs)) (h3 : fs.size = 3) (ta : fs[0]?.map (·.type) = some 3) (tb : fs[1]?.map (·.type) = some 3) (tc : fs[2]?.map (·.type) = some 3) (hone : oneCellFields Try.prog fs = true) (hC : Try.prog.cellsOf e = fs.size) (hv : Value.okWide Try.prog w r b0 t v) (h : DataW.Trod enc Try.prog w base (fun _ => true) true t v d p) :
    ∃ A c ss, v = .slice A (List.length (α := S3) ss) c ∧ RT w A ss ∧ ∀ s ∈ ss, s.wf := by
  obtain ⟨a, len, cap, rfl⟩ := okWide_slice ht hv
  obtain ⟨fuel, hf⟩ := h
  rcases open_slice_fields ht he hone hC hf with ⟨hcs, _⟩ | ⟨x, l, c, m, D, Pl, hcs, _, hl, hm, hmm, _, hi⟩
  · simp [Value.cells] at hcs
    obtain ⟨rfl, rfl, rfl⟩ := hcs
    exact ⟨none, 0, [], rfl, RT.mk' (by simp) (fun j s h => by simp at h), by simp⟩
  · simp [Value.cells] at hcs
    obtain ⟨rfl, rfl, rfl⟩ := hcs
    simp only [if_true] at hmm
    rw [h3] at hi
    have each : ∀ j, ∃ s : S3, j < len → (w.cell? (x.add (j * 3)) = some (.int .i64 s.k) ∧ w.cell? ((x.add (j * 3)).add 1) = some (.int .i64 s.a) ∧ w.cell? ((x.add (j * 3)).add 2) = some (.int .i64 s.n)) ∧ s.wf := by
      intro j
      by_cases hj : j < len
      · obtain ⟨ys, n, _, _, _, hfl⟩ := hi j (by omega)
        obtain ⟨f0, g0, ty0⟩ := Option.map_eq_some_iff.1 ta
        obtain ⟨f1, g1, ty1⟩ := Option.map_eq_some_iff.1 tb
        obtain ⟨f2, g2, ty2⟩ := Option.map_eq_some_iff.1 tc
        obtain ⟨v0, y0, c0, _, t0⟩ := hfl 0 _ g0
        obtain ⟨v1, y1, c1, _, t1⟩ := hfl 1 _ g1
        obtain ⟨v2, y2, c2, _, t2⟩ := hfl 2 _ g2
        rw [ty0] at t0
        rw [ty1] at t1
        rw [ty2] at t2
        obtain ⟨z0, e0, _, w0⟩ := DataW.trod_int Try.underlying3 t0
        obtain ⟨z1, e1, _, w1⟩ := DataW.trod_int Try.underlying3 t1
        obtain ⟨z2, e2, _, w2⟩ := DataW.trod_int Try.underlying3 t2
        simp at e0 e1 e2
        subst e0 e1 e2
        refine ⟨⟨z0, z1, z2⟩, fun _ => ⟨⟨c0, ?_, ?_⟩, i64_wf w0, i64_wf w1, i64_wf w2⟩⟩
        · rw [Go.Proofs.Ytdldclakkplliaa.add_add]; exact c1
        · rw [Go.Proofs.Ytdldclakkplliaa.add_add]; exact c2
      · exact ⟨⟨0, 0, 0⟩, fun h => absurd h hj⟩
    obtain ⟨f, hf2⟩ := Classical.axiomOfChoice each
    have hll : ((List.range len).map f).length = len := by simp
    refine ⟨some x, cap, (List.range len).map f, by rw [hll], RT.mk' (by rw [hll]; simp only [maxLen] at hm; omega) (fun j s hs => ?_), fun s hs => ?_⟩
    · rw [List.getElem?_map] at hs
      obtain ⟨i, hi2, rfl⟩ := Option.map_eq_some_iff.1 hs
      obtain ⟨h1, h2⟩ := List.getElem?_eq_some_iff.1 hi2
      rw [List.getElem_range] at h2
      subst h2
      rw [List.length_range] at h1
      obtain ⟨⟨e0, e1, e2⟩, _⟩ := hf2 j h1
      exact ⟨x, rfl, e0, e1, e2⟩
    · obtain ⟨i, hi2, rfl⟩ := List.mem_map.1 hs
      exact (hf2 i (List.mem_range.1 hi2)).2
end
end Go.Proofs.Ytdldclakkplliaa
