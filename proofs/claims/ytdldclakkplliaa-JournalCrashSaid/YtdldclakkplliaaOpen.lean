/- Arguments opened to the words of the walks. Conditions: none; no program is named here. -/
import Derived.Test.YtdldclakkplliaaBase
import Derived.ProofKit
import Derived.Deep.Matrix
import Derived.Deep.Fields
import Derived.ChangeSame
namespace Go.Proofs.Ytdldclakkplliaa
set_option linter.unusedVariables false
set_option linter.unusedSimpArgs false
open Go.ChangeShapes Go.WideShapes Go.ChangeAt Go.RowKit Go.Deep

/-- Numbers of the kind of bytes, as bytes. -/
def bytesOf (zs : List Int) : List UInt8 := zs.map fun z => UInt8.ofNat z.toNat
theorem bytesOf_length (zs : List Int) : (bytesOf zs).length = zs.length := by simp [bytesOf]
theorem bytesOf_get (zs : List Int) (h : ∀ n ∈ zs, (Lit.int .u8 n).wf = true) (j : Nat) (hj : j < zs.length) : (((bytesOf zs).getD j 0).toNat : Int) = zs.getD j 0 := by
  have hw := h zs[j] (List.getElem_mem hj)
  have hb : 0 ≤ zs[j] ∧ zs[j] < 256 := by
    simp [Lit.wf, IntKind.min, IntKind.max, IntKind.bits, IntKind.signed] at hw
    omega
  have e : (bytesOf zs).getD j 0 = UInt8.ofNat zs[j].toNat := by
    simp [bytesOf, List.getD_eq_getElem?_getD, List.getElem?_eq_getElem hj]
  rw [e, UInt8.toNat_ofNat', List.getD_eq_getElem?_getD, List.getElem?_eq_getElem hj]
  simp only [Option.getD_some]
  omega

theorem u32_wf {n : Int} (h : (Lit.int .u32 n).wf = true) : 0 ≤ n ∧ n < 4294967296 := by
  simp [Lit.wf, IntKind.min, IntKind.max, IntKind.bits, IntKind.signed] at h
  omega
theorem i64_wf {n : Int} (h : (Lit.int .i64 n).wf = true) : -9223372036854775808 ≤ n ∧ n ≤ 9223372036854775807 := by
  simp [Lit.wf, IntKind.min, IntKind.max, IntKind.bits, IntKind.signed] at h
  omega

section
variable {H : Type} {enc : TypeId × Value → H} {P : Program} {w : World} {base : Nat} {t e q : TypeId} {v : Value} {d : DataW H} {p : List MemPlace} {r : Reach} {b0 : Nat}

theorem RB_of_ints {A : Option Addr} {zs : List Int} {n : Nat} (hn : n ≤ zs.length) (hm : zs.length ≤ maxLen) (hw : ∀ n ∈ zs, (Lit.int .u8 n).wf = true) (h : 0 < n → ∃ ad, A = some ad ∧ ∀ i, i < zs.length → w.cell? (ad.add i) = some (.int .u8 (zs.getD i 0))) :
    ∃ bs, bs.length = n ∧ RB w A bs := by
  have hl : ((bytesOf zs).take n).length = n := by rw [List.length_take, bytesOf_length]; omega
  refine ⟨(bytesOf zs).take n, hl, RB.mk' (by rw [hl]; simp only [maxLen] at hm; omega) ?_⟩
  rw [hl]
  intro hp
  obtain ⟨ad, e, hc⟩ := h hp
  refine ⟨ad, e, fun j hj => ?_⟩
  rw [hc j (by omega)]
  have e2 : ((bytesOf zs).take n).getD j 0 = (bytesOf zs).getD j 0 := by
    simp [List.getD_eq_getElem?_getD, List.getElem?_take, hj]
  show _ = some (Value.int .u8 ((((bytesOf zs).take n).getD j 0).toNat : Int))
  rw [e2, bytesOf_get zs hw j (by omega)]

theorem open_bytes (hu : P.underlying t = some (.slice e)) (he : P.underlying e = some (.int .u8)) (hc : P.cellsOf e = 1) (hv : Value.okWide P w r b0 t v) (h : DataW.Trod enc P w base (fun _ => true) true t v d p) :
    ∃ A c bs, v = .slice A bs.length c ∧ SV A bs.length c ∧ RB w A bs := by
  obtain ⟨a, len, cap, rfl⟩ := okWide_slice hu hv
  obtain ⟨fuel, hf⟩ := h
  rcases open_ints hu he hc hf with ⟨hcs, _⟩ | ⟨x, l, c, zs, hcs, _, hl, hm, hz, _, hcell, hwz⟩
  · simp [Value.cells] at hcs
    obtain ⟨rfl, rfl, rfl⟩ := hcs
    exact ⟨none, 0, [], rfl, ⟨Nat.le_refl _, fun _ => rfl⟩, RB.nil _ _⟩
  · simp [Value.cells] at hcs
    obtain ⟨rfl, rfl, rfl⟩ := hcs
    simp only [if_true] at hz
    obtain ⟨bs, hbl, hb⟩ := RB_of_ints (A := some x) (n := len) (w := w) (by omega) (by omega) hwz (fun _ => ⟨x, rfl, hcell⟩)
    subst hbl
    exact ⟨_, _, bs, rfl, ⟨hl, fun h => by cases h⟩, hb⟩

theorem open_nums (hu : P.underlying t = some (.slice e)) (he : P.underlying e = some (.int .i64)) (hc : P.cellsOf e = 1) (hv : Value.okWide P w r b0 t v) (h : DataW.Trod enc P w base (fun _ => true) true t v d p) :
    ∃ A c xs, v = .slice A xs.length c ∧ SV A xs.length c ∧ RI w A xs ∧ ∀ x ∈ xs, -9223372036854775808 ≤ x ∧ x ≤ 9223372036854775807 := by
  obtain ⟨a, len, cap, rfl⟩ := okWide_slice hu hv
  obtain ⟨fuel, hf⟩ := h
  rcases open_ints hu he hc hf with ⟨hcs, _⟩ | ⟨x, l, c, zs, hcs, _, hl, hm, hz, _, hcell, hwz⟩
  · simp [Value.cells] at hcs
    obtain ⟨rfl, rfl, rfl⟩ := hcs
    exact ⟨none, 0, [], rfl, ⟨Nat.le_refl _, fun _ => rfl⟩, RI.nil _ _, by simp⟩
  · simp [Value.cells] at hcs
    obtain ⟨rfl, rfl, rfl⟩ := hcs
    simp only [if_true] at hz
    have hl2 : (zs.take len).length = len := by rw [List.length_take]; omega
    refine ⟨some x, cap, zs.take len, by rw [hl2], ⟨by omega, fun h => by cases h⟩, RI.mk' (by simp only [maxLen] at hm; omega) (fun _ => ⟨x, rfl, fun j hj => ?_⟩), fun y hy => ?_⟩
    · rw [hcell j (by omega)]
      have : j < len := by omega
      simp [List.getD_eq_getElem?_getD, List.getElem?_take, this]
    · have := hwz y (List.mem_of_mem_take hy)
      simp [Lit.wf, IntKind.min, IntKind.max, IntKind.bits, IntKind.signed] at this
      omega

theorem open_pieces (hu : P.underlying t = some (.slice e)) (he : P.underlying e = some (.slice q)) (hq : P.underlying q = some (.int .u8)) (ce : P.cellsOf e = 1) (cq : P.cellsOf q = 1)
    (hv : Value.okWide P w r b0 t v) (h : DataW.Trod enc P w base (fun _ => true) true t v d p) : ∃ A c ls, v = .slice A ls.length c ∧ SV A ls.length c ∧ RL w A ls := by
  obtain ⟨a, len, cap, rfl⟩ := okWide_slice hu hv
  obtain ⟨fuel, hf⟩ := h
  rcases open_int_rows hu he hq ce cq hf with ⟨hcs, _⟩ | ⟨x, l, c, A, L, C, Z, hcs, _, hl, hm, _, hrow⟩
  · simp [Value.cells] at hcs
    obtain ⟨rfl, rfl, rfl⟩ := hcs
    exact ⟨none, 0, [], rfl, ⟨Nat.le_refl _, fun _ => rfl⟩, RL.nil _ _⟩
  · simp [Value.cells] at hcs
    obtain ⟨rfl, rfl, rfl⟩ := hcs
    have each : ∀ j, ∃ bs : List UInt8, j < len → bs.length = L j ∧ RB w (A j) bs := by
      intro j
      by_cases hj : j < len
      · obtain ⟨_, h1, h2, h3, h4, h5, h6⟩ := hrow j (by omega)
        obtain ⟨bs, hb1, hb2⟩ := RB_of_ints (w := w) (A := A j) (n := L j) (zs := Z j) (by omega) (by omega) h4 (fun hp => by
          cases hA : A j with
          | none => have := h5 hA; omega
          | some a' =>
            refine ⟨a', rfl, fun i hi => ?_⟩
            rw [h3] at hi
            exact (h6 a' hA).2 i hi)
        exact ⟨bs, fun _ => ⟨hb1, hb2⟩⟩
      · exact ⟨[], fun h => absurd h hj⟩
    have F := Classical.axiomOfChoice each
    obtain ⟨f, hf2⟩ := F
    have hll : ((List.range len).map f).length = len := by simp
    have hget : ∀ j, j < len → ((List.range len).map f).getD j [] = f j := by
      intro j hj
      simp [List.getD_eq_getElem?_getD, hj]
    refine ⟨some x, cap, (List.range len).map f, by rw [hll], ⟨by omega, fun h => by cases h⟩, RL.mk' (by rw [hll]; simp only [maxLen] at hm; omega) (fun _ => ⟨x, rfl, fun j hj => ?_⟩)⟩
    rw [hll] at hj
    rw [hget j hj]
    obtain ⟨hb1, hb2⟩ := hf2 j hj
    obtain ⟨h0, h1, h2, h3, h4, h5, h6⟩ := hrow j (by omega)
    exact ⟨A j, C j, by rw [h0, hb1], ⟨by omega, h5⟩, hb2⟩
end
end Go.Proofs.Ytdldclakkplliaa
