/- What Append and Reset do to a half's bytes: plain. Conditions: none. -/
import Derived.Test.YtdldclakkplliaaJFlat
import Derived.Test.YtdldclakkplliaaJAppend
namespace Go.Proofs.Ytdldclakkplliaa
set_option linter.unusedVariables false
set_option linter.unusedSimpArgs false
open Go.RowKit

/-- Only these sectors turn, and they keep their length. -/
structure Turns (f g : Nat → List UInt8) (s0 n : Nat) : Prop where
  out : ∀ s, ¬ (s0 ≤ s ∧ s < s0 + n) → g s = f s
  len : ∀ s, (g s).length = 64
theorem eff_head {f : Nat → List UInt8} (h64 : ∀ i, (f i).length = 64) {s0 n q o P : Nat} {b : List UInt8} (hq : q < n) (hP : P = 64 * q + o) (ho : o + b.length ≤ 64) :
    Turns f (updV f (s0 + q) (patch (f (s0 + q)) o b)) s0 n ∧ ∀ i, i < 64 * n → (halfK (updV f (s0 + q) (patch (f (s0 + q)) o b)) s0 n).getD i 0 = if P ≤ i ∧ i < P + b.length then b.getD (i - P) 0 else (halfK f s0 n).getD i 0 := by
  have hlen : ∀ s, (updV f (s0 + q) (patch (f (s0 + q)) o b) s).length = 64 := fun s => by
    unfold updV
    split
    · rw [patch_len (by rw [h64]; exact ho), h64]
    · exact h64 s
  refine ⟨⟨fun s hs => ?_, hlen⟩, fun i hi => ?_⟩
  · unfold updV
    rw [if_neg (by omega)]
  · rw [halfK_getD _ _ _ _ hlen hi, halfK_getD _ _ _ _ h64 hi]
    unfold updV
    by_cases hq2 : i / 64 = q
    · rw [if_pos (by omega), patch_getD _ _ _ _ (by rw [h64]; exact ho), hq2]
      have he : (o ≤ i % 64 ∧ i % 64 < o + b.length) ↔ (P ≤ i ∧ i < P + b.length) := by omega
      by_cases hc : P ≤ i ∧ i < P + b.length
      · rw [if_pos (he.2 hc), if_pos hc, show i % 64 - o = i - P by omega]
      · rw [if_neg (fun h => hc (he.1 h)), if_neg hc]
    · rw [if_neg (by omega), if_neg (by omega)]
theorem eff_chunks (f : Nat → List UInt8) (S : Nat) (F : List UInt8) (m : Nat) (s : Nat) :
    effV f ((List.range m).map fun k => some (((S + k : Nat) : Int), chunkB F k)) s = if S ≤ s ∧ s < S + m then chunkB F (s - S) else f s := by
  induction m with
  | zero => rw [if_neg (by omega)]; rfl
  | succ m ih =>
    rw [List.range_succ, List.map_append, effV_append]
    show updV (effV f ((List.range m).map fun k => some (((S + k : Nat) : Int), chunkB F k))) (((S + m : Nat) : Int)).toNat (chunkB F m) s = _
    unfold updV
    rw [show (((S + m : Nat) : Int)).toNat = S + m by omega]
    by_cases hs : s = S + m
    · rw [if_pos hs, if_pos (by omega), hs, show S + m - S = m by omega]
    · rw [if_neg hs, ih]
      by_cases h : S ≤ s ∧ s < S + m
      · rw [if_pos h, if_pos (by omega)]
      · rw [if_neg h, if_neg (by omega)]
/-- What writes does. -/
theorem eff_writes {d : DK} (h64 : ∀ i, (vw d i).length = 64) {half P q o M : Nat} {b : List UInt8} (hq : q = P / 64) (ho : o = P % 64) (hqn : q < d.n / 2) (hM : M = (o + b.length + 63) / 64) (hfit : P + b.length ≤ d.n / 2 * 64) :
    Turns (vw d) (effV (vw d) (writesSh d half P b)) (half * (d.n / 2)) (d.n / 2) ∧ ∀ i, i < 64 * (d.n / 2) → (halfK (effV (vw d) (writesSh d half P b)) (half * (d.n / 2)) (d.n / 2)).getD i 0 =
      if i < P then (halfK (vw d) (half * (d.n / 2)) (d.n / 2)).getD i 0 else if i < 64 * (q + M) then b.getD (i - P) 0 else if i < 64 * (q + M) + 64 then 0 else (halfK (vw d) (half * (d.n / 2)) (d.n / 2)).getD i 0 := by
  obtain ⟨n, hn⟩ : ∃ n, n = d.n / 2 := ⟨_, rfl⟩
  obtain ⟨s0, hs0⟩ : ∃ s, s = half * n := ⟨_, rfl⟩
  obtain ⟨f, hf⟩ : ∃ f, f = vw d := ⟨_, rfl⟩
  have hF : fullB d half P b = (f (s0 + q)).take o ++ b := by unfold fullB; rw [hs0, hf, hn, hq, ho]; rfl
  obtain ⟨F, hFF⟩ : ∃ F, F = (f (s0 + q)).take o ++ b := ⟨_, rfl⟩
  have hFl : F.length = o + b.length := by rw [hFF, List.length_append, List.length_take, hf, h64]; omega
  have hsh : writesSh d half P b = blankSh d half (q + M) ++ (((List.range M).map fun k => some (((s0 + q + k : Nat) : Int), chunkB F k)) ++ [none]) := by
    unfold writesSh chunksSh
    rw [hF, ← hFF, hFl, ← hM, ← hq, ← hn, ← hs0]
  have hblank : ∀ s, effV f (blankSh d half (q + M)) s = if s = s0 + q + M ∧ q + M < n then zero64 else f s := by
    intro s
    unfold blankSh
    rw [← hn, ← hs0]
    by_cases h1 : n ≤ q + M
    · rw [if_pos h1, if_neg (by omega)]; rfl
    · rw [if_neg h1]
      by_cases h2 : readB d ((s0 + (q + M) : Nat) : Int) = zero64
      · rw [if_pos h2]
        show f s = _
        by_cases h3 : s = s0 + q + M ∧ q + M < n
        · rw [if_pos h3, hf, h3.1, show s0 + q + M = s0 + (q + M) by omega]; exact h2
        · rw [if_neg h3]
      · rw [if_neg h2]
        show updV f (((s0 + (q + M) : Nat) : Int)).toNat zero64 s = _
        unfold updV
        rw [show (((s0 + (q + M) : Nat) : Int)).toNat = s0 + q + M by omega]
        by_cases h3 : s = s0 + q + M
        · rw [if_pos h3, if_pos ⟨h3, by omega⟩]
        · rw [if_neg h3, if_neg (fun h => h3 h.1)]
  have heff : ∀ s, effV f (writesSh d half P b) s = if s0 + q ≤ s ∧ s < s0 + q + M then chunkB F (s - (s0 + q)) else if s = s0 + q + M ∧ q + M < n then zero64 else f s := by
    intro s
    rw [hsh, effV_append, effV_append]
    show effV (effV f (blankSh d half (q + M))) ((List.range M).map fun k => some (((s0 + q + k : Nat) : Int), chunkB F k)) s = _
    rw [eff_chunks, hblank]
  rw [← hn, ← hs0, ← hf]
  have hMn : q + M ≤ n := by omega
  have h64f : ∀ i, (f i).length = 64 := fun i => by rw [hf]; exact h64 i
  have hlen : ∀ s, (effV f (writesSh d half P b) s).length = 64 := fun s => by
    rw [heff]
    split
    · exact chunkB_len _ _
    · split
      · exact List.length_replicate ..
      · exact h64f s
  refine ⟨⟨fun s hs => ?_, hlen⟩, fun i hi => ?_⟩
  · rw [heff, if_neg (by omega), if_neg (by omega)]
  · rw [halfK_getD _ _ _ _ hlen hi, halfK_getD _ _ _ _ h64f hi, heff]
    by_cases h1 : q ≤ i / 64 ∧ i / 64 < q + M
    · rw [if_pos (by omega), chunk_getD _ _ _ (by omega), show 64 * (s0 + i / 64 - (s0 + q)) + i % 64 = i - 64 * q by omega, hFF]
      simp only [List.getD_eq_getElem?_getD]
      have hl1 : ((f (s0 + q)).take o).length = o := by rw [List.length_take, h64f]; omega
      by_cases h2 : i < P
      · rw [if_pos h2, List.getElem?_append_left (by omega), List.getElem?_take, if_pos (by omega), show i / 64 = q by omega, show i - 64 * q = i % 64 by omega]
      · rw [if_neg h2, if_pos (by omega), List.getElem?_append_right (by omega), hl1, show i - 64 * q - o = i - P by omega]
    · rw [if_neg (by omega)]
      by_cases h3 : i < P
      · rw [if_pos (c := i < P) h3, if_neg (c := s0 + i / 64 = s0 + q + M ∧ q + M < n) (by omega)]
      · rw [if_neg (c := i < P) h3, if_neg (c := i < 64 * (q + M)) (by omega)]
        by_cases h4 : i < 64 * (q + M) + 64
        · rw [if_pos (c := i < 64 * (q + M) + 64) h4, if_pos (c := s0 + i / 64 = s0 + q + M ∧ q + M < n) (by omega)]
          unfold zero64
          simp only [List.getD_eq_getElem?_getD, List.getElem?_replicate]
          rw [if_pos (by omega)]
          rfl
        · rw [if_neg (c := i < 64 * (q + M) + 64) h4, if_neg (c := s0 + i / 64 = s0 + q + M ∧ q + M < n) (by omega)]
theorem Turns.trans {f g h : Nat → List UInt8} {s0 n : Nat} (a : Turns f g s0 n) (b : Turns g h s0 n) : Turns f h s0 n := ⟨fun s hs => (b.out s hs).trans (a.out s hs), b.len⟩
theorem good_head {d : DK} (h64 : ∀ i, (vw d i).length = 64) {half P : Nat} {b : List UInt8} (hh : half ≤ 1) (hq : P / 64 < d.n / 2) (ho : P % 64 + b.length ≤ 64) : GoodSh d.n (headSh d half P b) := by
  intro i c hm
  unfold headSh at hm
  simp only [List.mem_cons, List.not_mem_nil, or_false, Option.some.injEq, Prod.mk.injEq] at hm
  rcases hm with ⟨rfl, rfl⟩ | h
  · have := h64 (half * (d.n / 2) + P / 64)
    refine ⟨by omega, ?_, ?_⟩
    · rcases (by omega : half = 0 ∨ half = 1) with rfl | rfl <;> omega
    · rw [patch_len (by show _ ≤ (vw d _).length; rw [this]; exact ho)]; exact this
  · cases h
theorem good_writes {d : DK} (h64 : ∀ i, (vw d i).length = 64) {half P : Nat} {b : List UInt8} (hh : half ≤ 1) (hq : P / 64 < d.n / 2) (hfit : P + b.length ≤ d.n / 2 * 64) : GoodSh d.n (writesSh d half P b) := by
  have hFl : (fullB d half P b).length = P % 64 + b.length := by
    unfold fullB
    rw [List.length_append, List.length_take]
    have := h64 (half * (d.n / 2) + P / 64)
    show min _ (vw d _).length + _ = _
    rw [this]
    omega
  have hb : half * (d.n / 2) + d.n / 2 ≤ d.n := by rcases (by omega : half = 0 ∨ half = 1) with rfl | rfl <;> omega
  intro i c hm
  unfold writesSh at hm
  rcases List.mem_append.1 hm with hm | hm
  · unfold blankSh at hm
    split at hm
    · cases hm
    · split at hm
      · cases hm
      · rename_i h1 h2
        simp only [List.mem_cons, List.not_mem_nil, or_false, Option.some.injEq, Prod.mk.injEq] at hm
        rcases hm with ⟨rfl, rfl⟩ | h
        · exact ⟨by omega, by omega, List.length_replicate ..⟩
        · cases h
  · rcases List.mem_append.1 hm with hm | hm
    · unfold chunksSh at hm
      obtain ⟨k, hk, e⟩ := List.mem_map.1 hm
      rw [List.mem_range, hFl] at hk
      simp only [Option.some.injEq, Prod.mk.injEq] at e
      obtain ⟨rfl, rfl⟩ := e
      exact ⟨by omega, by omega, chunkB_len _ _⟩
    · simp at hm
end Go.Proofs.Ytdldclakkplliaa
