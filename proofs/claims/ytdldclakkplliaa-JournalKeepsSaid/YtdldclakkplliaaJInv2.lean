/- Reset, while there is power: plain. Conditions: none. -/
import Derived.Test.YtdldclakkplliaaJInv
namespace Go.Proofs.Ytdldclakkplliaa
set_option linter.unusedVariables false
set_option linter.unusedSimpArgs false
open Go.RowKit

theorem headX_eq (num : Nat) (b : List UInt8) : headX num b = sumN num 0 b ++ (putN num 8 ++ (putN b.length 4 ++ (putN num 8 ++ List.replicate 40 0))) := by
  unfold headX
  simp [List.append_assoc]
theorem hx_sum (num : Nat) (b : List UInt8) (i : Nat) (hi : i < 4) : (headX num b).getD i 0 = (sumN num 0 b).getD i 0 := by
  rw [headX_eq]
  simp only [List.getD_eq_getElem?_getD]
  rw [List.getElem?_append_left (by rw [sumN_length]; exact hi)]
theorem hx_num (num : Nat) (b : List UInt8) (i : Nat) (hi : i < 8) : (headX num b).getD (4 + i) 0 = (putN num 8).getD i 0 := by
  rw [headX_eq]
  simp only [List.getD_eq_getElem?_getD]
  rw [List.getElem?_append_right (by rw [sumN_length]; omega), sumN_length, List.getElem?_append_left (by rw [putN_length]; omega), Nat.add_sub_cancel_left]
theorem hx_len (num : Nat) (b : List UInt8) (i : Nat) (hi : i < 4) : (headX num b).getD (12 + i) 0 = (putN b.length 4).getD i 0 := by
  rw [headX_eq]
  simp only [List.getD_eq_getElem?_getD]
  rw [List.getElem?_append_right (by rw [sumN_length]; omega), sumN_length, List.getElem?_append_right (by rw [putN_length]; omega), putN_length, List.getElem?_append_left (by rw [putN_length]; omega), show 12 + i - 4 - 8 = i by omega]
theorem hx_again (num : Nat) (b : List UInt8) (i : Nat) (hi : i < 8) : (headX num b).getD (16 + i) 0 = (putN num 8).getD i 0 := by
  rw [headX_eq]
  simp only [List.getD_eq_getElem?_getD]
  rw [List.getElem?_append_right (by rw [sumN_length]; omega), sumN_length, List.getElem?_append_right (by rw [putN_length]; omega), putN_length, List.getElem?_append_right (by rw [putN_length]; omega), putN_length, List.getElem?_append_left (by rw [putN_length]; omega), show 16 + i - 4 - 8 - 4 = i by omega]
/-- A head that was written is read. -/
theorem head_read {H : List UInt8} {num : Nat} {b : List UInt8} (hfit : 64 + b.length ≤ H.length) (hn : 0 < num ∧ num < 72057594037927936) (hb : b.length < 4294967296) (h1 : ∀ i, i < 64 → H.getD i 0 = (headX num b).getD i 0) (h2 : ∀ i, i < b.length → H.getD (64 + i) 0 = b.getD i 0) : headsN H = some (num, b) := by
  have e1 : headLen H = b.length := by
    unfold headLen
    have e : (H.drop 12).take 4 = putN b.length 4 := slice_ext (n := 4) (cut_len (by omega)) (putN_length _ _) fun i hi => by rw [cut_getD _ _ _ _ hi, h1 _ (by omega), hx_len _ _ _ hi]
    rw [e, getN_putN _ _ (by omega)]
  have e8 : (H.drop 4).take 8 = putN num 8 := slice_ext (n := 8) (cut_len (by omega)) (putN_length _ _) fun i hi => by rw [cut_getD _ _ _ _ hi, h1 _ (by omega), hx_num _ _ _ hi]
  have e2 : headNum H = num := by
    unfold headNum
    have e : (H.drop 4).take 7 = putN num 7 := by
      rw [← putN_take num 8 7 (by omega), ← e8, List.take_take]
      congr 1
    rw [e, getN_putN _ _ (by omega)]
  have e3 : headBase H = b := by
    unfold headBase
    rw [e1]
    exact slice_ext (n := b.length) (cut_len (by omega)) rfl fun i hi => by rw [cut_getD _ _ _ _ hi, h2 _ hi]
  have e4 : (H.drop 16).take 8 = putN num 8 := slice_ext (n := 8) (cut_len (by omega)) (putN_length _ _) fun i hi => by rw [cut_getD _ _ _ _ hi, h1 _ (by omega), hx_again _ _ _ hi]
  have e5 : H.take 4 = sumN num 0 b := by
    have e : (H.drop 0).take 4 = sumN num 0 b := slice_ext (n := 4) (cut_len (by omega)) (sumN_length _ _ _) fun i hi => by rw [cut_getD _ _ _ _ hi, Nat.zero_add, h1 _ (by omega), hx_sum _ _ _ hi]
    simpa using e
  unfold headsN
  rw [e1, e2, e3, e4, e5, e8, if_neg (by omega), if_neg (by omega), if_neg (fun h => h rfl), if_neg (fun h => h rfl)]
theorem inv_reset {f g : Nat → List UInt8} {n half number endp : Nat} {base : List UInt8} {recs : List (List UInt8)} {b : List UInt8} (h : HInv f n half number base recs endp) (ht : Turns f g ((1 - half) * n) n) (hfit : 64 + b.length ≤ n * 64) (hb : b.length ≤ 60000) (hnum : number < 1000000000000)
    (h1 : ∀ i, i < 64 → (halfK g ((1 - half) * n) n).getD i 0 = (headX (number + 1) b).getD i 0) (h2 : ∀ i, i < b.length → (halfK g ((1 - half) * n) n).getD (64 + i) 0 = b.getD i 0)
    (h3 : n * 64 < placeN (64 + b.length) + 9 ∨ (halfK g ((1 - half) * n) n).getD (placeN (64 + b.length) + 8) 0 = 0) : HInv g n (1 - half) (number + 1) b [] (64 + b.length) := by
  have hoth : halfK g (half * n) n = halfK f (half * n) n := by
    refine halfK_out ht ?_
    rcases (by have := h.hh; omega : half = 0 ∨ half = 1) with rfl | rfl
    · left; simp
    · right; simp
  have hl : (halfK g ((1 - half) * n) n).length = n * 64 := by rw [halfK_len _ _ _ ht.len]; omega
  have hhh : 1 - (1 - half) = half := by have := h.hh; omega
  refine ⟨ht.len, by omega, h.big, .inr ⟨by omega, head_read (by rw [hl]; exact hfit) ⟨by omega, by omega⟩ (by omega) h1 h2, fun m c hm => ?_⟩, .nil, hfit, h3⟩
  rw [hhh, hoth] at hm
  rcases h.head with ⟨a1, a2, a3, a4, a5⟩ | ⟨a1, a2, a3⟩
  · subst a2
    rw [Nat.zero_mul, headsN_zero a4] at hm
    cases hm
  · rw [a2] at hm
    simp only [Option.some.injEq, Prod.mk.injEq] at hm
    omega
theorem reset_calm {d d' : DK} {j j' : JK} {a : Nat} {b : List UInt8} {x : Int} (hc : Calm d a) (hv : HInv (vw d) (d.n / 2) j.half j.number j.base.b (j.recs.map (·.b)) j.endp) (hb : b.length ≤ 60000) (hnum : j.number < 1000000000000) (h : ResR d j b x d' j') :
    (x = 4 ∧ d.n / 2 * 64 < b.length + 64 ∧ d' = d ∧ j' = j) ∨ (x = 0 ∧ b.length + 64 ≤ d.n / 2 * 64 ∧ Calm d' (a + (8 + (136 + b.length) / 64)) ∧ d'.n = d.n ∧ j'.half = 1 - j.half ∧ j'.number = j.number + 1 ∧ j'.base.b = b ∧ j'.dead = j.dead ∧ j'.endp = 64 + b.length ∧
      HInv (vw d') (d'.n / 2) j'.half j'.number j'.base.b (j'.recs.map (·.b)) j'.endp ∧ j'.recs = []) := by
  have hbig := hv.big
  have hz64 : zero64.length = 64 := List.length_replicate ..
  have hh2 : 1 - j.half ≤ 1 := by omega
  have st1 : ∀ {d1 : DK} {y : Int}, Acts d (headSh d (1 - j.half) 0 zero64) d1 y → y = 0 ∧ Calm d1 (a + 2) ∧ vw d1 = effV (vw d) (headSh d (1 - j.half) 0 zero64) ∧ d1.n = d.n := fun h1 =>
    hc.acts h1 (good_head hv.len hh2 (by omega) (by rw [hz64]; omega)) rfl (Nat.le_refl _)
  have st2 : ∀ {d1 d2 : DK} {y z : Int}, b.length + 64 ≤ d.n / 2 * 64 → Acts d (headSh d (1 - j.half) 0 zero64) d1 y → Acts d1 (writesSh d1 (1 - j.half) 64 b) d2 z → z = 0 ∧ Calm d2 (a + 2 + (4 + (136 + b.length) / 64)) ∧ vw d2 = effV (vw d1) (writesSh d1 (1 - j.half) 64 b) ∧ d2.n = d.n := fun {d1 d2 y z} hr h1 h2 => by
    obtain ⟨-, c1, v1, n1⟩ := st1 h1
    have l1 : ∀ i, (vw d1 i).length = 64 := by rw [v1]; exact (eff_headSh hv.len (by omega) (by rw [hz64]; omega)).1.len
    obtain ⟨e1, e2, e3, e4⟩ := c1.acts (b := 4 + (136 + b.length) / 64) h2 (good_writes l1 hh2 (by rw [n1]; omega) (by rw [n1]; omega)) (writesSh_last _ _ _ _) (by have := writesSh_len l1 (1 - j.half) 64 b; omega)
    exact ⟨e1, e2, e3, e4.trans n1⟩
  have st3 : ∀ {d1 d2 d3 : DK} {y z u : Int}, b.length + 64 ≤ d.n / 2 * 64 → Acts d (headSh d (1 - j.half) 0 zero64) d1 y → Acts d1 (writesSh d1 (1 - j.half) 64 b) d2 z → Acts d2 (headSh d2 (1 - j.half) 0 (headX (j.number + 1) b)) d3 u →
      u = 0 ∧ Calm d3 (a + (8 + (136 + b.length) / 64)) ∧ d3.n = d.n ∧ HInv (vw d3) (d3.n / 2) (1 - j.half) (j.number + 1) b [] (64 + b.length) := fun {d1 d2 d3 y z u} hr h1 h2 h3 => by
    obtain ⟨-, c1, v1, n1⟩ := st1 h1
    obtain ⟨-, c2, v2, n2⟩ := st2 hr h1 h2
    have E1 := eff_headSh (half := 1 - j.half) (P := 0) (b := zero64) hv.len (by omega) (by rw [hz64]; omega)
    rw [← v1] at E1
    have E2 := eff_writes (half := 1 - j.half) (P := 64) (b := b) E1.1.len (q := 1) (o := 0) rfl rfl (by rw [n1]; omega) rfl (by rw [n1]; omega)
    rw [← v2, n1] at E2
    obtain ⟨e1, e2, e3, e4⟩ := c2.acts (b := 2) h3 (good_head E2.1.len hh2 (by rw [n2]; omega) (by rw [headX_len]; omega)) rfl (Nat.le_refl _)
    have E3 := eff_headSh (half := 1 - j.half) (P := 0) (b := headX (j.number + 1) b) E2.1.len (by rw [n2]; omega) (by rw [headX_len]; omega)
    rw [← e3, n2, headX_len] at E3
    have hT := (E1.1.trans E2.1).trans E3.1
    refine ⟨e1, ⟨e2.calm, e2.cache, e2.dom, DiskAt.fits' e2.fits (by omega), by have := e2.m; omega⟩, e4.trans n2, ?_⟩
    rw [e4.trans n2]
    refine inv_reset hv hT (by omega) hb hnum (fun i hi => ?_) (fun i hi => ?_) ?_
    · rw [E3.2 i (by omega), if_pos (by omega), Nat.sub_zero]
    · rw [E3.2 _ (by omega), if_neg (by omega), E2.2 _ (by omega), if_neg (by omega), if_pos (by omega), Nat.add_sub_cancel_left]
    · have hp2 := placeN_le (64 + b.length)
      by_cases hlast : d.n / 2 * 64 < placeN (64 + b.length) + 9
      · exact .inl hlast
      · right
        have hpl := place_cases (64 + b.length)
        rw [E3.2 _ (by omega), if_neg (by omega), E2.2 _ (by omega), if_neg (by omega)]
        split
        · simp only [List.getD_eq_getElem?_getD]
          rw [List.getElem?_eq_none (by omega)]
          rfl
        · rw [if_pos (by omega)]
  cases h with
  | full hf => exact .inl ⟨rfl, hf, rfl, rfl⟩
  | f1 hr h1 hx => exact absurd (st1 h1).1 hx
  | f2 hr h1 h2 hx => exact absurd (st2 hr h1 h2).1 hx
  | f3 hr h1 h2 h3 hx => exact absurd (st3 hr h1 h2 h3).1 hx
  | ok hr h1 h2 h3 hs =>
    rename_i d1 d2 s
    obtain ⟨-, c3, n3, i3⟩ := st3 hr h1 h2 h3
    refine .inr ⟨rfl, hr, c3, n3, rfl, rfl, hs, rfl, rfl, ?_, rfl⟩
    show HInv _ _ _ _ s.b [] _
    rw [hs]
    exact i3
end Go.Proofs.Ytdldclakkplliaa
