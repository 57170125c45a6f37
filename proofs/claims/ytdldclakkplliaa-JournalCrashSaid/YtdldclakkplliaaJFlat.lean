/- What acts do to what a disk shows, while there is power; a half's bytes, one by one: plain. Conditions: none. -/
import Derived.Test.YtdldclakkplliaaJOpen
namespace Go.Proofs.Ytdldclakkplliaa
set_option linter.unusedVariables false
set_option linter.unusedSimpArgs false
open Go.RowKit

def updV (f : Nat → List UInt8) (i : Nat) (x : List UInt8) : Nat → List UInt8 := fun k => if k = i then x else f k
def effV (f : Nat → List UInt8) : List (Option (Int × List UInt8)) → Nat → List UInt8
  | [] => f
  | none :: l => effV f l
  | some (i, b) :: l => effV (updV f i.toNat b) l
theorem effV_append (f : Nat → List UInt8) (a b : List (Option (Int × List UInt8))) : effV f (a ++ b) = effV (effV f a) b := by
  induction a generalizing f with
  | nil => rfl
  | cons o a ih =>
    cases o with
    | none => exact ih f
    | some p => exact ih _
theorem putAll_last (f : Int → Option Wr) (ws : List Wr) (i : Int) : putAll f ws i = (lastW ws i).or (f i) := by
  suffices h : ∀ k, k ≤ ws.length → putAll f (ws.take k) i = (lastW (ws.take k) i).or (f i) by
    have := h ws.length (Nat.le_refl _)
    rwa [List.take_length] at this
  intro k
  induction k with
  | zero => intro _; rfl
  | succ k ih =>
    intro hk
    have hs : ws[k]? = some ws[k] := List.getElem?_eq_getElem (by omega)
    rw [putAll_step _ _ _ _ hs, lastW_take _ _ _ _ hs]
    unfold upd
    by_cases h : i = ws[k].at_
    · rw [if_pos h, if_pos h.symm]; rfl
    · rw [if_neg h, if_neg (fun e => h e.symm)]
      exact ih (by omega)
theorem vw_flush {d : DK} (h : d.calm) : vw (flushD d) = vw d := by
  funext k
  rw [calm_flushD h]
  show secB ((lastW [] (k : Int)).or (putAll d.safe d.cache k)) = secB ((lastW d.cache k).or (d.safe k))
  rw [show lastW [] (k : Int) = none from rfl, Option.none_or, putAll_last]
theorem vw_write {d : DK} (h : d.calm) {s : Wr} (hi : 0 ≤ s.at_ ∧ s.at_ < d.n) (hb : s.b.length = 64) : vw (writeD d s) = updV (vw d) s.at_.toNat s.b := by
  funext k
  rw [calm_writeD h hi hb]
  show secB ((lastW (d.cache ++ [s]) (k : Int)).or (d.safe k)) = _
  rw [lastW_add]
  unfold updV
  by_cases hk : s.at_ = (k : Int)
  · rw [if_pos hk, if_pos (by omega)]; rfl
  · rw [if_neg hk, if_neg (by omega)]; rfl
/-- Acts that are within bounds. -/
def GoodSh (n : Nat) (sh : List (Option (Int × List UInt8))) : Prop := ∀ i b, some (i, b) ∈ sh → 0 ≤ i ∧ i < n ∧ b.length = 64
theorem runA_calm {d : DK} (l : List (Option Wr)) (hc : d.calm) (hg : GoodSh d.n (l.map (Option.map prW))) :
    (runA d l).2 = 0 ∧ (runA d l).1.calm ∧ (runA d l).1.n = d.n ∧ vw (runA d l).1 = effV (vw d) (l.map (Option.map prW)) ∧ (l.getLast? = some none → (runA d l).1.cache = []) ∧ (l = [] → (runA d l).1.cache = d.cache) := by
  induction l generalizing d with
  | nil => exact ⟨rfl, hc, rfl, rfl, fun h => (by cases h), fun _ => rfl⟩
  | cons o l ih =>
    cases o with
    | none =>
      have ha : (askedK d).2 = 0 := by rw [calm_asked hc]
      have hc2 : (flushD d).calm := by rw [calm_flushD hc]; exact hc
      have hn2 := flush_n d
      obtain ⟨h1, h2, h3, h4, h5, h6⟩ := ih (d := flushD d) hc2 (by rw [hn2]; exact fun i b hib => hg i b (List.mem_cons_of_mem _ hib))
      simp only [runA]
      rw [if_pos ha]
      refine ⟨h1, h2, h3.trans hn2, ?_, fun h => ?_, fun h => (by cases h)⟩
      · rw [h4, vw_flush hc]; rfl
      · cases l with
        | nil => rw [h6 rfl, calm_flushD hc]
        | cons o2 l2 => exact h5 (by rw [List.getLast?_cons_cons] at h; exact h)
    | some s =>
      have hs := hg s.at_ s.b (List.mem_cons_self ..)
      have he : writeE d s.at_ s.b.length = 0 := calm_writeE hc ⟨hs.1, hs.2.1⟩ hs.2.2
      have hc2 : (writeD d s).calm := by rw [calm_writeD hc ⟨hs.1, hs.2.1⟩ hs.2.2]; exact hc
      have hn2 := write_n d s
      obtain ⟨h1, h2, h3, h4, h5, h6⟩ := ih (d := writeD d s) hc2 (by rw [hn2]; exact fun i b hib => hg i b (List.mem_cons_of_mem _ hib))
      simp only [runA]
      rw [if_pos he]
      refine ⟨h1, h2, h3.trans hn2, ?_, fun h => ?_, fun h => (by cases h)⟩
      · rw [h4, vw_write hc ⟨hs.1, hs.2.1⟩ hs.2.2]; rfl
      · cases l with
        | nil => cases h
        | cons o2 l2 => exact h5 (by rw [List.getLast?_cons_cons] at h; exact h)
theorem Acts.calm {d d' : DK} {sh : List (Option (Int × List UInt8))} {x : Int} (h : Acts d sh d' x) (hc : d.calm) (hg : GoodSh d.n sh) : x = 0 ∧ d'.calm ∧ d'.n = d.n ∧ vw d' = effV (vw d) sh ∧ (sh.getLast? = some none → d'.cache = []) := by
  obtain ⟨l, h1, h2⟩ := h
  have h3 := runA_calm l hc (by rw [h1]; exact hg)
  rw [h2, h1] at h3
  refine ⟨h3.1, h3.2.1, h3.2.2.1, h3.2.2.2.1, fun h => h3.2.2.2.2.1 ?_⟩
  rw [← h1, List.getLast?_map] at h
  cases hl : l.getLast? with
  | none => rw [hl] at h; cases h
  | some o =>
    rw [hl] at h
    cases o with
    | none => rfl
    | some s => cases h

/-! ### a half's bytes, one by one -/
theorem halfK_getD (f : Nat → List UInt8) (s0 n i : Nat) (h : ∀ k, (f k).length = 64) (hi : i < 64 * n) : (halfK f s0 n).getD i 0 = (f (s0 + i / 64)).getD (i % 64) 0 := by
  induction n with
  | zero => omega
  | succ n ih =>
    rw [halfK_succ, List.getD_eq_getElem?_getD]
    have hl := halfK_len f s0 n h
    by_cases hin : i < 64 * n
    · rw [List.getElem?_append_left (by omega), ← List.getD_eq_getElem?_getD]
      exact ih hin
    · rw [List.getElem?_append_right (by omega), hl, ← List.getD_eq_getElem?_getD]
      have e1 : i / 64 = n := by omega
      rw [e1, show i - 64 * n = i % 64 by omega]
theorem patch_getD (s : List UInt8) (o : Nat) (b : List UInt8) (i : Nat) (h : o + b.length ≤ s.length) : (patch s o b).getD i 0 = if o ≤ i ∧ i < o + b.length then b.getD (i - o) 0 else s.getD i 0 := by
  unfold patch
  simp only [List.getD_eq_getElem?_getD]
  have hl : (s.take o).length = o := by rw [List.length_take]; omega
  by_cases h1 : i < o
  · rw [if_neg (by omega), List.append_assoc, List.getElem?_append_left (by omega), List.getElem?_take, if_pos h1]
  · by_cases h2 : i < o + b.length
    · rw [if_pos ⟨by omega, h2⟩, List.append_assoc, List.getElem?_append_right (by omega), hl, List.getElem?_append_left (by omega)]
    · rw [if_neg (by omega), List.getElem?_append_right (by rw [List.length_append, hl]; omega), List.length_append, hl, List.getElem?_drop]
      congr 2
      omega
theorem chunk_getD (F : List UInt8) (k r : Nat) (hr : r < 64) : (chunkB F k).getD r 0 = F.getD (64 * k + r) 0 := by
  unfold chunkB
  simp only [List.getD_eq_getElem?_getD]
  by_cases h : 64 * k + r < F.length
  · rw [List.getElem?_append_left (by rw [List.length_take, List.length_drop]; omega), List.getElem?_take, if_pos hr, List.getElem?_drop]
  · rw [List.getElem?_append_right (by rw [List.length_take, List.length_drop]; omega), List.getElem?_replicate]
    rw [List.getElem?_eq_none (show F.length ≤ 64 * k + r by omega)]
    split <;> rfl
theorem slice_ext {a b : List UInt8} {n : Nat} (ha : a.length = n) (hb : b.length = n) (h : ∀ i, i < n → a.getD i 0 = b.getD i 0) : a = b := by
  apply List.ext_getElem?
  intro i
  by_cases hi : i < n
  · have := h i hi
    simp only [List.getD_eq_getElem?_getD] at this
    rw [List.getElem?_eq_getElem (by omega), List.getElem?_eq_getElem (by omega)] at this ⊢
    exact congrArg some this
  · rw [List.getElem?_eq_none (by omega), List.getElem?_eq_none (by omega)]
theorem cut_getD (H : List UInt8) (a n i : Nat) (hi : i < n) : ((H.drop a).take n).getD i 0 = H.getD (a + i) 0 := by
  simp only [List.getD_eq_getElem?_getD]
  rw [List.getElem?_take, if_pos hi, List.getElem?_drop]
theorem cut_eq {H H' : List UInt8} {a n : Nat} (hl : H'.length = H.length) (h : ∀ i, a ≤ i → i < a + n → H'.getD i 0 = H.getD i 0) : (H'.drop a).take n = (H.drop a).take n := by
  have e1 : ((H'.drop a).take n).length = ((H.drop a).take n).length := by rw [List.length_take, List.length_take, List.length_drop, List.length_drop, hl]
  refine slice_ext e1 rfl fun i hi => ?_
  have : i < n := by rw [List.length_take] at hi; omega
  rw [cut_getD _ _ _ _ this, cut_getD _ _ _ _ this]
  exact h _ (by omega) (by omega)
/-- A record that stands is there whatever stands behind it. -/
theorem recAt_same {H H' : List UInt8} {num k e : Nat} {b : List UInt8} (hl : H'.length = H.length) (h : recAt H num k e = some b) (hs : ∀ i, i < placeN e + 9 + b.length → H'.getD i 0 = H.getD i 0) : recAt H' num k e = some b := by
  unfold recAt at h ⊢
  rw [hl]
  split at h
  · cases h
  · rename_i h1
    rw [if_neg h1]
    split at h
    · cases h
    · rename_i h2
      rw [if_neg (by rw [hs _ (by omega)]; exact h2)]
      have hrl : recLen H' e = recLen H e := by unfold recLen; rw [cut_eq hl (fun i _ hi => hs i (by omega))]
      rw [hrl]
      split at h
      · cases h
      · rename_i h3
        rw [if_neg h3]
        have hbl : ((H.drop (placeN e + 9)).take (recLen H e - 1)).length = recLen H e - 1 := by rw [List.length_take, List.length_drop]; omega
        split at h
        · cases h
        · rename_i h4
          have hb := Option.some.inj h
          have hbl2 : recLen H e - 1 = b.length := by rw [← hb, hbl]
          have e1 : (H'.drop (placeN e + 9)).take (recLen H e - 1) = (H.drop (placeN e + 9)).take (recLen H e - 1) := cut_eq hl (fun i _ hi => hs i (by omega))
          have e2 : (H'.drop (placeN e)).take 4 = (H.drop (placeN e)).take 4 := cut_eq hl (fun i _ hi => hs i (by omega))
          rw [e1, e2, if_neg h4]
          exact h
theorem Pre.mono_end {H : List UInt8} {num k e e1 : Nat} {rs : List (List UInt8)} (h : Pre H num k e rs e1) : e ≤ e1 := by
  induction h with
  | nil => exact Nat.le_refl _
  | snoc _ _ ih => have := placeN_le; rename_i e1 b _ _; have := this e1; omega
theorem Pre.same {H H' : List UInt8} {num k e e1 X : Nat} {rs : List (List UInt8)} (hl : H'.length = H.length) (h : Pre H num k e rs e1) (hX : e1 ≤ X) (hs : ∀ i, i < X → H'.getD i 0 = H.getD i 0) : Pre H' num k e rs e1 := by
  induction h with
  | nil => exact .nil
  | snoc hp hr ih =>
    rename_i rs e1 b
    have := placeN_le e1
    exact .snoc (ih (by omega)) (recAt_same hl hr (fun i hi => hs i (by omega)))
theorem Pre.nil_end {H : List UInt8} {num k e e1 : Nat} {rs : List (List UInt8)} (h : Pre H num k e rs e1) (hr : rs = []) : e1 = e := by
  cases h with
  | nil => rfl
  | snoc _ _ => simp at hr
/-- What is read is determined. -/
theorem Pre.unique {H : List UInt8} {num k e : Nat} {rs rs' : List (List UInt8)} {e1 e2 : Nat} (h : Pre H num k e rs e1) (h' : Pre H num k e rs' e2) (n1 : recAt H num (k + rs.length) e1 = none) (n2 : recAt H num (k + rs'.length) e2 = none) : rs = rs' ∧ e1 = e2 := by
  have key : ∀ {rs rs' : List (List UInt8)} {e1 e2 : Nat}, Pre H num k e rs e1 → Pre H num k e rs' e2 → recAt H num (k + rs'.length) e2 = none → rs.length ≤ rs'.length ∧ (rs.length = rs'.length → rs = rs' ∧ e1 = e2) := by
    have pref : ∀ {rs rs' : List (List UInt8)} {e1 e2 : Nat}, Pre H num k e rs e1 → Pre H num k e rs' e2 → rs.length ≤ rs'.length → ∃ t, rs' = rs ++ t ∧ (t = [] → e1 = e2) ∧ (t ≠ [] → ∃ b t', t = b :: t' ∧ recAt H num (k + rs.length) e1 = some b) := by
      intro rs rs' e1 e2 h1 h2
      induction h2 generalizing rs e1 with
      | nil =>
        intro hl
        have : rs = [] := List.eq_nil_of_length_eq_zero (by simpa using hl)
        have he := h1.nil_end this
        subst this
        exact ⟨[], rfl, fun _ => he, fun h => absurd rfl h⟩
      | snoc hp hr ih =>
        rename_i rs0 e0 b0
        intro hl
        rw [List.length_append] at hl
        simp only [List.length_cons, List.length_nil] at hl
        rcases Nat.lt_or_ge rs0.length rs.length with hlt | hge
        · cases h1 with
          | nil => simp at hlt
          | snoc hp1 hr1 =>
            rename_i rs1 e11 b1
            rw [List.length_append] at hl hlt
            simp only [List.length_cons, List.length_nil] at hl hlt
            obtain ⟨t, ht, h3, h4⟩ := ih hp1 (by omega)
            have hlen := congrArg List.length ht
            rw [List.length_append] at hlen
            have htn : t = [] := List.eq_nil_of_length_eq_zero (by omega)
            subst htn
            rw [List.append_nil] at ht
            subst ht
            have he := h3 rfl
            subst he
            rw [hr1] at hr
            cases hr
            exact ⟨[], by simp, fun _ => rfl, fun h => absurd rfl h⟩
        · obtain ⟨t, ht, h3, h4⟩ := ih h1 hge
          refine ⟨t ++ [b0], by rw [ht, List.append_assoc], fun h => by simp at h, fun _ => ?_⟩
          cases t with
          | nil =>
            rw [List.append_nil] at ht
            subst ht
            have he := h3 rfl
            subst he
            exact ⟨b0, [], rfl, hr⟩
          | cons b t =>
            obtain ⟨b', t', e, hb⟩ := h4 (by simp)
            exact ⟨b', t' ++ [b0], by rw [e]; rfl, hb⟩
    intro rs rs' e1 e2 h1 h2 hn
    refine ⟨?_, fun hl => ?_⟩
    · rcases Nat.lt_or_ge rs'.length rs.length with hlt | hge
      · obtain ⟨t, ht, h3, h4⟩ := pref h2 h1 (by omega)
        cases t with
        | nil => rw [ht, List.append_nil] at hlt; omega
        | cons b t =>
          obtain ⟨b', t', e, hb⟩ := h4 (by simp)
          rw [hn] at hb
          cases hb
      · exact hge
    · obtain ⟨t, ht, h3, h4⟩ := pref h1 h2 (by omega)
      have hlen := congrArg List.length ht
      rw [List.length_append] at hlen
      have htn : t = [] := List.eq_nil_of_length_eq_zero (by omega)
      subst htn
      exact ⟨by rw [ht, List.append_nil], h3 rfl⟩
  have h3 := key h h' n2
  have h4 := key h' h n1
  exact h3.2 (by omega)
end Go.Proofs.Ytdldclakkplliaa
