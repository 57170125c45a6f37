/- What acts leave behind when the power goes in their midst, and Append and Reset, wherever the power goes: plain. Conditions: none. -/
import Derived.Test.YtdldclakkplliaaJInv
namespace Go.Proofs.Ytdldclakkplliaa
set_option linter.unusedVariables false
set_option linter.unusedSimpArgs false
open Go.RowKit

theorem writeD_ok {d : DK} {s : Wr} (h : writeE d s.at_ s.b.length = 0) : writeD d s = { (askedK d).1 with cache := d.cache ++ [s] } := by unfold writeD; rw [if_pos h]
theorem writeD_no {d : DK} {s : Wr} (h : writeE d s.at_ s.b.length ≠ 0) : writeD d s = (askedK d).1 := by unfold writeD; rw [if_neg h]
theorem flushD_ok {d : DK} (h : (askedK d).2 = 0) : flushD d = { (askedK d).1 with safe := putAll d.safe d.cache, cache := [], m := d.m + d.cache.length } := by unfold flushD; rw [if_pos h]
theorem flushD_no {d : DK} (h : (askedK d).2 ≠ 0) : flushD d = (askedK d).1 := by unfold flushD; rw [if_neg h]
theorem vw_write' {d : DK} {s : Wr} (h : writeE d s.at_ s.b.length = 0) (hi : 0 ≤ s.at_) : vw (writeD d s) = updV (vw d) s.at_.toNat s.b := by
  funext k
  rw [writeD_ok h]
  show secB ((lastW (d.cache ++ [s]) (k : Int)).or ((askedK d).1.safe k)) = _
  rw [lastW_add, asked_safe]
  unfold updV
  by_cases hk : s.at_ = (k : Int)
  · rw [if_pos hk, if_pos (by omega)]; rfl
  · rw [if_neg hk, if_neg (by omega)]; rfl
theorem vw_flush' {d : DK} (h : (askedK d).2 = 0) : vw (flushD d) = vw d := by
  funext k
  rw [flushD_ok h]
  show secB ((lastW [] (k : Int)).or (putAll d.safe d.cache k)) = secB ((lastW d.cache k).or (d.safe k))
  rw [show lastW [] (k : Int) = none from rfl, Option.none_or, putAll_last]
theorem runA_ok {d : DK} (l : List (Option Wr)) (h : (runA d l).2 = 0) (hg : GoodSh d.n (l.map (Option.map prW))) :
    (runA d l).1.n = d.n ∧ vw (runA d l).1 = effV (vw d) (l.map (Option.map prW)) ∧ (l.getLast? = some none → (runA d l).1.cache = []) ∧ (l = [] → (runA d l).1.cache = d.cache) := by
  induction l generalizing d with
  | nil => exact ⟨rfl, rfl, fun h => (by cases h), fun _ => rfl⟩
  | cons o l ih =>
    cases o with
    | none =>
      simp only [runA] at h ⊢
      split at h
      · rename_i ha
        rw [if_pos ha]
        have hn2 := flush_n d
        obtain ⟨h3, h4, h5, h6⟩ := ih (d := flushD d) h (by rw [hn2]; exact fun i b hib => hg i b (List.mem_cons_of_mem _ hib))
        refine ⟨h3.trans hn2, ?_, fun h => ?_, fun h => (by cases h)⟩
        · rw [h4, vw_flush' ha]; rfl
        · cases l with
          | nil => rw [h6 rfl, flushD_ok ha]
          | cons o2 l2 => exact h5 (by rw [List.getLast?_cons_cons] at h; exact h)
      · rename_i ha
        exact absurd h ha
    | some s =>
      simp only [runA] at h ⊢
      have hs := hg s.at_ s.b (List.mem_cons_self ..)
      split at h
      · rename_i ha
        rw [if_pos ha]
        have hn2 := write_n d s
        obtain ⟨h3, h4, h5, h6⟩ := ih (d := writeD d s) h (by rw [hn2]; exact fun i b hib => hg i b (List.mem_cons_of_mem _ hib))
        refine ⟨h3.trans hn2, ?_, fun h => ?_, fun h => (by cases h)⟩
        · rw [h4, vw_write' ha hs.1]; rfl
        · cases l with
          | nil => cases h
          | cons o2 l2 => exact h5 (by rw [List.getLast?_cons_cons] at h; exact h)
      · rename_i ha
        exact absurd h ha
theorem runA_writes {d : DK} (c : List Wr) (h : (runA d (c.map some)).2 = 0) : (runA d (c.map some)).1.safe = d.safe ∧ (runA d (c.map some)).1.cache = d.cache ++ c := by
  induction c generalizing d with
  | nil => exact ⟨rfl, by simp [runA]⟩
  | cons s c ih =>
    simp only [List.map_cons, runA] at h ⊢
    split at h
    · rename_i ha
      rw [if_pos ha]
      obtain ⟨h1, h2⟩ := ih (d := writeD d s) h
      rw [h1, h2, writeD_ok ha]
      exact ⟨asked_safe d, by simp⟩
    · rename_i ha
      exact absurd h ha
/-- Where the power goes. -/
theorem runA_stop {d : DK} (l : List (Option Wr)) (h : (runA d l).2 ≠ 0) (hg : GoodSh d.n (l.map (Option.map prW))) :
    (runA d l).2 = 7 ∧ ∃ l1 o l2, l = l1 ++ o :: l2 ∧ (runA d l1).2 = 0 ∧ (runA d l).1.safe = (runA d l1).1.safe ∧ (runA d l).1.cache = (runA d l1).1.cache ∧ (runA d l).1.n = d.n := by
  induction l generalizing d with
  | nil => exact absurd rfl h
  | cons o l ih =>
    cases o with
    | none =>
      simp only [runA] at h ⊢
      split at h
      · rename_i ha
        rw [if_pos ha]
        have hn2 := flush_n d
        obtain ⟨h7, l1, o, l2, e, h1, h2, h3, h4⟩ := ih (d := flushD d) h (by rw [hn2]; exact fun i b hib => hg i b (List.mem_cons_of_mem _ hib))
        refine ⟨h7, none :: l1, o, l2, by rw [e]; rfl, ?_⟩
        simp only [runA]
        rw [if_pos ha]
        exact ⟨h1, h2, h3, h4.trans hn2⟩
      · rename_i ha
        rw [if_neg ha]
        refine ⟨(asked_e d).resolve_left ha, [], none, l, rfl, rfl, ?_⟩
        show (flushD d).safe = d.safe ∧ (flushD d).cache = d.cache ∧ _
        rw [flushD_no ha]
        exact ⟨asked_safe d, asked_cache d, asked_n d⟩
    | some s =>
      simp only [runA] at h ⊢
      have hs := hg s.at_ s.b (List.mem_cons_self ..)
      split at h
      · rename_i ha
        rw [if_pos ha]
        have hn2 := write_n d s
        obtain ⟨h7, l1, o, l2, e, h1, h2, h3, h4⟩ := ih (d := writeD d s) h (by rw [hn2]; exact fun i b hib => hg i b (List.mem_cons_of_mem _ hib))
        refine ⟨h7, some s :: l1, o, l2, by rw [e]; rfl, ?_⟩
        simp only [runA]
        rw [if_pos ha]
        exact ⟨h1, h2, h3, h4.trans hn2⟩
      · rename_i ha
        rw [if_neg ha]
        refine ⟨?_, [], some s, l, rfl, rfl, ?_⟩
        · unfold writeE at ha ⊢
          by_cases h0 : (askedK d).2 = 0
          · rw [if_neg (by rw [h0]; simp), if_neg (by rw [hs.2.2]; omega)] at ha
            exact absurd rfl ha
          · rw [if_pos h0]
            exact (asked_e d).resolve_left h0
        · show (writeD d s).safe = d.safe ∧ (writeD d s).cache = d.cache ∧ _
          rw [writeD_no ha]
          exact ⟨asked_safe d, asked_cache d, asked_n d⟩
theorem split_acts (l : List (Option Wr)) : ∃ (a : List (Option Wr)) (c : List Wr), l = a ++ c.map some ∧ (a = [] ∨ a.getLast? = some none) := by
  induction l with
  | nil => exact ⟨[], [], rfl, .inl rfl⟩
  | cons o l ih =>
    obtain ⟨a, c, e, h⟩ := ih
    cases a with
    | nil =>
      cases o with
      | none => exact ⟨[none], c, by rw [e]; rfl, .inr rfl⟩
      | some s => exact ⟨[], s :: c, by rw [e]; rfl, .inl rfl⟩
    | cons o2 a2 =>
      refine ⟨o :: o2 :: a2, c, by rw [e]; rfl, .inr ?_⟩
      rcases h with h | h
      · cases h
      · rw [List.getLast?_cons_cons]; exact h
/-- What a disk may show behind a crash. -/
def CrashOf (d : DK) (g : Nat → List UInt8) : Prop :=
  ∃ (tn : Int) (t : Nat) (lv : List Wr), t ≤ 64 ∧ (∀ s ∈ lv, s ∈ d.cache) ∧ lv.length ≤ d.cache.length ∧ ∀ i : Nat, g i = crashB tn t (fun i => secB (d.safe i)) lv lv.length (i : Int)
/-- What acts that were cut short leave behind a crash. -/
structure Outs (f : Nat → List UInt8) (sh : List (Option (Int × List UInt8))) (g : Nat → List UInt8) (a : List (Option (Int × List UInt8))) (c : List (Int × List UInt8)) (r : List (Option (Int × List UInt8))) (tn : Int) (t : Nat) (F : Int → List UInt8) (lv : List Wr) : Prop where
  eq : sh = a ++ c.map some ++ r
  ne : r ≠ []
  last : a = [] ∨ a.getLast? = some none
  t64 : t ≤ 64
  mem : ∀ s ∈ lv, prW s ∈ c
  len : lv.length ≤ c.length
  base : ∀ i : Nat, F i = effV f a i
  out : ∀ i : Nat, g i = crashB tn t F lv lv.length (i : Int)
theorem crash_outs {d d' : DK} {sh : List (Option (Int × List UInt8))} {x : Int} {g : Nat → List UInt8} (h : Acts d sh d' x) (hx : x ≠ 0) (hc : d.cache = []) (hg : GoodSh d.n sh) :
    x = 7 ∧ d'.n = d.n ∧ ∀ g, CrashOf d' g → ∃ a c r tn t F lv, Outs (vw d) sh g a c r tn t F lv := by
  obtain ⟨l, h1, h2⟩ := h
  have hx2 : (runA d l).2 ≠ 0 := by rw [h2]; exact hx
  obtain ⟨h7, l1, o, l2, e, k1, k2, k3, k4⟩ := runA_stop l hx2 (by rw [h1]; exact hg)
  rw [h2] at h7 k2 k3 k4
  refine ⟨h7, k4, fun g hcr => ?_⟩
  obtain ⟨tn, t, lv, ht, hm, hl, ho⟩ := hcr
  obtain ⟨a, c, e1, hlast⟩ := split_acts l1
  have hra := runA_append d a (c.map some)
  rw [← e1] at hra
  have ha0 : (runA d a).2 = 0 := by
    by_cases h0 : (runA d a).2 = 0
    · exact h0
    · rw [if_neg h0] at hra
      rw [hra] at k1
      exact absurd k1 h0
  rw [if_pos ha0] at hra
  rw [hra] at k1 k2 k3
  have hga : GoodSh d.n (a.map (Option.map prW)) := fun i b hib => hg i b (by
    rw [← h1, e, e1, List.map_append, List.map_append]
    exact List.mem_append_left _ (List.mem_append_left _ hib))
  obtain ⟨b1, b2, b3, b4⟩ := runA_ok a ha0 hga
  have hca : (runA d a).1.cache = [] := by
    rcases hlast with rfl | hlast
    · rw [b4 rfl, hc]
    · exact b3 hlast
  obtain ⟨w1, w2⟩ := runA_writes c k1
  rw [w1] at k2
  rw [w2, hca, List.nil_append] at k3
  refine ⟨a.map (Option.map prW), c.map prW, (o :: l2).map (Option.map prW), tn, t, _, lv, ⟨?_, by simp, ?_, ht, fun s hs => ?_, ?_, fun i => ?_, ho⟩⟩
  · rw [← h1, e, e1, List.map_append, List.map_append]
    congr 2
    rw [List.map_map, List.map_map]
    rfl
  · rcases hlast with rfl | hlast
    · exact .inl rfl
    · right
      rw [List.getLast?_map, hlast]
      rfl
  · have := hm s hs
    rw [k3] at this
    exact List.mem_map_of_mem (f := prW) this
  · rw [List.length_map, ← k3]; exact hl
  · show secB (d'.safe i) = _
    rw [k2, ← b2]
    show _ = secB ((lastW (runA d a).1.cache (i : Int)).or ((runA d a).1.safe i))
    rw [hca]
    rfl
theorem acts_done {d d' : DK} {sh : List (Option (Int × List UInt8))} (h : Acts d sh d' 0) (hg : GoodSh d.n sh) (hl : sh.getLast? = some none) : d'.cache = [] ∧ d'.n = d.n ∧ vw d' = effV (vw d) sh := by
  obtain ⟨l, h1, h2⟩ := h
  have hz : (runA d l).2 = 0 := by rw [h2]
  obtain ⟨b1, b2, b3, -⟩ := runA_ok l hz (by rw [h1]; exact hg)
  rw [h2] at b1 b2 b3
  rw [h1] at b2
  refine ⟨b3 ?_, b1, b2⟩
  rw [← h1, List.getLast?_map] at hl
  cases hlo : l.getLast? with
  | none => rw [hlo] at hl; cases hl
  | some o =>
    rw [hlo] at hl
    cases o with
    | none => rfl
    | some s => cases hl
/-! ### bytes behind a crash -/
theorem elB_mem {lv : List Wr} {m : Nat} (h : m < lv.length) : elB lv m ∈ lv := by
  unfold elB
  rw [List.getD_eq_getElem?_getD, List.getElem?_eq_getElem h]
  exact List.getElem_mem h
theorem crashB_byte (tn : Int) (t : Nat) (F : Int → List UInt8) (lv : List Wr) (h64 : ∀ s ∈ lv, s.b.length = 64) (ht : t ≤ 64) (m : Nat) (hm : m ≤ lv.length) (i : Int) (j : Nat) :
    (crashB tn t F lv m i).getD j 0 = (F i).getD j 0 ∨ ∃ s ∈ lv, s.at_ = i ∧ (crashB tn t F lv m i).getD j 0 = s.b.getD j 0 := by
  induction m generalizing i with
  | zero => exact .inl rfl
  | succ m ih =>
    have hs := elB_mem (lv := lv) (m := m) (by omega)
    simp only [crashB]
    by_cases hi : i = (elB lv m).at_
    · rw [if_pos hi]
      subst hi
      by_cases htn : (m : Int) = tn
      · rw [if_pos htn]
        by_cases hj : j < t
        · right
          refine ⟨_, hs, rfl, ?_⟩
          simp only [List.getD_eq_getElem?_getD]
          rw [List.getElem?_append_left (by rw [List.length_take, h64 _ hs]; omega), List.getElem?_take, if_pos hj]
        · have he : ((elB lv m).b.take t ++ (crashB tn t F lv m (elB lv m).at_).drop t).getD j 0 = (crashB tn t F lv m (elB lv m).at_).getD j 0 := by
            simp only [List.getD_eq_getElem?_getD]
            have hl : ((elB lv m).b.take t).length = t := by rw [List.length_take, h64 _ hs]; omega
            rw [List.getElem?_append_right (by omega), hl, List.getElem?_drop, show t + (j - t) = j by omega]
          rw [he]
          exact ih (by omega) _
      · rw [if_neg htn]
        exact .inr ⟨_, hs, rfl, rfl⟩
    · rw [if_neg hi]
      exact ih (by omega) i
theorem crashB_len (tn : Int) (t : Nat) (F : Int → List UInt8) (lv : List Wr) (h64 : ∀ s ∈ lv, s.b.length = 64 ∧ 0 ≤ s.at_) (hF : ∀ i : Int, 0 ≤ i → (F i).length = 64) (ht : t ≤ 64) (m : Nat) (hm : m ≤ lv.length) (i : Int) (hi : 0 ≤ i) : (crashB tn t F lv m i).length = 64 := by
  induction m generalizing i with
  | zero => exact hF i hi
  | succ m ih =>
    have hs := elB_mem (lv := lv) (m := m) (by omega)
    simp only [crashB]
    split
    · split
      · rw [List.length_append, List.length_take, List.length_drop, (h64 _ hs).1, ih (by omega) _ (h64 _ hs).2]; omega
      · exact (h64 _ hs).1
    · exact ih (by omega) i hi
theorem effV_byte (f : Nat → List UInt8) (a : List (Option (Int × List UInt8))) (i j : Nat) : (effV f a i).getD j 0 = (f i).getD j 0 ∨ ∃ (k : Int) (b : List UInt8), some (k, b) ∈ a ∧ k.toNat = i ∧ (effV f a i).getD j 0 = b.getD j 0 := by
  induction a generalizing f with
  | nil => exact .inl rfl
  | cons o a ih =>
    cases o with
    | none =>
      rcases ih f with h | ⟨k, b, h1, h2, h3⟩
      · exact .inl h
      · exact .inr ⟨k, b, List.mem_cons_of_mem _ h1, h2, h3⟩
    | some p =>
      obtain ⟨k0, b0⟩ := p
      simp only [effV]
      rcases ih (updV f k0.toNat b0) with h | ⟨k, b, h1, h2, h3⟩
      · rw [h]
        unfold updV
        by_cases hk : i = k0.toNat
        · rw [if_pos hk]
          exact .inr ⟨k0, b0, List.mem_cons_self .., hk.symm, rfl⟩
        · rw [if_neg hk]
          exact .inl rfl
      · exact .inr ⟨k, b, List.mem_cons_of_mem _ h1, h2, h3⟩
theorem effV_len {f : Nat → List UInt8} {a : List (Option (Int × List UInt8))} {n : Nat} (hf : ∀ i, (f i).length = 64) (hg : GoodSh n a) (i : Nat) : (effV f a i).length = 64 := by
  induction a generalizing f with
  | nil => exact hf i
  | cons o a ih =>
    cases o with
    | none => exact ih hf (fun k b h => hg k b (List.mem_cons_of_mem _ h))
    | some p =>
      obtain ⟨k0, b0⟩ := p
      simp only [effV]
      refine ih (fun s => ?_) (fun k b h => hg k b (List.mem_cons_of_mem _ h))
      unfold updV
      split
      · exact (hg k0 b0 (List.mem_cons_self ..)).2.2
      · exact hf s
/-- Each byte is an old one or one that was to be written there. -/
theorem Outs.byte {f g : Nat → List UInt8} {sh a r : List (Option (Int × List UInt8))} {c : List (Int × List UInt8)} {tn : Int} {t n : Nat} {F : Int → List UInt8} {lv : List Wr} (h : Outs f sh g a c r tn t F lv) (hf : ∀ i, (f i).length = 64) (hg : GoodSh n sh) :
    (∀ i, (g i).length = 64) ∧ ∀ i j, (g i).getD j 0 = (f i).getD j 0 ∨ ∃ (k : Int) (b : List UInt8), some (k, b) ∈ sh ∧ k.toNat = i ∧ (g i).getD j 0 = b.getD j 0 := by
  have hcs : ∀ s ∈ lv, some (s.at_, s.b) ∈ sh := fun s hs => by
    rw [h.eq]
    exact List.mem_append_left _ (List.mem_append_right _ (List.mem_map_of_mem (f := some) (h.mem s hs)))
  have has : ∀ o ∈ a, o ∈ sh := fun o ho => by rw [h.eq]; exact List.mem_append_left _ (List.mem_append_left _ ho)
  have hga : GoodSh n a := fun i b hib => hg i b (has _ hib)
  have h64 : ∀ s ∈ lv, s.b.length = 64 ∧ 0 ≤ s.at_ := fun s hs => ⟨(hg _ _ (hcs s hs)).2.2, (hg _ _ (hcs s hs)).1⟩
  refine ⟨fun i => ?_, fun i j => ?_⟩
  · rw [h.out]
    refine crashB_len tn t F lv h64 (fun i hi => ?_) h.t64 _ (Nat.le_refl _) _ (by omega)
    obtain ⟨k, rfl⟩ := Int.eq_ofNat_of_zero_le hi
    rw [h.base]
    exact effV_len hf hga k
  · rw [h.out]
    rcases crashB_byte tn t F lv (fun s hs => (h64 s hs).1) h.t64 lv.length (Nat.le_refl _) (i : Int) j with h1 | ⟨s, hs, h1, h2⟩
    · rw [h1, h.base]
      rcases effV_byte f a i j with h3 | ⟨k, b, k1, k2, k3⟩
      · exact .inl h3
      · exact .inr ⟨k, b, has _ k1, k2, k3⟩
    · exact .inr ⟨s.at_, s.b, hcs s hs, by omega, h2⟩
/-- One write and a flush: the sector is torn, or old, or new. -/
theorem Outs.one {f g : Nat → List UInt8} {a r : List (Option (Int × List UInt8))} {c : List (Int × List UInt8)} {tn : Int} {t : Nat} {F : Int → List UInt8} {lv : List Wr} {i0 : Nat} {pb : List UInt8} (h : Outs f [some ((i0 : Int), pb), none] g a c r tn t F lv) (hf : ∀ i, (f i).length = 64) (hp : pb.length = 64) :
    ∃ u, u ≤ 64 ∧ ∀ i, g i = if i = i0 then pb.take u ++ (f i0).drop u else f i := by
  have ha : a = [] ∧ ∀ p ∈ c, p = ((i0 : Int), pb) := by
    have e := h.eq
    rcases h.last with rfl | hl
    · refine ⟨rfl, fun p hp => ?_⟩
      have : some p ∈ [some ((i0 : Int), pb), none] := by rw [e]; exact List.mem_append_left _ (List.mem_append_right _ (List.mem_map_of_mem (f := some) hp))
      simpa using this
    · exfalso
      cases a with
      | nil => cases hl
      | cons o1 a =>
        cases a with
        | nil => rw [List.getLast?_singleton] at hl; cases hl; simp at e
        | cons o2 a =>
          have : r = [] := by
            have := congrArg List.length e
            simp only [List.length_append, List.length_cons, List.length_nil, List.length_map] at this
            exact List.eq_nil_of_length_eq_zero (by omega)
          exact h.ne this
  obtain ⟨rfl, hc⟩ := ha
  have hcl : c.length ≤ 1 := by
    have := congrArg List.length h.eq
    have hr : 0 < r.length := List.length_pos_iff.2 h.ne
    simp only [List.length_append, List.length_cons, List.length_nil, List.length_map] at this
    omega
  have hF : ∀ i : Nat, F i = f i := h.base
  have hll := h.len
  cases lv with
  | nil =>
    refine ⟨0, by omega, fun i => ?_⟩
    rw [h.out]
    show F i = _
    rw [hF]
    split
    · rename_i e; rw [e]; simp
    · rfl
  | cons s lv =>
    have : lv = [] := by
      simp only [List.length_cons] at hll
      exact List.eq_nil_of_length_eq_zero (by omega)
    subst this
    have hs := hc _ (h.mem s (List.mem_cons_self ..))
    have hs1 : s.at_ = (i0 : Int) := congrArg (·.1) hs
    have hs2 : s.b = pb := congrArg (·.2) hs
    have hel : elB [s] 0 = s := rfl
    by_cases htn : ((0 : Nat) : Int) = tn
    · refine ⟨t, h.t64, fun i => ?_⟩
      rw [h.out]
      show (if (i : Int) = (elB [s] 0).at_ then (if ((0 : Nat) : Int) = tn then (elB [s] 0).b.take t ++ (F (elB [s] 0).at_).drop t else (elB [s] 0).b) else F i) = _
      rw [hel, hs1, hs2, if_pos htn, hF, hF]
      by_cases hi : i = i0
      · rw [if_pos hi, if_pos (by omega)]
      · rw [if_neg hi, if_neg (by omega)]
    · refine ⟨64, Nat.le_refl _, fun i => ?_⟩
      rw [h.out]
      show (if (i : Int) = (elB [s] 0).at_ then (if ((0 : Nat) : Int) = tn then (elB [s] 0).b.take t ++ (F (elB [s] 0).at_).drop t else (elB [s] 0).b) else F i) = _
      rw [hel, hs1, hs2, if_neg htn, hF]
      by_cases hi : i = i0
      · rw [if_pos hi, if_pos (by omega), List.take_of_length_le (by omega), List.drop_eq_nil_of_le (by rw [hf]; omega), List.append_nil]
      · rw [if_neg hi, if_neg (by omega)]
/-- A head's number as it stands once more. -/
def againN (H : List UInt8) : Nat := getN ((H.drop 16).take 7)
theorem getN_zeros (k : Nat) : getN (List.replicate k 0) = 0 := by
  induction k with
  | zero => rfl
  | succ k ih => simp only [List.replicate_succ, getN, ih]; rfl
theorem zeros_at (k i : Nat) : (List.replicate k (0 : UInt8)).getD i 0 = 0 := by
  simp only [List.getD_eq_getElem?_getD, List.getElem?_replicate]
  split <;> rfl
theorem cut_zero {H : List UInt8} {a n : Nat} (hl : a + n ≤ H.length) (h : ∀ i, a ≤ i → i < a + n → H.getD i 0 = 0) : getN ((H.drop a).take n) = 0 := by
  have e : (H.drop a).take n = List.replicate n 0 := slice_ext (n := n) (cut_len hl) (List.length_replicate ..) fun i hi => by rw [cut_getD _ _ _ _ hi, h _ (by omega) (by omega), zeros_at]
  rw [e, getN_zeros]
theorem headsN_facts {H : List UInt8} {num : Nat} {b : List UInt8} (h : headsN H = some (num, b)) : num = headNum H ∧ num ≠ 0 ∧ (H.drop 16).take 8 = (H.drop 4).take 8 ∧ 64 ≤ H.length := by
  unfold headsN at h
  split at h
  · cases h
  · rename_i h1
    split at h
    · cases h
    · rename_i h2
      split at h
      · cases h
      · rename_i h3
        split at h
        · cases h
        · have e := Option.some.inj h
          have e1 := congrArg Prod.fst e
          simp only at e1
          exact ⟨e1.symm, by rw [← e1]; exact h2, by simpa using h3, by omega⟩
theorem againN_some {H : List UInt8} {num : Nat} {b : List UInt8} (h : headsN H = some (num, b)) : againN H = num := by
  obtain ⟨h1, h2, h3, h4⟩ := headsN_facts h
  have e : (H.drop 16).take 7 = (H.drop 4).take 7 := by
    have := congrArg (List.take 7) h3
    rw [List.take_take, List.take_take] at this
    exact this
  unfold againN
  rw [e, h1]
  rfl
/-- A head over which noughts are torn tells no new number. -/
theorem torn_zero {H H' : List UInt8} {u m : Nat} {c : List UInt8} (hl' : H'.length = H.length) (ht : ∀ i, i < 64 → H'.getD i 0 = if i < u then 0 else H.getD i 0) (h : headsN H' = some (m, c)) : m = againN H ∧ m ≠ 0 := by
  obtain ⟨h1, h2, h3, h4⟩ := headsN_facts h
  refine ⟨?_, h2⟩
  by_cases hu : u ≤ 16
  · rw [← againN_some h]
    unfold againN
    rw [cut_eq hl' (fun i hi1 hi2 => by rw [ht i (by omega), if_neg (by omega)])]
  · exfalso
    refine h2 (h1.trans ?_)
    unfold headNum
    exact cut_zero (by omega) fun i hi1 hi2 => by rw [ht i (by omega), if_pos (by omega)]
theorem hx_rest (num : Nat) (b : List UInt8) (i : Nat) (hi : 24 ≤ i) : (headX num b).getD i 0 = 0 := by
  unfold headX
  simp only [List.getD_eq_getElem?_getD]
  have hl : (sumN num 0 b ++ (putN num 8 ++ (putN b.length 4 ++ putN num 8))).length = 24 := by simp [sumN_length, putN_length]
  rw [List.getElem?_append_right (by rw [hl]; exact hi), ← List.getD_eq_getElem?_getD, zeros_at]
/-- A head that is torn over noughts is none, or whole. -/
theorem torn_new {H' : List UInt8} {u num m : Nat} {b c : List UInt8} (ht : ∀ i, i < 64 → H'.getD i 0 = if i < u then (headX num b).getD i 0 else 0) (h : headsN H' = some (m, c)) : ∀ i, i < 64 → H'.getD i 0 = (headX num b).getD i 0 := by
  obtain ⟨h1, h2, h3, h4⟩ := headsN_facts h
  have hu : 16 < u := by
    apply Nat.lt_of_not_le
    intro hu
    refine h2 ?_
    rw [← againN_some h]
    unfold againN
    exact cut_zero (by omega) fun i hi1 hi2 => by rw [ht i (by omega), if_neg (by omega)]
  intro i hi
  by_cases hiu : i < u
  · rw [ht i hi, if_pos hiu]
  · by_cases hi2 : 24 ≤ i
    · rw [ht i hi, if_neg hiu, hx_rest _ _ _ hi2]
    · have e := congrArg (fun l => l.getD (i - 16) 0) h3
      rw [cut_getD _ _ _ _ (by omega), cut_getD _ _ _ _ (by omega), show 16 + (i - 16) = i by omega] at e
      rw [e, ht _ (by omega), if_pos (by omega), hx_num _ _ _ (by omega)]
      have := hx_again num b (i - 16) (by omega)
      rw [show 16 + (i - 16) = i by omega] at this
      exact this.symm

/-! ### what stays -/
theorem inv_keep {f g : Nat → List UInt8} {n half number endp : Nat} {base : List UInt8} {recs : List (List UInt8)} (h : HInv f n half number base recs endp) (ht : Turns f g (half * n) n)
    (h0 : ∀ i, i < placeN endp → i < n * 64 → (halfK g (half * n) n).getD i 0 = (halfK f (half * n) n).getD i 0) (h3 : n * 64 < placeN endp + 9 ∨ (halfK g (half * n) n).getD (placeN endp + 8) 0 = 0) : HInv g n half number base recs endp := by
  have hl : (halfK g (half * n) n).length = (halfK f (half * n) n).length := by rw [halfK_len _ _ _ ht.len, halfK_len _ _ _ h.len]
  have hpe := placeN_le endp
  have hme := h.recs.mono_end
  have hfit := h.fit
  have hle : endp ≤ placeN endp := by unfold placeN; split <;> omega
  have hoth : halfK g ((1 - half) * n) n = halfK f ((1 - half) * n) n := by
    refine halfK_out ht ?_
    rcases (by have := h.hh; omega : half = 0 ∨ half = 1) with rfl | rfl
    · right; simp
    · left; simp
  refine ⟨ht.len, h.hh, h.big, ?_, Pre.same hl h.recs (X := endp) (Nat.le_refl _) (fun i hi => h0 i (by omega) (by omega)), h.fit, h3⟩
  rcases h.head with ⟨a1, a2, a3, a4, a5⟩ | ⟨a1, a2, a3⟩
  · subst a2
    simp only [Nat.zero_mul] at hl h0 hoth
    simp only [Nat.sub_zero, Nat.one_mul] at hoth
    refine .inl ⟨a1, rfl, a3, ?_, by rw [hoth]; exact a5⟩
    rw [headNum_same hl (fun i hi => h0 i (by omega) (by have := h.big; omega))]
    exact a4
  · exact .inr ⟨a1, headsN_same hl a2 (X := endp) (by omega) (fun i hi => h0 i (by omega) (by omega)), by rw [hoth]; exact a3⟩
theorem inv_other {f g : Nat → List UInt8} {n half number endp : Nat} {base : List UInt8} {recs : List (List UInt8)} (h : HInv f n half number base recs endp) (ht : Turns f g ((1 - half) * n) n)
    (h0 : ∀ m c, headsN (halfK g ((1 - half) * n) n) = some (m, c) → m < number) : HInv g n half number base recs endp := by
  have hoth : halfK g (half * n) n = halfK f (half * n) n := by
    refine halfK_out ht ?_
    rcases (by have := h.hh; omega : half = 0 ∨ half = 1) with rfl | rfl
    · left; simp
    · right; simp
  refine ⟨ht.len, h.hh, h.big, ?_, by rw [hoth]; exact h.recs, h.fit, by rw [hoth]; exact h.stop⟩
  rcases h.head with ⟨a1, a2, a3, a4, a5⟩ | ⟨a1, a2, a3⟩
  · subst a1 a2
    simp only [Nat.zero_mul] at hoth
    simp only [Nat.sub_zero, Nat.one_mul] at h0
    refine .inl ⟨rfl, rfl, a3, by rw [hoth]; exact a4, ?_⟩
    cases h6 : headsN (halfK g n n) with
    | none => rfl
    | some p => exact absurd (h0 p.1 p.2 h6) (by omega)
  · exact .inr ⟨a1, by rw [hoth]; exact a2, h0⟩
/-- The other half's number, as it stands once more, is less. -/
def Oth (f : Nat → List UInt8) (n half number : Nat) : Prop :=
  againN (halfK f ((1 - half) * n) n) < number ∨ (number = 0 ∧ againN (halfK f ((1 - half) * n) n) = 0 ∧ againN (halfK f (half * n) n) = 0)
theorem oth_append {f g : Nat → List UInt8} {n half number : Nat} (ho : Oth f n half number) (hh : half ≤ 1) (hf : ∀ i, (f i).length = 64) (ht : Turns f g (half * n) n) (h0 : ∀ i, i < 64 → (halfK g (half * n) n).getD i 0 = (halfK f (half * n) n).getD i 0) : Oth g n half number := by
  have hl : (halfK g (half * n) n).length = (halfK f (half * n) n).length := by rw [halfK_len _ _ _ ht.len, halfK_len _ _ _ hf]
  have hoth : halfK g ((1 - half) * n) n = halfK f ((1 - half) * n) n := by
    refine halfK_out ht ?_
    rcases (by omega : half = 0 ∨ half = 1) with rfl | rfl
    · right; simp
    · left; simp
  unfold Oth at ho ⊢
  rw [hoth]
  rcases ho with ho | ⟨h1, h2, h3⟩
  · exact .inl ho
  · refine .inr ⟨h1, h2, ?_⟩
    rw [← h3]
    unfold againN
    rw [cut_eq hl (fun i _ hi => h0 i (by omega))]
theorem oth_reset {f g : Nat → List UInt8} {n half number endp : Nat} {base : List UInt8} {recs : List (List UInt8)} (h : HInv f n half number base recs endp) (ho : Oth f n half number) (ht : Turns f g ((1 - half) * n) n) : Oth g n (1 - half) (number + 1) := by
  have hh := h.hh
  have hoth : halfK g (half * n) n = halfK f (half * n) n := by
    refine halfK_out ht ?_
    rcases (by omega : half = 0 ∨ half = 1) with rfl | rfl
    · left; simp
    · right; simp
  left
  rw [show 1 - (1 - half) = half by omega, hoth]
  rcases h.head with ⟨a1, a2, a3, a4, a5⟩ | ⟨a1, a2, a3⟩
  · rcases ho with ho | ⟨h1, h2, h3⟩
    · omega
    · omega
  · rw [againN_some a2]
    omega
/-! ### what acts that were cut short leave behind -/
theorem outs_head {d : DK} (h64 : ∀ i, (vw d i).length = 64) {half P : Nat} {b : List UInt8} {g : Nat → List UInt8} {a r : List (Option (Int × List UInt8))} {c : List (Int × List UInt8)} {tn : Int} {t : Nat} {F : Int → List UInt8} {lv : List Wr} (h : Outs (vw d) (headSh d half P b) g a c r tn t F lv) (hq : P / 64 < d.n / 2) (ho : P % 64 + b.length ≤ 64) :
    Turns (vw d) g (half * (d.n / 2)) (d.n / 2) ∧ ∃ u, ∀ i, i < 64 * (d.n / 2) → (halfK g (half * (d.n / 2)) (d.n / 2)).getD i 0 = if P ≤ i ∧ i < P + b.length ∧ i < u then b.getD (i - P) 0 else (halfK (vw d) (half * (d.n / 2)) (d.n / 2)).getD i 0 := by
  obtain ⟨n, hn⟩ : ∃ n, n = d.n / 2 := ⟨_, rfl⟩
  obtain ⟨s0, hs0⟩ : ∃ s, s = half * n := ⟨_, rfl⟩
  obtain ⟨q, hqq⟩ : ∃ q, q = P / 64 := ⟨_, rfl⟩
  obtain ⟨o, hoo⟩ : ∃ o, o = P % 64 := ⟨_, rfl⟩
  have h64' : ∀ i, (readB d ((i : Nat) : Int)).length = 64 := h64
  unfold headSh at h
  rw [← hn, ← hs0, ← hqq, ← hoo] at h
  rw [← hn, ← hs0]
  rw [← hn, ← hqq] at hq
  rw [← hoo] at ho
  obtain ⟨u, hu, hg⟩ := h.one h64 (by rw [patch_len (by rw [h64']; exact ho)]; exact h64' _)
  have hlen : ∀ i, (g i).length = 64 := fun i => by
    rw [hg]
    split
    · rw [List.length_append, List.length_take, List.length_drop, patch_len (by rw [h64']; exact ho), h64', h64]; omega
    · exact h64 i
  refine ⟨⟨fun s hs => ?_, hlen⟩, 64 * q + u, fun i hi => ?_⟩
  · rw [hg, if_neg (by omega)]
  · rw [halfK_getD _ _ _ _ hlen hi, halfK_getD _ _ _ _ h64 hi, hg]
    by_cases hi2 : i / 64 = q
    · rw [if_pos (by omega), hi2]
      simp only [List.getD_eq_getElem?_getD]
      have hpl : ((patch (readB d ((s0 + q : Nat) : Int)) o b).take u).length = u := by rw [List.length_take, patch_len (by rw [h64']; exact ho), h64']; omega
      by_cases hiu : i % 64 < u
      · rw [List.getElem?_append_left (by omega), List.getElem?_take, if_pos hiu, ← List.getD_eq_getElem?_getD, patch_getD _ _ _ _ (by rw [h64']; exact ho)]
        by_cases hc : o ≤ i % 64 ∧ i % 64 < o + b.length
        · rw [if_pos hc, if_pos ⟨by omega, by omega, by omega⟩, List.getD_eq_getElem?_getD, show i % 64 - o = i - P by omega]
        · rw [if_neg hc, if_neg (by omega)]
          exact List.getD_eq_getElem?_getD ..
      · rw [List.getElem?_append_right (by omega), hpl, List.getElem?_drop, show u + (i % 64 - u) = i % 64 by omega, if_neg (by omega)]
    · rw [if_neg (by omega), if_neg (by omega)]
theorem outs_writes {d : DK} (h64 : ∀ i, (vw d i).length = 64) {half P : Nat} {b : List UInt8} {g : Nat → List UInt8} {a r : List (Option (Int × List UInt8))} {c : List (Int × List UInt8)} {tn : Int} {t : Nat} {F : Int → List UInt8} {lv : List Wr} (h : Outs (vw d) (writesSh d half P b) g a c r tn t F lv) (hh : half ≤ 1) (hq : P / 64 < d.n / 2) (hfit : P + b.length ≤ d.n / 2 * 64) :
    Turns (vw d) g (half * (d.n / 2)) (d.n / 2) ∧ ∀ i, i < P + b.length → i < 64 * (d.n / 2) → (halfK g (half * (d.n / 2)) (d.n / 2)).getD i 0 = (halfK (vw d) (half * (d.n / 2)) (d.n / 2)).getD i 0 ∨ (P ≤ i ∧ (halfK g (half * (d.n / 2)) (d.n / 2)).getD i 0 = b.getD (i - P) 0) := by
  obtain ⟨hlen, hby⟩ := h.byte h64 (good_writes h64 hh hq hfit)
  have hFl : (fullB d half P b).length = P % 64 + b.length := by
    unfold fullB
    rw [List.length_append, List.length_take]
    have := h64 (half * (d.n / 2) + P / 64)
    show min _ (vw d _).length + _ = _
    rw [this]
    omega
  obtain ⟨n, hn⟩ : ∃ n, n = d.n / 2 := ⟨_, rfl⟩
  obtain ⟨s0, hs0⟩ : ∃ s, s = half * n := ⟨_, rfl⟩
  obtain ⟨q, hqq⟩ : ∃ q, q = P / 64 := ⟨_, rfl⟩
  obtain ⟨o, hoo⟩ : ∃ o, o = P % 64 := ⟨_, rfl⟩
  obtain ⟨FF, hFF⟩ : ∃ F, F = fullB d half P b := ⟨_, rfl⟩
  have hmem : ∀ (k : Int) (x : List UInt8), some (k, x) ∈ writesSh d half P b → (k.toNat = s0 + (q + (o + b.length + 63) / 64) ∧ q + (o + b.length + 63) / 64 < n) ∨ ∃ j, j < (o + b.length + 63) / 64 ∧ k.toNat = s0 + q + j ∧ x = chunkB FF j := by
    intro k x hm
    unfold writesSh at hm
    rw [← hFF] at hm hFl
    rcases List.mem_append.1 hm with hm | hm
    · unfold blankSh at hm
      rw [← hn, ← hs0, ← hqq, hFl, ← hoo] at hm
      split at hm
      · cases hm
      · split at hm
        · cases hm
        · rename_i h1 h2
          simp only [List.mem_cons, List.not_mem_nil, or_false, Option.some.injEq, Prod.mk.injEq] at hm
          rcases hm with ⟨rfl, rfl⟩ | h
          · exact .inl ⟨by omega, by omega⟩
          · cases h
    · rcases List.mem_append.1 hm with hm | hm
      · unfold chunksSh at hm
        obtain ⟨j, hj, e⟩ := List.mem_map.1 hm
        rw [List.mem_range, hFl, ← hoo] at hj
        rw [← hn, ← hs0, ← hqq] at e
        simp only [Option.some.injEq, Prod.mk.injEq] at e
        obtain ⟨rfl, rfl⟩ := e
        exact .inr ⟨j, hj, by omega, rfl⟩
      · simp at hm
  have hF : FF = (vw d (s0 + q)).take o ++ b := by rw [hFF, hs0, hn, hqq, hoo]; rfl
  rw [← hn, ← hs0]
  rw [← hn] at hq hfit
  have hMn : q + (o + b.length + 63) / 64 ≤ n := by omega
  refine ⟨⟨fun s hs => ?_, hlen⟩, fun i hi hin => ?_⟩
  · refine slice_ext (n := 64) (hlen s) (h64 s) fun j hj => ?_
    rcases hby s j with h1 | ⟨k, x, h1, h2, h3⟩
    · exact h1
    · exfalso
      rcases hmem k x h1 with ⟨h4, h5⟩ | ⟨j', h4, h5, h6⟩ <;> omega
  · rw [halfK_getD _ _ _ _ hlen hin, halfK_getD _ _ _ _ h64 hin]
    rcases hby (s0 + i / 64) (i % 64) with h1 | ⟨k, x, h1, h2, h3⟩
    · exact .inl h1
    · rcases hmem k x h1 with ⟨h4, h5⟩ | ⟨j', h4, h5, h6⟩
      · exfalso
        omega
      · rw [h3, h6, chunk_getD _ _ _ (by omega), show 64 * j' + i % 64 = i - 64 * q by omega, hF]
        have hl1 : ((vw d (s0 + q)).take o).length = o := by rw [List.length_take, h64]; omega
        simp only [List.getD_eq_getElem?_getD]
        by_cases h2 : i < P
        · left
          rw [List.getElem?_append_left (by omega), List.getElem?_take, if_pos (by omega), show i / 64 = q by omega, show i - 64 * q = i % 64 by omega]
        · right
          refine ⟨by omega, ?_⟩
          rw [List.getElem?_append_right (by omega), hl1, show i - 64 * q - o = i - P by omega]
/-- A disk whose cache is empty; the power may go. -/
structure Quiet (d : DK) (a : Nat) : Prop where
  cache : d.cache = []
  dom : 8 ≤ d.n ∧ d.n ≤ 65536
  fits : d.fits a
  m : d.m ≤ a
theorem Quiet.more {d : DK} {a b : Nat} (h : Quiet d a) (hab : a ≤ b) : Quiet d b := ⟨h.cache, h.dom, DiskAt.fits' h.fits hab, Nat.le_trans h.m hab⟩
/-- A disk that went off. -/
structure Gone (d : DK) (n a : Nat) : Prop where
  n : d.n = n
  fits : d.fits a
  m : d.m + d.cache.length ≤ a
theorem Gone.more {d : DK} {n a b : Nat} (h : Gone d n a) (hab : a ≤ b) : Gone d n b := ⟨h.n, DiskAt.fits' h.fits hab, Nat.le_trans h.m hab⟩
theorem Quiet.acts {d d' : DK} {a b : Nat} {sh : List (Option (Int × List UInt8))} (h : Quiet d a) (ha : Acts d sh d' 0) (hg : GoodSh d.n sh) (hl : sh.getLast? = some none) (hb : sh.length ≤ b) : Quiet d' (a + b) ∧ vw d' = effV (vw d) sh ∧ d'.n = d.n := by
  obtain ⟨h1, h2, h3⟩ := acts_done ha hg hl
  have hm := ha.more h.fits (by rw [h.cache]; simpa using h.m)
  exact ⟨⟨h1, by rw [h2]; exact h.dom, DiskAt.fits' hm.1 (by omega), by have := hm.2.1; omega⟩, h3, h2⟩
theorem Quiet.falls {d d' : DK} {a b : Nat} {sh : List (Option (Int × List UInt8))} {x : Int} (h : Quiet d a) (ha : Acts d sh d' x) (hx : x ≠ 0) (hg : GoodSh d.n sh) (hb : sh.length ≤ b) :
    x = 7 ∧ Gone d' d.n (a + b) ∧ ∀ g, CrashOf d' g → ∃ a c r tn t F lv, Outs (vw d) sh g a c r tn t F lv := by
  obtain ⟨h1, h2, h3⟩ := crash_outs (g := fun _ => []) ha hx h.cache hg
  have hm := ha.more h.fits (by rw [h.cache]; simpa using h.m)
  exact ⟨h1, ⟨h2, DiskAt.fits' hm.1 (by omega), by have := hm.2.1; omega⟩, h3⟩
theorem zero9_len : zero9.length = 9 := List.length_replicate ..
theorem zero64_len : zero64.length = 64 := List.length_replicate ..
theorem room_fit {n e l : Nat} (h : (l : Int) ≤ roomN n e) : placeN e + 9 + l ≤ n / 2 * 64 := by
  unfold roomN at h
  omega
theorem z9b_at (b : List UInt8) (i : Nat) : (i < 9 → (zero9 ++ b).getD i 0 = 0) ∧ (zero9 ++ b).getD (9 + i) 0 = b.getD i 0 := by
  simp only [List.getD_eq_getElem?_getD]
  refine ⟨fun hi => ?_, ?_⟩
  · rw [List.getElem?_append_left (by rw [zero9_len]; exact hi), ← List.getD_eq_getElem?_getD]
    exact zeros_at 9 i
  · rw [List.getElem?_append_right (by rw [zero9_len]; omega), zero9_len, Nat.add_sub_cancel_left]
theorem stop_fit {f : Nat → List UInt8} {n half number endp l : Nat} {base : List UInt8} {recs : List (List UInt8)} (h : HInv f n half number base recs endp) (hf : placeN endp + 9 + l ≤ n * 64) : (halfK f (half * n) n).getD (placeN endp + 8) 0 = 0 := by
  rcases h.stop with h | h
  · omega
  · exact h
theorem place_big {f : Nat → List UInt8} {n half number endp : Nat} {base : List UInt8} {recs : List (List UInt8)} (h : HInv f n half number base recs endp) : 64 ≤ placeN endp := by
  have := h.recs.mono_end
  have : endp ≤ placeN endp := by unfold placeN; split <;> omega
  omega
/-- Behind the first act of Append. -/
theorem fall_one {d d1 : DK} {a half number endp : Nat} {base b : List UInt8} {recs : List (List UInt8)} (hc : Quiet d a) (hv : HInv (vw d) (d.n / 2) half number base recs endp) (ho : Oth (vw d) (d.n / 2) half number) (hr : (b.length : Int) ≤ roomN d.n endp)
    (h1 : Acts d (headSh d half (placeN endp) zero9) d1 0) : Quiet d1 (a + 2) ∧ d1.n = d.n ∧ HInv (vw d1) (d.n / 2) half number base recs endp ∧ Oth (vw d1) (d.n / 2) half number := by
  have hfit := room_fit hr
  have hpe := placeN_le endp
  have hbig := place_big hv
  have hsp := stop_fit hv hfit
  obtain ⟨q1, v1, n1⟩ := hc.acts h1 (good_head hv.len hv.hh (by omega) (by rw [zero9_len]; omega)) rfl (Nat.le_refl _)
  have E1 := eff_headSh (half := half) (b := zero9) hv.len (show placeN endp / 64 < d.n / 2 by omega) (by rw [zero9_len]; omega)
  rw [← v1, zero9_len] at E1
  refine ⟨q1, n1, inv_keep hv E1.1 (fun i hi hi2 => ?_) (.inr ?_), oth_append ho hv.hh hv.len E1.1 fun i hi => ?_⟩
  · rw [E1.2 i (by omega), if_neg (by omega)]
  · rw [E1.2 _ (by omega), if_pos (by omega)]
    exact zeros_at 9 _
  · rw [E1.2 i (by omega), if_neg (by omega)]
/-- Behind the second act of Append. -/
theorem fall_two {d d1 d2 : DK} {a half number endp : Nat} {base b : List UInt8} {recs : List (List UInt8)} (hc : Quiet d a) (hv : HInv (vw d) (d.n / 2) half number base recs endp) (ho : Oth (vw d) (d.n / 2) half number) (hr : (b.length : Int) ≤ roomN d.n endp)
    (h1 : Acts d (headSh d half (placeN endp) zero9) d1 0) (h2 : Acts d1 (writesSh d1 half (placeN endp) (zero9 ++ b)) d2 0) :
    Quiet d2 (a + 2 + (4 + (136 + b.length) / 64)) ∧ d2.n = d.n ∧ HInv (vw d2) (d.n / 2) half number base recs endp ∧ Oth (vw d2) (d.n / 2) half number ∧ (∀ i, i < b.length → (halfK (vw d2) (half * (d.n / 2)) (d.n / 2)).getD (placeN endp + 9 + i) 0 = b.getD i 0) ∧
      (d.n / 2 * 64 < placeN (placeN endp + 9 + b.length) + 9 ∨ (halfK (vw d2) (half * (d.n / 2)) (d.n / 2)).getD (placeN (placeN endp + 9 + b.length) + 8) 0 = 0) := by
  have hfit := room_fit hr
  have hpe := placeN_le endp
  have hbig := place_big hv
  obtain ⟨q1, n1, i1, o1⟩ := fall_one hc hv ho hr h1
  have hzl : (zero9 ++ b).length = 9 + b.length := by rw [List.length_append, zero9_len]
  obtain ⟨q2, v2, n2⟩ := q1.acts (b := 4 + (136 + b.length) / 64) h2 (good_writes i1.len hv.hh (by rw [n1]; omega) (by rw [n1, hzl]; omega)) (writesSh_last _ _ _ _) (by have := writesSh_len i1.len half (placeN endp) (zero9 ++ b); rw [hzl] at this; omega)
  have E2 := eff_writes (half := half) (b := zero9 ++ b) i1.len (q := placeN endp / 64) (o := placeN endp % 64) rfl rfl (by rw [n1]; omega) rfl (by rw [n1, hzl]; omega)
  rw [← v2, n1, hzl] at E2
  refine ⟨q2, n2.trans n1, inv_keep i1 E2.1 (fun i hi hi2 => ?_) (.inr ?_), oth_append o1 hv.hh i1.len E2.1 fun i hi => ?_, fun i hi => ?_, ?_⟩
  · rw [E2.2 i (by omega), if_pos hi]
  · rw [E2.2 _ (by omega), if_neg (by omega), if_pos (by omega), show placeN endp + 8 - placeN endp = 8 by omega]
    exact (z9b_at b 8).1 (by omega)
  · rw [E2.2 i (by omega), if_pos (by omega)]
  · rw [E2.2 _ (by omega), if_neg (by omega), if_pos (by omega), show placeN endp + 9 + i - placeN endp = 9 + i by omega]
    exact (z9b_at b i).2
  · have hp2 := placeN_le (placeN endp + 9 + b.length)
    by_cases hlast : d.n / 2 * 64 < placeN (placeN endp + 9 + b.length) + 9
    · exact .inl hlast
    · right
      have hpl := place_cases (placeN endp + 9 + b.length)
      have hge : placeN endp + 9 + b.length ≤ placeN (placeN endp + 9 + b.length) := by unfold placeN; split <;> split <;> omega
      rw [E2.2 _ (by omega), if_neg (by omega)]
      split
      · simp only [List.getD_eq_getElem?_getD]
        rw [List.getElem?_eq_none (by rw [hzl]; omega)]
        rfl
      · rw [if_pos (by omega)]
/-- The last act of Append, all of it. -/
theorem fall_last {f g : Nat → List UInt8} {n half number endp u : Nat} {base b : List UInt8} {recs : List (List UInt8)} (hv : HInv f n half number base recs endp) (hfit : placeN endp + 9 + b.length ≤ n * 64) (hb : b.length ≤ 60000) (ht : Turns f g (half * n) n) (hu : placeN endp + 9 ≤ u)
    (hg : ∀ i, i < 64 * n → (halfK g (half * n) n).getD i 0 = if placeN endp ≤ i ∧ i < placeN endp + 9 ∧ i < u then (leadB number (recs.length + 1) b).getD (i - placeN endp) 0 else (halfK f (half * n) n).getD i 0)
    (h2 : ∀ i, i < b.length → (halfK f (half * n) n).getD (placeN endp + 9 + i) 0 = b.getD i 0) (h3 : n * 64 < placeN (placeN endp + 9 + b.length) + 9 ∨ (halfK f (half * n) n).getD (placeN (placeN endp + 9 + b.length) + 8) 0 = 0) : HInv g n half number base (recs ++ [b]) (placeN endp + 9 + b.length) := by
  refine inv_append hv ht hfit hb (fun i hi => ?_) (fun i hi => ?_) (fun i hi => ?_) ?_
  · rw [hg i (by omega), if_neg (by omega)]
  · rw [hg _ (by omega), if_pos (by omega), show placeN endp + i - placeN endp = i by omega]
  · rw [hg _ (by omega), if_neg (by omega), h2 i hi]
  · rcases h3 with h3 | h3
    · exact .inl h3
    · by_cases hlast : n * 64 < placeN (placeN endp + 9 + b.length) + 9
      · exact .inl hlast
      · right
        have hge : placeN endp + 9 + b.length ≤ placeN (placeN endp + 9 + b.length) := by
          generalize placeN endp + 9 + b.length = z
          unfold placeN; split <;> omega
        rw [hg _ (by omega), if_neg (by omega), h3]
theorem append_fall {d d' : DK} {j j' : JK} {a : Nat} {b : List UInt8} {x : Int} (hc : Quiet d a) (hv : HInv (vw d) (d.n / 2) j.half j.number j.base.b (j.recs.map (·.b)) j.endp) (ho : Oth (vw d) (d.n / 2) j.half j.number) (hb : b.length ≤ 60000) (h : AppR d j b x d' j') :
    (x = 4 ∧ roomN d.n j.endp < b.length ∧ d' = d ∧ j' = j) ∨
    (x = 0 ∧ (b.length : Int) ≤ roomN d.n j.endp ∧ Quiet d' (a + (8 + (136 + b.length) / 64)) ∧ d'.n = d.n ∧ j'.half = j.half ∧ j'.number = j.number ∧ j'.base = j.base ∧ j'.dead = j.dead ∧ j'.endp = placeN j.endp + 9 + b.length ∧
      HInv (vw d') (d'.n / 2) j'.half j'.number j'.base.b (j'.recs.map (·.b)) j'.endp ∧ Oth (vw d') (d'.n / 2) j'.half j'.number ∧ j'.recs.map (·.b) = j.recs.map (·.b) ++ [b]) ∨
    (x = 7 ∧ (b.length : Int) ≤ roomN d.n j.endp ∧ Gone d' d.n (a + (8 + (136 + b.length) / 64)) ∧ j' = failJ j 7 ∧
      ∀ g, CrashOf d' g → HInv g (d.n / 2) j.half j.number j.base.b (j.recs.map (·.b)) j.endp ∨ HInv g (d.n / 2) j.half j.number j.base.b (j.recs.map (·.b) ++ [b]) (placeN j.endp + 9 + b.length)) := by
  have hpe := placeN_le j.endp
  have hbig := place_big hv
  have hzl : (zero9 ++ b).length = 9 + b.length := by rw [List.length_append, zero9_len]
  cases h with
  | full hf => exact .inl ⟨rfl, hf, rfl, rfl⟩
  | f1 hr h1 hx =>
    have hfit := room_fit hr
    obtain ⟨rfl, hgn, hcr⟩ := hc.falls (b := 2) h1 hx (good_head hv.len hv.hh (by omega) (by rw [zero9_len]; omega)) (Nat.le_refl _)
    refine .inr (.inr ⟨rfl, hr, hgn.more (by omega), rfl, fun g hg => .inl ?_⟩)
    obtain ⟨a', c', r', tn, t, F, lv, hO⟩ := hcr g hg
    obtain ⟨hT, u, hU⟩ := outs_head hv.len hO (by omega) (by rw [zero9_len]; omega)
    rw [zero9_len] at hU
    refine inv_keep hv hT (fun i hi hi2 => ?_) (.inr ?_)
    · rw [hU i (by omega), if_neg (by omega)]
    · rw [hU _ (by omega)]
      split
      · exact zeros_at 9 _
      · exact stop_fit hv hfit
  | f2 hr h1 h2 hx =>
    have hfit := room_fit hr
    obtain ⟨q1, n1, i1, o1⟩ := fall_one hc hv ho hr h1
    obtain ⟨rfl, hgn, hcr⟩ := q1.falls (b := 4 + (136 + b.length) / 64) h2 hx (good_writes i1.len hv.hh (by rw [n1]; omega) (by rw [n1, hzl]; omega)) (by have := writesSh_len i1.len j.half (placeN j.endp) (zero9 ++ b); rw [hzl] at this; omega)
    rw [n1] at hgn
    refine .inr (.inr ⟨rfl, hr, hgn.more (by omega), rfl, fun g hg => .inl ?_⟩)
    obtain ⟨a', c', r', tn, t, F, lv, hO⟩ := hcr g hg
    obtain ⟨hT, hU⟩ := outs_writes i1.len hO hv.hh (by rw [n1]; omega) (by rw [n1, hzl]; omega)
    rw [n1, hzl] at hU
    rw [n1] at hT
    refine inv_keep i1 hT (fun i hi hi2 => ?_) (.inr ?_)
    · rcases hU i (by omega) (by omega) with h | ⟨h, -⟩
      · exact h
      · omega
    · rcases hU (placeN j.endp + 8) (by omega) (by omega) with h | ⟨-, h⟩
      · rw [h]; exact stop_fit i1 hfit
      · rw [h, show placeN j.endp + 8 - placeN j.endp = 8 by omega]; exact (z9b_at b 8).1 (by omega)
  | f3 hr h1 h2 h3 hx =>
    have hfit := room_fit hr
    obtain ⟨q2, n2, i2, o2, b2, s2⟩ := fall_two hc hv ho hr h1 h2
    obtain ⟨rfl, hgn, hcr⟩ := q2.falls (b := 2) h3 hx (good_head i2.len hv.hh (by rw [n2]; omega) (by rw [leadB_len]; omega)) (Nat.le_refl _)
    rw [n2] at hgn
    refine .inr (.inr ⟨rfl, hr, hgn.more (by omega), rfl, fun g hg => ?_⟩)
    obtain ⟨a', c', r', tn, t, F, lv, hO⟩ := hcr g hg
    obtain ⟨hT, u, hU⟩ := outs_head i2.len hO (by rw [n2]; omega) (by rw [leadB_len]; omega)
    rw [n2, leadB_len] at hU
    rw [n2] at hT
    by_cases hu : placeN j.endp + 9 ≤ u
    · right
      refine fall_last i2 hfit hb hT hu (fun i hi => ?_) b2 s2
      rw [hU i hi, List.length_map]
    · left
      refine inv_keep i2 hT (fun i hi hi2 => ?_) (.inr ?_)
      · rw [hU i (by omega), if_neg (by omega)]
      · rw [hU _ (by omega), if_neg (by omega)]
        exact stop_fit i2 hfit
  | ok hr h1 h2 h3 hs =>
    rename_i d1 d2 s
    have hfit := room_fit hr
    obtain ⟨q2, n2, i2, o2, b2, s2⟩ := fall_two hc hv ho hr h1 h2
    obtain ⟨q3, v3, n3⟩ := q2.acts (b := 2) h3 (good_head i2.len hv.hh (by rw [n2]; omega) (by rw [leadB_len]; omega)) rfl (Nat.le_refl _)
    have E3 := eff_headSh (half := j.half) (b := leadB j.number (j.recs.length + 1) b) i2.len (show placeN j.endp / 64 < _ / 2 by rw [n2]; omega) (by rw [leadB_len]; omega)
    rw [← v3, n2, leadB_len] at E3
    have n4 : d'.n = d.n := n3.trans n2
    have hI := fall_last (u := placeN j.endp + 9) i2 hfit hb E3.1 (Nat.le_refl _) (fun i hi => by
      rw [E3.2 i hi, List.length_map]
      by_cases hc2 : placeN j.endp ≤ i ∧ i < placeN j.endp + 9
      · rw [if_pos hc2, if_pos ⟨hc2.1, hc2.2, hc2.2⟩]
      · rw [if_neg hc2, if_neg (by omega)]) b2 s2
    refine .inr (.inl ⟨rfl, hr, q3.more (by omega), n4, rfl, rfl, rfl, rfl, rfl, ?_, ?_, ?_⟩)
    · show HInv _ _ _ _ _ ((j.recs ++ [s]).map (·.b)) _
      rw [List.map_append, List.map_singleton, hs, n4]
      exact hI
    · rw [n4]
      exact oth_append o2 hv.hh i2.len E3.1 fun i hi => by rw [E3.2 i (by omega), if_neg (by omega)]
    · show (j.recs ++ [s]).map (·.b) = _
      rw [List.map_append, List.map_singleton, hs]

/-! ### Reset -/
theorem oth_lt {f : Nat → List UInt8} {n half number m : Nat} (ho : Oth f n half number) (h1 : m = againN (halfK f ((1 - half) * n) n)) (h2 : m ≠ 0) : m < number := by
  rcases ho with h | ⟨h, h', -⟩ <;> omega
theorem heads_none {H : List UInt8} (hl : 64 ≤ H.length) (h : ∀ i, i < 64 → H.getD i 0 = 0) : headsN H = none := by
  refine headsN_zero ?_
  unfold headNum
  exact cut_zero (by omega) fun i hi1 hi2 => h i (by omega)
theorem rfall_one {d d1 : DK} {a half number endp : Nat} {base b : List UInt8} {recs : List (List UInt8)} (hc : Quiet d a) (hv : HInv (vw d) (d.n / 2) half number base recs endp) (h1 : Acts d (headSh d (1 - half) 0 zero64) d1 0) :
    Quiet d1 (a + 2) ∧ d1.n = d.n ∧ Turns (vw d) (vw d1) ((1 - half) * (d.n / 2)) (d.n / 2) ∧ HInv (vw d1) (d.n / 2) half number base recs endp ∧ ∀ i, i < 64 → (halfK (vw d1) ((1 - half) * (d.n / 2)) (d.n / 2)).getD i 0 = 0 := by
  have hbig := hv.big
  have hh2 : 1 - half ≤ 1 := by omega
  obtain ⟨q1, v1, n1⟩ := hc.acts h1 (good_head hv.len hh2 (by omega) (by rw [zero64_len]; omega)) rfl (Nat.le_refl _)
  have E1 := eff_headSh (half := 1 - half) (P := 0) (b := zero64) hv.len (by omega) (by rw [zero64_len]; omega)
  rw [← v1, zero64_len] at E1
  have hz : ∀ i, i < 64 → (halfK (vw d1) ((1 - half) * (d.n / 2)) (d.n / 2)).getD i 0 = 0 := fun i hi => by
    rw [E1.2 i (by omega), if_pos (by omega)]
    exact zeros_at 64 _
  refine ⟨q1, n1, E1.1, inv_other hv E1.1 fun m c hm => ?_, hz⟩
  rw [heads_none (by rw [halfK_len _ _ _ E1.1.len]; omega) hz] at hm
  cases hm
theorem rfall_two {d d1 d2 : DK} {a half number endp : Nat} {base b : List UInt8} {recs : List (List UInt8)} (hc : Quiet d a) (hv : HInv (vw d) (d.n / 2) half number base recs endp) (hr : b.length + 64 ≤ d.n / 2 * 64) (h1 : Acts d (headSh d (1 - half) 0 zero64) d1 0) (h2 : Acts d1 (writesSh d1 (1 - half) 64 b) d2 0) :
    Quiet d2 (a + 2 + (4 + (136 + b.length) / 64)) ∧ d2.n = d.n ∧ Turns (vw d) (vw d2) ((1 - half) * (d.n / 2)) (d.n / 2) ∧ HInv (vw d2) (d.n / 2) half number base recs endp ∧ (∀ i, i < 64 → (halfK (vw d2) ((1 - half) * (d.n / 2)) (d.n / 2)).getD i 0 = 0) ∧
      (∀ i, i < b.length → (halfK (vw d2) ((1 - half) * (d.n / 2)) (d.n / 2)).getD (64 + i) 0 = b.getD i 0) ∧ (d.n / 2 * 64 < placeN (64 + b.length) + 9 ∨ (halfK (vw d2) ((1 - half) * (d.n / 2)) (d.n / 2)).getD (placeN (64 + b.length) + 8) 0 = 0) := by
  have hbig := hv.big
  have hh2 : 1 - half ≤ 1 := by omega
  obtain ⟨q1, n1, t1, i1, z1⟩ := rfall_one (b := b) hc hv h1
  obtain ⟨q2, v2, n2⟩ := q1.acts (b := 4 + (136 + b.length) / 64) h2 (good_writes i1.len hh2 (by rw [n1]; omega) (by rw [n1]; omega)) (writesSh_last _ _ _ _) (by have := writesSh_len i1.len (1 - half) 64 b; omega)
  have E2 := eff_writes (half := 1 - half) (P := 64) (b := b) i1.len (q := 1) (o := 0) rfl rfl (by rw [n1]; omega) rfl (by rw [n1]; omega)
  rw [← v2, n1] at E2
  have hz : ∀ i, i < 64 → (halfK (vw d2) ((1 - half) * (d.n / 2)) (d.n / 2)).getD i 0 = 0 := fun i hi => by
    rw [E2.2 i (by omega), if_pos hi]
    exact z1 i hi
  refine ⟨q2, n2.trans n1, t1.trans E2.1, inv_other i1 E2.1 fun m c hm => ?_, hz, fun i hi => ?_, ?_⟩
  · rw [heads_none (by rw [halfK_len _ _ _ E2.1.len]; omega) hz] at hm
    cases hm
  · rw [E2.2 _ (by omega), if_neg (by omega), if_pos (by omega), Nat.add_sub_cancel_left]
  · have hp2 := placeN_le (64 + b.length)
    by_cases hlast : d.n / 2 * 64 < placeN (64 + b.length) + 9
    · exact .inl hlast
    · right
      have hpl := place_cases (64 + b.length)
      have hge : 64 + b.length ≤ placeN (64 + b.length) := by
        generalize 64 + b.length = z
        unfold placeN; split <;> omega
      rw [E2.2 _ (by omega), if_neg (by omega)]
      split
      · simp only [List.getD_eq_getElem?_getD]
        rw [List.getElem?_eq_none (by omega)]
        rfl
      · rw [if_pos (by omega)]
theorem rfall_last {f g : Nat → List UInt8} {n half number endp : Nat} {base b : List UInt8} {recs : List (List UInt8)} (hv : HInv f n half number base recs endp) (hfit : b.length + 64 ≤ n * 64) (hb : b.length ≤ 60000) (hnum : number < 1000000000000) (ht : Turns f g ((1 - half) * n) n)
    (h1 : ∀ i, i < 64 → (halfK g ((1 - half) * n) n).getD i 0 = (headX (number + 1) b).getD i 0) (hg : ∀ i, 64 ≤ i → i < 64 * n → (halfK g ((1 - half) * n) n).getD i 0 = (halfK f ((1 - half) * n) n).getD i 0)
    (h2 : ∀ i, i < b.length → (halfK f ((1 - half) * n) n).getD (64 + i) 0 = b.getD i 0) (h3 : n * 64 < placeN (64 + b.length) + 9 ∨ (halfK f ((1 - half) * n) n).getD (placeN (64 + b.length) + 8) 0 = 0) : HInv g n (1 - half) (number + 1) b [] (64 + b.length) := by
  refine inv_reset hv ht (by omega) hb hnum h1 (fun i hi => ?_) ?_
  · rw [hg _ (by omega) (by omega), h2 i hi]
  · rcases h3 with h3 | h3
    · exact .inl h3
    · by_cases hlast : n * 64 < placeN (64 + b.length) + 9
      · exact .inl hlast
      · right
        have hge : 64 + b.length ≤ placeN (64 + b.length) := by
          generalize 64 + b.length = z
          unfold placeN; split <;> omega
        rw [hg _ (by omega) (by omega), h3]
theorem reset_fall {d d' : DK} {j j' : JK} {a : Nat} {b : List UInt8} {x : Int} (hc : Quiet d a) (hv : HInv (vw d) (d.n / 2) j.half j.number j.base.b (j.recs.map (·.b)) j.endp) (ho : Oth (vw d) (d.n / 2) j.half j.number) (hb : b.length ≤ 60000) (hnum : j.number < 1000000000000) (h : ResR d j b x d' j') :
    (x = 4 ∧ d.n / 2 * 64 < b.length + 64 ∧ d' = d ∧ j' = j) ∨
    (x = 0 ∧ b.length + 64 ≤ d.n / 2 * 64 ∧ Quiet d' (a + (8 + (136 + b.length) / 64)) ∧ d'.n = d.n ∧ j'.half = 1 - j.half ∧ j'.number = j.number + 1 ∧ j'.base.b = b ∧ j'.dead = j.dead ∧ j'.endp = 64 + b.length ∧
      HInv (vw d') (d'.n / 2) j'.half j'.number j'.base.b (j'.recs.map (·.b)) j'.endp ∧ Oth (vw d') (d'.n / 2) j'.half j'.number ∧ j'.recs = []) ∨
    (x = 7 ∧ b.length + 64 ≤ d.n / 2 * 64 ∧ Gone d' d.n (a + (8 + (136 + b.length) / 64)) ∧ j' = failJ j 7 ∧
      ∀ g, CrashOf d' g → HInv g (d.n / 2) j.half j.number j.base.b (j.recs.map (·.b)) j.endp ∨ HInv g (d.n / 2) (1 - j.half) (j.number + 1) b [] (64 + b.length)) := by
  have hbig := hv.big
  have hh2 : 1 - j.half ≤ 1 := by omega
  cases h with
  | full hf => exact .inl ⟨rfl, hf, rfl, rfl⟩
  | f1 hr h1 hx =>
    obtain ⟨rfl, hgn, hcr⟩ := hc.falls (b := 2) h1 hx (good_head hv.len hh2 (by omega) (by rw [zero64_len]; omega)) (Nat.le_refl _)
    refine .inr (.inr ⟨rfl, hr, hgn.more (by omega), rfl, fun g hg => .inl ?_⟩)
    obtain ⟨a', c', r', tn, t, F, lv, hO⟩ := hcr g hg
    obtain ⟨hT, u, hU⟩ := outs_head hv.len hO (by omega) (by rw [zero64_len]; omega)
    rw [zero64_len] at hU
    refine inv_other hv hT fun m c hm => ?_
    have hl : (halfK g ((1 - j.half) * (d.n / 2)) (d.n / 2)).length = (halfK (vw d) ((1 - j.half) * (d.n / 2)) (d.n / 2)).length := by rw [halfK_len _ _ _ hT.len, halfK_len _ _ _ hv.len]
    obtain ⟨e1, e2⟩ := torn_zero (u := u) hl (fun i hi => by
      rw [hU i (by omega)]
      by_cases hu : i < u
      · rw [if_pos (by omega), if_pos hu]; exact zeros_at 64 _
      · rw [if_neg (by omega), if_neg hu]) hm
    exact oth_lt ho e1 e2
  | f2 hr h1 h2 hx =>
    obtain ⟨q1, n1, t1, i1, z1⟩ := rfall_one (b := b) hc hv h1
    obtain ⟨rfl, hgn, hcr⟩ := q1.falls (b := 4 + (136 + b.length) / 64) h2 hx (good_writes i1.len hh2 (by rw [n1]; omega) (by rw [n1]; omega)) (by have := writesSh_len i1.len (1 - j.half) 64 b; omega)
    rw [n1] at hgn
    refine .inr (.inr ⟨rfl, hr, hgn.more (by omega), rfl, fun g hg => .inl ?_⟩)
    obtain ⟨a', c', r', tn, t, F, lv, hO⟩ := hcr g hg
    obtain ⟨hT, hU⟩ := outs_writes i1.len hO hh2 (by rw [n1]; omega) (by rw [n1]; omega)
    rw [n1] at hU hT
    refine inv_other i1 hT fun m c hm => ?_
    rw [heads_none (by rw [halfK_len _ _ _ hT.len]; omega) (fun i hi => by
      rcases hU i (by omega) (by omega) with h | ⟨h, -⟩
      · rw [h]; exact z1 i hi
      · omega)] at hm
    cases hm
  | f3 hr h1 h2 h3 hx =>
    obtain ⟨q2, n2, t2, i2, z2, b2, s2⟩ := rfall_two hc hv hr h1 h2
    obtain ⟨rfl, hgn, hcr⟩ := q2.falls (b := 2) h3 hx (good_head i2.len hh2 (by rw [n2]; omega) (by rw [headX_len]; omega)) (Nat.le_refl _)
    rw [n2] at hgn
    refine .inr (.inr ⟨rfl, hr, hgn.more (by omega), rfl, fun g hg => ?_⟩)
    obtain ⟨a', c', r', tn, t, F, lv, hO⟩ := hcr g hg
    obtain ⟨hT, u, hU⟩ := outs_head i2.len hO (by rw [n2]; omega) (by rw [headX_len]; omega)
    rw [n2, headX_len] at hU
    rw [n2] at hT
    have hmix : ∀ i, i < 64 → (halfK g ((1 - j.half) * (d.n / 2)) (d.n / 2)).getD i 0 = if i < u then (headX (j.number + 1) b).getD i 0 else 0 := fun i hi => by
      rw [hU i (by omega)]
      by_cases hu : i < u
      · rw [if_pos (by omega), if_pos hu, Nat.sub_zero]
      · rw [if_neg (by omega), if_neg hu]; exact z2 i hi
    cases h6 : headsN (halfK g ((1 - j.half) * (d.n / 2)) (d.n / 2)) with
    | none =>
      left
      refine inv_other i2 hT fun m c hm => ?_
      rw [h6] at hm
      cases hm
    | some p =>
      right
      refine rfall_last i2 hr hb hnum hT (torn_new (m := p.1) (c := p.2) hmix h6) (fun i hi1 hi2 => ?_) b2 s2
      rw [hU i hi2, if_neg (by omega)]
  | ok hr h1 h2 h3 hs =>
    rename_i d1 d2 s
    obtain ⟨q2, n2, t2, i2, z2, b2, s2⟩ := rfall_two hc hv hr h1 h2
    obtain ⟨q3, v3, n3⟩ := q2.acts (b := 2) h3 (good_head i2.len hh2 (by rw [n2]; omega) (by rw [headX_len]; omega)) rfl (Nat.le_refl _)
    have E3 := eff_headSh (half := 1 - j.half) (P := 0) (b := headX (j.number + 1) b) i2.len (by rw [n2]; omega) (by rw [headX_len]; omega)
    rw [← v3, n2, headX_len] at E3
    have n4 : d'.n = d.n := n3.trans n2
    have hI := rfall_last i2 hr hb hnum E3.1 (fun i hi => by rw [E3.2 i (by omega), if_pos (by omega), Nat.sub_zero]) (fun i hi1 hi2 => by rw [E3.2 i hi2, if_neg (by omega)]) b2 s2
    refine .inr (.inl ⟨rfl, hr, q3.more (by omega), n4, rfl, rfl, hs, rfl, rfl, ?_, ?_, rfl⟩)
    · rw [n4]
      show HInv _ _ _ _ s.b [] _
      rw [hs]
      exact hI
    · rw [n4]
      exact oth_reset hv ho (t2.trans E3.1)
end Go.Proofs.Ytdldclakkplliaa
