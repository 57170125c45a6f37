/- What a journal keeps, while there is power: Append and Reset, plain. Conditions: none. -/
import Derived.Test.YtdldclakkplliaaJEff
import Derived.Test.YtdldclakkplliaaJReset
namespace Go.Proofs.Ytdldclakkplliaa
set_option linter.unusedVariables false
set_option linter.unusedSimpArgs false
open Go.RowKit

/-- The halves' bytes hold a journal of this half, number, base, of these records, that end here. -/
structure HInv (f : Nat → List UInt8) (n half number : Nat) (base : List UInt8) (recs : List (List UInt8)) (endp : Nat) : Prop where
  len : ∀ i, (f i).length = 64
  hh : half ≤ 1
  big : 4 ≤ n
  head : (number = 0 ∧ half = 0 ∧ base = [] ∧ headNum (halfK f 0 n) = 0 ∧ headsN (halfK f n n) = none) ∨ (0 < number ∧ headsN (halfK f (half * n) n) = some (number, base) ∧ ∀ m b, headsN (halfK f ((1 - half) * n) n) = some (m, b) → m < number)
  recs : Pre (halfK f (half * n) n) number 1 (64 + base.length) recs endp
  fit : endp ≤ n * 64
  stop : n * 64 < placeN endp + 9 ∨ (halfK f (half * n) n).getD (placeN endp + 8) 0 = 0
theorem stop_none {H : List UInt8} {num k e : Nat} (h : H.length < placeN e + 9 ∨ H.getD (placeN e + 8) 0 = 0) : recAt H num k e = none := by
  unfold recAt
  rcases h with h | h
  · rw [if_pos h]
  · split
    · rfl
    · rw [if_pos]
      rw [h]
      decide
theorem headsN_zero {H : List UInt8} (h : headNum H = 0) : headsN H = none := by
  unfold headsN
  split
  · rfl
  · first
    | rfl
    | rw [if_pos h]
def pstep (o : Option (Nat × List UInt8)) (k : Nat) (p : Nat × Nat × List UInt8) : Nat × Nat × List UInt8 := match o with
  | some (n, b) => if p.2.1 < n then (k, n, b) else p
  | none => p
theorem pick_two (d : DK) : pickH d 2 = pstep (headsN (halfB d 1)) 1 (pstep (headsN (halfB d 0)) 0 (0, 0, [])) := rfl
theorem HInv.lenH {f : Nat → List UInt8} {n half number endp : Nat} {base : List UInt8} {recs : List (List UInt8)} (h : HInv f n half number base recs endp) (s0 : Nat) : (halfK f s0 n).length = n * 64 := by rw [halfK_len _ _ _ h.len]; omega
theorem HInv.pick {d : DK} {half number endp : Nat} {base : List UInt8} {recs : List (List UInt8)} (h : HInv (vw d) (d.n / 2) half number base recs endp) : pickH d 2 = (half, number, base) := by
  have e0 : halfB d 0 = halfK (vw d) 0 (d.n / 2) := by unfold halfB; rw [Nat.zero_mul]
  have e1 : halfB d 1 = halfK (vw d) (d.n / 2) (d.n / 2) := by unfold halfB; rw [Nat.one_mul]
  rw [pick_two, e0, e1]
  rcases h.head with ⟨h1, h2, h3, h4, h5⟩ | ⟨h1, h2, h3⟩
  · subst h1 h2 h3
    rw [headsN_zero h4, h5]
    rfl
  · rcases (by have := h.hh; omega : half = 0 ∨ half = 1) with rfl | rfl
    · rw [Nat.zero_mul] at h2
      simp only [Nat.sub_zero, Nat.one_mul] at h3
      rw [h2]
      have e2 : pstep (some (number, base)) 0 (0, 0, []) = (0, number, base) := if_pos h1
      rw [e2]
      cases h6 : headsN (halfK (vw d) (d.n / 2) (d.n / 2)) with
      | none => rfl
      | some p =>
        obtain ⟨m, b⟩ := p
        have := h3 m b h6
        exact if_neg (by simp only; omega)
    · rw [Nat.one_mul] at h2
      simp only [Nat.sub_self, Nat.zero_mul] at h3
      rw [h2]
      have hlt : (pstep (headsN (halfK (vw d) 0 (d.n / 2))) 0 (0, 0, [])).2.1 < number := by
        cases h6 : headsN (halfK (vw d) 0 (d.n / 2)) with
        | none => exact h1
        | some p =>
          obtain ⟨m, b⟩ := p
          have := h3 m b h6
          show (if 0 < m then (0, m, b) else (0, 0, []) : Nat × Nat × List UInt8).2.1 < number
          split
          · exact this
          · exact h1
      exact if_pos hlt
/-- What Open reads is what the halves hold. -/
theorem HInv.opens {d : DK} {half number endp : Nat} {base : List UInt8} {recs : List (List UInt8)} (h : HInv (vw d) (d.n / 2) half number base recs endp) {j : JK} (ho : Opens d j) :
    j.half = half ∧ j.number = number ∧ j.base.b = base ∧ j.recs.map (·.b) = recs ∧ j.endp = endp ∧ j.dead = false := by
  obtain ⟨o1, o2, o3, o4, o5, o6, o7⟩ := ho
  rw [h.pick] at o1 o2 o3
  simp only at o1 o2 o3
  rw [o1, o2, o3] at o5
  rw [o1, o2] at o7
  have hn : recAt (halfK (vw d) (half * (d.n / 2)) (d.n / 2)) number (1 + recs.length) endp = none := stop_none (by rw [h.lenH]; exact h.stop)
  have := o5.unique h.recs (by rw [List.length_map]; exact o7) hn
  exact ⟨o1, o2, o3, this.1, this.2, o4⟩
/-- A disk that is new. -/
theorem HInv.new (n : Nat) (hn : 8 ≤ n) : HInv (vw (newDK n)) (n / 2) 0 0 [] [] 64 := by
  have hv : ∀ i, vw (newDK n) i = List.replicate 64 0 := fun i => rfl
  have hl : ∀ i, (vw (newDK n) i).length = 64 := fun i => by rw [hv]; exact List.length_replicate ..
  have hz : ∀ s0 i, i < 64 * (n / 2) → (halfK (vw (newDK n)) s0 (n / 2)).getD i 0 = 0 := fun s0 i hi => by
    rw [halfK_getD _ _ _ _ hl hi, hv]
    simp only [List.getD_eq_getElem?_getD, List.getElem?_replicate]
    rw [if_pos (by omega)]
    rfl
  have hnum : ∀ s0, headNum (halfK (vw (newDK n)) s0 (n / 2)) = 0 := fun s0 => by
    unfold headNum
    have e : ((halfK (vw (newDK n)) s0 (n / 2)).drop 4).take 7 = List.replicate 7 0 := by
      refine slice_ext (n := 7) (cut_len (by rw [halfK_len _ _ _ hl]; omega)) (List.length_replicate ..) fun i hi => ?_
      rw [cut_getD _ _ _ _ hi, hz _ _ (by omega)]
      simp only [List.getD_eq_getElem?_getD, List.getElem?_replicate]
      rw [if_pos hi]
      rfl
    rw [e]
    rfl
  refine ⟨hl, by omega, by omega, .inl ⟨rfl, rfl, rfl, hnum _, headsN_zero (hnum _)⟩, .nil, by omega, .inr ?_⟩
  rw [hz _ _ (by have := placeN_le 64; unfold placeN at *; simp at *; omega)]

/-! ### Append -/
theorem headsN_same {H H' : List UInt8} {num X : Nat} {b : List UInt8} (hl : H'.length = H.length) (h : headsN H = some (num, b)) (hX : 64 + b.length ≤ X) (hs : ∀ i, i < X → H'.getD i 0 = H.getD i 0) : headsN H' = some (num, b) := by
  have h0 := headsN_some h
  have hL : headLen H = b.length := by
    unfold headsN at h
    split at h
    · cases h
    · rename_i h1
      split at h
      · cases h
      · split at h
        · cases h
        · split at h
          · cases h
          · have := Option.some.inj h
            have h2 := congrArg Prod.snd this
            simp only at h2
            rw [← h2]
            unfold headBase
            rw [cut_len (by omega)]
  have e1 : headLen H' = headLen H := by unfold headLen; rw [cut_eq hl (fun i _ hi => hs i (by omega))]
  have e2 : headNum H' = headNum H := by unfold headNum; rw [cut_eq hl (fun i _ hi => hs i (by omega))]
  have e3 : headBase H' = headBase H := by unfold headBase; rw [e1]; exact cut_eq hl (fun i _ hi => hs i (by omega))
  have e4 : (H'.drop 16).take 8 = (H.drop 16).take 8 := cut_eq hl (fun i _ hi => hs i (by omega))
  have e5 : (H'.drop 4).take 8 = (H.drop 4).take 8 := cut_eq hl (fun i _ hi => hs i (by omega))
  have e6 : H'.take 4 = H.take 4 := by
    have := cut_eq (a := 0) (n := 4) hl (fun i _ hi => hs i (by omega))
    simpa using this
  unfold headsN at h ⊢
  rw [hl, e1, e2, e3, e4, e5, e6]
  exact h
theorem headNum_same {H H' : List UInt8} (hl : H'.length = H.length) (hs : ∀ i, i < 64 → H'.getD i 0 = H.getD i 0) : headNum H' = headNum H := by unfold headNum; rw [cut_eq hl (fun i _ hi => hs i (by omega))]
theorem halfK_out {f g : Nat → List UInt8} {s0 n t0 m : Nat} (h : Turns f g s0 n) (hd : t0 + m ≤ s0 ∨ s0 + n ≤ t0) : halfK g t0 m = halfK f t0 m := by
  induction m with
  | zero => rfl
  | succ m ih => rw [halfK_succ, halfK_succ, ih (by omega), h.out _ (by omega)]
theorem lead_sum (num k : Nat) (b : List UInt8) (i : Nat) (hi : i < 4) : (leadB num k b).getD i 0 = (sumN num k b).getD i 0 := by
  unfold leadB
  simp only [List.getD_eq_getElem?_getD]
  rw [List.append_assoc, List.getElem?_append_left (by rw [sumN_length]; exact hi)]
theorem lead_len (num k : Nat) (b : List UInt8) (i : Nat) (hi : i < 4) : (leadB num k b).getD (4 + i) 0 = (putN (b.length + 1) 4).getD i 0 := by
  unfold leadB
  simp only [List.getD_eq_getElem?_getD]
  rw [List.append_assoc, List.getElem?_append_right (by rw [sumN_length]; omega), sumN_length, List.getElem?_append_left (by rw [putN_length]; omega)]
  congr 2
  omega
theorem lead_mark (num k : Nat) (b : List UInt8) : (leadB num k b).getD 8 0 = 165 := by
  unfold leadB
  simp only [List.getD_eq_getElem?_getD]
  rw [List.getElem?_append_right (by rw [List.length_append, sumN_length, putN_length]; omega), List.length_append, sumN_length, putN_length]
  rfl
/-- A record that was written is read. -/
theorem rec_read {H : List UInt8} {num k e : Nat} {b : List UInt8} (hfit : placeN e + 9 + b.length ≤ H.length) (hb : b.length ≤ 60000) (h1 : ∀ i, i < 9 → H.getD (placeN e + i) 0 = (leadB num k b).getD i 0) (h2 : ∀ i, i < b.length → H.getD (placeN e + 9 + i) 0 = b.getD i 0) : recAt H num k e = some b := by
  have hlen : recLen H e = b.length + 1 := by
    unfold recLen
    have e1 : (H.drop (placeN e + 4)).take 4 = putN (b.length + 1) 4 := by
      refine slice_ext (n := 4) (cut_len (by omega)) (putN_length _ _) fun i hi => ?_
      rw [cut_getD _ _ _ _ hi, Nat.add_assoc, h1 _ (by omega), lead_len _ _ _ _ hi]
    rw [e1, getN_putN _ _ (by omega)]
  have hbe : (H.drop (placeN e + 9)).take b.length = b := by
    refine slice_ext (n := b.length) (cut_len (by omega)) rfl fun i hi => ?_
    rw [cut_getD _ _ _ _ hi, h2 _ hi]
  have hse : (H.drop (placeN e)).take 4 = sumN num k b := by
    refine slice_ext (n := 4) (cut_len (by omega)) (sumN_length _ _ _) fun i hi => ?_
    rw [cut_getD _ _ _ _ hi, h1 _ (by omega), lead_sum _ _ _ _ hi]
  unfold recAt
  rw [if_neg (by omega), if_neg (by rw [h1 8 (by omega), lead_mark]; exact fun h => h rfl), hlen, Nat.add_sub_cancel, if_neg (by omega), hbe, hse, if_neg (fun h => h rfl)]
/-- What a half's bytes are behind an Append. -/
theorem inv_append {f g : Nat → List UInt8} {n half number endp : Nat} {base : List UInt8} {recs : List (List UInt8)} {b : List UInt8} (h : HInv f n half number base recs endp) (ht : Turns f g (half * n) n) (hfit : placeN endp + 9 + b.length ≤ n * 64) (hb : b.length ≤ 60000)
    (h0 : ∀ i, i < placeN endp → (halfK g (half * n) n).getD i 0 = (halfK f (half * n) n).getD i 0) (h1 : ∀ i, i < 9 → (halfK g (half * n) n).getD (placeN endp + i) 0 = (leadB number (recs.length + 1) b).getD i 0) (h2 : ∀ i, i < b.length → (halfK g (half * n) n).getD (placeN endp + 9 + i) 0 = b.getD i 0)
    (h3 : n * 64 < placeN (placeN endp + 9 + b.length) + 9 ∨ (halfK g (half * n) n).getD (placeN (placeN endp + 9 + b.length) + 8) 0 = 0) : HInv g n half number base (recs ++ [b]) (placeN endp + 9 + b.length) := by
  have hl : (halfK g (half * n) n).length = (halfK f (half * n) n).length := by rw [halfK_len _ _ _ ht.len, halfK_len _ _ _ h.len]
  have hpe := placeN_le endp
  have hme := h.recs.mono_end
  have hLf := h.lenH (half * n)
  have hoth : halfK g ((1 - half) * n) n = halfK f ((1 - half) * n) n := by
    refine halfK_out ht ?_
    rcases (by have := h.hh; omega : half = 0 ∨ half = 1) with rfl | rfl
    · right; simp
    · left; simp
  refine ⟨ht.len, h.hh, h.big, ?_, ?_, hfit, h3⟩
  · rcases h.head with ⟨a1, a2, a3, a4, a5⟩ | ⟨a1, a2, a3⟩
    · subst a2
      simp only [Nat.zero_mul] at hl h0 hoth
      simp only [Nat.sub_zero, Nat.one_mul] at hoth
      refine .inl ⟨a1, rfl, a3, ?_, by rw [hoth]; exact a5⟩
      rw [headNum_same hl (fun i hi => h0 i (by omega))]
      exact a4
    · refine .inr ⟨a1, headsN_same hl a2 (X := placeN endp) (by omega) h0, by rw [hoth]; exact a3⟩
  · have hp := Pre.same hl h.recs (X := placeN endp) (by omega) h0
    refine .snoc hp (rec_read (by rw [hl, hLf]; exact hfit) hb (fun i hi => ?_) h2)
    rw [h1 i hi, Nat.add_comm 1]

theorem place_cases (e : Nat) : placeN e = e ∨ placeN e % 64 = 0 := by
  unfold placeN
  split
  · right; omega
  · left; rfl
/-! ### what Append does to the disk -/
structure Calm (d : DK) (a : Nat) : Prop where
  calm : d.calm
  cache : d.cache = []
  dom : 8 ≤ d.n ∧ d.n ≤ 65536
  fits : d.fits a
  m : d.m ≤ a
theorem Calm.acts {d d' : DK} {a b : Nat} {sh : List (Option (Int × List UInt8))} {x : Int} (h : Calm d a) (ha : Acts d sh d' x) (hg : GoodSh d.n sh) (hl : sh.getLast? = some none) (hb : sh.length ≤ b) : x = 0 ∧ Calm d' (a + b) ∧ vw d' = effV (vw d) sh ∧ d'.n = d.n := by
  obtain ⟨h1, h2, h3, h4, h5⟩ := ha.calm h.calm hg
  have hm := ha.more h.fits (by rw [h.cache]; simpa using h.m)
  exact ⟨h1, ⟨h2, h5 hl, by rw [h3]; exact h.dom, DiskAt.fits' hm.1 (by omega), by have := hm.2.1; omega⟩, h4, h3⟩
theorem writesSh_last (d : DK) (half P : Nat) (b : List UInt8) : (writesSh d half P b).getLast? = some none := by
  unfold writesSh
  rw [← List.append_assoc, List.getLast?_append]
  rfl
theorem writesSh_len {d : DK} (h64 : ∀ i, (vw d i).length = 64) (half P : Nat) (b : List UInt8) : (writesSh d half P b).length ≤ 3 + (64 + b.length + 63) / 64 := by
  unfold writesSh
  have h1 := blankSh_len d half (P / 64 + ((fullB d half P b).length + 63) / 64)
  have h2 : (fullB d half P b).length ≤ 64 + b.length := by
    unfold fullB
    rw [List.length_append, List.length_take]
    have := h64 (half * (d.n / 2) + P / 64)
    show min _ (vw d _).length + _ ≤ _
    rw [this]
    omega
  rw [List.length_append, List.length_append, chunksSh_len]
  simp only [List.length_cons, List.length_nil]
  omega
theorem eff_headSh {d : DK} (h64 : ∀ i, (vw d i).length = 64) {half P : Nat} {b : List UInt8} (hq : P / 64 < d.n / 2) (ho : P % 64 + b.length ≤ 64) :
    Turns (vw d) (effV (vw d) (headSh d half P b)) (half * (d.n / 2)) (d.n / 2) ∧ ∀ i, i < 64 * (d.n / 2) → (halfK (effV (vw d) (headSh d half P b)) (half * (d.n / 2)) (d.n / 2)).getD i 0 = if P ≤ i ∧ i < P + b.length then b.getD (i - P) 0 else (halfK (vw d) (half * (d.n / 2)) (d.n / 2)).getD i 0 := by
  have e : effV (vw d) (headSh d half P b) = updV (vw d) (half * (d.n / 2) + P / 64) (patch (vw d (half * (d.n / 2) + P / 64)) (P % 64) b) := by
    show updV (vw d) (((half * (d.n / 2) + P / 64 : Nat) : Int)).toNat _ = _
    rw [show (((half * (d.n / 2) + P / 64 : Nat) : Int)).toNat = half * (d.n / 2) + P / 64 by omega]
    rfl
  rw [e]
  exact eff_head h64 hq (by omega) ho
/-- Append, while there is power. -/
theorem append_calm {d d' : DK} {j j' : JK} {a : Nat} {b : List UInt8} {x : Int} (hc : Calm d a) (hv : HInv (vw d) (d.n / 2) j.half j.number j.base.b (j.recs.map (·.b)) j.endp) (hb : b.length ≤ 60000) (h : AppR d j b x d' j') :
    (x = 4 ∧ roomN d.n j.endp < b.length ∧ d' = d ∧ j' = j) ∨ (x = 0 ∧ (b.length : Int) ≤ roomN d.n j.endp ∧ Calm d' (a + (8 + (136 + b.length) / 64)) ∧ d'.n = d.n ∧ j'.half = j.half ∧ j'.number = j.number ∧ j'.base = j.base ∧ j'.dead = j.dead ∧ j'.endp = placeN j.endp + 9 + b.length ∧
      HInv (vw d') (d'.n / 2) j'.half j'.number j'.base.b (j'.recs.map (·.b)) j'.endp ∧ j'.recs.map (·.b) = j.recs.map (·.b) ++ [b]) := by
  have hpe := placeN_le j.endp
  have hroom : (b.length : Int) ≤ roomN d.n j.endp → placeN j.endp + 9 + b.length ≤ d.n / 2 * 64 := by
    unfold roomN
    omega
  have hz9 : zero9.length = 9 := List.length_replicate ..
  have st1 : ∀ {d1 : DK} {y : Int}, (b.length : Int) ≤ roomN d.n j.endp → Acts d (headSh d j.half (placeN j.endp) zero9) d1 y → y = 0 ∧ Calm d1 (a + 2) ∧ vw d1 = effV (vw d) (headSh d j.half (placeN j.endp) zero9) ∧ d1.n = d.n := fun hr h1 => by
    have := hroom hr
    exact hc.acts h1 (good_head hv.len hv.hh (by omega) (by rw [hz9]; omega)) rfl (Nat.le_refl _)
  have st2 : ∀ {d1 d2 : DK} {y z : Int}, (b.length : Int) ≤ roomN d.n j.endp → Acts d (headSh d j.half (placeN j.endp) zero9) d1 y → Acts d1 (writesSh d1 j.half (placeN j.endp) (zero9 ++ b)) d2 z → z = 0 ∧ Calm d2 (a + 2 + (4 + (136 + b.length) / 64)) ∧ vw d2 = effV (vw d1) (writesSh d1 j.half (placeN j.endp) (zero9 ++ b)) ∧ d2.n = d.n := fun {d1 d2 y z} hr h1 h2 => by
    have h3 := hroom hr
    obtain ⟨-, c1, v1, n1⟩ := st1 hr h1
    have l1 : ∀ i, (vw d1 i).length = 64 := by rw [v1]; exact (eff_headSh hv.len (by omega) (by rw [hz9]; omega)).1.len
    have hzl : (zero9 ++ b).length = 9 + b.length := by rw [List.length_append, hz9]
    obtain ⟨e1, e2, e3, e4⟩ := c1.acts (b := 4 + (136 + b.length) / 64) h2 (good_writes l1 hv.hh (by rw [n1]; omega) (by rw [n1, hzl]; omega)) (writesSh_last _ _ _ _) (by have := writesSh_len l1 j.half (placeN j.endp) (zero9 ++ b); rw [hzl] at this; omega)
    exact ⟨e1, e2, e3, e4.trans n1⟩
  have st3 : ∀ {d1 d2 d3 : DK} {y z u : Int}, (b.length : Int) ≤ roomN d.n j.endp → Acts d (headSh d j.half (placeN j.endp) zero9) d1 y → Acts d1 (writesSh d1 j.half (placeN j.endp) (zero9 ++ b)) d2 z → Acts d2 (headSh d2 j.half (placeN j.endp) (leadB j.number (j.recs.length + 1) b)) d3 u →
      u = 0 ∧ Calm d3 (a + (8 + (136 + b.length) / 64)) ∧ d3.n = d.n ∧ HInv (vw d3) (d3.n / 2) j.half j.number j.base.b (j.recs.map (·.b) ++ [b]) (placeN j.endp + 9 + b.length) := fun hr h1 h2 h3 => by
    have hfit := hroom hr
    obtain ⟨-, c1, v1, n1⟩ := st1 hr h1
    obtain ⟨-, c2, v2, n2⟩ := st2 hr h1 h2
    have E1 := eff_headSh (half := j.half) (b := zero9) hv.len (show placeN j.endp / 64 < d.n / 2 by omega) (by rw [hz9]; omega)
    rw [← v1] at E1
    have hzl : (zero9 ++ b).length = 9 + b.length := by rw [List.length_append, hz9]
    have E2 := eff_writes (half := j.half) (b := zero9 ++ b) E1.1.len (q := placeN j.endp / 64) (o := placeN j.endp % 64) rfl rfl (by rw [n1]; omega) rfl (by rw [n1, hzl]; omega)
    rw [← v2, n1] at E2
    obtain ⟨e1, e2, e3, e4⟩ := c2.acts (b := 2) h3 (good_head E2.1.len hv.hh (by rw [n2]; omega) (by rw [leadB_len]; omega)) rfl (Nat.le_refl _)
    have E3 := eff_headSh (half := j.half) (b := leadB j.number (j.recs.length + 1) b) E2.1.len (show placeN j.endp / 64 < _ / 2 by rw [n2]; omega) (by rw [leadB_len]; omega)
    rw [← e3, n2] at E3
    rw [leadB_len] at E3
    rw [hzl] at E2
    rw [hz9] at E1
    have hT := (E1.1.trans E2.1).trans E3.1
    refine ⟨e1, ⟨e2.calm, e2.cache, e2.dom, DiskAt.fits' e2.fits (by omega), by have := e2.m; omega⟩, e4.trans n2, ?_⟩
    rw [e4.trans n2]
    refine inv_append hv hT hfit hb (fun i hi => ?_) (fun i hi => ?_) (fun i hi => ?_) ?_
    · rw [E3.2 i (by omega), if_neg (by omega), E2.2 i (by omega), if_pos hi, E1.2 i (by omega), if_neg (by omega)]
    · rw [E3.2 _ (by omega), if_pos (by omega), List.length_map, show placeN j.endp + i - placeN j.endp = i by omega]
    · rw [E3.2 _ (by omega), if_neg (by omega), E2.2 _ (by omega), if_neg (by omega), if_pos (by omega)]
      simp only [List.getD_eq_getElem?_getD]
      rw [List.getElem?_append_right (by rw [hz9]; omega), hz9]
      congr 2
      omega
    · have hp2 := placeN_le (placeN j.endp + 9 + b.length)
      by_cases hlast : d.n / 2 * 64 < placeN (placeN j.endp + 9 + b.length) + 9
      · exact .inl hlast
      · right
        have hpl := place_cases (placeN j.endp + 9 + b.length)
        rw [E3.2 _ (by omega), if_neg (by omega), E2.2 _ (by omega), if_neg (by omega)]
        split
        · simp only [List.getD_eq_getElem?_getD]
          rw [List.getElem?_eq_none (by rw [hzl]; omega)]
          rfl
        · rw [if_pos (by omega)]
  cases h with
  | full hf => exact .inl ⟨rfl, hf, rfl, rfl⟩
  | f1 hr h1 hx => exact absurd (st1 hr h1).1 hx
  | f2 hr h1 h2 hx => exact absurd (st2 hr h1 h2).1 hx
  | f3 hr h1 h2 h3 hx => exact absurd (st3 hr h1 h2 h3).1 hx
  | ok hr h1 h2 h3 hs =>
    rename_i d1 d2 s
    obtain ⟨-, c3, n3, i3⟩ := st3 hr h1 h2 h3
    refine .inr ⟨rfl, hr, c3, n3, rfl, rfl, rfl, rfl, rfl, ?_, ?_⟩
    · show HInv _ _ _ _ _ ((j.recs ++ [s]).map (·.b)) _
      rw [List.map_append, List.map_singleton, hs]
      exact i3
    · show (j.recs ++ [s]).map (·.b) = _
      rw [List.map_append, List.map_singleton, hs]
theorem headX_eq (num : Nat) (b : List UInt8) : headX num b = sumN num 0 b ++ (putN num 8 ++ (putN b.length 4 ++ (putN num 8 ++ List.replicate 40 0))) := by
  unfold headX
  simp [List.append_assoc]
theorem hx_sum (num : Nat) (b : List UInt8) (i : Nat) (hi : i < 4) : (headX num b).getD i 0 = (sumN num 0 b).getD i 0 := by
  rw [headX_eq]
  simp only [List.getD_eq_getElem?_getD]
  rw [List.getElem?_append_left (by rw [sumN_length]; exact hi)]
theorem hx_num (num : Nat) (b : List UInt8) (i : Nat) (hi : i < 8) : (headX num b).getD (4 + i) 0 = (putN num 8).getD i 0 := by
  rw [headX_eq]
  simp only [List.getD_eq_getElem?_getD]
  rw [List.getElem?_append_right (by rw [sumN_length]; omega), sumN_length, List.getElem?_append_left (by rw [putN_length]; omega), Nat.add_sub_cancel_left]
theorem hx_len (num : Nat) (b : List UInt8) (i : Nat) (hi : i < 4) : (headX num b).getD (12 + i) 0 = (putN b.length 4).getD i 0 := by
  rw [headX_eq]
  simp only [List.getD_eq_getElem?_getD]
  rw [List.getElem?_append_right (by rw [sumN_length]; omega), sumN_length, List.getElem?_append_right (by rw [putN_length]; omega), putN_length, List.getElem?_append_left (by rw [putN_length]; omega), show 12 + i - 4 - 8 = i by omega]
theorem hx_again (num : Nat) (b : List UInt8) (i : Nat) (hi : i < 8) : (headX num b).getD (16 + i) 0 = (putN num 8).getD i 0 := by
  rw [headX_eq]
  simp only [List.getD_eq_getElem?_getD]
  rw [List.getElem?_append_right (by rw [sumN_length]; omega), sumN_length, List.getElem?_append_right (by rw [putN_length]; omega), putN_length, List.getElem?_append_right (by rw [putN_length]; omega), putN_length, List.getElem?_append_left (by rw [putN_length]; omega), show 16 + i - 4 - 8 - 4 = i by omega]
/-- A head that was written is read. -/
theorem head_read {H : List UInt8} {num : Nat} {b : List UInt8} (hfit : 64 + b.length ≤ H.length) (hn : 0 < num ∧ num < 72057594037927936) (hb : b.length < 4294967296) (h1 : ∀ i, i < 64 → H.getD i 0 = (headX num b).getD i 0) (h2 : ∀ i, i < b.length → H.getD (64 + i) 0 = b.getD i 0) : headsN H = some (num, b) := by
  have e1 : headLen H = b.length := by
    unfold headLen
    have e : (H.drop 12).take 4 = putN b.length 4 := slice_ext (n := 4) (cut_len (by omega)) (putN_length _ _) fun i hi => by rw [cut_getD _ _ _ _ hi, h1 _ (by omega), hx_len _ _ _ hi]
    rw [e, getN_putN _ _ (by omega)]
  have e8 : (H.drop 4).take 8 = putN num 8 := slice_ext (n := 8) (cut_len (by omega)) (putN_length _ _) fun i hi => by rw [cut_getD _ _ _ _ hi, h1 _ (by omega), hx_num _ _ _ hi]
  have e2 : headNum H = num := by
    unfold headNum
    have e : (H.drop 4).take 7 = putN num 7 := by
      rw [← putN_take num 8 7 (by omega), ← e8, List.take_take]
      congr 1
    rw [e, getN_putN _ _ (by omega)]
  have e3 : headBase H = b := by
    unfold headBase
    rw [e1]
    exact slice_ext (n := b.length) (cut_len (by omega)) rfl fun i hi => by rw [cut_getD _ _ _ _ hi, h2 _ hi]
  have e4 : (H.drop 16).take 8 = putN num 8 := slice_ext (n := 8) (cut_len (by omega)) (putN_length _ _) fun i hi => by rw [cut_getD _ _ _ _ hi, h1 _ (by omega), hx_again _ _ _ hi]
  have e5 : H.take 4 = sumN num 0 b := by
    have e : (H.drop 0).take 4 = sumN num 0 b := slice_ext (n := 4) (cut_len (by omega)) (sumN_length _ _ _) fun i hi => by rw [cut_getD _ _ _ _ hi, Nat.zero_add, h1 _ (by omega), hx_sum _ _ _ hi]
    simpa using e
  unfold headsN
  rw [e1, e2, e3, e4, e5, e8, if_neg (by omega), if_neg (by omega), if_neg (fun h => h rfl), if_neg (fun h => h rfl)]
theorem inv_reset {f g : Nat → List UInt8} {n half number endp : Nat} {base : List UInt8} {recs : List (List UInt8)} {b : List UInt8} (h : HInv f n half number base recs endp) (ht : Turns f g ((1 - half) * n) n) (hfit : 64 + b.length ≤ n * 64) (hb : b.length ≤ 60000) (hnum : number < 1000000000000)
    (h1 : ∀ i, i < 64 → (halfK g ((1 - half) * n) n).getD i 0 = (headX (number + 1) b).getD i 0) (h2 : ∀ i, i < b.length → (halfK g ((1 - half) * n) n).getD (64 + i) 0 = b.getD i 0)
    (h3 : n * 64 < placeN (64 + b.length) + 9 ∨ (halfK g ((1 - half) * n) n).getD (placeN (64 + b.length) + 8) 0 = 0) : HInv g n (1 - half) (number + 1) b [] (64 + b.length) := by
  have hoth : halfK g (half * n) n = halfK f (half * n) n := by
    refine halfK_out ht ?_
    rcases (by have := h.hh; omega : half = 0 ∨ half = 1) with rfl | rfl
    · left; simp
    · right; simp
  have hl : (halfK g ((1 - half) * n) n).length = n * 64 := by rw [halfK_len _ _ _ ht.len]; omega
  have hhh : 1 - (1 - half) = half := by have := h.hh; omega
  refine ⟨ht.len, by omega, h.big, .inr ⟨by omega, head_read (by rw [hl]; exact hfit) ⟨by omega, by omega⟩ (by omega) h1 h2, fun m c hm => ?_⟩, .nil, hfit, h3⟩
  rw [hhh, hoth] at hm
  rcases h.head with ⟨a1, a2, a3, a4, a5⟩ | ⟨a1, a2, a3⟩
  · subst a2
    rw [Nat.zero_mul, headsN_zero a4] at hm
    cases hm
  · rw [a2] at hm
    simp only [Option.some.injEq, Prod.mk.injEq] at hm
    omega
theorem reset_calm {d d' : DK} {j j' : JK} {a : Nat} {b : List UInt8} {x : Int} (hc : Calm d a) (hv : HInv (vw d) (d.n / 2) j.half j.number j.base.b (j.recs.map (·.b)) j.endp) (hb : b.length ≤ 60000) (hnum : j.number < 1000000000000) (h : ResR d j b x d' j') :
    (x = 4 ∧ d.n / 2 * 64 < b.length + 64 ∧ d' = d ∧ j' = j) ∨ (x = 0 ∧ b.length + 64 ≤ d.n / 2 * 64 ∧ Calm d' (a + (8 + (136 + b.length) / 64)) ∧ d'.n = d.n ∧ j'.half = 1 - j.half ∧ j'.number = j.number + 1 ∧ j'.base.b = b ∧ j'.dead = j.dead ∧ j'.endp = 64 + b.length ∧
      HInv (vw d') (d'.n / 2) j'.half j'.number j'.base.b (j'.recs.map (·.b)) j'.endp ∧ j'.recs = []) := by
  have hbig := hv.big
  have hz64 : zero64.length = 64 := List.length_replicate ..
  have hh2 : 1 - j.half ≤ 1 := by omega
  have st1 : ∀ {d1 : DK} {y : Int}, Acts d (headSh d (1 - j.half) 0 zero64) d1 y → y = 0 ∧ Calm d1 (a + 2) ∧ vw d1 = effV (vw d) (headSh d (1 - j.half) 0 zero64) ∧ d1.n = d.n := fun h1 =>
    hc.acts h1 (good_head hv.len hh2 (by omega) (by rw [hz64]; omega)) rfl (Nat.le_refl _)
  have st2 : ∀ {d1 d2 : DK} {y z : Int}, b.length + 64 ≤ d.n / 2 * 64 → Acts d (headSh d (1 - j.half) 0 zero64) d1 y → Acts d1 (writesSh d1 (1 - j.half) 64 b) d2 z → z = 0 ∧ Calm d2 (a + 2 + (4 + (136 + b.length) / 64)) ∧ vw d2 = effV (vw d1) (writesSh d1 (1 - j.half) 64 b) ∧ d2.n = d.n := fun {d1 d2 y z} hr h1 h2 => by
    obtain ⟨-, c1, v1, n1⟩ := st1 h1
    have l1 : ∀ i, (vw d1 i).length = 64 := by rw [v1]; exact (eff_headSh hv.len (by omega) (by rw [hz64]; omega)).1.len
    obtain ⟨e1, e2, e3, e4⟩ := c1.acts (b := 4 + (136 + b.length) / 64) h2 (good_writes l1 hh2 (by rw [n1]; omega) (by rw [n1]; omega)) (writesSh_last _ _ _ _) (by have := writesSh_len l1 (1 - j.half) 64 b; omega)
    exact ⟨e1, e2, e3, e4.trans n1⟩
  have st3 : ∀ {d1 d2 d3 : DK} {y z u : Int}, b.length + 64 ≤ d.n / 2 * 64 → Acts d (headSh d (1 - j.half) 0 zero64) d1 y → Acts d1 (writesSh d1 (1 - j.half) 64 b) d2 z → Acts d2 (headSh d2 (1 - j.half) 0 (headX (j.number + 1) b)) d3 u →
      u = 0 ∧ Calm d3 (a + (8 + (136 + b.length) / 64)) ∧ d3.n = d.n ∧ HInv (vw d3) (d3.n / 2) (1 - j.half) (j.number + 1) b [] (64 + b.length) := fun {d1 d2 d3 y z u} hr h1 h2 h3 => by
    obtain ⟨-, c1, v1, n1⟩ := st1 h1
    obtain ⟨-, c2, v2, n2⟩ := st2 hr h1 h2
    have E1 := eff_headSh (half := 1 - j.half) (P := 0) (b := zero64) hv.len (by omega) (by rw [hz64]; omega)
    rw [← v1] at E1
    have E2 := eff_writes (half := 1 - j.half) (P := 64) (b := b) E1.1.len (q := 1) (o := 0) rfl rfl (by rw [n1]; omega) rfl (by rw [n1]; omega)
    rw [← v2, n1] at E2
    obtain ⟨e1, e2, e3, e4⟩ := c2.acts (b := 2) h3 (good_head E2.1.len hh2 (by rw [n2]; omega) (by rw [headX_len]; omega)) rfl (Nat.le_refl _)
    have E3 := eff_headSh (half := 1 - j.half) (P := 0) (b := headX (j.number + 1) b) E2.1.len (by rw [n2]; omega) (by rw [headX_len]; omega)
    rw [← e3, n2, headX_len] at E3
    have hT := (E1.1.trans E2.1).trans E3.1
    refine ⟨e1, ⟨e2.calm, e2.cache, e2.dom, DiskAt.fits' e2.fits (by omega), by have := e2.m; omega⟩, e4.trans n2, ?_⟩
    rw [e4.trans n2]
    refine inv_reset hv hT (by omega) hb hnum (fun i hi => ?_) (fun i hi => ?_) ?_
    · rw [E3.2 i (by omega), if_pos (by omega), Nat.sub_zero]
    · rw [E3.2 _ (by omega), if_neg (by omega), E2.2 _ (by omega), if_neg (by omega), if_pos (by omega), Nat.add_sub_cancel_left]
    · have hp2 := placeN_le (64 + b.length)
      by_cases hlast : d.n / 2 * 64 < placeN (64 + b.length) + 9
      · exact .inl hlast
      · right
        have hpl := place_cases (64 + b.length)
        rw [E3.2 _ (by omega), if_neg (by omega), E2.2 _ (by omega), if_neg (by omega)]
        split
        · simp only [List.getD_eq_getElem?_getD]
          rw [List.getElem?_eq_none (by omega)]
          rfl
        · rw [if_pos (by omega)]
  cases h with
  | full hf => exact .inl ⟨rfl, hf, rfl, rfl⟩
  | f1 hr h1 hx => exact absurd (st1 h1).1 hx
  | f2 hr h1 h2 hx => exact absurd (st2 hr h1 h2).1 hx
  | f3 hr h1 h2 h3 hx => exact absurd (st3 hr h1 h2 h3).1 hx
  | ok hr h1 h2 h3 hs =>
    rename_i d1 d2 s
    obtain ⟨-, c3, n3, i3⟩ := st3 hr h1 h2 h3
    refine .inr ⟨rfl, hr, c3, n3, rfl, rfl, hs, rfl, rfl, ?_, rfl⟩
    show HInv _ _ _ _ s.b [] _
    rw [hs]
    exact i3
end Go.Proofs.Ytdldclakkplliaa
