/- What a sector is behind a crash, where at most one write was not flushed: it begins new and ends old. Plain. Conditions: none. -/
import Derived.Test.YtdldclakkplliaaUse
namespace Go.Proofs.Ytdldclakkplliaa
set_option linter.unusedVariables false
set_option linter.unusedSimpArgs false
open Go.RowKit

/-- What stands in the sectors, in the words of the law. -/
def setB (f : Nat → List UInt8) (z : Int) : Nat → List UInt8 := fun j => if (j : Int) = z % 32 then blk 64 z else f j
def putB (f : Nat → List UInt8) (zs : List Int) : Nat → List UInt8 := zs.foldl setB f
def zeroB : Nat → List UInt8 := fun _ => List.replicate 64 0
def cntB (zs : List Int) (k : Nat) : Nat := zs.countP fun z => z % 32 == (k : Int)
theorem putB_take (f : Nat → List UInt8) (zs : List Int) (k : Nat) (z : Int) (h : zs[k]? = some z) : putB f (zs.take (k + 1)) = setB (putB f (zs.take k)) z := by
  unfold putB
  rw [List.take_add_one, h, List.foldl_append]
  rfl
theorem cntB_take (zs : List Int) (k : Nat) (z : Int) (h : zs[k]? = some z) (j : Nat) : cntB (zs.take (k + 1)) j = cntB (zs.take k) j + if (j : Int) = z % 32 then 1 else 0 := by
  unfold cntB
  rw [List.take_add_one, h, List.countP_append]
  simp only [Option.toList_some, List.countP_cons, List.countP_nil, Nat.zero_add, beq_iff_eq]
  by_cases hz : (j : Int) = z % 32
  · rw [if_pos hz, if_pos hz.symm]
  · rw [if_neg hz, if_neg (fun e => hz e.symm)]
theorem setB_len {f : Nat → List UInt8} {z : Int} (h : ∀ j, (f j).length = 64) (j : Nat) : (setB f z j).length = 64 := by
  unfold setB
  split
  · exact blk_length _ _
  · exact h j
theorem putB_len {f : Nat → List UInt8} (zs : List Int) (h : ∀ j, (f j).length = 64) (j : Nat) : (putB f zs j).length = 64 := by
  induction zs generalizing f with
  | nil => exact h j
  | cons z zs ih => exact ih (fun j => setB_len h j)
theorem putB_none {f : Nat → List UInt8} {zs : List Int} {k : Nat} (h : cntB zs k = 0) : putB f zs k = f k := by
  induction zs generalizing f with
  | nil => rfl
  | cons z zs ih =>
    unfold cntB at h
    rw [List.countP_cons] at h
    show putB (setB f z) zs k = f k
    rw [ih (f := setB f z) (by unfold cntB; omega)]
    unfold setB
    rw [if_neg]
    intro e
    rw [if_pos (by simp [e])] at h
    omega
theorem putB_one {f : Nat → List UInt8} {zs : List Int} {k : Nat} (h : cntB zs k ≤ 1) (z : Int) (hz : z ∈ zs) (hk : z % 32 = (k : Int)) : putB f zs k = blk 64 z := by
  induction zs generalizing f with
  | nil => cases hz
  | cons y zs ih =>
    unfold cntB at h
    rw [List.countP_cons] at h
    show putB (setB f y) zs k = blk 64 z
    rcases List.mem_cons.1 hz with rfl | hz
    · rw [if_pos (by simp [hk])] at h
      rw [putB_none (f := setB f z) (by unfold cntB; omega)]
      unfold setB
      rw [if_pos hk.symm]
    · exact ih (f := setB f y) (by unfold cntB; omega) hz

/-- The cache holds these writes. -/
def Holds (ws : List Wr) (zs : List Int) : Prop := ws.map (fun s => (s.at_, s.b)) = zs.map fun z => (z % 32, blk 64 z)
theorem Holds.nil : Holds [] [] := rfl
theorem Holds.add {ws : List Wr} {zs : List Int} {k : Nat} {z : Int} (h : Holds ws (zs.take k)) (hz : zs[k]? = some z) {s : Wr} (h1 : s.at_ = z % 32) (h2 : s.b = blk 64 z) : Holds (ws ++ [s]) (zs.take (k + 1)) := by
  unfold Holds at *
  rw [List.take_add_one, hz, List.map_append, List.map_append, h]
  simp [h1, h2]
theorem Holds.len {ws : List Wr} {zs : List Int} (h : Holds ws zs) : ws.length = zs.length := by
  have := congrArg List.length h
  simpa using this
theorem Holds.mem {ws : List Wr} {zs : List Int} (h : Holds ws zs) {s : Wr} (hs : s ∈ ws) : ∃ z ∈ zs, s.at_ = z % 32 ∧ s.b = blk 64 z := by
  have h1 : (s.at_, s.b) ∈ ws.map (fun s => (s.at_, s.b)) := List.mem_map.2 ⟨s, hs, rfl⟩
  rw [h] at h1
  obtain ⟨z, hz, e⟩ := List.mem_map.1 h1
  simp only [Prod.mk.injEq] at e
  exact ⟨z, hz, e.1.symm, e.2.symm⟩
theorem Holds.count {ws : List Wr} {zs : List Int} (h : Holds ws zs) (k : Nat) : ws.countP (fun s => s.at_ == (k : Int)) = cntB zs k := by
  have h1 : (ws.map (fun s => (s.at_, s.b))).countP (fun p => p.1 == (k : Int)) = (zs.map fun z => (z % 32, blk 64 z)).countP (fun p => p.1 == (k : Int)) := by rw [h]
  rw [List.countP_map, List.countP_map] at h1
  exact h1
/-- What is safe behind a flush. -/
theorem holds_put {ws : List Wr} {zs : List Int} (h : Holds ws zs) (f : Int → Option Wr) (k : Nat) : secB (putAll f ws k) = putB (fun j => secB (f j)) zs k := by
  induction zs generalizing ws f with
  | nil =>
    have : ws = [] := by
      have := h.len
      exact List.eq_nil_of_length_eq_zero (by simpa using this)
    subst this
    rfl
  | cons z zs ih =>
    match ws, h with
    | [], h => exact absurd h.len (by simp)
    | s :: ws, h =>
      unfold Holds at h
      simp only [List.map_cons, List.cons.injEq, Prod.mk.injEq] at h
      obtain ⟨⟨h1, h2⟩, h3⟩ := h
      show secB (putAll (upd f s.at_ s) ws k) = putB (setB (fun j => secB (f j)) z) zs k
      rw [ih (ws := ws) h3]
      congr 1
      funext j
      unfold setB upd
      rw [h1]
      by_cases hj : (j : Int) = z % 32
      · rw [if_pos hj, if_pos hj]
        exact h2
      · rw [if_neg hj, if_neg hj]

theorem live_sub (p0 : Int) (ws : List Wr) (k : Nat) (hk : k ≤ ws.length) : (liveK p0 ws k).Sublist (ws.take k) := by
  induction k with
  | zero => simp [liveK]
  | succ k ih =>
    simp only [liveK]
    have h1 : ws.take (k + 1) = ws.take k ++ [elB ws k] := by
      rw [List.take_add_one, List.getElem?_eq_getElem (by omega), elB, List.getD_eq_getElem?_getD, List.getElem?_eq_getElem (by omega)]
      rfl
    rw [h1]
    refine (ih (by omega)).append ?_
    split
    · exact List.Sublist.refl _
    · exact List.nil_sublist _
theorem crash_mix (tn : Int) (t : Nat) (f : Int → List UInt8) (lv : List Wr) (k : Nat) (N : List UInt8) (hN : N.length = 64) (hf : (f k).length = 64) (ht : t ≤ 64) (hall : ∀ s ∈ lv, s.at_ = (k : Int) → s.b = N) (m : Nat) (hm : m ≤ lv.length) (hc : (lv.take m).countP (fun s => s.at_ == (k : Int)) ≤ 1) :
    ((lv.take m).countP (fun s => s.at_ == (k : Int)) = 0 → crashB tn t f lv m k = f k) ∧ ∃ T, T ≤ 64 ∧ crashB tn t f lv m k = N.take T ++ (f k).drop T := by
  induction m with
  | zero => exact ⟨fun _ => rfl, 0, by omega, by simp [crashB]⟩
  | succ m ih =>
    have h1 : lv.take (m + 1) = lv.take m ++ [elB lv m] := by
      rw [List.take_add_one, List.getElem?_eq_getElem (by omega), elB, List.getD_eq_getElem?_getD, List.getElem?_eq_getElem (by omega)]
      rfl
    rw [h1, List.countP_append] at hc ⊢
    rw [List.countP_singleton] at hc ⊢
    obtain ⟨ih1, ih2⟩ := ih (by omega) (by omega)
    unfold crashB
    by_cases ha : (k : Int) = (elB lv m).at_
    · have hb : ((elB lv m).at_ == (k : Int)) = true := by simp [ha]
      rw [if_pos hb] at hc ⊢
      refine ⟨fun h => by omega, ?_⟩
      have hmem : elB lv m ∈ lv := by
        rw [elB, List.getD_eq_getElem?_getD, List.getElem?_eq_getElem (by omega)]
        exact List.getElem_mem _
      rw [if_pos ha, hall _ hmem ha.symm, ← ha, ih1 (by omega)]
      by_cases htn : (m : Int) = tn
      · rw [if_pos htn]
        exact ⟨t, ht, rfl⟩
      · rw [if_neg htn]
        refine ⟨64, by omega, ?_⟩
        rw [List.take_of_length_le (by omega), List.drop_of_length_le (by omega), List.append_nil]
    · have hb : ¬ ((elB lv m).at_ == (k : Int)) = true := by simp; exact fun e => ha e.symm
      rw [if_neg hb]
      rw [if_neg ha]
      exact ⟨fun h => ih1 (by omega), ih2⟩

/-- A sector behind the crash. -/
theorem safe_mix (tn : Int) (p0 : Int) (t : Nat) (ht : t ≤ 64) (f : Int → Option Wr) (ws : List Wr) (zs : List Int) (h : Holds ws zs) (k : Nat) (hf : (secB (f k)).length = 64) (hc : cntB zs k ≤ 1) :
    ∃ T, T ≤ 64 ∧ crashB tn t (fun i => secB (f i)) (liveK p0 ws ws.length) (liveK p0 ws ws.length).length k = (putB (fun j => secB (f j)) zs k).take T ++ (secB (f k)).drop T := by
  have hsub := live_sub p0 ws ws.length (Nat.le_refl _)
  rw [List.take_length] at hsub
  have hcl : (liveK p0 ws ws.length).countP (fun s => s.at_ == (k : Int)) ≤ cntB zs k := by rw [← h.count k]; exact hsub.countP_le
  by_cases h0 : (liveK p0 ws ws.length).countP (fun s => s.at_ == (k : Int)) = 0
  · have h1 := (crash_mix tn t (fun i => secB (f i)) (liveK p0 ws ws.length) k (secB (f k)) hf hf ht (fun s hs e => by
      rw [List.countP_eq_zero] at h0
      exact absurd (by simp [e]) (h0 s hs)) _ (Nat.le_refl _) (by rw [List.take_length]; omega)).1 (by rw [List.take_length]; exact h0)
    exact ⟨0, by omega, by rw [h1]; simp⟩
  · have hpos : 0 < (liveK p0 ws ws.length).countP (fun s => s.at_ == (k : Int)) := by omega
    obtain ⟨s0, hs0, he0⟩ := List.countP_pos_iff.1 hpos
    have he0' : s0.at_ = (k : Int) := by simpa using he0
    have hall : ∀ s ∈ liveK p0 ws ws.length, s.at_ = (k : Int) → s.b = putB (fun j => secB (f j)) zs k := by
      intro s hs e
      obtain ⟨z, hz, e1, e2⟩ := h.mem (hsub.subset hs)
      rw [e2, putB_one hc z hz (by rw [← e1, e])]
    have hN : (putB (fun j => secB (f j)) zs k).length = 64 := by
      rw [← hall s0 hs0 he0']
      obtain ⟨z, _, _, e2⟩ := h.mem (hsub.subset hs0)
      rw [e2]
      exact blk_length _ _
    exact (crash_mix tn t (fun i => secB (f i)) (liveK p0 ws ws.length) k _ hN hf ht hall _ (Nat.le_refl _) (by rw [List.take_length]; omega)).2
/-- Where it is no longer new, it is old. -/
theorem mix_tail {x N O : List UInt8} {T t : Nat} (hN : N.length = 64) (hO : O.length = 64) (hT : T ≤ 64) (hx : x = N.take T ++ O.drop T) (ht : t ≤ 64) (hend : t = 64 ∨ x.getD t 0 ≠ N.getD t 0) : x.drop t = O.drop t := by
  have hlen : (N.take T).length = T := by rw [List.length_take]; omega
  by_cases h : T ≤ t
  · rw [hx, List.drop_append, List.drop_of_length_le (by omega), hlen, List.drop_drop, List.nil_append]
    congr 1
    omega
  · rcases hend with h64 | hne
    · omega
    · exfalso
      apply hne
      rw [hx]
      simp only [List.getD_eq_getElem?_getD]
      rw [List.getElem?_append_left (by omega), List.getElem?_take, if_pos (by omega)]
end Go.Proofs.Ytdldclakkplliaa
