/- A disk and the document's disk, side by side: what they answer and show is the same. Plain; and what lasts on a path of steps. Conditions: none. -/
import Derived.Test.YtdldclakkplliaaRefCrash
namespace Go.Proofs.Ytdldclakkplliaa
set_option linter.unusedVariables false
set_option linter.unusedSimpArgs false
open Go.RowKit

def prW (s : Wr) : Int × List UInt8 := (s.at_, s.b)
structure Twin (d : DK) (r : RK) : Prop where
  n : d.n = r.n
  safe : ∀ i : Nat, i < d.n → secB (d.safe i) = secB (r.safe i)
  cache : d.cache.map prW = r.cache.map prW
  ops : d.ops = r.ops
  off : d.off = r.off
  pow : (d.cut = false ∧ r.left = -1) ∨ (d.cut = true ∧ r.left = d.left ∧ 0 ≤ d.left)
theorem Twin.len {d : DK} {r : RK} (h : Twin d r) : d.cache.length = r.cache.length := by
  have := congrArg List.length h.cache
  simpa using this
theorem Twin.fits {d : DK} {r : RK} {a : Nat} (h : Twin d r) (hf : d.fits a) : r.fits a := by
  obtain ⟨h1, h2, h3, h4, h5⟩ := hf
  have h6 := h.len
  have h7 := h.ops
  refine ⟨?_, ?_, by omega, by omega, by omega⟩
  · rcases h.pow with ⟨_, h8⟩ | ⟨_, h8, h9⟩ <;> omega
  · rcases h.pow with ⟨_, h8⟩ | ⟨_, h8, h9⟩ <;> omega
theorem twin_new (n : Nat) : Twin (newDK n) (newRK n) := ⟨rfl, fun _ _ => rfl, rfl, rfl, rfl, .inl ⟨rfl, rfl⟩⟩
theorem twin_act {d : DK} {r : RK} (h : Twin d r) : (askedK d).2 = (ractK r).2 ∧ Twin (askedK d).1 (ractK r).1 := by
  obtain ⟨h1, h2, h3, h4, h5, h6⟩ := h
  unfold askedK ractK
  by_cases ho : d.off = true
  · have ho2 : r.off = true := h5 ▸ ho
    rw [if_pos (by simp [ho]), if_pos (by simp [ho2])]
    exact ⟨rfl, ⟨h1, h2, h3, by show d.ops + 1 = r.ops + 1; omega, rfl, h6⟩⟩
  · have ho1 : d.off = false := by simpa using ho
    have ho2 : r.off = false := h5 ▸ ho1
    rcases h6 with ⟨h7, h8⟩ | ⟨h7, h8, h9⟩
    · rw [if_neg (by simp [ho1, h7]), if_neg (by simp [ho2, h8])]
      exact ⟨rfl, ⟨h1, h2, h3, by show d.ops + 1 = r.ops + 1; omega, h5, .inl ⟨h7, by show (if 0 < r.left then r.left - 1 else r.left) = -1; rw [if_neg (by omega)]; exact h8⟩⟩⟩
    · by_cases hl : d.left = 0
      · rw [if_pos (by simp [h7, hl]), if_pos (by simp; omega)]
        exact ⟨rfl, ⟨h1, h2, h3, by show d.ops + 1 = r.ops + 1; omega, rfl, .inr ⟨h7, h8, h9⟩⟩⟩
      · rw [if_neg (by simp [ho1, hl]), if_neg (by simp [ho2]; omega)]
        exact ⟨rfl, ⟨h1, h2, h3, by show d.ops + 1 = r.ops + 1; omega, h5, .inr ⟨h7, by show (if 0 < r.left then r.left - 1 else r.left) = d.left - 1; rw [if_pos (by omega)]; omega, by show 0 ≤ d.left - 1; omega⟩⟩⟩
theorem twin_writeE {d : DK} {r : RK} (h : Twin d r) (i : Int) (l : Nat) : writeE d i l = rwriteE r i l := by
  unfold writeE rwriteE
  rw [(twin_act h).1, h.n]
theorem twin_write {d : DK} {r : RK} (h : Twin d r) (s s' : Wr) (h1 : s.at_ = s'.at_) (h2 : s.b = s'.b) : Twin (writeD d s) (rwriteD r s') := by
  unfold writeD rwriteD
  rw [twin_writeE h, h1, h2]
  have ha := (twin_act h).2
  split
  · refine ⟨ha.n, ha.safe, ?_, ha.ops, ha.off, ha.pow⟩
    show (d.cache ++ [s]).map prW = (r.cache ++ [s']).map prW
    rw [List.map_append, List.map_append, h.cache]
    simp [prW, h1, h2]
  · exact ha
theorem map_prW {ws ws' : List Wr} (h : ws.map prW = ws'.map prW) {j : Nat} {s : Wr} (hs : ws[j]? = some s) : ∃ s', ws'[j]? = some s' ∧ s.at_ = s'.at_ ∧ s.b = s'.b := by
  have h1 : (ws.map prW)[j]? = some (prW s) := by rw [List.getElem?_map, hs]; rfl
  rw [h, List.getElem?_map] at h1
  obtain ⟨s', h2, h3⟩ := Option.map_eq_some_iff.1 h1
  simp only [prW, Prod.mk.injEq] at h3
  exact ⟨s', h2, h3.1.symm, h3.2.symm⟩
theorem putAll_putS {ws ws' : List Wr} {f : Int → Option Wr} {g : Nat → Option Wr} {n : Nat} (h : ws.map prW = ws'.map prW) (hf : ∀ i : Nat, i < n → secB (f i) = secB (g i)) (hp : ∀ s ∈ ws, 0 ≤ s.at_) (i : Nat) (hi : i < n) : secB (putAll f ws i) = secB (putS g ws' i) := by
  induction ws generalizing ws' f g with
  | nil =>
    match ws', h with
    | [], _ => exact hf i hi
  | cons s ws ih =>
    match ws', h with
    | s' :: ws', h =>
      simp only [List.map_cons, List.cons.injEq, prW, Prod.mk.injEq] at h
      obtain ⟨⟨h1, h2⟩, h3⟩ := h
      have hs0 := hp s (List.mem_cons_self ..)
      refine ih (f := upd f s.at_ s) (g := updS g s'.at_.toNat (some s')) h3 (fun j hj => ?_) (fun q hq => hp q (List.mem_cons_of_mem _ hq))
      unfold upd updS
      by_cases hj2 : (j : Int) = s.at_
      · rw [if_pos hj2, if_pos (by omega)]
        exact h2
      · rw [if_neg hj2, if_neg (by omega)]
        exact hf j hj
theorem twin_flush {d : DK} {r : RK} (h : Twin d r) (hp : ∀ s ∈ d.cache, 0 ≤ s.at_) : Twin (flushD d) (rflushD r) := by
  unfold flushD rflushD
  rw [(twin_act h).1]
  have ha := (twin_act h).2
  split
  · refine ⟨ha.n, fun i hi => ?_, rfl, ha.ops, ha.off, ha.pow⟩
    rw [show ({ (askedK d).1 with safe := putAll d.safe d.cache, cache := [], m := d.m + d.cache.length } : DK).n = d.n from asked_n d] at hi
    exact putAll_putS h.cache h.safe hp i hi
  · exact ha
theorem twin_cut {d : DK} {r : RK} (h : Twin d r) (n : Int) : Twin (cutK d n) (rcutK r n) := by
  refine ⟨h.n, h.safe, h.cache, h.ops, h.off, .inr ⟨rfl, ?_, ?_⟩⟩
  · show max n 0 = if n < 0 then 0 else n
    split <;> omega
  · show 0 ≤ if n < 0 then 0 else n
    split <;> omega
theorem lastW_map {ws ws' : List Wr} (h : ws.map prW = ws'.map prW) (i : Int) : (lastW ws i).map (·.b) = (lastW ws' i).map (·.b) := by
  unfold lastW
  have h1 : ws.reverse.map prW = ws'.reverse.map prW := by rw [List.map_reverse, List.map_reverse, h]
  generalize ws.reverse = a at h1
  generalize ws'.reverse = b at h1
  induction a generalizing b with
  | nil =>
    match b, h1 with
    | [], _ => rfl
  | cons s a ih =>
    match b, h1 with
    | s' :: b, h1 =>
      simp only [List.map_cons, List.cons.injEq, prW, Prod.mk.injEq] at h1
      obtain ⟨⟨h2, h3⟩, h4⟩ := h1
      rw [List.find?_cons, List.find?_cons, h2]
      split
      · simp [h3]
      · exact ih b h4
theorem twin_read {d : DK} {r : RK} (h : Twin d r) (k : Nat) (hk : k < d.n) : readB d k = rreadB r k := by
  unfold readB rreadB readS rreadS
  have h1 := lastW_map h.cache (k : Int)
  cases e1 : lastW d.cache (k : Int) with
  | none =>
    cases e2 : lastW r.cache (k : Int) with
    | none => rw [Option.none_or, Option.none_or]; exact h.safe k hk
    | some t => rw [e1, e2] at h1; cases h1
  | some s =>
    cases e2 : lastW r.cache (k : Int) with
    | none => rw [e1, e2] at h1; cases h1
    | some t =>
      rw [e1, e2] at h1
      rw [Option.some_or, Option.some_or]
      have h2 : s.b = t.b := by simpa using h1
      exact h2
theorem elB_map {ws ws' : List Wr} (h : ws.map prW = ws'.map prW) (k : Nat) (hk : k < ws.length) : (elB ws k).at_ = (elB ws' k).at_ ∧ (elB ws k).b = (elB ws' k).b := by
  obtain ⟨s', h1, h2, h3⟩ := map_prW h (List.getElem?_eq_getElem hk)
  have e1 : elB ws k = ws[k] := by rw [elB, List.getD_eq_getElem?_getD, List.getElem?_eq_getElem hk]; rfl
  have e2 : elB ws' k = s' := by rw [elB, List.getD_eq_getElem?_getD, h1]; rfl
  rw [e1, e2]
  exact ⟨h2, h3⟩
theorem live_map (p0 : Int) {ws ws' : List Wr} (h : ws.map prW = ws'.map prW) (k : Nat) (hk : k ≤ ws.length) : (liveK p0 ws k).map prW = (liveK p0 ws' k).map prW := by
  induction k with
  | zero => rfl
  | succ k ih =>
    simp only [liveK, List.map_append]
    rw [ih (by omega)]
    have := elB_map h k (by omega)
    split
    · simp [prW, this.1, this.2]
    · rfl
theorem crash_map (tn : Int) (t : Nat) {f g : Int → List UInt8} {n : Nat} {ws ws' : List Wr} (h : ws.map prW = ws'.map prW) (hf : ∀ i : Nat, i < n → f i = g i) (hp : ∀ s ∈ ws, 0 ≤ s.at_ ∧ s.at_ < n) (m : Nat) (hm : m ≤ ws.length) (i : Nat) (hi : i < n) : crashB tn t f ws m i = crashB tn t g ws' m i := by
  induction m generalizing i with
  | zero => exact hf i hi
  | succ m ih =>
    simp only [crashB]
    have he := elB_map h m (by omega)
    have hmem : elB ws m ∈ ws := by
      rw [elB, List.getD_eq_getElem?_getD, List.getElem?_eq_getElem (by omega)]
      exact List.getElem_mem _
    have hb := hp _ hmem
    rw [← he.1, ← he.2]
    obtain ⟨j, hj⟩ : ∃ j : Nat, (elB ws m).at_ = (j : Int) := ⟨(elB ws m).at_.toNat, by omega⟩
    rw [hj]
    rw [ih (by omega) j (by omega), ih (by omega) i hi]
/-- Behind a crash. -/
theorem twin_crash {d : DK} {r : RK} (h : Twin d r) (hp : ∀ s ∈ d.cache, 0 ≤ s.at_ ∧ s.at_ < d.n) (ps : List Int) {f : Int → Option Wr} {g : Nat → Option Wr} {m : Nat}
    (hf : ∀ i, secB (f i) = crashB (tornK (pickK ps 1) (liveK (pickK ps 0) d.cache d.cache.length).length) (pickK ps 2 % 65).toNat (fun i => secB (d.safe i)) (liveK (pickK ps 0) d.cache d.cache.length) (liveK (pickK ps 0) d.cache d.cache.length).length i)
    (hg : ∀ i : Nat, secB (g i) = crashB (tornK (pickK ps 1) (liveK (pickK ps 0) r.cache r.cache.length).length) (pickK ps 2 % 65).toNat (fun i => secB (r.safe i.toNat)) (liveK (pickK ps 0) r.cache r.cache.length) (liveK (pickK ps 0) r.cache r.cache.length).length i) :
    Twin ⟨d.n, f, [], false, false, 0, 0, m⟩ (rcrashK r g) := by
  refine ⟨h.n, fun i hi => ?_, rfl, rfl, rfl, .inl ⟨rfl, rfl⟩⟩
  have hlm := live_map (pickK ps 0) h.cache d.cache.length (Nat.le_refl _)
  rw [h.len] at hlm
  have hll : (liveK (pickK ps 0) d.cache d.cache.length).length = (liveK (pickK ps 0) r.cache r.cache.length).length := by
    have := congrArg List.length hlm
    rw [h.len]
    simpa using this
  show secB (f (i : Int)) = secB (g i)
  rw [hf, hg, hll]
  refine crash_map (n := d.n) _ _ (by rw [h.len]; exact hlm) (fun j hj => by rw [h.safe j hj]; rfl) (fun s hs => hp s (liveK_mem (Nat.le_refl _) hs)) _ (by rw [← hll]; exact Nat.le_refl _) i hi

/-! ### a path of steps -/
inductive Path (J : Nat → Prop) (w : World) (col : Nat → Nat) : World → (Nat → Nat) → Prop
  | refl : Path J w col w col
  | step {w1 w2 : World} {c1 c2 : Nat → Nat} {j : Nat} : J j → Path J w col w1 c1 → Step j w1 c1 w2 c2 → Path J w col w2 c2
  | grow {w1 w2 : World} {c1 : Nat → Nat} : Path J w col w1 c1 → Below w1.heap.size w1 w2 → Path J w col w2 (paint w1 c1 (fun _ => 0))
theorem Path.trans {J : Nat → Prop} {w w1 w2 : World} {col c1 c2 : Nat → Nat} (h : Path J w col w1 c1) (k : Path J w1 c1 w2 c2) : Path J w col w2 c2 := by
  induction k with
  | refl => exact h
  | step hj _ s ih => exact .step hj ih s
  | grow _ hb ih => exact .grow ih hb
theorem Path.mono {J K : Nat → Prop} {w w1 : World} {col c1 : Nat → Nat} (h : Path J w col w1 c1) (hJ : ∀ j, J j → K j) : Path K w col w1 c1 := by
  induction h with
  | refl => exact .refl
  | step hj _ s ih => exact .step (hJ _ hj) ih s
  | grow _ hb ih => exact .grow ih hb
theorem Old.path {J : Nat → Prop} {w0 w w' : World} {col col' : Nat → Nat} (h : Old w0 w col) (p : Path J w col w' col') (hJ : ∀ j, J j → j ≠ 0) : Old w0 w' col' := by
  induction p with
  | refl => exact h
  | step hj _ s ih => exact ih.step s (hJ _ hj)
  | grow _ hb ih => exact ih.grow hb _
theorem DiskAt.path {J : Nat → Prop} {w w' : World} {col col' : Nat → Nat} {id gd mb : Nat} {d : DK} (h : DiskAt w col id gd mb d) (p : Path J w col w' col') (hJ : ∀ j, J j → j ≠ 0 ∧ j ≠ id) : DiskAt w' col' id gd mb d := by
  induction p with
  | refl => exact h
  | step hj _ s ih => exact ih.step s (hJ _ hj).2 (hJ _ hj).1
  | grow _ hb ih => exact ih.grow hb _
theorem RefAt.path {J : Nat → Prop} {w w' : World} {col col' : Nat → Nat} {id gm : Nat} {r : RK} (h : RefAt w col id gm r) (p : Path J w col w' col') (hJ : ∀ j, J j → j ≠ 0 ∧ j ≠ id) : RefAt w' col' id gm r := by
  induction p with
  | refl => exact h
  | step hj _ s ih => exact ih.step s (hJ _ hj).2 (hJ _ hj).1
  | grow _ hb ih => exact ih.grow hb _
theorem Path.zero {J : Nat → Prop} {w w' : World} {col col' : Nat → Nat} (p : Path J w col w' col') (hJ : ∀ j, J j → j ≠ 0) {k : Nat} (hk : k < w.heap.size) (hc : col k = 0) : w'.heap[k]? = w.heap[k]? ∧ col' k = 0 ∧ w.heap.size ≤ w'.heap.size := by
  induction p with
  | refl => exact ⟨rfl, hc, Nat.le_refl _⟩
  | step hj _ s ih =>
    obtain ⟨h1, h2, h3⟩ := ih
    exact ⟨(s.keeps.block k (by omega) (fun e => hJ _ hj (e.symm.trans h2))).trans h1, (s.same k (by omega)).trans h2, Nat.le_trans h3 s.keeps.size⟩
  | grow _ hb ih =>
    obtain ⟨h1, h2, h3⟩ := ih
    exact ⟨(hb.block k (by omega)).trans h1, (paint_old (by omega)).trans h2, Nat.le_trans h3 hb.size⟩
theorem Path.cells {J : Nat → Prop} {w w' : World} {col col' : Nat → Nat} (p : Path J w col w' col') (hJ : ∀ j, J j → j ≠ 0) {k : Nat} {o : Obj} (h : w.heap[k]? = some o) (hc : col k = 0) : w'.heap[k]? = some o :=
  (p.zero hJ (Array.getElem?_eq_some_iff.1 h).1 hc).1.trans h
end Go.Proofs.Ytdldclakkplliaa
