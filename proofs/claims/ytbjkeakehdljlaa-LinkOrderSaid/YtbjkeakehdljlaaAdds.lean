/- The walk of adds: a frame is let wait. Conditions: none. -/
import Derived.Test.YtbjkeakehdljlaaWalks
namespace Go.Proofs.Ytbjkeakehdljlaa
set_option linter.unusedVariables false
set_option linter.unusedSimpArgs false
open Go.RowKit

theorem row_set {w : World} {g j : Nat} {cs : Array Value} {t : TypeId} {fr : Nat × Nat} (v : Value) (h : w.heap[g]? = some (.cells cs t fr)) : (w.setCell ⟨g, j, none⟩ v).heap[g]? = some (.cells (cs.setIfInBounds j v) t fr) := by
  simp [World.setCell, Array.getElem?_modify, h]
theorem cell_alloc' (w : World) (cs : Array Value) (t : TypeId) (j : Nat) (v : Value) (h : cs.toList[j]? = some v) : (w.alloc (.cells cs t)).cell? ⟨w.heap.size, j, none⟩ = some v := by
  rw [cell_of_row _ _ j cs t (0, 0) (heap_alloc_new w _)]
  simpa using h
theorem info31 : ∃ z, (Try.prog.info? 31).map (fun i => (i.zero, i.size, i.bytes)) = some (some z, 3, 40) ∧ z.cells.size = 3 := ⟨_, rfl, by kernel_rfl⟩

noncomputable def G21 : Array Oper := regionOf Try.f21 2
theorem Gns : Region.noSelect G21 = true := by kernel_rfl

/-- What adds leaves behind: the frame stands at the end, with bytes of its own. -/
structure AddP (g : Nat) (last : Int) (v : Value) (ps : List P) (to : Int) (b : List UInt8) (w w' : World) : Prop where
  ex : ∃ v' Ab cb, w'.heap[g]? = some (.cells #[.int .i64 (last + 1), v'] 60 (0, 0)) ∧ w'.ownsRow 0 31 3 v' (ps.length + 1) (rowOf (ps ++ [⟨last + 1, to, b, Ab, cb⟩]))
    ∧ (v'.ownBlock = v.ownBlock ∨ ∃ k, v'.ownBlock = some k ∧ w.heap.size ≤ k) ∧ OB w' w.heap.size 5 (.slice Ab b.length cb) b ∧ (∀ k, v'.ownBlock = some k → ∀ ad, Ab = some ad → ad.block ≠ k)
  keeps : Keeps (fun k => k = g ∨ v.ownBlock = some k) w w'

theorem own_mono {w : World} {base base' : Nat} {e : TypeId} {size n : Nat} {v : Value} {xs : List Value} (h : w.ownsRow base e size v n xs) (hb : base' ≤ base) : w.ownsRow base' e size v n xs := by
  refine ⟨h.1, ?_⟩
  rcases h.2 with hn | ⟨g, cap, cur, rfl, hb2, rest⟩
  · exact .inl hn
  · exact .inr ⟨g, cap, cur, rfl, Nat.le_trans hb hb2, rest⟩
theorem rows_apart {V w2 : World} {v u : Value} {n : Nat} {xs : List Value} {b : List UInt8} (h : OB w2 V.heap.size 5 u b) (ho : V.ownsRow 0 31 3 v n xs) : u.ownBlock = none ∨ u.ownBlock ≠ v.ownBlock := by
  cases hk : u.ownBlock with
  | none => exact .inl rfl
  | some k =>
    right
    intro e
    have h1 := h.base_ k hk
    have h2 := (ho.lt k e.symm).2
    omega
theorem adds_fin {g : Nat} {last : Int} {v : Value} {ps : List P} {to : Int} {b : List UInt8} {w V w2 w3 : World} {A1 Ab : Option Addr} {c1 cb n : Nat}
    (hv : ∀ k, v.ownBlock = some k → k ≠ g) (hgl : g < V.heap.size) (hsw : w.heap.size ≤ V.heap.size) (hs2 : V.heap.size ≤ w2.heap.size) (hs3 : w2.heap.size ≤ w3.heap.size) (ho2 : V.ownsRow 0 31 3 v ps.length (rowOf ps)) (hg4 : w3.heap[g]? = some (.cells #[.int .i64 (last + 1), v] 60 (0, 0)))
    (hob2 : OB w2 V.heap.size 5 (.slice Ab b.length cb) b) (hob : OB w3 V.heap.size 5 (.slice Ab b.length cb) b)
    (hn : n = ps.length + 1) (ho4 : w3.ownsRow 0 31 3 (.slice A1 n c1) (ps ++ [(⟨last + 1, to, b, Ab, cb⟩ : P)]).length (rowOf (ps ++ [(⟨last + 1, to, b, Ab, cb⟩ : P)])))
    (hv3 : (Value.slice A1 n c1).ownBlock = v.ownBlock ∨ (Value.slice A1 n c1).ownBlock = some (w2.heap.size + 1))
    (hk4 : Keeps (fun k => k = g ∨ v.ownBlock = some k) w w3) : AddP g last v ps to b w (w3.setCell ⟨g, 1, none⟩ (.slice A1 n c1)) := by
  subst hn
  have hng : ∀ k, (Value.slice A1 (ps.length + 1) c1).ownBlock = some k → k ≠ g := by
    intro k e
    rcases hv3 with h | h
    · exact hv k (h.symm.trans e)
    · rw [h] at e
      cases e
      omega
  refine ⟨⟨_, Ab, cb, row_set (j := 1) _ hg4, ?_, ?_, ?_, ?_⟩, hk4.setCell (.inl (.inl rfl)) _⟩
  · rw [List.length_append] at ho4
    exact own_keep ho4 fun k hk => Below.heap_setCell w3 ⟨g, 1, none⟩ _ k (hng k hk)
  · rcases hv3 with h | h
    · exact .inl h
    · exact .inr ⟨_, h, by omega⟩
  · have h1 : OB (w3.setCell ⟨g, 1, none⟩ (.slice A1 (ps.length + 1) c1)) V.heap.size 5 (.slice Ab b.length cb) b := OB.mk' (own_keep hob.row fun k hk => Below.heap_setCell w3 ⟨g, 1, none⟩ _ k (by have := hob.base_ k hk; show k ≠ g; omega))
    exact OB.mk' (own_mono h1.row hsw)
  · intro k hk ad e
    subst e
    have h1 := hob2.base_ ad.block rfl
    have h2 := (hob2.row.lt ad.block rfl).2
    rcases hv3 with h | h
    · have := (ho2.lt k (h.symm.trans hk)).2
      omega
    · rw [h] at hk
      cases hk
      omega

set_option maxHeartbeats 2000000 in
theorem adds_any (g : Nat) (last : Int) (v : Value) (ps : List P) (to : Int) (A : Option Addr) (c : Nat) (b : List UInt8) (w : World)
    (hg : w.heap[g]? = some (.cells #[.int .i64 last, v] 60 (0, 0))) (hown : w.ownsRow 0 31 3 v ps.length (rowOf ps)) (hv : ∀ k, v.ownBlock = some k → k ≠ g)
    (hr : RB w A b) (hrg : 0 < b.length → ∀ ad, A = some ad → ad.block ≠ g) (hc : SV A b.length c) (hb : b.length ≤ 140737488355328) (hps : ps.length ≤ 1000000) (hl0 : 0 ≤ last) (hl : last ≤ 1000000) :
    Calls Try.prog 21 #[.pointer (some ⟨g, 0, none⟩), .int .i64 to, .slice A b.length c] w fun e w' => e = .returned (.int .i64 (last + 1)) ∧ AddP g last v ps to b w w' := by
  have hc0 : w.cell? ⟨g, 0, none⟩ = some (.int .i64 last) := by rw [cell_of_row w g 0 _ 60 (0, 0) hg]; rfl
  have hf0 : w.frozen? ⟨g, 0, none⟩ = false := frozen_of_row w g 0 _ _ hg
  have hwr : wrap64 (last + 1) = last + 1 := by unfold wrap64; omega
  have hg1 := row_set (j := 0) (.int .i64 (last + 1)) hg
  have hk1 : Keeps (fun k => k = g ∨ v.ownBlock = some k) w (w.setCell ⟨g, 0, none⟩ (.int .i64 (last + 1))) := (Keeps.refl _ _).setCell (.inl (.inl rfl)) _
  have ho1 : (w.setCell ⟨g, 0, none⟩ (.int .i64 (last + 1))).ownsRow 0 31 3 v ps.length (rowOf ps) := own_keep hown fun k hk => Below.heap_setCell w ⟨g, 0, none⟩ _ k (hv k hk)
  have hr1 : RB (w.setCell ⟨g, 0, none⟩ (.int .i64 (last + 1))) A b := hr.keep fun hp ad e => Below.heap_setCell w ⟨g, 0, none⟩ _ _ (hrg hp ad e)
  have HC := Lib.hid hc
  have HG1 := Lib.hid hg1
  have HK1 := Lib.hid hk1
  have HO1 := Lib.hid ho1
  have HR1 := Lib.hid hr1
  clear hg1 hk1 ho1 hr1 hr hc hown hg
  go_enter Try.func21, Try.ntmps21
  go_wp2_with fail
  generalize hW : w.setCell ⟨g, 0, none⟩ (.int .i64 (last + 1)) = W at *
  have hgl : g < W.heap.size := (Array.getElem?_eq_some_iff.1 HG1.out).1
  have HGL := Lib.hid hgl
  have hcl0 : W.drew.cell? ⟨g, 0, none⟩ = some (.int .i64 (last + 1)) := by have := cell_of_row W g 0 _ 60 (0, 0) HG1.out; exact this
  have hcl1 : W.drew.cell? ⟨g, 1, none⟩ = some v := by have := cell_of_row W g 1 _ 60 (0, 0) HG1.out; exact this
  clear hW hgl hc0 hf0 hwr
  refine region_const (G := G21) (S := fun _ => True) (n := 18) (by kernel_rfl) (by kernel_rfl) rfl trivial (fun HG _ => ?_)
  have HG2 : Hid (W.drew.heap[g]? = some (.cells #[.int .i64 (last + 1), v] 60 (0, 0))) := HG1
  have HK2 : Hid (Keeps (fun k => k = g ∨ v.ownBlock = some k) w W.drew) := HK1.out.drew
  have HO2 : Hid (W.drew.ownsRow 0 31 3 v ps.length (rowOf ps)) := HO1
  have HR2 : Hid (RB W.drew A b) := HR1.out.drew
  have HGL2 : Hid (g < W.drew.heap.size) := HGL
  have HSW : Hid (w.heap.size ≤ W.drew.heap.size) := HK2.out.size
  clear HG1 HK1 HO1 HR1 HGL
  generalize W.drew = V at *
  simp only [Array.replicate_succ, Array.replicate_zero, List.push_toArray, List.nil_append, List.cons_append]
  refine wpAnyH_take (i := 0) (v := ?_) (o_at HG 0 rfl) Gns (by kernel_rfl) (by kernel_rfl) (fun _ _ _ h => h) (Or.inl ⟨(by kernel_rfl), ?_⟩) (by first | trivial | assumption) ?_
  rotate_left
  · (intro w hSw; (try dsimp only at hSw); go_simp; try with_reducible rfl)
  try simp only [Act.put, List.getElem_toArray, List.getElem_cons_zero, List.getElem_cons_succ, List.setIfInBounds_toArray, List.set_cons_zero, List.set_cons_succ]
  refine wpAnyH_take (i := 1) (v := ?_) (o_at HG 1 rfl) Gns (by kernel_rfl) (by kernel_rfl) (fun _ _ _ h => h) (Or.inl ⟨(by kernel_rfl), ?_⟩) (by first | trivial | assumption) ?_
  rotate_left
  · (intro w hSw; (try dsimp only at hSw); go_simp; try with_reducible rfl)
  try simp only [Act.put, List.getElem_toArray, List.getElem_cons_zero, List.getElem_cons_succ, List.setIfInBounds_toArray, List.set_cons_zero, List.set_cons_succ]
  refine wpAnyH_take (i := 2) (v := ?_) (o_at HG 2 rfl) Gns (by kernel_rfl) (by kernel_rfl) (fun _ _ _ h => h) (Or.inl ⟨(by kernel_rfl), ?_⟩) (by first | trivial | assumption) ?_
  rotate_left
  · (intro w hSw; (try dsimp only at hSw); go_simp; try with_reducible rfl)
  try simp only [Act.put, List.getElem_toArray, List.getElem_cons_zero, List.getElem_cons_succ, List.setIfInBounds_toArray, List.set_cons_zero, List.set_cons_succ]
  refine wpAnyH_take (i := 3) (v := ?_) (o_at HG 3 rfl) Gns (by kernel_rfl) (by kernel_rfl) (fun _ _ _ h => h) (Or.inl ⟨(by kernel_rfl), ?_⟩) (by first | trivial | assumption) ?_
  rotate_left
  · (intro w hSw; (try dsimp only at hSw); go_simp; try with_reducible rfl)
  try simp only [Act.put, List.getElem_toArray, List.getElem_cons_zero, List.getElem_cons_succ, List.setIfInBounds_toArray, List.set_cons_zero, List.set_cons_succ]
  refine wpAnyH_take (i := 5) (v := ?_) (o_at HG 5 rfl) Gns (by kernel_rfl) (by kernel_rfl) (fun _ _ _ h => h) (Or.inl ⟨(by kernel_rfl), ?_⟩) (by first | trivial | assumption) ?_
  rotate_left
  · (intro w hSw; (try dsimp only at hSw); go_simp; try with_reducible rfl)
  try simp only [Act.put, List.getElem_toArray, List.getElem_cons_zero, List.getElem_cons_succ, List.setIfInBounds_toArray, List.set_cons_zero, List.set_cons_succ]
  refine wpAnyH_take (i := 6) (v := ?_) (o_at HG 6 rfl) Gns (by kernel_rfl) (by kernel_rfl) (fun _ _ _ h => h) (Or.inl ⟨(by kernel_rfl), ?_⟩) (by first | trivial | assumption) ?_
  rotate_left
  · (intro w hSw; (try dsimp only at hSw); go_simp; try with_reducible rfl)
  try simp only [Act.put, List.getElem_toArray, List.getElem_cons_zero, List.getElem_cons_succ, List.setIfInBounds_toArray, List.set_cons_zero, List.set_cons_succ]
  refine wpAnyH_take (i := 7) (v := ?_) (o_at HG 7 rfl) Gns (by kernel_rfl) (by kernel_rfl) (fun _ _ _ h => h) (Or.inl ⟨(by kernel_rfl), ?_⟩) (by first | trivial | assumption) ?_
  rotate_left
  · (intro w hSw; (try dsimp only at hSw); go_simp; try with_reducible rfl)
  try simp only [Act.put, List.getElem_toArray, List.getElem_cons_zero, List.getElem_cons_succ, List.setIfInBounds_toArray, List.set_cons_zero, List.set_cons_succ]
  refine wpAnyH_take (i := 9) (v := ?_) (o_at HG 9 rfl) Gns (by kernel_rfl) (by kernel_rfl) (fun _ _ _ h => h) (Or.inl ⟨(by kernel_rfl), ?_⟩) (by first | trivial | assumption) ?_
  rotate_left
  · (intro w hSw; (try dsimp only at hSw); go_simp; try with_reducible rfl)
  try simp only [Act.put, List.getElem_toArray, List.getElem_cons_zero, List.getElem_cons_succ, List.setIfInBounds_toArray, List.set_cons_zero, List.set_cons_succ]
  refine wpAnyH_take (i := 10) (v := ?_) (o_at HG 10 rfl) Gns (by kernel_rfl) (by kernel_rfl) (fun _ _ _ h => h) (Or.inl ⟨(by kernel_rfl), ?_⟩) (by first | trivial | assumption) ?_
  rotate_left
  · (intro w hSw; (try dsimp only at hSw); go_simp; try with_reducible rfl)
  try simp only [Act.put, List.getElem_toArray, List.getElem_cons_zero, List.getElem_cons_succ, List.setIfInBounds_toArray, List.set_cons_zero, List.set_cons_succ]
  refine wpAnyH_ready (rs := [4, 8, 11]) (by kernel_rfl) (by simp) ?_
  refine AllReadyH.cons (o_at HG 4 rfl) ?_ (AllReadyH.cons (o_at HG 8 rfl) ?_ (AllReadyH.cons (o_at HG 11 rfl) ?_ (AllReadyH.nil)))
  · intro K' hK
    rw [if_pos (by kernel_rfl)]
    go_simp
    refine hK.out _ _ trivial (fun _ => ?_)
    try simp only [Act.put, List.getElem_toArray, List.getElem_cons_zero, List.getElem_cons_succ, List.setIfInBounds_toArray, List.set_cons_zero, List.set_cons_succ]
    refine wpAnyH_ready (rs := [8, 11]) (by kernel_rfl) (by simp) ?_
    refine AllReadyH.cons (o_at HG 8 rfl) ?_ (AllReadyH.cons (o_at HG 11 rfl) ?_ (AllReadyH.nil))
    · intro K' hK
      rw [if_pos (by kernel_rfl)]
      go_simp
      refine hK.out _ _ trivial (fun _ => ?_)
      try simp only [Act.put, List.getElem_toArray, List.getElem_cons_zero, List.getElem_cons_succ, List.setIfInBounds_toArray, List.set_cons_zero, List.set_cons_succ]
      refine wpAnyH_ready (rs := [11]) (by kernel_rfl) (by simp) ?_
      refine AllReadyH.cons (o_at HG 11 rfl) ?_ (AllReadyH.nil)
      · intro K' hK
        rw [if_pos (by kernel_rfl)]
        go_simp
        (with_reducible refine (clone_any _ _ b _ HR2.out HC.out hb).mono ?_)
        rintro e w2 ⟨vb, rfl, hob, hbel⟩
        obtain ⟨Ab, cb, rfl, hsvb, hrbb⟩ := hob.reads
        have HO3 : Hid (w2.ownsRow 0 31 3 v ps.length (rowOf ps)) := own_keep HO2.out fun k hk => hbel.block k (HO2.out.lt k hk).2
        have HG3 : Hid (w2.heap[g]? = some (.cells #[.int .i64 (last + 1), v] 60 (0, 0))) := (hbel.block g HGL2.out).trans HG2.out
        have HK3 : Hid (Keeps (fun k => k = g ∨ v.ownBlock = some k) w w2) := HK2.out.below hbel
        have hs2 : V.heap.size ≤ w2.heap.size := hbel.size
        have HS2 := Lib.hid hs2
        have HOB := Lib.hid hob
        have hd0 : w2.cell? ⟨g, 0, none⟩ = some (.int .i64 (last + 1)) := by rw [cell_of_row w2 g 0 _ 60 (0, 0) HG3.out]; rfl
        have hd1 : w2.cell? ⟨g, 1, none⟩ = some v := by rw [cell_of_row w2 g 1 _ 60 (0, 0) HG3.out]; rfl
        have hd2 : (w2.alloc (.cells #[.int .i64 (last + 1), .int .i64 to, .slice Ab b.length cb] 31)).cell? ⟨g, 1, none⟩ = some v := (World.cell?_of_block (Below.heap_alloc w2 _ g (by have := HGL2.out; omega))).trans hd1
        clear hob hbel hsvb hrbb hs2
        refine hK.out _ _ trivial (fun _ => ?_)
        try simp only [Act.put, List.getElem_toArray, List.getElem_cons_zero, List.getElem_cons_succ, List.setIfInBounds_toArray, List.set_cons_zero, List.set_cons_succ]
        refine wpAnyH_take (i := 12) (v := ?_) (o_at HG 12 rfl) Gns (by kernel_rfl) (by kernel_rfl) (fun _ _ _ h => h) (Or.inl ⟨(by kernel_rfl), ?_⟩) (by first | trivial | assumption) ?_
        rotate_left
        · (intro w hSw; (try dsimp only at hSw); go_simp; try with_reducible rfl)
        try simp only [Act.put, List.getElem_toArray, List.getElem_cons_zero, List.getElem_cons_succ, List.setIfInBounds_toArray, List.set_cons_zero, List.set_cons_succ]
        refine wpAnyH_ready (rs := [13]) (by kernel_rfl) (by simp) ?_
        refine AllReadyH.cons (o_at HG 13 rfl) ?_ (AllReadyH.nil)
        · intro K' hK
          rw [if_pos (by kernel_rfl)]
          go_simp
          refine hK.out _ _ trivial (fun _ => ?_)
          try simp only [Act.put, List.getElem_toArray, List.getElem_cons_zero, List.getElem_cons_succ, List.setIfInBounds_toArray, List.set_cons_zero, List.set_cons_succ]
          refine wpAnyH_ready (rs := [14]) (by kernel_rfl) (by simp) ?_
          refine AllReadyH.cons (o_at HG 14 rfl) ?_ (AllReadyH.nil)
          · intro K' hK
            obtain ⟨z31, hz31, hzs31⟩ := info31
            refine step_app (by kernel_rfl) _ _ 34 rfl 0 31 z31 3 40 Try.underlying34 hz31 hzs31 (by decide) v ps.length (rowOf ps) rfl (own_keep HO3.out fun k hk => Below.heap_alloc w2 _ k (HO3.out.lt k hk).2) _ 1 _ [.int .i64 (last + 1), .int .i64 to, .slice Ab b.length cb] rfl rfl ?_ ?_ ?_ ?_ ?_ (Nat.zero_le _) ?_
            · intro e; cases e
            · intro _; exact ⟨_, rfl, fun j u hu => by rw [add0]; exact cell_alloc' w2 _ 31 j u hu⟩
            · intro u hu; simp only [List.mem_cons, List.not_mem_nil, or_false] at hu; rcases hu with rfl | rfl | rfl <;> rfl
            · unfold maxLen; omega
            · omega
            intro v1 w3 ho3 hg3 hv3
            have hsz3 : w2.heap.size + 1 ≤ w3.heap.size := by have := hg3.size; simpa using this
            have HG4 : Hid (w3.heap[g]? = some (.cells #[.int .i64 (last + 1), v] 60 (0, 0))) := (hg3.block g (by have := HGL2.out; have := HS2.out; simp; omega) (fun e => hv g e.symm rfl)).trans ((Below.heap_alloc w2 _ g (by have := HGL2.out; have := HS2.out; omega)).trans HG3.out)
            have HK4 : Hid (Keeps (fun k => k = g ∨ v.ownBlock = some k) w w3) := (HK3.out.alloc _).grown hg3 (fun k e => .inl (.inr e))
            have HOB4 : Hid (OB w3 V.heap.size 5 (.slice Ab b.length cb) b) := (HOB.out.kept (grown_of_below ((Below.refl _ _).alloc (Nat.le_refl _) _) none) (by cases Value.ownBlock _ <;> simp)).kept hg3 (rows_apart HOB.out HO2.out)
            have ho4 : w3.ownsRow 0 31 3 v1 (ps ++ [(⟨last + 1, to, b, Ab, cb⟩ : P)]).length (rowOf (ps ++ [(⟨last + 1, to, b, Ab, cb⟩ : P)])) := by rw [rowOf_append, List.length_append]; exact ho3
            obtain ⟨A1, c1, hv1, -⟩ := own_FR ho4
            rw [show (ps ++ [(⟨last + 1, to, b, Ab, cb⟩ : P)]).length = ps.length + 1 from by simp] at hv1
            subst hv1
            have HO4 := Lib.hid ho4
            have HS3 : Hid (w2.heap.size ≤ w3.heap.size) := by have := hsz3; show _ ≤ _; omega
            have HV3 : Hid ((Value.slice A1 (ps.length + 1) c1).ownBlock = v.ownBlock ∨ (Value.slice A1 (ps.length + 1) c1).ownBlock = some (w2.heap.size + 1)) := Lib.hid (by simpa using hv3)
            have hf4 : w3.frozen? ⟨g, 1, none⟩ = false := frozen_of_row w3 g 1 _ _ HG4.out
            have hc4 : w3.cell? ⟨g, 1, none⟩ = some v := by rw [cell_of_row w3 g 1 _ 60 (0, 0) HG4.out]; rfl
            clear ho3 ho4 hg3 hv3 hsz3
            refine hK.out _ _ trivial (fun _ => ?_)
            try simp only [Act.put, List.getElem_toArray, List.getElem_cons_zero, List.getElem_cons_succ, List.setIfInBounds_toArray, List.set_cons_zero, List.set_cons_succ]
            refine wpAnyH_take (i := 15) (v := ?_) (o_at HG 15 rfl) Gns (by kernel_rfl) (by kernel_rfl) (fun _ _ _ h => h) (Or.inl ⟨(by kernel_rfl), ?_⟩) (by first | trivial | assumption) ?_
            rotate_left
            · (intro w hSw; (try dsimp only at hSw); go_simp; try with_reducible rfl)
            try simp only [Act.put, List.getElem_toArray, List.getElem_cons_zero, List.getElem_cons_succ, List.setIfInBounds_toArray, List.set_cons_zero, List.set_cons_succ]
            refine wpAnyH_take (i := 16) (v := ?_) (o_at HG 16 rfl) Gns (by kernel_rfl) (by kernel_rfl) (fun _ _ _ h => h) (Or.inl ⟨(by kernel_rfl), ?_⟩) (by first | trivial | assumption) ?_
            rotate_left
            · (intro w hSw; (try dsimp only at hSw); go_simp; try with_reducible rfl)
            try simp only [Act.put, List.getElem_toArray, List.getElem_cons_zero, List.getElem_cons_succ, List.setIfInBounds_toArray, List.set_cons_zero, List.set_cons_succ]
            refine wpAnyH_ready (rs := [17]) (by kernel_rfl) (by simp) ?_
            refine AllReadyH.cons (o_at HG 17 rfl) ?_ (AllReadyH.nil)
            · intro K' hK
              rw [if_pos (by kernel_rfl)]
              go_simp
              refine hK.out _ _ trivial (fun _ => ?_)
              try simp only [Act.put, List.getElem_toArray, List.getElem_cons_zero, List.getElem_cons_succ, List.setIfInBounds_toArray, List.set_cons_zero, List.set_cons_succ]
              refine wpAnyH_done (by kernel_rfl) ?_ _
              have hfin := row_set (j := 1) (.slice A1 (ps.length + 1) c1) HG4.out
              have hq : (w3.setCell ⟨g, 1, none⟩ (.slice A1 (ps.length + 1) c1)).cell? ⟨g, 0, none⟩ = some (.int .i64 (last + 1)) := by rw [cell_of_row _ g 0 _ 60 (0, 0) hfin]; rfl
              have HFIN := Lib.hid hfin
              clear hfin
              go_wp2
              go_ret
              exact ⟨rfl, adds_fin hv HGL2.out HSW.out HS2.out HS3.out HO2.out HG4.out HOB.out HOB4.out rfl HO4.out HV3.out HK4.out⟩
    · intro K' hK
      rw [if_pos (by kernel_rfl)]
      go_simp
      (with_reducible refine (clone_any _ _ b _ HR2.out HC.out hb).mono ?_)
      rintro e w2 ⟨vb, rfl, hob, hbel⟩
      obtain ⟨Ab, cb, rfl, hsvb, hrbb⟩ := hob.reads
      have HO3 : Hid (w2.ownsRow 0 31 3 v ps.length (rowOf ps)) := own_keep HO2.out fun k hk => hbel.block k (HO2.out.lt k hk).2
      have HG3 : Hid (w2.heap[g]? = some (.cells #[.int .i64 (last + 1), v] 60 (0, 0))) := (hbel.block g HGL2.out).trans HG2.out
      have HK3 : Hid (Keeps (fun k => k = g ∨ v.ownBlock = some k) w w2) := HK2.out.below hbel
      have hs2 : V.heap.size ≤ w2.heap.size := hbel.size
      have HS2 := Lib.hid hs2
      have HOB := Lib.hid hob
      have hd0 : w2.cell? ⟨g, 0, none⟩ = some (.int .i64 (last + 1)) := by rw [cell_of_row w2 g 0 _ 60 (0, 0) HG3.out]; rfl
      have hd1 : w2.cell? ⟨g, 1, none⟩ = some v := by rw [cell_of_row w2 g 1 _ 60 (0, 0) HG3.out]; rfl
      have hd2 : (w2.alloc (.cells #[.int .i64 (last + 1), .int .i64 to, .slice Ab b.length cb] 31)).cell? ⟨g, 1, none⟩ = some v := (World.cell?_of_block (Below.heap_alloc w2 _ g (by have := HGL2.out; omega))).trans hd1
      clear hob hbel hsvb hrbb hs2
      refine hK.out _ _ trivial (fun _ => ?_)
      try simp only [Act.put, List.getElem_toArray, List.getElem_cons_zero, List.getElem_cons_succ, List.setIfInBounds_toArray, List.set_cons_zero, List.set_cons_succ]
      refine wpAnyH_ready (rs := [8]) (by kernel_rfl) (by simp) ?_
      refine AllReadyH.cons (o_at HG 8 rfl) ?_ (AllReadyH.nil)
      · intro K' hK
        rw [if_pos (by kernel_rfl)]
        go_simp
        refine hK.out _ _ trivial (fun _ => ?_)
        try simp only [Act.put, List.getElem_toArray, List.getElem_cons_zero, List.getElem_cons_succ, List.setIfInBounds_toArray, List.set_cons_zero, List.set_cons_succ]
        refine wpAnyH_take (i := 12) (v := ?_) (o_at HG 12 rfl) Gns (by kernel_rfl) (by kernel_rfl) (fun _ _ _ h => h) (Or.inl ⟨(by kernel_rfl), ?_⟩) (by first | trivial | assumption) ?_
        rotate_left
        · (intro w hSw; (try dsimp only at hSw); go_simp; try with_reducible rfl)
        try simp only [Act.put, List.getElem_toArray, List.getElem_cons_zero, List.getElem_cons_succ, List.setIfInBounds_toArray, List.set_cons_zero, List.set_cons_succ]
        refine wpAnyH_ready (rs := [13]) (by kernel_rfl) (by simp) ?_
        refine AllReadyH.cons (o_at HG 13 rfl) ?_ (AllReadyH.nil)
        · intro K' hK
          rw [if_pos (by kernel_rfl)]
          go_simp
          refine hK.out _ _ trivial (fun _ => ?_)
          try simp only [Act.put, List.getElem_toArray, List.getElem_cons_zero, List.getElem_cons_succ, List.setIfInBounds_toArray, List.set_cons_zero, List.set_cons_succ]
          refine wpAnyH_ready (rs := [14]) (by kernel_rfl) (by simp) ?_
          refine AllReadyH.cons (o_at HG 14 rfl) ?_ (AllReadyH.nil)
          · intro K' hK
            obtain ⟨z31, hz31, hzs31⟩ := info31
            refine step_app (by kernel_rfl) _ _ 34 rfl 0 31 z31 3 40 Try.underlying34 hz31 hzs31 (by decide) v ps.length (rowOf ps) rfl (own_keep HO3.out fun k hk => Below.heap_alloc w2 _ k (HO3.out.lt k hk).2) _ 1 _ [.int .i64 (last + 1), .int .i64 to, .slice Ab b.length cb] rfl rfl ?_ ?_ ?_ ?_ ?_ (Nat.zero_le _) ?_
            · intro e; cases e
            · intro _; exact ⟨_, rfl, fun j u hu => by rw [add0]; exact cell_alloc' w2 _ 31 j u hu⟩
            · intro u hu; simp only [List.mem_cons, List.not_mem_nil, or_false] at hu; rcases hu with rfl | rfl | rfl <;> rfl
            · unfold maxLen; omega
            · omega
            intro v1 w3 ho3 hg3 hv3
            have hsz3 : w2.heap.size + 1 ≤ w3.heap.size := by have := hg3.size; simpa using this
            have HG4 : Hid (w3.heap[g]? = some (.cells #[.int .i64 (last + 1), v] 60 (0, 0))) := (hg3.block g (by have := HGL2.out; have := HS2.out; simp; omega) (fun e => hv g e.symm rfl)).trans ((Below.heap_alloc w2 _ g (by have := HGL2.out; have := HS2.out; omega)).trans HG3.out)
            have HK4 : Hid (Keeps (fun k => k = g ∨ v.ownBlock = some k) w w3) := (HK3.out.alloc _).grown hg3 (fun k e => .inl (.inr e))
            have HOB4 : Hid (OB w3 V.heap.size 5 (.slice Ab b.length cb) b) := (HOB.out.kept (grown_of_below ((Below.refl _ _).alloc (Nat.le_refl _) _) none) (by cases Value.ownBlock _ <;> simp)).kept hg3 (rows_apart HOB.out HO2.out)
            have ho4 : w3.ownsRow 0 31 3 v1 (ps ++ [(⟨last + 1, to, b, Ab, cb⟩ : P)]).length (rowOf (ps ++ [(⟨last + 1, to, b, Ab, cb⟩ : P)])) := by rw [rowOf_append, List.length_append]; exact ho3
            obtain ⟨A1, c1, hv1, -⟩ := own_FR ho4
            rw [show (ps ++ [(⟨last + 1, to, b, Ab, cb⟩ : P)]).length = ps.length + 1 from by simp] at hv1
            subst hv1
            have HO4 := Lib.hid ho4
            have HS3 : Hid (w2.heap.size ≤ w3.heap.size) := by have := hsz3; show _ ≤ _; omega
            have HV3 : Hid ((Value.slice A1 (ps.length + 1) c1).ownBlock = v.ownBlock ∨ (Value.slice A1 (ps.length + 1) c1).ownBlock = some (w2.heap.size + 1)) := Lib.hid (by simpa using hv3)
            have hf4 : w3.frozen? ⟨g, 1, none⟩ = false := frozen_of_row w3 g 1 _ _ HG4.out
            have hc4 : w3.cell? ⟨g, 1, none⟩ = some v := by rw [cell_of_row w3 g 1 _ 60 (0, 0) HG4.out]; rfl
            clear ho3 ho4 hg3 hv3 hsz3
            refine hK.out _ _ trivial (fun _ => ?_)
            try simp only [Act.put, List.getElem_toArray, List.getElem_cons_zero, List.getElem_cons_succ, List.setIfInBounds_toArray, List.set_cons_zero, List.set_cons_succ]
            refine wpAnyH_take (i := 15) (v := ?_) (o_at HG 15 rfl) Gns (by kernel_rfl) (by kernel_rfl) (fun _ _ _ h => h) (Or.inl ⟨(by kernel_rfl), ?_⟩) (by first | trivial | assumption) ?_
            rotate_left
            · (intro w hSw; (try dsimp only at hSw); go_simp; try with_reducible rfl)
            try simp only [Act.put, List.getElem_toArray, List.getElem_cons_zero, List.getElem_cons_succ, List.setIfInBounds_toArray, List.set_cons_zero, List.set_cons_succ]
            refine wpAnyH_take (i := 16) (v := ?_) (o_at HG 16 rfl) Gns (by kernel_rfl) (by kernel_rfl) (fun _ _ _ h => h) (Or.inl ⟨(by kernel_rfl), ?_⟩) (by first | trivial | assumption) ?_
            rotate_left
            · (intro w hSw; (try dsimp only at hSw); go_simp; try with_reducible rfl)
            try simp only [Act.put, List.getElem_toArray, List.getElem_cons_zero, List.getElem_cons_succ, List.setIfInBounds_toArray, List.set_cons_zero, List.set_cons_succ]
            refine wpAnyH_ready (rs := [17]) (by kernel_rfl) (by simp) ?_
            refine AllReadyH.cons (o_at HG 17 rfl) ?_ (AllReadyH.nil)
            · intro K' hK
              rw [if_pos (by kernel_rfl)]
              go_simp
              refine hK.out _ _ trivial (fun _ => ?_)
              try simp only [Act.put, List.getElem_toArray, List.getElem_cons_zero, List.getElem_cons_succ, List.setIfInBounds_toArray, List.set_cons_zero, List.set_cons_succ]
              refine wpAnyH_done (by kernel_rfl) ?_ _
              have hfin := row_set (j := 1) (.slice A1 (ps.length + 1) c1) HG4.out
              have hq : (w3.setCell ⟨g, 1, none⟩ (.slice A1 (ps.length + 1) c1)).cell? ⟨g, 0, none⟩ = some (.int .i64 (last + 1)) := by rw [cell_of_row _ g 0 _ 60 (0, 0) hfin]; rfl
              have HFIN := Lib.hid hfin
              clear hfin
              go_wp2
              go_ret
              exact ⟨rfl, adds_fin hv HGL2.out HSW.out HS2.out HS3.out HO2.out HG4.out HOB.out HOB4.out rfl HO4.out HV3.out HK4.out⟩
  · intro K' hK
    rw [if_pos (by kernel_rfl)]
    go_simp
    refine hK.out _ _ trivial (fun _ => ?_)
    try simp only [Act.put, List.getElem_toArray, List.getElem_cons_zero, List.getElem_cons_succ, List.setIfInBounds_toArray, List.set_cons_zero, List.set_cons_succ]
    refine wpAnyH_ready (rs := [4, 11]) (by kernel_rfl) (by simp) ?_
    refine AllReadyH.cons (o_at HG 4 rfl) ?_ (AllReadyH.cons (o_at HG 11 rfl) ?_ (AllReadyH.nil))
    · intro K' hK
      rw [if_pos (by kernel_rfl)]
      go_simp
      refine hK.out _ _ trivial (fun _ => ?_)
      try simp only [Act.put, List.getElem_toArray, List.getElem_cons_zero, List.getElem_cons_succ, List.setIfInBounds_toArray, List.set_cons_zero, List.set_cons_succ]
      refine wpAnyH_ready (rs := [11]) (by kernel_rfl) (by simp) ?_
      refine AllReadyH.cons (o_at HG 11 rfl) ?_ (AllReadyH.nil)
      · intro K' hK
        rw [if_pos (by kernel_rfl)]
        go_simp
        (with_reducible refine (clone_any _ _ b _ HR2.out HC.out hb).mono ?_)
        rintro e w2 ⟨vb, rfl, hob, hbel⟩
        obtain ⟨Ab, cb, rfl, hsvb, hrbb⟩ := hob.reads
        have HO3 : Hid (w2.ownsRow 0 31 3 v ps.length (rowOf ps)) := own_keep HO2.out fun k hk => hbel.block k (HO2.out.lt k hk).2
        have HG3 : Hid (w2.heap[g]? = some (.cells #[.int .i64 (last + 1), v] 60 (0, 0))) := (hbel.block g HGL2.out).trans HG2.out
        have HK3 : Hid (Keeps (fun k => k = g ∨ v.ownBlock = some k) w w2) := HK2.out.below hbel
        have hs2 : V.heap.size ≤ w2.heap.size := hbel.size
        have HS2 := Lib.hid hs2
        have HOB := Lib.hid hob
        have hd0 : w2.cell? ⟨g, 0, none⟩ = some (.int .i64 (last + 1)) := by rw [cell_of_row w2 g 0 _ 60 (0, 0) HG3.out]; rfl
        have hd1 : w2.cell? ⟨g, 1, none⟩ = some v := by rw [cell_of_row w2 g 1 _ 60 (0, 0) HG3.out]; rfl
        have hd2 : (w2.alloc (.cells #[.int .i64 (last + 1), .int .i64 to, .slice Ab b.length cb] 31)).cell? ⟨g, 1, none⟩ = some v := (World.cell?_of_block (Below.heap_alloc w2 _ g (by have := HGL2.out; omega))).trans hd1
        clear hob hbel hsvb hrbb hs2
        refine hK.out _ _ trivial (fun _ => ?_)
        try simp only [Act.put, List.getElem_toArray, List.getElem_cons_zero, List.getElem_cons_succ, List.setIfInBounds_toArray, List.set_cons_zero, List.set_cons_succ]
        refine wpAnyH_take (i := 12) (v := ?_) (o_at HG 12 rfl) Gns (by kernel_rfl) (by kernel_rfl) (fun _ _ _ h => h) (Or.inl ⟨(by kernel_rfl), ?_⟩) (by first | trivial | assumption) ?_
        rotate_left
        · (intro w hSw; (try dsimp only at hSw); go_simp; try with_reducible rfl)
        try simp only [Act.put, List.getElem_toArray, List.getElem_cons_zero, List.getElem_cons_succ, List.setIfInBounds_toArray, List.set_cons_zero, List.set_cons_succ]
        refine wpAnyH_ready (rs := [13]) (by kernel_rfl) (by simp) ?_
        refine AllReadyH.cons (o_at HG 13 rfl) ?_ (AllReadyH.nil)
        · intro K' hK
          rw [if_pos (by kernel_rfl)]
          go_simp
          refine hK.out _ _ trivial (fun _ => ?_)
          try simp only [Act.put, List.getElem_toArray, List.getElem_cons_zero, List.getElem_cons_succ, List.setIfInBounds_toArray, List.set_cons_zero, List.set_cons_succ]
          refine wpAnyH_ready (rs := [14]) (by kernel_rfl) (by simp) ?_
          refine AllReadyH.cons (o_at HG 14 rfl) ?_ (AllReadyH.nil)
          · intro K' hK
            obtain ⟨z31, hz31, hzs31⟩ := info31
            refine step_app (by kernel_rfl) _ _ 34 rfl 0 31 z31 3 40 Try.underlying34 hz31 hzs31 (by decide) v ps.length (rowOf ps) rfl (own_keep HO3.out fun k hk => Below.heap_alloc w2 _ k (HO3.out.lt k hk).2) _ 1 _ [.int .i64 (last + 1), .int .i64 to, .slice Ab b.length cb] rfl rfl ?_ ?_ ?_ ?_ ?_ (Nat.zero_le _) ?_
            · intro e; cases e
            · intro _; exact ⟨_, rfl, fun j u hu => by rw [add0]; exact cell_alloc' w2 _ 31 j u hu⟩
            · intro u hu; simp only [List.mem_cons, List.not_mem_nil, or_false] at hu; rcases hu with rfl | rfl | rfl <;> rfl
            · unfold maxLen; omega
            · omega
            intro v1 w3 ho3 hg3 hv3
            have hsz3 : w2.heap.size + 1 ≤ w3.heap.size := by have := hg3.size; simpa using this
            have HG4 : Hid (w3.heap[g]? = some (.cells #[.int .i64 (last + 1), v] 60 (0, 0))) := (hg3.block g (by have := HGL2.out; have := HS2.out; simp; omega) (fun e => hv g e.symm rfl)).trans ((Below.heap_alloc w2 _ g (by have := HGL2.out; have := HS2.out; omega)).trans HG3.out)
            have HK4 : Hid (Keeps (fun k => k = g ∨ v.ownBlock = some k) w w3) := (HK3.out.alloc _).grown hg3 (fun k e => .inl (.inr e))
            have HOB4 : Hid (OB w3 V.heap.size 5 (.slice Ab b.length cb) b) := (HOB.out.kept (grown_of_below ((Below.refl _ _).alloc (Nat.le_refl _) _) none) (by cases Value.ownBlock _ <;> simp)).kept hg3 (rows_apart HOB.out HO2.out)
            have ho4 : w3.ownsRow 0 31 3 v1 (ps ++ [(⟨last + 1, to, b, Ab, cb⟩ : P)]).length (rowOf (ps ++ [(⟨last + 1, to, b, Ab, cb⟩ : P)])) := by rw [rowOf_append, List.length_append]; exact ho3
            obtain ⟨A1, c1, hv1, -⟩ := own_FR ho4
            rw [show (ps ++ [(⟨last + 1, to, b, Ab, cb⟩ : P)]).length = ps.length + 1 from by simp] at hv1
            subst hv1
            have HO4 := Lib.hid ho4
            have HS3 : Hid (w2.heap.size ≤ w3.heap.size) := by have := hsz3; show _ ≤ _; omega
            have HV3 : Hid ((Value.slice A1 (ps.length + 1) c1).ownBlock = v.ownBlock ∨ (Value.slice A1 (ps.length + 1) c1).ownBlock = some (w2.heap.size + 1)) := Lib.hid (by simpa using hv3)
            have hf4 : w3.frozen? ⟨g, 1, none⟩ = false := frozen_of_row w3 g 1 _ _ HG4.out
            have hc4 : w3.cell? ⟨g, 1, none⟩ = some v := by rw [cell_of_row w3 g 1 _ 60 (0, 0) HG4.out]; rfl
            clear ho3 ho4 hg3 hv3 hsz3
            refine hK.out _ _ trivial (fun _ => ?_)
            try simp only [Act.put, List.getElem_toArray, List.getElem_cons_zero, List.getElem_cons_succ, List.setIfInBounds_toArray, List.set_cons_zero, List.set_cons_succ]
            refine wpAnyH_take (i := 15) (v := ?_) (o_at HG 15 rfl) Gns (by kernel_rfl) (by kernel_rfl) (fun _ _ _ h => h) (Or.inl ⟨(by kernel_rfl), ?_⟩) (by first | trivial | assumption) ?_
            rotate_left
            · (intro w hSw; (try dsimp only at hSw); go_simp; try with_reducible rfl)
            try simp only [Act.put, List.getElem_toArray, List.getElem_cons_zero, List.getElem_cons_succ, List.setIfInBounds_toArray, List.set_cons_zero, List.set_cons_succ]
            refine wpAnyH_take (i := 16) (v := ?_) (o_at HG 16 rfl) Gns (by kernel_rfl) (by kernel_rfl) (fun _ _ _ h => h) (Or.inl ⟨(by kernel_rfl), ?_⟩) (by first | trivial | assumption) ?_
            rotate_left
            · (intro w hSw; (try dsimp only at hSw); go_simp; try with_reducible rfl)
            try simp only [Act.put, List.getElem_toArray, List.getElem_cons_zero, List.getElem_cons_succ, List.setIfInBounds_toArray, List.set_cons_zero, List.set_cons_succ]
            refine wpAnyH_ready (rs := [17]) (by kernel_rfl) (by simp) ?_
            refine AllReadyH.cons (o_at HG 17 rfl) ?_ (AllReadyH.nil)
            · intro K' hK
              rw [if_pos (by kernel_rfl)]
              go_simp
              refine hK.out _ _ trivial (fun _ => ?_)
              try simp only [Act.put, List.getElem_toArray, List.getElem_cons_zero, List.getElem_cons_succ, List.setIfInBounds_toArray, List.set_cons_zero, List.set_cons_succ]
              refine wpAnyH_done (by kernel_rfl) ?_ _
              have hfin := row_set (j := 1) (.slice A1 (ps.length + 1) c1) HG4.out
              have hq : (w3.setCell ⟨g, 1, none⟩ (.slice A1 (ps.length + 1) c1)).cell? ⟨g, 0, none⟩ = some (.int .i64 (last + 1)) := by rw [cell_of_row _ g 0 _ 60 (0, 0) hfin]; rfl
              have HFIN := Lib.hid hfin
              clear hfin
              go_wp2
              go_ret
              exact ⟨rfl, adds_fin hv HGL2.out HSW.out HS2.out HS3.out HO2.out HG4.out HOB.out HOB4.out rfl HO4.out HV3.out HK4.out⟩
    · intro K' hK
      rw [if_pos (by kernel_rfl)]
      go_simp
      (with_reducible refine (clone_any _ _ b _ HR2.out HC.out hb).mono ?_)
      rintro e w2 ⟨vb, rfl, hob, hbel⟩
      obtain ⟨Ab, cb, rfl, hsvb, hrbb⟩ := hob.reads
      have HO3 : Hid (w2.ownsRow 0 31 3 v ps.length (rowOf ps)) := own_keep HO2.out fun k hk => hbel.block k (HO2.out.lt k hk).2
      have HG3 : Hid (w2.heap[g]? = some (.cells #[.int .i64 (last + 1), v] 60 (0, 0))) := (hbel.block g HGL2.out).trans HG2.out
      have HK3 : Hid (Keeps (fun k => k = g ∨ v.ownBlock = some k) w w2) := HK2.out.below hbel
      have hs2 : V.heap.size ≤ w2.heap.size := hbel.size
      have HS2 := Lib.hid hs2
      have HOB := Lib.hid hob
      have hd0 : w2.cell? ⟨g, 0, none⟩ = some (.int .i64 (last + 1)) := by rw [cell_of_row w2 g 0 _ 60 (0, 0) HG3.out]; rfl
      have hd1 : w2.cell? ⟨g, 1, none⟩ = some v := by rw [cell_of_row w2 g 1 _ 60 (0, 0) HG3.out]; rfl
      have hd2 : (w2.alloc (.cells #[.int .i64 (last + 1), .int .i64 to, .slice Ab b.length cb] 31)).cell? ⟨g, 1, none⟩ = some v := (World.cell?_of_block (Below.heap_alloc w2 _ g (by have := HGL2.out; omega))).trans hd1
      clear hob hbel hsvb hrbb hs2
      refine hK.out _ _ trivial (fun _ => ?_)
      try simp only [Act.put, List.getElem_toArray, List.getElem_cons_zero, List.getElem_cons_succ, List.setIfInBounds_toArray, List.set_cons_zero, List.set_cons_succ]
      refine wpAnyH_take (i := 12) (v := ?_) (o_at HG 12 rfl) Gns (by kernel_rfl) (by kernel_rfl) (fun _ _ _ h => h) (Or.inl ⟨(by kernel_rfl), ?_⟩) (by first | trivial | assumption) ?_
      rotate_left
      · (intro w hSw; (try dsimp only at hSw); go_simp; try with_reducible rfl)
      try simp only [Act.put, List.getElem_toArray, List.getElem_cons_zero, List.getElem_cons_succ, List.setIfInBounds_toArray, List.set_cons_zero, List.set_cons_succ]
      refine wpAnyH_ready (rs := [4, 13]) (by kernel_rfl) (by simp) ?_
      refine AllReadyH.cons (o_at HG 4 rfl) ?_ (AllReadyH.cons (o_at HG 13 rfl) ?_ (AllReadyH.nil))
      · intro K' hK
        rw [if_pos (by kernel_rfl)]
        go_simp
        refine hK.out _ _ trivial (fun _ => ?_)
        try simp only [Act.put, List.getElem_toArray, List.getElem_cons_zero, List.getElem_cons_succ, List.setIfInBounds_toArray, List.set_cons_zero, List.set_cons_succ]
        refine wpAnyH_ready (rs := [13]) (by kernel_rfl) (by simp) ?_
        refine AllReadyH.cons (o_at HG 13 rfl) ?_ (AllReadyH.nil)
        · intro K' hK
          rw [if_pos (by kernel_rfl)]
          go_simp
          refine hK.out _ _ trivial (fun _ => ?_)
          try simp only [Act.put, List.getElem_toArray, List.getElem_cons_zero, List.getElem_cons_succ, List.setIfInBounds_toArray, List.set_cons_zero, List.set_cons_succ]
          refine wpAnyH_ready (rs := [14]) (by kernel_rfl) (by simp) ?_
          refine AllReadyH.cons (o_at HG 14 rfl) ?_ (AllReadyH.nil)
          · intro K' hK
            obtain ⟨z31, hz31, hzs31⟩ := info31
            refine step_app (by kernel_rfl) _ _ 34 rfl 0 31 z31 3 40 Try.underlying34 hz31 hzs31 (by decide) v ps.length (rowOf ps) rfl (own_keep HO3.out fun k hk => Below.heap_alloc w2 _ k (HO3.out.lt k hk).2) _ 1 _ [.int .i64 (last + 1), .int .i64 to, .slice Ab b.length cb] rfl rfl ?_ ?_ ?_ ?_ ?_ (Nat.zero_le _) ?_
            · intro e; cases e
            · intro _; exact ⟨_, rfl, fun j u hu => by rw [add0]; exact cell_alloc' w2 _ 31 j u hu⟩
            · intro u hu; simp only [List.mem_cons, List.not_mem_nil, or_false] at hu; rcases hu with rfl | rfl | rfl <;> rfl
            · unfold maxLen; omega
            · omega
            intro v1 w3 ho3 hg3 hv3
            have hsz3 : w2.heap.size + 1 ≤ w3.heap.size := by have := hg3.size; simpa using this
            have HG4 : Hid (w3.heap[g]? = some (.cells #[.int .i64 (last + 1), v] 60 (0, 0))) := (hg3.block g (by have := HGL2.out; have := HS2.out; simp; omega) (fun e => hv g e.symm rfl)).trans ((Below.heap_alloc w2 _ g (by have := HGL2.out; have := HS2.out; omega)).trans HG3.out)
            have HK4 : Hid (Keeps (fun k => k = g ∨ v.ownBlock = some k) w w3) := (HK3.out.alloc _).grown hg3 (fun k e => .inl (.inr e))
            have HOB4 : Hid (OB w3 V.heap.size 5 (.slice Ab b.length cb) b) := (HOB.out.kept (grown_of_below ((Below.refl _ _).alloc (Nat.le_refl _) _) none) (by cases Value.ownBlock _ <;> simp)).kept hg3 (rows_apart HOB.out HO2.out)
            have ho4 : w3.ownsRow 0 31 3 v1 (ps ++ [(⟨last + 1, to, b, Ab, cb⟩ : P)]).length (rowOf (ps ++ [(⟨last + 1, to, b, Ab, cb⟩ : P)])) := by rw [rowOf_append, List.length_append]; exact ho3
            obtain ⟨A1, c1, hv1, -⟩ := own_FR ho4
            rw [show (ps ++ [(⟨last + 1, to, b, Ab, cb⟩ : P)]).length = ps.length + 1 from by simp] at hv1
            subst hv1
            have HO4 := Lib.hid ho4
            have HS3 : Hid (w2.heap.size ≤ w3.heap.size) := by have := hsz3; show _ ≤ _; omega
            have HV3 : Hid ((Value.slice A1 (ps.length + 1) c1).ownBlock = v.ownBlock ∨ (Value.slice A1 (ps.length + 1) c1).ownBlock = some (w2.heap.size + 1)) := Lib.hid (by simpa using hv3)
            have hf4 : w3.frozen? ⟨g, 1, none⟩ = false := frozen_of_row w3 g 1 _ _ HG4.out
            have hc4 : w3.cell? ⟨g, 1, none⟩ = some v := by rw [cell_of_row w3 g 1 _ 60 (0, 0) HG4.out]; rfl
            clear ho3 ho4 hg3 hv3 hsz3
            refine hK.out _ _ trivial (fun _ => ?_)
            try simp only [Act.put, List.getElem_toArray, List.getElem_cons_zero, List.getElem_cons_succ, List.setIfInBounds_toArray, List.set_cons_zero, List.set_cons_succ]
            refine wpAnyH_take (i := 15) (v := ?_) (o_at HG 15 rfl) Gns (by kernel_rfl) (by kernel_rfl) (fun _ _ _ h => h) (Or.inl ⟨(by kernel_rfl), ?_⟩) (by first | trivial | assumption) ?_
            rotate_left
            · (intro w hSw; (try dsimp only at hSw); go_simp; try with_reducible rfl)
            try simp only [Act.put, List.getElem_toArray, List.getElem_cons_zero, List.getElem_cons_succ, List.setIfInBounds_toArray, List.set_cons_zero, List.set_cons_succ]
            refine wpAnyH_take (i := 16) (v := ?_) (o_at HG 16 rfl) Gns (by kernel_rfl) (by kernel_rfl) (fun _ _ _ h => h) (Or.inl ⟨(by kernel_rfl), ?_⟩) (by first | trivial | assumption) ?_
            rotate_left
            · (intro w hSw; (try dsimp only at hSw); go_simp; try with_reducible rfl)
            try simp only [Act.put, List.getElem_toArray, List.getElem_cons_zero, List.getElem_cons_succ, List.setIfInBounds_toArray, List.set_cons_zero, List.set_cons_succ]
            refine wpAnyH_ready (rs := [17]) (by kernel_rfl) (by simp) ?_
            refine AllReadyH.cons (o_at HG 17 rfl) ?_ (AllReadyH.nil)
            · intro K' hK
              rw [if_pos (by kernel_rfl)]
              go_simp
              refine hK.out _ _ trivial (fun _ => ?_)
              try simp only [Act.put, List.getElem_toArray, List.getElem_cons_zero, List.getElem_cons_succ, List.setIfInBounds_toArray, List.set_cons_zero, List.set_cons_succ]
              refine wpAnyH_done (by kernel_rfl) ?_ _
              have hfin := row_set (j := 1) (.slice A1 (ps.length + 1) c1) HG4.out
              have hq : (w3.setCell ⟨g, 1, none⟩ (.slice A1 (ps.length + 1) c1)).cell? ⟨g, 0, none⟩ = some (.int .i64 (last + 1)) := by rw [cell_of_row _ g 0 _ 60 (0, 0) hfin]; rfl
              have HFIN := Lib.hid hfin
              clear hfin
              go_wp2
              go_ret
              exact ⟨rfl, adds_fin hv HGL2.out HSW.out HS2.out HS3.out HO2.out HG4.out HOB.out HOB4.out rfl HO4.out HV3.out HK4.out⟩
      · intro K' hK
        rw [if_pos (by kernel_rfl)]
        go_simp
        refine hK.out _ _ trivial (fun _ => ?_)
        try simp only [Act.put, List.getElem_toArray, List.getElem_cons_zero, List.getElem_cons_succ, List.setIfInBounds_toArray, List.set_cons_zero, List.set_cons_succ]
        refine wpAnyH_ready (rs := [4]) (by kernel_rfl) (by simp) ?_
        refine AllReadyH.cons (o_at HG 4 rfl) ?_ (AllReadyH.nil)
        · intro K' hK
          rw [if_pos (by kernel_rfl)]
          go_simp
          refine hK.out _ _ trivial (fun _ => ?_)
          try simp only [Act.put, List.getElem_toArray, List.getElem_cons_zero, List.getElem_cons_succ, List.setIfInBounds_toArray, List.set_cons_zero, List.set_cons_succ]
          refine wpAnyH_ready (rs := [14]) (by kernel_rfl) (by simp) ?_
          refine AllReadyH.cons (o_at HG 14 rfl) ?_ (AllReadyH.nil)
          · intro K' hK
            obtain ⟨z31, hz31, hzs31⟩ := info31
            refine step_app (by kernel_rfl) _ _ 34 rfl 0 31 z31 3 40 Try.underlying34 hz31 hzs31 (by decide) v ps.length (rowOf ps) rfl (own_keep HO3.out fun k hk => Below.heap_alloc w2 _ k (HO3.out.lt k hk).2) _ 1 _ [.int .i64 (last + 1), .int .i64 to, .slice Ab b.length cb] rfl rfl ?_ ?_ ?_ ?_ ?_ (Nat.zero_le _) ?_
            · intro e; cases e
            · intro _; exact ⟨_, rfl, fun j u hu => by rw [add0]; exact cell_alloc' w2 _ 31 j u hu⟩
            · intro u hu; simp only [List.mem_cons, List.not_mem_nil, or_false] at hu; rcases hu with rfl | rfl | rfl <;> rfl
            · unfold maxLen; omega
            · omega
            intro v1 w3 ho3 hg3 hv3
            have hsz3 : w2.heap.size + 1 ≤ w3.heap.size := by have := hg3.size; simpa using this
            have HG4 : Hid (w3.heap[g]? = some (.cells #[.int .i64 (last + 1), v] 60 (0, 0))) := (hg3.block g (by have := HGL2.out; have := HS2.out; simp; omega) (fun e => hv g e.symm rfl)).trans ((Below.heap_alloc w2 _ g (by have := HGL2.out; have := HS2.out; omega)).trans HG3.out)
            have HK4 : Hid (Keeps (fun k => k = g ∨ v.ownBlock = some k) w w3) := (HK3.out.alloc _).grown hg3 (fun k e => .inl (.inr e))
            have HOB4 : Hid (OB w3 V.heap.size 5 (.slice Ab b.length cb) b) := (HOB.out.kept (grown_of_below ((Below.refl _ _).alloc (Nat.le_refl _) _) none) (by cases Value.ownBlock _ <;> simp)).kept hg3 (rows_apart HOB.out HO2.out)
            have ho4 : w3.ownsRow 0 31 3 v1 (ps ++ [(⟨last + 1, to, b, Ab, cb⟩ : P)]).length (rowOf (ps ++ [(⟨last + 1, to, b, Ab, cb⟩ : P)])) := by rw [rowOf_append, List.length_append]; exact ho3
            obtain ⟨A1, c1, hv1, -⟩ := own_FR ho4
            rw [show (ps ++ [(⟨last + 1, to, b, Ab, cb⟩ : P)]).length = ps.length + 1 from by simp] at hv1
            subst hv1
            have HO4 := Lib.hid ho4
            have HS3 : Hid (w2.heap.size ≤ w3.heap.size) := by have := hsz3; show _ ≤ _; omega
            have HV3 : Hid ((Value.slice A1 (ps.length + 1) c1).ownBlock = v.ownBlock ∨ (Value.slice A1 (ps.length + 1) c1).ownBlock = some (w2.heap.size + 1)) := Lib.hid (by simpa using hv3)
            have hf4 : w3.frozen? ⟨g, 1, none⟩ = false := frozen_of_row w3 g 1 _ _ HG4.out
            have hc4 : w3.cell? ⟨g, 1, none⟩ = some v := by rw [cell_of_row w3 g 1 _ 60 (0, 0) HG4.out]; rfl
            clear ho3 ho4 hg3 hv3 hsz3
            refine hK.out _ _ trivial (fun _ => ?_)
            try simp only [Act.put, List.getElem_toArray, List.getElem_cons_zero, List.getElem_cons_succ, List.setIfInBounds_toArray, List.set_cons_zero, List.set_cons_succ]
            refine wpAnyH_take (i := 15) (v := ?_) (o_at HG 15 rfl) Gns (by kernel_rfl) (by kernel_rfl) (fun _ _ _ h => h) (Or.inl ⟨(by kernel_rfl), ?_⟩) (by first | trivial | assumption) ?_
            rotate_left
            · (intro w hSw; (try dsimp only at hSw); go_simp; try with_reducible rfl)
            try simp only [Act.put, List.getElem_toArray, List.getElem_cons_zero, List.getElem_cons_succ, List.setIfInBounds_toArray, List.set_cons_zero, List.set_cons_succ]
            refine wpAnyH_take (i := 16) (v := ?_) (o_at HG 16 rfl) Gns (by kernel_rfl) (by kernel_rfl) (fun _ _ _ h => h) (Or.inl ⟨(by kernel_rfl), ?_⟩) (by first | trivial | assumption) ?_
            rotate_left
            · (intro w hSw; (try dsimp only at hSw); go_simp; try with_reducible rfl)
            try simp only [Act.put, List.getElem_toArray, List.getElem_cons_zero, List.getElem_cons_succ, List.setIfInBounds_toArray, List.set_cons_zero, List.set_cons_succ]
            refine wpAnyH_ready (rs := [17]) (by kernel_rfl) (by simp) ?_
            refine AllReadyH.cons (o_at HG 17 rfl) ?_ (AllReadyH.nil)
            · intro K' hK
              rw [if_pos (by kernel_rfl)]
              go_simp
              refine hK.out _ _ trivial (fun _ => ?_)
              try simp only [Act.put, List.getElem_toArray, List.getElem_cons_zero, List.getElem_cons_succ, List.setIfInBounds_toArray, List.set_cons_zero, List.set_cons_succ]
              refine wpAnyH_done (by kernel_rfl) ?_ _
              have hfin := row_set (j := 1) (.slice A1 (ps.length + 1) c1) HG4.out
              have hq : (w3.setCell ⟨g, 1, none⟩ (.slice A1 (ps.length + 1) c1)).cell? ⟨g, 0, none⟩ = some (.int .i64 (last + 1)) := by rw [cell_of_row _ g 0 _ 60 (0, 0) hfin]; rfl
              have HFIN := Lib.hid hfin
              clear hfin
              go_wp2
              go_ret
              exact ⟨rfl, adds_fin hv HGL2.out HSW.out HS2.out HS3.out HO2.out HG4.out HOB.out HOB4.out rfl HO4.out HV3.out HK4.out⟩
  · intro K' hK
    rw [if_pos (by kernel_rfl)]
    go_simp
    (with_reducible refine (clone_any _ _ b _ HR2.out HC.out hb).mono ?_)
    rintro e w2 ⟨vb, rfl, hob, hbel⟩
    obtain ⟨Ab, cb, rfl, hsvb, hrbb⟩ := hob.reads
    have HO3 : Hid (w2.ownsRow 0 31 3 v ps.length (rowOf ps)) := own_keep HO2.out fun k hk => hbel.block k (HO2.out.lt k hk).2
    have HG3 : Hid (w2.heap[g]? = some (.cells #[.int .i64 (last + 1), v] 60 (0, 0))) := (hbel.block g HGL2.out).trans HG2.out
    have HK3 : Hid (Keeps (fun k => k = g ∨ v.ownBlock = some k) w w2) := HK2.out.below hbel
    have hs2 : V.heap.size ≤ w2.heap.size := hbel.size
    have HS2 := Lib.hid hs2
    have HOB := Lib.hid hob
    have hd0 : w2.cell? ⟨g, 0, none⟩ = some (.int .i64 (last + 1)) := by rw [cell_of_row w2 g 0 _ 60 (0, 0) HG3.out]; rfl
    have hd1 : w2.cell? ⟨g, 1, none⟩ = some v := by rw [cell_of_row w2 g 1 _ 60 (0, 0) HG3.out]; rfl
    have hd2 : (w2.alloc (.cells #[.int .i64 (last + 1), .int .i64 to, .slice Ab b.length cb] 31)).cell? ⟨g, 1, none⟩ = some v := (World.cell?_of_block (Below.heap_alloc w2 _ g (by have := HGL2.out; omega))).trans hd1
    clear hob hbel hsvb hrbb hs2
    refine hK.out _ _ trivial (fun _ => ?_)
    try simp only [Act.put, List.getElem_toArray, List.getElem_cons_zero, List.getElem_cons_succ, List.setIfInBounds_toArray, List.set_cons_zero, List.set_cons_succ]
    refine wpAnyH_ready (rs := [4, 8]) (by kernel_rfl) (by simp) ?_
    refine AllReadyH.cons (o_at HG 4 rfl) ?_ (AllReadyH.cons (o_at HG 8 rfl) ?_ (AllReadyH.nil))
    · intro K' hK
      rw [if_pos (by kernel_rfl)]
      go_simp
      refine hK.out _ _ trivial (fun _ => ?_)
      try simp only [Act.put, List.getElem_toArray, List.getElem_cons_zero, List.getElem_cons_succ, List.setIfInBounds_toArray, List.set_cons_zero, List.set_cons_succ]
      refine wpAnyH_ready (rs := [8]) (by kernel_rfl) (by simp) ?_
      refine AllReadyH.cons (o_at HG 8 rfl) ?_ (AllReadyH.nil)
      · intro K' hK
        rw [if_pos (by kernel_rfl)]
        go_simp
        refine hK.out _ _ trivial (fun _ => ?_)
        try simp only [Act.put, List.getElem_toArray, List.getElem_cons_zero, List.getElem_cons_succ, List.setIfInBounds_toArray, List.set_cons_zero, List.set_cons_succ]
        refine wpAnyH_take (i := 12) (v := ?_) (o_at HG 12 rfl) Gns (by kernel_rfl) (by kernel_rfl) (fun _ _ _ h => h) (Or.inl ⟨(by kernel_rfl), ?_⟩) (by first | trivial | assumption) ?_
        rotate_left
        · (intro w hSw; (try dsimp only at hSw); go_simp; try with_reducible rfl)
        try simp only [Act.put, List.getElem_toArray, List.getElem_cons_zero, List.getElem_cons_succ, List.setIfInBounds_toArray, List.set_cons_zero, List.set_cons_succ]
        refine wpAnyH_ready (rs := [13]) (by kernel_rfl) (by simp) ?_
        refine AllReadyH.cons (o_at HG 13 rfl) ?_ (AllReadyH.nil)
        · intro K' hK
          rw [if_pos (by kernel_rfl)]
          go_simp
          refine hK.out _ _ trivial (fun _ => ?_)
          try simp only [Act.put, List.getElem_toArray, List.getElem_cons_zero, List.getElem_cons_succ, List.setIfInBounds_toArray, List.set_cons_zero, List.set_cons_succ]
          refine wpAnyH_ready (rs := [14]) (by kernel_rfl) (by simp) ?_
          refine AllReadyH.cons (o_at HG 14 rfl) ?_ (AllReadyH.nil)
          · intro K' hK
            obtain ⟨z31, hz31, hzs31⟩ := info31
            refine step_app (by kernel_rfl) _ _ 34 rfl 0 31 z31 3 40 Try.underlying34 hz31 hzs31 (by decide) v ps.length (rowOf ps) rfl (own_keep HO3.out fun k hk => Below.heap_alloc w2 _ k (HO3.out.lt k hk).2) _ 1 _ [.int .i64 (last + 1), .int .i64 to, .slice Ab b.length cb] rfl rfl ?_ ?_ ?_ ?_ ?_ (Nat.zero_le _) ?_
            · intro e; cases e
            · intro _; exact ⟨_, rfl, fun j u hu => by rw [add0]; exact cell_alloc' w2 _ 31 j u hu⟩
            · intro u hu; simp only [List.mem_cons, List.not_mem_nil, or_false] at hu; rcases hu with rfl | rfl | rfl <;> rfl
            · unfold maxLen; omega
            · omega
            intro v1 w3 ho3 hg3 hv3
            have hsz3 : w2.heap.size + 1 ≤ w3.heap.size := by have := hg3.size; simpa using this
            have HG4 : Hid (w3.heap[g]? = some (.cells #[.int .i64 (last + 1), v] 60 (0, 0))) := (hg3.block g (by have := HGL2.out; have := HS2.out; simp; omega) (fun e => hv g e.symm rfl)).trans ((Below.heap_alloc w2 _ g (by have := HGL2.out; have := HS2.out; omega)).trans HG3.out)
            have HK4 : Hid (Keeps (fun k => k = g ∨ v.ownBlock = some k) w w3) := (HK3.out.alloc _).grown hg3 (fun k e => .inl (.inr e))
            have HOB4 : Hid (OB w3 V.heap.size 5 (.slice Ab b.length cb) b) := (HOB.out.kept (grown_of_below ((Below.refl _ _).alloc (Nat.le_refl _) _) none) (by cases Value.ownBlock _ <;> simp)).kept hg3 (rows_apart HOB.out HO2.out)
            have ho4 : w3.ownsRow 0 31 3 v1 (ps ++ [(⟨last + 1, to, b, Ab, cb⟩ : P)]).length (rowOf (ps ++ [(⟨last + 1, to, b, Ab, cb⟩ : P)])) := by rw [rowOf_append, List.length_append]; exact ho3
            obtain ⟨A1, c1, hv1, -⟩ := own_FR ho4
            rw [show (ps ++ [(⟨last + 1, to, b, Ab, cb⟩ : P)]).length = ps.length + 1 from by simp] at hv1
            subst hv1
            have HO4 := Lib.hid ho4
            have HS3 : Hid (w2.heap.size ≤ w3.heap.size) := by have := hsz3; show _ ≤ _; omega
            have HV3 : Hid ((Value.slice A1 (ps.length + 1) c1).ownBlock = v.ownBlock ∨ (Value.slice A1 (ps.length + 1) c1).ownBlock = some (w2.heap.size + 1)) := Lib.hid (by simpa using hv3)
            have hf4 : w3.frozen? ⟨g, 1, none⟩ = false := frozen_of_row w3 g 1 _ _ HG4.out
            have hc4 : w3.cell? ⟨g, 1, none⟩ = some v := by rw [cell_of_row w3 g 1 _ 60 (0, 0) HG4.out]; rfl
            clear ho3 ho4 hg3 hv3 hsz3
            refine hK.out _ _ trivial (fun _ => ?_)
            try simp only [Act.put, List.getElem_toArray, List.getElem_cons_zero, List.getElem_cons_succ, List.setIfInBounds_toArray, List.set_cons_zero, List.set_cons_succ]
            refine wpAnyH_take (i := 15) (v := ?_) (o_at HG 15 rfl) Gns (by kernel_rfl) (by kernel_rfl) (fun _ _ _ h => h) (Or.inl ⟨(by kernel_rfl), ?_⟩) (by first | trivial | assumption) ?_
            rotate_left
            · (intro w hSw; (try dsimp only at hSw); go_simp; try with_reducible rfl)
            try simp only [Act.put, List.getElem_toArray, List.getElem_cons_zero, List.getElem_cons_succ, List.setIfInBounds_toArray, List.set_cons_zero, List.set_cons_succ]
            refine wpAnyH_take (i := 16) (v := ?_) (o_at HG 16 rfl) Gns (by kernel_rfl) (by kernel_rfl) (fun _ _ _ h => h) (Or.inl ⟨(by kernel_rfl), ?_⟩) (by first | trivial | assumption) ?_
            rotate_left
            · (intro w hSw; (try dsimp only at hSw); go_simp; try with_reducible rfl)
            try simp only [Act.put, List.getElem_toArray, List.getElem_cons_zero, List.getElem_cons_succ, List.setIfInBounds_toArray, List.set_cons_zero, List.set_cons_succ]
            refine wpAnyH_ready (rs := [17]) (by kernel_rfl) (by simp) ?_
            refine AllReadyH.cons (o_at HG 17 rfl) ?_ (AllReadyH.nil)
            · intro K' hK
              rw [if_pos (by kernel_rfl)]
              go_simp
              refine hK.out _ _ trivial (fun _ => ?_)
              try simp only [Act.put, List.getElem_toArray, List.getElem_cons_zero, List.getElem_cons_succ, List.setIfInBounds_toArray, List.set_cons_zero, List.set_cons_succ]
              refine wpAnyH_done (by kernel_rfl) ?_ _
              have hfin := row_set (j := 1) (.slice A1 (ps.length + 1) c1) HG4.out
              have hq : (w3.setCell ⟨g, 1, none⟩ (.slice A1 (ps.length + 1) c1)).cell? ⟨g, 0, none⟩ = some (.int .i64 (last + 1)) := by rw [cell_of_row _ g 0 _ 60 (0, 0) hfin]; rfl
              have HFIN := Lib.hid hfin
              clear hfin
              go_wp2
              go_ret
              exact ⟨rfl, adds_fin hv HGL2.out HSW.out HS2.out HS3.out HO2.out HG4.out HOB.out HOB4.out rfl HO4.out HV3.out HK4.out⟩
    · intro K' hK
      rw [if_pos (by kernel_rfl)]
      go_simp
      refine hK.out _ _ trivial (fun _ => ?_)
      try simp only [Act.put, List.getElem_toArray, List.getElem_cons_zero, List.getElem_cons_succ, List.setIfInBounds_toArray, List.set_cons_zero, List.set_cons_succ]
      refine wpAnyH_take (i := 12) (v := ?_) (o_at HG 12 rfl) Gns (by kernel_rfl) (by kernel_rfl) (fun _ _ _ h => h) (Or.inl ⟨(by kernel_rfl), ?_⟩) (by first | trivial | assumption) ?_
      rotate_left
      · (intro w hSw; (try dsimp only at hSw); go_simp; try with_reducible rfl)
      try simp only [Act.put, List.getElem_toArray, List.getElem_cons_zero, List.getElem_cons_succ, List.setIfInBounds_toArray, List.set_cons_zero, List.set_cons_succ]
      refine wpAnyH_ready (rs := [4, 13]) (by kernel_rfl) (by simp) ?_
      refine AllReadyH.cons (o_at HG 4 rfl) ?_ (AllReadyH.cons (o_at HG 13 rfl) ?_ (AllReadyH.nil))
      · intro K' hK
        rw [if_pos (by kernel_rfl)]
        go_simp
        refine hK.out _ _ trivial (fun _ => ?_)
        try simp only [Act.put, List.getElem_toArray, List.getElem_cons_zero, List.getElem_cons_succ, List.setIfInBounds_toArray, List.set_cons_zero, List.set_cons_succ]
        refine wpAnyH_ready (rs := [13]) (by kernel_rfl) (by simp) ?_
        refine AllReadyH.cons (o_at HG 13 rfl) ?_ (AllReadyH.nil)
        · intro K' hK
          rw [if_pos (by kernel_rfl)]
          go_simp
          refine hK.out _ _ trivial (fun _ => ?_)
          try simp only [Act.put, List.getElem_toArray, List.getElem_cons_zero, List.getElem_cons_succ, List.setIfInBounds_toArray, List.set_cons_zero, List.set_cons_succ]
          refine wpAnyH_ready (rs := [14]) (by kernel_rfl) (by simp) ?_
          refine AllReadyH.cons (o_at HG 14 rfl) ?_ (AllReadyH.nil)
          · intro K' hK
            obtain ⟨z31, hz31, hzs31⟩ := info31
            refine step_app (by kernel_rfl) _ _ 34 rfl 0 31 z31 3 40 Try.underlying34 hz31 hzs31 (by decide) v ps.length (rowOf ps) rfl (own_keep HO3.out fun k hk => Below.heap_alloc w2 _ k (HO3.out.lt k hk).2) _ 1 _ [.int .i64 (last + 1), .int .i64 to, .slice Ab b.length cb] rfl rfl ?_ ?_ ?_ ?_ ?_ (Nat.zero_le _) ?_
            · intro e; cases e
            · intro _; exact ⟨_, rfl, fun j u hu => by rw [add0]; exact cell_alloc' w2 _ 31 j u hu⟩
            · intro u hu; simp only [List.mem_cons, List.not_mem_nil, or_false] at hu; rcases hu with rfl | rfl | rfl <;> rfl
            · unfold maxLen; omega
            · omega
            intro v1 w3 ho3 hg3 hv3
            have hsz3 : w2.heap.size + 1 ≤ w3.heap.size := by have := hg3.size; simpa using this
            have HG4 : Hid (w3.heap[g]? = some (.cells #[.int .i64 (last + 1), v] 60 (0, 0))) := (hg3.block g (by have := HGL2.out; have := HS2.out; simp; omega) (fun e => hv g e.symm rfl)).trans ((Below.heap_alloc w2 _ g (by have := HGL2.out; have := HS2.out; omega)).trans HG3.out)
            have HK4 : Hid (Keeps (fun k => k = g ∨ v.ownBlock = some k) w w3) := (HK3.out.alloc _).grown hg3 (fun k e => .inl (.inr e))
            have HOB4 : Hid (OB w3 V.heap.size 5 (.slice Ab b.length cb) b) := (HOB.out.kept (grown_of_below ((Below.refl _ _).alloc (Nat.le_refl _) _) none) (by cases Value.ownBlock _ <;> simp)).kept hg3 (rows_apart HOB.out HO2.out)
            have ho4 : w3.ownsRow 0 31 3 v1 (ps ++ [(⟨last + 1, to, b, Ab, cb⟩ : P)]).length (rowOf (ps ++ [(⟨last + 1, to, b, Ab, cb⟩ : P)])) := by rw [rowOf_append, List.length_append]; exact ho3
            obtain ⟨A1, c1, hv1, -⟩ := own_FR ho4
            rw [show (ps ++ [(⟨last + 1, to, b, Ab, cb⟩ : P)]).length = ps.length + 1 from by simp] at hv1
            subst hv1
            have HO4 := Lib.hid ho4
            have HS3 : Hid (w2.heap.size ≤ w3.heap.size) := by have := hsz3; show _ ≤ _; omega
            have HV3 : Hid ((Value.slice A1 (ps.length + 1) c1).ownBlock = v.ownBlock ∨ (Value.slice A1 (ps.length + 1) c1).ownBlock = some (w2.heap.size + 1)) := Lib.hid (by simpa using hv3)
            have hf4 : w3.frozen? ⟨g, 1, none⟩ = false := frozen_of_row w3 g 1 _ _ HG4.out
            have hc4 : w3.cell? ⟨g, 1, none⟩ = some v := by rw [cell_of_row w3 g 1 _ 60 (0, 0) HG4.out]; rfl
            clear ho3 ho4 hg3 hv3 hsz3
            refine hK.out _ _ trivial (fun _ => ?_)
            try simp only [Act.put, List.getElem_toArray, List.getElem_cons_zero, List.getElem_cons_succ, List.setIfInBounds_toArray, List.set_cons_zero, List.set_cons_succ]
            refine wpAnyH_take (i := 15) (v := ?_) (o_at HG 15 rfl) Gns (by kernel_rfl) (by kernel_rfl) (fun _ _ _ h => h) (Or.inl ⟨(by kernel_rfl), ?_⟩) (by first | trivial | assumption) ?_
            rotate_left
            · (intro w hSw; (try dsimp only at hSw); go_simp; try with_reducible rfl)
            try simp only [Act.put, List.getElem_toArray, List.getElem_cons_zero, List.getElem_cons_succ, List.setIfInBounds_toArray, List.set_cons_zero, List.set_cons_succ]
            refine wpAnyH_take (i := 16) (v := ?_) (o_at HG 16 rfl) Gns (by kernel_rfl) (by kernel_rfl) (fun _ _ _ h => h) (Or.inl ⟨(by kernel_rfl), ?_⟩) (by first | trivial | assumption) ?_
            rotate_left
            · (intro w hSw; (try dsimp only at hSw); go_simp; try with_reducible rfl)
            try simp only [Act.put, List.getElem_toArray, List.getElem_cons_zero, List.getElem_cons_succ, List.setIfInBounds_toArray, List.set_cons_zero, List.set_cons_succ]
            refine wpAnyH_ready (rs := [17]) (by kernel_rfl) (by simp) ?_
            refine AllReadyH.cons (o_at HG 17 rfl) ?_ (AllReadyH.nil)
            · intro K' hK
              rw [if_pos (by kernel_rfl)]
              go_simp
              refine hK.out _ _ trivial (fun _ => ?_)
              try simp only [Act.put, List.getElem_toArray, List.getElem_cons_zero, List.getElem_cons_succ, List.setIfInBounds_toArray, List.set_cons_zero, List.set_cons_succ]
              refine wpAnyH_done (by kernel_rfl) ?_ _
              have hfin := row_set (j := 1) (.slice A1 (ps.length + 1) c1) HG4.out
              have hq : (w3.setCell ⟨g, 1, none⟩ (.slice A1 (ps.length + 1) c1)).cell? ⟨g, 0, none⟩ = some (.int .i64 (last + 1)) := by rw [cell_of_row _ g 0 _ 60 (0, 0) hfin]; rfl
              have HFIN := Lib.hid hfin
              clear hfin
              go_wp2
              go_ret
              exact ⟨rfl, adds_fin hv HGL2.out HSW.out HS2.out HS3.out HO2.out HG4.out HOB.out HOB4.out rfl HO4.out HV3.out HK4.out⟩
      · intro K' hK
        rw [if_pos (by kernel_rfl)]
        go_simp
        refine hK.out _ _ trivial (fun _ => ?_)
        try simp only [Act.put, List.getElem_toArray, List.getElem_cons_zero, List.getElem_cons_succ, List.setIfInBounds_toArray, List.set_cons_zero, List.set_cons_succ]
        refine wpAnyH_ready (rs := [4]) (by kernel_rfl) (by simp) ?_
        refine AllReadyH.cons (o_at HG 4 rfl) ?_ (AllReadyH.nil)
        · intro K' hK
          rw [if_pos (by kernel_rfl)]
          go_simp
          refine hK.out _ _ trivial (fun _ => ?_)
          try simp only [Act.put, List.getElem_toArray, List.getElem_cons_zero, List.getElem_cons_succ, List.setIfInBounds_toArray, List.set_cons_zero, List.set_cons_succ]
          refine wpAnyH_ready (rs := [14]) (by kernel_rfl) (by simp) ?_
          refine AllReadyH.cons (o_at HG 14 rfl) ?_ (AllReadyH.nil)
          · intro K' hK
            obtain ⟨z31, hz31, hzs31⟩ := info31
            refine step_app (by kernel_rfl) _ _ 34 rfl 0 31 z31 3 40 Try.underlying34 hz31 hzs31 (by decide) v ps.length (rowOf ps) rfl (own_keep HO3.out fun k hk => Below.heap_alloc w2 _ k (HO3.out.lt k hk).2) _ 1 _ [.int .i64 (last + 1), .int .i64 to, .slice Ab b.length cb] rfl rfl ?_ ?_ ?_ ?_ ?_ (Nat.zero_le _) ?_
            · intro e; cases e
            · intro _; exact ⟨_, rfl, fun j u hu => by rw [add0]; exact cell_alloc' w2 _ 31 j u hu⟩
            · intro u hu; simp only [List.mem_cons, List.not_mem_nil, or_false] at hu; rcases hu with rfl | rfl | rfl <;> rfl
            · unfold maxLen; omega
            · omega
            intro v1 w3 ho3 hg3 hv3
            have hsz3 : w2.heap.size + 1 ≤ w3.heap.size := by have := hg3.size; simpa using this
            have HG4 : Hid (w3.heap[g]? = some (.cells #[.int .i64 (last + 1), v] 60 (0, 0))) := (hg3.block g (by have := HGL2.out; have := HS2.out; simp; omega) (fun e => hv g e.symm rfl)).trans ((Below.heap_alloc w2 _ g (by have := HGL2.out; have := HS2.out; omega)).trans HG3.out)
            have HK4 : Hid (Keeps (fun k => k = g ∨ v.ownBlock = some k) w w3) := (HK3.out.alloc _).grown hg3 (fun k e => .inl (.inr e))
            have HOB4 : Hid (OB w3 V.heap.size 5 (.slice Ab b.length cb) b) := (HOB.out.kept (grown_of_below ((Below.refl _ _).alloc (Nat.le_refl _) _) none) (by cases Value.ownBlock _ <;> simp)).kept hg3 (rows_apart HOB.out HO2.out)
            have ho4 : w3.ownsRow 0 31 3 v1 (ps ++ [(⟨last + 1, to, b, Ab, cb⟩ : P)]).length (rowOf (ps ++ [(⟨last + 1, to, b, Ab, cb⟩ : P)])) := by rw [rowOf_append, List.length_append]; exact ho3
            obtain ⟨A1, c1, hv1, -⟩ := own_FR ho4
            rw [show (ps ++ [(⟨last + 1, to, b, Ab, cb⟩ : P)]).length = ps.length + 1 from by simp] at hv1
            subst hv1
            have HO4 := Lib.hid ho4
            have HS3 : Hid (w2.heap.size ≤ w3.heap.size) := by have := hsz3; show _ ≤ _; omega
            have HV3 : Hid ((Value.slice A1 (ps.length + 1) c1).ownBlock = v.ownBlock ∨ (Value.slice A1 (ps.length + 1) c1).ownBlock = some (w2.heap.size + 1)) := Lib.hid (by simpa using hv3)
            have hf4 : w3.frozen? ⟨g, 1, none⟩ = false := frozen_of_row w3 g 1 _ _ HG4.out
            have hc4 : w3.cell? ⟨g, 1, none⟩ = some v := by rw [cell_of_row w3 g 1 _ 60 (0, 0) HG4.out]; rfl
            clear ho3 ho4 hg3 hv3 hsz3
            refine hK.out _ _ trivial (fun _ => ?_)
            try simp only [Act.put, List.getElem_toArray, List.getElem_cons_zero, List.getElem_cons_succ, List.setIfInBounds_toArray, List.set_cons_zero, List.set_cons_succ]
            refine wpAnyH_take (i := 15) (v := ?_) (o_at HG 15 rfl) Gns (by kernel_rfl) (by kernel_rfl) (fun _ _ _ h => h) (Or.inl ⟨(by kernel_rfl), ?_⟩) (by first | trivial | assumption) ?_
            rotate_left
            · (intro w hSw; (try dsimp only at hSw); go_simp; try with_reducible rfl)
            try simp only [Act.put, List.getElem_toArray, List.getElem_cons_zero, List.getElem_cons_succ, List.setIfInBounds_toArray, List.set_cons_zero, List.set_cons_succ]
            refine wpAnyH_take (i := 16) (v := ?_) (o_at HG 16 rfl) Gns (by kernel_rfl) (by kernel_rfl) (fun _ _ _ h => h) (Or.inl ⟨(by kernel_rfl), ?_⟩) (by first | trivial | assumption) ?_
            rotate_left
            · (intro w hSw; (try dsimp only at hSw); go_simp; try with_reducible rfl)
            try simp only [Act.put, List.getElem_toArray, List.getElem_cons_zero, List.getElem_cons_succ, List.setIfInBounds_toArray, List.set_cons_zero, List.set_cons_succ]
            refine wpAnyH_ready (rs := [17]) (by kernel_rfl) (by simp) ?_
            refine AllReadyH.cons (o_at HG 17 rfl) ?_ (AllReadyH.nil)
            · intro K' hK
              rw [if_pos (by kernel_rfl)]
              go_simp
              refine hK.out _ _ trivial (fun _ => ?_)
              try simp only [Act.put, List.getElem_toArray, List.getElem_cons_zero, List.getElem_cons_succ, List.setIfInBounds_toArray, List.set_cons_zero, List.set_cons_succ]
              refine wpAnyH_done (by kernel_rfl) ?_ _
              have hfin := row_set (j := 1) (.slice A1 (ps.length + 1) c1) HG4.out
              have hq : (w3.setCell ⟨g, 1, none⟩ (.slice A1 (ps.length + 1) c1)).cell? ⟨g, 0, none⟩ = some (.int .i64 (last + 1)) := by rw [cell_of_row _ g 0 _ 60 (0, 0) hfin]; rfl
              have HFIN := Lib.hid hfin
              clear hfin
              go_wp2
              go_ret
              exact ⟨rfl, adds_fin hv HGL2.out HSW.out HS2.out HS3.out HO2.out HG4.out HOB.out HOB4.out rfl HO4.out HV3.out HK4.out⟩
end Go.Proofs.Ytbjkeakehdljlaa
