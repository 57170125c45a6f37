/- The walk of Take of the document's link. Conditions: none. -/
import Derived.Test.YtbjkeakehdljlaaRefSend
namespace Go.Proofs.Ytbjkeakehdljlaa
set_option linter.unusedVariables false
set_option linter.unusedSimpArgs false
open Go.RowKit

noncomputable def G14 : Array Oper := regionOf Try.f14 5
theorem Gns14 : Region.noSelect G14 = true := by kernel_rfl

def RefTakeQ (id g : Nat) (last : Int) (ps : List P) (x : Int) (w : World) (col : Nat → Nat) (e : Ending) (w' : World) : Prop :=
  ∃ col', Step id w col w' col' ∧ ((fnd ps x = -1 ∧ e = .returned (.tuple #[noFrame, .int .i64 5]) ∧ RefAt w' col' id g last ps) ∨
    ∃ (i : Nat) (p : P), fnd ps x = (i : Int) ∧ ps[i]? = some p ∧ p.id = x ∧ e = .returned (.tuple #[frameV p, .int .i64 0]) ∧ RefAt w' col' id g last (ps.eraseIdx i) ∧ SV p.A p.b.length p.c ∧ RC w' col' 0 p.A p.b)

theorem ref_take_not (p : Option Addr) (x : Int) (w : World) (hf : ∀ W, Below w.heap.size w W → Calls Try.prog 25 #[.pointer p, .int .i64 x] W fun e w' => e = .returned (.int .i64 (-1)) ∧ W = w') :
    Calls Try.prog 14 #[.pointer p, .int .i64 x] w fun e w' => e = .returned (.tuple #[noFrame, .int .i64 5]) ∧ Below w.heap.size w w' := by
  have HF := Lib.hid hf
  clear hf
  go_enter Try.func14, Try.ntmps14
  go_wp2_with fail
  have hb1 := bel_alloc (Below.refl w.heap.size w) (Obj.cells #[Value.int IntKind.i64 0, Value.int IntKind.i64 0, Value.slice none 0 0] 47)
  have HB1 := Lib.hid hb1
  clear hb1
  refine (HF.out _ HB1.out).mono ?_
  rintro e w' ⟨rfl, rfl⟩
  go_wp2
  refine bodyPost_ret (v := .tuple #[noFrame, .int .i64 5]) ?_ rfl ⟨rfl, HB1.out⟩
  rw [results_cell_tmp rfl]
  go_simp
  rfl

set_option maxHeartbeats 4000000 in
theorem ref_take_some (id g : Nat) (last : Int) (ps : List P) (x : Int) (i : Nat) (p : P) (w : World) (col : Nat → Nat) (h : RefAt w col id g last ps) (hps : ps.length ≤ 1000000) (hx : fnd ps x = (i : Int)) (hp : ps[i]? = some p) :
    Calls Try.prog 14 #[.pointer (some ⟨g, 0, none⟩), .int .i64 x] w fun e w' => e = .returned (.tuple #[frameV p, .int .i64 0]) ∧ ∃ col', Step id w col w' col' ∧ RefAt w' col' id g last (ps.eraseIdx i) := by
  obtain ⟨AL, cL, hg, hf, hcA⟩ := h.ex
  have hil := (List.getElem?_eq_some_iff.1 hp).1
  obtain ⟨gg, rfl, he0, he1, he2⟩ := hf.at_ i p hp
  have hgl : g < w.heap.size := (Array.getElem?_eq_some_iff.1 hg).1
  have hne : gg ≠ g := fun e => h.nz (h.hcol.symm.trans (e ▸ hcA (by omega) _ rfl))
  have hlc := hf.len
  have hput : ∀ (Y : World) (A2 : Option Addr) (c2 : Nat), Keeps (fun k => k = g) w Y → Y.heap[g]? = some (.cells #[.int .i64 last, .slice A2 (ps.eraseIdx i).length c2] 44 (0, 0)) → Y.ownsRow w.heap.size 47 3 (.slice A2 (ps.eraseIdx i).length c2) (ps.eraseIdx i).length (rowOf (ps.eraseIdx i)) →
      ∃ col', Step id w col Y col' ∧ RefAt Y col' id g last (ps.eraseIdx i) := fun Y A2 c2 hk hgy ho => ref_put h hk hgy ho (fun q hq => h.dat q (mem_erase hq))
  have HPUT := Lib.hid hput
  have HG0 := Lib.hid hg
  have HF0 := Lib.hid hf
  have HX := Lib.hid hx
  have HPP := Lib.hid hp
  have HGL := Lib.hid hgl
  obtain ⟨n, hn⟩ : ∃ n, n = ps.length := ⟨_, rfl⟩
  have HNP := Lib.hid hn
  rw [← hn] at hil hps hlc
  clear hput hg hf hx hp hcA h hgl he0 he1 he2
  go_enter Try.func14, Try.ntmps14
  go_wp2_with fail
  have HB1 := Lib.hid (bel_alloc (Below.refl w.heap.size w) (Obj.cells #[Value.int IntKind.i64 0, Value.int IntKind.i64 0, Value.slice none 0 0] 47))
  have hat := at_any g last ps x _ cL _ (heap_below HG0.out HB1.out) (HF0.out.below HB1.out) (by rw [← hn]; exact hps)
  rw [HX.out] at hat
  refine hat.mono ?_
  clear hat hn
  rintro e w' ⟨rfl, rfl⟩
  have hd1 : (w.alloc (Obj.cells #[Value.int IntKind.i64 0, Value.int IntKind.i64 0, Value.slice none 0 0] 47)).cell? ⟨g, 1, none⟩ = some (.slice (some ⟨gg, 0, none⟩) n cL) := by rw [cell_of_row _ g 1 _ 44 (0, 0) (heap_below HG0.out HB1.out), HNP.out]; rfl
  obtain ⟨g', e', hh0, hh1, hh2⟩ := (HF0.out.below HB1.out).at_ i p HPP.out
  cases e'
  have HB2 := Lib.hid (bel_alloc HB1.out (Obj.cells #[.int .i64 p.id, .int .i64 p.to, .slice p.A p.b.length p.c] 47))
  go_wp2_with fail
  generalize hV : ((w.alloc (Obj.cells #[Value.int IntKind.i64 0, Value.int IntKind.i64 0, Value.slice none 0 0] 47)).alloc (Obj.cells #[.int .i64 p.id, .int .i64 p.to, .slice p.A p.b.length p.c] 47)) = V0 at *
  have HA1 : Hid (V0.drew.heap[w.heap.size]? = some (.cells #[Value.int IntKind.i64 0, Value.int IntKind.i64 0, Value.slice none 0 0] 47 (0, 0))) := Lib.hid (by
    rw [← hV]
    show ((w.alloc _).alloc _).heap[w.heap.size]? = _
    rw [Below.heap_alloc _ _ _ (by simp)]
    exact heap_alloc_new w _)
  have HA2 : Hid (V0.drew.heap[w.heap.size + 1]? = some (.cells #[.int .i64 p.id, .int .i64 p.to, .slice p.A p.b.length p.c] 47 (0, 0))) := Lib.hid (by
    rw [← hV]
    have := heap_alloc_new (w.alloc (Obj.cells #[Value.int IntKind.i64 0, Value.int IntKind.i64 0, Value.slice none 0 0] 47)) (Obj.cells #[.int .i64 p.id, .int .i64 p.to, .slice p.A p.b.length p.c] 47)
    show ((w.alloc _).alloc _).heap[w.heap.size + 1]? = _
    simpa using this)
  have HSZV : Hid (w.heap.size + 1 < V0.drew.heap.size) := Lib.hid (Array.getElem?_eq_some_iff.1 HA2.out).1
  have HGV : Hid (V0.drew.heap[g]? = some (.cells #[.int .i64 last, .slice (some ⟨gg, 0, none⟩) n cL] 44 (0, 0))) := Lib.hid (by rw [HNP.out]; exact heap_below HG0.out (bel_drew HB2.out))
  have HFV : Hid (FR V0.drew (some ⟨gg, 0, none⟩) cL ps) := Lib.hid (HF0.out.below (bel_drew HB2.out))
  have HKV : Hid (Keeps (fun k => k = g) w V0.drew) := Lib.hid ((Keeps.refl _ _).below (bel_drew HB2.out))
  clear hd1 hh0 hh1 hh2 hV HB1 HB2
  refine region_const (G := G14) (S := fun X => X.cell? ⟨g, 0, none⟩ = some (.int .i64 last)) (n := 20) (by kernel_rfl) (by kernel_rfl) rfl ?_ (fun HG _ => ?_)
  · have := cell_of_row _ g 0 _ 44 (0, 0) HGV.out; exact this
  have Gns := Gns14
  generalize V0.drew = V at *
  obtain ⟨qs, hqs⟩ : ∃ qs, qs = ps.eraseIdx i := ⟨_, rfl⟩
  rw [← hqs] at HPUT
  obtain ⟨z, hz, hzs⟩ := info47
  have HC0 := Lib.hid (show V.cell? ⟨g, 0, none⟩ = some (.int .i64 last) by rw [cell_of_row _ g 0 _ 44 (0, 0) HGV.out]; rfl)
  have HC1 := Lib.hid (show V.cell? ⟨g, 1, none⟩ = some (.slice (some ⟨gg, 0, none⟩) n cL) by rw [cell_of_row _ g 1 _ 44 (0, 0) HGV.out]; rfl)
  have hnews := HFV.out.news (by have := HNP.out; omega)
  obtain ⟨ad0, ead0, hnw⟩ := hnews
  cases ead0
  obtain ⟨r0, hr0⟩ : ∃ r, r = rowOf (ps.take i) := ⟨_, rfl⟩
  obtain ⟨r36, hr36⟩ : ∃ r, r = rowOf (ps.drop (i + 1)) := ⟨_, rfl⟩
  have hrow : rowOf ps = r0 ++ rowOf (ps.drop i) := by rw [hr0, ← rowOf_append, List.take_append_drop]
  have hrow2 : rowOf ps = rowOf (ps.take (i + 1)) ++ r36 := by rw [hr36, ← rowOf_append, List.take_append_drop]
  have HR0 : Hid (r0.length = i * 3) := Lib.hid (by rw [hr0, rowOf_length, List.length_take]; have := HNP.out; rw [Nat.min_eq_left (by omega)])
  have HR36 : Hid (r36.length = (n - (i + 1)) * 3) := Lib.hid (by rw [hr36, rowOf_length, List.length_drop, ← HNP.out])
  have HR0n : Hid (0 < i → ∃ ad, (some ⟨gg, 0, none⟩ : Option Addr) = some ad ∧ ∀ j u, r0[j]? = some u → V.cell? (ad.add j) = some u) := Lib.hid (fun _ => ⟨_, rfl, fun j u hu => hnw j u (by rw [hrow, List.getElem?_append_left (List.getElem?_eq_some_iff.1 hu).1]; exact hu)⟩)
  obtain ⟨a36, hA36, hn36⟩ : ∃ a, (if cL = i + 1 then (some ⟨gg, 0, none⟩ : Option Addr) else some ⟨gg, (i + 1) * 3, none⟩) = some a ∧ ∀ j u, r36[j]? = some u → V.cell? (a.add j) = some u := by
    by_cases hci : cL = i + 1
    · refine ⟨_, if_pos hci, fun j u hu => ?_⟩
      have := (List.getElem?_eq_some_iff.1 hu).1
      rw [HR36.out] at this
      omega
    · refine ⟨_, if_neg hci, fun j u hu => ?_⟩
      have e : (⟨gg, (i + 1) * 3, none⟩ : Addr).add j = (⟨gg, 0, none⟩ : Addr).add ((i + 1) * 3 + j) := by unfold Addr.add; split <;> simp_all
      rw [e]
      refine hnw _ u ?_
      have hl : (rowOf (ps.take (i + 1))).length = (i + 1) * 3 := by rw [rowOf_length, List.length_take]; have := HNP.out; rw [Nat.min_eq_left (by omega)]
      rw [hrow2, List.getElem?_append_right (by omega), hl]
      rw [show (i + 1) * 3 + j - (i + 1) * 3 = j by omega]
      exact hu
  have HR36n : Hid (0 < n - (i + 1) → ∃ ad, (some a36 : Option Addr) = some ad ∧ ∀ j u, r36[j]? = some u → V.cell? (ad.add j) = some u) := Lib.hid (fun _ => ⟨_, rfl, hn36⟩)
  have HR01 : Hid (∀ u ∈ r0, u.oneCell' = true) := Lib.hid (by rw [hr0]; exact rowOf_one _)
  have HR361 : Hid (∀ u ∈ r36, u.oneCell' = true) := Lib.hid (by rw [hr36]; exact rowOf_one _)
  have HQ : Hid (∀ (X : World) (v : Value), X.ownsRow V.heap.size 47 3 v (i + (n - (i + 1))) (r0 ++ r36) → X.ownsRow V.heap.size 47 3 v qs.length (rowOf qs)) := Lib.hid (fun X v ho => by
    rw [hqs, List.length_eraseIdx_of_lt (by rw [← HNP.out]; exact hil), List.eraseIdx_eq_take_drop_succ, rowOf_append, ← hr0, ← hr36, ← HNP.out]
    rw [show i + (n - (i + 1)) = n - 1 by omega] at ho
    exact ho)
  obtain ⟨X0, hX0⟩ : ∃ X, X = V := ⟨V, rfl⟩
  have HB : Hid (Below V.heap.size V X0) := Lib.hid (by rw [hX0]; exact Below.refl _ _)
  have hcz : X0.cell? ⟨g, 0, none⟩ = some (.int .i64 last) := by rw [hX0]; exact HC0.out
  rw [← hX0]
  have b1 : i + 1 ≤ n := by omega
  have b2 : i ≤ n := by omega
  have b3 : i ≤ cL := by omega
  have b4 : i + 1 ≤ cL := by omega
  have b5 : (i : Int) + 1 ≤ (n : Int) := by omega
  have hiw : IntKind.i64.wrap ((i : Int) + 1) = (i : Int) + 1 := by
    simp only [IntKind.wrap, IntKind.signed, IntKind.bits]
    simp
    omega
  have b6 : 0 ≤ (i : Int) + 1 := by omega
  have HQS := Lib.hid hqs
  clear hnw hn36 hr0 hr36 hrow hrow2 hqs hX0 HG0 HF0
  simp only [Array.replicate_succ, Array.replicate_zero, List.push_toArray, List.nil_append, List.cons_append]
  refine wpAnyH_take (i := 0) (v := ?_) (o_at HG 0 rfl) Gns (by kernel_rfl) (by kernel_rfl) (fun _ _ _ h => h) (Or.inl ⟨(by kernel_rfl), ?_⟩) (by first | trivial | assumption) ?_
  rotate_left
  · (intro w hSw; (try dsimp only at hSw); go_simp; try with_reducible rfl)
  try simp only [Act.put, List.getElem_toArray, List.getElem_cons_zero, List.getElem_cons_succ, List.setIfInBounds_toArray, List.set_cons_zero, List.set_cons_succ]
  refine wpAnyH_take (i := 2) (v := ?_) (o_at HG 2 rfl) Gns (by kernel_rfl) (by kernel_rfl) (fun _ _ _ h => h) (Or.inl ⟨(by kernel_rfl), ?_⟩) (by first | trivial | assumption) ?_
  rotate_left
  · (intro w hSw; (try dsimp only at hSw); go_simp; try with_reducible rfl)
  try simp only [Act.put, List.getElem_toArray, List.getElem_cons_zero, List.getElem_cons_succ, List.setIfInBounds_toArray, List.set_cons_zero, List.set_cons_succ]
  refine wpAnyH_take (i := 3) (v := ?_) (o_at HG 3 rfl) Gns (by kernel_rfl) (by kernel_rfl) (fun _ _ _ h => h) (Or.inl ⟨(by kernel_rfl), ?_⟩) (by first | trivial | assumption) ?_
  rotate_left
  · (intro w hSw; (try dsimp only at hSw); go_simp; try with_reducible rfl)
  try simp only [Act.put, List.getElem_toArray, List.getElem_cons_zero, List.getElem_cons_succ, List.setIfInBounds_toArray, List.set_cons_zero, List.set_cons_succ]
  refine wpAnyH_take (i := 4) (v := ?_) (o_at HG 4 rfl) Gns (by kernel_rfl) (by kernel_rfl) (fun _ _ _ h => h) (Or.inl ⟨(by kernel_rfl), ?_⟩) (by first | trivial | assumption) ?_
  rotate_left
  · (intro w hSw; (try dsimp only at hSw); go_simp; try with_reducible rfl)
  try simp only [Act.put, List.getElem_toArray, List.getElem_cons_zero, List.getElem_cons_succ, List.setIfInBounds_toArray, List.set_cons_zero, List.set_cons_succ]
  refine wpAnyH_take (i := 6) (v := ?_) (o_at HG 6 rfl) Gns (by kernel_rfl) (by kernel_rfl) (fun _ _ _ h => h) (Or.inl ⟨(by kernel_rfl), ?_⟩) (by first | trivial | assumption) ?_
  rotate_left
  · (intro w hSw; (try dsimp only at hSw); go_simp; try with_reducible rfl)
  try simp only [Act.put, List.getElem_toArray, List.getElem_cons_zero, List.getElem_cons_succ, List.setIfInBounds_toArray, List.set_cons_zero, List.set_cons_succ]
  refine wpAnyH_take (i := 9) (v := ?_) (o_at HG 9 rfl) Gns (by kernel_rfl) (by kernel_rfl) (fun _ _ _ h => h) (Or.inl ⟨(by kernel_rfl), ?_⟩) (by first | trivial | assumption) ?_
  rotate_left
  · (intro w hSw; (try dsimp only at hSw); go_simp; try with_reducible rfl)
  try simp only [Act.put, List.getElem_toArray, List.getElem_cons_zero, List.getElem_cons_succ, List.setIfInBounds_toArray, List.set_cons_zero, List.set_cons_succ]
  refine wpAnyH_take (i := 10) (v := ?_) (o_at HG 10 rfl) Gns (by kernel_rfl) (by kernel_rfl) (fun _ _ _ h => h) (Or.inl ⟨(by kernel_rfl), ?_⟩) (by first | trivial | assumption) ?_
  rotate_left
  · (intro w hSw; (try dsimp only at hSw); go_simp; try with_reducible rfl)
  try simp only [Act.put, List.getElem_toArray, List.getElem_cons_zero, List.getElem_cons_succ, List.setIfInBounds_toArray, List.set_cons_zero, List.set_cons_succ]
  refine wpAnyH_take (i := 11) (v := ?_) (o_at HG 11 rfl) Gns (by kernel_rfl) (by kernel_rfl) (fun _ _ _ h => h) (Or.inl ⟨(by kernel_rfl), ?_⟩) (by first | trivial | assumption) ?_
  rotate_left
  · (intro w hSw; (try dsimp only at hSw); go_simp; try with_reducible rfl)
  try simp only [Act.put, List.getElem_toArray, List.getElem_cons_zero, List.getElem_cons_succ, List.setIfInBounds_toArray, List.set_cons_zero, List.set_cons_succ]
  refine wpAnyH_take (i := 13) (v := ?_) (o_at HG 13 rfl) Gns (by kernel_rfl) (by kernel_rfl) (fun _ _ _ h => h) (Or.inl ⟨(by kernel_rfl), ?_⟩) (by first | trivial | assumption) ?_
  rotate_left
  · (intro w hSw; (try dsimp only at hSw); go_simp; try with_reducible rfl)
  try simp only [Act.put, List.getElem_toArray, List.getElem_cons_zero, List.getElem_cons_succ, List.setIfInBounds_toArray, List.set_cons_zero, List.set_cons_succ]
  refine wpAnyH_take (i := 14) (v := ?_) (o_at HG 14 rfl) Gns (by kernel_rfl) (by kernel_rfl) (fun _ _ _ h => h) (Or.inl ⟨(by kernel_rfl), ?_⟩) (by first | trivial | assumption) ?_
  rotate_left
  · (intro w hSw; (try dsimp only at hSw); go_simp; try with_reducible rfl)
  try simp only [Act.put, List.getElem_toArray, List.getElem_cons_zero, List.getElem_cons_succ, List.setIfInBounds_toArray, List.set_cons_zero, List.set_cons_succ]
  refine wpAnyH_ready (rs := [1, 5, 12]) (by kernel_rfl) (by simp) ?_
  refine AllReadyH.cons (o_at HG 1 rfl) ?_ (AllReadyH.cons (o_at HG 5 rfl) ?_ (AllReadyH.cons (o_at HG 12 rfl) ?_ (AllReadyH.nil)))
  · intro K' hK
    rw [if_pos (by kernel_rfl)]
    go_simp
    have hB : Below V.heap.size V (X0.alloc (.cells #[] 47)) := bel_alloc HB.out _
    have hxs : X0.heap.size < (X0.alloc (.cells #[] 47)).heap.size := by simp
    have hO : (X0.alloc (.cells #[] 47)).ownsRow V.heap.size 47 3 (.slice (some ⟨X0.heap.size, 0, none⟩) 0 0) 0 [] := World.ownsRow_made X0 #[] 0 HB.out.size (Nat.zero_le _) (by simp)
    have hs : (X0.alloc (.cells #[] 47)).cell? ⟨g, 0, none⟩ = some (.int .i64 last) := (hB.cell (World.block_lt_of_cell? _ _ HC0.out)).trans HC0.out
    refine hK.out _ _ (hs) (fun _ => ?_)
    clear hs
    clear HB
    have HO := Lib.hid hO
    clear hO
    have HB := Lib.hid hB
    clear hB hxs
    generalize (X0.alloc (.cells #[] 47)) = X1 at *
    generalize X0.heap.size = k27 at *
    try simp only [Act.put, List.getElem_toArray, List.getElem_cons_zero, List.getElem_cons_succ, List.setIfInBounds_toArray, List.set_cons_zero, List.set_cons_succ]
    refine wpAnyH_ready (rs := [5, 12]) (by kernel_rfl) (by simp) ?_
    refine AllReadyH.cons (o_at HG 5 rfl) ?_ (AllReadyH.cons (o_at HG 12 rfl) ?_ (AllReadyH.nil))
    · intro K' hK
      have hc1 : X1.cell? ⟨g, 1, none⟩ = some (.slice (some ⟨gg, 0, none⟩) n cL) := (HB.out.cell (World.block_lt_of_cell? _ _ HC1.out)).trans HC1.out
      rw [if_pos (by kernel_rfl)]
      go_simp
      clear hc1
      refine hK.out _ _ ((HB.out.cell (World.block_lt_of_cell? _ _ HC0.out)).trans HC0.out) (fun _ => ?_)
      try simp only [Act.put, List.getElem_toArray, List.getElem_cons_zero, List.getElem_cons_succ, List.setIfInBounds_toArray, List.set_cons_zero, List.set_cons_succ]
      refine wpAnyH_take (i := 7) (v := ?_) (o_at HG 7 rfl) Gns (by kernel_rfl) (by kernel_rfl) (fun _ _ _ h => h) (Or.inl ⟨(by kernel_rfl), ?_⟩) (by first | trivial | assumption) ?_
      rotate_left
      · (intro w hSw; (try dsimp only at hSw); go_simp; try with_reducible rfl)
      try simp only [Act.put, List.getElem_toArray, List.getElem_cons_zero, List.getElem_cons_succ, List.setIfInBounds_toArray, List.set_cons_zero, List.set_cons_succ]
      refine wpAnyH_ready (rs := [8, 12]) (by kernel_rfl) (by simp) ?_
      refine AllReadyH.cons (o_at HG 8 rfl) ?_ (AllReadyH.cons (o_at HG 12 rfl) ?_ (AllReadyH.nil))
      · intro K' hK
        refine step_app (by kernel_rfl) _ _ 42 rfl V.heap.size 47 z 3 40 Try.underlying42 hz hzs (by decide) (.slice (some ⟨k27, 0, none⟩) 0 0) 0 [] rfl HO.out (some ⟨gg, 0, none⟩) i cL r0 rfl HR0.out (fun e => by cases e) (fun hp => ?_) HR01.out (by unfold maxLen; omega) (by omega) HB.out.size ?_
        · obtain ⟨ad, e, hh⟩ := HR0n.out hp; exact ⟨ad, e, fun j u hu => (HB.out.cell (World.block_lt_of_cell? _ _ (hh j u hu))).trans (hh j u hu)⟩
        intro v1 X2 ho hg hv
        rw [List.nil_append, Nat.zero_add] at ho
        have hB : Below V.heap.size V X2 := bel_grown HB.out hg (fun k hk => (HO.out.lt k hk).1)
        have hs : X2.cell? ⟨g, 0, none⟩ = some (.int .i64 last) := (hB.cell (World.block_lt_of_cell? _ _ HC0.out)).trans HC0.out
        refine hK.out _ _ (hs) (fun _ => ?_)
        clear hs
        clear HO HB
        have HO : Hid (X2.ownsRow V.heap.size 47 3 v1 i r0) := ho
        have HB := Lib.hid hB
        clear ho hg hv hB
        try simp only [Act.put, List.getElem_toArray, List.getElem_cons_zero, List.getElem_cons_succ, List.setIfInBounds_toArray, List.set_cons_zero, List.set_cons_succ]
        refine wpAnyH_ready (rs := [12]) (by kernel_rfl) (by simp) ?_
        refine AllReadyH.cons (o_at HG 12 rfl) ?_ (AllReadyH.nil)
        · intro K' hK
          have hc1 : X2.cell? ⟨g, 1, none⟩ = some (.slice (some ⟨gg, 0, none⟩) n cL) := (HB.out.cell (World.block_lt_of_cell? _ _ HC1.out)).trans HC1.out
          rw [if_pos (by kernel_rfl)]
          go_simp
          clear hc1
          refine hK.out _ _ ((HB.out.cell (World.block_lt_of_cell? _ _ HC0.out)).trans HC0.out) (fun _ => ?_)
          try simp only [Act.put, List.getElem_toArray, List.getElem_cons_zero, List.getElem_cons_succ, List.setIfInBounds_toArray, List.set_cons_zero, List.set_cons_succ]
          refine wpAnyH_take (i := 15) (v := ?_) (o_at HG 15 rfl) Gns (by kernel_rfl) (by kernel_rfl) (fun _ _ _ h => h) (Or.inl ⟨(by kernel_rfl), ?_⟩) (by first | trivial | assumption) ?_
          rotate_left
          · (intro w hSw; (try dsimp only at hSw); go_simp; try with_reducible rfl)
          try simp only [Act.put, List.getElem_toArray, List.getElem_cons_zero, List.getElem_cons_succ, List.setIfInBounds_toArray, List.set_cons_zero, List.set_cons_succ]
          refine wpAnyH_ready (rs := [16]) (by kernel_rfl) (by simp) ?_
          refine AllReadyH.cons (o_at HG 16 rfl) ?_ (AllReadyH.nil)
          · intro K' hK
            refine step_app (by kernel_rfl) _ _ 42 rfl V.heap.size 47 z 3 40 Try.underlying42 hz hzs (by decide) v1 i r0 rfl HO.out (some a36) (n - (i + 1)) (cL - (i + 1)) r36 rfl HR36.out (fun e => by cases e) (fun hp => ?_) HR361.out (by unfold maxLen; omega) (by omega) HB.out.size ?_
            · obtain ⟨ad, e, hh⟩ := HR36n.out hp; exact ⟨ad, e, fun j u hu => (HB.out.cell (World.block_lt_of_cell? _ _ (hh j u hu))).trans (hh j u hu)⟩
            intro v2 X3 ho hg hv
            have hB : Below V.heap.size V X3 := bel_grown HB.out hg (fun k hk => (HO.out.lt k hk).1)
            have hs : X3.cell? ⟨g, 0, none⟩ = some (.int .i64 last) := (hB.cell (World.block_lt_of_cell? _ _ HC0.out)).trans HC0.out
            refine hK.out _ _ (hs) (fun _ => ?_)
            clear hs
            clear HO HB
            have hO : X3.ownsRow V.heap.size 47 3 v2 qs.length (rowOf qs) := HQ.out _ _ ho
            obtain ⟨A2, c2, rfl, -⟩ := own_FR hO
            have HO := Lib.hid hO
            have HB := Lib.hid hB
            clear ho hg hv hB hO
            have HGX : Hid (X3.heap[g]? = some (.cells #[.int .i64 last, .slice (some ⟨gg, 0, none⟩) n cL] 44 (0, 0))) := heap_below HGV.out HB.out
            have hfz : X3.frozen? ⟨g, 1, none⟩ = false := frozen_of_row _ g 1 _ _ HGX.out
            have hc1 : X3.cell? ⟨g, 1, none⟩ = some (.slice (some ⟨gg, 0, none⟩) n cL) := by rw [cell_of_row _ g 1 _ 44 (0, 0) HGX.out]; rfl
            have HFIN := Lib.hid (row_set (j := 1) (.slice A2 qs.length c2) HGX.out)
            try simp only [Act.put, List.getElem_toArray, List.getElem_cons_zero, List.getElem_cons_succ, List.setIfInBounds_toArray, List.set_cons_zero, List.set_cons_succ]
            refine wpAnyH_take (i := 17) (v := ?_) (o_at HG 17 rfl) Gns (by kernel_rfl) (by kernel_rfl) (fun _ _ _ h => h) (Or.inl ⟨(by kernel_rfl), ?_⟩) (by first | trivial | assumption) ?_
            rotate_left
            · (intro w hSw; (try dsimp only at hSw); go_simp; try with_reducible rfl)
            try simp only [Act.put, List.getElem_toArray, List.getElem_cons_zero, List.getElem_cons_succ, List.setIfInBounds_toArray, List.set_cons_zero, List.set_cons_succ]
            refine wpAnyH_take (i := 18) (v := ?_) (o_at HG 18 rfl) Gns (by kernel_rfl) (by kernel_rfl) (fun _ _ _ h => h) (Or.inl ⟨(by kernel_rfl), ?_⟩) (by first | trivial | assumption) ?_
            rotate_left
            · (intro w hSw; (try dsimp only at hSw); go_simp; try with_reducible rfl)
            try simp only [Act.put, List.getElem_toArray, List.getElem_cons_zero, List.getElem_cons_succ, List.setIfInBounds_toArray, List.set_cons_zero, List.set_cons_succ]
            refine wpAnyH_ready (rs := [19]) (by kernel_rfl) (by simp) ?_
            refine AllReadyH.cons (o_at HG 19 rfl) ?_ (AllReadyH.nil)
            · intro K' hK
              rw [if_pos (by kernel_rfl)]
              go_simp
              clear hfz hc1
              have hs : (X3.setCell ⟨g, 1, none⟩ (.slice A2 qs.length c2)).cell? ⟨g, 0, none⟩ = some (.int .i64 last) := by rw [cell_of_row _ g 0 _ 44 (0, 0) HFIN.out]; rfl
              refine hK.out _ _ (hs) (fun _ => ?_)
              clear hs
              have HEND := Lib.hid (HO.out)
              try simp only [Act.put, List.getElem_toArray, List.getElem_cons_zero, List.getElem_cons_succ, List.setIfInBounds_toArray, List.set_cons_zero, List.set_cons_succ]
              refine wpAnyH_done (by kernel_rfl) ?_ _
              have hgs := HSZV.out
              have hglo := HGL.out
              have q1 := (Below.heap_setCell X3 ⟨g, 1, none⟩ (.slice A2 qs.length c2) w.heap.size (by show w.heap.size ≠ g; omega)).trans (heap_below HA1.out HB.out)
              have q2 := (Below.heap_setCell X3 ⟨g, 1, none⟩ (.slice A2 qs.length c2) (w.heap.size + 1) (by show w.heap.size + 1 ≠ g; omega)).trans (heap_below HA2.out HB.out)
              have HY1 : Hid (Keeps (fun k => k = g) w (X3.setCell ⟨g, 1, none⟩ (.slice A2 qs.length c2))) := Lib.hid ((HKV.out.below HB.out).setCell (.inl rfl) _)
              have HY2 : Hid (w.heap.size + 1 < V.heap.size) := HSZV
              clear HA1 HA2 HKV HGX
              have HQ1 := Lib.hid q1
              have HQ2 := Lib.hid q2
              have t0 := cell_of_row _ _ 0 _ _ _ HQ2.out
              have t1 := cell_of_row _ _ 1 _ _ _ HQ2.out
              have t2 := cell_of_row _ _ 2 _ _ _ HQ2.out
              have s0 := cell_of_row _ _ 0 _ _ _ HQ1.out
              have s1 := cell_of_row _ _ 1 _ _ _ HQ1.out
              have s2 := cell_of_row _ _ 2 _ _ _ HQ1.out
              have f0 := frozen_of_row _ _ 0 _ _ HQ1.out
              have f1 := frozen_of_row _ _ 1 _ _ HQ1.out
              have f2 := frozen_of_row _ _ 2 _ _ HQ1.out
              simp at t0 t1 t2 s0 s1 s2
              clear q1 q2 hgs hglo
              have HH : Hid ((X3.setCell ⟨g, 1, none⟩ (.slice A2 qs.length c2)).ownsRow V.heap.size 47 3 (.slice A2 qs.length c2) qs.length (rowOf qs)) := Lib.hid (own_keep HEND.out fun k hk => Below.heap_setCell _ _ _ _ (by
                have h1 := (HEND.out.lt k hk).1
                have h2 := HGL.out
                have h3 := HY2.out
                show k ≠ g
                omega))
              clear HEND HB
              generalize X3.setCell ⟨g, 1, none⟩ (.slice A2 qs.length c2) = Z at *
              go_wp2
              have h2 := HGL.out
              have h3 := HY2.out
              rw [← HQS.out]
              refine bodyPost_ret (v := .tuple #[frameV p, .int .i64 0]) ?_ rfl ⟨rfl, HPUT.out _ A2 c2 (((HY1.out.setCell (.inr (Nat.le_refl _)) _).setCell (.inr (Nat.le_refl _)) _).setCell (.inr (Nat.le_refl _)) _) ?_ ?_⟩
              · rw [results_cell_tmp rfl]
                go_simp
                rfl
              · rw [Below.heap_setCell _ _ _ _ (by show g ≠ w.heap.size; omega), Below.heap_setCell _ _ _ _ (by show g ≠ w.heap.size; omega), Below.heap_setCell _ _ _ _ (by show g ≠ w.heap.size; omega)]
                exact HFIN.out
              · refine own_keep (own_mono HH.out (by omega)) fun k hk => ?_
                have h1 := (HH.out.lt k hk).1
                rw [Below.heap_setCell _ _ _ _ (by show k ≠ w.heap.size; omega), Below.heap_setCell _ _ _ _ (by show k ≠ w.heap.size; omega), Below.heap_setCell _ _ _ _ (by show k ≠ w.heap.size; omega)]
      · intro K' hK
        have hc1 : X1.cell? ⟨g, 1, none⟩ = some (.slice (some ⟨gg, 0, none⟩) n cL) := (HB.out.cell (World.block_lt_of_cell? _ _ HC1.out)).trans HC1.out
        rw [if_pos (by kernel_rfl)]
        go_simp
        clear hc1
        refine hK.out _ _ ((HB.out.cell (World.block_lt_of_cell? _ _ HC0.out)).trans HC0.out) (fun _ => ?_)
        try simp only [Act.put, List.getElem_toArray, List.getElem_cons_zero, List.getElem_cons_succ, List.setIfInBounds_toArray, List.set_cons_zero, List.set_cons_succ]
        refine wpAnyH_take (i := 15) (v := ?_) (o_at HG 15 rfl) Gns (by kernel_rfl) (by kernel_rfl) (fun _ _ _ h => h) (Or.inl ⟨(by kernel_rfl), ?_⟩) (by first | trivial | assumption) ?_
        rotate_left
        · (intro w hSw; (try dsimp only at hSw); go_simp; try with_reducible rfl)
        try simp only [Act.put, List.getElem_toArray, List.getElem_cons_zero, List.getElem_cons_succ, List.setIfInBounds_toArray, List.set_cons_zero, List.set_cons_succ]
        refine wpAnyH_ready (rs := [8]) (by kernel_rfl) (by simp) ?_
        refine AllReadyH.cons (o_at HG 8 rfl) ?_ (AllReadyH.nil)
        · intro K' hK
          refine step_app (by kernel_rfl) _ _ 42 rfl V.heap.size 47 z 3 40 Try.underlying42 hz hzs (by decide) (.slice (some ⟨k27, 0, none⟩) 0 0) 0 [] rfl HO.out (some ⟨gg, 0, none⟩) i cL r0 rfl HR0.out (fun e => by cases e) (fun hp => ?_) HR01.out (by unfold maxLen; omega) (by omega) HB.out.size ?_
          · obtain ⟨ad, e, hh⟩ := HR0n.out hp; exact ⟨ad, e, fun j u hu => (HB.out.cell (World.block_lt_of_cell? _ _ (hh j u hu))).trans (hh j u hu)⟩
          intro v1 X2 ho hg hv
          rw [List.nil_append, Nat.zero_add] at ho
          have hB : Below V.heap.size V X2 := bel_grown HB.out hg (fun k hk => (HO.out.lt k hk).1)
          have hs : X2.cell? ⟨g, 0, none⟩ = some (.int .i64 last) := (hB.cell (World.block_lt_of_cell? _ _ HC0.out)).trans HC0.out
          refine hK.out _ _ (hs) (fun _ => ?_)
          clear hs
          clear HO HB
          have HO : Hid (X2.ownsRow V.heap.size 47 3 v1 i r0) := ho
          have HB := Lib.hid hB
          clear ho hg hv hB
          try simp only [Act.put, List.getElem_toArray, List.getElem_cons_zero, List.getElem_cons_succ, List.setIfInBounds_toArray, List.set_cons_zero, List.set_cons_succ]
          refine wpAnyH_ready (rs := [16]) (by kernel_rfl) (by simp) ?_
          refine AllReadyH.cons (o_at HG 16 rfl) ?_ (AllReadyH.nil)
          · intro K' hK
            refine step_app (by kernel_rfl) _ _ 42 rfl V.heap.size 47 z 3 40 Try.underlying42 hz hzs (by decide) v1 i r0 rfl HO.out (some a36) (n - (i + 1)) (cL - (i + 1)) r36 rfl HR36.out (fun e => by cases e) (fun hp => ?_) HR361.out (by unfold maxLen; omega) (by omega) HB.out.size ?_
            · obtain ⟨ad, e, hh⟩ := HR36n.out hp; exact ⟨ad, e, fun j u hu => (HB.out.cell (World.block_lt_of_cell? _ _ (hh j u hu))).trans (hh j u hu)⟩
            intro v2 X3 ho hg hv
            have hB : Below V.heap.size V X3 := bel_grown HB.out hg (fun k hk => (HO.out.lt k hk).1)
            have hs : X3.cell? ⟨g, 0, none⟩ = some (.int .i64 last) := (hB.cell (World.block_lt_of_cell? _ _ HC0.out)).trans HC0.out
            refine hK.out _ _ (hs) (fun _ => ?_)
            clear hs
            clear HO HB
            have hO : X3.ownsRow V.heap.size 47 3 v2 qs.length (rowOf qs) := HQ.out _ _ ho
            obtain ⟨A2, c2, rfl, -⟩ := own_FR hO
            have HO := Lib.hid hO
            have HB := Lib.hid hB
            clear ho hg hv hB hO
            have HGX : Hid (X3.heap[g]? = some (.cells #[.int .i64 last, .slice (some ⟨gg, 0, none⟩) n cL] 44 (0, 0))) := heap_below HGV.out HB.out
            have hfz : X3.frozen? ⟨g, 1, none⟩ = false := frozen_of_row _ g 1 _ _ HGX.out
            have hc1 : X3.cell? ⟨g, 1, none⟩ = some (.slice (some ⟨gg, 0, none⟩) n cL) := by rw [cell_of_row _ g 1 _ 44 (0, 0) HGX.out]; rfl
            have HFIN := Lib.hid (row_set (j := 1) (.slice A2 qs.length c2) HGX.out)
            try simp only [Act.put, List.getElem_toArray, List.getElem_cons_zero, List.getElem_cons_succ, List.setIfInBounds_toArray, List.set_cons_zero, List.set_cons_succ]
            refine wpAnyH_take (i := 17) (v := ?_) (o_at HG 17 rfl) Gns (by kernel_rfl) (by kernel_rfl) (fun _ _ _ h => h) (Or.inl ⟨(by kernel_rfl), ?_⟩) (by first | trivial | assumption) ?_
            rotate_left
            · (intro w hSw; (try dsimp only at hSw); go_simp; try with_reducible rfl)
            try simp only [Act.put, List.getElem_toArray, List.getElem_cons_zero, List.getElem_cons_succ, List.setIfInBounds_toArray, List.set_cons_zero, List.set_cons_succ]
            refine wpAnyH_take (i := 18) (v := ?_) (o_at HG 18 rfl) Gns (by kernel_rfl) (by kernel_rfl) (fun _ _ _ h => h) (Or.inl ⟨(by kernel_rfl), ?_⟩) (by first | trivial | assumption) ?_
            rotate_left
            · (intro w hSw; (try dsimp only at hSw); go_simp; try with_reducible rfl)
            try simp only [Act.put, List.getElem_toArray, List.getElem_cons_zero, List.getElem_cons_succ, List.setIfInBounds_toArray, List.set_cons_zero, List.set_cons_succ]
            refine wpAnyH_ready (rs := [19]) (by kernel_rfl) (by simp) ?_
            refine AllReadyH.cons (o_at HG 19 rfl) ?_ (AllReadyH.nil)
            · intro K' hK
              rw [if_pos (by kernel_rfl)]
              go_simp
              clear hfz hc1
              have hs : (X3.setCell ⟨g, 1, none⟩ (.slice A2 qs.length c2)).cell? ⟨g, 0, none⟩ = some (.int .i64 last) := by rw [cell_of_row _ g 0 _ 44 (0, 0) HFIN.out]; rfl
              refine hK.out _ _ (hs) (fun _ => ?_)
              clear hs
              have HEND := Lib.hid (HO.out)
              try simp only [Act.put, List.getElem_toArray, List.getElem_cons_zero, List.getElem_cons_succ, List.setIfInBounds_toArray, List.set_cons_zero, List.set_cons_succ]
              refine wpAnyH_done (by kernel_rfl) ?_ _
              have hgs := HSZV.out
              have hglo := HGL.out
              have q1 := (Below.heap_setCell X3 ⟨g, 1, none⟩ (.slice A2 qs.length c2) w.heap.size (by show w.heap.size ≠ g; omega)).trans (heap_below HA1.out HB.out)
              have q2 := (Below.heap_setCell X3 ⟨g, 1, none⟩ (.slice A2 qs.length c2) (w.heap.size + 1) (by show w.heap.size + 1 ≠ g; omega)).trans (heap_below HA2.out HB.out)
              have HY1 : Hid (Keeps (fun k => k = g) w (X3.setCell ⟨g, 1, none⟩ (.slice A2 qs.length c2))) := Lib.hid ((HKV.out.below HB.out).setCell (.inl rfl) _)
              have HY2 : Hid (w.heap.size + 1 < V.heap.size) := HSZV
              clear HA1 HA2 HKV HGX
              have HQ1 := Lib.hid q1
              have HQ2 := Lib.hid q2
              have t0 := cell_of_row _ _ 0 _ _ _ HQ2.out
              have t1 := cell_of_row _ _ 1 _ _ _ HQ2.out
              have t2 := cell_of_row _ _ 2 _ _ _ HQ2.out
              have s0 := cell_of_row _ _ 0 _ _ _ HQ1.out
              have s1 := cell_of_row _ _ 1 _ _ _ HQ1.out
              have s2 := cell_of_row _ _ 2 _ _ _ HQ1.out
              have f0 := frozen_of_row _ _ 0 _ _ HQ1.out
              have f1 := frozen_of_row _ _ 1 _ _ HQ1.out
              have f2 := frozen_of_row _ _ 2 _ _ HQ1.out
              simp at t0 t1 t2 s0 s1 s2
              clear q1 q2 hgs hglo
              have HH : Hid ((X3.setCell ⟨g, 1, none⟩ (.slice A2 qs.length c2)).ownsRow V.heap.size 47 3 (.slice A2 qs.length c2) qs.length (rowOf qs)) := Lib.hid (own_keep HEND.out fun k hk => Below.heap_setCell _ _ _ _ (by
                have h1 := (HEND.out.lt k hk).1
                have h2 := HGL.out
                have h3 := HY2.out
                show k ≠ g
                omega))
              clear HEND HB
              generalize X3.setCell ⟨g, 1, none⟩ (.slice A2 qs.length c2) = Z at *
              go_wp2
              have h2 := HGL.out
              have h3 := HY2.out
              rw [← HQS.out]
              refine bodyPost_ret (v := .tuple #[frameV p, .int .i64 0]) ?_ rfl ⟨rfl, HPUT.out _ A2 c2 (((HY1.out.setCell (.inr (Nat.le_refl _)) _).setCell (.inr (Nat.le_refl _)) _).setCell (.inr (Nat.le_refl _)) _) ?_ ?_⟩
              · rw [results_cell_tmp rfl]
                go_simp
                rfl
              · rw [Below.heap_setCell _ _ _ _ (by show g ≠ w.heap.size; omega), Below.heap_setCell _ _ _ _ (by show g ≠ w.heap.size; omega), Below.heap_setCell _ _ _ _ (by show g ≠ w.heap.size; omega)]
                exact HFIN.out
              · refine own_keep (own_mono HH.out (by omega)) fun k hk => ?_
                have h1 := (HH.out.lt k hk).1
                rw [Below.heap_setCell _ _ _ _ (by show k ≠ w.heap.size; omega), Below.heap_setCell _ _ _ _ (by show k ≠ w.heap.size; omega), Below.heap_setCell _ _ _ _ (by show k ≠ w.heap.size; omega)]
    · intro K' hK
      have hc1 : X1.cell? ⟨g, 1, none⟩ = some (.slice (some ⟨gg, 0, none⟩) n cL) := (HB.out.cell (World.block_lt_of_cell? _ _ HC1.out)).trans HC1.out
      rw [if_pos (by kernel_rfl)]
      go_simp
      clear hc1
      refine hK.out _ _ ((HB.out.cell (World.block_lt_of_cell? _ _ HC0.out)).trans HC0.out) (fun _ => ?_)
      try simp only [Act.put, List.getElem_toArray, List.getElem_cons_zero, List.getElem_cons_succ, List.setIfInBounds_toArray, List.set_cons_zero, List.set_cons_succ]
      refine wpAnyH_take (i := 15) (v := ?_) (o_at HG 15 rfl) Gns (by kernel_rfl) (by kernel_rfl) (fun _ _ _ h => h) (Or.inl ⟨(by kernel_rfl), ?_⟩) (by first | trivial | assumption) ?_
      rotate_left
      · (intro w hSw; (try dsimp only at hSw); go_simp; try with_reducible rfl)
      try simp only [Act.put, List.getElem_toArray, List.getElem_cons_zero, List.getElem_cons_succ, List.setIfInBounds_toArray, List.set_cons_zero, List.set_cons_succ]
      refine wpAnyH_ready (rs := [5]) (by kernel_rfl) (by simp) ?_
      refine AllReadyH.cons (o_at HG 5 rfl) ?_ (AllReadyH.nil)
      · intro K' hK
        have hc1 : X1.cell? ⟨g, 1, none⟩ = some (.slice (some ⟨gg, 0, none⟩) n cL) := (HB.out.cell (World.block_lt_of_cell? _ _ HC1.out)).trans HC1.out
        rw [if_pos (by kernel_rfl)]
        go_simp
        clear hc1
        refine hK.out _ _ ((HB.out.cell (World.block_lt_of_cell? _ _ HC0.out)).trans HC0.out) (fun _ => ?_)
        try simp only [Act.put, List.getElem_toArray, List.getElem_cons_zero, List.getElem_cons_succ, List.setIfInBounds_toArray, List.set_cons_zero, List.set_cons_succ]
        refine wpAnyH_take (i := 7) (v := ?_) (o_at HG 7 rfl) Gns (by kernel_rfl) (by kernel_rfl) (fun _ _ _ h => h) (Or.inl ⟨(by kernel_rfl), ?_⟩) (by first | trivial | assumption) ?_
        rotate_left
        · (intro w hSw; (try dsimp only at hSw); go_simp; try with_reducible rfl)
        try simp only [Act.put, List.getElem_toArray, List.getElem_cons_zero, List.getElem_cons_succ, List.setIfInBounds_toArray, List.set_cons_zero, List.set_cons_succ]
        refine wpAnyH_ready (rs := [8]) (by kernel_rfl) (by simp) ?_
        refine AllReadyH.cons (o_at HG 8 rfl) ?_ (AllReadyH.nil)
        · intro K' hK
          refine step_app (by kernel_rfl) _ _ 42 rfl V.heap.size 47 z 3 40 Try.underlying42 hz hzs (by decide) (.slice (some ⟨k27, 0, none⟩) 0 0) 0 [] rfl HO.out (some ⟨gg, 0, none⟩) i cL r0 rfl HR0.out (fun e => by cases e) (fun hp => ?_) HR01.out (by unfold maxLen; omega) (by omega) HB.out.size ?_
          · obtain ⟨ad, e, hh⟩ := HR0n.out hp; exact ⟨ad, e, fun j u hu => (HB.out.cell (World.block_lt_of_cell? _ _ (hh j u hu))).trans (hh j u hu)⟩
          intro v1 X2 ho hg hv
          rw [List.nil_append, Nat.zero_add] at ho
          have hB : Below V.heap.size V X2 := bel_grown HB.out hg (fun k hk => (HO.out.lt k hk).1)
          have hs : X2.cell? ⟨g, 0, none⟩ = some (.int .i64 last) := (hB.cell (World.block_lt_of_cell? _ _ HC0.out)).trans HC0.out
          refine hK.out _ _ (hs) (fun _ => ?_)
          clear hs
          clear HO HB
          have HO : Hid (X2.ownsRow V.heap.size 47 3 v1 i r0) := ho
          have HB := Lib.hid hB
          clear ho hg hv hB
          try simp only [Act.put, List.getElem_toArray, List.getElem_cons_zero, List.getElem_cons_succ, List.setIfInBounds_toArray, List.set_cons_zero, List.set_cons_succ]
          refine wpAnyH_ready (rs := [16]) (by kernel_rfl) (by simp) ?_
          refine AllReadyH.cons (o_at HG 16 rfl) ?_ (AllReadyH.nil)
          · intro K' hK
            refine step_app (by kernel_rfl) _ _ 42 rfl V.heap.size 47 z 3 40 Try.underlying42 hz hzs (by decide) v1 i r0 rfl HO.out (some a36) (n - (i + 1)) (cL - (i + 1)) r36 rfl HR36.out (fun e => by cases e) (fun hp => ?_) HR361.out (by unfold maxLen; omega) (by omega) HB.out.size ?_
            · obtain ⟨ad, e, hh⟩ := HR36n.out hp; exact ⟨ad, e, fun j u hu => (HB.out.cell (World.block_lt_of_cell? _ _ (hh j u hu))).trans (hh j u hu)⟩
            intro v2 X3 ho hg hv
            have hB : Below V.heap.size V X3 := bel_grown HB.out hg (fun k hk => (HO.out.lt k hk).1)
            have hs : X3.cell? ⟨g, 0, none⟩ = some (.int .i64 last) := (hB.cell (World.block_lt_of_cell? _ _ HC0.out)).trans HC0.out
            refine hK.out _ _ (hs) (fun _ => ?_)
            clear hs
            clear HO HB
            have hO : X3.ownsRow V.heap.size 47 3 v2 qs.length (rowOf qs) := HQ.out _ _ ho
            obtain ⟨A2, c2, rfl, -⟩ := own_FR hO
            have HO := Lib.hid hO
            have HB := Lib.hid hB
            clear ho hg hv hB hO
            have HGX : Hid (X3.heap[g]? = some (.cells #[.int .i64 last, .slice (some ⟨gg, 0, none⟩) n cL] 44 (0, 0))) := heap_below HGV.out HB.out
            have hfz : X3.frozen? ⟨g, 1, none⟩ = false := frozen_of_row _ g 1 _ _ HGX.out
            have hc1 : X3.cell? ⟨g, 1, none⟩ = some (.slice (some ⟨gg, 0, none⟩) n cL) := by rw [cell_of_row _ g 1 _ 44 (0, 0) HGX.out]; rfl
            have HFIN := Lib.hid (row_set (j := 1) (.slice A2 qs.length c2) HGX.out)
            try simp only [Act.put, List.getElem_toArray, List.getElem_cons_zero, List.getElem_cons_succ, List.setIfInBounds_toArray, List.set_cons_zero, List.set_cons_succ]
            refine wpAnyH_take (i := 17) (v := ?_) (o_at HG 17 rfl) Gns (by kernel_rfl) (by kernel_rfl) (fun _ _ _ h => h) (Or.inl ⟨(by kernel_rfl), ?_⟩) (by first | trivial | assumption) ?_
            rotate_left
            · (intro w hSw; (try dsimp only at hSw); go_simp; try with_reducible rfl)
            try simp only [Act.put, List.getElem_toArray, List.getElem_cons_zero, List.getElem_cons_succ, List.setIfInBounds_toArray, List.set_cons_zero, List.set_cons_succ]
            refine wpAnyH_take (i := 18) (v := ?_) (o_at HG 18 rfl) Gns (by kernel_rfl) (by kernel_rfl) (fun _ _ _ h => h) (Or.inl ⟨(by kernel_rfl), ?_⟩) (by first | trivial | assumption) ?_
            rotate_left
            · (intro w hSw; (try dsimp only at hSw); go_simp; try with_reducible rfl)
            try simp only [Act.put, List.getElem_toArray, List.getElem_cons_zero, List.getElem_cons_succ, List.setIfInBounds_toArray, List.set_cons_zero, List.set_cons_succ]
            refine wpAnyH_ready (rs := [19]) (by kernel_rfl) (by simp) ?_
            refine AllReadyH.cons (o_at HG 19 rfl) ?_ (AllReadyH.nil)
            · intro K' hK
              rw [if_pos (by kernel_rfl)]
              go_simp
              clear hfz hc1
              have hs : (X3.setCell ⟨g, 1, none⟩ (.slice A2 qs.length c2)).cell? ⟨g, 0, none⟩ = some (.int .i64 last) := by rw [cell_of_row _ g 0 _ 44 (0, 0) HFIN.out]; rfl
              refine hK.out _ _ (hs) (fun _ => ?_)
              clear hs
              have HEND := Lib.hid (HO.out)
              try simp only [Act.put, List.getElem_toArray, List.getElem_cons_zero, List.getElem_cons_succ, List.setIfInBounds_toArray, List.set_cons_zero, List.set_cons_succ]
              refine wpAnyH_done (by kernel_rfl) ?_ _
              have hgs := HSZV.out
              have hglo := HGL.out
              have q1 := (Below.heap_setCell X3 ⟨g, 1, none⟩ (.slice A2 qs.length c2) w.heap.size (by show w.heap.size ≠ g; omega)).trans (heap_below HA1.out HB.out)
              have q2 := (Below.heap_setCell X3 ⟨g, 1, none⟩ (.slice A2 qs.length c2) (w.heap.size + 1) (by show w.heap.size + 1 ≠ g; omega)).trans (heap_below HA2.out HB.out)
              have HY1 : Hid (Keeps (fun k => k = g) w (X3.setCell ⟨g, 1, none⟩ (.slice A2 qs.length c2))) := Lib.hid ((HKV.out.below HB.out).setCell (.inl rfl) _)
              have HY2 : Hid (w.heap.size + 1 < V.heap.size) := HSZV
              clear HA1 HA2 HKV HGX
              have HQ1 := Lib.hid q1
              have HQ2 := Lib.hid q2
              have t0 := cell_of_row _ _ 0 _ _ _ HQ2.out
              have t1 := cell_of_row _ _ 1 _ _ _ HQ2.out
              have t2 := cell_of_row _ _ 2 _ _ _ HQ2.out
              have s0 := cell_of_row _ _ 0 _ _ _ HQ1.out
              have s1 := cell_of_row _ _ 1 _ _ _ HQ1.out
              have s2 := cell_of_row _ _ 2 _ _ _ HQ1.out
              have f0 := frozen_of_row _ _ 0 _ _ HQ1.out
              have f1 := frozen_of_row _ _ 1 _ _ HQ1.out
              have f2 := frozen_of_row _ _ 2 _ _ HQ1.out
              simp at t0 t1 t2 s0 s1 s2
              clear q1 q2 hgs hglo
              have HH : Hid ((X3.setCell ⟨g, 1, none⟩ (.slice A2 qs.length c2)).ownsRow V.heap.size 47 3 (.slice A2 qs.length c2) qs.length (rowOf qs)) := Lib.hid (own_keep HEND.out fun k hk => Below.heap_setCell _ _ _ _ (by
                have h1 := (HEND.out.lt k hk).1
                have h2 := HGL.out
                have h3 := HY2.out
                show k ≠ g
                omega))
              clear HEND HB
              generalize X3.setCell ⟨g, 1, none⟩ (.slice A2 qs.length c2) = Z at *
              go_wp2
              have h2 := HGL.out
              have h3 := HY2.out
              rw [← HQS.out]
              refine bodyPost_ret (v := .tuple #[frameV p, .int .i64 0]) ?_ rfl ⟨rfl, HPUT.out _ A2 c2 (((HY1.out.setCell (.inr (Nat.le_refl _)) _).setCell (.inr (Nat.le_refl _)) _).setCell (.inr (Nat.le_refl _)) _) ?_ ?_⟩
              · rw [results_cell_tmp rfl]
                go_simp
                rfl
              · rw [Below.heap_setCell _ _ _ _ (by show g ≠ w.heap.size; omega), Below.heap_setCell _ _ _ _ (by show g ≠ w.heap.size; omega), Below.heap_setCell _ _ _ _ (by show g ≠ w.heap.size; omega)]
                exact HFIN.out
              · refine own_keep (own_mono HH.out (by omega)) fun k hk => ?_
                have h1 := (HH.out.lt k hk).1
                rw [Below.heap_setCell _ _ _ _ (by show k ≠ w.heap.size; omega), Below.heap_setCell _ _ _ _ (by show k ≠ w.heap.size; omega), Below.heap_setCell _ _ _ _ (by show k ≠ w.heap.size; omega)]
  · intro K' hK
    have hc1 : X0.cell? ⟨g, 1, none⟩ = some (.slice (some ⟨gg, 0, none⟩) n cL) := (HB.out.cell (World.block_lt_of_cell? _ _ HC1.out)).trans HC1.out
    rw [if_pos (by kernel_rfl)]
    go_simp
    clear hc1
    refine hK.out _ _ ((HB.out.cell (World.block_lt_of_cell? _ _ HC0.out)).trans HC0.out) (fun _ => ?_)
    try simp only [Act.put, List.getElem_toArray, List.getElem_cons_zero, List.getElem_cons_succ, List.setIfInBounds_toArray, List.set_cons_zero, List.set_cons_succ]
    refine wpAnyH_take (i := 7) (v := ?_) (o_at HG 7 rfl) Gns (by kernel_rfl) (by kernel_rfl) (fun _ _ _ h => h) (Or.inl ⟨(by kernel_rfl), ?_⟩) (by first | trivial | assumption) ?_
    rotate_left
    · (intro w hSw; (try dsimp only at hSw); go_simp; try with_reducible rfl)
    try simp only [Act.put, List.getElem_toArray, List.getElem_cons_zero, List.getElem_cons_succ, List.setIfInBounds_toArray, List.set_cons_zero, List.set_cons_succ]
    refine wpAnyH_ready (rs := [1, 12]) (by kernel_rfl) (by simp) ?_
    refine AllReadyH.cons (o_at HG 1 rfl) ?_ (AllReadyH.cons (o_at HG 12 rfl) ?_ (AllReadyH.nil))
    · intro K' hK
      rw [if_pos (by kernel_rfl)]
      go_simp
      have hB : Below V.heap.size V (X0.alloc (.cells #[] 47)) := bel_alloc HB.out _
      have hxs : X0.heap.size < (X0.alloc (.cells #[] 47)).heap.size := by simp
      have hO : (X0.alloc (.cells #[] 47)).ownsRow V.heap.size 47 3 (.slice (some ⟨X0.heap.size, 0, none⟩) 0 0) 0 [] := World.ownsRow_made X0 #[] 0 HB.out.size (Nat.zero_le _) (by simp)
      have hs : (X0.alloc (.cells #[] 47)).cell? ⟨g, 0, none⟩ = some (.int .i64 last) := (hB.cell (World.block_lt_of_cell? _ _ HC0.out)).trans HC0.out
      refine hK.out _ _ (hs) (fun _ => ?_)
      clear hs
      clear HB
      have HO := Lib.hid hO
      clear hO
      have HB := Lib.hid hB
      clear hB hxs
      generalize (X0.alloc (.cells #[] 47)) = X1 at *
      generalize X0.heap.size = k27 at *
      try simp only [Act.put, List.getElem_toArray, List.getElem_cons_zero, List.getElem_cons_succ, List.setIfInBounds_toArray, List.set_cons_zero, List.set_cons_succ]
      refine wpAnyH_ready (rs := [8, 12]) (by kernel_rfl) (by simp) ?_
      refine AllReadyH.cons (o_at HG 8 rfl) ?_ (AllReadyH.cons (o_at HG 12 rfl) ?_ (AllReadyH.nil))
      · intro K' hK
        refine step_app (by kernel_rfl) _ _ 42 rfl V.heap.size 47 z 3 40 Try.underlying42 hz hzs (by decide) (.slice (some ⟨k27, 0, none⟩) 0 0) 0 [] rfl HO.out (some ⟨gg, 0, none⟩) i cL r0 rfl HR0.out (fun e => by cases e) (fun hp => ?_) HR01.out (by unfold maxLen; omega) (by omega) HB.out.size ?_
        · obtain ⟨ad, e, hh⟩ := HR0n.out hp; exact ⟨ad, e, fun j u hu => (HB.out.cell (World.block_lt_of_cell? _ _ (hh j u hu))).trans (hh j u hu)⟩
        intro v1 X2 ho hg hv
        rw [List.nil_append, Nat.zero_add] at ho
        have hB : Below V.heap.size V X2 := bel_grown HB.out hg (fun k hk => (HO.out.lt k hk).1)
        have hs : X2.cell? ⟨g, 0, none⟩ = some (.int .i64 last) := (hB.cell (World.block_lt_of_cell? _ _ HC0.out)).trans HC0.out
        refine hK.out _ _ (hs) (fun _ => ?_)
        clear hs
        clear HO HB
        have HO : Hid (X2.ownsRow V.heap.size 47 3 v1 i r0) := ho
        have HB := Lib.hid hB
        clear ho hg hv hB
        try simp only [Act.put, List.getElem_toArray, List.getElem_cons_zero, List.getElem_cons_succ, List.setIfInBounds_toArray, List.set_cons_zero, List.set_cons_succ]
        refine wpAnyH_ready (rs := [12]) (by kernel_rfl) (by simp) ?_
        refine AllReadyH.cons (o_at HG 12 rfl) ?_ (AllReadyH.nil)
        · intro K' hK
          have hc1 : X2.cell? ⟨g, 1, none⟩ = some (.slice (some ⟨gg, 0, none⟩) n cL) := (HB.out.cell (World.block_lt_of_cell? _ _ HC1.out)).trans HC1.out
          rw [if_pos (by kernel_rfl)]
          go_simp
          clear hc1
          refine hK.out _ _ ((HB.out.cell (World.block_lt_of_cell? _ _ HC0.out)).trans HC0.out) (fun _ => ?_)
          try simp only [Act.put, List.getElem_toArray, List.getElem_cons_zero, List.getElem_cons_succ, List.setIfInBounds_toArray, List.set_cons_zero, List.set_cons_succ]
          refine wpAnyH_take (i := 15) (v := ?_) (o_at HG 15 rfl) Gns (by kernel_rfl) (by kernel_rfl) (fun _ _ _ h => h) (Or.inl ⟨(by kernel_rfl), ?_⟩) (by first | trivial | assumption) ?_
          rotate_left
          · (intro w hSw; (try dsimp only at hSw); go_simp; try with_reducible rfl)
          try simp only [Act.put, List.getElem_toArray, List.getElem_cons_zero, List.getElem_cons_succ, List.setIfInBounds_toArray, List.set_cons_zero, List.set_cons_succ]
          refine wpAnyH_ready (rs := [16]) (by kernel_rfl) (by simp) ?_
          refine AllReadyH.cons (o_at HG 16 rfl) ?_ (AllReadyH.nil)
          · intro K' hK
            refine step_app (by kernel_rfl) _ _ 42 rfl V.heap.size 47 z 3 40 Try.underlying42 hz hzs (by decide) v1 i r0 rfl HO.out (some a36) (n - (i + 1)) (cL - (i + 1)) r36 rfl HR36.out (fun e => by cases e) (fun hp => ?_) HR361.out (by unfold maxLen; omega) (by omega) HB.out.size ?_
            · obtain ⟨ad, e, hh⟩ := HR36n.out hp; exact ⟨ad, e, fun j u hu => (HB.out.cell (World.block_lt_of_cell? _ _ (hh j u hu))).trans (hh j u hu)⟩
            intro v2 X3 ho hg hv
            have hB : Below V.heap.size V X3 := bel_grown HB.out hg (fun k hk => (HO.out.lt k hk).1)
            have hs : X3.cell? ⟨g, 0, none⟩ = some (.int .i64 last) := (hB.cell (World.block_lt_of_cell? _ _ HC0.out)).trans HC0.out
            refine hK.out _ _ (hs) (fun _ => ?_)
            clear hs
            clear HO HB
            have hO : X3.ownsRow V.heap.size 47 3 v2 qs.length (rowOf qs) := HQ.out _ _ ho
            obtain ⟨A2, c2, rfl, -⟩ := own_FR hO
            have HO := Lib.hid hO
            have HB := Lib.hid hB
            clear ho hg hv hB hO
            have HGX : Hid (X3.heap[g]? = some (.cells #[.int .i64 last, .slice (some ⟨gg, 0, none⟩) n cL] 44 (0, 0))) := heap_below HGV.out HB.out
            have hfz : X3.frozen? ⟨g, 1, none⟩ = false := frozen_of_row _ g 1 _ _ HGX.out
            have hc1 : X3.cell? ⟨g, 1, none⟩ = some (.slice (some ⟨gg, 0, none⟩) n cL) := by rw [cell_of_row _ g 1 _ 44 (0, 0) HGX.out]; rfl
            have HFIN := Lib.hid (row_set (j := 1) (.slice A2 qs.length c2) HGX.out)
            try simp only [Act.put, List.getElem_toArray, List.getElem_cons_zero, List.getElem_cons_succ, List.setIfInBounds_toArray, List.set_cons_zero, List.set_cons_succ]
            refine wpAnyH_take (i := 17) (v := ?_) (o_at HG 17 rfl) Gns (by kernel_rfl) (by kernel_rfl) (fun _ _ _ h => h) (Or.inl ⟨(by kernel_rfl), ?_⟩) (by first | trivial | assumption) ?_
            rotate_left
            · (intro w hSw; (try dsimp only at hSw); go_simp; try with_reducible rfl)
            try simp only [Act.put, List.getElem_toArray, List.getElem_cons_zero, List.getElem_cons_succ, List.setIfInBounds_toArray, List.set_cons_zero, List.set_cons_succ]
            refine wpAnyH_take (i := 18) (v := ?_) (o_at HG 18 rfl) Gns (by kernel_rfl) (by kernel_rfl) (fun _ _ _ h => h) (Or.inl ⟨(by kernel_rfl), ?_⟩) (by first | trivial | assumption) ?_
            rotate_left
            · (intro w hSw; (try dsimp only at hSw); go_simp; try with_reducible rfl)
            try simp only [Act.put, List.getElem_toArray, List.getElem_cons_zero, List.getElem_cons_succ, List.setIfInBounds_toArray, List.set_cons_zero, List.set_cons_succ]
            refine wpAnyH_ready (rs := [19]) (by kernel_rfl) (by simp) ?_
            refine AllReadyH.cons (o_at HG 19 rfl) ?_ (AllReadyH.nil)
            · intro K' hK
              rw [if_pos (by kernel_rfl)]
              go_simp
              clear hfz hc1
              have hs : (X3.setCell ⟨g, 1, none⟩ (.slice A2 qs.length c2)).cell? ⟨g, 0, none⟩ = some (.int .i64 last) := by rw [cell_of_row _ g 0 _ 44 (0, 0) HFIN.out]; rfl
              refine hK.out _ _ (hs) (fun _ => ?_)
              clear hs
              have HEND := Lib.hid (HO.out)
              try simp only [Act.put, List.getElem_toArray, List.getElem_cons_zero, List.getElem_cons_succ, List.setIfInBounds_toArray, List.set_cons_zero, List.set_cons_succ]
              refine wpAnyH_done (by kernel_rfl) ?_ _
              have hgs := HSZV.out
              have hglo := HGL.out
              have q1 := (Below.heap_setCell X3 ⟨g, 1, none⟩ (.slice A2 qs.length c2) w.heap.size (by show w.heap.size ≠ g; omega)).trans (heap_below HA1.out HB.out)
              have q2 := (Below.heap_setCell X3 ⟨g, 1, none⟩ (.slice A2 qs.length c2) (w.heap.size + 1) (by show w.heap.size + 1 ≠ g; omega)).trans (heap_below HA2.out HB.out)
              have HY1 : Hid (Keeps (fun k => k = g) w (X3.setCell ⟨g, 1, none⟩ (.slice A2 qs.length c2))) := Lib.hid ((HKV.out.below HB.out).setCell (.inl rfl) _)
              have HY2 : Hid (w.heap.size + 1 < V.heap.size) := HSZV
              clear HA1 HA2 HKV HGX
              have HQ1 := Lib.hid q1
              have HQ2 := Lib.hid q2
              have t0 := cell_of_row _ _ 0 _ _ _ HQ2.out
              have t1 := cell_of_row _ _ 1 _ _ _ HQ2.out
              have t2 := cell_of_row _ _ 2 _ _ _ HQ2.out
              have s0 := cell_of_row _ _ 0 _ _ _ HQ1.out
              have s1 := cell_of_row _ _ 1 _ _ _ HQ1.out
              have s2 := cell_of_row _ _ 2 _ _ _ HQ1.out
              have f0 := frozen_of_row _ _ 0 _ _ HQ1.out
              have f1 := frozen_of_row _ _ 1 _ _ HQ1.out
              have f2 := frozen_of_row _ _ 2 _ _ HQ1.out
              simp at t0 t1 t2 s0 s1 s2
              clear q1 q2 hgs hglo
              have HH : Hid ((X3.setCell ⟨g, 1, none⟩ (.slice A2 qs.length c2)).ownsRow V.heap.size 47 3 (.slice A2 qs.length c2) qs.length (rowOf qs)) := Lib.hid (own_keep HEND.out fun k hk => Below.heap_setCell _ _ _ _ (by
                have h1 := (HEND.out.lt k hk).1
                have h2 := HGL.out
                have h3 := HY2.out
                show k ≠ g
                omega))
              clear HEND HB
              generalize X3.setCell ⟨g, 1, none⟩ (.slice A2 qs.length c2) = Z at *
              go_wp2
              have h2 := HGL.out
              have h3 := HY2.out
              rw [← HQS.out]
              refine bodyPost_ret (v := .tuple #[frameV p, .int .i64 0]) ?_ rfl ⟨rfl, HPUT.out _ A2 c2 (((HY1.out.setCell (.inr (Nat.le_refl _)) _).setCell (.inr (Nat.le_refl _)) _).setCell (.inr (Nat.le_refl _)) _) ?_ ?_⟩
              · rw [results_cell_tmp rfl]
                go_simp
                rfl
              · rw [Below.heap_setCell _ _ _ _ (by show g ≠ w.heap.size; omega), Below.heap_setCell _ _ _ _ (by show g ≠ w.heap.size; omega), Below.heap_setCell _ _ _ _ (by show g ≠ w.heap.size; omega)]
                exact HFIN.out
              · refine own_keep (own_mono HH.out (by omega)) fun k hk => ?_
                have h1 := (HH.out.lt k hk).1
                rw [Below.heap_setCell _ _ _ _ (by show k ≠ w.heap.size; omega), Below.heap_setCell _ _ _ _ (by show k ≠ w.heap.size; omega), Below.heap_setCell _ _ _ _ (by show k ≠ w.heap.size; omega)]
      · intro K' hK
        have hc1 : X1.cell? ⟨g, 1, none⟩ = some (.slice (some ⟨gg, 0, none⟩) n cL) := (HB.out.cell (World.block_lt_of_cell? _ _ HC1.out)).trans HC1.out
        rw [if_pos (by kernel_rfl)]
        go_simp
        clear hc1
        refine hK.out _ _ ((HB.out.cell (World.block_lt_of_cell? _ _ HC0.out)).trans HC0.out) (fun _ => ?_)
        try simp only [Act.put, List.getElem_toArray, List.getElem_cons_zero, List.getElem_cons_succ, List.setIfInBounds_toArray, List.set_cons_zero, List.set_cons_succ]
        refine wpAnyH_take (i := 15) (v := ?_) (o_at HG 15 rfl) Gns (by kernel_rfl) (by kernel_rfl) (fun _ _ _ h => h) (Or.inl ⟨(by kernel_rfl), ?_⟩) (by first | trivial | assumption) ?_
        rotate_left
        · (intro w hSw; (try dsimp only at hSw); go_simp; try with_reducible rfl)
        try simp only [Act.put, List.getElem_toArray, List.getElem_cons_zero, List.getElem_cons_succ, List.setIfInBounds_toArray, List.set_cons_zero, List.set_cons_succ]
        refine wpAnyH_ready (rs := [8]) (by kernel_rfl) (by simp) ?_
        refine AllReadyH.cons (o_at HG 8 rfl) ?_ (AllReadyH.nil)
        · intro K' hK
          refine step_app (by kernel_rfl) _ _ 42 rfl V.heap.size 47 z 3 40 Try.underlying42 hz hzs (by decide) (.slice (some ⟨k27, 0, none⟩) 0 0) 0 [] rfl HO.out (some ⟨gg, 0, none⟩) i cL r0 rfl HR0.out (fun e => by cases e) (fun hp => ?_) HR01.out (by unfold maxLen; omega) (by omega) HB.out.size ?_
          · obtain ⟨ad, e, hh⟩ := HR0n.out hp; exact ⟨ad, e, fun j u hu => (HB.out.cell (World.block_lt_of_cell? _ _ (hh j u hu))).trans (hh j u hu)⟩
          intro v1 X2 ho hg hv
          rw [List.nil_append, Nat.zero_add] at ho
          have hB : Below V.heap.size V X2 := bel_grown HB.out hg (fun k hk => (HO.out.lt k hk).1)
          have hs : X2.cell? ⟨g, 0, none⟩ = some (.int .i64 last) := (hB.cell (World.block_lt_of_cell? _ _ HC0.out)).trans HC0.out
          refine hK.out _ _ (hs) (fun _ => ?_)
          clear hs
          clear HO HB
          have HO : Hid (X2.ownsRow V.heap.size 47 3 v1 i r0) := ho
          have HB := Lib.hid hB
          clear ho hg hv hB
          try simp only [Act.put, List.getElem_toArray, List.getElem_cons_zero, List.getElem_cons_succ, List.setIfInBounds_toArray, List.set_cons_zero, List.set_cons_succ]
          refine wpAnyH_ready (rs := [16]) (by kernel_rfl) (by simp) ?_
          refine AllReadyH.cons (o_at HG 16 rfl) ?_ (AllReadyH.nil)
          · intro K' hK
            refine step_app (by kernel_rfl) _ _ 42 rfl V.heap.size 47 z 3 40 Try.underlying42 hz hzs (by decide) v1 i r0 rfl HO.out (some a36) (n - (i + 1)) (cL - (i + 1)) r36 rfl HR36.out (fun e => by cases e) (fun hp => ?_) HR361.out (by unfold maxLen; omega) (by omega) HB.out.size ?_
            · obtain ⟨ad, e, hh⟩ := HR36n.out hp; exact ⟨ad, e, fun j u hu => (HB.out.cell (World.block_lt_of_cell? _ _ (hh j u hu))).trans (hh j u hu)⟩
            intro v2 X3 ho hg hv
            have hB : Below V.heap.size V X3 := bel_grown HB.out hg (fun k hk => (HO.out.lt k hk).1)
            have hs : X3.cell? ⟨g, 0, none⟩ = some (.int .i64 last) := (hB.cell (World.block_lt_of_cell? _ _ HC0.out)).trans HC0.out
            refine hK.out _ _ (hs) (fun _ => ?_)
            clear hs
            clear HO HB
            have hO : X3.ownsRow V.heap.size 47 3 v2 qs.length (rowOf qs) := HQ.out _ _ ho
            obtain ⟨A2, c2, rfl, -⟩ := own_FR hO
            have HO := Lib.hid hO
            have HB := Lib.hid hB
            clear ho hg hv hB hO
            have HGX : Hid (X3.heap[g]? = some (.cells #[.int .i64 last, .slice (some ⟨gg, 0, none⟩) n cL] 44 (0, 0))) := heap_below HGV.out HB.out
            have hfz : X3.frozen? ⟨g, 1, none⟩ = false := frozen_of_row _ g 1 _ _ HGX.out
            have hc1 : X3.cell? ⟨g, 1, none⟩ = some (.slice (some ⟨gg, 0, none⟩) n cL) := by rw [cell_of_row _ g 1 _ 44 (0, 0) HGX.out]; rfl
            have HFIN := Lib.hid (row_set (j := 1) (.slice A2 qs.length c2) HGX.out)
            try simp only [Act.put, List.getElem_toArray, List.getElem_cons_zero, List.getElem_cons_succ, List.setIfInBounds_toArray, List.set_cons_zero, List.set_cons_succ]
            refine wpAnyH_take (i := 17) (v := ?_) (o_at HG 17 rfl) Gns (by kernel_rfl) (by kernel_rfl) (fun _ _ _ h => h) (Or.inl ⟨(by kernel_rfl), ?_⟩) (by first | trivial | assumption) ?_
            rotate_left
            · (intro w hSw; (try dsimp only at hSw); go_simp; try with_reducible rfl)
            try simp only [Act.put, List.getElem_toArray, List.getElem_cons_zero, List.getElem_cons_succ, List.setIfInBounds_toArray, List.set_cons_zero, List.set_cons_succ]
            refine wpAnyH_take (i := 18) (v := ?_) (o_at HG 18 rfl) Gns (by kernel_rfl) (by kernel_rfl) (fun _ _ _ h => h) (Or.inl ⟨(by kernel_rfl), ?_⟩) (by first | trivial | assumption) ?_
            rotate_left
            · (intro w hSw; (try dsimp only at hSw); go_simp; try with_reducible rfl)
            try simp only [Act.put, List.getElem_toArray, List.getElem_cons_zero, List.getElem_cons_succ, List.setIfInBounds_toArray, List.set_cons_zero, List.set_cons_succ]
            refine wpAnyH_ready (rs := [19]) (by kernel_rfl) (by simp) ?_
            refine AllReadyH.cons (o_at HG 19 rfl) ?_ (AllReadyH.nil)
            · intro K' hK
              rw [if_pos (by kernel_rfl)]
              go_simp
              clear hfz hc1
              have hs : (X3.setCell ⟨g, 1, none⟩ (.slice A2 qs.length c2)).cell? ⟨g, 0, none⟩ = some (.int .i64 last) := by rw [cell_of_row _ g 0 _ 44 (0, 0) HFIN.out]; rfl
              refine hK.out _ _ (hs) (fun _ => ?_)
              clear hs
              have HEND := Lib.hid (HO.out)
              try simp only [Act.put, List.getElem_toArray, List.getElem_cons_zero, List.getElem_cons_succ, List.setIfInBounds_toArray, List.set_cons_zero, List.set_cons_succ]
              refine wpAnyH_done (by kernel_rfl) ?_ _
              have hgs := HSZV.out
              have hglo := HGL.out
              have q1 := (Below.heap_setCell X3 ⟨g, 1, none⟩ (.slice A2 qs.length c2) w.heap.size (by show w.heap.size ≠ g; omega)).trans (heap_below HA1.out HB.out)
              have q2 := (Below.heap_setCell X3 ⟨g, 1, none⟩ (.slice A2 qs.length c2) (w.heap.size + 1) (by show w.heap.size + 1 ≠ g; omega)).trans (heap_below HA2.out HB.out)
              have HY1 : Hid (Keeps (fun k => k = g) w (X3.setCell ⟨g, 1, none⟩ (.slice A2 qs.length c2))) := Lib.hid ((HKV.out.below HB.out).setCell (.inl rfl) _)
              have HY2 : Hid (w.heap.size + 1 < V.heap.size) := HSZV
              clear HA1 HA2 HKV HGX
              have HQ1 := Lib.hid q1
              have HQ2 := Lib.hid q2
              have t0 := cell_of_row _ _ 0 _ _ _ HQ2.out
              have t1 := cell_of_row _ _ 1 _ _ _ HQ2.out
              have t2 := cell_of_row _ _ 2 _ _ _ HQ2.out
              have s0 := cell_of_row _ _ 0 _ _ _ HQ1.out
              have s1 := cell_of_row _ _ 1 _ _ _ HQ1.out
              have s2 := cell_of_row _ _ 2 _ _ _ HQ1.out
              have f0 := frozen_of_row _ _ 0 _ _ HQ1.out
              have f1 := frozen_of_row _ _ 1 _ _ HQ1.out
              have f2 := frozen_of_row _ _ 2 _ _ HQ1.out
              simp at t0 t1 t2 s0 s1 s2
              clear q1 q2 hgs hglo
              have HH : Hid ((X3.setCell ⟨g, 1, none⟩ (.slice A2 qs.length c2)).ownsRow V.heap.size 47 3 (.slice A2 qs.length c2) qs.length (rowOf qs)) := Lib.hid (own_keep HEND.out fun k hk => Below.heap_setCell _ _ _ _ (by
                have h1 := (HEND.out.lt k hk).1
                have h2 := HGL.out
                have h3 := HY2.out
                show k ≠ g
                omega))
              clear HEND HB
              generalize X3.setCell ⟨g, 1, none⟩ (.slice A2 qs.length c2) = Z at *
              go_wp2
              have h2 := HGL.out
              have h3 := HY2.out
              rw [← HQS.out]
              refine bodyPost_ret (v := .tuple #[frameV p, .int .i64 0]) ?_ rfl ⟨rfl, HPUT.out _ A2 c2 (((HY1.out.setCell (.inr (Nat.le_refl _)) _).setCell (.inr (Nat.le_refl _)) _).setCell (.inr (Nat.le_refl _)) _) ?_ ?_⟩
              · rw [results_cell_tmp rfl]
                go_simp
                rfl
              · rw [Below.heap_setCell _ _ _ _ (by show g ≠ w.heap.size; omega), Below.heap_setCell _ _ _ _ (by show g ≠ w.heap.size; omega), Below.heap_setCell _ _ _ _ (by show g ≠ w.heap.size; omega)]
                exact HFIN.out
              · refine own_keep (own_mono HH.out (by omega)) fun k hk => ?_
                have h1 := (HH.out.lt k hk).1
                rw [Below.heap_setCell _ _ _ _ (by show k ≠ w.heap.size; omega), Below.heap_setCell _ _ _ _ (by show k ≠ w.heap.size; omega), Below.heap_setCell _ _ _ _ (by show k ≠ w.heap.size; omega)]
    · intro K' hK
      have hc1 : X0.cell? ⟨g, 1, none⟩ = some (.slice (some ⟨gg, 0, none⟩) n cL) := (HB.out.cell (World.block_lt_of_cell? _ _ HC1.out)).trans HC1.out
      rw [if_pos (by kernel_rfl)]
      go_simp
      clear hc1
      refine hK.out _ _ ((HB.out.cell (World.block_lt_of_cell? _ _ HC0.out)).trans HC0.out) (fun _ => ?_)
      try simp only [Act.put, List.getElem_toArray, List.getElem_cons_zero, List.getElem_cons_succ, List.setIfInBounds_toArray, List.set_cons_zero, List.set_cons_succ]
      refine wpAnyH_take (i := 15) (v := ?_) (o_at HG 15 rfl) Gns (by kernel_rfl) (by kernel_rfl) (fun _ _ _ h => h) (Or.inl ⟨(by kernel_rfl), ?_⟩) (by first | trivial | assumption) ?_
      rotate_left
      · (intro w hSw; (try dsimp only at hSw); go_simp; try with_reducible rfl)
      try simp only [Act.put, List.getElem_toArray, List.getElem_cons_zero, List.getElem_cons_succ, List.setIfInBounds_toArray, List.set_cons_zero, List.set_cons_succ]
      refine wpAnyH_ready (rs := [1]) (by kernel_rfl) (by simp) ?_
      refine AllReadyH.cons (o_at HG 1 rfl) ?_ (AllReadyH.nil)
      · intro K' hK
        rw [if_pos (by kernel_rfl)]
        go_simp
        have hB : Below V.heap.size V (X0.alloc (.cells #[] 47)) := bel_alloc HB.out _
        have hxs : X0.heap.size < (X0.alloc (.cells #[] 47)).heap.size := by simp
        have hO : (X0.alloc (.cells #[] 47)).ownsRow V.heap.size 47 3 (.slice (some ⟨X0.heap.size, 0, none⟩) 0 0) 0 [] := World.ownsRow_made X0 #[] 0 HB.out.size (Nat.zero_le _) (by simp)
        have hs : (X0.alloc (.cells #[] 47)).cell? ⟨g, 0, none⟩ = some (.int .i64 last) := (hB.cell (World.block_lt_of_cell? _ _ HC0.out)).trans HC0.out
        refine hK.out _ _ (hs) (fun _ => ?_)
        clear hs
        clear HB
        have HO := Lib.hid hO
        clear hO
        have HB := Lib.hid hB
        clear hB hxs
        generalize (X0.alloc (.cells #[] 47)) = X1 at *
        generalize X0.heap.size = k27 at *
        try simp only [Act.put, List.getElem_toArray, List.getElem_cons_zero, List.getElem_cons_succ, List.setIfInBounds_toArray, List.set_cons_zero, List.set_cons_succ]
        refine wpAnyH_ready (rs := [8]) (by kernel_rfl) (by simp) ?_
        refine AllReadyH.cons (o_at HG 8 rfl) ?_ (AllReadyH.nil)
        · intro K' hK
          refine step_app (by kernel_rfl) _ _ 42 rfl V.heap.size 47 z 3 40 Try.underlying42 hz hzs (by decide) (.slice (some ⟨k27, 0, none⟩) 0 0) 0 [] rfl HO.out (some ⟨gg, 0, none⟩) i cL r0 rfl HR0.out (fun e => by cases e) (fun hp => ?_) HR01.out (by unfold maxLen; omega) (by omega) HB.out.size ?_
          · obtain ⟨ad, e, hh⟩ := HR0n.out hp; exact ⟨ad, e, fun j u hu => (HB.out.cell (World.block_lt_of_cell? _ _ (hh j u hu))).trans (hh j u hu)⟩
          intro v1 X2 ho hg hv
          rw [List.nil_append, Nat.zero_add] at ho
          have hB : Below V.heap.size V X2 := bel_grown HB.out hg (fun k hk => (HO.out.lt k hk).1)
          have hs : X2.cell? ⟨g, 0, none⟩ = some (.int .i64 last) := (hB.cell (World.block_lt_of_cell? _ _ HC0.out)).trans HC0.out
          refine hK.out _ _ (hs) (fun _ => ?_)
          clear hs
          clear HO HB
          have HO : Hid (X2.ownsRow V.heap.size 47 3 v1 i r0) := ho
          have HB := Lib.hid hB
          clear ho hg hv hB
          try simp only [Act.put, List.getElem_toArray, List.getElem_cons_zero, List.getElem_cons_succ, List.setIfInBounds_toArray, List.set_cons_zero, List.set_cons_succ]
          refine wpAnyH_ready (rs := [16]) (by kernel_rfl) (by simp) ?_
          refine AllReadyH.cons (o_at HG 16 rfl) ?_ (AllReadyH.nil)
          · intro K' hK
            refine step_app (by kernel_rfl) _ _ 42 rfl V.heap.size 47 z 3 40 Try.underlying42 hz hzs (by decide) v1 i r0 rfl HO.out (some a36) (n - (i + 1)) (cL - (i + 1)) r36 rfl HR36.out (fun e => by cases e) (fun hp => ?_) HR361.out (by unfold maxLen; omega) (by omega) HB.out.size ?_
            · obtain ⟨ad, e, hh⟩ := HR36n.out hp; exact ⟨ad, e, fun j u hu => (HB.out.cell (World.block_lt_of_cell? _ _ (hh j u hu))).trans (hh j u hu)⟩
            intro v2 X3 ho hg hv
            have hB : Below V.heap.size V X3 := bel_grown HB.out hg (fun k hk => (HO.out.lt k hk).1)
            have hs : X3.cell? ⟨g, 0, none⟩ = some (.int .i64 last) := (hB.cell (World.block_lt_of_cell? _ _ HC0.out)).trans HC0.out
            refine hK.out _ _ (hs) (fun _ => ?_)
            clear hs
            clear HO HB
            have hO : X3.ownsRow V.heap.size 47 3 v2 qs.length (rowOf qs) := HQ.out _ _ ho
            obtain ⟨A2, c2, rfl, -⟩ := own_FR hO
            have HO := Lib.hid hO
            have HB := Lib.hid hB
            clear ho hg hv hB hO
            have HGX : Hid (X3.heap[g]? = some (.cells #[.int .i64 last, .slice (some ⟨gg, 0, none⟩) n cL] 44 (0, 0))) := heap_below HGV.out HB.out
            have hfz : X3.frozen? ⟨g, 1, none⟩ = false := frozen_of_row _ g 1 _ _ HGX.out
            have hc1 : X3.cell? ⟨g, 1, none⟩ = some (.slice (some ⟨gg, 0, none⟩) n cL) := by rw [cell_of_row _ g 1 _ 44 (0, 0) HGX.out]; rfl
            have HFIN := Lib.hid (row_set (j := 1) (.slice A2 qs.length c2) HGX.out)
            try simp only [Act.put, List.getElem_toArray, List.getElem_cons_zero, List.getElem_cons_succ, List.setIfInBounds_toArray, List.set_cons_zero, List.set_cons_succ]
            refine wpAnyH_take (i := 17) (v := ?_) (o_at HG 17 rfl) Gns (by kernel_rfl) (by kernel_rfl) (fun _ _ _ h => h) (Or.inl ⟨(by kernel_rfl), ?_⟩) (by first | trivial | assumption) ?_
            rotate_left
            · (intro w hSw; (try dsimp only at hSw); go_simp; try with_reducible rfl)
            try simp only [Act.put, List.getElem_toArray, List.getElem_cons_zero, List.getElem_cons_succ, List.setIfInBounds_toArray, List.set_cons_zero, List.set_cons_succ]
            refine wpAnyH_take (i := 18) (v := ?_) (o_at HG 18 rfl) Gns (by kernel_rfl) (by kernel_rfl) (fun _ _ _ h => h) (Or.inl ⟨(by kernel_rfl), ?_⟩) (by first | trivial | assumption) ?_
            rotate_left
            · (intro w hSw; (try dsimp only at hSw); go_simp; try with_reducible rfl)
            try simp only [Act.put, List.getElem_toArray, List.getElem_cons_zero, List.getElem_cons_succ, List.setIfInBounds_toArray, List.set_cons_zero, List.set_cons_succ]
            refine wpAnyH_ready (rs := [19]) (by kernel_rfl) (by simp) ?_
            refine AllReadyH.cons (o_at HG 19 rfl) ?_ (AllReadyH.nil)
            · intro K' hK
              rw [if_pos (by kernel_rfl)]
              go_simp
              clear hfz hc1
              have hs : (X3.setCell ⟨g, 1, none⟩ (.slice A2 qs.length c2)).cell? ⟨g, 0, none⟩ = some (.int .i64 last) := by rw [cell_of_row _ g 0 _ 44 (0, 0) HFIN.out]; rfl
              refine hK.out _ _ (hs) (fun _ => ?_)
              clear hs
              have HEND := Lib.hid (HO.out)
              try simp only [Act.put, List.getElem_toArray, List.getElem_cons_zero, List.getElem_cons_succ, List.setIfInBounds_toArray, List.set_cons_zero, List.set_cons_succ]
              refine wpAnyH_done (by kernel_rfl) ?_ _
              have hgs := HSZV.out
              have hglo := HGL.out
              have q1 := (Below.heap_setCell X3 ⟨g, 1, none⟩ (.slice A2 qs.length c2) w.heap.size (by show w.heap.size ≠ g; omega)).trans (heap_below HA1.out HB.out)
              have q2 := (Below.heap_setCell X3 ⟨g, 1, none⟩ (.slice A2 qs.length c2) (w.heap.size + 1) (by show w.heap.size + 1 ≠ g; omega)).trans (heap_below HA2.out HB.out)
              have HY1 : Hid (Keeps (fun k => k = g) w (X3.setCell ⟨g, 1, none⟩ (.slice A2 qs.length c2))) := Lib.hid ((HKV.out.below HB.out).setCell (.inl rfl) _)
              have HY2 : Hid (w.heap.size + 1 < V.heap.size) := HSZV
              clear HA1 HA2 HKV HGX
              have HQ1 := Lib.hid q1
              have HQ2 := Lib.hid q2
              have t0 := cell_of_row _ _ 0 _ _ _ HQ2.out
              have t1 := cell_of_row _ _ 1 _ _ _ HQ2.out
              have t2 := cell_of_row _ _ 2 _ _ _ HQ2.out
              have s0 := cell_of_row _ _ 0 _ _ _ HQ1.out
              have s1 := cell_of_row _ _ 1 _ _ _ HQ1.out
              have s2 := cell_of_row _ _ 2 _ _ _ HQ1.out
              have f0 := frozen_of_row _ _ 0 _ _ HQ1.out
              have f1 := frozen_of_row _ _ 1 _ _ HQ1.out
              have f2 := frozen_of_row _ _ 2 _ _ HQ1.out
              simp at t0 t1 t2 s0 s1 s2
              clear q1 q2 hgs hglo
              have HH : Hid ((X3.setCell ⟨g, 1, none⟩ (.slice A2 qs.length c2)).ownsRow V.heap.size 47 3 (.slice A2 qs.length c2) qs.length (rowOf qs)) := Lib.hid (own_keep HEND.out fun k hk => Below.heap_setCell _ _ _ _ (by
                have h1 := (HEND.out.lt k hk).1
                have h2 := HGL.out
                have h3 := HY2.out
                show k ≠ g
                omega))
              clear HEND HB
              generalize X3.setCell ⟨g, 1, none⟩ (.slice A2 qs.length c2) = Z at *
              go_wp2
              have h2 := HGL.out
              have h3 := HY2.out
              rw [← HQS.out]
              refine bodyPost_ret (v := .tuple #[frameV p, .int .i64 0]) ?_ rfl ⟨rfl, HPUT.out _ A2 c2 (((HY1.out.setCell (.inr (Nat.le_refl _)) _).setCell (.inr (Nat.le_refl _)) _).setCell (.inr (Nat.le_refl _)) _) ?_ ?_⟩
              · rw [results_cell_tmp rfl]
                go_simp
                rfl
              · rw [Below.heap_setCell _ _ _ _ (by show g ≠ w.heap.size; omega), Below.heap_setCell _ _ _ _ (by show g ≠ w.heap.size; omega), Below.heap_setCell _ _ _ _ (by show g ≠ w.heap.size; omega)]
                exact HFIN.out
              · refine own_keep (own_mono HH.out (by omega)) fun k hk => ?_
                have h1 := (HH.out.lt k hk).1
                rw [Below.heap_setCell _ _ _ _ (by show k ≠ w.heap.size; omega), Below.heap_setCell _ _ _ _ (by show k ≠ w.heap.size; omega), Below.heap_setCell _ _ _ _ (by show k ≠ w.heap.size; omega)]
  · intro K' hK
    have hc1 : X0.cell? ⟨g, 1, none⟩ = some (.slice (some ⟨gg, 0, none⟩) n cL) := (HB.out.cell (World.block_lt_of_cell? _ _ HC1.out)).trans HC1.out
    rw [if_pos (by kernel_rfl)]
    go_simp
    clear hc1
    refine hK.out _ _ ((HB.out.cell (World.block_lt_of_cell? _ _ HC0.out)).trans HC0.out) (fun _ => ?_)
    try simp only [Act.put, List.getElem_toArray, List.getElem_cons_zero, List.getElem_cons_succ, List.setIfInBounds_toArray, List.set_cons_zero, List.set_cons_succ]
    refine wpAnyH_take (i := 15) (v := ?_) (o_at HG 15 rfl) Gns (by kernel_rfl) (by kernel_rfl) (fun _ _ _ h => h) (Or.inl ⟨(by kernel_rfl), ?_⟩) (by first | trivial | assumption) ?_
    rotate_left
    · (intro w hSw; (try dsimp only at hSw); go_simp; try with_reducible rfl)
    try simp only [Act.put, List.getElem_toArray, List.getElem_cons_zero, List.getElem_cons_succ, List.setIfInBounds_toArray, List.set_cons_zero, List.set_cons_succ]
    refine wpAnyH_ready (rs := [1, 5]) (by kernel_rfl) (by simp) ?_
    refine AllReadyH.cons (o_at HG 1 rfl) ?_ (AllReadyH.cons (o_at HG 5 rfl) ?_ (AllReadyH.nil))
    · intro K' hK
      rw [if_pos (by kernel_rfl)]
      go_simp
      have hB : Below V.heap.size V (X0.alloc (.cells #[] 47)) := bel_alloc HB.out _
      have hxs : X0.heap.size < (X0.alloc (.cells #[] 47)).heap.size := by simp
      have hO : (X0.alloc (.cells #[] 47)).ownsRow V.heap.size 47 3 (.slice (some ⟨X0.heap.size, 0, none⟩) 0 0) 0 [] := World.ownsRow_made X0 #[] 0 HB.out.size (Nat.zero_le _) (by simp)
      have hs : (X0.alloc (.cells #[] 47)).cell? ⟨g, 0, none⟩ = some (.int .i64 last) := (hB.cell (World.block_lt_of_cell? _ _ HC0.out)).trans HC0.out
      refine hK.out _ _ (hs) (fun _ => ?_)
      clear hs
      clear HB
      have HO := Lib.hid hO
      clear hO
      have HB := Lib.hid hB
      clear hB hxs
      generalize (X0.alloc (.cells #[] 47)) = X1 at *
      generalize X0.heap.size = k27 at *
      try simp only [Act.put, List.getElem_toArray, List.getElem_cons_zero, List.getElem_cons_succ, List.setIfInBounds_toArray, List.set_cons_zero, List.set_cons_succ]
      refine wpAnyH_ready (rs := [5]) (by kernel_rfl) (by simp) ?_
      refine AllReadyH.cons (o_at HG 5 rfl) ?_ (AllReadyH.nil)
      · intro K' hK
        have hc1 : X1.cell? ⟨g, 1, none⟩ = some (.slice (some ⟨gg, 0, none⟩) n cL) := (HB.out.cell (World.block_lt_of_cell? _ _ HC1.out)).trans HC1.out
        rw [if_pos (by kernel_rfl)]
        go_simp
        clear hc1
        refine hK.out _ _ ((HB.out.cell (World.block_lt_of_cell? _ _ HC0.out)).trans HC0.out) (fun _ => ?_)
        try simp only [Act.put, List.getElem_toArray, List.getElem_cons_zero, List.getElem_cons_succ, List.setIfInBounds_toArray, List.set_cons_zero, List.set_cons_succ]
        refine wpAnyH_take (i := 7) (v := ?_) (o_at HG 7 rfl) Gns (by kernel_rfl) (by kernel_rfl) (fun _ _ _ h => h) (Or.inl ⟨(by kernel_rfl), ?_⟩) (by first | trivial | assumption) ?_
        rotate_left
        · (intro w hSw; (try dsimp only at hSw); go_simp; try with_reducible rfl)
        try simp only [Act.put, List.getElem_toArray, List.getElem_cons_zero, List.getElem_cons_succ, List.setIfInBounds_toArray, List.set_cons_zero, List.set_cons_succ]
        refine wpAnyH_ready (rs := [8]) (by kernel_rfl) (by simp) ?_
        refine AllReadyH.cons (o_at HG 8 rfl) ?_ (AllReadyH.nil)
        · intro K' hK
          refine step_app (by kernel_rfl) _ _ 42 rfl V.heap.size 47 z 3 40 Try.underlying42 hz hzs (by decide) (.slice (some ⟨k27, 0, none⟩) 0 0) 0 [] rfl HO.out (some ⟨gg, 0, none⟩) i cL r0 rfl HR0.out (fun e => by cases e) (fun hp => ?_) HR01.out (by unfold maxLen; omega) (by omega) HB.out.size ?_
          · obtain ⟨ad, e, hh⟩ := HR0n.out hp; exact ⟨ad, e, fun j u hu => (HB.out.cell (World.block_lt_of_cell? _ _ (hh j u hu))).trans (hh j u hu)⟩
          intro v1 X2 ho hg hv
          rw [List.nil_append, Nat.zero_add] at ho
          have hB : Below V.heap.size V X2 := bel_grown HB.out hg (fun k hk => (HO.out.lt k hk).1)
          have hs : X2.cell? ⟨g, 0, none⟩ = some (.int .i64 last) := (hB.cell (World.block_lt_of_cell? _ _ HC0.out)).trans HC0.out
          refine hK.out _ _ (hs) (fun _ => ?_)
          clear hs
          clear HO HB
          have HO : Hid (X2.ownsRow V.heap.size 47 3 v1 i r0) := ho
          have HB := Lib.hid hB
          clear ho hg hv hB
          try simp only [Act.put, List.getElem_toArray, List.getElem_cons_zero, List.getElem_cons_succ, List.setIfInBounds_toArray, List.set_cons_zero, List.set_cons_succ]
          refine wpAnyH_ready (rs := [16]) (by kernel_rfl) (by simp) ?_
          refine AllReadyH.cons (o_at HG 16 rfl) ?_ (AllReadyH.nil)
          · intro K' hK
            refine step_app (by kernel_rfl) _ _ 42 rfl V.heap.size 47 z 3 40 Try.underlying42 hz hzs (by decide) v1 i r0 rfl HO.out (some a36) (n - (i + 1)) (cL - (i + 1)) r36 rfl HR36.out (fun e => by cases e) (fun hp => ?_) HR361.out (by unfold maxLen; omega) (by omega) HB.out.size ?_
            · obtain ⟨ad, e, hh⟩ := HR36n.out hp; exact ⟨ad, e, fun j u hu => (HB.out.cell (World.block_lt_of_cell? _ _ (hh j u hu))).trans (hh j u hu)⟩
            intro v2 X3 ho hg hv
            have hB : Below V.heap.size V X3 := bel_grown HB.out hg (fun k hk => (HO.out.lt k hk).1)
            have hs : X3.cell? ⟨g, 0, none⟩ = some (.int .i64 last) := (hB.cell (World.block_lt_of_cell? _ _ HC0.out)).trans HC0.out
            refine hK.out _ _ (hs) (fun _ => ?_)
            clear hs
            clear HO HB
            have hO : X3.ownsRow V.heap.size 47 3 v2 qs.length (rowOf qs) := HQ.out _ _ ho
            obtain ⟨A2, c2, rfl, -⟩ := own_FR hO
            have HO := Lib.hid hO
            have HB := Lib.hid hB
            clear ho hg hv hB hO
            have HGX : Hid (X3.heap[g]? = some (.cells #[.int .i64 last, .slice (some ⟨gg, 0, none⟩) n cL] 44 (0, 0))) := heap_below HGV.out HB.out
            have hfz : X3.frozen? ⟨g, 1, none⟩ = false := frozen_of_row _ g 1 _ _ HGX.out
            have hc1 : X3.cell? ⟨g, 1, none⟩ = some (.slice (some ⟨gg, 0, none⟩) n cL) := by rw [cell_of_row _ g 1 _ 44 (0, 0) HGX.out]; rfl
            have HFIN := Lib.hid (row_set (j := 1) (.slice A2 qs.length c2) HGX.out)
            try simp only [Act.put, List.getElem_toArray, List.getElem_cons_zero, List.getElem_cons_succ, List.setIfInBounds_toArray, List.set_cons_zero, List.set_cons_succ]
            refine wpAnyH_take (i := 17) (v := ?_) (o_at HG 17 rfl) Gns (by kernel_rfl) (by kernel_rfl) (fun _ _ _ h => h) (Or.inl ⟨(by kernel_rfl), ?_⟩) (by first | trivial | assumption) ?_
            rotate_left
            · (intro w hSw; (try dsimp only at hSw); go_simp; try with_reducible rfl)
            try simp only [Act.put, List.getElem_toArray, List.getElem_cons_zero, List.getElem_cons_succ, List.setIfInBounds_toArray, List.set_cons_zero, List.set_cons_succ]
            refine wpAnyH_take (i := 18) (v := ?_) (o_at HG 18 rfl) Gns (by kernel_rfl) (by kernel_rfl) (fun _ _ _ h => h) (Or.inl ⟨(by kernel_rfl), ?_⟩) (by first | trivial | assumption) ?_
            rotate_left
            · (intro w hSw; (try dsimp only at hSw); go_simp; try with_reducible rfl)
            try simp only [Act.put, List.getElem_toArray, List.getElem_cons_zero, List.getElem_cons_succ, List.setIfInBounds_toArray, List.set_cons_zero, List.set_cons_succ]
            refine wpAnyH_ready (rs := [19]) (by kernel_rfl) (by simp) ?_
            refine AllReadyH.cons (o_at HG 19 rfl) ?_ (AllReadyH.nil)
            · intro K' hK
              rw [if_pos (by kernel_rfl)]
              go_simp
              clear hfz hc1
              have hs : (X3.setCell ⟨g, 1, none⟩ (.slice A2 qs.length c2)).cell? ⟨g, 0, none⟩ = some (.int .i64 last) := by rw [cell_of_row _ g 0 _ 44 (0, 0) HFIN.out]; rfl
              refine hK.out _ _ (hs) (fun _ => ?_)
              clear hs
              have HEND := Lib.hid (HO.out)
              try simp only [Act.put, List.getElem_toArray, List.getElem_cons_zero, List.getElem_cons_succ, List.setIfInBounds_toArray, List.set_cons_zero, List.set_cons_succ]
              refine wpAnyH_done (by kernel_rfl) ?_ _
              have hgs := HSZV.out
              have hglo := HGL.out
              have q1 := (Below.heap_setCell X3 ⟨g, 1, none⟩ (.slice A2 qs.length c2) w.heap.size (by show w.heap.size ≠ g; omega)).trans (heap_below HA1.out HB.out)
              have q2 := (Below.heap_setCell X3 ⟨g, 1, none⟩ (.slice A2 qs.length c2) (w.heap.size + 1) (by show w.heap.size + 1 ≠ g; omega)).trans (heap_below HA2.out HB.out)
              have HY1 : Hid (Keeps (fun k => k = g) w (X3.setCell ⟨g, 1, none⟩ (.slice A2 qs.length c2))) := Lib.hid ((HKV.out.below HB.out).setCell (.inl rfl) _)
              have HY2 : Hid (w.heap.size + 1 < V.heap.size) := HSZV
              clear HA1 HA2 HKV HGX
              have HQ1 := Lib.hid q1
              have HQ2 := Lib.hid q2
              have t0 := cell_of_row _ _ 0 _ _ _ HQ2.out
              have t1 := cell_of_row _ _ 1 _ _ _ HQ2.out
              have t2 := cell_of_row _ _ 2 _ _ _ HQ2.out
              have s0 := cell_of_row _ _ 0 _ _ _ HQ1.out
              have s1 := cell_of_row _ _ 1 _ _ _ HQ1.out
              have s2 := cell_of_row _ _ 2 _ _ _ HQ1.out
              have f0 := frozen_of_row _ _ 0 _ _ HQ1.out
              have f1 := frozen_of_row _ _ 1 _ _ HQ1.out
              have f2 := frozen_of_row _ _ 2 _ _ HQ1.out
              simp at t0 t1 t2 s0 s1 s2
              clear q1 q2 hgs hglo
              have HH : Hid ((X3.setCell ⟨g, 1, none⟩ (.slice A2 qs.length c2)).ownsRow V.heap.size 47 3 (.slice A2 qs.length c2) qs.length (rowOf qs)) := Lib.hid (own_keep HEND.out fun k hk => Below.heap_setCell _ _ _ _ (by
                have h1 := (HEND.out.lt k hk).1
                have h2 := HGL.out
                have h3 := HY2.out
                show k ≠ g
                omega))
              clear HEND HB
              generalize X3.setCell ⟨g, 1, none⟩ (.slice A2 qs.length c2) = Z at *
              go_wp2
              have h2 := HGL.out
              have h3 := HY2.out
              rw [← HQS.out]
              refine bodyPost_ret (v := .tuple #[frameV p, .int .i64 0]) ?_ rfl ⟨rfl, HPUT.out _ A2 c2 (((HY1.out.setCell (.inr (Nat.le_refl _)) _).setCell (.inr (Nat.le_refl _)) _).setCell (.inr (Nat.le_refl _)) _) ?_ ?_⟩
              · rw [results_cell_tmp rfl]
                go_simp
                rfl
              · rw [Below.heap_setCell _ _ _ _ (by show g ≠ w.heap.size; omega), Below.heap_setCell _ _ _ _ (by show g ≠ w.heap.size; omega), Below.heap_setCell _ _ _ _ (by show g ≠ w.heap.size; omega)]
                exact HFIN.out
              · refine own_keep (own_mono HH.out (by omega)) fun k hk => ?_
                have h1 := (HH.out.lt k hk).1
                rw [Below.heap_setCell _ _ _ _ (by show k ≠ w.heap.size; omega), Below.heap_setCell _ _ _ _ (by show k ≠ w.heap.size; omega), Below.heap_setCell _ _ _ _ (by show k ≠ w.heap.size; omega)]
    · intro K' hK
      have hc1 : X0.cell? ⟨g, 1, none⟩ = some (.slice (some ⟨gg, 0, none⟩) n cL) := (HB.out.cell (World.block_lt_of_cell? _ _ HC1.out)).trans HC1.out
      rw [if_pos (by kernel_rfl)]
      go_simp
      clear hc1
      refine hK.out _ _ ((HB.out.cell (World.block_lt_of_cell? _ _ HC0.out)).trans HC0.out) (fun _ => ?_)
      try simp only [Act.put, List.getElem_toArray, List.getElem_cons_zero, List.getElem_cons_succ, List.setIfInBounds_toArray, List.set_cons_zero, List.set_cons_succ]
      refine wpAnyH_take (i := 7) (v := ?_) (o_at HG 7 rfl) Gns (by kernel_rfl) (by kernel_rfl) (fun _ _ _ h => h) (Or.inl ⟨(by kernel_rfl), ?_⟩) (by first | trivial | assumption) ?_
      rotate_left
      · (intro w hSw; (try dsimp only at hSw); go_simp; try with_reducible rfl)
      try simp only [Act.put, List.getElem_toArray, List.getElem_cons_zero, List.getElem_cons_succ, List.setIfInBounds_toArray, List.set_cons_zero, List.set_cons_succ]
      refine wpAnyH_ready (rs := [1]) (by kernel_rfl) (by simp) ?_
      refine AllReadyH.cons (o_at HG 1 rfl) ?_ (AllReadyH.nil)
      · intro K' hK
        rw [if_pos (by kernel_rfl)]
        go_simp
        have hB : Below V.heap.size V (X0.alloc (.cells #[] 47)) := bel_alloc HB.out _
        have hxs : X0.heap.size < (X0.alloc (.cells #[] 47)).heap.size := by simp
        have hO : (X0.alloc (.cells #[] 47)).ownsRow V.heap.size 47 3 (.slice (some ⟨X0.heap.size, 0, none⟩) 0 0) 0 [] := World.ownsRow_made X0 #[] 0 HB.out.size (Nat.zero_le _) (by simp)
        have hs : (X0.alloc (.cells #[] 47)).cell? ⟨g, 0, none⟩ = some (.int .i64 last) := (hB.cell (World.block_lt_of_cell? _ _ HC0.out)).trans HC0.out
        refine hK.out _ _ (hs) (fun _ => ?_)
        clear hs
        clear HB
        have HO := Lib.hid hO
        clear hO
        have HB := Lib.hid hB
        clear hB hxs
        generalize (X0.alloc (.cells #[] 47)) = X1 at *
        generalize X0.heap.size = k27 at *
        try simp only [Act.put, List.getElem_toArray, List.getElem_cons_zero, List.getElem_cons_succ, List.setIfInBounds_toArray, List.set_cons_zero, List.set_cons_succ]
        refine wpAnyH_ready (rs := [8]) (by kernel_rfl) (by simp) ?_
        refine AllReadyH.cons (o_at HG 8 rfl) ?_ (AllReadyH.nil)
        · intro K' hK
          refine step_app (by kernel_rfl) _ _ 42 rfl V.heap.size 47 z 3 40 Try.underlying42 hz hzs (by decide) (.slice (some ⟨k27, 0, none⟩) 0 0) 0 [] rfl HO.out (some ⟨gg, 0, none⟩) i cL r0 rfl HR0.out (fun e => by cases e) (fun hp => ?_) HR01.out (by unfold maxLen; omega) (by omega) HB.out.size ?_
          · obtain ⟨ad, e, hh⟩ := HR0n.out hp; exact ⟨ad, e, fun j u hu => (HB.out.cell (World.block_lt_of_cell? _ _ (hh j u hu))).trans (hh j u hu)⟩
          intro v1 X2 ho hg hv
          rw [List.nil_append, Nat.zero_add] at ho
          have hB : Below V.heap.size V X2 := bel_grown HB.out hg (fun k hk => (HO.out.lt k hk).1)
          have hs : X2.cell? ⟨g, 0, none⟩ = some (.int .i64 last) := (hB.cell (World.block_lt_of_cell? _ _ HC0.out)).trans HC0.out
          refine hK.out _ _ (hs) (fun _ => ?_)
          clear hs
          clear HO HB
          have HO : Hid (X2.ownsRow V.heap.size 47 3 v1 i r0) := ho
          have HB := Lib.hid hB
          clear ho hg hv hB
          try simp only [Act.put, List.getElem_toArray, List.getElem_cons_zero, List.getElem_cons_succ, List.setIfInBounds_toArray, List.set_cons_zero, List.set_cons_succ]
          refine wpAnyH_ready (rs := [16]) (by kernel_rfl) (by simp) ?_
          refine AllReadyH.cons (o_at HG 16 rfl) ?_ (AllReadyH.nil)
          · intro K' hK
            refine step_app (by kernel_rfl) _ _ 42 rfl V.heap.size 47 z 3 40 Try.underlying42 hz hzs (by decide) v1 i r0 rfl HO.out (some a36) (n - (i + 1)) (cL - (i + 1)) r36 rfl HR36.out (fun e => by cases e) (fun hp => ?_) HR361.out (by unfold maxLen; omega) (by omega) HB.out.size ?_
            · obtain ⟨ad, e, hh⟩ := HR36n.out hp; exact ⟨ad, e, fun j u hu => (HB.out.cell (World.block_lt_of_cell? _ _ (hh j u hu))).trans (hh j u hu)⟩
            intro v2 X3 ho hg hv
            have hB : Below V.heap.size V X3 := bel_grown HB.out hg (fun k hk => (HO.out.lt k hk).1)
            have hs : X3.cell? ⟨g, 0, none⟩ = some (.int .i64 last) := (hB.cell (World.block_lt_of_cell? _ _ HC0.out)).trans HC0.out
            refine hK.out _ _ (hs) (fun _ => ?_)
            clear hs
            clear HO HB
            have hO : X3.ownsRow V.heap.size 47 3 v2 qs.length (rowOf qs) := HQ.out _ _ ho
            obtain ⟨A2, c2, rfl, -⟩ := own_FR hO
            have HO := Lib.hid hO
            have HB := Lib.hid hB
            clear ho hg hv hB hO
            have HGX : Hid (X3.heap[g]? = some (.cells #[.int .i64 last, .slice (some ⟨gg, 0, none⟩) n cL] 44 (0, 0))) := heap_below HGV.out HB.out
            have hfz : X3.frozen? ⟨g, 1, none⟩ = false := frozen_of_row _ g 1 _ _ HGX.out
            have hc1 : X3.cell? ⟨g, 1, none⟩ = some (.slice (some ⟨gg, 0, none⟩) n cL) := by rw [cell_of_row _ g 1 _ 44 (0, 0) HGX.out]; rfl
            have HFIN := Lib.hid (row_set (j := 1) (.slice A2 qs.length c2) HGX.out)
            try simp only [Act.put, List.getElem_toArray, List.getElem_cons_zero, List.getElem_cons_succ, List.setIfInBounds_toArray, List.set_cons_zero, List.set_cons_succ]
            refine wpAnyH_take (i := 17) (v := ?_) (o_at HG 17 rfl) Gns (by kernel_rfl) (by kernel_rfl) (fun _ _ _ h => h) (Or.inl ⟨(by kernel_rfl), ?_⟩) (by first | trivial | assumption) ?_
            rotate_left
            · (intro w hSw; (try dsimp only at hSw); go_simp; try with_reducible rfl)
            try simp only [Act.put, List.getElem_toArray, List.getElem_cons_zero, List.getElem_cons_succ, List.setIfInBounds_toArray, List.set_cons_zero, List.set_cons_succ]
            refine wpAnyH_take (i := 18) (v := ?_) (o_at HG 18 rfl) Gns (by kernel_rfl) (by kernel_rfl) (fun _ _ _ h => h) (Or.inl ⟨(by kernel_rfl), ?_⟩) (by first | trivial | assumption) ?_
            rotate_left
            · (intro w hSw; (try dsimp only at hSw); go_simp; try with_reducible rfl)
            try simp only [Act.put, List.getElem_toArray, List.getElem_cons_zero, List.getElem_cons_succ, List.setIfInBounds_toArray, List.set_cons_zero, List.set_cons_succ]
            refine wpAnyH_ready (rs := [19]) (by kernel_rfl) (by simp) ?_
            refine AllReadyH.cons (o_at HG 19 rfl) ?_ (AllReadyH.nil)
            · intro K' hK
              rw [if_pos (by kernel_rfl)]
              go_simp
              clear hfz hc1
              have hs : (X3.setCell ⟨g, 1, none⟩ (.slice A2 qs.length c2)).cell? ⟨g, 0, none⟩ = some (.int .i64 last) := by rw [cell_of_row _ g 0 _ 44 (0, 0) HFIN.out]; rfl
              refine hK.out _ _ (hs) (fun _ => ?_)
              clear hs
              have HEND := Lib.hid (HO.out)
              try simp only [Act.put, List.getElem_toArray, List.getElem_cons_zero, List.getElem_cons_succ, List.setIfInBounds_toArray, List.set_cons_zero, List.set_cons_succ]
              refine wpAnyH_done (by kernel_rfl) ?_ _
              have hgs := HSZV.out
              have hglo := HGL.out
              have q1 := (Below.heap_setCell X3 ⟨g, 1, none⟩ (.slice A2 qs.length c2) w.heap.size (by show w.heap.size ≠ g; omega)).trans (heap_below HA1.out HB.out)
              have q2 := (Below.heap_setCell X3 ⟨g, 1, none⟩ (.slice A2 qs.length c2) (w.heap.size + 1) (by show w.heap.size + 1 ≠ g; omega)).trans (heap_below HA2.out HB.out)
              have HY1 : Hid (Keeps (fun k => k = g) w (X3.setCell ⟨g, 1, none⟩ (.slice A2 qs.length c2))) := Lib.hid ((HKV.out.below HB.out).setCell (.inl rfl) _)
              have HY2 : Hid (w.heap.size + 1 < V.heap.size) := HSZV
              clear HA1 HA2 HKV HGX
              have HQ1 := Lib.hid q1
              have HQ2 := Lib.hid q2
              have t0 := cell_of_row _ _ 0 _ _ _ HQ2.out
              have t1 := cell_of_row _ _ 1 _ _ _ HQ2.out
              have t2 := cell_of_row _ _ 2 _ _ _ HQ2.out
              have s0 := cell_of_row _ _ 0 _ _ _ HQ1.out
              have s1 := cell_of_row _ _ 1 _ _ _ HQ1.out
              have s2 := cell_of_row _ _ 2 _ _ _ HQ1.out
              have f0 := frozen_of_row _ _ 0 _ _ HQ1.out
              have f1 := frozen_of_row _ _ 1 _ _ HQ1.out
              have f2 := frozen_of_row _ _ 2 _ _ HQ1.out
              simp at t0 t1 t2 s0 s1 s2
              clear q1 q2 hgs hglo
              have HH : Hid ((X3.setCell ⟨g, 1, none⟩ (.slice A2 qs.length c2)).ownsRow V.heap.size 47 3 (.slice A2 qs.length c2) qs.length (rowOf qs)) := Lib.hid (own_keep HEND.out fun k hk => Below.heap_setCell _ _ _ _ (by
                have h1 := (HEND.out.lt k hk).1
                have h2 := HGL.out
                have h3 := HY2.out
                show k ≠ g
                omega))
              clear HEND HB
              generalize X3.setCell ⟨g, 1, none⟩ (.slice A2 qs.length c2) = Z at *
              go_wp2
              have h2 := HGL.out
              have h3 := HY2.out
              rw [← HQS.out]
              refine bodyPost_ret (v := .tuple #[frameV p, .int .i64 0]) ?_ rfl ⟨rfl, HPUT.out _ A2 c2 (((HY1.out.setCell (.inr (Nat.le_refl _)) _).setCell (.inr (Nat.le_refl _)) _).setCell (.inr (Nat.le_refl _)) _) ?_ ?_⟩
              · rw [results_cell_tmp rfl]
                go_simp
                rfl
              · rw [Below.heap_setCell _ _ _ _ (by show g ≠ w.heap.size; omega), Below.heap_setCell _ _ _ _ (by show g ≠ w.heap.size; omega), Below.heap_setCell _ _ _ _ (by show g ≠ w.heap.size; omega)]
                exact HFIN.out
              · refine own_keep (own_mono HH.out (by omega)) fun k hk => ?_
                have h1 := (HH.out.lt k hk).1
                rw [Below.heap_setCell _ _ _ _ (by show k ≠ w.heap.size; omega), Below.heap_setCell _ _ _ _ (by show k ≠ w.heap.size; omega), Below.heap_setCell _ _ _ _ (by show k ≠ w.heap.size; omega)]
theorem ref_take (id g : Nat) (last : Int) (ps : List P) (x : Int) (w : World) (col : Nat → Nat) (h : RefAt w col id g last ps) (hps : ps.length ≤ 1000000) :
    Calls Try.prog 14 #[.pointer (some ⟨g, 0, none⟩), .int .i64 x] w (RefTakeQ id g last ps x w col) := by
  rcases fnd_cases ps x with hx | ⟨i, p, hx, hp, hpx⟩
  · obtain ⟨A, c, h1, h2, h3⟩ := h.ex
    refine (ref_take_not _ x w fun W hW => ?_).mono ?_
    · rw [← hx]
      exact at_any g last ps x A c W (heap_below h1 hW) (h2.below hW) hps
    · rintro e w' ⟨rfl, hb⟩
      exact ⟨col, (Step.refl _ _ _).below hb, .inl ⟨hx, rfl, h.below hb⟩⟩
  · refine (ref_take_some id g last ps x i p w col h hps hx hp).mono ?_
    rintro e w' ⟨rfl, col', s, l⟩
    have hm := List.mem_of_getElem? hp
    exact ⟨col', s, .inr ⟨i, p, hx, hp, hpx, rfl, l, (h.dat p hm).1, (h.dat p hm).2.step s h.nz⟩⟩
end Go.Proofs.Ytbjkeakehdljlaa
