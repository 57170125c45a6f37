/- The walk of Send of the document's link. Conditions: none. -/
import Derived.Test.YtbjkeakehdljlaaRef
namespace Go.Proofs.Ytbjkeakehdljlaa
set_option linter.unusedVariables false
set_option linter.unusedSimpArgs false
open Go.RowKit

noncomputable def G13 : Array Oper := regionOf Try.f13 4
theorem Gns13 : Region.noSelect G13 = true := by kernel_rfl

theorem ref_bad (p : Option Addr) (to : Int) (A : Option Addr) (n c : Nat) (w : World) (h : to < 0 ∨ 20 < to ∨ 65536 < n) :
    Calls Try.prog 13 #[.pointer p, .int .i64 to, .slice A n c] w fun e w' => e = .returned (.tuple #[.int .i64 0, .int .i64 1]) ∧ w = w' := by
  by_cases h1 : to < 0
  · go_enter Try.func13, Try.ntmps13
    go_wp2
    go_ret2
    exact ⟨rfl, rfl⟩
  · by_cases h2 : 20 < to
    · go_enter Try.func13, Try.ntmps13
      go_wp2
      go_ret2
      exact ⟨rfl, rfl⟩
    · have h3 : 65536 < n := by omega
      clear h
      go_enter Try.func13, Try.ntmps13
      go_wp2
      go_ret2
      exact ⟨rfl, rfl⟩

def RefSendP (id g : Nat) (last : Int) (ps : List P) (to : Int) (b : List UInt8) (A : Option Addr) (c : Nat) (w : World) (col : Nat → Nat) (e : Ending) (w' : World) : Prop :=
  e = .returned (.tuple #[.int .i64 (last + 1), .int .i64 0]) ∧ ∃ col', Step id w col w' col' ∧ RefAt w' col' id g (last + 1) (ps ++ [⟨last + 1, to, b, A, c⟩])

set_option maxHeartbeats 4000000 in
theorem ref_send (id g : Nat) (last : Int) (ps : List P) (to : Int) (A : Option Addr) (c : Nat) (b : List UInt8) (w : World) (col : Nat → Nat) (h : RefAt w col id g last ps) (hr : RC w col 0 A b) (hc : SV A b.length c)
    (hok : sendOk to b) (hps : ps.length ≤ 1000000) (hl0 : 0 ≤ last) (hl : last ≤ 1000000) :
    Calls Try.prog 13 #[.pointer (some ⟨g, 0, none⟩), .int .i64 to, .slice A b.length c] w (RefSendP id g last ps to b A c w col) := by
  obtain ⟨AL, cL, hg, hf, -⟩ := h.ex
  obtain ⟨o1, o2, o3⟩ := hok
  have hc0 : w.cell? ⟨g, 0, none⟩ = some (.int .i64 last) := by rw [cell_of_row w g 0 _ 44 (0, 0) hg]; rfl
  have hf0 : w.frozen? ⟨g, 0, none⟩ = false := frozen_of_row w g 0 _ _ hg
  have hwr : wrap64 (last + 1) = last + 1 := by unfold wrap64; omega
  have hg1 := row_set (j := 0) (.int .i64 (last + 1)) hg
  have hk1 : Keeps (fun k => k = g) w (w.setCell ⟨g, 0, none⟩ (.int .i64 (last + 1))) := (Keeps.refl (fun k => k = g) w).setCell (.inl rfl) _
  have hsz : (w.setCell ⟨g, 0, none⟩ (.int .i64 (last + 1))).heap.size = w.heap.size := by simp [World.setCell]
  have hagg : ∀ (gg : Nat), AL = some ⟨gg, 0, none⟩ → 0 < ps.length → gg ≠ g := by
    intro gg e hp e2
    subst e2
    obtain ⟨g', e', hh, -⟩ := hf.at_ 0 ps[0] (List.getElem?_eq_getElem hp)
    obtain ⟨_, _, _, _, h3⟩ := h.ex
    subst e
    cases e'
    rename_i A' c' h1' h2'
    rw [hg] at h1'
    cases h1'
    have := h3 hp _ rfl
    exact h.nz (h.hcol.symm.trans this)
  have hF1 : FR (w.setCell ⟨g, 0, none⟩ (.int .i64 (last + 1))) AL cL ps := hf.keep fun hp ad e => Below.heap_setCell w _ _ _ (by
    obtain ⟨gg, e', -⟩ := hf.at_ 0 ps[0] (List.getElem?_eq_getElem hp)
    rw [e] at e'
    have h2 := Option.some.inj e'
    subst h2
    exact hagg gg e hp)
  have hput : ∀ (V X : World) (A2 : Option Addr) (c2 : Nat), Keeps (fun k => k = g) w V → w.heap.size = V.heap.size → Below V.heap.size V X → X.ownsRow V.heap.size 47 3 (.slice A2 (ps ++ [(⟨last + 1, to, b, A, c⟩ : P)]).length c2) (ps ++ [(⟨last + 1, to, b, A, c⟩ : P)]).length (rowOf (ps ++ [(⟨last + 1, to, b, A, c⟩ : P)])) →
      (X.setCell ⟨g, 1, none⟩ (.slice A2 (ps ++ [(⟨last + 1, to, b, A, c⟩ : P)]).length c2)).heap[g]? = some (.cells #[.int .i64 (last + 1), .slice A2 (ps ++ [(⟨last + 1, to, b, A, c⟩ : P)]).length c2] 44 (0, 0)) →
      RefSendP id g last ps to b A c w col (.returned (.tuple #[.int .i64 (last + 1), .int .i64 0])) (X.setCell ⟨g, 1, none⟩ (.slice A2 (ps ++ [(⟨last + 1, to, b, A, c⟩ : P)]).length c2)) := by
    intro V X A2 c2 hk hs hb ho hgx
    refine ⟨rfl, ref_put h ((hk.below hb).setCell (.inl rfl) _) hgx (own_keep (own_mono ho (by omega)) fun k hk => Below.heap_setCell _ _ _ _ ?_) ?_⟩
    · have h1 := (ho.lt k hk).1
      have h2 := (Array.getElem?_eq_some_iff.1 hg).1
      show k ≠ g
      omega
    · intro q hq
      rcases List.mem_append.1 hq with hq | hq
      · exact h.dat q hq
      · rw [List.mem_singleton] at hq
        subst hq
        exact ⟨hc, hr⟩
  have hput2 := hput (w.setCell ⟨g, 0, none⟩ (.int .i64 (last + 1))).drew
  have HPUT := Lib.hid (fun X A2 c2 => hput2 X A2 c2 hk1.drew hsz.symm)
  have HG1 := Lib.hid hg1
  have HF1 := Lib.hid hF1
  clear hput hput2 hF1 hg1 hk1 hsz hagg hf hg h hr hc
  go_enter Try.func13, Try.ntmps13
  go_wp2_with fail
  refine region_const (G := G13) (S := fun X => X.cell? ⟨g, 0, none⟩ = some (.int .i64 (last + 1))) (n := 19) (by kernel_rfl) (by kernel_rfl) rfl ?_ (fun HG _ => ?_)
  · have := cell_of_row _ g 0 _ 44 (0, 0) HG1.out; exact this
  have Gns := Gns13
  obtain ⟨qs, hqs⟩ : ∃ qs, qs = ps ++ [(⟨last + 1, to, b, A, c⟩ : P)] := ⟨_, rfl⟩
  rw [← hqs] at HPUT
  obtain ⟨z, hz, hzs⟩ := info47
  have HGV : Hid ((w.setCell ⟨g, 0, none⟩ (.int .i64 (last + 1))).drew.heap[g]? = some (.cells #[.int .i64 (last + 1), .slice AL ps.length cL] 44 (0, 0))) := HG1
  have HFV : Hid (FR (w.setCell ⟨g, 0, none⟩ (.int .i64 (last + 1))).drew AL cL ps) := Lib.hid ⟨HF1.out.len, HF1.out.nil, HF1.out.at_⟩
  clear HG1 HF1 hc0 hf0 hwr
  generalize (w.setCell ⟨g, 0, none⟩ (.int .i64 (last + 1))).drew = V at *
  have HC0 := Lib.hid (show V.cell? ⟨g, 0, none⟩ = some (.int .i64 (last + 1)) by rw [cell_of_row _ g 0 _ 44 (0, 0) HGV.out]; rfl)
  have HC1 := Lib.hid (show V.cell? ⟨g, 1, none⟩ = some (.slice AL ps.length cL) by rw [cell_of_row _ g 1 _ 44 (0, 0) HGV.out]; rfl)
  have HR0 := Lib.hid (rowOf_length ps)
  have HR0n := Lib.hid HFV.out.news
  have HR01 := Lib.hid (rowOf_one ps)
  have HNIL := Lib.hid HFV.out.nil
  obtain ⟨n, hn⟩ : ∃ n, n = ps.length := ⟨_, rfl⟩
  obtain ⟨r0, hr0⟩ : ∃ r, r = rowOf ps := ⟨_, rfl⟩
  obtain ⟨L0, hL0⟩ : ∃ l, l = last + 1 := ⟨_, rfl⟩
  obtain ⟨news, hnews⟩ : ∃ l : List Value, l = [.int .i64 L0, .int .i64 to, .slice A b.length c] := ⟨_, rfl⟩
  have HQ : Hid (∀ (X : World) (v : Value), X.ownsRow V.heap.size 47 3 v (n + 1) (r0 ++ news) → X.ownsRow V.heap.size 47 3 v qs.length (rowOf qs)) := Lib.hid (fun X v ho => by
    rw [hqs, List.length_append, rowOf_append, ← hn, ← hr0]
    rw [hnews, hL0] at ho
    exact ho)
  have HNW := Lib.hid hnews
  rw [← hn] at HC1 HR0 HR0n HGV hps
  rw [← hr0] at HR0 HR0n HR01
  rw [← hL0] at HC0 HPUT HGV ⊢
  have HNP := Lib.hid hn
  clear hnews hL0 hqs hn hr0
  obtain ⟨X0, hX0⟩ : ∃ X, X = V := ⟨V, rfl⟩
  have HB : Hid (Below V.heap.size V X0) := Lib.hid (by rw [hX0]; exact Below.refl _ _)
  have hcz : X0.cell? ⟨g, 0, none⟩ = some (.int .i64 L0) := by rw [hX0]; exact HC0.out
  rw [← hX0]
  clear hX0
  have HN1 : Hid (n = n) := Lib.hid rfl
  simp only [Array.replicate_succ, Array.replicate_zero, List.push_toArray, List.nil_append, List.cons_append]
  refine wpAnyH_take (i := 0) (v := ?_) (o_at HG 0 rfl) Gns (by kernel_rfl) (by kernel_rfl) (fun _ _ _ h => h) (Or.inl ⟨(by kernel_rfl), ?_⟩) (by first | trivial | assumption) ?_
  rotate_left
  · (intro w hSw; (try dsimp only at hSw); go_simp; try with_reducible rfl)
  try simp only [Act.put, List.getElem_toArray, List.getElem_cons_zero, List.getElem_cons_succ, List.setIfInBounds_toArray, List.set_cons_zero, List.set_cons_succ]
  refine wpAnyH_take (i := 2) (v := ?_) (o_at HG 2 rfl) Gns (by kernel_rfl) (by kernel_rfl) (fun _ _ _ h => h) (Or.inl ⟨(by kernel_rfl), ?_⟩) (by first | trivial | assumption) ?_
  rotate_left
  · (intro w hSw; (try dsimp only at hSw); go_simp; try with_reducible rfl)
  try simp only [Act.put, List.getElem_toArray, List.getElem_cons_zero, List.getElem_cons_succ, List.setIfInBounds_toArray, List.set_cons_zero, List.set_cons_succ]
  refine wpAnyH_take (i := 3) (v := ?_) (o_at HG 3 rfl) Gns (by kernel_rfl) (by kernel_rfl) (fun _ _ _ h => h) (Or.inl ⟨(by kernel_rfl), ?_⟩) (by first | trivial | assumption) ?_
  rotate_left
  · (intro w hSw; (try dsimp only at hSw); go_simp; try with_reducible rfl)
  try simp only [Act.put, List.getElem_toArray, List.getElem_cons_zero, List.getElem_cons_succ, List.setIfInBounds_toArray, List.set_cons_zero, List.set_cons_succ]
  refine wpAnyH_take (i := 4) (v := ?_) (o_at HG 4 rfl) Gns (by kernel_rfl) (by kernel_rfl) (fun _ _ _ h => h) (Or.inl ⟨(by kernel_rfl), ?_⟩) (by first | trivial | assumption) ?_
  rotate_left
  · (intro w hSw; (try dsimp only at hSw); go_simp; try with_reducible rfl)
  try simp only [Act.put, List.getElem_toArray, List.getElem_cons_zero, List.getElem_cons_succ, List.setIfInBounds_toArray, List.set_cons_zero, List.set_cons_succ]
  refine wpAnyH_take (i := 7) (v := ?_) (o_at HG 7 rfl) Gns (by kernel_rfl) (by kernel_rfl) (fun _ _ _ h => h) (Or.inl ⟨(by kernel_rfl), ?_⟩) (by first | trivial | assumption) ?_
  rotate_left
  · (intro w hSw; (try dsimp only at hSw); go_simp; try with_reducible rfl)
  try simp only [Act.put, List.getElem_toArray, List.getElem_cons_zero, List.getElem_cons_succ, List.setIfInBounds_toArray, List.set_cons_zero, List.set_cons_succ]
  refine wpAnyH_take (i := 8) (v := ?_) (o_at HG 8 rfl) Gns (by kernel_rfl) (by kernel_rfl) (fun _ _ _ h => h) (Or.inl ⟨(by kernel_rfl), ?_⟩) (by first | trivial | assumption) ?_
  rotate_left
  · (intro w hSw; (try dsimp only at hSw); go_simp; try with_reducible rfl)
  try simp only [Act.put, List.getElem_toArray, List.getElem_cons_zero, List.getElem_cons_succ, List.setIfInBounds_toArray, List.set_cons_zero, List.set_cons_succ]
  refine wpAnyH_take (i := 9) (v := ?_) (o_at HG 9 rfl) Gns (by kernel_rfl) (by kernel_rfl) (fun _ _ _ h => h) (Or.inl ⟨(by kernel_rfl), ?_⟩) (by first | trivial | assumption) ?_
  rotate_left
  · (intro w hSw; (try dsimp only at hSw); go_simp; try with_reducible rfl)
  try simp only [Act.put, List.getElem_toArray, List.getElem_cons_zero, List.getElem_cons_succ, List.setIfInBounds_toArray, List.set_cons_zero, List.set_cons_succ]
  refine wpAnyH_take (i := 10) (v := ?_) (o_at HG 10 rfl) Gns (by kernel_rfl) (by kernel_rfl) (fun _ _ _ h => h) (Or.inl ⟨(by kernel_rfl), ?_⟩) (by first | trivial | assumption) ?_
  rotate_left
  · (intro w hSw; (try dsimp only at hSw); go_simp; try with_reducible rfl)
  try simp only [Act.put, List.getElem_toArray, List.getElem_cons_zero, List.getElem_cons_succ, List.setIfInBounds_toArray, List.set_cons_zero, List.set_cons_succ]
  refine wpAnyH_take (i := 11) (v := ?_) (o_at HG 11 rfl) Gns (by kernel_rfl) (by kernel_rfl) (fun _ _ _ h => h) (Or.inl ⟨(by kernel_rfl), ?_⟩) (by first | trivial | assumption) ?_
  rotate_left
  · (intro w hSw; (try dsimp only at hSw); go_simp; try with_reducible rfl)
  try simp only [Act.put, List.getElem_toArray, List.getElem_cons_zero, List.getElem_cons_succ, List.setIfInBounds_toArray, List.set_cons_zero, List.set_cons_succ]
  refine wpAnyH_take (i := 12) (v := ?_) (o_at HG 12 rfl) Gns (by kernel_rfl) (by kernel_rfl) (fun _ _ _ h => h) (Or.inl ⟨(by kernel_rfl), ?_⟩) (by first | trivial | assumption) ?_
  rotate_left
  · (intro w hSw; (try dsimp only at hSw); go_simp; try with_reducible rfl)
  try simp only [Act.put, List.getElem_toArray, List.getElem_cons_zero, List.getElem_cons_succ, List.setIfInBounds_toArray, List.set_cons_zero, List.set_cons_succ]
  refine wpAnyH_take (i := 13) (v := ?_) (o_at HG 13 rfl) Gns (by kernel_rfl) (by kernel_rfl) (fun _ _ _ h => h) (Or.inl ⟨(by kernel_rfl), ?_⟩) (by first | trivial | assumption) ?_
  rotate_left
  · (intro w hSw; (try dsimp only at hSw); go_simp; try with_reducible rfl)
  try simp only [Act.put, List.getElem_toArray, List.getElem_cons_zero, List.getElem_cons_succ, List.setIfInBounds_toArray, List.set_cons_zero, List.set_cons_succ]
  refine wpAnyH_ready (rs := [1, 5, 14]) (by kernel_rfl) (by simp) ?_
  refine AllReadyH.cons (o_at HG 1 rfl) ?_ (AllReadyH.cons (o_at HG 5 rfl) ?_ (AllReadyH.cons (o_at HG 14 rfl) ?_ (AllReadyH.nil)))
  · intro K' hK
    rw [if_pos (by kernel_rfl)]
    go_simp
    have hB : Below V.heap.size V (X0.alloc (.cells #[] 47)) := bel_alloc HB.out _
    have hxs : X0.heap.size < (X0.alloc (.cells #[] 47)).heap.size := by simp
    have hO : (X0.alloc (.cells #[] 47)).ownsRow V.heap.size 47 3 (.slice (some ⟨X0.heap.size, 0, none⟩) 0 0) 0 [] := World.ownsRow_made X0 #[] 0 HB.out.size (Nat.zero_le _) (by simp)
    have hs : (X0.alloc (.cells #[] 47)).cell? ⟨g, 0, none⟩ = some (.int .i64 L0) := (hB.cell (World.block_lt_of_cell? _ _ HC0.out)).trans HC0.out
    refine hK.out _ _ (hs) (fun _ => ?_)
    clear hs
    clear HB
    have HO := Lib.hid hO
    clear hO
    have HB := Lib.hid hB
    clear hB hxs
    generalize (X0.alloc (.cells #[] 47)) = X1 at *
    generalize X0.heap.size = k27 at *
    try simp only [Act.put, List.getElem_toArray, List.getElem_cons_zero, List.getElem_cons_succ, List.setIfInBounds_toArray, List.set_cons_zero, List.set_cons_succ]
    refine wpAnyH_ready (rs := [5, 14]) (by kernel_rfl) (by simp) ?_
    refine AllReadyH.cons (o_at HG 5 rfl) ?_ (AllReadyH.cons (o_at HG 14 rfl) ?_ (AllReadyH.nil))
    · intro K' hK
      have hc1 : X1.cell? ⟨g, 1, none⟩ = some (.slice AL n cL) := (HB.out.cell (World.block_lt_of_cell? _ _ HC1.out)).trans HC1.out
      rw [if_pos (by kernel_rfl)]
      go_simp
      clear hc1
      refine hK.out _ _ ((HB.out.cell (World.block_lt_of_cell? _ _ HC0.out)).trans HC0.out) (fun _ => ?_)
      try simp only [Act.put, List.getElem_toArray, List.getElem_cons_zero, List.getElem_cons_succ, List.setIfInBounds_toArray, List.set_cons_zero, List.set_cons_succ]
      refine wpAnyH_ready (rs := [6, 14]) (by kernel_rfl) (by simp) ?_
      refine AllReadyH.cons (o_at HG 6 rfl) ?_ (AllReadyH.cons (o_at HG 14 rfl) ?_ (AllReadyH.nil))
      · intro K' hK
        refine step_app (by kernel_rfl) _ _ 42 rfl V.heap.size 47 z 3 40 Try.underlying42 hz hzs (by decide) (.slice (some ⟨k27, 0, none⟩) 0 0) 0 [] rfl HO.out AL n cL r0 rfl HR0.out HNIL.out (fun hp => ?_) HR01.out (by unfold maxLen; omega) (by omega) HB.out.size ?_
        · obtain ⟨ad, e, hh⟩ := HR0n.out hp; exact ⟨ad, e, fun j u hu => (HB.out.cell (World.block_lt_of_cell? _ _ (hh j u hu))).trans (hh j u hu)⟩
        intro v1 X2 ho hg hv
        rw [List.nil_append, Nat.zero_add] at ho
        have hB : Below V.heap.size V X2 := bel_grown HB.out hg (fun k hk => (HO.out.lt k hk).1)
        have hs : X2.cell? ⟨g, 0, none⟩ = some (.int .i64 L0) := (hB.cell (World.block_lt_of_cell? _ _ HC0.out)).trans HC0.out
        refine hK.out _ _ (hs) (fun _ => ?_)
        clear hs
        clear HO HB
        have HO : Hid (X2.ownsRow V.heap.size 47 3 v1 n r0) := ho
        have HB := Lib.hid hB
        clear ho hg hv hB
        try simp only [Act.put, List.getElem_toArray, List.getElem_cons_zero, List.getElem_cons_succ, List.setIfInBounds_toArray, List.set_cons_zero, List.set_cons_succ]
        refine wpAnyH_ready (rs := [14]) (by kernel_rfl) (by simp) ?_
        refine AllReadyH.cons (o_at HG 14 rfl) ?_ (AllReadyH.nil)
        · intro K' hK
          rw [if_pos (by kernel_rfl)]
          go_simp
          have hB : Below V.heap.size V (X2.alloc (.cells #[.int .i64 L0, .int .i64 to, .slice A b.length c] 47)) := bel_alloc HB.out _
          have hxs : X2.heap.size < (X2.alloc (.cells #[.int .i64 L0, .int .i64 to, .slice A b.length c] 47)).heap.size := by simp
          have hN : ∀ j u, news[j]? = some u → (X2.alloc (.cells #[.int .i64 L0, .int .i64 to, .slice A b.length c] 47)).cell? ((⟨X2.heap.size, 0, none⟩ : Addr).add j) = some u := fun j u hu => cell_alloc _ _ _ _ _ rfl j u (by rw [HNW.out] at hu; simpa using hu)
          have hO : (X2.alloc (.cells #[.int .i64 L0, .int .i64 to, .slice A b.length c] 47)).ownsRow V.heap.size 47 3 v1 n r0 := own_keep HO.out fun k hk => Below.heap_alloc _ _ k (by have := (HO.out.lt k hk).2; omega)
          have hs : (X2.alloc (.cells #[.int .i64 L0, .int .i64 to, .slice A b.length c] 47)).cell? ⟨g, 0, none⟩ = some (.int .i64 L0) := (hB.cell (World.block_lt_of_cell? _ _ HC0.out)).trans HC0.out
          refine hK.out _ _ (hs) (fun _ => ?_)
          clear hs
          clear HB
          have HN := Lib.hid hN
          clear hN
          clear HO
          have HO := Lib.hid hO
          clear hO
          have HKN := Lib.hid hxs
          have HB := Lib.hid hB
          clear hB hxs
          generalize (X2.alloc (.cells #[.int .i64 L0, .int .i64 to, .slice A b.length c] 47)) = X3 at *
          generalize X2.heap.size = k40 at *
          try simp only [Act.put, List.getElem_toArray, List.getElem_cons_zero, List.getElem_cons_succ, List.setIfInBounds_toArray, List.set_cons_zero, List.set_cons_succ]
          refine wpAnyH_ready (rs := [15]) (by kernel_rfl) (by simp) ?_
          refine AllReadyH.cons (o_at HG 15 rfl) ?_ (AllReadyH.nil)
          · intro K' hK
            refine step_app (by kernel_rfl) _ _ 42 rfl V.heap.size 47 z 3 40 Try.underlying42 hz hzs (by decide) v1 n r0 rfl HO.out (some ⟨k40, 0, none⟩) 1 1 news rfl (by rw [HNW.out]; rfl) (fun e => by cases e) (fun _ => ⟨_, rfl, HN.out⟩) (by rw [HNW.out]; intro u hu; simp only [List.mem_cons, List.not_mem_nil, or_false] at hu; rcases hu with rfl | rfl | rfl <;> rfl) (by have := HN1.out; unfold maxLen; omega) (by have := HN1.out; omega) HB.out.size ?_
            intro v2 X4 ho hg hv
            have hB : Below V.heap.size V X4 := bel_grown HB.out hg (fun k hk => (HO.out.lt k hk).1)
            have hs : X4.cell? ⟨g, 0, none⟩ = some (.int .i64 L0) := (hB.cell (World.block_lt_of_cell? _ _ HC0.out)).trans HC0.out
            refine hK.out _ _ (hs) (fun _ => ?_)
            clear hs
            clear HO HB
            have hO : X4.ownsRow V.heap.size 47 3 v2 qs.length (rowOf qs) := HQ.out _ _ ho
            obtain ⟨A2, c2, rfl, -⟩ := own_FR hO
            have HO := Lib.hid hO
            have HB := Lib.hid hB
            clear ho hg hv hB hO
            have HGX : Hid (X4.heap[g]? = some (.cells #[.int .i64 L0, .slice AL n cL] 44 (0, 0))) := heap_below HGV.out HB.out
            have hfz : X4.frozen? ⟨g, 1, none⟩ = false := frozen_of_row _ g 1 _ _ HGX.out
            have hc1 : X4.cell? ⟨g, 1, none⟩ = some (.slice AL n cL) := by rw [cell_of_row _ g 1 _ 44 (0, 0) HGX.out]; rfl
            have HFIN := Lib.hid (row_set (j := 1) (.slice A2 qs.length c2) HGX.out)
            try simp only [Act.put, List.getElem_toArray, List.getElem_cons_zero, List.getElem_cons_succ, List.setIfInBounds_toArray, List.set_cons_zero, List.set_cons_succ]
            refine wpAnyH_take (i := 16) (v := ?_) (o_at HG 16 rfl) Gns (by kernel_rfl) (by kernel_rfl) (fun _ _ _ h => h) (Or.inl ⟨(by kernel_rfl), ?_⟩) (by first | trivial | assumption) ?_
            rotate_left
            · (intro w hSw; (try dsimp only at hSw); go_simp; try with_reducible rfl)
            try simp only [Act.put, List.getElem_toArray, List.getElem_cons_zero, List.getElem_cons_succ, List.setIfInBounds_toArray, List.set_cons_zero, List.set_cons_succ]
            refine wpAnyH_take (i := 17) (v := ?_) (o_at HG 17 rfl) Gns (by kernel_rfl) (by kernel_rfl) (fun _ _ _ h => h) (Or.inl ⟨(by kernel_rfl), ?_⟩) (by first | trivial | assumption) ?_
            rotate_left
            · (intro w hSw; (try dsimp only at hSw); go_simp; try with_reducible rfl)
            try simp only [Act.put, List.getElem_toArray, List.getElem_cons_zero, List.getElem_cons_succ, List.setIfInBounds_toArray, List.set_cons_zero, List.set_cons_succ]
            refine wpAnyH_ready (rs := [18]) (by kernel_rfl) (by simp) ?_
            refine AllReadyH.cons (o_at HG 18 rfl) ?_ (AllReadyH.nil)
            · intro K' hK
              rw [if_pos (by kernel_rfl)]
              go_simp
              clear hfz hc1
              have hs : (X4.setCell ⟨g, 1, none⟩ (.slice A2 qs.length c2)).cell? ⟨g, 0, none⟩ = some (.int .i64 L0) := by rw [cell_of_row _ g 0 _ 44 (0, 0) HFIN.out]; rfl
              refine hK.out _ _ (hs) (fun _ => ?_)
              clear hs
              have HEND := Lib.hid (HPUT.out _ _ _ HB.out HO.out HFIN.out)
              try simp only [Act.put, List.getElem_toArray, List.getElem_cons_zero, List.getElem_cons_succ, List.setIfInBounds_toArray, List.set_cons_zero, List.set_cons_succ]
              refine wpAnyH_done (by kernel_rfl) ?_ _
              go_wp2
              go_ret2
              exact HEND.out
      · intro K' hK
        rw [if_pos (by kernel_rfl)]
        go_simp
        have hB : Below V.heap.size V (X1.alloc (.cells #[.int .i64 L0, .int .i64 to, .slice A b.length c] 47)) := bel_alloc HB.out _
        have hxs : X1.heap.size < (X1.alloc (.cells #[.int .i64 L0, .int .i64 to, .slice A b.length c] 47)).heap.size := by simp
        have hN : ∀ j u, news[j]? = some u → (X1.alloc (.cells #[.int .i64 L0, .int .i64 to, .slice A b.length c] 47)).cell? ((⟨X1.heap.size, 0, none⟩ : Addr).add j) = some u := fun j u hu => cell_alloc _ _ _ _ _ rfl j u (by rw [HNW.out] at hu; simpa using hu)
        have hO : (X1.alloc (.cells #[.int .i64 L0, .int .i64 to, .slice A b.length c] 47)).ownsRow V.heap.size 47 3 (.slice (some ⟨k27, 0, none⟩) 0 0) 0 [] := own_keep HO.out fun k hk => Below.heap_alloc _ _ k (by have := (HO.out.lt k hk).2; omega)
        have hNE : X1.heap.size ≠ k27 := by have := (HO.out.lt k27 rfl).2; omega
        have hs : (X1.alloc (.cells #[.int .i64 L0, .int .i64 to, .slice A b.length c] 47)).cell? ⟨g, 0, none⟩ = some (.int .i64 L0) := (hB.cell (World.block_lt_of_cell? _ _ HC0.out)).trans HC0.out
        refine hK.out _ _ (hs) (fun _ => ?_)
        clear hs
        clear HB
        have HN := Lib.hid hN
        clear hN
        clear HO
        have HO := Lib.hid hO
        clear hO
        have HNE := Lib.hid hNE
        clear hNE
        have HKN := Lib.hid hxs
        have HB := Lib.hid hB
        clear hB hxs
        generalize (X1.alloc (.cells #[.int .i64 L0, .int .i64 to, .slice A b.length c] 47)) = X2 at *
        generalize X1.heap.size = k40 at *
        try simp only [Act.put, List.getElem_toArray, List.getElem_cons_zero, List.getElem_cons_succ, List.setIfInBounds_toArray, List.set_cons_zero, List.set_cons_succ]
        refine wpAnyH_ready (rs := [6]) (by kernel_rfl) (by simp) ?_
        refine AllReadyH.cons (o_at HG 6 rfl) ?_ (AllReadyH.nil)
        · intro K' hK
          refine step_app (by kernel_rfl) _ _ 42 rfl V.heap.size 47 z 3 40 Try.underlying42 hz hzs (by decide) (.slice (some ⟨k27, 0, none⟩) 0 0) 0 [] rfl HO.out AL n cL r0 rfl HR0.out HNIL.out (fun hp => ?_) HR01.out (by unfold maxLen; omega) (by omega) HB.out.size ?_
          · obtain ⟨ad, e, hh⟩ := HR0n.out hp; exact ⟨ad, e, fun j u hu => (HB.out.cell (World.block_lt_of_cell? _ _ (hh j u hu))).trans (hh j u hu)⟩
          intro v1 X3 ho hg hv
          rw [List.nil_append, Nat.zero_add] at ho
          have hB : Below V.heap.size V X3 := bel_grown HB.out hg (fun k hk => (HO.out.lt k hk).1)
          have hs : X3.cell? ⟨g, 0, none⟩ = some (.int .i64 L0) := (hB.cell (World.block_lt_of_cell? _ _ HC0.out)).trans HC0.out
          have hN : ∀ j u, news[j]? = some u → X3.cell? ((⟨k40, 0, none⟩ : Addr).add j) = some u := fun j u hu => (World.cell?_of_block (hg.block _ (by rw [add_block]; exact HKN.out) (by rw [add_block]; intro e; exact HNE.out (Option.some.inj e)))).trans (HN.out j u hu)
          clear HN
          have HN := Lib.hid hN
          clear hN
          refine hK.out _ _ (hs) (fun _ => ?_)
          clear hs
          clear HO HB
          have HO : Hid (X3.ownsRow V.heap.size 47 3 v1 n r0) := ho
          have HB := Lib.hid hB
          clear ho hg hv hB
          try simp only [Act.put, List.getElem_toArray, List.getElem_cons_zero, List.getElem_cons_succ, List.setIfInBounds_toArray, List.set_cons_zero, List.set_cons_succ]
          refine wpAnyH_ready (rs := [15]) (by kernel_rfl) (by simp) ?_
          refine AllReadyH.cons (o_at HG 15 rfl) ?_ (AllReadyH.nil)
          · intro K' hK
            refine step_app (by kernel_rfl) _ _ 42 rfl V.heap.size 47 z 3 40 Try.underlying42 hz hzs (by decide) v1 n r0 rfl HO.out (some ⟨k40, 0, none⟩) 1 1 news rfl (by rw [HNW.out]; rfl) (fun e => by cases e) (fun _ => ⟨_, rfl, HN.out⟩) (by rw [HNW.out]; intro u hu; simp only [List.mem_cons, List.not_mem_nil, or_false] at hu; rcases hu with rfl | rfl | rfl <;> rfl) (by have := HN1.out; unfold maxLen; omega) (by have := HN1.out; omega) HB.out.size ?_
            intro v2 X4 ho hg hv
            have hB : Below V.heap.size V X4 := bel_grown HB.out hg (fun k hk => (HO.out.lt k hk).1)
            have hs : X4.cell? ⟨g, 0, none⟩ = some (.int .i64 L0) := (hB.cell (World.block_lt_of_cell? _ _ HC0.out)).trans HC0.out
            refine hK.out _ _ (hs) (fun _ => ?_)
            clear hs
            clear HO HB
            have hO : X4.ownsRow V.heap.size 47 3 v2 qs.length (rowOf qs) := HQ.out _ _ ho
            obtain ⟨A2, c2, rfl, -⟩ := own_FR hO
            have HO := Lib.hid hO
            have HB := Lib.hid hB
            clear ho hg hv hB hO
            have HGX : Hid (X4.heap[g]? = some (.cells #[.int .i64 L0, .slice AL n cL] 44 (0, 0))) := heap_below HGV.out HB.out
            have hfz : X4.frozen? ⟨g, 1, none⟩ = false := frozen_of_row _ g 1 _ _ HGX.out
            have hc1 : X4.cell? ⟨g, 1, none⟩ = some (.slice AL n cL) := by rw [cell_of_row _ g 1 _ 44 (0, 0) HGX.out]; rfl
            have HFIN := Lib.hid (row_set (j := 1) (.slice A2 qs.length c2) HGX.out)
            try simp only [Act.put, List.getElem_toArray, List.getElem_cons_zero, List.getElem_cons_succ, List.setIfInBounds_toArray, List.set_cons_zero, List.set_cons_succ]
            refine wpAnyH_take (i := 16) (v := ?_) (o_at HG 16 rfl) Gns (by kernel_rfl) (by kernel_rfl) (fun _ _ _ h => h) (Or.inl ⟨(by kernel_rfl), ?_⟩) (by first | trivial | assumption) ?_
            rotate_left
            · (intro w hSw; (try dsimp only at hSw); go_simp; try with_reducible rfl)
            try simp only [Act.put, List.getElem_toArray, List.getElem_cons_zero, List.getElem_cons_succ, List.setIfInBounds_toArray, List.set_cons_zero, List.set_cons_succ]
            refine wpAnyH_take (i := 17) (v := ?_) (o_at HG 17 rfl) Gns (by kernel_rfl) (by kernel_rfl) (fun _ _ _ h => h) (Or.inl ⟨(by kernel_rfl), ?_⟩) (by first | trivial | assumption) ?_
            rotate_left
            · (intro w hSw; (try dsimp only at hSw); go_simp; try with_reducible rfl)
            try simp only [Act.put, List.getElem_toArray, List.getElem_cons_zero, List.getElem_cons_succ, List.setIfInBounds_toArray, List.set_cons_zero, List.set_cons_succ]
            refine wpAnyH_ready (rs := [18]) (by kernel_rfl) (by simp) ?_
            refine AllReadyH.cons (o_at HG 18 rfl) ?_ (AllReadyH.nil)
            · intro K' hK
              rw [if_pos (by kernel_rfl)]
              go_simp
              clear hfz hc1
              have hs : (X4.setCell ⟨g, 1, none⟩ (.slice A2 qs.length c2)).cell? ⟨g, 0, none⟩ = some (.int .i64 L0) := by rw [cell_of_row _ g 0 _ 44 (0, 0) HFIN.out]; rfl
              refine hK.out _ _ (hs) (fun _ => ?_)
              clear hs
              have HEND := Lib.hid (HPUT.out _ _ _ HB.out HO.out HFIN.out)
              try simp only [Act.put, List.getElem_toArray, List.getElem_cons_zero, List.getElem_cons_succ, List.setIfInBounds_toArray, List.set_cons_zero, List.set_cons_succ]
              refine wpAnyH_done (by kernel_rfl) ?_ _
              go_wp2
              go_ret2
              exact HEND.out
    · intro K' hK
      rw [if_pos (by kernel_rfl)]
      go_simp
      have hB : Below V.heap.size V (X1.alloc (.cells #[.int .i64 L0, .int .i64 to, .slice A b.length c] 47)) := bel_alloc HB.out _
      have hxs : X1.heap.size < (X1.alloc (.cells #[.int .i64 L0, .int .i64 to, .slice A b.length c] 47)).heap.size := by simp
      have hN : ∀ j u, news[j]? = some u → (X1.alloc (.cells #[.int .i64 L0, .int .i64 to, .slice A b.length c] 47)).cell? ((⟨X1.heap.size, 0, none⟩ : Addr).add j) = some u := fun j u hu => cell_alloc _ _ _ _ _ rfl j u (by rw [HNW.out] at hu; simpa using hu)
      have hO : (X1.alloc (.cells #[.int .i64 L0, .int .i64 to, .slice A b.length c] 47)).ownsRow V.heap.size 47 3 (.slice (some ⟨k27, 0, none⟩) 0 0) 0 [] := own_keep HO.out fun k hk => Below.heap_alloc _ _ k (by have := (HO.out.lt k hk).2; omega)
      have hNE : X1.heap.size ≠ k27 := by have := (HO.out.lt k27 rfl).2; omega
      have hs : (X1.alloc (.cells #[.int .i64 L0, .int .i64 to, .slice A b.length c] 47)).cell? ⟨g, 0, none⟩ = some (.int .i64 L0) := (hB.cell (World.block_lt_of_cell? _ _ HC0.out)).trans HC0.out
      refine hK.out _ _ (hs) (fun _ => ?_)
      clear hs
      clear HB
      have HN := Lib.hid hN
      clear hN
      clear HO
      have HO := Lib.hid hO
      clear hO
      have HNE := Lib.hid hNE
      clear hNE
      have HKN := Lib.hid hxs
      have HB := Lib.hid hB
      clear hB hxs
      generalize (X1.alloc (.cells #[.int .i64 L0, .int .i64 to, .slice A b.length c] 47)) = X2 at *
      generalize X1.heap.size = k40 at *
      try simp only [Act.put, List.getElem_toArray, List.getElem_cons_zero, List.getElem_cons_succ, List.setIfInBounds_toArray, List.set_cons_zero, List.set_cons_succ]
      refine wpAnyH_ready (rs := [5]) (by kernel_rfl) (by simp) ?_
      refine AllReadyH.cons (o_at HG 5 rfl) ?_ (AllReadyH.nil)
      · intro K' hK
        have hc1 : X2.cell? ⟨g, 1, none⟩ = some (.slice AL n cL) := (HB.out.cell (World.block_lt_of_cell? _ _ HC1.out)).trans HC1.out
        rw [if_pos (by kernel_rfl)]
        go_simp
        clear hc1
        refine hK.out _ _ ((HB.out.cell (World.block_lt_of_cell? _ _ HC0.out)).trans HC0.out) (fun _ => ?_)
        try simp only [Act.put, List.getElem_toArray, List.getElem_cons_zero, List.getElem_cons_succ, List.setIfInBounds_toArray, List.set_cons_zero, List.set_cons_succ]
        refine wpAnyH_ready (rs := [6]) (by kernel_rfl) (by simp) ?_
        refine AllReadyH.cons (o_at HG 6 rfl) ?_ (AllReadyH.nil)
        · intro K' hK
          refine step_app (by kernel_rfl) _ _ 42 rfl V.heap.size 47 z 3 40 Try.underlying42 hz hzs (by decide) (.slice (some ⟨k27, 0, none⟩) 0 0) 0 [] rfl HO.out AL n cL r0 rfl HR0.out HNIL.out (fun hp => ?_) HR01.out (by unfold maxLen; omega) (by omega) HB.out.size ?_
          · obtain ⟨ad, e, hh⟩ := HR0n.out hp; exact ⟨ad, e, fun j u hu => (HB.out.cell (World.block_lt_of_cell? _ _ (hh j u hu))).trans (hh j u hu)⟩
          intro v1 X3 ho hg hv
          rw [List.nil_append, Nat.zero_add] at ho
          have hB : Below V.heap.size V X3 := bel_grown HB.out hg (fun k hk => (HO.out.lt k hk).1)
          have hs : X3.cell? ⟨g, 0, none⟩ = some (.int .i64 L0) := (hB.cell (World.block_lt_of_cell? _ _ HC0.out)).trans HC0.out
          have hN : ∀ j u, news[j]? = some u → X3.cell? ((⟨k40, 0, none⟩ : Addr).add j) = some u := fun j u hu => (World.cell?_of_block (hg.block _ (by rw [add_block]; exact HKN.out) (by rw [add_block]; intro e; exact HNE.out (Option.some.inj e)))).trans (HN.out j u hu)
          clear HN
          have HN := Lib.hid hN
          clear hN
          refine hK.out _ _ (hs) (fun _ => ?_)
          clear hs
          clear HO HB
          have HO : Hid (X3.ownsRow V.heap.size 47 3 v1 n r0) := ho
          have HB := Lib.hid hB
          clear ho hg hv hB
          try simp only [Act.put, List.getElem_toArray, List.getElem_cons_zero, List.getElem_cons_succ, List.setIfInBounds_toArray, List.set_cons_zero, List.set_cons_succ]
          refine wpAnyH_ready (rs := [15]) (by kernel_rfl) (by simp) ?_
          refine AllReadyH.cons (o_at HG 15 rfl) ?_ (AllReadyH.nil)
          · intro K' hK
            refine step_app (by kernel_rfl) _ _ 42 rfl V.heap.size 47 z 3 40 Try.underlying42 hz hzs (by decide) v1 n r0 rfl HO.out (some ⟨k40, 0, none⟩) 1 1 news rfl (by rw [HNW.out]; rfl) (fun e => by cases e) (fun _ => ⟨_, rfl, HN.out⟩) (by rw [HNW.out]; intro u hu; simp only [List.mem_cons, List.not_mem_nil, or_false] at hu; rcases hu with rfl | rfl | rfl <;> rfl) (by have := HN1.out; unfold maxLen; omega) (by have := HN1.out; omega) HB.out.size ?_
            intro v2 X4 ho hg hv
            have hB : Below V.heap.size V X4 := bel_grown HB.out hg (fun k hk => (HO.out.lt k hk).1)
            have hs : X4.cell? ⟨g, 0, none⟩ = some (.int .i64 L0) := (hB.cell (World.block_lt_of_cell? _ _ HC0.out)).trans HC0.out
            refine hK.out _ _ (hs) (fun _ => ?_)
            clear hs
            clear HO HB
            have hO : X4.ownsRow V.heap.size 47 3 v2 qs.length (rowOf qs) := HQ.out _ _ ho
            obtain ⟨A2, c2, rfl, -⟩ := own_FR hO
            have HO := Lib.hid hO
            have HB := Lib.hid hB
            clear ho hg hv hB hO
            have HGX : Hid (X4.heap[g]? = some (.cells #[.int .i64 L0, .slice AL n cL] 44 (0, 0))) := heap_below HGV.out HB.out
            have hfz : X4.frozen? ⟨g, 1, none⟩ = false := frozen_of_row _ g 1 _ _ HGX.out
            have hc1 : X4.cell? ⟨g, 1, none⟩ = some (.slice AL n cL) := by rw [cell_of_row _ g 1 _ 44 (0, 0) HGX.out]; rfl
            have HFIN := Lib.hid (row_set (j := 1) (.slice A2 qs.length c2) HGX.out)
            try simp only [Act.put, List.getElem_toArray, List.getElem_cons_zero, List.getElem_cons_succ, List.setIfInBounds_toArray, List.set_cons_zero, List.set_cons_succ]
            refine wpAnyH_take (i := 16) (v := ?_) (o_at HG 16 rfl) Gns (by kernel_rfl) (by kernel_rfl) (fun _ _ _ h => h) (Or.inl ⟨(by kernel_rfl), ?_⟩) (by first | trivial | assumption) ?_
            rotate_left
            · (intro w hSw; (try dsimp only at hSw); go_simp; try with_reducible rfl)
            try simp only [Act.put, List.getElem_toArray, List.getElem_cons_zero, List.getElem_cons_succ, List.setIfInBounds_toArray, List.set_cons_zero, List.set_cons_succ]
            refine wpAnyH_take (i := 17) (v := ?_) (o_at HG 17 rfl) Gns (by kernel_rfl) (by kernel_rfl) (fun _ _ _ h => h) (Or.inl ⟨(by kernel_rfl), ?_⟩) (by first | trivial | assumption) ?_
            rotate_left
            · (intro w hSw; (try dsimp only at hSw); go_simp; try with_reducible rfl)
            try simp only [Act.put, List.getElem_toArray, List.getElem_cons_zero, List.getElem_cons_succ, List.setIfInBounds_toArray, List.set_cons_zero, List.set_cons_succ]
            refine wpAnyH_ready (rs := [18]) (by kernel_rfl) (by simp) ?_
            refine AllReadyH.cons (o_at HG 18 rfl) ?_ (AllReadyH.nil)
            · intro K' hK
              rw [if_pos (by kernel_rfl)]
              go_simp
              clear hfz hc1
              have hs : (X4.setCell ⟨g, 1, none⟩ (.slice A2 qs.length c2)).cell? ⟨g, 0, none⟩ = some (.int .i64 L0) := by rw [cell_of_row _ g 0 _ 44 (0, 0) HFIN.out]; rfl
              refine hK.out _ _ (hs) (fun _ => ?_)
              clear hs
              have HEND := Lib.hid (HPUT.out _ _ _ HB.out HO.out HFIN.out)
              try simp only [Act.put, List.getElem_toArray, List.getElem_cons_zero, List.getElem_cons_succ, List.setIfInBounds_toArray, List.set_cons_zero, List.set_cons_succ]
              refine wpAnyH_done (by kernel_rfl) ?_ _
              go_wp2
              go_ret2
              exact HEND.out
  · intro K' hK
    have hc1 : X0.cell? ⟨g, 1, none⟩ = some (.slice AL n cL) := (HB.out.cell (World.block_lt_of_cell? _ _ HC1.out)).trans HC1.out
    rw [if_pos (by kernel_rfl)]
    go_simp
    clear hc1
    refine hK.out _ _ ((HB.out.cell (World.block_lt_of_cell? _ _ HC0.out)).trans HC0.out) (fun _ => ?_)
    try simp only [Act.put, List.getElem_toArray, List.getElem_cons_zero, List.getElem_cons_succ, List.setIfInBounds_toArray, List.set_cons_zero, List.set_cons_succ]
    refine wpAnyH_ready (rs := [1, 14]) (by kernel_rfl) (by simp) ?_
    refine AllReadyH.cons (o_at HG 1 rfl) ?_ (AllReadyH.cons (o_at HG 14 rfl) ?_ (AllReadyH.nil))
    · intro K' hK
      rw [if_pos (by kernel_rfl)]
      go_simp
      have hB : Below V.heap.size V (X0.alloc (.cells #[] 47)) := bel_alloc HB.out _
      have hxs : X0.heap.size < (X0.alloc (.cells #[] 47)).heap.size := by simp
      have hO : (X0.alloc (.cells #[] 47)).ownsRow V.heap.size 47 3 (.slice (some ⟨X0.heap.size, 0, none⟩) 0 0) 0 [] := World.ownsRow_made X0 #[] 0 HB.out.size (Nat.zero_le _) (by simp)
      have hs : (X0.alloc (.cells #[] 47)).cell? ⟨g, 0, none⟩ = some (.int .i64 L0) := (hB.cell (World.block_lt_of_cell? _ _ HC0.out)).trans HC0.out
      refine hK.out _ _ (hs) (fun _ => ?_)
      clear hs
      clear HB
      have HO := Lib.hid hO
      clear hO
      have HB := Lib.hid hB
      clear hB hxs
      generalize (X0.alloc (.cells #[] 47)) = X1 at *
      generalize X0.heap.size = k27 at *
      try simp only [Act.put, List.getElem_toArray, List.getElem_cons_zero, List.getElem_cons_succ, List.setIfInBounds_toArray, List.set_cons_zero, List.set_cons_succ]
      refine wpAnyH_ready (rs := [6, 14]) (by kernel_rfl) (by simp) ?_
      refine AllReadyH.cons (o_at HG 6 rfl) ?_ (AllReadyH.cons (o_at HG 14 rfl) ?_ (AllReadyH.nil))
      · intro K' hK
        refine step_app (by kernel_rfl) _ _ 42 rfl V.heap.size 47 z 3 40 Try.underlying42 hz hzs (by decide) (.slice (some ⟨k27, 0, none⟩) 0 0) 0 [] rfl HO.out AL n cL r0 rfl HR0.out HNIL.out (fun hp => ?_) HR01.out (by unfold maxLen; omega) (by omega) HB.out.size ?_
        · obtain ⟨ad, e, hh⟩ := HR0n.out hp; exact ⟨ad, e, fun j u hu => (HB.out.cell (World.block_lt_of_cell? _ _ (hh j u hu))).trans (hh j u hu)⟩
        intro v1 X2 ho hg hv
        rw [List.nil_append, Nat.zero_add] at ho
        have hB : Below V.heap.size V X2 := bel_grown HB.out hg (fun k hk => (HO.out.lt k hk).1)
        have hs : X2.cell? ⟨g, 0, none⟩ = some (.int .i64 L0) := (hB.cell (World.block_lt_of_cell? _ _ HC0.out)).trans HC0.out
        refine hK.out _ _ (hs) (fun _ => ?_)
        clear hs
        clear HO HB
        have HO : Hid (X2.ownsRow V.heap.size 47 3 v1 n r0) := ho
        have HB := Lib.hid hB
        clear ho hg hv hB
        try simp only [Act.put, List.getElem_toArray, List.getElem_cons_zero, List.getElem_cons_succ, List.setIfInBounds_toArray, List.set_cons_zero, List.set_cons_succ]
        refine wpAnyH_ready (rs := [14]) (by kernel_rfl) (by simp) ?_
        refine AllReadyH.cons (o_at HG 14 rfl) ?_ (AllReadyH.nil)
        · intro K' hK
          rw [if_pos (by kernel_rfl)]
          go_simp
          have hB : Below V.heap.size V (X2.alloc (.cells #[.int .i64 L0, .int .i64 to, .slice A b.length c] 47)) := bel_alloc HB.out _
          have hxs : X2.heap.size < (X2.alloc (.cells #[.int .i64 L0, .int .i64 to, .slice A b.length c] 47)).heap.size := by simp
          have hN : ∀ j u, news[j]? = some u → (X2.alloc (.cells #[.int .i64 L0, .int .i64 to, .slice A b.length c] 47)).cell? ((⟨X2.heap.size, 0, none⟩ : Addr).add j) = some u := fun j u hu => cell_alloc _ _ _ _ _ rfl j u (by rw [HNW.out] at hu; simpa using hu)
          have hO : (X2.alloc (.cells #[.int .i64 L0, .int .i64 to, .slice A b.length c] 47)).ownsRow V.heap.size 47 3 v1 n r0 := own_keep HO.out fun k hk => Below.heap_alloc _ _ k (by have := (HO.out.lt k hk).2; omega)
          have hs : (X2.alloc (.cells #[.int .i64 L0, .int .i64 to, .slice A b.length c] 47)).cell? ⟨g, 0, none⟩ = some (.int .i64 L0) := (hB.cell (World.block_lt_of_cell? _ _ HC0.out)).trans HC0.out
          refine hK.out _ _ (hs) (fun _ => ?_)
          clear hs
          clear HB
          have HN := Lib.hid hN
          clear hN
          clear HO
          have HO := Lib.hid hO
          clear hO
          have HKN := Lib.hid hxs
          have HB := Lib.hid hB
          clear hB hxs
          generalize (X2.alloc (.cells #[.int .i64 L0, .int .i64 to, .slice A b.length c] 47)) = X3 at *
          generalize X2.heap.size = k40 at *
          try simp only [Act.put, List.getElem_toArray, List.getElem_cons_zero, List.getElem_cons_succ, List.setIfInBounds_toArray, List.set_cons_zero, List.set_cons_succ]
          refine wpAnyH_ready (rs := [15]) (by kernel_rfl) (by simp) ?_
          refine AllReadyH.cons (o_at HG 15 rfl) ?_ (AllReadyH.nil)
          · intro K' hK
            refine step_app (by kernel_rfl) _ _ 42 rfl V.heap.size 47 z 3 40 Try.underlying42 hz hzs (by decide) v1 n r0 rfl HO.out (some ⟨k40, 0, none⟩) 1 1 news rfl (by rw [HNW.out]; rfl) (fun e => by cases e) (fun _ => ⟨_, rfl, HN.out⟩) (by rw [HNW.out]; intro u hu; simp only [List.mem_cons, List.not_mem_nil, or_false] at hu; rcases hu with rfl | rfl | rfl <;> rfl) (by have := HN1.out; unfold maxLen; omega) (by have := HN1.out; omega) HB.out.size ?_
            intro v2 X4 ho hg hv
            have hB : Below V.heap.size V X4 := bel_grown HB.out hg (fun k hk => (HO.out.lt k hk).1)
            have hs : X4.cell? ⟨g, 0, none⟩ = some (.int .i64 L0) := (hB.cell (World.block_lt_of_cell? _ _ HC0.out)).trans HC0.out
            refine hK.out _ _ (hs) (fun _ => ?_)
            clear hs
            clear HO HB
            have hO : X4.ownsRow V.heap.size 47 3 v2 qs.length (rowOf qs) := HQ.out _ _ ho
            obtain ⟨A2, c2, rfl, -⟩ := own_FR hO
            have HO := Lib.hid hO
            have HB := Lib.hid hB
            clear ho hg hv hB hO
            have HGX : Hid (X4.heap[g]? = some (.cells #[.int .i64 L0, .slice AL n cL] 44 (0, 0))) := heap_below HGV.out HB.out
            have hfz : X4.frozen? ⟨g, 1, none⟩ = false := frozen_of_row _ g 1 _ _ HGX.out
            have hc1 : X4.cell? ⟨g, 1, none⟩ = some (.slice AL n cL) := by rw [cell_of_row _ g 1 _ 44 (0, 0) HGX.out]; rfl
            have HFIN := Lib.hid (row_set (j := 1) (.slice A2 qs.length c2) HGX.out)
            try simp only [Act.put, List.getElem_toArray, List.getElem_cons_zero, List.getElem_cons_succ, List.setIfInBounds_toArray, List.set_cons_zero, List.set_cons_succ]
            refine wpAnyH_take (i := 16) (v := ?_) (o_at HG 16 rfl) Gns (by kernel_rfl) (by kernel_rfl) (fun _ _ _ h => h) (Or.inl ⟨(by kernel_rfl), ?_⟩) (by first | trivial | assumption) ?_
            rotate_left
            · (intro w hSw; (try dsimp only at hSw); go_simp; try with_reducible rfl)
            try simp only [Act.put, List.getElem_toArray, List.getElem_cons_zero, List.getElem_cons_succ, List.setIfInBounds_toArray, List.set_cons_zero, List.set_cons_succ]
            refine wpAnyH_take (i := 17) (v := ?_) (o_at HG 17 rfl) Gns (by kernel_rfl) (by kernel_rfl) (fun _ _ _ h => h) (Or.inl ⟨(by kernel_rfl), ?_⟩) (by first | trivial | assumption) ?_
            rotate_left
            · (intro w hSw; (try dsimp only at hSw); go_simp; try with_reducible rfl)
            try simp only [Act.put, List.getElem_toArray, List.getElem_cons_zero, List.getElem_cons_succ, List.setIfInBounds_toArray, List.set_cons_zero, List.set_cons_succ]
            refine wpAnyH_ready (rs := [18]) (by kernel_rfl) (by simp) ?_
            refine AllReadyH.cons (o_at HG 18 rfl) ?_ (AllReadyH.nil)
            · intro K' hK
              rw [if_pos (by kernel_rfl)]
              go_simp
              clear hfz hc1
              have hs : (X4.setCell ⟨g, 1, none⟩ (.slice A2 qs.length c2)).cell? ⟨g, 0, none⟩ = some (.int .i64 L0) := by rw [cell_of_row _ g 0 _ 44 (0, 0) HFIN.out]; rfl
              refine hK.out _ _ (hs) (fun _ => ?_)
              clear hs
              have HEND := Lib.hid (HPUT.out _ _ _ HB.out HO.out HFIN.out)
              try simp only [Act.put, List.getElem_toArray, List.getElem_cons_zero, List.getElem_cons_succ, List.setIfInBounds_toArray, List.set_cons_zero, List.set_cons_succ]
              refine wpAnyH_done (by kernel_rfl) ?_ _
              go_wp2
              go_ret2
              exact HEND.out
      · intro K' hK
        rw [if_pos (by kernel_rfl)]
        go_simp
        have hB : Below V.heap.size V (X1.alloc (.cells #[.int .i64 L0, .int .i64 to, .slice A b.length c] 47)) := bel_alloc HB.out _
        have hxs : X1.heap.size < (X1.alloc (.cells #[.int .i64 L0, .int .i64 to, .slice A b.length c] 47)).heap.size := by simp
        have hN : ∀ j u, news[j]? = some u → (X1.alloc (.cells #[.int .i64 L0, .int .i64 to, .slice A b.length c] 47)).cell? ((⟨X1.heap.size, 0, none⟩ : Addr).add j) = some u := fun j u hu => cell_alloc _ _ _ _ _ rfl j u (by rw [HNW.out] at hu; simpa using hu)
        have hO : (X1.alloc (.cells #[.int .i64 L0, .int .i64 to, .slice A b.length c] 47)).ownsRow V.heap.size 47 3 (.slice (some ⟨k27, 0, none⟩) 0 0) 0 [] := own_keep HO.out fun k hk => Below.heap_alloc _ _ k (by have := (HO.out.lt k hk).2; omega)
        have hNE : X1.heap.size ≠ k27 := by have := (HO.out.lt k27 rfl).2; omega
        have hs : (X1.alloc (.cells #[.int .i64 L0, .int .i64 to, .slice A b.length c] 47)).cell? ⟨g, 0, none⟩ = some (.int .i64 L0) := (hB.cell (World.block_lt_of_cell? _ _ HC0.out)).trans HC0.out
        refine hK.out _ _ (hs) (fun _ => ?_)
        clear hs
        clear HB
        have HN := Lib.hid hN
        clear hN
        clear HO
        have HO := Lib.hid hO
        clear hO
        have HNE := Lib.hid hNE
        clear hNE
        have HKN := Lib.hid hxs
        have HB := Lib.hid hB
        clear hB hxs
        generalize (X1.alloc (.cells #[.int .i64 L0, .int .i64 to, .slice A b.length c] 47)) = X2 at *
        generalize X1.heap.size = k40 at *
        try simp only [Act.put, List.getElem_toArray, List.getElem_cons_zero, List.getElem_cons_succ, List.setIfInBounds_toArray, List.set_cons_zero, List.set_cons_succ]
        refine wpAnyH_ready (rs := [6]) (by kernel_rfl) (by simp) ?_
        refine AllReadyH.cons (o_at HG 6 rfl) ?_ (AllReadyH.nil)
        · intro K' hK
          refine step_app (by kernel_rfl) _ _ 42 rfl V.heap.size 47 z 3 40 Try.underlying42 hz hzs (by decide) (.slice (some ⟨k27, 0, none⟩) 0 0) 0 [] rfl HO.out AL n cL r0 rfl HR0.out HNIL.out (fun hp => ?_) HR01.out (by unfold maxLen; omega) (by omega) HB.out.size ?_
          · obtain ⟨ad, e, hh⟩ := HR0n.out hp; exact ⟨ad, e, fun j u hu => (HB.out.cell (World.block_lt_of_cell? _ _ (hh j u hu))).trans (hh j u hu)⟩
          intro v1 X3 ho hg hv
          rw [List.nil_append, Nat.zero_add] at ho
          have hB : Below V.heap.size V X3 := bel_grown HB.out hg (fun k hk => (HO.out.lt k hk).1)
          have hs : X3.cell? ⟨g, 0, none⟩ = some (.int .i64 L0) := (hB.cell (World.block_lt_of_cell? _ _ HC0.out)).trans HC0.out
          have hN : ∀ j u, news[j]? = some u → X3.cell? ((⟨k40, 0, none⟩ : Addr).add j) = some u := fun j u hu => (World.cell?_of_block (hg.block _ (by rw [add_block]; exact HKN.out) (by rw [add_block]; intro e; exact HNE.out (Option.some.inj e)))).trans (HN.out j u hu)
          clear HN
          have HN := Lib.hid hN
          clear hN
          refine hK.out _ _ (hs) (fun _ => ?_)
          clear hs
          clear HO HB
          have HO : Hid (X3.ownsRow V.heap.size 47 3 v1 n r0) := ho
          have HB := Lib.hid hB
          clear ho hg hv hB
          try simp only [Act.put, List.getElem_toArray, List.getElem_cons_zero, List.getElem_cons_succ, List.setIfInBounds_toArray, List.set_cons_zero, List.set_cons_succ]
          refine wpAnyH_ready (rs := [15]) (by kernel_rfl) (by simp) ?_
          refine AllReadyH.cons (o_at HG 15 rfl) ?_ (AllReadyH.nil)
          · intro K' hK
            refine step_app (by kernel_rfl) _ _ 42 rfl V.heap.size 47 z 3 40 Try.underlying42 hz hzs (by decide) v1 n r0 rfl HO.out (some ⟨k40, 0, none⟩) 1 1 news rfl (by rw [HNW.out]; rfl) (fun e => by cases e) (fun _ => ⟨_, rfl, HN.out⟩) (by rw [HNW.out]; intro u hu; simp only [List.mem_cons, List.not_mem_nil, or_false] at hu; rcases hu with rfl | rfl | rfl <;> rfl) (by have := HN1.out; unfold maxLen; omega) (by have := HN1.out; omega) HB.out.size ?_
            intro v2 X4 ho hg hv
            have hB : Below V.heap.size V X4 := bel_grown HB.out hg (fun k hk => (HO.out.lt k hk).1)
            have hs : X4.cell? ⟨g, 0, none⟩ = some (.int .i64 L0) := (hB.cell (World.block_lt_of_cell? _ _ HC0.out)).trans HC0.out
            refine hK.out _ _ (hs) (fun _ => ?_)
            clear hs
            clear HO HB
            have hO : X4.ownsRow V.heap.size 47 3 v2 qs.length (rowOf qs) := HQ.out _ _ ho
            obtain ⟨A2, c2, rfl, -⟩ := own_FR hO
            have HO := Lib.hid hO
            have HB := Lib.hid hB
            clear ho hg hv hB hO
            have HGX : Hid (X4.heap[g]? = some (.cells #[.int .i64 L0, .slice AL n cL] 44 (0, 0))) := heap_below HGV.out HB.out
            have hfz : X4.frozen? ⟨g, 1, none⟩ = false := frozen_of_row _ g 1 _ _ HGX.out
            have hc1 : X4.cell? ⟨g, 1, none⟩ = some (.slice AL n cL) := by rw [cell_of_row _ g 1 _ 44 (0, 0) HGX.out]; rfl
            have HFIN := Lib.hid (row_set (j := 1) (.slice A2 qs.length c2) HGX.out)
            try simp only [Act.put, List.getElem_toArray, List.getElem_cons_zero, List.getElem_cons_succ, List.setIfInBounds_toArray, List.set_cons_zero, List.set_cons_succ]
            refine wpAnyH_take (i := 16) (v := ?_) (o_at HG 16 rfl) Gns (by kernel_rfl) (by kernel_rfl) (fun _ _ _ h => h) (Or.inl ⟨(by kernel_rfl), ?_⟩) (by first | trivial | assumption) ?_
            rotate_left
            · (intro w hSw; (try dsimp only at hSw); go_simp; try with_reducible rfl)
            try simp only [Act.put, List.getElem_toArray, List.getElem_cons_zero, List.getElem_cons_succ, List.setIfInBounds_toArray, List.set_cons_zero, List.set_cons_succ]
            refine wpAnyH_take (i := 17) (v := ?_) (o_at HG 17 rfl) Gns (by kernel_rfl) (by kernel_rfl) (fun _ _ _ h => h) (Or.inl ⟨(by kernel_rfl), ?_⟩) (by first | trivial | assumption) ?_
            rotate_left
            · (intro w hSw; (try dsimp only at hSw); go_simp; try with_reducible rfl)
            try simp only [Act.put, List.getElem_toArray, List.getElem_cons_zero, List.getElem_cons_succ, List.setIfInBounds_toArray, List.set_cons_zero, List.set_cons_succ]
            refine wpAnyH_ready (rs := [18]) (by kernel_rfl) (by simp) ?_
            refine AllReadyH.cons (o_at HG 18 rfl) ?_ (AllReadyH.nil)
            · intro K' hK
              rw [if_pos (by kernel_rfl)]
              go_simp
              clear hfz hc1
              have hs : (X4.setCell ⟨g, 1, none⟩ (.slice A2 qs.length c2)).cell? ⟨g, 0, none⟩ = some (.int .i64 L0) := by rw [cell_of_row _ g 0 _ 44 (0, 0) HFIN.out]; rfl
              refine hK.out _ _ (hs) (fun _ => ?_)
              clear hs
              have HEND := Lib.hid (HPUT.out _ _ _ HB.out HO.out HFIN.out)
              try simp only [Act.put, List.getElem_toArray, List.getElem_cons_zero, List.getElem_cons_succ, List.setIfInBounds_toArray, List.set_cons_zero, List.set_cons_succ]
              refine wpAnyH_done (by kernel_rfl) ?_ _
              go_wp2
              go_ret2
              exact HEND.out
    · intro K' hK
      rw [if_pos (by kernel_rfl)]
      go_simp
      have hB : Below V.heap.size V (X0.alloc (.cells #[.int .i64 L0, .int .i64 to, .slice A b.length c] 47)) := bel_alloc HB.out _
      have hxs : X0.heap.size < (X0.alloc (.cells #[.int .i64 L0, .int .i64 to, .slice A b.length c] 47)).heap.size := by simp
      have hN : ∀ j u, news[j]? = some u → (X0.alloc (.cells #[.int .i64 L0, .int .i64 to, .slice A b.length c] 47)).cell? ((⟨X0.heap.size, 0, none⟩ : Addr).add j) = some u := fun j u hu => cell_alloc _ _ _ _ _ rfl j u (by rw [HNW.out] at hu; simpa using hu)
      have hs : (X0.alloc (.cells #[.int .i64 L0, .int .i64 to, .slice A b.length c] 47)).cell? ⟨g, 0, none⟩ = some (.int .i64 L0) := (hB.cell (World.block_lt_of_cell? _ _ HC0.out)).trans HC0.out
      refine hK.out _ _ (hs) (fun _ => ?_)
      clear hs
      clear HB
      have HN := Lib.hid hN
      clear hN
      have HKN := Lib.hid hxs
      have HB := Lib.hid hB
      clear hB hxs
      generalize (X0.alloc (.cells #[.int .i64 L0, .int .i64 to, .slice A b.length c] 47)) = X1 at *
      generalize X0.heap.size = k40 at *
      try simp only [Act.put, List.getElem_toArray, List.getElem_cons_zero, List.getElem_cons_succ, List.setIfInBounds_toArray, List.set_cons_zero, List.set_cons_succ]
      refine wpAnyH_ready (rs := [1]) (by kernel_rfl) (by simp) ?_
      refine AllReadyH.cons (o_at HG 1 rfl) ?_ (AllReadyH.nil)
      · intro K' hK
        rw [if_pos (by kernel_rfl)]
        go_simp
        have hB : Below V.heap.size V (X1.alloc (.cells #[] 47)) := bel_alloc HB.out _
        have hxs : X1.heap.size < (X1.alloc (.cells #[] 47)).heap.size := by simp
        have hO : (X1.alloc (.cells #[] 47)).ownsRow V.heap.size 47 3 (.slice (some ⟨X1.heap.size, 0, none⟩) 0 0) 0 [] := World.ownsRow_made X1 #[] 0 HB.out.size (Nat.zero_le _) (by simp)
        have hN : ∀ j u, news[j]? = some u → (X1.alloc (.cells #[] 47)).cell? ((⟨k40, 0, none⟩ : Addr).add j) = some u := fun j u hu => (World.cell?_of_block (Below.heap_alloc _ _ _ (by have := (HKN.out); rw [add_block]; omega))).trans (HN.out j u hu)
        have hNE : k40 ≠ X1.heap.size := by have := HKN.out; omega
        have hKN : k40 < (X1.alloc (.cells #[] 47)).heap.size := by have := HKN.out; omega
        have hs : (X1.alloc (.cells #[] 47)).cell? ⟨g, 0, none⟩ = some (.int .i64 L0) := (hB.cell (World.block_lt_of_cell? _ _ HC0.out)).trans HC0.out
        refine hK.out _ _ (hs) (fun _ => ?_)
        clear hs
        clear HB
        have HO := Lib.hid hO
        clear hO
        clear HN HKN
        have HN := Lib.hid hN
        have HNE := Lib.hid hNE
        have HKN := Lib.hid hKN
        clear hN hNE hKN
        have HB := Lib.hid hB
        clear hB hxs
        generalize (X1.alloc (.cells #[] 47)) = X2 at *
        generalize X1.heap.size = k27 at *
        try simp only [Act.put, List.getElem_toArray, List.getElem_cons_zero, List.getElem_cons_succ, List.setIfInBounds_toArray, List.set_cons_zero, List.set_cons_succ]
        refine wpAnyH_ready (rs := [6]) (by kernel_rfl) (by simp) ?_
        refine AllReadyH.cons (o_at HG 6 rfl) ?_ (AllReadyH.nil)
        · intro K' hK
          refine step_app (by kernel_rfl) _ _ 42 rfl V.heap.size 47 z 3 40 Try.underlying42 hz hzs (by decide) (.slice (some ⟨k27, 0, none⟩) 0 0) 0 [] rfl HO.out AL n cL r0 rfl HR0.out HNIL.out (fun hp => ?_) HR01.out (by unfold maxLen; omega) (by omega) HB.out.size ?_
          · obtain ⟨ad, e, hh⟩ := HR0n.out hp; exact ⟨ad, e, fun j u hu => (HB.out.cell (World.block_lt_of_cell? _ _ (hh j u hu))).trans (hh j u hu)⟩
          intro v1 X3 ho hg hv
          rw [List.nil_append, Nat.zero_add] at ho
          have hB : Below V.heap.size V X3 := bel_grown HB.out hg (fun k hk => (HO.out.lt k hk).1)
          have hs : X3.cell? ⟨g, 0, none⟩ = some (.int .i64 L0) := (hB.cell (World.block_lt_of_cell? _ _ HC0.out)).trans HC0.out
          have hN : ∀ j u, news[j]? = some u → X3.cell? ((⟨k40, 0, none⟩ : Addr).add j) = some u := fun j u hu => (World.cell?_of_block (hg.block _ (by rw [add_block]; exact HKN.out) (by rw [add_block]; intro e; exact HNE.out (Option.some.inj e)))).trans (HN.out j u hu)
          clear HN
          have HN := Lib.hid hN
          clear hN
          refine hK.out _ _ (hs) (fun _ => ?_)
          clear hs
          clear HO HB
          have HO : Hid (X3.ownsRow V.heap.size 47 3 v1 n r0) := ho
          have HB := Lib.hid hB
          clear ho hg hv hB
          try simp only [Act.put, List.getElem_toArray, List.getElem_cons_zero, List.getElem_cons_succ, List.setIfInBounds_toArray, List.set_cons_zero, List.set_cons_succ]
          refine wpAnyH_ready (rs := [15]) (by kernel_rfl) (by simp) ?_
          refine AllReadyH.cons (o_at HG 15 rfl) ?_ (AllReadyH.nil)
          · intro K' hK
            refine step_app (by kernel_rfl) _ _ 42 rfl V.heap.size 47 z 3 40 Try.underlying42 hz hzs (by decide) v1 n r0 rfl HO.out (some ⟨k40, 0, none⟩) 1 1 news rfl (by rw [HNW.out]; rfl) (fun e => by cases e) (fun _ => ⟨_, rfl, HN.out⟩) (by rw [HNW.out]; intro u hu; simp only [List.mem_cons, List.not_mem_nil, or_false] at hu; rcases hu with rfl | rfl | rfl <;> rfl) (by have := HN1.out; unfold maxLen; omega) (by have := HN1.out; omega) HB.out.size ?_
            intro v2 X4 ho hg hv
            have hB : Below V.heap.size V X4 := bel_grown HB.out hg (fun k hk => (HO.out.lt k hk).1)
            have hs : X4.cell? ⟨g, 0, none⟩ = some (.int .i64 L0) := (hB.cell (World.block_lt_of_cell? _ _ HC0.out)).trans HC0.out
            refine hK.out _ _ (hs) (fun _ => ?_)
            clear hs
            clear HO HB
            have hO : X4.ownsRow V.heap.size 47 3 v2 qs.length (rowOf qs) := HQ.out _ _ ho
            obtain ⟨A2, c2, rfl, -⟩ := own_FR hO
            have HO := Lib.hid hO
            have HB := Lib.hid hB
            clear ho hg hv hB hO
            have HGX : Hid (X4.heap[g]? = some (.cells #[.int .i64 L0, .slice AL n cL] 44 (0, 0))) := heap_below HGV.out HB.out
            have hfz : X4.frozen? ⟨g, 1, none⟩ = false := frozen_of_row _ g 1 _ _ HGX.out
            have hc1 : X4.cell? ⟨g, 1, none⟩ = some (.slice AL n cL) := by rw [cell_of_row _ g 1 _ 44 (0, 0) HGX.out]; rfl
            have HFIN := Lib.hid (row_set (j := 1) (.slice A2 qs.length c2) HGX.out)
            try simp only [Act.put, List.getElem_toArray, List.getElem_cons_zero, List.getElem_cons_succ, List.setIfInBounds_toArray, List.set_cons_zero, List.set_cons_succ]
            refine wpAnyH_take (i := 16) (v := ?_) (o_at HG 16 rfl) Gns (by kernel_rfl) (by kernel_rfl) (fun _ _ _ h => h) (Or.inl ⟨(by kernel_rfl), ?_⟩) (by first | trivial | assumption) ?_
            rotate_left
            · (intro w hSw; (try dsimp only at hSw); go_simp; try with_reducible rfl)
            try simp only [Act.put, List.getElem_toArray, List.getElem_cons_zero, List.getElem_cons_succ, List.setIfInBounds_toArray, List.set_cons_zero, List.set_cons_succ]
            refine wpAnyH_take (i := 17) (v := ?_) (o_at HG 17 rfl) Gns (by kernel_rfl) (by kernel_rfl) (fun _ _ _ h => h) (Or.inl ⟨(by kernel_rfl), ?_⟩) (by first | trivial | assumption) ?_
            rotate_left
            · (intro w hSw; (try dsimp only at hSw); go_simp; try with_reducible rfl)
            try simp only [Act.put, List.getElem_toArray, List.getElem_cons_zero, List.getElem_cons_succ, List.setIfInBounds_toArray, List.set_cons_zero, List.set_cons_succ]
            refine wpAnyH_ready (rs := [18]) (by kernel_rfl) (by simp) ?_
            refine AllReadyH.cons (o_at HG 18 rfl) ?_ (AllReadyH.nil)
            · intro K' hK
              rw [if_pos (by kernel_rfl)]
              go_simp
              clear hfz hc1
              have hs : (X4.setCell ⟨g, 1, none⟩ (.slice A2 qs.length c2)).cell? ⟨g, 0, none⟩ = some (.int .i64 L0) := by rw [cell_of_row _ g 0 _ 44 (0, 0) HFIN.out]; rfl
              refine hK.out _ _ (hs) (fun _ => ?_)
              clear hs
              have HEND := Lib.hid (HPUT.out _ _ _ HB.out HO.out HFIN.out)
              try simp only [Act.put, List.getElem_toArray, List.getElem_cons_zero, List.getElem_cons_succ, List.setIfInBounds_toArray, List.set_cons_zero, List.set_cons_succ]
              refine wpAnyH_done (by kernel_rfl) ?_ _
              go_wp2
              go_ret2
              exact HEND.out
  · intro K' hK
    rw [if_pos (by kernel_rfl)]
    go_simp
    have hB : Below V.heap.size V (X0.alloc (.cells #[.int .i64 L0, .int .i64 to, .slice A b.length c] 47)) := bel_alloc HB.out _
    have hxs : X0.heap.size < (X0.alloc (.cells #[.int .i64 L0, .int .i64 to, .slice A b.length c] 47)).heap.size := by simp
    have hN : ∀ j u, news[j]? = some u → (X0.alloc (.cells #[.int .i64 L0, .int .i64 to, .slice A b.length c] 47)).cell? ((⟨X0.heap.size, 0, none⟩ : Addr).add j) = some u := fun j u hu => cell_alloc _ _ _ _ _ rfl j u (by rw [HNW.out] at hu; simpa using hu)
    have hs : (X0.alloc (.cells #[.int .i64 L0, .int .i64 to, .slice A b.length c] 47)).cell? ⟨g, 0, none⟩ = some (.int .i64 L0) := (hB.cell (World.block_lt_of_cell? _ _ HC0.out)).trans HC0.out
    refine hK.out _ _ (hs) (fun _ => ?_)
    clear hs
    clear HB
    have HN := Lib.hid hN
    clear hN
    have HKN := Lib.hid hxs
    have HB := Lib.hid hB
    clear hB hxs
    generalize (X0.alloc (.cells #[.int .i64 L0, .int .i64 to, .slice A b.length c] 47)) = X1 at *
    generalize X0.heap.size = k40 at *
    try simp only [Act.put, List.getElem_toArray, List.getElem_cons_zero, List.getElem_cons_succ, List.setIfInBounds_toArray, List.set_cons_zero, List.set_cons_succ]
    refine wpAnyH_ready (rs := [1, 5]) (by kernel_rfl) (by simp) ?_
    refine AllReadyH.cons (o_at HG 1 rfl) ?_ (AllReadyH.cons (o_at HG 5 rfl) ?_ (AllReadyH.nil))
    · intro K' hK
      rw [if_pos (by kernel_rfl)]
      go_simp
      have hB : Below V.heap.size V (X1.alloc (.cells #[] 47)) := bel_alloc HB.out _
      have hxs : X1.heap.size < (X1.alloc (.cells #[] 47)).heap.size := by simp
      have hO : (X1.alloc (.cells #[] 47)).ownsRow V.heap.size 47 3 (.slice (some ⟨X1.heap.size, 0, none⟩) 0 0) 0 [] := World.ownsRow_made X1 #[] 0 HB.out.size (Nat.zero_le _) (by simp)
      have hN : ∀ j u, news[j]? = some u → (X1.alloc (.cells #[] 47)).cell? ((⟨k40, 0, none⟩ : Addr).add j) = some u := fun j u hu => (World.cell?_of_block (Below.heap_alloc _ _ _ (by have := (HKN.out); rw [add_block]; omega))).trans (HN.out j u hu)
      have hNE : k40 ≠ X1.heap.size := by have := HKN.out; omega
      have hKN : k40 < (X1.alloc (.cells #[] 47)).heap.size := by have := HKN.out; omega
      have hs : (X1.alloc (.cells #[] 47)).cell? ⟨g, 0, none⟩ = some (.int .i64 L0) := (hB.cell (World.block_lt_of_cell? _ _ HC0.out)).trans HC0.out
      refine hK.out _ _ (hs) (fun _ => ?_)
      clear hs
      clear HB
      have HO := Lib.hid hO
      clear hO
      clear HN HKN
      have HN := Lib.hid hN
      have HNE := Lib.hid hNE
      have HKN := Lib.hid hKN
      clear hN hNE hKN
      have HB := Lib.hid hB
      clear hB hxs
      generalize (X1.alloc (.cells #[] 47)) = X2 at *
      generalize X1.heap.size = k27 at *
      try simp only [Act.put, List.getElem_toArray, List.getElem_cons_zero, List.getElem_cons_succ, List.setIfInBounds_toArray, List.set_cons_zero, List.set_cons_succ]
      refine wpAnyH_ready (rs := [5]) (by kernel_rfl) (by simp) ?_
      refine AllReadyH.cons (o_at HG 5 rfl) ?_ (AllReadyH.nil)
      · intro K' hK
        have hc1 : X2.cell? ⟨g, 1, none⟩ = some (.slice AL n cL) := (HB.out.cell (World.block_lt_of_cell? _ _ HC1.out)).trans HC1.out
        rw [if_pos (by kernel_rfl)]
        go_simp
        clear hc1
        refine hK.out _ _ ((HB.out.cell (World.block_lt_of_cell? _ _ HC0.out)).trans HC0.out) (fun _ => ?_)
        try simp only [Act.put, List.getElem_toArray, List.getElem_cons_zero, List.getElem_cons_succ, List.setIfInBounds_toArray, List.set_cons_zero, List.set_cons_succ]
        refine wpAnyH_ready (rs := [6]) (by kernel_rfl) (by simp) ?_
        refine AllReadyH.cons (o_at HG 6 rfl) ?_ (AllReadyH.nil)
        · intro K' hK
          refine step_app (by kernel_rfl) _ _ 42 rfl V.heap.size 47 z 3 40 Try.underlying42 hz hzs (by decide) (.slice (some ⟨k27, 0, none⟩) 0 0) 0 [] rfl HO.out AL n cL r0 rfl HR0.out HNIL.out (fun hp => ?_) HR01.out (by unfold maxLen; omega) (by omega) HB.out.size ?_
          · obtain ⟨ad, e, hh⟩ := HR0n.out hp; exact ⟨ad, e, fun j u hu => (HB.out.cell (World.block_lt_of_cell? _ _ (hh j u hu))).trans (hh j u hu)⟩
          intro v1 X3 ho hg hv
          rw [List.nil_append, Nat.zero_add] at ho
          have hB : Below V.heap.size V X3 := bel_grown HB.out hg (fun k hk => (HO.out.lt k hk).1)
          have hs : X3.cell? ⟨g, 0, none⟩ = some (.int .i64 L0) := (hB.cell (World.block_lt_of_cell? _ _ HC0.out)).trans HC0.out
          have hN : ∀ j u, news[j]? = some u → X3.cell? ((⟨k40, 0, none⟩ : Addr).add j) = some u := fun j u hu => (World.cell?_of_block (hg.block _ (by rw [add_block]; exact HKN.out) (by rw [add_block]; intro e; exact HNE.out (Option.some.inj e)))).trans (HN.out j u hu)
          clear HN
          have HN := Lib.hid hN
          clear hN
          refine hK.out _ _ (hs) (fun _ => ?_)
          clear hs
          clear HO HB
          have HO : Hid (X3.ownsRow V.heap.size 47 3 v1 n r0) := ho
          have HB := Lib.hid hB
          clear ho hg hv hB
          try simp only [Act.put, List.getElem_toArray, List.getElem_cons_zero, List.getElem_cons_succ, List.setIfInBounds_toArray, List.set_cons_zero, List.set_cons_succ]
          refine wpAnyH_ready (rs := [15]) (by kernel_rfl) (by simp) ?_
          refine AllReadyH.cons (o_at HG 15 rfl) ?_ (AllReadyH.nil)
          · intro K' hK
            refine step_app (by kernel_rfl) _ _ 42 rfl V.heap.size 47 z 3 40 Try.underlying42 hz hzs (by decide) v1 n r0 rfl HO.out (some ⟨k40, 0, none⟩) 1 1 news rfl (by rw [HNW.out]; rfl) (fun e => by cases e) (fun _ => ⟨_, rfl, HN.out⟩) (by rw [HNW.out]; intro u hu; simp only [List.mem_cons, List.not_mem_nil, or_false] at hu; rcases hu with rfl | rfl | rfl <;> rfl) (by have := HN1.out; unfold maxLen; omega) (by have := HN1.out; omega) HB.out.size ?_
            intro v2 X4 ho hg hv
            have hB : Below V.heap.size V X4 := bel_grown HB.out hg (fun k hk => (HO.out.lt k hk).1)
            have hs : X4.cell? ⟨g, 0, none⟩ = some (.int .i64 L0) := (hB.cell (World.block_lt_of_cell? _ _ HC0.out)).trans HC0.out
            refine hK.out _ _ (hs) (fun _ => ?_)
            clear hs
            clear HO HB
            have hO : X4.ownsRow V.heap.size 47 3 v2 qs.length (rowOf qs) := HQ.out _ _ ho
            obtain ⟨A2, c2, rfl, -⟩ := own_FR hO
            have HO := Lib.hid hO
            have HB := Lib.hid hB
            clear ho hg hv hB hO
            have HGX : Hid (X4.heap[g]? = some (.cells #[.int .i64 L0, .slice AL n cL] 44 (0, 0))) := heap_below HGV.out HB.out
            have hfz : X4.frozen? ⟨g, 1, none⟩ = false := frozen_of_row _ g 1 _ _ HGX.out
            have hc1 : X4.cell? ⟨g, 1, none⟩ = some (.slice AL n cL) := by rw [cell_of_row _ g 1 _ 44 (0, 0) HGX.out]; rfl
            have HFIN := Lib.hid (row_set (j := 1) (.slice A2 qs.length c2) HGX.out)
            try simp only [Act.put, List.getElem_toArray, List.getElem_cons_zero, List.getElem_cons_succ, List.setIfInBounds_toArray, List.set_cons_zero, List.set_cons_succ]
            refine wpAnyH_take (i := 16) (v := ?_) (o_at HG 16 rfl) Gns (by kernel_rfl) (by kernel_rfl) (fun _ _ _ h => h) (Or.inl ⟨(by kernel_rfl), ?_⟩) (by first | trivial | assumption) ?_
            rotate_left
            · (intro w hSw; (try dsimp only at hSw); go_simp; try with_reducible rfl)
            try simp only [Act.put, List.getElem_toArray, List.getElem_cons_zero, List.getElem_cons_succ, List.setIfInBounds_toArray, List.set_cons_zero, List.set_cons_succ]
            refine wpAnyH_take (i := 17) (v := ?_) (o_at HG 17 rfl) Gns (by kernel_rfl) (by kernel_rfl) (fun _ _ _ h => h) (Or.inl ⟨(by kernel_rfl), ?_⟩) (by first | trivial | assumption) ?_
            rotate_left
            · (intro w hSw; (try dsimp only at hSw); go_simp; try with_reducible rfl)
            try simp only [Act.put, List.getElem_toArray, List.getElem_cons_zero, List.getElem_cons_succ, List.setIfInBounds_toArray, List.set_cons_zero, List.set_cons_succ]
            refine wpAnyH_ready (rs := [18]) (by kernel_rfl) (by simp) ?_
            refine AllReadyH.cons (o_at HG 18 rfl) ?_ (AllReadyH.nil)
            · intro K' hK
              rw [if_pos (by kernel_rfl)]
              go_simp
              clear hfz hc1
              have hs : (X4.setCell ⟨g, 1, none⟩ (.slice A2 qs.length c2)).cell? ⟨g, 0, none⟩ = some (.int .i64 L0) := by rw [cell_of_row _ g 0 _ 44 (0, 0) HFIN.out]; rfl
              refine hK.out _ _ (hs) (fun _ => ?_)
              clear hs
              have HEND := Lib.hid (HPUT.out _ _ _ HB.out HO.out HFIN.out)
              try simp only [Act.put, List.getElem_toArray, List.getElem_cons_zero, List.getElem_cons_succ, List.setIfInBounds_toArray, List.set_cons_zero, List.set_cons_succ]
              refine wpAnyH_done (by kernel_rfl) ?_ _
              go_wp2
              go_ret2
              exact HEND.out
    · intro K' hK
      have hc1 : X1.cell? ⟨g, 1, none⟩ = some (.slice AL n cL) := (HB.out.cell (World.block_lt_of_cell? _ _ HC1.out)).trans HC1.out
      rw [if_pos (by kernel_rfl)]
      go_simp
      clear hc1
      refine hK.out _ _ ((HB.out.cell (World.block_lt_of_cell? _ _ HC0.out)).trans HC0.out) (fun _ => ?_)
      try simp only [Act.put, List.getElem_toArray, List.getElem_cons_zero, List.getElem_cons_succ, List.setIfInBounds_toArray, List.set_cons_zero, List.set_cons_succ]
      refine wpAnyH_ready (rs := [1]) (by kernel_rfl) (by simp) ?_
      refine AllReadyH.cons (o_at HG 1 rfl) ?_ (AllReadyH.nil)
      · intro K' hK
        rw [if_pos (by kernel_rfl)]
        go_simp
        have hB : Below V.heap.size V (X1.alloc (.cells #[] 47)) := bel_alloc HB.out _
        have hxs : X1.heap.size < (X1.alloc (.cells #[] 47)).heap.size := by simp
        have hO : (X1.alloc (.cells #[] 47)).ownsRow V.heap.size 47 3 (.slice (some ⟨X1.heap.size, 0, none⟩) 0 0) 0 [] := World.ownsRow_made X1 #[] 0 HB.out.size (Nat.zero_le _) (by simp)
        have hN : ∀ j u, news[j]? = some u → (X1.alloc (.cells #[] 47)).cell? ((⟨k40, 0, none⟩ : Addr).add j) = some u := fun j u hu => (World.cell?_of_block (Below.heap_alloc _ _ _ (by have := (HKN.out); rw [add_block]; omega))).trans (HN.out j u hu)
        have hNE : k40 ≠ X1.heap.size := by have := HKN.out; omega
        have hKN : k40 < (X1.alloc (.cells #[] 47)).heap.size := by have := HKN.out; omega
        have hs : (X1.alloc (.cells #[] 47)).cell? ⟨g, 0, none⟩ = some (.int .i64 L0) := (hB.cell (World.block_lt_of_cell? _ _ HC0.out)).trans HC0.out
        refine hK.out _ _ (hs) (fun _ => ?_)
        clear hs
        clear HB
        have HO := Lib.hid hO
        clear hO
        clear HN HKN
        have HN := Lib.hid hN
        have HNE := Lib.hid hNE
        have HKN := Lib.hid hKN
        clear hN hNE hKN
        have HB := Lib.hid hB
        clear hB hxs
        generalize (X1.alloc (.cells #[] 47)) = X2 at *
        generalize X1.heap.size = k27 at *
        try simp only [Act.put, List.getElem_toArray, List.getElem_cons_zero, List.getElem_cons_succ, List.setIfInBounds_toArray, List.set_cons_zero, List.set_cons_succ]
        refine wpAnyH_ready (rs := [6]) (by kernel_rfl) (by simp) ?_
        refine AllReadyH.cons (o_at HG 6 rfl) ?_ (AllReadyH.nil)
        · intro K' hK
          refine step_app (by kernel_rfl) _ _ 42 rfl V.heap.size 47 z 3 40 Try.underlying42 hz hzs (by decide) (.slice (some ⟨k27, 0, none⟩) 0 0) 0 [] rfl HO.out AL n cL r0 rfl HR0.out HNIL.out (fun hp => ?_) HR01.out (by unfold maxLen; omega) (by omega) HB.out.size ?_
          · obtain ⟨ad, e, hh⟩ := HR0n.out hp; exact ⟨ad, e, fun j u hu => (HB.out.cell (World.block_lt_of_cell? _ _ (hh j u hu))).trans (hh j u hu)⟩
          intro v1 X3 ho hg hv
          rw [List.nil_append, Nat.zero_add] at ho
          have hB : Below V.heap.size V X3 := bel_grown HB.out hg (fun k hk => (HO.out.lt k hk).1)
          have hs : X3.cell? ⟨g, 0, none⟩ = some (.int .i64 L0) := (hB.cell (World.block_lt_of_cell? _ _ HC0.out)).trans HC0.out
          have hN : ∀ j u, news[j]? = some u → X3.cell? ((⟨k40, 0, none⟩ : Addr).add j) = some u := fun j u hu => (World.cell?_of_block (hg.block _ (by rw [add_block]; exact HKN.out) (by rw [add_block]; intro e; exact HNE.out (Option.some.inj e)))).trans (HN.out j u hu)
          clear HN
          have HN := Lib.hid hN
          clear hN
          refine hK.out _ _ (hs) (fun _ => ?_)
          clear hs
          clear HO HB
          have HO : Hid (X3.ownsRow V.heap.size 47 3 v1 n r0) := ho
          have HB := Lib.hid hB
          clear ho hg hv hB
          try simp only [Act.put, List.getElem_toArray, List.getElem_cons_zero, List.getElem_cons_succ, List.setIfInBounds_toArray, List.set_cons_zero, List.set_cons_succ]
          refine wpAnyH_ready (rs := [15]) (by kernel_rfl) (by simp) ?_
          refine AllReadyH.cons (o_at HG 15 rfl) ?_ (AllReadyH.nil)
          · intro K' hK
            refine step_app (by kernel_rfl) _ _ 42 rfl V.heap.size 47 z 3 40 Try.underlying42 hz hzs (by decide) v1 n r0 rfl HO.out (some ⟨k40, 0, none⟩) 1 1 news rfl (by rw [HNW.out]; rfl) (fun e => by cases e) (fun _ => ⟨_, rfl, HN.out⟩) (by rw [HNW.out]; intro u hu; simp only [List.mem_cons, List.not_mem_nil, or_false] at hu; rcases hu with rfl | rfl | rfl <;> rfl) (by have := HN1.out; unfold maxLen; omega) (by have := HN1.out; omega) HB.out.size ?_
            intro v2 X4 ho hg hv
            have hB : Below V.heap.size V X4 := bel_grown HB.out hg (fun k hk => (HO.out.lt k hk).1)
            have hs : X4.cell? ⟨g, 0, none⟩ = some (.int .i64 L0) := (hB.cell (World.block_lt_of_cell? _ _ HC0.out)).trans HC0.out
            refine hK.out _ _ (hs) (fun _ => ?_)
            clear hs
            clear HO HB
            have hO : X4.ownsRow V.heap.size 47 3 v2 qs.length (rowOf qs) := HQ.out _ _ ho
            obtain ⟨A2, c2, rfl, -⟩ := own_FR hO
            have HO := Lib.hid hO
            have HB := Lib.hid hB
            clear ho hg hv hB hO
            have HGX : Hid (X4.heap[g]? = some (.cells #[.int .i64 L0, .slice AL n cL] 44 (0, 0))) := heap_below HGV.out HB.out
            have hfz : X4.frozen? ⟨g, 1, none⟩ = false := frozen_of_row _ g 1 _ _ HGX.out
            have hc1 : X4.cell? ⟨g, 1, none⟩ = some (.slice AL n cL) := by rw [cell_of_row _ g 1 _ 44 (0, 0) HGX.out]; rfl
            have HFIN := Lib.hid (row_set (j := 1) (.slice A2 qs.length c2) HGX.out)
            try simp only [Act.put, List.getElem_toArray, List.getElem_cons_zero, List.getElem_cons_succ, List.setIfInBounds_toArray, List.set_cons_zero, List.set_cons_succ]
            refine wpAnyH_take (i := 16) (v := ?_) (o_at HG 16 rfl) Gns (by kernel_rfl) (by kernel_rfl) (fun _ _ _ h => h) (Or.inl ⟨(by kernel_rfl), ?_⟩) (by first | trivial | assumption) ?_
            rotate_left
            · (intro w hSw; (try dsimp only at hSw); go_simp; try with_reducible rfl)
            try simp only [Act.put, List.getElem_toArray, List.getElem_cons_zero, List.getElem_cons_succ, List.setIfInBounds_toArray, List.set_cons_zero, List.set_cons_succ]
            refine wpAnyH_take (i := 17) (v := ?_) (o_at HG 17 rfl) Gns (by kernel_rfl) (by kernel_rfl) (fun _ _ _ h => h) (Or.inl ⟨(by kernel_rfl), ?_⟩) (by first | trivial | assumption) ?_
            rotate_left
            · (intro w hSw; (try dsimp only at hSw); go_simp; try with_reducible rfl)
            try simp only [Act.put, List.getElem_toArray, List.getElem_cons_zero, List.getElem_cons_succ, List.setIfInBounds_toArray, List.set_cons_zero, List.set_cons_succ]
            refine wpAnyH_ready (rs := [18]) (by kernel_rfl) (by simp) ?_
            refine AllReadyH.cons (o_at HG 18 rfl) ?_ (AllReadyH.nil)
            · intro K' hK
              rw [if_pos (by kernel_rfl)]
              go_simp
              clear hfz hc1
              have hs : (X4.setCell ⟨g, 1, none⟩ (.slice A2 qs.length c2)).cell? ⟨g, 0, none⟩ = some (.int .i64 L0) := by rw [cell_of_row _ g 0 _ 44 (0, 0) HFIN.out]; rfl
              refine hK.out _ _ (hs) (fun _ => ?_)
              clear hs
              have HEND := Lib.hid (HPUT.out _ _ _ HB.out HO.out HFIN.out)
              try simp only [Act.put, List.getElem_toArray, List.getElem_cons_zero, List.getElem_cons_succ, List.setIfInBounds_toArray, List.set_cons_zero, List.set_cons_succ]
              refine wpAnyH_done (by kernel_rfl) ?_ _
              go_wp2
              go_ret2
              exact HEND.out
end Go.Proofs.Ytbjkeakehdljlaa
