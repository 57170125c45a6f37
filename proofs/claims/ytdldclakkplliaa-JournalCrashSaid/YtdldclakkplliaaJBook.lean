/- What a journal should have: the law's book, and the walk of done. Conditions: none. -/
import Derived.Test.YtdldclakkplliaaJUse
namespace Go.Proofs.Ytdldclakkplliaa
set_option linter.unusedVariables false
set_option linter.unusedSimpArgs false
open Go.RowKit

/-- A row of bytes that nobody writes any more. -/
structure BL (w : World) (col : Nat → Nat) (A : Option Addr) (n c : Nat) (rs : List Wr) : Prop where
  len : n = rs.length
  cz : A = none → c = 0
  nc : n ≤ c
  cells : 0 < rs.length → ∃ ad, A = some ad ∧ col ad.block = 0 ∧ ∀ j s, rs[j]? = some s → w.cell? (ad.add j) = some (lval s)
  sl : ∀ s ∈ rs, Sl w col s
/-- A book: base and records. -/
def Bk (w : World) (col : Nat → Nat) (v : Value) (base : List UInt8) (ls : List (List UInt8)) : Prop :=
  ∃ Ab cb Al n cl rs, v = .agg #[.slice Ab base.length cb, .slice Al n cl] ∧ RC w col 0 Ab base ∧ SV Ab base.length cb ∧ BL w col Al n cl rs ∧ rs.map (·.b) = ls
theorem rowL_one' (rs : List Wr) : ∀ u ∈ rowL rs, u.oneCell' = true := rowL_one rs
theorem own_empty (w : World) (base : Nat) (e : TypeId) (h : base ≤ w.heap.size) : (w.alloc (.cells #[] e)).ownsRow base e 1 (.slice (some ⟨w.heap.size, 0, none⟩) 0 0) 0 [] :=
  (OB.empty w base e h _ rfl).row
theorem BL.path {J : Nat → Prop} {w w' : World} {col col' : Nat → Nat} {A : Option Addr} {n c : Nat} {rs : List Wr} (h : BL w col A n c rs) (p : Path J w col w' col') (hJ : ∀ i, J i → i ≠ 0) : BL w' col' A n c rs := by
  refine ⟨h.len, h.cz, h.nc, fun hp => ?_, fun s hs => ⟨(h.sl s hs).1, (h.sl s hs).2.path p hJ⟩⟩
  obtain ⟨ad, rfl, h0, hc⟩ := h.cells hp
  obtain ⟨s0, hs0⟩ : ∃ s, rs[0]? = some s := ⟨_, List.getElem?_eq_getElem hp⟩
  have hlt := World.block_lt_of_cell? w _ (hc 0 s0 hs0)
  rw [add_block] at hlt
  have hz := p.zero hJ hlt h0
  refine ⟨ad, rfl, hz.2.1, fun j s hs => ?_⟩
  exact (World.cell?_of_block (a := ad.add j) (by rw [add_block]; exact hz.1)).trans (hc j s hs)
theorem BL.grow {w w' : World} {col : Nat → Nat} {A : Option Addr} {n c : Nat} {rs : List Wr} (h : BL w col A n c rs) (hb : Below w.heap.size w w') : BL w' (paint w col (fun _ => 0)) A n c rs := h.path (J := fun _ => False) (.grow .refl hb) (fun i hi => hi.elim)
theorem BL.rl {w : World} {col : Nat → Nat} {A : Option Addr} {n c : Nat} {rs : List Wr} (h : BL w col A n c rs) (hn : rs.length ≤ 9223372036854775807) : RL w A (rs.map (·.b)) := by
  refine RL.mk' (by rw [List.length_map]; exact hn) fun hp => ?_
  rw [List.length_map] at hp
  obtain ⟨ad, rfl, -, hc⟩ := h.cells hp
  refine ⟨ad, rfl, fun j hj => ?_⟩
  rw [List.length_map] at hj
  have hg : (rs.map (·.b)).getD j [] = rs[j].b := by rw [List.getD_eq_getElem?_getD, List.getElem?_map, List.getElem?_eq_getElem hj]; rfl
  have hs := h.sl rs[j] (List.getElem_mem _)
  rw [hg]
  exact ⟨_, _, hc j _ (List.getElem?_eq_getElem hj), hs.1, hs.2.read⟩
theorem Bk.path {J : Nat → Prop} {w w' : World} {col col' : Nat → Nat} {v : Value} {base : List UInt8} {ls : List (List UInt8)} (h : Bk w col v base ls) (p : Path J w col w' col') (hJ : ∀ i, J i → i ≠ 0) : Bk w' col' v base ls := by
  obtain ⟨Ab, cb, Al, n, cl, rs, h1, h2, h3, h4, h5⟩ := h
  exact ⟨Ab, cb, Al, n, cl, rs, h1, h2.path p hJ, h3, h4.path p hJ, h5⟩
theorem Bk.grow {w w' : World} {col : Nat → Nat} {v : Value} {base : List UInt8} {ls : List (List UInt8)} (h : Bk w col v base ls) (hb : Below w.heap.size w w') : Bk w' (paint w col (fun _ => 0)) v base ls := h.path (J := fun _ => False) (.grow .refl hb) (fun i hi => hi.elim)
theorem Bk.zero (w : World) (col : Nat → Nat) : Bk w col (.agg #[.slice none 0 0, .slice none 0 0]) [] [] :=
  ⟨none, 0, none, 0, 0, [], rfl, ⟨RB.nil _ _, fun h => by simp at h⟩, ⟨Nat.le_refl _, fun _ => rfl⟩, ⟨rfl, fun _ => rfl, Nat.le_refl _, fun h => by simp at h, fun s hs => by cases hs⟩, rfl⟩
/-- A book behind a step. -/
def doneB (sk n k : Int) (base : List UInt8) (ls : List (List UInt8)) : List UInt8 × List (List UInt8) :=
  if sk = 1 then (base, ls ++ [datB n k]) else if sk = 2 then (datB n k, []) else (base, ls)
theorem bl_snoc {w X2 X4 X5 Y : World} {col : Nat → Nat} {rs : List Wr} {v2 v5 : Value} {base0 l2 : Nat} {A3 : Option Addr} {k3 : Nat} {B : List UInt8} (hl : l2 = rs.length) (hw : w.heap.size ≤ base0) (h2 : base0 ≤ X2.heap.size) (h24 : X2.heap.size ≤ X4.heap.size)
    (HO5 : X5.ownsRow base0 22 1 v5 (l2 + 1) (rowL rs ++ [.slice A3 B.length k3])) (HO2 : X2.ownsRow base0 22 1 v2 l2 (rowL rs)) (HG : X4.grownBy X5 v2.ownBlock) (RB4 : RB X4 A3 B) (SV3 : SV A3 B.length k3) (FR : ∀ ad, A3 = some ad → X2.heap.size ≤ ad.block)
    (hY : ∀ k, base0 ≤ k → Y.heap[k]? = X5.heap[k]?) (hsl : ∀ s ∈ rs, Sl Y (paint w col (fun _ => 0)) s) : ∃ A5 c5, v5 = .slice A5 (l2 + 1) c5 ∧ BL Y (paint w col (fun _ => 0)) A5 (l2 + 1) c5 (rs ++ [⟨0, B, A3, k3⟩]) := by
  have hlen : (rs ++ [(⟨0, B, A3, k3⟩ : Wr)]).length = l2 + 1 := by rw [List.length_append, hl]; rfl
  have hrow : rowL rs ++ [.slice A3 B.length k3] = rowL (rs ++ [⟨0, B, A3, k3⟩]) := by rw [rowL_append]; rfl
  rw [hrow, ← hlen] at HO5
  have HOY := own_keep (w' := Y) HO5 fun k hk => hY k (HO5.lt k hk).1
  have hbs := HOY.lt
  obtain ⟨A5, c5, e5, h51, h52, h53⟩ := own_FL HOY
  rw [hlen] at e5 h51
  subst e5
  refine ⟨A5, c5, rfl, hlen.symm, h52, h51, fun hp => ?_, fun s hs => ?_⟩
  · obtain ⟨g, rfl, -⟩ := h53 0 _ (List.getElem?_eq_getElem hp)
    refine ⟨_, rfl, paint_new (Nat.le_trans hw (hbs g rfl).1), fun j s hs => ?_⟩
    obtain ⟨g', e', hc⟩ := h53 j s hs
    cases e'
    rw [add0]
    exact hc
  · rcases List.mem_append.1 hs with hs | hs
    · exact hsl s hs
    · rw [List.mem_singleton] at hs
      subst hs
      refine ⟨SV3, ?_, fun _ ad e => paint_new (by have := FR ad e; omega)⟩
      refine RB4.keep fun hp ad e => ?_
      have hlt := RB4.lt hp ad e
      have hfr := FR ad e
      rw [hY _ (by omega)]
      exact HG.block _ hlt (fun e2 => by have := (HO2.lt _ e2.symm).2; omega)
noncomputable def G24 : Array Oper := regionOf Try.f24 3
theorem Gns24 : Region.noSelect G24 = true := by kernel_rfl
def DoneQ (sk n k : Int) (base : List UInt8) (ls : List (List UInt8)) (w : World) (col : Nat → Nat) (e : Ending) (w' : World) : Prop :=
  ∃ v, e = .returned v ∧ Below w.heap.size w w' ∧ Bk w' (paint w col (fun _ => 0)) v (doneB sk n k base ls).1 (doneB sk n k base ls).2
set_option maxRecDepth 100000 in
set_option maxHeartbeats 8000000 in
theorem done_any (sk n k : Int) (v : Value) (base : List UInt8) (ls : List (List UInt8)) (w : World) (col : Nat → Nat) (h : Bk w col v base ls) (hl : ls.length ≤ 1000000) (hwn : -9223372036854775808 ≤ n ∧ n ≤ 9223372036854775807) :
    Calls Try.prog 24 #[v, .agg #[.int .i64 sk, .int .i64 n, .int .i64 k]] w (DoneQ sk n k base ls w col) := by
  have HBK := Lib.hid h
  obtain ⟨Ab, cb, Al, l2, cl, rs, rfl, h2, h3, h4, h5⟩ := h
  obtain ⟨q, hq⟩ : ∃ q, q = (n % 300).toNat := ⟨_, rfl⟩
  obtain ⟨B, hB⟩ : ∃ B, B = datB n k := ⟨_, rfl⟩
  have hlB : B.length = q := by rw [hB, datB_len, hq]
  have hq3 : q ≤ 300 := by omega
  have HD39 : Hid (∀ X, Calls Try.prog 39 #[.agg #[.int .i64 sk, .int .i64 n, .int .i64 k]] X (NewB X q B)) := Lib.hid (fun X => by rw [hB, hq]; exact data_any sk n k X hwn)
  obtain ⟨l1, hl1⟩ : ∃ m, m = base.length := ⟨_, rfl⟩
  rw [← hl1] at h3 ⊢
  have hll : l2 ≤ 1000000 := by rw [h4.len]; rw [← h5, List.length_map] at hl; exact hl
  have HRL : Hid ((rowL rs).length = l2 * 1) := Lib.hid (by rw [rowL_length, h4.len, Nat.mul_one])
  have HCZ := Lib.hid h4.cz
  obtain ⟨W0, hW0⟩ : ∃ W, W = ((w.alloc (.cells #[.slice Ab l1 cb, .slice Al l2 cl] 39)).alloc (.cells #[.int .i64 sk, .int .i64 n, .int .i64 k] 46)).alloc (.cells #[.slice none 0 0, .slice none 0 0] 39) := ⟨_, rfl⟩
  have hb0 : Below w.heap.size w W0 := by rw [hW0]; exact bel_alloc (bel_alloc (bel_alloc (Below.refl _ _) _) _) _
  have hsz0 : W0.heap.size = w.heap.size + 3 := by rw [hW0]; simp
  have g0 : W0.heap[w.heap.size]? = some (.cells #[.slice Ab l1 cb, .slice Al l2 cl] 39 (0, 0)) := by
    rw [hW0, Below.heap_alloc _ _ _ (by simp; omega), Below.heap_alloc _ _ _ (by simp)]
    exact heap_alloc_new w _
  have g1 : W0.heap[w.heap.size + 1]? = some (.cells #[.int .i64 sk, .int .i64 n, .int .i64 k] 46 (0, 0)) := by
    rw [hW0, Below.heap_alloc _ _ _ (by simp)]
    have := heap_alloc_new (w.alloc (.cells #[.slice Ab l1 cb, .slice Al l2 cl] 39)) (.cells #[.int .i64 sk, .int .i64 n, .int .i64 k] 46)
    simpa using this
  have g2 : W0.heap[w.heap.size + 2]? = some (.cells #[.slice none 0 0, .slice none 0 0] 39 (0, 0)) := by
    rw [hW0]
    have := heap_alloc_new ((w.alloc (.cells #[.slice Ab l1 cb, .slice Al l2 cl] 39)).alloc (.cells #[.int .i64 sk, .int .i64 n, .int .i64 k] 46)) (.cells #[.slice none 0 0, .slice none 0 0] 39)
    simpa using this
  have HROW : Hid (∀ X, Below W0.heap.size W0 X → X.heap[w.heap.size + 2]? = some (.cells #[.slice none 0 0, .slice none 0 0] 39 (0, 0))) := Lib.hid (fun X hX => (hX.block _ (by omega)).trans g2)
  have HCC : Hid (∀ X, Below W0.heap.size W0 X → X.cell? ⟨w.heap.size, 0, none⟩ = some (.slice Ab l1 cb) ∧ X.cell? ⟨w.heap.size, 1, none⟩ = some (.slice Al l2 cl) ∧ X.cell? ⟨w.heap.size + 1, 0, none⟩ = some (.int .i64 sk) ∧ X.cell? ⟨w.heap.size + 1, 1, none⟩ = some (.int .i64 n) ∧ X.cell? ⟨w.heap.size + 1, 2, none⟩ = some (.int .i64 k)) := Lib.hid (fun X hX => by
    have e0 := (hX.block _ (by omega)).trans g0
    have e1 := (hX.block _ (by omega)).trans g1
    exact ⟨by rw [cell_of_row _ _ 0 _ _ _ e0]; rfl, by rw [cell_of_row _ _ 1 _ _ _ e0]; rfl, by rw [cell_of_row _ _ 0 _ _ _ e1]; rfl, by rw [cell_of_row _ _ 1 _ _ _ e1]; rfl, by rw [cell_of_row _ _ 2 _ _ _ e1]; rfl⟩)
  have HC := HCC
  have HRW : Hid (∀ X, Below W0.heap.size W0 X → 0 < l2 → ∃ ad, Al = some ad ∧ ∀ j u, (rowL rs)[j]? = some u → X.cell? (ad.add j) = some u) := Lib.hid (fun X hX hp => by
    obtain ⟨ad, rfl, -, hc⟩ := h4.cells (by rw [← h4.len]; exact hp)
    refine ⟨ad, rfl, fun j u hu => ?_⟩
    rw [rowL, List.getElem?_map] at hu
    obtain ⟨s, hs, rfl⟩ := Option.map_eq_some_iff.1 hu
    have := hc j s hs
    exact ((bel_then hb0 hX).cell (World.block_lt_of_cell? _ _ this)).trans this)
  have HB0 := Lib.hid hb0
  obtain ⟨y0, y1, y2, y3, y4⟩ := HCC.out W0 (Below.refl _ _)
  have HGROW : Hid (∀ X, Below w.heap.size w X → RC X (paint w col (fun _ => 0)) 0 Ab base ∧ ∀ s ∈ rs, Sl X (paint w col (fun _ => 0)) s) := Lib.hid (fun X hX => ⟨h2.path (J := fun _ => False) (.grow .refl hX) (fun i hi => hi.elim), fun s hs => ⟨(h4.sl s hs).1, (h4.sl s hs).2.path (J := fun _ => False) (.grow .refl hX) (fun i hi => hi.elim)⟩⟩)
  have hsz1 : W0.heap.size = w.heap.size + 3 := hsz0
  have hln := h4.len
  have HSZ0 := Lib.hid hsz0
  have HBO : Hid (Below w.heap.size w (((w.alloc (.cells #[.slice Ab l1 cb, .slice Al l2 cl] 39)).alloc (.cells #[.int .i64 sk, .int .i64 n, .int .i64 k] 46)).alloc (.cells #[.slice Ab l1 cb, .slice Al l2 cl] 39))) := Lib.hid (bel_alloc (bel_alloc (bel_alloc (Below.refl _ _) _) _) _)
  have HYB : Hid (∀ (X : World) (cs : Array Value), Below W0.heap.size W0 X → Below w.heap.size w (X.setRow (w.heap.size + 2) cs)) := Lib.hid (fun X cs hX => below_setRow (bel_then hb0 hX) (by omega) cs)
  have HFIN : Hid (∀ (X2 X4 X5 : World) (v2 v5 : Value) (A3 : Option Addr) (k3 : Nat), W0.heap.size ≤ X2.heap.size → W0.heap.size ≤ X4.heap.size → X2.heap.size ≤ X4.heap.size → X5.ownsRow W0.heap.size 22 1 v5 (l2 + 1) (rowL rs ++ [.slice A3 q k3]) → X2.ownsRow W0.heap.size 22 1 v2 l2 (rowL rs) → X4.grownBy X5 v2.ownBlock → RB X4 A3 B → SV A3 q k3 → (∀ ad, A3 = some ad → X2.heap.size ≤ ad.block) → Below W0.heap.size W0 X5 → ∃ A5 c5, v5 = .slice A5 (l2 + 1) c5 ∧ BL (X5.setRow (w.heap.size + 2) #[.slice Ab l1 cb, .slice A5 (l2 + 1) c5]) (paint w col (fun _ => 0)) A5 (l2 + 1) c5 (rs ++ [⟨0, B, A3, k3⟩])) := Lib.hid (fun X2 X4 X5 v2 v5 A3 k3 z2 z4 z24 o5 o2 g5 r4 s3 f3 b5 => by
    obtain ⟨A5, c5, e5, -⟩ := own_FL (ls := rs ++ [⟨0, B, A3, k3⟩]) (by rw [List.length_append, ← hln, rowL_append]; rw [← hlB] at o5; exact o5)
    rw [List.length_append, ← hln] at e5
    obtain ⟨A6, c6, e6, hbl⟩ := bl_snoc (w := w) (col := col) (Y := X5.setRow (w.heap.size + 2) #[.slice Ab l1 cb, v5]) hln (by omega) z2 z24 (by rw [hlB]; exact o5) o2 g5 r4 (by rw [hlB]; exact s3) f3 (fun k hk => setRow_other _ _ _ _ (by omega)) (fun s hs => ((HGROW.out _ (HYB.out X5 _ b5)).2 s hs))
    subst e6
    exact ⟨A6, c6, rfl, hbl⟩)
  have HCY : Hid (∀ (X : World) (v5 : Value), Below W0.heap.size W0 X → (X.setRow (w.heap.size + 2) #[.slice Ab l1 cb, v5]).cell? ⟨w.heap.size, 0, none⟩ = some (.slice Ab l1 cb) ∧ (X.setRow (w.heap.size + 2) #[.slice Ab l1 cb, v5]).cell? ⟨w.heap.size, 1, none⟩ = some (.slice Al l2 cl) ∧ (X.setRow (w.heap.size + 2) #[.slice Ab l1 cb, v5]).cell? ⟨w.heap.size + 1, 0, none⟩ = some (.int .i64 sk) ∧ (X.setRow (w.heap.size + 2) #[.slice Ab l1 cb, v5]).cell? ⟨w.heap.size + 1, 1, none⟩ = some (.int .i64 n) ∧ (X.setRow (w.heap.size + 2) #[.slice Ab l1 cb, v5]).cell? ⟨w.heap.size + 1, 2, none⟩ = some (.int .i64 k)) := Lib.hid (fun X v5 hX => by
    obtain ⟨e0, e1, e2, e3, e4⟩ := HCC.out X hX
    exact ⟨by rw [cell_setRow_other _ _ _ _ (by show w.heap.size ≠ _; omega)]; exact e0, by rw [cell_setRow_other _ _ _ _ (by show w.heap.size ≠ _; omega)]; exact e1, by rw [cell_setRow_other _ _ _ _ (by show w.heap.size + 1 ≠ _; omega)]; exact e2, by rw [cell_setRow_other _ _ _ _ (by show w.heap.size + 1 ≠ _; omega)]; exact e3, by rw [cell_setRow_other _ _ _ _ (by show w.heap.size + 1 ≠ _; omega)]; exact e4⟩)
  have H5 := Lib.hid h5
  have HL1 := Lib.hid hl1
  have HLB := Lib.hid hlB
  have HBD := Lib.hid hB
  have HSV := Lib.hid h3
  clear h2 h3 h4 h5 hq hB hlB hl hl1 hb0 hsz0 hsz1 hln g0 g1 g2
  rw [hW0] at y0 y1 y2 y3 y4
  by_cases k1 : sk = 1
  · subst k1
    go_enter Try.func24, Try.ntmps24
    go_upto_region 3 with fail
    rw [← hW0]
    rw [← hW0] at y0 y1 y2 y3 y4
    obtain ⟨X0, hV⟩ : ∃ V, V = W0.drew := ⟨_, rfl⟩
    have hbV : Below W0.heap.size W0 X0 := by rw [hV]; exact bel_drew (Below.refl _ _)
    have HBX0 := Lib.hid hbV
    have z := HC.out X0 hbV
    clear hbV y0 y1 y2 y3 y4
    refine region_const (G := G24) (S := fun X => X.cell? ⟨w.heap.size, 0, none⟩ = some (.slice Ab l1 cb) ∧ X.cell? ⟨w.heap.size, 1, none⟩ = some (.slice Al l2 cl) ∧ X.cell? ⟨w.heap.size + 1, 0, none⟩ = some (.int .i64 1) ∧ X.cell? ⟨w.heap.size + 1, 1, none⟩ = some (.int .i64 n) ∧ X.cell? ⟨w.heap.size + 1, 2, none⟩ = some (.int .i64 k)) (n := 12) (by kernel_rfl) (by kernel_rfl) rfl (by rw [← hV]; exact z) (fun HG hS0 => ?_)
    have Gns := Gns24
    rw [← hV]
    rw [← hV] at hS0
    clear hV hW0 z
    simp only [Array.replicate_succ, Array.replicate_zero, List.push_toArray, List.nil_append, List.cons_append]
    refine wpAnyH_take (i := 0) (v := ?_) (o_at HG 0 rfl) Gns (by kernel_rfl) (by kernel_rfl) (fun _ _ _ h => h) (Or.inl ⟨(by kernel_rfl), ?_⟩) (by first | trivial | assumption) ?_
    rotate_left
    · (intro w hSw; (try dsimp only at hSw); go_simp; try with_reducible rfl)
    try simp only [Act.put, List.getElem_toArray, List.getElem_cons_zero, List.getElem_cons_succ, List.setIfInBounds_toArray, List.set_cons_zero, List.set_cons_succ]
    refine wpAnyH_take (i := 1) (v := ?_) (o_at HG 1 rfl) Gns (by kernel_rfl) (by kernel_rfl) (fun _ _ _ h => h) (Or.inl ⟨(by kernel_rfl), ?_⟩) (by first | trivial | assumption) ?_
    rotate_left
    · (intro w hSw; (try dsimp only at hSw); go_simp; try with_reducible rfl)
    try simp only [Act.put, List.getElem_toArray, List.getElem_cons_zero, List.getElem_cons_succ, List.setIfInBounds_toArray, List.set_cons_zero, List.set_cons_succ]
    refine wpAnyH_take (i := 3) (v := ?_) (o_at HG 3 rfl) Gns (by kernel_rfl) (by kernel_rfl) (fun _ _ _ h => h) (Or.inl ⟨(by kernel_rfl), ?_⟩) (by first | trivial | assumption) ?_
    rotate_left
    · (intro w hSw; (try dsimp only at hSw); go_simp; try with_reducible rfl)
    try simp only [Act.put, List.getElem_toArray, List.getElem_cons_zero, List.getElem_cons_succ, List.setIfInBounds_toArray, List.set_cons_zero, List.set_cons_succ]
    refine wpAnyH_take (i := 4) (v := ?_) (o_at HG 4 rfl) Gns (by kernel_rfl) (by kernel_rfl) (fun _ _ _ h => h) (Or.inl ⟨(by kernel_rfl), ?_⟩) (by first | trivial | assumption) ?_
    rotate_left
    · (intro w hSw; (try dsimp only at hSw); go_simp; try with_reducible rfl)
    try simp only [Act.put, List.getElem_toArray, List.getElem_cons_zero, List.getElem_cons_succ, List.setIfInBounds_toArray, List.set_cons_zero, List.set_cons_succ]
    refine wpAnyH_take (i := 6) (v := ?_) (o_at HG 6 rfl) Gns (by kernel_rfl) (by kernel_rfl) (fun _ _ _ h => h) (Or.inl ⟨(by kernel_rfl), ?_⟩) (by first | trivial | assumption) ?_
    rotate_left
    · (intro w hSw; (try dsimp only at hSw); go_simp; try with_reducible rfl)
    try simp only [Act.put, List.getElem_toArray, List.getElem_cons_zero, List.getElem_cons_succ, List.setIfInBounds_toArray, List.set_cons_zero, List.set_cons_succ]
    refine wpAnyH_ready (rs := [2]) (by kernel_rfl) (by simp) ?_
    refine AllReadyH.cons (o_at HG 2 rfl) ?_ (AllReadyH.nil)
    · intro K' hK
      rw [if_pos (by kernel_rfl)]
      go_simp
      have hb1 := bel_alloc (Below.refl X0.heap.size X0) (.cells #[] 22)
      have ho1 : (X0.alloc (.cells #[] 22)).ownsRow W0.heap.size 22 1 (.slice (some ⟨X0.heap.size, 0, none⟩) 0 0) 0 [] := own_empty X0 W0.heap.size 22 HBX0.out.size
      have HBX1 := Lib.hid (bel_then HBX0.out hb1)
      clear hb1
      generalize X0.alloc (.cells #[] 22) = X1 at *
      generalize X0.heap.size = g1 at *
      have HO1 := Lib.hid ho1
      clear ho1
      have s1 := HC.out X1 HBX1.out
      refine hK.out _ _ s1 (fun _ => ?_)
      clear s1
      try simp only [Act.put, List.getElem_toArray, List.getElem_cons_zero, List.getElem_cons_succ, List.setIfInBounds_toArray, List.set_cons_zero, List.set_cons_succ]
      refine wpAnyH_ready (rs := [5]) (by kernel_rfl) (by simp) ?_
      refine AllReadyH.cons (o_at HG 5 rfl) ?_ (AllReadyH.nil)
      · intro K' hK
        refine step_app (by kernel_rfl) _ _ 23 rfl W0.heap.size 22 (.slice none 0 0) 1 24 Try.underlying23 info22 rfl (by decide) (.slice (some ⟨g1, 0, none⟩) 0 0) 0 [] rfl HO1.out Al l2 cl (rowL rs) rfl HRL.out HCZ.out (HRW.out X1 HBX1.out) (rowL_one' rs) (by unfold maxLen; omega) (by omega) HBX1.out.size ?_
        intro v2 X2 ho hg hv
        have hb2 := bel_grown HBX1.out hg (fun k e => (HO1.out.lt k e).1)
        rw [Nat.zero_add, List.nil_append] at ho
        have HBX2 := Lib.hid hb2
        have HO2 := Lib.hid ho
        clear ho hg hv hb2
        have s1 := HC.out X2 HBX2.out
        refine hK.out _ _ s1 (fun _ => ?_)
        clear s1
        try simp only [Act.put, List.getElem_toArray, List.getElem_cons_zero, List.getElem_cons_succ, List.setIfInBounds_toArray, List.set_cons_zero, List.set_cons_succ]
        refine wpAnyH_ready (rs := [7]) (by kernel_rfl) (by simp) ?_
        refine AllReadyH.cons (o_at HG 7 rfl) ?_ (AllReadyH.nil)
        · intro K' hK
          rw [if_pos (by kernel_rfl)]
          go_simp
          (with_reducible refine (HD39.out X2).mono ?_)
          rintro e X3 ⟨A3, k3, rfl, sv3, rb3, fr3, hb3⟩
          have HBX3 := Lib.hid (bel_then HBX2.out hb3)
          have HO3 := Lib.hid (own_keep HO2.out fun k hk => hb3.block k (HO2.out.lt k hk).2)
          have SV3 := Lib.hid sv3
          have RB3 := Lib.hid rb3
          have FR3 := Lib.hid fr3
          have HSZ23 : Hid (X2.heap.size ≤ X3.heap.size) := Lib.hid hb3.size
          clear sv3 rb3 fr3 hb3
          have s1 := HC.out X3 HBX3.out
          refine hK.out _ _ s1 (fun _ => ?_)
          clear s1
          try simp only [Act.put, List.getElem_toArray, List.getElem_cons_zero, List.getElem_cons_succ, List.setIfInBounds_toArray, List.set_cons_zero, List.set_cons_succ]
          refine wpAnyH_ready (rs := [8]) (by kernel_rfl) (by simp) ?_
          refine AllReadyH.cons (o_at HG 8 rfl) ?_ (AllReadyH.nil)
          · intro K' hK
            rw [if_pos (by kernel_rfl)]
            go_simp
            have hb4 := bel_alloc (Below.refl X3.heap.size X3) (.cells #[.slice A3 q k3] 22)
            have HN4 : Hid (∀ j u, [Value.slice A3 q k3][j]? = some u → (X3.alloc (.cells #[.slice A3 q k3] 22)).cell? ((⟨X3.heap.size, 0, none⟩ : Addr).add j) = some u) := Lib.hid (fun j u hu => cell_alloc _ _ _ _ _ rfl j u (by simpa using hu))
            have HO4 := Lib.hid (own_keep HO3.out fun k hk => hb4.block k (HO3.out.lt k hk).2)
            have RB4 := Lib.hid (RB3.out.below hb4)
            have HBX4 := Lib.hid (bel_then HBX3.out hb4)
            have HSZ24 := Lib.hid (Nat.le_trans HSZ23.out hb4.size)
            clear hb4
            generalize X3.alloc (.cells #[.slice A3 q k3] 22) = X4 at *
            generalize X3.heap.size = g4 at *
            have s1 := HC.out X4 HBX4.out
            refine hK.out _ _ s1 (fun _ => ?_)
            clear s1
            try simp only [Act.put, List.getElem_toArray, List.getElem_cons_zero, List.getElem_cons_succ, List.setIfInBounds_toArray, List.set_cons_zero, List.set_cons_succ]
            refine wpAnyH_ready (rs := [9]) (by kernel_rfl) (by simp) ?_
            refine AllReadyH.cons (o_at HG 9 rfl) ?_ (AllReadyH.nil)
            · intro K' hK
              refine step_app (by kernel_rfl) _ _ 23 rfl W0.heap.size 22 (.slice none 0 0) 1 24 Try.underlying23 info22 rfl (by decide) v2 l2 (rowL rs) rfl HO4.out (some ⟨g4, 0, none⟩) 1 1 [.slice A3 q k3] rfl rfl (fun e => by cases e) (fun _ => ⟨_, rfl, HN4.out⟩) (by intro u hu; simp only [List.mem_cons, List.not_mem_nil, or_false] at hu; rcases hu with rfl; rfl) (by unfold maxLen; omega) (by omega) HBX4.out.size ?_
              intro v5 X5 ho hg hv
              have hb5 := bel_grown HBX4.out hg (fun k e => (HO4.out.lt k e).1)
              have HBX5 := Lib.hid hb5
              have HO5 := Lib.hid ho
              obtain ⟨A5, c5, e5, hbl5⟩ := HFIN.out X2 X4 X5 v2 v5 A3 k3 HBX2.out.size HBX4.out.size HSZ24.out ho HO2.out hg RB4.out SV3.out FR3.out HBX5.out
              subst e5
              have HBL5 := Lib.hid hbl5
              clear ho hg hv hb5 hbl5
              have s1 := HC.out X5 HBX5.out
              refine hK.out _ _ s1 (fun _ => ?_)
              clear s1
              try simp only [Act.put, List.getElem_toArray, List.getElem_cons_zero, List.getElem_cons_succ, List.setIfInBounds_toArray, List.set_cons_zero, List.set_cons_succ]
              refine wpAnyH_take (i := 10) (v := ?_) (o_at HG 10 rfl) Gns (by kernel_rfl) (by kernel_rfl) (fun _ _ _ h => h) (Or.inl ⟨(by kernel_rfl), ?_⟩) (by first | trivial | assumption) ?_
              rotate_left
              · (intro w hSw; (try dsimp only at hSw); go_simp; try with_reducible rfl)
              try simp only [Act.put, List.getElem_toArray, List.getElem_cons_zero, List.getElem_cons_succ, List.setIfInBounds_toArray, List.set_cons_zero, List.set_cons_succ]
              refine wpAnyH_ready (rs := [11]) (by kernel_rfl) (by simp) ?_
              refine AllReadyH.cons (o_at HG 11 rfl) ?_ (AllReadyH.nil)
              · intro K' hK
                rw [if_pos (by kernel_rfl)]
                have s1 := HCY.out X5 (.slice A5 (l2 + 1) c5) HBX5.out
                refine wp_store_row 39 _ _ rfl (w.heap.size + 2) #[.slice Ab l1 cb, .slice A5 (l2 + 1) c5] rfl rfl 39 #[.slice none 0 0, .slice none 0 0] (HROW.out X5 HBX5.out) rfl rfl (by simp [Value.oneCell']) ?_
                refine hK.out _ _ s1 (fun _ => ?_)
                try simp only [Act.put, List.getElem_toArray, List.getElem_cons_zero, List.getElem_cons_succ, List.setIfInBounds_toArray, List.set_cons_zero, List.set_cons_succ]
                refine wpAnyH_done (by kernel_rfl) ?_ _
                apply_assumption
                go_wp2
                have hg5 := setRow_heap X5 (w.heap.size + 2) _ #[.slice Ab l1 cb, .slice A5 (l2 + 1) c5] _ _ (HROW.out X5 HBX5.out)
                have hfin : DoneQ 1 n k base ls w col (.returned (.agg #[.slice Ab l1 cb, .slice A5 (l2 + 1) c5])) (X5.setRow (w.heap.size + 2) #[.slice Ab l1 cb, .slice A5 (l2 + 1) c5]) := by
                  have hY := HYB.out X5 #[.slice Ab l1 cb, .slice A5 (l2 + 1) c5] HBX5.out
                  refine ⟨_, rfl, hY, Ab, cb, A5, l2 + 1, c5, rs ++ [⟨0, B, A3, k3⟩], by rw [HL1.out]; rfl, (HGROW.out _ hY).1, by rw [HL1.out] at HSV; exact HSV.out, HBL5.out, ?_⟩
                  rw [List.map_append, H5.out, HBD.out]
                  rfl
                (try simp only [Exit.inBlock, Exit.then])
                exact bodyPost_ret (results_cell_row rfl _ _ (w.heap.size + 2) 39 _ (0, 0) _ rfl hg5 Try.underlying39 rfl (by kernel_rfl)) rfl hfin
  · by_cases k2 : sk = 2
    · subst k2
      clear k1
      go_enter Try.func24, Try.ntmps24
      go_wp2_with fail
      rw [← hW0]
      refine (HD39.out _).mono ?_
      rintro e w1 ⟨A1, c1, rfl, sv1, rb1, fr1, hb1⟩
      have hrow : w1.heap[w.heap.size + 1 + 1]? = _ := HROW.out w1 hb1
      have HRO := Lib.hid hrow
      have hg5 := Lib.hid (setRow_heap w1 (w.heap.size + 1 + 1) _ #[.slice A1 q c1, .slice none 0 0] _ _ hrow)
      have hfin : DoneQ 2 n k base ls w col (.returned (.agg #[.slice A1 q c1, .slice none 0 0])) (w1.setRow (w.heap.size + 1 + 1) #[.slice A1 q c1, .slice none 0 0]) := by
        have hY := HYB.out w1 #[.slice A1 q c1, .slice none 0 0] hb1
        have hrb : RB (w1.setRow (w.heap.size + 1 + 1) #[.slice A1 q c1, .slice none 0 0]) A1 B := rb1.keep fun hp ad e => setRow_other _ _ _ _ (by have := fr1 ad e; have := HSZ0.out; omega)
        refine ⟨_, rfl, hY, A1, c1, none, 0, 0, [], by rw [show (doneB 2 n k base ls).1 = B from HBD.out.symm, HLB.out], ?_, ?_, ⟨rfl, fun _ => rfl, Nat.le_refl _, fun h => by simp at h, fun s hs => by cases hs⟩, rfl⟩
        · rw [show (doneB 2 n k base ls).1 = B from HBD.out.symm]
          exact ⟨hrb, fun _ ad e => paint_new (by have := fr1 ad e; have := HSZ0.out; omega)⟩
        · rw [show (doneB 2 n k base ls).1 = B from HBD.out.symm, HLB.out]
          exact sv1
      have HFI := Lib.hid hfin
      clear hfin hrow hb1 sv1 rb1 fr1
      go_wp2_with (first | (refine wpList_store_row rfl 39 _ _ rfl (w.heap.size + 1 + 1) #[.slice A1 q c1, .slice none 0 0] rfl rfl 39 _ HRO.out (by kernel_rfl) rfl (by simp [Value.oneCell']) ?_) | fail)
      (try simp only [Exit.inBlock, Exit.then])
      exact bodyPost_ret (results_cell_row rfl _ _ (w.heap.size + 1 + 1) 39 _ (0, 0) _ rfl hg5.out Try.underlying39 rfl (by kernel_rfl)) rfl HFI.out
    · have f1 : (sk == 1) = false := by simpa using k1
      have f2 : (sk == 2) = false := by simpa using k2
      have HK12 : Hid (sk ≠ 1 ∧ sk ≠ 2) := Lib.hid ⟨k1, k2⟩
      clear k1 k2
      go_enter Try.func24, Try.ntmps24
      go_wp2
      (try simp only [Exit.inBlock, Exit.then])
      have hb3 := HBO.out
      have h3 : (((w.alloc (.cells #[.slice Ab l1 cb, .slice Al l2 cl] 39)).alloc (.cells #[.int .i64 sk, .int .i64 n, .int .i64 k] 46)).alloc (.cells #[.slice Ab l1 cb, .slice Al l2 cl] 39)).heap[w.heap.size + 1 + 1]? = some (.cells #[.slice Ab l1 cb, .slice Al l2 cl] 39 (0, 0)) := by
        have := heap_alloc_new ((w.alloc (.cells #[.slice Ab l1 cb, .slice Al l2 cl] 39)).alloc (.cells #[.int .i64 sk, .int .i64 n, .int .i64 k] 46)) (.cells #[.slice Ab l1 cb, .slice Al l2 cl] 39)
        simpa using this
      refine bodyPost_ret (results_cell_row rfl _ _ (w.heap.size + 1 + 1) 39 _ (0, 0) _ rfl h3 Try.underlying39 rfl (by kernel_rfl)) rfl ⟨_, rfl, hb3, ?_⟩
      have e1 : doneB sk n k base ls = (base, ls) := by unfold doneB; rw [if_neg HK12.out.1, if_neg HK12.out.2]
      rw [e1]
      have hh := HBK.out
      rw [← HL1.out] at hh
      exact hh.grow hb3
end Go.Proofs.Ytdldclakkplliaa
