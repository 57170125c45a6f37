/- The walk of Read of a disk. Conditions: none. -/
import Derived.Test.YtdldclakkplliaaBack
namespace Go.Proofs.Ytdldclakkplliaa
set_option linter.unusedVariables false
set_option linter.unusedSimpArgs false
open Go.RowKit Go.Shelf

attribute [local go_sem] Oper.semAt_some

noncomputable def G31a : Array Oper := regionOf Try.f31 1
theorem Gns31a : Region.noSelect G31a = true := by kernel_rfl
noncomputable def G31b : Array Oper := regionOf Try.f31 7
theorem Gns31b : Region.noSelect G31b = true := by kernel_rfl

/-- A region that goes on, whatever its function does with a panic. -/
def normOnly (K : Act → World → Prop) : Exit → Act → World → Prop
  | .normal, a, w => K a w
  | _, _, _ => False
theorem region_norm {P : Program} {c : Code} {K : Act → World → Prop} {Q : Exit → Act → World → Prop} {a : Act} {w : World} (h : c.wp P (normOnly K) a w) : c.wp P (Exit.then K Q) a w :=
  wp_mono h fun e a w hq => by
    cases e with
    | normal => exact hq
    | _ => exact hq.elim

/-- The write that counts: the last one of the cache, else what is safe. -/
def lastW (ws : List Wr) (i : Int) : Option Wr := ws.reverse.find? (fun s => s.at_ == i)
def readS (d : DK) (i : Int) : Option Wr := (lastW d.cache i).or (d.safe i)
def readB (d : DK) (i : Int) : List UInt8 := secB (readS d i)

theorem rev_get (ws : List Wr) (j : Nat) (h : j < ws.length) : ws.reverse[j]? = some (elB ws (down ws.length j)) := by
  rw [List.getElem?_reverse h]
  unfold down elB
  rw [List.getD_eq_getElem?_getD, List.getElem?_eq_getElem (by omega)]
  rfl
theorem lastW_none {ws : List Wr} {i : Int} (h : ∀ x ∈ upto (down ws.length) ws.length, (elB ws x).at_ ≠ i) : lastW ws i = none := by
  unfold lastW
  rw [List.find?_eq_none]
  intro s hs
  obtain ⟨j, hj⟩ := List.getElem?_of_mem hs
  have hl := (List.getElem?_eq_some_iff.1 hj).1
  rw [List.length_reverse] at hl
  rw [rev_get ws j hl] at hj
  cases hj
  simpa using h (down ws.length j) (List.mem_map.2 ⟨j, List.mem_range.2 hl, rfl⟩)
theorem lastW_some {ws : List Wr} {i : Int} {k x : Nat} {pre : List Nat} (hk : k ≤ ws.length) (hp : pre ++ [x] = upto (down ws.length) k) (hn : ∀ y ∈ pre, (elB ws y).at_ ≠ i) (hx : (elB ws x).at_ = i) : lastW ws i = some (elB ws x) ∧ x < ws.length := by
  have hlen := congrArg List.length hp
  rw [List.length_append, upto_length] at hlen
  simp only [List.length_cons, List.length_nil] at hlen
  have hxk : x = down ws.length (k - 1) := by
    have := congrArg (fun l => l[k - 1]?) hp
    simp only [upto, List.getElem?_map] at this
    rw [List.getElem?_append_right (by omega), show k - 1 - pre.length = 0 by omega, List.getElem?_range (by omega)] at this
    simpa using this
  have hxl : x < ws.length := by rw [hxk]; unfold down; omega
  refine ⟨?_, hxl⟩
  unfold lastW
  rw [List.find?_eq_some_iff_getElem]
  refine ⟨by simpa using hx, k - 1, by rw [List.length_reverse]; omega, ?_, fun j hj => ?_⟩
  · have := rev_get ws (k - 1) (by omega)
    rw [← hxk] at this
    exact (List.getElem?_eq_some_iff.1 this).2
  · have h1 := rev_get ws j (by omega)
    rw [(List.getElem?_eq_some_iff.1 h1).2]
    have h2 : down ws.length j ∈ pre := by
      have h3 := congrArg (fun l => l[j]?) hp
      simp only [upto, List.getElem?_map] at h3
      rw [List.getElem?_append_left (by omega), List.getElem?_range (by omega)] at h3
      exact List.mem_of_getElem? h3
    simpa using hn _ h2

set_option maxRecDepth 100000 in
set_option maxHeartbeats 8000000 in
theorem read_good (id gd mb : Nat) (d : DK) (v : Value) (i : Int) (w : World) (col : Nat → Nat) (h : DiskV w col id gd mb v d) (hi : 0 ≤ i ∧ i < d.n) (hcl : d.cache.length ≤ 1000000) :
    Calls Try.prog 31 #[.pointer (some ⟨gd, 0, none⟩), .int .i64 i] w fun e w' => ∃ A c, e = .returned (.tuple #[.slice A 64 c, .int .i64 0]) ∧ OB w' w.heap.size 5 (.slice A 64 c) (readB d i) ∧ Below w.heap.size w w' := by
  have HD := Lib.hid h
  have hgl : gd < w.heap.size := (Array.getElem?_eq_some_iff.1 h.obj).1
  have HGL := Lib.hid hgl
  have c0 : w.cell? ⟨gd, 0, none⟩ = some (.int .i64 d.n) := by rw [cell_of_row _ _ 0 _ _ _ h.obj]; rfl
  obtain ⟨h0, h1⟩ := hi
  clear h hgl
  refine callsIn_wide.1 (callsIn_of_wp_marks (n := 8) Try.func31 rfl trivial ?_ rfl)
  simp only [Try.ntmps31, List.size_toArray, List.length_cons, List.length_nil, Nat.reduceAdd, Nat.reduceSub, Array.replicate_succ, Array.replicate_zero, List.push_toArray, List.append_toArray, List.nil_append, List.cons_append]
  refine wpIn_wide.2 ?_
  go_wp2_with fail
  obtain ⟨W1, hW1⟩ : ∃ W, W = ((w.alloc (.cells #[.int .i64 i] 3)).alloc (.cells #[.slice none 0 0] 22)).alloc (.cells #[.int .i64 0] 27) := ⟨_, rfl⟩
  have hb1 : Below w.heap.size w W1 := by rw [hW1]; exact bel_alloc (bel_alloc (bel_alloc (Below.refl _ _) _) _) _
  have hr3 : W1.heap[w.heap.size]? = some (.cells #[.int .i64 i] 3 (0, 0)) := by
    rw [hW1, Below.heap_alloc _ _ _ (by simp; omega), Below.heap_alloc _ _ _ (by simp)]
    exact heap_alloc_new w _
  have hr4 : W1.heap[w.heap.size + 1]? = some (.cells #[.slice none 0 0] 22 (0, 0)) := by
    rw [hW1, Below.heap_alloc _ _ _ (by simp)]
    have := heap_alloc_new (w.alloc (.cells #[.int .i64 i] 3)) (.cells #[.slice none 0 0] 22)
    simpa using this
  have hr5 : W1.heap[w.heap.size + 1 + 1]? = some (.cells #[.int .i64 0] 27 (0, 0)) := by
    rw [hW1]
    have := heap_alloc_new ((w.alloc (.cells #[.int .i64 i] 3)).alloc (.cells #[.slice none 0 0] 22)) (.cells #[.int .i64 0] 27)
    simpa using this
  rw [← hW1]
  clear hW1
  obtain ⟨r3, hr3e⟩ : ∃ r, r = w.heap.size := ⟨_, rfl⟩
  obtain ⟨r4, hr4e⟩ : ∃ r, r = r3 + 1 := ⟨_, rfl⟩
  obtain ⟨r5, hr5e⟩ : ∃ r, r = r4 + 1 := ⟨_, rfl⟩
  rw [← hr3e, ← hr4e, ← hr5e] at hr5
  rw [← hr3e, ← hr4e] at hr4
  rw [← hr3e] at hr3
  rw [← hr3e, ← hr4e, ← hr5e]
  have HR3E := Lib.hid hr3e
  have HR4E := Lib.hid hr4e
  have HR5E := Lib.hid hr5e
  have HB1 : Hid (Below w.heap.size w W1.drew) := Lib.hid (bel_drew hb1)
  have HR3 : Hid (W1.drew.heap[r3]? = some (.cells #[.int .i64 i] 3 (0, 0))) := Lib.hid hr3
  have HR4 : Hid (W1.drew.heap[r4]? = some (.cells #[.slice none 0 0] 22 (0, 0))) := Lib.hid hr4
  have HR5 : Hid (W1.drew.heap[r5]? = some (.cells #[.int .i64 0] 27 (0, 0))) := Lib.hid hr5
  have z0 : W1.drew.cell? ⟨gd, 0, none⟩ = some (.int .i64 d.n) := by have := cell_of_row _ gd 0 _ _ _ (heap_below HD.out.obj HB1.out); exact this
  have z3 : W1.drew.cell? ⟨r3, 0, none⟩ = some (.int .i64 i) := by have := cell_of_row _ r3 0 _ _ _ HR3.out; exact this
  clear hr3e hr4e hr5e hr3 hr4 hr5 hb1 c0
  refine region_norm ?_
  refine region_const (G := G31a) (S := fun X => X = W1.drew) (n := 14) (by kernel_rfl) (by kernel_rfl) rfl rfl (fun HG hS0 => ?_)
  have Gns := Gns31a
  have hz1 : decide (i < 0) = false := by simp; omega
  have hz2 : decide ((d.n : Int) ≤ i) = false := by simp; omega
  generalize W1.drew = V at *
  simp only [Array.replicate_succ, Array.replicate_zero, List.push_toArray, List.nil_append, List.cons_append]
  refine wpAnyH_take (i := 0) (v := ?_) (o_at HG 0 rfl) Gns (by kernel_rfl) (by kernel_rfl) (fun _ _ _ h => h) (Or.inl ⟨(by kernel_rfl), ?_⟩) (by first | trivial | assumption) ?_
  rotate_left
  · (intro w hSw; (try dsimp only at hSw); go_simp; try with_reducible rfl)
  try simp only [Act.put, List.getElem_toArray, List.getElem_cons_zero, List.getElem_cons_succ, List.setIfInBounds_toArray, List.set_cons_zero, List.set_cons_succ]
  refine wpAnyH_take (i := 1) (v := ?_) (o_at HG 1 rfl) Gns (by kernel_rfl) (by kernel_rfl) (fun _ _ _ h => h) (Or.inl ⟨(by kernel_rfl), ?_⟩) (by first | trivial | assumption) ?_
  rotate_left
  · (intro w hSw; (try dsimp only at hSw); go_simp; try with_reducible rfl)
  try simp only [Act.put, List.getElem_toArray, List.getElem_cons_zero, List.getElem_cons_succ, List.setIfInBounds_toArray, List.set_cons_zero, List.set_cons_succ]
  refine wpAnyH_take (i := 2) (v := ?_) (o_at HG 2 rfl) Gns (by kernel_rfl) (by kernel_rfl) (fun _ _ _ h => h) (Or.inl ⟨(by kernel_rfl), ?_⟩) (by first | trivial | assumption) ?_
  rotate_left
  · (intro w hSw; (try dsimp only at hSw); go_simp; try with_reducible rfl)
  try simp only [Act.put, List.getElem_toArray, List.getElem_cons_zero, List.getElem_cons_succ, List.setIfInBounds_toArray, List.set_cons_zero, List.set_cons_succ]
  refine wpAnyH_take (i := 3) (v := ?_) (o_at HG 3 rfl) Gns (by kernel_rfl) (by kernel_rfl) (fun _ _ _ h => h) (Or.inl ⟨(by kernel_rfl), ?_⟩) (by first | trivial | assumption) ?_
  rotate_left
  · (intro w hSw; (try dsimp only at hSw); go_simp; try with_reducible rfl)
  try simp only [Act.put, List.getElem_toArray, List.getElem_cons_zero, List.getElem_cons_succ, List.setIfInBounds_toArray, List.set_cons_zero, List.set_cons_succ]
  refine wpAnyH_take (i := 4) (v := ?_) (o_at HG 4 rfl) Gns (by kernel_rfl) (by kernel_rfl) (fun _ _ _ h => h) (Or.inl ⟨(by kernel_rfl), ?_⟩) (by first | trivial | assumption) ?_
  rotate_left
  · (intro w hSw; (try dsimp only at hSw); go_simp; try with_reducible rfl)
  try simp only [Act.put, List.getElem_toArray, List.getElem_cons_zero, List.getElem_cons_succ, List.setIfInBounds_toArray, List.set_cons_zero, List.set_cons_succ]
  refine wpAnyH_take (i := 5) (v := ?_) (o_at HG 5 rfl) Gns (by kernel_rfl) (by kernel_rfl) (fun _ _ _ h => h) (Or.inl ⟨(by kernel_rfl), ?_⟩) (by first | trivial | assumption) ?_
  rotate_left
  · (intro w hSw; (try dsimp only at hSw); go_simp; try with_reducible rfl)
  try simp only [Act.put, List.getElem_toArray, List.getElem_cons_zero, List.getElem_cons_succ, List.setIfInBounds_toArray, List.set_cons_zero, List.set_cons_succ]
  refine wpAnyH_take (i := 6) (v := ?_) (o_at HG 6 rfl) Gns (by kernel_rfl) (by kernel_rfl) (fun _ _ _ h => h) (Or.inl ⟨(by kernel_rfl), ?_⟩) (by first | trivial | assumption) ?_
  rotate_left
  · (intro w hSw; (try dsimp only at hSw); go_simp; try with_reducible rfl)
  try simp only [Act.put, List.getElem_toArray, List.getElem_cons_zero, List.getElem_cons_succ, List.setIfInBounds_toArray, List.set_cons_zero, List.set_cons_succ]
  refine wpAnyH_take (i := 7) (v := ?_) (o_at HG 7 rfl) Gns (by kernel_rfl) (by kernel_rfl) (fun _ _ _ h => h) (Or.inl ⟨(by kernel_rfl), ?_⟩) (by first | trivial | assumption) ?_
  rotate_left
  · (intro w hSw; (try dsimp only at hSw); go_simp; try with_reducible rfl)
  try simp only [Act.put, List.getElem_toArray, List.getElem_cons_zero, List.getElem_cons_succ, List.setIfInBounds_toArray, List.set_cons_zero, List.set_cons_succ]
  refine wpAnyH_take (i := 8) (v := ?_) (o_at HG 8 rfl) Gns (by kernel_rfl) (by kernel_rfl) (fun _ _ _ h => h) (Or.inl ⟨(by kernel_rfl), ?_⟩) (by first | trivial | assumption) ?_
  rotate_left
  · (intro w hSw; (try dsimp only at hSw); go_simp; try with_reducible rfl)
  try simp only [Act.put, List.getElem_toArray, List.getElem_cons_zero, List.getElem_cons_succ, List.setIfInBounds_toArray, List.set_cons_zero, List.set_cons_succ]
  refine wpAnyH_take (i := 9) (v := ?_) (o_at HG 9 rfl) Gns (by kernel_rfl) (by kernel_rfl) (fun _ _ _ h => h) (Or.inl ⟨(by kernel_rfl), ?_⟩) (by first | trivial | assumption) ?_
  rotate_left
  · (intro w hSw; (try dsimp only at hSw); go_simp; try with_reducible rfl)
  try simp only [Act.put, List.getElem_toArray, List.getElem_cons_zero, List.getElem_cons_succ, List.setIfInBounds_toArray, List.set_cons_zero, List.set_cons_succ]
  refine wpAnyH_take (i := 10) (v := ?_) (o_at HG 10 rfl) Gns (by kernel_rfl) (by kernel_rfl) (fun _ _ _ h => h) (Or.inl ⟨(by kernel_rfl), ?_⟩) (by first | trivial | assumption) ?_
  rotate_left
  · (intro w hSw; (try dsimp only at hSw); go_simp; try with_reducible rfl)
  try simp only [Act.put, List.getElem_toArray, List.getElem_cons_zero, List.getElem_cons_succ, List.setIfInBounds_toArray, List.set_cons_zero, List.set_cons_succ]
  refine wpAnyH_take (i := 11) (v := ?_) (o_at HG 11 rfl) Gns (by kernel_rfl) (by kernel_rfl) (fun _ _ _ h => h) (Or.inl ⟨(by kernel_rfl), ?_⟩) (by first | trivial | assumption) ?_
  rotate_left
  · (intro w hSw; (try dsimp only at hSw); go_simp; try with_reducible rfl)
  try simp only [Act.put, List.getElem_toArray, List.getElem_cons_zero, List.getElem_cons_succ, List.setIfInBounds_toArray, List.set_cons_zero, List.set_cons_succ]
  refine wpAnyH_take (i := 12) (v := ?_) (o_at HG 12 rfl) Gns (by kernel_rfl) (by kernel_rfl) (fun _ _ _ h => h) (Or.inl ⟨(by kernel_rfl), ?_⟩) (by first | trivial | assumption) ?_
  rotate_left
  · (intro w hSw; (try dsimp only at hSw); go_simp; try with_reducible rfl)
  try simp only [Act.put, List.getElem_toArray, List.getElem_cons_zero, List.getElem_cons_succ, List.setIfInBounds_toArray, List.set_cons_zero, List.set_cons_succ]
  refine wpAnyH_take (i := 13) (v := ?_) (o_at HG 13 rfl) Gns (by kernel_rfl) (by kernel_rfl) (fun _ _ _ h => h) (Or.inl ⟨(by kernel_rfl), ?_⟩) (by first | trivial | assumption) ?_
  rotate_left
  · (intro w hSw; (try dsimp only at hSw); go_simp; try with_reducible rfl)
  try simp only [Act.put, List.getElem_toArray, List.getElem_cons_zero, List.getElem_cons_succ, List.setIfInBounds_toArray, List.set_cons_zero, List.set_cons_succ]
  refine wpAnyH_done (by kernel_rfl) ?_ _
  clear hS0 z0 hz1 hz2 Gns HG
  simp only [normOnly]
  obtain ⟨vA, vc, rfl, hfw⟩ := own_FW HD.out.own
  have c2 : V.cell? ⟨gd, 2, none⟩ = some (.slice vA d.cache.length vc) := by rw [cell_of_row _ gd 2 _ _ _ (heap_below HD.out.obj HB1.out)]; rfl
  have HFW := Lib.hid (hfw.below HB1.out)
  clear hfw
  go_wp2_with fail
  refine (back_any vA d.cache.length vc V).mono ?_
  rintro e W2 ⟨rfl, hW2⟩
  go_wp2_with fail
  rw [← hW2]
  have hb2 : Below V.heap.size V W2 := by rw [hW2]; exact bel_alloc (Below.refl _ _) _
  have hbs : W2.heap[V.heap.size]? = some (.cells #[.slice vA d.cache.length vc] 77 (0, 0)) := by rw [hW2]; exact heap_alloc_new V _
  have hbc := cell_of_row _ _ 0 _ _ _ hbs
  simp only [List.getElem?_toArray, List.getElem?_cons_zero] at hbc
  have hBl := (Array.getElem?_eq_some_iff.1 hbs).1
  have HB2 := Lib.hid (HB1.out.trans (hb2.mono HB1.out.size))
  have HR3' := Lib.hid (heap_below HR3.out hb2)
  have HR4' := Lib.hid (heap_below HR4.out hb2)
  have HR5' := Lib.hid (heap_below HR5.out hb2)
  have HFW2 := Lib.hid (HFW.out.below hb2)
  have HA : Hid (∀ ad, vA = some ad → ad.block < W2.heap.size) := Lib.hid (fun ad e => by
    have h1 := (HD.out.own.lt ad.block (by subst e; rfl)).2
    have h2 := HB2.out.size
    omega)
  have HN0 : Hid (w.heap.size + 2 < W2.heap.size) := Lib.hid (by
    have h1 := (Array.getElem?_eq_some_iff.1 HR5'.out).1
    have := HR3E.out
    have := HR4E.out
    have := HR5E.out
    omega)
  generalize V.heap.size = Bs at *
  clear hW2 hb2 HB1 HR3 HR4 HR5 HFW c2 hbs z3
  refine wpIn_wide.1 (wpIn_rangeFunc_ownH (n := 6) rfl (by omega) (gf := 74) (lb := #[.pointer (some ⟨Bs, 0, none⟩)]) rfl trivial (enters_of Try.func74 (by kernel_rfl) rfl) (back_stops 5 (by omega) Bs W2.heap.size vc vA d.cache hcl W2 HA.out hBl (Nat.le_refl _) hbc HFW2.out) belowK_t (fun W l o o' a b c e => belowK_b (Nat.le_refl _) W l o o' a b c e) (Below.refl _ _) (fun _ => rfl)
    (fun pre W => (∀ x ∈ pre, (elB d.cache x).at_ ≠ i) ∧ Below W2.heap.size W2 W)
    (fun c pre W => c = .ret ∧ ∃ pre' x A cc, pre = pre' ++ [x] ∧ (∀ y ∈ pre', (elB d.cache y).at_ ≠ i) ∧ (elB d.cache x).at_ = i ∧ W.heap[r4]? = some (.cells #[.slice A (elB d.cache x).b.length cc] 22 (0, 0)) ∧ W.heap[r5]? = some (.cells #[.int .i64 0] 27 (0, 0)) ∧ OB W w.heap.size 5 (.slice A (elB d.cache x).b.length cc) (elB d.cache x).b ∧ Below w.heap.size w W)
    (fun s W W' row hs hg hr => ⟨hs.1, hs.2.grown hg hs.2.size (fun k e => (hr k e).1)⟩)
    (fun c s W W' row hs hg hr => by
      obtain ⟨rfl, pre', x, A, cc, e1, e2, e3, e4, e5, e6, e7⟩ := hs
      have nr : ∀ (k : Nat) (cs : Array Value) (t : TypeId) (fr : Nat × Nat), W.heap[k]? = some (.cells cs t fr) → some k ≠ row := fun k cs t fr hk e => by
        obtain ⟨_, o, ho, hc⟩ := hr k e.symm
        rw [hk] at ho
        cases ho
        cases hc
      have kp : ∀ (k : Nat) (cs : Array Value) (t : TypeId) (fr : Nat × Nat), W.heap[k]? = some (.cells cs t fr) → W'.heap[k]? = some (.cells cs t fr) := fun k cs t fr hk => (hg.block k (Array.getElem?_eq_some_iff.1 hk).1 (nr k cs t fr hk)).trans hk
      refine ⟨rfl, pre', x, A, cc, e1, e2, e3, kp _ _ _ _ e4, kp _ _ _ _ e5, e6.kept hg ?_, e7.grown hg e7.size (fun k e => by have := (hr k e).1; have := HN0.out; omega)⟩
      cases hA : A with
      | none => exact .inl rfl
      | some ad =>
        right
        rw [hA] at e6
        rcases e6.row.2 with ⟨q, _⟩ | ⟨g, cap, cur, q, _, hh, _⟩
        · cases q
        · cases q
          exact nr _ _ _ _ hh)
    ⟨fun x hx => by simp at hx, Below.refl _ _⟩
    (fun x a' W => ∃ Bx, W2.heap.size ≤ Bx ∧ W.heap[Bx]? = some (.cells #[.int .i64 (elB d.cache x).at_, .slice (elB d.cache x).A (elB d.cache x).b.length (elB d.cache x).c] 94 (0, 0)) ∧
      a' = { tmps := #[.pointer (some ⟨gd, 0, none⟩), .int .i64 i, undef, .pointer (some ⟨r3, 0, none⟩), .pointer (some ⟨r4, 0, none⟩), .pointer (some ⟨r5, 0, none⟩), undef, .pointer (some ⟨Bx, 0, none⟩), .pointer (some ⟨gd, 0, none⟩), .bool false, .bool false, .int .i64 i, .bool false, .bool false, .bool false, .int .i64 i, .pointer (some ⟨gd, 0, none⟩), .pointer (some ⟨gd, 0, none⟩), .pointer (some ⟨gd, 0, none⟩), .int .i64 d.n, .bool false, .bool false, .pointer (some ⟨gd, 0, none⟩), .pointer (some ⟨gd, 0, none⟩), .pointer (some ⟨gd, 2, none⟩), .slice vA d.cache.length vc, .func (.func 74) #[] #[.pointer (some ⟨Bs, 0, none⟩)], .int .i64 x,
        .agg #[.int .i64 (elB d.cache x).at_, .slice (elB d.cache x).A (elB d.cache x).b.length (elB d.cache x).c], undef, undef, undef, undef, undef, undef, undef, undef, undef, undef, undef, undef, undef], defers := [] })
    (fun x a' s W W' row hs hg hr => by
      obtain ⟨Bx, q1, q2, q3⟩ := hs
      refine ⟨Bx, q1, (hg.block Bx (Array.getElem?_eq_some_iff.1 q2).1 (fun e => ?_)).trans q2, q3⟩
      obtain ⟨_, o, ho, hc⟩ := hr Bx e.symm
      rw [q2] at ho
      cases ho
      cases hc) ?assign ?body ?done ?stop)
  case assign =>
    rintro l pre x W K hi hK
    simp only [encB, wAgg]
    gi_wp2
    have hba : Below W.heap.size W (W.alloc (.cells #[.int .i64 (elB d.cache x).at_, .slice (elB d.cache x).A (elB d.cache x).b.length (elB d.cache x).c] 94)) := bel_alloc (Below.refl _ _) _
    exact hK _ _ ((KeepsOthers.alloc _ _).from _) ((Below.refl _ W).alloc hi.2.size _) ⟨hi.1, hi.2.trans (hba.mono hi.2.size)⟩ ⟨W.heap.size, hi.2.size, heap_alloc_new W _, rfl⟩
  case body =>
    rintro l pre x a' W hl ⟨r, hr⟩ ⟨hI1, hI2⟩ ⟨Bx, hBx1, hBx2, rfl⟩ hlt
    have y0 := cell_of_row _ _ 0 _ _ _ hBx2
    have y1 := cell_of_row _ _ 1 _ _ _ hBx2
    simp at y0 y1
    have y3 : W.cell? ⟨r3, 0, none⟩ = some (.int .i64 i) := by rw [cell_of_row _ _ 0 _ _ _ ((hI2.block r3 (by have := (Array.getElem?_eq_some_iff.1 HR3'.out).1; exact this)).trans HR3'.out)]; rfl
    by_cases hx : (elB d.cache x).at_ = i
    · have hbW : Below w.heap.size w W := HB2.out.trans (hI2.mono HB2.out.size)
      obtain ⟨s, hs⟩ : ∃ s, s = elB d.cache x := ⟨_, rfl⟩
      rw [← hs] at hx y0 y1 hBx2 ⊢
      have hsec : SV s.A s.b.length s.c ∧ RB W s.A s.b ∧ s.b.length ≤ 64 := by
        by_cases hxl : x < d.cache.length
        · have hm : s ∈ d.cache := by rw [hs, elB, List.getD_eq_getElem?_getD, List.getElem?_eq_getElem hxl]; exact List.getElem_mem hxl
          have h3 := (HD.out.cd s hm).1
          exact ⟨h3.1, h3.2.1.read.below hbW, by have := h3.2.2; omega⟩
        · have : s = dftW := by rw [hs, elB, List.getD_eq_getElem?_getD, List.getElem?_eq_none (by omega)]; rfl
          rw [this]
          exact ⟨⟨Nat.le_refl _, fun _ => rfl⟩, RB.nil _ _, by simp [dftW]⟩
      have HSEC := Lib.hid hsec
      have HBW := Lib.hid hbW
      have HSE := Lib.hid hs
      have hc4 := (hI2.block r4 (Array.getElem?_eq_some_iff.1 HR4'.out).1).trans HR4'.out
      have hc5 := (hI2.block r5 (Array.getElem?_eq_some_iff.1 HR5'.out).1).trans HR5'.out
      have HC4 := Lib.hid hc4
      have HC5 := Lib.hid hc5
      clear hsec hbW hs hc4 hc5
      gi_wp2
      refine ⟨trivial, (CallsIn.inRound l (callsIn_wide.2 (clone_any s.A s.c s.b W HSEC.out.2.1 HSEC.out.1 (by have := HSEC.out.2.2; omega)))).mono ?_⟩
      rintro e W3 ⟨vb, rfl, hob, hbel⟩
      obtain ⟨Ab, cb, rfl, -, -⟩ := hob.reads
      have hw4 := heap_below HC4.out hbel
      have hw5 := heap_below HC5.out hbel
      have f4 := frozen_of_row _ _ 0 _ _ hw4
      have g4 := cell_of_row _ _ 0 _ _ _ hw4
      have hne45 : r5 ≠ r4 := by have := HR5E.out; omega
      have hv5 := (Below.heap_setCell W3 ⟨r4, 0, none⟩ (.slice Ab s.b.length cb) r5 hne45).trans hw5
      have f5 := frozen_of_row _ _ 0 _ _ hv5
      have g5 := cell_of_row _ _ 0 _ _ _ hv5
      simp at g4 g5
      have HV4 := Lib.hid (row_set (j := 0) (.slice Ab s.b.length cb) hw4)
      have HV5 := Lib.hid (row_set (j := 0) (.int .i64 0) hv5)
      have HOB := Lib.hid hob
      have HBL := Lib.hid hbel
      clear hob hbel hw4 hw5 hv5
      gi_wp2
      have hbw := HBW.out
      have hsz := HBW.out.size
      have hsW := hI2.size
      have hn0 := HN0.out
      have e3 := HR3E.out
      have e4 := HR4E.out
      have e5 := HR5E.out
      refine ⟨KeepsOthers.from (((KeepsOthers.of_grownBy (grown_of_below HBL.out none) (fun j o e => by cases e)).trans (KeepsOthers.setCell _ _ _)).trans (KeepsOthers.setCell _ _ _)) _, rfl, pre, x, Ab, cb, rfl, hI1, by rw [← HSE.out]; exact hx, ?_, ?_, ?_, ?_⟩
      · rw [← HSE.out, Below.heap_setCell _ _ _ _ (show r4 ≠ r5 by omega)]
        simpa using HV4.out
      · simpa using HV5.out
      · rw [← HSE.out]
        refine OB.mk' (own_mono (own_keep HOB.out.row fun k hk => ?_) hsz)
        have := HOB.out.base_ k hk
        rw [Below.heap_setCell _ _ _ _ (show k ≠ r5 by omega), Below.heap_setCell _ _ _ _ (show k ≠ r4 by omega)]
      · exact ((hbw.trans (HBL.out.mono hsz)).setCell (by show w.heap.size ≤ r4; omega) _).setCell (by show w.heap.size ≤ r5; omega) _
    · gi_wp2
      exact ⟨KeepsFrom.refl _ _, Below.refl _ _, fun y hy => (List.mem_append.1 hy).elim (hI1 y) (fun h => by rw [List.mem_singleton] at h; subst h; exact hx), hI2⟩
  case done =>
    rintro D xs W hD hS ⟨hI1, hI2⟩ hK
    subst hS
    have hnone := lastW_none (ws := d.cache) hI1
    have HNONE := Lib.hid hnone
    have HK := Lib.hid hK
    have HI2 := Lib.hid hI2
    have HDD := Lib.hid hD
    have hbW : Below w.heap.size w W := HB2.out.trans (hI2.mono HB2.out.size)
    have HBW := Lib.hid hbW
    have HR4 : Hid (W.drew.heap[r4]? = some (.cells #[.slice none 0 0] 22 (0, 0))) := Lib.hid ((hI2.block r4 (Array.getElem?_eq_some_iff.1 HR4'.out).1).trans HR4'.out)
    have HR5 : Hid (W.drew.heap[r5]? = some (.cells #[.int .i64 0] 27 (0, 0))) := Lib.hid ((hI2.block r5 (Array.getElem?_eq_some_iff.1 HR5'.out).1).trans HR5'.out)
    have z3 : W.drew.cell? ⟨r3, 0, none⟩ = some (.int .i64 i) := by have := cell_of_row W r3 0 _ _ _ ((hI2.block r3 (Array.getElem?_eq_some_iff.1 HR3'.out).1).trans HR3'.out); exact this
    have z1 : W.drew.cell? ⟨gd, 1, none⟩ = some (.map (some mb)) := by have := cell_of_row W gd 1 _ _ _ (heap_below HD.out.obj hbW); exact this
    have hsec := sector_any mb d.m d.safe i W.drew (HD.out.map.keep (hbW.block mb HD.out.map.lt)) (by have := HD.out.dom; omega) (fun s hs => ⟨(HD.out.sd i s hs).1, ((HD.out.sd i s hs).2.1.read.below hbW).drew, (HD.out.sd i s hs).2.2⟩)
    have HSEC := Lib.hid hsec
    have hne45 : r5 ≠ r4 := by have := HR5E.out; omega
    clear hnone hK hI1 hI2 hD hsec hbW
    dsimp only
    go_wp2_with fail
    refine region_norm ?_
    refine region_const (G := G31b) (S := fun X => X.cell? ⟨gd, 1, none⟩ = some (.map (some mb)) ∧ X.cell? ⟨r3, 0, none⟩ = some (.int .i64 i)) (n := 8) (by kernel_rfl) (by kernel_rfl) rfl ⟨z1, z3⟩ (fun HG hS0 => ?_)
    have Gns := Gns31b
    have HZ1 := Lib.hid z1
    have HZ3 := Lib.hid z3
    have n1 : gd ≠ r4 := by have := HR3E.out; have := HR4E.out; have := HGL.out; omega
    have n2 : gd ≠ r5 := by have := HR3E.out; have := HR4E.out; have := HR5E.out; have := HGL.out; omega
    have n3 : r3 ≠ r4 := by have := HR4E.out; omega
    have n4 : r3 ≠ r5 := by have := HR4E.out; have := HR5E.out; omega
    simp only [Array.replicate_succ, Array.replicate_zero, List.push_toArray, List.nil_append, List.cons_append]
    refine wpAnyH_take (i := 0) (v := ?_) (o_at HG 0 rfl) Gns (by kernel_rfl) (by kernel_rfl) (fun _ _ _ h => h) (Or.inl ⟨(by kernel_rfl), ?_⟩) (by first | trivial | assumption) ?_
    rotate_left
    · (intro w hSw; (try dsimp only at hSw); go_simp; try with_reducible rfl)
    try simp only [Act.put, List.getElem_toArray, List.getElem_cons_zero, List.getElem_cons_succ, List.setIfInBounds_toArray, List.set_cons_zero, List.set_cons_succ]
    refine wpAnyH_take (i := 1) (v := ?_) (o_at HG 1 rfl) Gns (by kernel_rfl) (by kernel_rfl) (fun _ _ _ h => h) (Or.inl ⟨(by kernel_rfl), ?_⟩) (by first | trivial | assumption) ?_
    rotate_left
    · (intro w hSw; (try dsimp only at hSw); go_simp; try with_reducible rfl)
    try simp only [Act.put, List.getElem_toArray, List.getElem_cons_zero, List.getElem_cons_succ, List.setIfInBounds_toArray, List.set_cons_zero, List.set_cons_succ]
    refine wpAnyH_take (i := 2) (v := ?_) (o_at HG 2 rfl) Gns (by kernel_rfl) (by kernel_rfl) (fun _ _ _ h => h) (Or.inl ⟨(by kernel_rfl), ?_⟩) (by first | trivial | assumption) ?_
    rotate_left
    · (intro w hSw; (try dsimp only at hSw); go_simp; try with_reducible rfl)
    try simp only [Act.put, List.getElem_toArray, List.getElem_cons_zero, List.getElem_cons_succ, List.setIfInBounds_toArray, List.set_cons_zero, List.set_cons_succ]
    refine wpAnyH_take (i := 3) (v := ?_) (o_at HG 3 rfl) Gns (by kernel_rfl) (by kernel_rfl) (fun _ _ _ h => h) (Or.inl ⟨(by kernel_rfl), ?_⟩) (by first | trivial | assumption) ?_
    rotate_left
    · (intro w hSw; (try dsimp only at hSw); go_simp; try with_reducible rfl)
    try simp only [Act.put, List.getElem_toArray, List.getElem_cons_zero, List.getElem_cons_succ, List.setIfInBounds_toArray, List.set_cons_zero, List.set_cons_succ]
    refine wpAnyH_take (i := 4) (v := ?_) (o_at HG 4 rfl) Gns (by kernel_rfl) (by kernel_rfl) (fun _ _ _ h => h) (Or.inl ⟨(by kernel_rfl), ?_⟩) (by first | trivial | assumption) ?_
    rotate_left
    · (intro w hSw; (try dsimp only at hSw); go_simp; try with_reducible rfl)
    try simp only [Act.put, List.getElem_toArray, List.getElem_cons_zero, List.getElem_cons_succ, List.setIfInBounds_toArray, List.set_cons_zero, List.set_cons_succ]
    refine wpAnyH_ready (rs := [5]) (by kernel_rfl) (by simp) ?_
    refine AllReadyH.cons (o_at HG 5 rfl) ?_ (AllReadyH.nil)
    · intro K' hK
      rw [if_pos (by kernel_rfl)]
      go_simp
      (with_reducible refine HSEC.out.mono ?_)
      rintro e X1 ⟨g9, rfl, ho9, hb9⟩
      have HO9 := Lib.hid ho9
      have HB9 := Lib.hid hb9
      have hfz4 := frozen_of_row _ _ 0 _ _ (heap_below HR4.out hb9)
      have hcc4 := cell_of_row _ _ 0 _ _ _ (heap_below HR4.out hb9)
      simp at hcc4
      refine hK.out _ _ ⟨(hb9.cell (World.block_lt_of_cell? _ _ HZ1.out)).trans HZ1.out, (hb9.cell (World.block_lt_of_cell? _ _ HZ3.out)).trans HZ3.out⟩ (fun hS1 => ?_)
      have HS1 := Lib.hid hS1
      clear ho9 hb9
      try simp only [Act.put, List.getElem_toArray, List.getElem_cons_zero, List.getElem_cons_succ, List.setIfInBounds_toArray, List.set_cons_zero, List.set_cons_succ]
      refine wpAnyH_ready (rs := [6]) (by kernel_rfl) (by simp) ?_
      refine AllReadyH.cons (o_at HG 6 rfl) ?_ (AllReadyH.nil)
      · intro K' hK
        have HQ5 := Lib.hid (heap_below HR5.out HB9.out)
        rw [if_pos (by kernel_rfl)]
        go_simp
        refine hK.out _ _ ⟨(World.cell?_of_block (a := ⟨gd, 1, none⟩) (Below.heap_setCell _ _ _ _ n1)).trans HS1.out.1, (World.cell?_of_block (a := ⟨r3, 0, none⟩) (Below.heap_setCell _ _ _ _ n3)).trans HS1.out.2⟩ (fun hS2 => ?_)
        have HS2 := Lib.hid hS2
        try simp only [Act.put, List.getElem_toArray, List.getElem_cons_zero, List.getElem_cons_succ, List.setIfInBounds_toArray, List.set_cons_zero, List.set_cons_succ]
        refine wpAnyH_ready (rs := [7]) (by kernel_rfl) (by simp) ?_
        refine AllReadyH.cons (o_at HG 7 rfl) ?_ (AllReadyH.nil)
        · intro K' hK
          have hq5 := (Below.heap_setCell X1 ⟨r4, 0, none⟩ (.slice (some ⟨g9, 0, none⟩) 64 64) r5 (by show r5 ≠ r4; omega)).trans HQ5.out
          have hfz5 := frozen_of_row _ _ 0 _ _ hq5
          have hcc5 := cell_of_row _ _ 0 _ _ _ hq5
          simp at hcc5
          rw [if_pos (by kernel_rfl)]
          go_simp
          refine hK.out _ _ ⟨(World.cell?_of_block (a := ⟨gd, 1, none⟩) (Below.heap_setCell _ _ _ _ n2)).trans HS2.out.1, (World.cell?_of_block (a := ⟨r3, 0, none⟩) (Below.heap_setCell _ _ _ _ n4)).trans HS2.out.2⟩ (fun hS3 => ?_)
          try simp only [Act.put, List.getElem_toArray, List.getElem_cons_zero, List.getElem_cons_succ, List.setIfInBounds_toArray, List.set_cons_zero, List.set_cons_succ]
          refine wpAnyH_done (by kernel_rfl) ?_ _
          simp only [normOnly]
          have hwd := HBW.out
          have hsz := hwd.size
          have hkD := HK.out
          have hDlt := (Array.getElem?_eq_some_iff.1 hkD).1
          have hd4 : r4 ≠ D := by have := (Array.getElem?_eq_some_iff.1 HR4'.out).1; have := HDD.out; omega
          have hd5 : r5 ≠ D := by have := (Array.getElem?_eq_some_iff.1 HR5'.out).1; have := HDD.out; omega
          obtain ⟨Y, hY⟩ : ∃ Y, Y = (X1.setCell ⟨r4, 0, none⟩ (.slice (some ⟨g9, 0, none⟩) 64 64)).setCell ⟨r5, 0, none⟩ (.int .i64 0) := ⟨_, rfl⟩
          have hYD : Y.heap[D]? = some (.deferred (some [])) := by
            rw [hY, Below.heap_setCell _ _ _ _ (show D ≠ r5 by omega), Below.heap_setCell _ _ _ _ (show D ≠ r4 by omega), HB9.out.block D hDlt]
            exact hkD
          have hY4 : Y.heap[r4]? = some (.cells #[.slice (some ⟨g9, 0, none⟩) 64 64] 22 (0, 0)) := by
            rw [hY, Below.heap_setCell _ _ _ _ (show r4 ≠ r5 by omega)]
            have := row_set (j := 0) (.slice (some ⟨g9, 0, none⟩) 64 64) (heap_below HR4.out HB9.out)
            simpa using this
          have hY5 : Y.heap[r5]? = some (.cells #[.int .i64 0] 27 (0, 0)) := by
            rw [hY]
            have := row_set (j := 0) (.int .i64 0) ((Below.heap_setCell X1 ⟨r4, 0, none⟩ (.slice (some ⟨g9, 0, none⟩) 64 64) r5 (show r5 ≠ r4 by omega)).trans (heap_below HR5.out HB9.out))
            simpa using this
          have hrb : readB d i = secB (d.safe i) := by unfold readB readS; rw [HNONE.out]; rfl
          have k4 := cell_of_row _ _ 0 _ _ _ ((World.putObj_heap_other (o := .deferred none) hd4).trans hY4)
          have k5 := cell_of_row _ _ 0 _ _ _ ((World.putObj_heap_other (o := .deferred none) hd5).trans hY5)
          simp at k4 k5
          have e3 := HR3E.out
          have e4' := HR4E.out
          have e5' := HR5E.out
          have hwx : Below w.heap.size w X1 := hwd.trans ((bel_undrew HB9.out).mono hsz)
          have hbY : Below w.heap.size w Y := by rw [hY]; exact (hwx.setCell (by show w.heap.size ≤ r4; omega) _).setCell (by show w.heap.size ≤ r5; omega) _
          have hxs := HB9.out.size
          have hobY : OB Y w.heap.size 5 (.slice (some ⟨g9, 0, none⟩) 64 64) (secB (d.safe i)) := by
            refine OB.mk' (own_mono (own_keep HO9.out.row fun k hk => ?_) (show w.heap.size ≤ W.drew.heap.size from hsz))
            have h1 := HO9.out.base_ k hk
            have h2 := (Array.getElem?_eq_some_iff.1 HR4.out).1
            have h3 := (Array.getElem?_eq_some_iff.1 HR5.out).1
            rw [hY, Below.heap_setCell _ _ _ _ (show k ≠ r5 by omega), Below.heap_setCell _ _ _ _ (show k ≠ r4 by omega)]
          have hobD : OB (Y.putObj D (.deferred none)) w.heap.size 5 (.slice (some ⟨g9, 0, none⟩) 64 64) (secB (d.safe i)) := OB.mk' (own_keep hobY.row fun k hk => World.putObj_heap_other (fun e => by
            subst e
            have h1 := HO9.out.base_ k hk
            have : k < W.drew.heap.size := hDlt
            omega))
          have hbD : Below w.heap.size w (Y.putObj D (.deferred none)) := hbY.trans (belowK_b (w := W2) HB2.out.size Y D _ (.deferred none) HDD.out hYD rfl rfl)
          have HRB := Lib.hid hrb
          have HOB := Lib.hid hobD
          have HBD := Lib.hid hbD
          have HYD := Lib.hid hYD
          rw [← hY]
          clear hwd hsz hkD hDlt hY hYD hY4 hY5 hrb e3 e4' e5' hwx hbY hxs hobY hobD hbD hS0
          go_wp2
          refine ⟨by simp, .inl ⟨_, _, rfl, run_takeDeferred HYD.out, ?_⟩⟩
          refine ⟨.tuple #[.slice (some ⟨g9, 0, none⟩) 64 64, .int .i64 0], ?_, _, _, rfl, by rw [HRB.out]; exact HOB.out, HBD.out⟩
          simp [results, Try.f31, go_sem, k4, k5]
  case stop =>
    rintro D c pre W hD ⟨k, hk, hp⟩ ⟨rfl, pre', x, A, cc, e1, e2, e3, e4, e5, e6, e7⟩ hK
    obtain ⟨hlast, hxl⟩ := lastW_some hk (e1.symm.trans hp) e2 e3
    have hs64 : (elB d.cache x).b.length = 64 := by
      have hm : elB d.cache x ∈ d.cache := by rw [elB, List.getD_eq_getElem?_getD, List.getElem?_eq_getElem hxl]; exact List.getElem_mem hxl
      exact (HD.out.cd _ hm).1.2.2
    have hrb : readB d i = (elB d.cache x).b := by unfold readB readS; rw [hlast]; rfl
    have hd4 : r4 ≠ D := by have := (Array.getElem?_eq_some_iff.1 HR4'.out).1; omega
    have hd5 : r5 ≠ D := by have := (Array.getElem?_eq_some_iff.1 HR5'.out).1; omega
    have k4 := cell_of_row _ _ 0 _ _ _ ((World.putObj_heap_other (o := .deferred none) hd4).trans e4)
    have k5 := cell_of_row _ _ 0 _ _ _ ((World.putObj_heap_other (o := .deferred none) hd5).trans e5)
    simp at k4 k5
    rw [hs64] at k4 e6
    have hBF := belowK_b (Nat.le_refl W2.heap.size) W D _ (.deferred none) hD hK rfl rfl
    have HRB := Lib.hid hrb
    have HE6 := Lib.hid e6
    have HE7 := Lib.hid (e7.trans (hBF.mono HB2.out.size))
    have HOF : Hid (OB (W.putObj D (.deferred none)) w.heap.size 5 (.slice A 64 cc) (elB d.cache x).b) := Lib.hid (e6.kept (grownBy_putObj' W D (.deferred none)) (by
      cases hA : A with
      | none => exact .inl rfl
      | some ad =>
        right
        rw [hA] at e6
        intro e
        rcases e6.row.2 with ⟨q, _⟩ | ⟨g, cap, cur, q, _, hh, _⟩
        · cases q
        · simp only [Value.slice.injEq, Option.some.injEq] at q
          obtain ⟨q1, -, -⟩ := q
          subst q1
          have := Option.some.inj e
          simp only at this
          subst this
          rw [hK] at hh
          cases hh))
    clear e4 e5 e6 e7 hBF
    dsimp only
    gi_wp2
    refine ⟨by simp, .inl ⟨_, _, rfl, run_takeDeferred hK, ?_⟩⟩
    refine ⟨.tuple #[.slice A 64 cc, .int .i64 0], ?_, A, cc, rfl, by rw [HRB.out]; exact HOF.out, HE7.out⟩
    simp [results, Try.f31, go_sem, k4, k5]
end Go.Proofs.Ytdldclakkplliaa
