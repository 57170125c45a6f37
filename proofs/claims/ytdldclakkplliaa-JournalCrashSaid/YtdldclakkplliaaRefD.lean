/- The document's disk, and the walks of its Read and its Write. Conditions: none. -/
import Derived.Test.YtdldclakkplliaaUse
namespace Go.Proofs.Ytdldclakkplliaa
set_option linter.unusedVariables false
set_option linter.unusedSimpArgs false
open Go.RowKit

theorem bel_drewN {w W : World} (h : Below w.heap.size w W) (n : Nat) : Below w.heap.size w (W.drewN n) := ⟨h.os, h.tape, h.output, h.size, h.block⟩
/-! ### a row of sectors -/
def sval : Option Wr → Value
  | none => .slice none 0 0
  | some s => .slice s.A s.b.length s.c
def rowS (f : Nat → Option Wr) (n : Nat) : List Value := (List.range n).map fun j => sval (f j)
theorem rowS_length (f : Nat → Option Wr) (n : Nat) : (rowS f n).length = n := by simp [rowS]
theorem rowS_get (f : Nat → Option Wr) (n j : Nat) (h : j < n) : (rowS f n)[j]? = some (sval (f j)) := by simp [rowS, h]
theorem sval_one (o : Option Wr) : (sval o).oneCell' = true := by cases o <;> rfl
theorem rowS_one (f : Nat → Option Wr) (n : Nat) : ∀ u ∈ rowS f n, u.oneCell' = true := by
  intro u hu
  obtain ⟨j, _, rfl⟩ := List.mem_map.1 hu
  exact sval_one _
theorem rowS_none (n : Nat) : rowS (fun _ => none) n = List.replicate n (.slice none 0 0) := by
  unfold rowS
  rw [List.map_const', List.length_range]
  rfl
def updS (f : Nat → Option Wr) (j : Nat) (o : Option Wr) : Nat → Option Wr := fun i => if i = j then o else f i
theorem rowS_set (f : Nat → Option Wr) (n j : Nat) (o : Option Wr) : rowS (updS f j o) n = (rowS f n).set j (sval o) := by
  apply List.ext_getElem?
  intro i
  rw [List.getElem?_set]
  by_cases hi : i < n
  · rw [rowS_get _ _ _ hi, rowS_length]
    unfold updS
    by_cases e : i = j
    · subst e
      rw [if_pos rfl, if_pos rfl, if_pos hi]
    · rw [if_neg e, if_neg (fun h => e h.symm), rowS_get _ _ _ hi]
  · rw [List.getElem?_eq_none (by rw [rowS_length]; omega)]
    split
    · rw [rowS_length, if_neg (by omega)]
    · rw [List.getElem?_eq_none (by rw [rowS_length]; omega)]
theorem rowS_same (f g : Nat → Option Wr) (n : Nat) (h : ∀ j, j < n → f j = g j) : rowS f n = rowS g n := by
  apply List.ext_getElem?
  intro i
  by_cases hi : i < n
  · rw [rowS_get _ _ _ hi, rowS_get _ _ _ hi, h i hi]
  · rw [List.getElem?_eq_none (by rw [rowS_length]; omega), List.getElem?_eq_none (by rw [rowS_length]; omega)]
/-- A row of sectors of one's own: its form. -/
theorem own_FS {w : World} {base : Nat} {e : TypeId} {v : Value} {n : Nat} {f : Nat → Option Wr} (h : w.ownsRow base e 1 v n (rowS f n)) (hn : 1 ≤ n) :
    ∃ g c, v = .slice (some ⟨g, 0, none⟩) n c ∧ n ≤ c ∧ base ≤ g ∧ (∀ j, j < n → w.cell? ⟨g, j, none⟩ = some (sval (f j))) ∧ ∀ j, w.frozen? ⟨g, j, none⟩ = false := by
  have h0 := h
  rcases h.2 with ⟨_, h1⟩ | ⟨g, cap, cur, rfl, hb, hh, h1, h2, h3, h4⟩
  · omega
  · refine ⟨g, cap, rfl, h1, hb, fun j hj => ?_, fun j => World.ownsRow.frozenAt h0 j⟩
    rw [World.ownsRow.cellAt h0 j (by omega)]
    exact rowS_get f n j hj
theorem own_setS {w : World} {base : Nat} {e : TypeId} {g c n : Nat} {f : Nat → Option Wr} (h : w.ownsRow base e 1 (.slice (some ⟨g, 0, none⟩) n c) n (rowS f n)) (j : Nat) (o : Option Wr) :
    (w.setCell ⟨g, j, none⟩ (sval o)).ownsRow base e 1 (.slice (some ⟨g, 0, none⟩) n c) n (rowS (updS f j o) n) := by
  rw [rowS_set]
  exact (World.ownsRow.stored h j (sval o)).1

/-! ### the document's disk -/
structure RK where
  n : Nat
  safe : Nat → Option Wr
  cache : List Wr
  left : Int
  off : Bool
  ops : Int
def rcells (r : RK) (vs vc : Value) : Array Value := #[vs, vc, .int .i64 r.left, .bool r.off, .int .i64 r.ops]
structure RefV (w : World) (col : Nat → Nat) (id gm : Nat) (vs vc : Value) (r : RK) : Prop where
  hcol : col gm = id
  nz : id ≠ 0
  obj : w.heap[gm]? = some (.cells (rcells r vs vc) 104 (0, 0))
  so : w.ownsRow 0 22 1 vs r.n (rowS r.safe r.n)
  co : w.ownsRow 0 109 2 vc r.cache.length (rowW r.cache)
  sb : ∀ k, vs.ownBlock = some k → k ≠ gm ∧ col k = id
  cb : ∀ k, vc.ownBlock = some k → col k = 0
  sd : ∀ i s, r.safe i = some s → Sec w col s
  cd : ∀ s, s ∈ r.cache → Sec w col s ∧ 0 ≤ s.at_ ∧ s.at_ < r.n
  dom : 1 ≤ r.n ∧ r.n ≤ 65536
def RefAt (w : World) (col : Nat → Nat) (id gm : Nat) (r : RK) : Prop := ∃ vs vc, RefV w col id gm vs vc r
def RK.fits (r : RK) (a : Nat) : Prop := -1 ≤ r.left ∧ r.left ≤ 9223372036854775807 ∧ 0 ≤ r.ops ∧ r.ops ≤ a ∧ r.cache.length ≤ a
theorem RefV.lt {w : World} {col : Nat → Nat} {id gm : Nat} {vs vc : Value} {r : RK} (h : RefV w col id gm vs vc r) : gm < w.heap.size := (Array.getElem?_eq_some_iff.1 h.obj).1
theorem RefV.step {w w' : World} {col col' : Nat → Nat} {id gm j : Nat} {vs vc : Value} {r : RK} (h : RefV w col id gm vs vc r) (s : Step j w col w' col') (hj : j ≠ id) (hz : j ≠ 0) : RefV w' col' id gm vs vc r := by
  have hg := h.lt
  refine ⟨(s.same gm hg).trans h.hcol, h.nz, ?_, own_keep h.so fun k hk => s.keeps.block k (h.so.lt k hk).2 (fun e => hj (e.symm.trans (h.sb k hk).2)), own_keep h.co fun k hk => s.keeps.block k (h.co.lt k hk).2 (fun e => hz (e.symm.trans (h.cb k hk))),
    fun k hk => ⟨(h.sb k hk).1, (s.same k (h.so.lt k hk).2).trans (h.sb k hk).2⟩, fun k hk => (s.same k (h.co.lt k hk).2).trans (h.cb k hk), fun i q hq => (h.sd i q hq).step s hz, fun q hq => ⟨(h.cd q hq).1.step s hz, (h.cd q hq).2⟩, h.dom⟩
  rw [s.keeps.block gm hg (fun e => hj (e.symm.trans h.hcol))]
  exact h.obj
theorem Sec.recol {w : World} {col col' : Nat → Nat} {s : Wr} (h : Sec w col s) (hs : ∀ k, k < w.heap.size → col' k = col k) : Sec w col' s := ⟨h.1, h.2.1.recol hs, h.2.2⟩
theorem Sec.below {w w' : World} {col : Nat → Nat} {s : Wr} (h : Sec w col s) (hb : Below w.heap.size w w') : Sec w' col s := ⟨h.1, h.2.1.below hb, h.2.2⟩
theorem RefV.recol {w : World} {col col' : Nat → Nat} {id gm : Nat} {vs vc : Value} {r : RK} (h : RefV w col id gm vs vc r) (hs : ∀ k, k < w.heap.size → col' k = col k) : RefV w col' id gm vs vc r :=
  ⟨(hs gm h.lt).trans h.hcol, h.nz, h.obj, h.so, h.co, fun k hk => ⟨(h.sb k hk).1, (hs k (h.so.lt k hk).2).trans (h.sb k hk).2⟩, fun k hk => (hs k (h.co.lt k hk).2).trans (h.cb k hk), fun i q hq => (h.sd i q hq).recol hs, fun q hq => ⟨(h.cd q hq).1.recol hs, (h.cd q hq).2⟩, h.dom⟩
theorem RefV.below {w w' : World} {col : Nat → Nat} {id gm : Nat} {vs vc : Value} {r : RK} (h : RefV w col id gm vs vc r) (hb : Below w.heap.size w w') : RefV w' col id gm vs vc r :=
  ⟨h.hcol, h.nz, heap_below h.obj hb, own_keep h.so fun k hk => hb.block k (h.so.lt k hk).2, own_keep h.co fun k hk => hb.block k (h.co.lt k hk).2, h.sb, h.cb, fun i q hq => (h.sd i q hq).below hb, fun q hq => ⟨(h.cd q hq).1.below hb, (h.cd q hq).2⟩, h.dom⟩
theorem RefV.grow {w w' : World} {col : Nat → Nat} {id gm : Nat} {vs vc : Value} {r : RK} (h : RefV w col id gm vs vc r) (hb : Below w.heap.size w w') (new : Nat → Nat) : RefV w' (paint w col new) id gm vs vc r :=
  (h.recol (fun k hk => paint_old hk)).below hb
theorem RefAt.step {w w' : World} {col col' : Nat → Nat} {id gm j : Nat} {r : RK} (h : RefAt w col id gm r) (s : Step j w col w' col') (hj : j ≠ id) (hz : j ≠ 0) : RefAt w' col' id gm r := ⟨_, _, h.choose_spec.choose_spec.step s hj hz⟩
theorem RefAt.below {w w' : World} {col : Nat → Nat} {id gm : Nat} {r : RK} (h : RefAt w col id gm r) (hb : Below w.heap.size w w') : RefAt w' col id gm r := ⟨_, _, h.choose_spec.choose_spec.below hb⟩
theorem RefAt.grow {w w' : World} {col : Nat → Nat} {id gm : Nat} {r : RK} (h : RefAt w col id gm r) (hb : Below w.heap.size w w') (new : Nat → Nat) : RefAt w' (paint w col new) id gm r := ⟨_, _, h.choose_spec.choose_spec.grow hb new⟩
/-- Its own cells alone have turned. -/
theorem RefV.put {w w' : World} {col : Nat → Nat} {id gm : Nat} {vs vc : Value} {r r' : RK} (h : RefV w col id gm vs vc r) (hk : Keeps (fun k => k = gm) w w') (hg : w'.heap[gm]? = some (.cells (rcells r' vs vc) 104 (0, 0)))
    (e1 : r'.n = r.n) (e2 : r'.safe = r.safe) (e3 : r'.cache = r.cache) : Step id w col w' col ∧ RefV w' col id gm vs vc r' := by
  have st : Step id w col w' col := ⟨hk.mono fun k _ e => e ▸ h.hcol, fun _ _ => rfl⟩
  have hr : ∀ s, Sec w col s → Sec w' col s := fun s hs => hs.step st h.nz
  refine ⟨st, ⟨h.hcol, h.nz, hg, ?_, ?_, h.sb, h.cb, fun i s hs => hr s (h.sd i s (by rw [← e2]; exact hs)), fun s hs => ?_, by rw [e1]; exact h.dom⟩⟩
  · rw [e1, e2]; exact own_keep h.so fun k hk2 => hk.block k (h.so.lt k hk2).2 (h.sb k hk2).1
  · rw [e3]; exact own_keep h.co fun k hk2 => hk.block k (h.co.lt k hk2).2 (fun e => h.nz (by rw [← h.hcol, ← e]; exact h.cb k hk2))
  · rw [e3] at hs; rw [e1]; exact ⟨hr s (h.cd s hs).1, (h.cd s hs).2⟩

/-! ### act -/
def ractK (r : RK) : RK × Int := if (r.off || r.left == 0) = true then ({ r with ops := r.ops + 1, off := true }, 7) else ({ r with ops := r.ops + 1, left := if 0 < r.left then r.left - 1 else r.left }, 0)
theorem act_walk (gm : Nat) (vs vc : Value) (r : RK) (a : Nat) (w : World) (hg : w.heap[gm]? = some (.cells (rcells r vs vc) 104 (0, 0))) (hf : r.fits a) (ha : a ≤ 1000000000) :
    Calls Try.prog 75 #[.pointer (some ⟨gm, 0, none⟩)] w fun e w' => e = .returned (.int .i64 (ractK r).2) ∧ Keeps (fun k => k = gm) w w' ∧ w'.heap[gm]? = some (.cells (rcells (ractK r).1 vs vc) 104 (0, 0)) := by
  obtain ⟨n, safe, cache, left, off, ops⟩ := r
  obtain ⟨f1, f2, f3, f4, -⟩ := hf
  simp only at f1 f2 f3 f4
  simp only [rcells] at hg
  have c2 : w.cell? ⟨gm, 2, none⟩ = some (.int .i64 left) := by rw [cell_of_row _ _ 2 _ _ _ hg]; rfl
  have c3 : w.cell? ⟨gm, 3, none⟩ = some (.bool off) := by rw [cell_of_row _ _ 3 _ _ _ hg]; rfl
  have c4 : w.cell? ⟨gm, 4, none⟩ = some (.int .i64 ops) := by rw [cell_of_row _ _ 4 _ _ _ hg]; rfl
  have z4 := frozen_of_row _ _ 4 _ _ hg
  have hw6 : wrap64 (ops + 1) = ops + 1 := by unfold wrap64; omega
  have hw5 : wrap64 (left - 1) = left - 1 := by unfold wrap64; omega
  have h1 := row_set (j := 4) (.int .i64 (ops + 1)) hg
  have d2 : (w.setCell ⟨gm, 4, none⟩ (.int .i64 (ops + 1))).cell? ⟨gm, 2, none⟩ = some (.int .i64 left) := by rw [cell_of_row _ _ 2 _ _ _ h1]; rfl
  have d3 : (w.setCell ⟨gm, 4, none⟩ (.int .i64 (ops + 1))).cell? ⟨gm, 3, none⟩ = some (.bool off) := by rw [cell_of_row _ _ 3 _ _ _ h1]; rfl
  have y3 := frozen_of_row _ _ 3 _ _ h1
  have y2 := frozen_of_row _ _ 2 _ _ h1
  have h2 := row_set (j := 3) (.bool true) h1
  have h3 := row_set (j := 2) (.int .i64 (left - 1)) h1
  have hk1 := keeps_set (j := 4) (u := .int .i64 (ops + 1)) (Keeps.refl (fun k => k = gm) w) rfl
  have HK1 := Lib.hid hk1
  have HK2 := Lib.hid (keeps_set (j := 3) (u := .bool true) hk1 rfl)
  have HK3 := Lib.hid (keeps_set (j := 2) (u := .int .i64 (left - 1)) hk1 rfl)
  have H1 := Lib.hid h1
  have H2 := Lib.hid h2
  have H3 := Lib.hid h3
  clear h1 h2 h3 hg hk1
  cases off with
  | true =>
    go_enter Try.func75, Try.ntmps75
    go_wp2
    go_ret
    exact ⟨rfl, HK2.out, H2.out⟩
  | false =>
    by_cases hl : left = 0
    · subst hl
      go_enter Try.func75, Try.ntmps75
      go_wp2
      go_ret
      exact ⟨rfl, HK2.out, H2.out⟩
    · have hlb : (left == 0) = false := by simp [hl]
      by_cases hp : 0 < left
      · have HA : Hid (ractK { n := n, safe := safe, cache := cache, left := left, off := false, ops := ops } = ({ n := n, safe := safe, cache := cache, left := left - 1, off := false, ops := ops + 1 }, 0)) := Lib.hid (by simp [ractK, hl, hp])
        rw [HA.out]
        go_enter Try.func75, Try.ntmps75
        go_wp2
        go_ret
        exact ⟨rfl, HK3.out, H3.out⟩
      · have HA : Hid (ractK { n := n, safe := safe, cache := cache, left := left, off := false, ops := ops } = ({ n := n, safe := safe, cache := cache, left := left, off := false, ops := ops + 1 }, 0)) := Lib.hid (by simp [ractK, hl, hp])
        rw [HA.out]
        go_enter Try.func75, Try.ntmps75
        go_wp2
        go_ret
        exact ⟨rfl, HK1.out, H1.out⟩
theorem ract_same (r : RK) : (ractK r).1.n = r.n ∧ (ractK r).1.safe = r.safe ∧ (ractK r).1.cache = r.cache := by unfold ractK; split <;> exact ⟨rfl, rfl, rfl⟩
theorem act_any (id gm : Nat) (vs vc : Value) (r : RK) (a : Nat) (w : World) (col : Nat → Nat) (h : RefV w col id gm vs vc r) (hf : r.fits a) (ha : a ≤ 1000000000) :
    Calls Try.prog 75 #[.pointer (some ⟨gm, 0, none⟩)] w fun e w' => e = .returned (.int .i64 (ractK r).2) ∧ Step id w col w' col ∧ RefV w' col id gm vs vc (ractK r).1 := by
  refine (act_walk gm vs vc r a w h.obj hf ha).mono ?_
  rintro e w' ⟨rfl, hk, hg⟩
  obtain ⟨st, hd⟩ := h.put hk hg (ract_same r).1 (ract_same r).2.1 (ract_same r).2.2
  exact ⟨rfl, st, hd⟩

/-! ### Cut -/
def rcutK (r : RK) (n : Int) : RK := { r with left := max n 0 }
theorem rcut_any (id gm : Nat) (vs vc : Value) (r : RK) (n : Int) (w : World) (col : Nat → Nat) (h : RefV w col id gm vs vc r) :
    Calls Try.prog 64 #[.pointer (some ⟨gm, 0, none⟩), .int .i64 n] w fun e w' => e = .returned (.tuple #[]) ∧ Step id w col w' col ∧ RefV w' col id gm vs vc (rcutK r n) := by
  have hg := h.obj
  have z2 := frozen_of_row _ _ 2 _ _ hg
  have c2 : w.cell? ⟨gm, 2, none⟩ = some (.int .i64 r.left) := by rw [cell_of_row _ _ 2 _ _ _ hg]; rfl
  have HP := Lib.hid (fun x : Int => RefV.put (r' := { r with left := x }) h (keeps_set (j := 2) (u := .int .i64 x) (Keeps.refl (fun k => k = gm) w) rfl) (by have := row_set (j := 2) (.int .i64 x) hg; exact this) rfl rfl rfl)
  clear h hg
  go_enter Try.func64, Try.ntmps64
  go_wp2
  go_end0
  exact ⟨rfl, HP.out (max n 0)⟩

/-! ### pick, round -/
theorem rround_any (k n : Int) (w : World) (h1 : -9223372036854775808 ≤ k) (h2 : k ≤ 9223372036854775807) (hn : 0 < n) (hn2 : n ≤ 4611686018427387904) :
    Calls Try.prog 67 #[.int .i64 k, .int .i64 n] w fun e w' => e = .returned (.int .i64 (k % n)) ∧ w = w' := by
  go_enter Try.func67, Try.ntmps67
  go_wp2
  · rename_i h
    go_ret
    have hb := Int.tmod_lt_of_pos k hn
    have hr := tmod_round k n hn
    have h1 := Int.emod_nonneg k (by omega : n ≠ 0)
    have h2 := Int.emod_lt_of_pos k hn
    exact ⟨ret_int (by rw [hr.1 h]; unfold wrap64; omega), rfl⟩
  · rename_i h
    go_ret
    have hr := tmod_round k n hn
    exact ⟨ret_int (hr.2 (by omega)), rfl⟩
theorem rpick_any (A : Option Addr) (c : Nat) (ps : List Int) (k : Nat) (w : World) (hr : RI w A ps) (hk : k ≤ 1000) :
    Calls Try.prog 66 #[.slice A ps.length c, .int .i64 k] w fun e w' => e = .returned (.int .i64 (pickK ps k)) ∧ w = w' := by
  by_cases hl : k < ps.length
  · obtain ⟨ad, rfl, hc⟩ := hr.at_ k hl
    obtain ⟨x, hx⟩ : ∃ x, x = ps.getD k 0 := ⟨_, rfl⟩
    rw [← hx] at hc
    have HX := Lib.hid hx
    clear hr hx
    go_enter Try.func66, Try.ntmps66
    go_wp2
    go_ret
    exact ⟨ret_int (by rw [HX.out]; rfl), rfl⟩
  · have HX : Hid (pickK ps k = 0) := Lib.hid (by unfold pickK; rw [List.getD_eq_getElem?_getD, List.getElem?_eq_none (by omega)]; rfl)
    clear hr
    go_enter Try.func66, Try.ntmps66
    go_wp2
    go_ret
    exact ⟨ret_int (by rw [HX.out]), rfl⟩

/-! ### New -/
def newRK (n : Nat) : RK := ⟨n, fun _ => none, [], -1, false, 0⟩
theorem wp_make_rows {P : Program} {w : World} {ops : Array Oper} {rest : List Oper} {o : Oper} {a : Act} {Q : Exit → Act → World → Prop} (hgd : o.guard = none) (l c : Operand) (t e : TypeId) (hop : o.op = Op.makeSlice t l c)
    (ht : P.underlying t = some (.slice e)) (hinfo : (P.info? e).map (fun i => (i.zero, i.size, i.bytes)) = some (some (.slice none 0 0), 1, 24)) (kl kc : IntKind) (n : Nat) (hl : a.eval l = .int kl (n : Int)) (hc : a.eval c = .int kc (n : Int)) (hn : n ≤ 1000000)
    (h : ∀ w', w'.ownsRow w.heap.size e 1 (.slice (some ⟨w.heap.size, 0, none⟩) n n) n (List.replicate n (.slice none 0 0)) → Below w.heap.size w w' → wpList P ops Q rest (a.put o.dst (.slice (some ⟨w.heap.size, 0, none⟩) n n)) w') : wpList P ops Q (o :: rest) a w := by
  obtain ⟨i, hi, hz⟩ := Option.map_eq_some_iff.1 hinfo
  simp only [Prod.mk.injEq] at hz
  obtain ⟨hz0, hz1, hz2⟩ := hz
  refine wpList_make_full w hgd l c t hop w.heap.size e i (.slice none 0 0) 1 ht hi hz0 hz1 kl kc n n n hl hc rfl rfl (by rw [hz2]; omega) (by unfold maxLen; omega) (Nat.le_refl _) fun w' ho hg => h w' ?_ (below_of_grown hg)
  have e1 : (madeCells (Value.slice none 0 0).cells (n * 1)).toList = List.replicate n (.slice none 0 0) := by
    rw [Nat.mul_one]
    exact toList_madeCells_one (.slice none 0 0) n
  rw [e1] at ho
  exact ho
theorem info22 : (Try.prog.info? 22).map (fun i => (i.zero, i.size, i.bytes)) = some (some (.slice none 0 0), 1, 24) := by kernel_rfl
def RNewQ (id n : Nat) (w : World) (col : Nat → Nat) (e : Ending) (w' : World) : Prop :=
  ∃ gm col', e = .returned (.tuple #[.pointer (some ⟨gm, 0, none⟩), .int .i64 0]) ∧ Step id w col w' col' ∧ RefAt w' col' id gm (newRK n)
theorem rnew_any (id n : Nat) (hid : id ≠ 0) (w : World) (col : Nat → Nat) (h : 1 ≤ n ∧ n ≤ 65536) : Calls Try.prog 34 #[.int .i64 n] w (RNewQ id n w col) := by
  obtain ⟨h1, h2⟩ := h
  have hz1 : decide ((n : Int) < 1) = false := by simp; omega
  have hz2 : decide ((65536 : Int) < (n : Int)) = false := by simp; omega
  go_enter Try.func34, Try.ntmps34
  go_wp2_with (first | (at_make; go_loud (refine wp_make_rows rfl _ _ 23 22 rfl Try.underlying23 info22 _ _ n rfl rfl (by omega) ?_); intro w1 ho hb; have HO := Lib.hid ho; have HB := Lib.hid hb; clear ho hb) | fail)
  go_ret2
  have hb1 := bel_alloc HB.out (.cells #[.slice (some ⟨w.heap.size, 0, none⟩) n n, .slice none 0 0, .int .i64 (-1), .bool false, .int .i64 0] 104)
  have hs := (Step.refl id w col).grow hb1 (fun _ => id)
  have hlt := (HO.out.lt w.heap.size rfl).2
  refine ⟨_, _, rfl, hs, .slice (some ⟨w.heap.size, 0, none⟩) n n, .slice none 0 0, ⟨paint_new HB.out.size, hid, heap_alloc_new w1 _, ?_, World.ownsRow_nil _ 0 109 2, fun k hk => ?_, fun k hk => by simp [Value.ownBlock] at hk, fun i s hs => (by cases hs), fun s hs => (by cases hs), ⟨h1, h2⟩⟩⟩
  · show World.ownsRow _ 0 22 1 _ n (rowS (fun _ => none) n)
    rw [rowS_none]
    exact own_mono (own_keep HO.out fun k hk => Below.heap_alloc _ _ _ (HO.out.lt k hk).2) (Nat.zero_le _)
  · cases hk
    exact ⟨by show w.heap.size ≠ w1.heap.size; omega, paint_new (Nat.le_refl _)⟩
theorem rnew_bad (n : Int) (w : World) (h : n < 1 ∨ 65536 < n) : Calls Try.prog 34 #[.int .i64 n] w fun e w' => e = .returned (.tuple #[.pointer none, .int .i64 1]) ∧ w = w' := by
  by_cases h1 : n < 1
  · go_enter Try.func34, Try.ntmps34
    go_wp2
    go_ret2
    exact ⟨rfl, rfl⟩
  · have h2 : 65536 < n := by omega
    clear h
    go_enter Try.func34, Try.ntmps34
    go_wp2
    go_ret2
    exact ⟨rfl, rfl⟩
def rreadS (r : RK) (k : Nat) : Option Wr := (lastW r.cache (k : Int)).or (r.safe k)
def rreadB (r : RK) (k : Nat) : List UInt8 := secB (rreadS r k)
theorem lastW_add (ws : List Wr) (s : Wr) (i : Int) : lastW (ws ++ [s]) i = if s.at_ = i then some s else lastW ws i := by
  unfold lastW
  rw [List.reverse_append, List.reverse_singleton, List.singleton_append, List.find?_cons]
  by_cases h : s.at_ = i
  · rw [if_pos h]; simp [h]
  · rw [if_neg h]
    have : (s.at_ == i) = false := by simp [h]
    rw [this]
theorem lastW_take (ws : List Wr) (j : Nat) (s : Wr) (i : Int) (h : ws[j]? = some s) : lastW (ws.take (j + 1)) i = if s.at_ = i then some s else lastW (ws.take j) i := by
  rw [List.take_add_one, h]
  exact lastW_add _ _ _
theorem lastW_mem {ws : List Wr} {i : Int} {s : Wr} (h : lastW ws i = some s) : s ∈ ws := by
  have := List.mem_of_find?_eq_some h
  simpa using this

set_option maxRecDepth 100000 in
set_option maxHeartbeats 4000000 in
theorem rread_walk (id gm : Nat) (vs vc : Value) (r : RK) (k : Nat) (w : World) (col : Nat → Nat) (h : RefV w col id gm vs vc r) (hk : k < r.n) (hcl : r.cache.length ≤ 1000000) :
    Calls Try.prog 65 #[.pointer (some ⟨gm, 0, none⟩), .int .i64 (k : Int)] w fun e w' => ∃ A c, e = .returned (.tuple #[.slice A 64 c, .int .i64 0]) ∧ SV A 64 c ∧ RB w' A (rreadB r k) ∧ Below w.heap.size w w' := by
  obtain ⟨gs, cs, rfl, hcs, -, hs, -⟩ := own_FS h.so h.dom.1
  obtain ⟨AC, cc, rfl, hfw⟩ := own_FW h.co
  have c0 : w.cell? ⟨gm, 0, none⟩ = some (.slice (some ⟨gs, 0, none⟩) r.n cs) := by rw [cell_of_row _ _ 0 _ _ _ h.obj]; rfl
  have c1 : w.cell? ⟨gm, 1, none⟩ = some (.slice AC r.cache.length cc) := by rw [cell_of_row _ _ 1 _ _ _ h.obj]; rfl
  have c2 := hs k hk
  obtain ⟨m, hm⟩ : ∃ m, m = r.cache.length := ⟨_, rfl⟩
  have hdom := h.dom
  have HSEC : Hid (∀ s, rreadS r k = some s → Sec w col s) := Lib.hid (fun s hs => by
    unfold rreadS at hs
    cases hl : lastW r.cache (k : Int) with
    | none => rw [hl, Option.none_or] at hs; exact h.sd k s hs
    | some t => rw [hl, Option.some_or] at hs; cases hs; exact (h.cd _ (lastW_mem hl)).1)
  have HFW := Lib.hid hfw
  obtain ⟨n, hn⟩ : ∃ n, n = r.n := ⟨_, rfl⟩
  rw [← hn] at c0 hk hdom
  rw [← hm] at c1 hcl
  have HM := Lib.hid hm
  obtain ⟨s0, hs0⟩ : ∃ s, s = r.safe k := ⟨_, rfl⟩
  rw [← hs0] at c2
  have HS0 := Lib.hid hs0
  clear h hs hfw hm hcs hn hs0
  go_enter Try.func65, Try.ntmps65
  go_wp2
  go_loopw [6, 7] (fun u6 u7 w' => ∃ j : Nat, j ≤ m ∧ u7 = .int .i64 j ∧ w' = w ∧ u6 = sval ((lastW (r.cache.take j) (k : Int)).or s0)) (fun _ u7 _ => m - (intOf u7).toNat)
  case atStart => exact ⟨0, by omega, rfl, rfl, rfl⟩
  case round =>
    obtain ⟨j, hj, rfl, rfl, rfl⟩ := hrel
    by_cases hlt : j < m
    · obtain ⟨s, hs⟩ : ∃ s, r.cache[j]? = some s := ⟨_, List.getElem?_eq_getElem (by rw [← HM.out]; exact hlt)⟩
      obtain ⟨gc, rfl, x0, x1⟩ := HFW.out.at_ j s hs
      have HL := Lib.hid (lastW_take r.cache j s (k : Int) hs)
      clear hs
      by_cases he : s.at_ = (k : Int)
      · have HE := Lib.hid he
        rw [he] at x0
        clear he
        go_wp2
        go_roundw
        case rel => exact ⟨j + 1, by omega, by go_num, trivial, by rw [HL.out, if_pos HE.out]; rfl⟩
        case measure => simp [intOf]; omega
      · have heb : (s.at_ == (k : Int)) = false := by simp [he]
        have HE := Lib.hid he
        clear he
        go_wp2
        go_roundw
        case rel => exact ⟨j + 1, by omega, by go_num, trivial, by rw [HL.out, if_neg HE.out]⟩
        case measure => simp [intOf]; omega
    · obtain rfl : j = m := by omega
      have hte : r.cache.take j = r.cache := by rw [HM.out]; exact List.take_length
      obtain ⟨o, ho⟩ : ∃ o, o = (lastW (r.cache.take j) (k : Int)).or s0 := ⟨_, rfl⟩
      have HO : Hid (rreadS r k = o) := Lib.hid (by unfold rreadS; rw [ho, hte, HS0.out])
      rw [← ho]
      clear hte ho
      cases o with
      | none =>
        rw [show sval none = .slice none 0 0 from rfl]
        have hnil : ∀ w : World, (binOp .eql 22 (.slice none 0 0) (.slice none 0 0)).run Try.prog w = .ok (.bool true) w := fun _ => rfl
        go_wp2_with (first | (at_make; go_loud (refine wp_make rfl _ _ 22 5 rfl Try.underlying22 info5 _ _ 64 rfl rfl (by omega) ?_); intro w1 ho hb; have HO1 := Lib.hid ho; have HB := Lib.hid hb; clear ho hb) | fail)
        go_ret2
        obtain ⟨A1, k1, e1, sv1, rb1⟩ := HO1.out.reads
        rw [List.length_replicate] at e1 sv1
        cases e1
        refine ⟨_, _, rfl, sv1, ?_, HB.out⟩
        unfold rreadB
        rw [HO.out]
        exact rb1
      | some s =>
        have hsec := HSEC.out s HO.out
        obtain ⟨ad, hA⟩ : ∃ ad, s.A = some ad := by
          cases e : s.A with
          | none => have h1 := hsec.1.2 e; have h2 := hsec.1.1; have h3 := hsec.2.2; omega
          | some ad => exact ⟨ad, rfl⟩
        have HSS := Lib.hid hsec
        have hsl := hsec.2.2
        rw [show sval (some s) = .slice (some ad) 64 s.c by show Value.slice s.A s.b.length s.c = _; rw [hA, hsl]]
        have HA := Lib.hid hA
        have hnil : ∀ w : World, (binOp .eql 22 (.slice (some ad) 64 s.c) (.slice none 0 0)).run Try.prog w = .ok (.bool false) w := fun _ => rfl
        clear hsec hA hsl
        go_wp2
        go_ret2
        refine ⟨_, _, rfl, by rw [← HSS.out.2.2, ← HA.out]; exact HSS.out.1, ?_, Below.refl _ _⟩
        unfold rreadB
        rw [HO.out, ← HA.out]
        exact HSS.out.2.1.read
theorem rread_bad (id gm : Nat) (vs vc : Value) (r : RK) (i : Int) (w : World) (col : Nat → Nat) (h : RefV w col id gm vs vc r) (hi : i < 0 ∨ r.n ≤ i) :
    Calls Try.prog 65 #[.pointer (some ⟨gm, 0, none⟩), .int .i64 i] w fun e w' => e = .returned (.tuple #[.slice none 0 0, .int .i64 1]) ∧ w = w' := by
  obtain ⟨gs, cs, rfl, hcs, -, hs, -⟩ := own_FS h.so h.dom.1
  have c0 : w.cell? ⟨gm, 0, none⟩ = some (.slice (some ⟨gs, 0, none⟩) r.n cs) := by rw [cell_of_row _ _ 0 _ _ _ h.obj]; rfl
  clear h hs
  by_cases h1 : i < 0
  · clear hi
    go_enter Try.func65, Try.ntmps65
    go_wp2
    go_ret2
    exact ⟨rfl, rfl⟩
  · have h2 : (r.n : Int) ≤ i := by omega
    clear hi
    go_enter Try.func65, Try.ntmps65
    go_wp2
    go_ret2
    exact ⟨rfl, rfl⟩
theorem info109 : ∃ z, (Try.prog.info? 109).map (fun i => (i.zero, i.size, i.bytes)) = some (some z, 2, 32) ∧ z.cells.size = 2 := ⟨.agg #[.int .i64 0, .slice none 0 0], by kernel_rfl, by rfl⟩
theorem own_news {w : World} {base : Nat} {e : TypeId} {size n c : Nat} {A : Option Addr} {xs : List Value} (h : w.ownsRow base e size (.slice A n c) n xs) :
    (A = none → c = 0) ∧ (0 < n → ∃ ad, A = some ad ∧ ∀ X : World, (∀ k, A = some ⟨k, 0, none⟩ → X.heap[k]? = w.heap[k]?) → ∀ (j : Nat) (u : Value), xs[j]? = some u → X.cell? (ad.add j) = some u) := by
  have h0 := h
  rcases h.2 with ⟨e1, h1⟩ | ⟨g, cap, cur, e1, hb, hh, h1, h2, h3, h4⟩
  · cases e1
    exact ⟨fun _ => rfl, fun hp => by omega⟩
  · cases e1
    refine ⟨fun e => (by cases e), fun _ => ⟨_, rfl, fun X hX j u hu => ?_⟩⟩
    have hj := (List.getElem?_eq_some_iff.1 hu).1
    rw [h.1] at hj
    rw [add0, World.cell?_of_block (w := w) (a := ⟨g, j, none⟩) (hX g rfl), World.ownsRow.cellAt h0 j hj]
    exact hu

theorem app_keep {W2 W3 : World} {v1 : Value} {n size base : Nat} {e : TypeId} {xs : List Value} {o : Obj} (h : W2.ownsRow base e size v1 n xs) {c m : Nat} (hg : (W2.alloc o).grownBy W3 (Value.ownBlock (.slice (some ⟨W2.heap.size, 0, none⟩) m c))) : W3.ownsRow base e size v1 n xs := by
  refine own_keep h fun k hk => ?_
  have h1 := (h.lt k hk).2
  refine (hg.block k ?_ ?_).trans (Below.heap_alloc _ _ _ h1)
  · have : (W2.alloc o).heap.size = W2.heap.size + 1 := Array.size_push ..
    omega
  · intro e
    cases e
    exact absurd h1 (Nat.lt_irrefl _)

theorem app_new {w W2 W3 : World} {v2 : Value} {b : List UInt8} {o : Obj} {m c : Nat} (hB : Below w.heap.size w W2) (ho : OB W3 W2.heap.size 5 v2 b) (hg : (W2.alloc o).grownBy W3 (Value.ownBlock (.slice (some ⟨W2.heap.size, 0, none⟩) m c))) (hb : b.length = 64) :
    ∃ A2 c2, v2 = .slice A2 64 c2 ∧ SV A2 64 c2 ∧ RB W3 A2 b ∧ (∀ ad, A2 = some ad → W2.heap.size ≤ ad.block) ∧ Below w.heap.size w W3 := by
  obtain ⟨A2, c2, e2, sv2, rb2⟩ := ho.reads
  rw [hb] at e2 sv2
  refine ⟨A2, c2, e2, sv2, rb2, fun ad e => ho.base_ ad.block (by rw [e2, e]; rfl), bel_grown (bel_alloc hB o) hg fun k e => ?_⟩
  cases e
  exact hB.size

theorem app_last {w W2 W3 W5 : World} {v1 v3 : Value} {m : Nat} {cache : List Wr} {at' : Int} {A2 : Option Addr} {c2 : Nat} {b : List UInt8} {o : Obj} (hm : m = cache.length) (hB : Below w.heap.size w W3) (h2 : W2.ownsRow w.heap.size 109 2 v1 m (rowW cache)) (ho : W5.ownsRow w.heap.size 109 2 v3 (m + 1) (rowW cache ++ [.int .i64 at', .slice A2 64 c2]))
    (hg : (W3.alloc o).grownBy W5 v1.ownBlock) (hb : b.length = 64) (hr : RB W3 A2 b) (hab : ∀ ad, A2 = some ad → W2.heap.size ≤ ad.block) :
    ∃ A3 c3, v3 = .slice A3 (m + 1) c3 ∧ Below w.heap.size w W5 ∧ W5.ownsRow w.heap.size 109 2 (.slice A3 (m + 1) c3) (cache.length + 1) (rowW (cache ++ [⟨at', b, A2, c2⟩])) ∧ RB W5 A2 b := by
  have e1 : rowW cache ++ [.int .i64 at', .slice A2 64 c2] = rowW (cache ++ [⟨at', b, A2, c2⟩]) := by
    rw [rowW_append]
    show _ = rowW cache ++ [.int .i64 at', .slice A2 b.length c2]
    rw [hb]
  rw [e1] at ho
  have e2 : m + 1 = (cache ++ [(⟨at', b, A2, c2⟩ : Wr)]).length := by rw [List.length_append, hm]; rfl
  have ho' := ho
  rw [e2] at ho'
  obtain ⟨A3, c3, e3, -⟩ := own_FW ho'
  rw [← e2] at e3
  refine ⟨A3, c3, e3, bel_grown (bel_alloc hB o) hg (fun k e => (h2.lt k e).1), by rw [← hm, ← e3]; exact ho, RB.keep hr fun hp ad e => ?_⟩
  have h1 := hr.lt hp ad e
  have h3 := hab ad e
  refine (hg.block _ ?_ ?_).trans (Below.heap_alloc _ _ _ h1)
  · have : (W3.alloc o).heap.size = W3.heap.size + 1 := Array.size_push ..
    omega
  · intro e4
    have := (h2.lt _ e4.symm).2
    omega

/-- What a write answers. -/
def rwriteE (r : RK) (at' : Int) (len : Nat) : Int := if (ractK r).2 ≠ 0 then (ractK r).2 else if at' < 0 ∨ (r.n : Int) ≤ at' ∨ len ≠ 64 then 1 else 0
def rwriteD (r : RK) (s : Wr) : RK := if rwriteE r s.at_ s.b.length = 0 then { (ractK r).1 with cache := r.cache ++ [s] } else (ractK r).1
theorem ract_e (r : RK) : (ractK r).2 = 0 ∨ (ractK r).2 = 7 := by unfold ractK; split <;> simp

theorem ref_add {w Y : World} {col : Nat → Nat} {id gm : Nat} {vs vc v1 : Value} {r : RK} {s : Wr} (h : RefV w col id gm vs vc r) (hk : Keeps (fun k => k = gm) w Y) (hg : Y.heap[gm]? = some (.cells (rcells r vs v1) 104 (0, 0)))
    (ho : Y.ownsRow w.heap.size 109 2 v1 (r.cache.length + 1) (rowW (r.cache ++ [s]))) (hs : SV s.A s.b.length s.c) (hrb : RB Y s.A s.b) (hlen : s.b.length = 64) (hap : ∀ ad, s.A = some ad → w.heap.size ≤ ad.block) (hat : 0 ≤ s.at_ ∧ s.at_ < r.n) :
    ∃ col', Step id w col Y col' ∧ RefV Y col' id gm vs v1 { r with cache := r.cache ++ [s] } := by
  have st : Step id w col Y (paint w col (fun _ => 0)) := Step.mk' (hk.mono fun k _ e => e ▸ h.hcol)
  have hgl := h.lt
  refine ⟨_, st, ⟨(paint_old hgl).trans h.hcol, h.nz, hg, own_keep h.so fun k hk2 => hk.block k (h.so.lt k hk2).2 (h.sb k hk2).1, ?_, fun k hk2 => ⟨(h.sb k hk2).1, (paint_old (h.so.lt k hk2).2).trans (h.sb k hk2).2⟩, fun k hk2 => paint_new (ho.lt k hk2).1, fun i q hq => (h.sd i q hq).step st h.nz, fun q hq => ?_, h.dom⟩⟩
  · rw [List.length_append]; exact own_mono ho (Nat.zero_le _)
  · rcases List.mem_append.1 hq with hq | hq
    · exact ⟨(h.cd q hq).1.step st h.nz, (h.cd q hq).2⟩
    · rw [List.mem_singleton] at hq
      subst hq
      exact ⟨⟨hs, ⟨hrb, fun hp ad e => paint_new (hap ad e)⟩, hlen⟩, hat⟩

set_option maxRecDepth 100000 in
set_option maxHeartbeats 4000000 in
theorem rwrite_good (id gm : Nat) (vs vc : Value) (r0 : RK) (n : Nat) (at' : Int) (A : Option Addr) (c cl : Nat) (b : List UInt8) (w0 : World) (col : Nat → Nat) (h : RefV w0 col id gm vs vc r0) (hf : r0.fits n) (hn : n ≤ 1000000) (he : (ractK r0).2 = 0) (hr : RC w0 col cl A b) (hcl : cl ≠ id) (hsv : SV A 64 c) (hat : 0 ≤ at' ∧ at' < r0.n) (hb : b.length = 64) :
    Calls Try.prog 62 #[.pointer (some ⟨gm, 0, none⟩), .int .i64 at', .slice A 64 c] w0 fun e w' => e = .returned (.int .i64 0) ∧ ∃ col' A c v1, Step id w0 col w' col' ∧ RefV w' col' id gm vs v1 { (ractK r0).1 with cache := r0.cache ++ [⟨at', b, A, c⟩] } := by
  have hask := act_any id gm vs vc r0 n w0 col h hf (by omega)
  have HR0 := Lib.hid hr
  have HSV := Lib.hid hsv
  have HASK := Lib.hid hask
  have HBL := Lib.hid hb
  have HE := Lib.hid he
  have HSAME := Lib.hid (ract_same r0)
  have HCN := Lib.hid hf.2.2.2.2
  obtain ⟨ha0, ha1⟩ := hat
  have hz1 : decide (at' < 0) = false := by simp; omega
  have hz2 : decide ((r0.n : Int) ≤ at') = false := by simp; omega
  obtain ⟨z, hz, hzs⟩ := info109
  clear h hr hsv hask hb he hf
  go_enter Try.func62, Try.ntmps62
  go_wp2_with fail
  refine HASK.out.mono ?_
  rintro e w ⟨rfl, st0, h⟩
  rw [HE.out]
  obtain ⟨r, hr⟩ : ∃ r, r = (ractK r0).1 := ⟨_, rfl⟩
  rw [← hr] at h HSAME
  have HRR := Lib.hid hr
  have HST := Lib.hid st0
  have HV := Lib.hid h
  obtain ⟨gs, cs, rfl, -, -, -, -⟩ := own_FS h.so h.dom.1
  obtain ⟨AC, cc, rfl, -⟩ := own_FW h.co
  have hnw := own_news h.co
  have c0 : w.cell? ⟨gm, 0, none⟩ = some (.slice (some ⟨gs, 0, none⟩) r0.n cs) := by rw [cell_of_row _ _ 0 _ _ _ h.obj, ← HSAME.out.1]; rfl
  have HC1 : Hid (∀ X, Below w.heap.size w X → X.heap[gm]? = some (.cells (rcells r (.slice (some ⟨gs, 0, none⟩) r.n cs) (.slice AC r.cache.length cc)) 104 (0, 0))) := Lib.hid fun X hX => heap_below h.obj hX
  obtain ⟨m, hm⟩ : ∃ m, m = r.cache.length := ⟨_, rfl⟩
  rw [← hm] at hnw HC1
  have hml : m ≤ 1000000 := by rw [hm, HSAME.out.2.2]; have := HCN.out; omega
  have HM := Lib.hid hm
  have HNW := Lib.hid hnw
  have HNEWS : Hid (∀ X, Below w.heap.size w X → 0 < m → ∃ ad, AC = some ad ∧ ∀ j u, (rowW r.cache)[j]? = some u → X.cell? (ad.add j) = some u) := Lib.hid (fun X hX hp => by
    obtain ⟨ad, e, hh⟩ := HNW.out.2 hp
    refine ⟨ad, e, hh X fun k hk => hX.block k ?_⟩
    have := (h.co.lt k (by rw [hk]; rfl)).2
    exact this)
  have HR := Lib.hid (HR0.out.step st0 (fun e => hcl e.symm)).read
  have HRN : Hid (r.n = r0.n) := Lib.hid HSAME.out.1
  have c1 : ∀ o : Obj, (w.alloc o).cell? ⟨gm, 1, none⟩ = some (.slice AC m cc) := fun o => by rw [cell_of_row _ _ 1 _ _ _ (HC1.out _ (bel_alloc (Below.refl _ _) o))]; rfl
  have HOO : Hid ((w.alloc (.cells #[] 109)).ownsRow w.heap.size 109 2 (.slice (some ⟨w.heap.size, 0, none⟩) 0 0) 0 []) := Lib.hid (World.ownsRow_made w #[] 0 (Nat.le_refl _) (Nat.zero_le _) (by simp))
  clear h hm hr st0 hnw
  go_wp2_with (first
    | (at_builtin; go_loud (refine wp_app rfl (.tmp 30) (.tmp 34) 102 rfl w.heap.size 109 z 2 32 Try.underlying102 hz hzs (by decide) (.slice (some ⟨w.heap.size, 0, none⟩) 0 0) 0 [] rfl HOO.out AC m cc (rowW r.cache) rfl (by rw [rowW_length, HM.out]) HNW.out.1 (HNEWS.out _ (bel_alloc (Below.refl _ _) _)) (rowW_one _) (by unfold maxLen; omega) (by omega) (by simp) ?_); intro v1 W2 ho hg hv; rw [List.nil_append, Nat.zero_add] at ho; have HO2 := Lib.hid ho; have HB2 := Lib.hid (bel_grown (bel_alloc (Below.refl w.heap.size w) _) hg (fun k e => by cases e; exact Nat.le_refl _)); clear ho hg hv c1)
    | (at_builtin; go_loud (refine wp_app_bytes rfl (.tmp 37) (.tmp 38) 22 rfl W2.heap.size 5 Try.underlying22 info5 (.slice (some ⟨W2.heap.size, 0, none⟩) 0 0) [] rfl (OB.empty W2 W2.heap.size 5 (Nat.le_refl _) _ rfl) A c b (by rw [HBL.out]; rfl) HSV.out.2 (HR.out.below (bel_alloc HB2.out _)) (by rw [HBL.out]; simp) (by simp) ?_); intro v2 W3 ho hg hv; rw [List.nil_append] at ho; have HO3 := Lib.hid (app_keep HO2.out hg); obtain ⟨A2, c2, rfl, sv2, rb2, hab, hb3⟩ := app_new HB2.out ho hg HBL.out; have HB3 := Lib.hid hb3; have HAB := Lib.hid hab; have SV2 := Lib.hid sv2; have RB2 := Lib.hid rb2; clear ho hg hv sv2 rb2 hab hb3)
    | (at_builtin; go_loud (refine wp_app rfl (.tmp 35) (.tmp 41) 102 rfl w.heap.size 109 z 2 32 Try.underlying102 hz hzs (by decide) v1 m (rowW r.cache) rfl (own_keep HO3.out fun j hj => Below.heap_alloc _ _ _ (HO3.out.lt j hj).2) _ 1 _ [.int .i64 at', .slice A2 64 c2] rfl rfl (fun e => by cases e) (fun _ => ⟨_, rfl, fun j u hu => cell_alloc _ _ _ _ _ (by simp) j u (by simpa using hu)⟩) (by intro u hu; simp only [List.mem_cons, List.not_mem_nil, or_false] at hu; rcases hu with rfl | rfl <;> rfl) (by unfold maxLen; omega) (by omega) (bel_alloc HB3.out _).size ?_); intro v3 W5 ho hg hv; obtain ⟨A3, c3, rfl, hb5, ho5, rb5⟩ := app_last HM.out HB3.out HO2.out ho hg HBL.out RB2.out HAB.out; have HB5 := Lib.hid hb5; have HO5 := Lib.hid ho5; have RB5 := Lib.hid rb5; have fz := frozen_of_row _ _ 1 _ _ (HC1.out W5 HB5.out); have cz : W5.cell? ⟨gm, 1, none⟩ = some (.slice AC m cc) := (cell_of_row _ _ 1 _ _ _ (HC1.out W5 HB5.out)).trans rfl; clear ho hg hv hb5 ho5 rb5)
    | fail)
  go_ret
  have hset := row_set (j := 1) (.slice A3 (m + 1) c3) (HC1.out W5 HB5.out)
  have hgl := HV.out.lt
  obtain ⟨col', st, hd⟩ := ref_add (s := ⟨at', b, A2, c2⟩) (Y := W5.setCell ⟨gm, 1, none⟩ (.slice A3 (m + 1) c3)) HV.out (keeps_set (I := fun k => k = gm) ((Keeps.refl _ w).below HB5.out) rfl) (v1 := .slice A3 (m + 1) c3) (by simpa [rcells, HM.out] using hset) (by
      exact own_keep HO5.out fun k hk => Below.heap_setCell _ _ _ _ (fun e => by have := (HO5.out.lt k hk).1; subst e; omega)) (by rw [HBL.out]; exact SV2.out) (RB.keep RB5.out fun hp ad e => Below.heap_setCell _ _ _ _ (by show ad.block ≠ gm; have := HAB.out ad e; have := HB2.out.size; omega)) HBL.out (fun ad e => by have := HAB.out ad e; have := HB2.out.size; omega) ⟨ha0, by rw [HRN.out]; exact ha1⟩
  refine ⟨rfl, col', A2, c2, .slice A3 (m + 1) c3, HST.out.trans st, ?_⟩
  rw [HSAME.out.2.2] at hd
  rw [← HRR.out]
  exact hd
def RWriteQ (id gm : Nat) (r : RK) (at' : Int) (b : List UInt8) (w : World) (col : Nat → Nat) (e : Ending) (w' : World) : Prop :=
  e = .returned (.int .i64 (rwriteE r at' b.length)) ∧ ∃ col' A c, Step id w col w' col' ∧ RefAt w' col' id gm (rwriteD r ⟨at', b, A, c⟩)
theorem rwrite_bad (id gm : Nat) (vs vc : Value) (r0 : RK) (n : Nat) (at' : Int) (A : Option Addr) (c : Nat) (l : Nat) (w0 : World) (col : Nat → Nat) (h : RefV w0 col id gm vs vc r0) (hf : r0.fits n) (hn : n ≤ 1000000) (hb : rwriteE r0 at' l ≠ 0) :
    Calls Try.prog 62 #[.pointer (some ⟨gm, 0, none⟩), .int .i64 at', .slice A l c] w0 fun e w' => e = .returned (.int .i64 (rwriteE r0 at' l)) ∧ Step id w0 col w' col ∧ RefV w' col id gm vs vc (ractK r0).1 := by
  have hask := act_any id gm vs vc r0 n w0 col h hf (by omega)
  have HASK := Lib.hid hask
  have HSAME := Lib.hid (ract_same r0)
  rcases ract_e r0 with he | he
  · have HE := Lib.hid he
    have hbad : at' < 0 ∨ (r0.n : Int) ≤ at' ∨ l ≠ 64 := by
      unfold rwriteE at hb
      rw [if_neg (by omega)] at hb
      by_cases h : at' < 0 ∨ (r0.n : Int) ≤ at' ∨ l ≠ 64
      · exact h
      · rw [if_neg h] at hb; exact absurd rfl hb
    have HR : Hid (rwriteE r0 at' l = 1) := Lib.hid (by unfold rwriteE; rw [if_neg (by omega), if_pos hbad])
    clear h hask hf hb he
    rw [HR.out]
    go_enter Try.func62, Try.ntmps62
    go_wp2_with fail
    refine HASK.out.mono ?_
    rintro e w ⟨rfl, st0, h⟩
    rw [HE.out]
    have HST := Lib.hid st0
    have HV := Lib.hid h
    obtain ⟨gs, cs, rfl, -, -, -, -⟩ := own_FS h.so h.dom.1
    have c0 : w.cell? ⟨gm, 0, none⟩ = some (.slice (some ⟨gs, 0, none⟩) r0.n cs) := by rw [cell_of_row _ _ 0 _ _ _ h.obj, ← HSAME.out.1]; rfl
    clear h st0
    by_cases h1 : at' < 0
    · clear hbad
      go_wp2
      go_ret
      exact ⟨rfl, HST.out, HV.out⟩
    · by_cases h2 : (r0.n : Int) ≤ at'
      · clear hbad
        go_wp2
        go_ret
        exact ⟨rfl, HST.out, HV.out⟩
      · have h3 : ((l : Int) != 64) = true := by simp; omega
        clear hbad
        go_wp2
        go_ret
        exact ⟨rfl, HST.out, HV.out⟩
  · have HE := Lib.hid he
    have HR : Hid (rwriteE r0 at' l = 7) := Lib.hid (by unfold rwriteE; rw [if_pos (by omega), he])
    clear h hask hf hb he
    rw [HR.out]
    go_enter Try.func62, Try.ntmps62
    go_wp2_with fail
    refine HASK.out.mono ?_
    rintro e w ⟨rfl, st0, h⟩
    rw [HE.out]
    go_wp2
    go_ret
    exact ⟨rfl, st0, h⟩
theorem rwrite_any (id gm : Nat) (r : RK) (n : Nat) (at' : Int) (A : Option Addr) (c cl : Nat) (b : List UInt8) (w : World) (col : Nat → Nat) (h : RefAt w col id gm r) (hf : r.fits n) (hn : n ≤ 1000000) (hr : RC w col cl A b) (hcl : cl ≠ id) (hsv : SV A b.length c) :
    Calls Try.prog 62 #[.pointer (some ⟨gm, 0, none⟩), .int .i64 at', .slice A b.length c] w (RWriteQ id gm r at' b w col) := by
  obtain ⟨vs, vc, h⟩ := h
  by_cases hb : rwriteE r at' b.length = 0
  · have he : (ractK r).2 = 0 := by
      unfold rwriteE at hb
      rcases ract_e r with h0 | h0
      · exact h0
      · rw [if_pos (by omega)] at hb; exact hb
    have hok : ¬ (at' < 0 ∨ (r.n : Int) ≤ at' ∨ b.length ≠ 64) := by
      intro h0
      unfold rwriteE at hb
      rw [if_neg (by omega), if_pos h0] at hb
      cases hb
    have h64 : b.length = 64 := by omega
    rw [h64] at hsv
    have h1 := rwrite_good id gm vs vc r n at' A c cl b w col h hf hn he hr hcl hsv ⟨by omega, by omega⟩ h64
    have e64 : Value.slice A b.length c = .slice A 64 c := by rw [h64]
    rw [e64]
    refine h1.mono ?_
    rintro e w' ⟨rfl, col', A', c', v1, st, hd⟩
    refine ⟨by rw [hb], col', A', c', st, ?_⟩
    unfold rwriteD
    rw [if_pos hb]
    exact ⟨_, _, hd⟩
  · refine (rwrite_bad id gm vs vc r n at' A c b.length w col h hf hn hb).mono ?_
    rintro e w' ⟨rfl, st, hd⟩
    refine ⟨rfl, col, none, 0, st, ?_⟩
    unfold rwriteD
    rw [if_neg hb]
    exact ⟨_, _, hd⟩
end Go.Proofs.Ytdldclakkplliaa
