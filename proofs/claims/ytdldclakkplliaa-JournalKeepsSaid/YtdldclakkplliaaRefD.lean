/- The document's own disk, as it lies in memory, and the walks of its smaller functions. Conditions: none. -/
import Derived.Test.YtdldclakkplliaaUse
namespace Go.Proofs.Ytdldclakkplliaa
set_option linter.unusedVariables false
set_option linter.unusedSimpArgs false
open Go.RowKit

theorem bel_drewN {w W : World} (h : Below w.heap.size w W) (n : Nat) : Below w.heap.size w (W.drewN n) := ⟨h.os, h.tape, h.output, h.size, h.block⟩
/-! ### a row of sectors -/
def sval : Option Wr → Value
  | none => .slice none 0 0
  | some s => .slice s.A s.b.length s.c
def rowS (f : Nat → Option Wr) (n : Nat) : List Value := (List.range n).map fun j => sval (f j)
theorem rowS_length (f : Nat → Option Wr) (n : Nat) : (rowS f n).length = n := by simp [rowS]
theorem rowS_get (f : Nat → Option Wr) (n j : Nat) (h : j < n) : (rowS f n)[j]? = some (sval (f j)) := by simp [rowS, h]
theorem sval_one (o : Option Wr) : (sval o).oneCell' = true := by cases o <;> rfl
theorem rowS_one (f : Nat → Option Wr) (n : Nat) : ∀ u ∈ rowS f n, u.oneCell' = true := by
  intro u hu
  obtain ⟨j, _, rfl⟩ := List.mem_map.1 hu
  exact sval_one _
theorem rowS_none (n : Nat) : rowS (fun _ => none) n = List.replicate n (.slice none 0 0) := by
  unfold rowS
  rw [List.map_const', List.length_range]
  rfl
def updS (f : Nat → Option Wr) (j : Nat) (o : Option Wr) : Nat → Option Wr := fun i => if i = j then o else f i
theorem rowS_set (f : Nat → Option Wr) (n j : Nat) (o : Option Wr) : rowS (updS f j o) n = (rowS f n).set j (sval o) := by
  apply List.ext_getElem?
  intro i
  rw [List.getElem?_set]
  by_cases hi : i < n
  · rw [rowS_get _ _ _ hi, rowS_length]
    unfold updS
    by_cases e : i = j
    · subst e
      rw [if_pos rfl, if_pos rfl, if_pos hi]
    · rw [if_neg e, if_neg (fun h => e h.symm), rowS_get _ _ _ hi]
  · rw [List.getElem?_eq_none (by rw [rowS_length]; omega)]
    split
    · rw [rowS_length, if_neg (by omega)]
    · rw [List.getElem?_eq_none (by rw [rowS_length]; omega)]
theorem rowS_same (f g : Nat → Option Wr) (n : Nat) (h : ∀ j, j < n → f j = g j) : rowS f n = rowS g n := by
  apply List.ext_getElem?
  intro i
  by_cases hi : i < n
  · rw [rowS_get _ _ _ hi, rowS_get _ _ _ hi, h i hi]
  · rw [List.getElem?_eq_none (by rw [rowS_length]; omega), List.getElem?_eq_none (by rw [rowS_length]; omega)]
/-- A row of sectors of one's own: its form. -/
theorem own_FS {w : World} {base : Nat} {e : TypeId} {v : Value} {n : Nat} {f : Nat → Option Wr} (h : w.ownsRow base e 1 v n (rowS f n)) (hn : 1 ≤ n) :
    ∃ g c, v = .slice (some ⟨g, 0, none⟩) n c ∧ n ≤ c ∧ base ≤ g ∧ (∀ j, j < n → w.cell? ⟨g, j, none⟩ = some (sval (f j))) ∧ ∀ j, w.frozen? ⟨g, j, none⟩ = false := by
  have h0 := h
  rcases h.2 with ⟨_, h1⟩ | ⟨g, cap, cur, rfl, hb, hh, h1, h2, h3, h4⟩
  · omega
  · refine ⟨g, cap, rfl, h1, hb, fun j hj => ?_, fun j => World.ownsRow.frozenAt h0 j⟩
    rw [World.ownsRow.cellAt h0 j (by omega)]
    exact rowS_get f n j hj
theorem own_setS {w : World} {base : Nat} {e : TypeId} {g c n : Nat} {f : Nat → Option Wr} (h : w.ownsRow base e 1 (.slice (some ⟨g, 0, none⟩) n c) n (rowS f n)) (j : Nat) (o : Option Wr) :
    (w.setCell ⟨g, j, none⟩ (sval o)).ownsRow base e 1 (.slice (some ⟨g, 0, none⟩) n c) n (rowS (updS f j o) n) := by
  rw [rowS_set]
  exact (World.ownsRow.stored h j (sval o)).1

/-! ### the document's disk -/
structure RK where
  n : Nat
  safe : Nat → Option Wr
  cache : List Wr
  left : Int
  off : Bool
  ops : Int
def rcells (r : RK) (vs vc : Value) : Array Value := #[vs, vc, .int .i64 r.left, .bool r.off, .int .i64 r.ops]
structure RefV (w : World) (col : Nat → Nat) (id gm : Nat) (vs vc : Value) (r : RK) : Prop where
  hcol : col gm = id
  nz : id ≠ 0
  obj : w.heap[gm]? = some (.cells (rcells r vs vc) 104 (0, 0))
  so : w.ownsRow 0 22 1 vs r.n (rowS r.safe r.n)
  co : w.ownsRow 0 109 2 vc r.cache.length (rowW r.cache)
  sb : ∀ k, vs.ownBlock = some k → k ≠ gm ∧ col k = id
  cb : ∀ k, vc.ownBlock = some k → col k = 0
  sd : ∀ i s, r.safe i = some s → Sec w col s
  cd : ∀ s, s ∈ r.cache → Sec w col s ∧ 0 ≤ s.at_ ∧ s.at_ < r.n
  dom : 1 ≤ r.n ∧ r.n ≤ 65536
def RefAt (w : World) (col : Nat → Nat) (id gm : Nat) (r : RK) : Prop := ∃ vs vc, RefV w col id gm vs vc r
def RK.fits (r : RK) (a : Nat) : Prop := -1 ≤ r.left ∧ r.left ≤ 9223372036854775807 ∧ 0 ≤ r.ops ∧ r.ops ≤ a ∧ r.cache.length ≤ a
theorem RefV.lt {w : World} {col : Nat → Nat} {id gm : Nat} {vs vc : Value} {r : RK} (h : RefV w col id gm vs vc r) : gm < w.heap.size := (Array.getElem?_eq_some_iff.1 h.obj).1
theorem RefV.step {w w' : World} {col col' : Nat → Nat} {id gm j : Nat} {vs vc : Value} {r : RK} (h : RefV w col id gm vs vc r) (s : Step j w col w' col') (hj : j ≠ id) (hz : j ≠ 0) : RefV w' col' id gm vs vc r := by
  have hg := h.lt
  refine ⟨(s.same gm hg).trans h.hcol, h.nz, ?_, own_keep h.so fun k hk => s.keeps.block k (h.so.lt k hk).2 (fun e => hj (e.symm.trans (h.sb k hk).2)), own_keep h.co fun k hk => s.keeps.block k (h.co.lt k hk).2 (fun e => hz (e.symm.trans (h.cb k hk))),
    fun k hk => ⟨(h.sb k hk).1, (s.same k (h.so.lt k hk).2).trans (h.sb k hk).2⟩, fun k hk => (s.same k (h.co.lt k hk).2).trans (h.cb k hk), fun i q hq => (h.sd i q hq).step s hz, fun q hq => ⟨(h.cd q hq).1.step s hz, (h.cd q hq).2⟩, h.dom⟩
  rw [s.keeps.block gm hg (fun e => hj (e.symm.trans h.hcol))]
  exact h.obj
theorem Sec.recol {w : World} {col col' : Nat → Nat} {s : Wr} (h : Sec w col s) (hs : ∀ k, k < w.heap.size → col' k = col k) : Sec w col' s := ⟨h.1, h.2.1.recol hs, h.2.2⟩
theorem Sec.below {w w' : World} {col : Nat → Nat} {s : Wr} (h : Sec w col s) (hb : Below w.heap.size w w') : Sec w' col s := ⟨h.1, h.2.1.below hb, h.2.2⟩
theorem RefV.recol {w : World} {col col' : Nat → Nat} {id gm : Nat} {vs vc : Value} {r : RK} (h : RefV w col id gm vs vc r) (hs : ∀ k, k < w.heap.size → col' k = col k) : RefV w col' id gm vs vc r :=
  ⟨(hs gm h.lt).trans h.hcol, h.nz, h.obj, h.so, h.co, fun k hk => ⟨(h.sb k hk).1, (hs k (h.so.lt k hk).2).trans (h.sb k hk).2⟩, fun k hk => (hs k (h.co.lt k hk).2).trans (h.cb k hk), fun i q hq => (h.sd i q hq).recol hs, fun q hq => ⟨(h.cd q hq).1.recol hs, (h.cd q hq).2⟩, h.dom⟩
theorem RefV.below {w w' : World} {col : Nat → Nat} {id gm : Nat} {vs vc : Value} {r : RK} (h : RefV w col id gm vs vc r) (hb : Below w.heap.size w w') : RefV w' col id gm vs vc r :=
  ⟨h.hcol, h.nz, heap_below h.obj hb, own_keep h.so fun k hk => hb.block k (h.so.lt k hk).2, own_keep h.co fun k hk => hb.block k (h.co.lt k hk).2, h.sb, h.cb, fun i q hq => (h.sd i q hq).below hb, fun q hq => ⟨(h.cd q hq).1.below hb, (h.cd q hq).2⟩, h.dom⟩
theorem RefV.grow {w w' : World} {col : Nat → Nat} {id gm : Nat} {vs vc : Value} {r : RK} (h : RefV w col id gm vs vc r) (hb : Below w.heap.size w w') (new : Nat → Nat) : RefV w' (paint w col new) id gm vs vc r :=
  (h.recol (fun k hk => paint_old hk)).below hb
theorem RefAt.step {w w' : World} {col col' : Nat → Nat} {id gm j : Nat} {r : RK} (h : RefAt w col id gm r) (s : Step j w col w' col') (hj : j ≠ id) (hz : j ≠ 0) : RefAt w' col' id gm r := ⟨_, _, h.choose_spec.choose_spec.step s hj hz⟩
theorem RefAt.below {w w' : World} {col : Nat → Nat} {id gm : Nat} {r : RK} (h : RefAt w col id gm r) (hb : Below w.heap.size w w') : RefAt w' col id gm r := ⟨_, _, h.choose_spec.choose_spec.below hb⟩
theorem RefAt.grow {w w' : World} {col : Nat → Nat} {id gm : Nat} {r : RK} (h : RefAt w col id gm r) (hb : Below w.heap.size w w') (new : Nat → Nat) : RefAt w' (paint w col new) id gm r := ⟨_, _, h.choose_spec.choose_spec.grow hb new⟩
/-- Its own cells alone have turned. -/
theorem RefV.put {w w' : World} {col : Nat → Nat} {id gm : Nat} {vs vc : Value} {r r' : RK} (h : RefV w col id gm vs vc r) (hk : Keeps (fun k => k = gm) w w') (hg : w'.heap[gm]? = some (.cells (rcells r' vs vc) 104 (0, 0)))
    (e1 : r'.n = r.n) (e2 : r'.safe = r.safe) (e3 : r'.cache = r.cache) : Step id w col w' col ∧ RefV w' col id gm vs vc r' := by
  have st : Step id w col w' col := ⟨hk.mono fun k _ e => e ▸ h.hcol, fun _ _ => rfl⟩
  have hr : ∀ s, Sec w col s → Sec w' col s := fun s hs => hs.step st h.nz
  refine ⟨st, ⟨h.hcol, h.nz, hg, ?_, ?_, h.sb, h.cb, fun i s hs => hr s (h.sd i s (by rw [← e2]; exact hs)), fun s hs => ?_, by rw [e1]; exact h.dom⟩⟩
  · rw [e1, e2]; exact own_keep h.so fun k hk2 => hk.block k (h.so.lt k hk2).2 (h.sb k hk2).1
  · rw [e3]; exact own_keep h.co fun k hk2 => hk.block k (h.co.lt k hk2).2 (fun e => h.nz (by rw [← h.hcol, ← e]; exact h.cb k hk2))
  · rw [e3] at hs; rw [e1]; exact ⟨hr s (h.cd s hs).1, (h.cd s hs).2⟩

/-! ### act -/
def ractK (r : RK) : RK × Int := if (r.off || r.left == 0) = true then ({ r with ops := r.ops + 1, off := true }, 7) else ({ r with ops := r.ops + 1, left := if 0 < r.left then r.left - 1 else r.left }, 0)
theorem act_walk (gm : Nat) (vs vc : Value) (r : RK) (a : Nat) (w : World) (hg : w.heap[gm]? = some (.cells (rcells r vs vc) 104 (0, 0))) (hf : r.fits a) (ha : a ≤ 1000000000) :
    Calls Try.prog 75 #[.pointer (some ⟨gm, 0, none⟩)] w fun e w' => e = .returned (.int .i64 (ractK r).2) ∧ Keeps (fun k => k = gm) w w' ∧ w'.heap[gm]? = some (.cells (rcells (ractK r).1 vs vc) 104 (0, 0)) := by
  obtain ⟨n, safe, cache, left, off, ops⟩ := r
  obtain ⟨f1, f2, f3, f4, -⟩ := hf
  simp only at f1 f2 f3 f4
  simp only [rcells] at hg
  have c2 : w.cell? ⟨gm, 2, none⟩ = some (.int .i64 left) := by rw [cell_of_row _ _ 2 _ _ _ hg]; rfl
  have c3 : w.cell? ⟨gm, 3, none⟩ = some (.bool off) := by rw [cell_of_row _ _ 3 _ _ _ hg]; rfl
  have c4 : w.cell? ⟨gm, 4, none⟩ = some (.int .i64 ops) := by rw [cell_of_row _ _ 4 _ _ _ hg]; rfl
  have z4 := frozen_of_row _ _ 4 _ _ hg
  have hw6 : wrap64 (ops + 1) = ops + 1 := by unfold wrap64; omega
  have hw5 : wrap64 (left - 1) = left - 1 := by unfold wrap64; omega
  have h1 := row_set (j := 4) (.int .i64 (ops + 1)) hg
  have d2 : (w.setCell ⟨gm, 4, none⟩ (.int .i64 (ops + 1))).cell? ⟨gm, 2, none⟩ = some (.int .i64 left) := by rw [cell_of_row _ _ 2 _ _ _ h1]; rfl
  have d3 : (w.setCell ⟨gm, 4, none⟩ (.int .i64 (ops + 1))).cell? ⟨gm, 3, none⟩ = some (.bool off) := by rw [cell_of_row _ _ 3 _ _ _ h1]; rfl
  have y3 := frozen_of_row _ _ 3 _ _ h1
  have y2 := frozen_of_row _ _ 2 _ _ h1
  have h2 := row_set (j := 3) (.bool true) h1
  have h3 := row_set (j := 2) (.int .i64 (left - 1)) h1
  have hk1 := keeps_set (j := 4) (u := .int .i64 (ops + 1)) (Keeps.refl (fun k => k = gm) w) rfl
  have HK1 := Lib.hid hk1
  have HK2 := Lib.hid (keeps_set (j := 3) (u := .bool true) hk1 rfl)
  have HK3 := Lib.hid (keeps_set (j := 2) (u := .int .i64 (left - 1)) hk1 rfl)
  have H1 := Lib.hid h1
  have H2 := Lib.hid h2
  have H3 := Lib.hid h3
  clear h1 h2 h3 hg hk1
  cases off with
  | true =>
    go_enter Try.func75, Try.ntmps75
    go_wp2
    go_ret
    exact ⟨rfl, HK2.out, H2.out⟩
  | false =>
    by_cases hl : left = 0
    · subst hl
      go_enter Try.func75, Try.ntmps75
      go_wp2
      go_ret
      exact ⟨rfl, HK2.out, H2.out⟩
    · have hlb : (left == 0) = false := by simp [hl]
      by_cases hp : 0 < left
      · have HA : Hid (ractK { n := n, safe := safe, cache := cache, left := left, off := false, ops := ops } = ({ n := n, safe := safe, cache := cache, left := left - 1, off := false, ops := ops + 1 }, 0)) := Lib.hid (by simp [ractK, hl, hp])
        rw [HA.out]
        go_enter Try.func75, Try.ntmps75
        go_wp2
        go_ret
        exact ⟨rfl, HK3.out, H3.out⟩
      · have HA : Hid (ractK { n := n, safe := safe, cache := cache, left := left, off := false, ops := ops } = ({ n := n, safe := safe, cache := cache, left := left, off := false, ops := ops + 1 }, 0)) := Lib.hid (by simp [ractK, hl, hp])
        rw [HA.out]
        go_enter Try.func75, Try.ntmps75
        go_wp2
        go_ret
        exact ⟨rfl, HK1.out, H1.out⟩
theorem ract_same (r : RK) : (ractK r).1.n = r.n ∧ (ractK r).1.safe = r.safe ∧ (ractK r).1.cache = r.cache := by unfold ractK; split <;> exact ⟨rfl, rfl, rfl⟩
theorem act_any (id gm : Nat) (vs vc : Value) (r : RK) (a : Nat) (w : World) (col : Nat → Nat) (h : RefV w col id gm vs vc r) (hf : r.fits a) (ha : a ≤ 1000000000) :
    Calls Try.prog 75 #[.pointer (some ⟨gm, 0, none⟩)] w fun e w' => e = .returned (.int .i64 (ractK r).2) ∧ Step id w col w' col ∧ RefV w' col id gm vs vc (ractK r).1 := by
  refine (act_walk gm vs vc r a w h.obj hf ha).mono ?_
  rintro e w' ⟨rfl, hk, hg⟩
  obtain ⟨st, hd⟩ := h.put hk hg (ract_same r).1 (ract_same r).2.1 (ract_same r).2.2
  exact ⟨rfl, st, hd⟩

/-! ### Cut -/
def rcutK (r : RK) (n : Int) : RK := { r with left := max n 0 }
theorem rcut_any (id gm : Nat) (vs vc : Value) (r : RK) (n : Int) (w : World) (col : Nat → Nat) (h : RefV w col id gm vs vc r) :
    Calls Try.prog 64 #[.pointer (some ⟨gm, 0, none⟩), .int .i64 n] w fun e w' => e = .returned (.tuple #[]) ∧ Step id w col w' col ∧ RefV w' col id gm vs vc (rcutK r n) := by
  have hg := h.obj
  have z2 := frozen_of_row _ _ 2 _ _ hg
  have c2 : w.cell? ⟨gm, 2, none⟩ = some (.int .i64 r.left) := by rw [cell_of_row _ _ 2 _ _ _ hg]; rfl
  have HP := Lib.hid (fun x : Int => RefV.put (r' := { r with left := x }) h (keeps_set (j := 2) (u := .int .i64 x) (Keeps.refl (fun k => k = gm) w) rfl) (by have := row_set (j := 2) (.int .i64 x) hg; exact this) rfl rfl rfl)
  clear h hg
  go_enter Try.func64, Try.ntmps64
  go_wp2
  go_end0
  exact ⟨rfl, HP.out (max n 0)⟩

/-! ### pick, round -/
theorem rround_any (k n : Int) (w : World) (h1 : -9223372036854775808 ≤ k) (h2 : k ≤ 9223372036854775807) (hn : 0 < n) (hn2 : n ≤ 4611686018427387904) :
    Calls Try.prog 67 #[.int .i64 k, .int .i64 n] w fun e w' => e = .returned (.int .i64 (k % n)) ∧ w = w' := by
  go_enter Try.func67, Try.ntmps67
  go_wp2
  · rename_i h
    go_ret
    have hb := Int.tmod_lt_of_pos k hn
    have hr := tmod_round k n hn
    have h1 := Int.emod_nonneg k (by omega : n ≠ 0)
    have h2 := Int.emod_lt_of_pos k hn
    exact ⟨ret_int (by rw [hr.1 h]; unfold wrap64; omega), rfl⟩
  · rename_i h
    go_ret
    have hr := tmod_round k n hn
    exact ⟨ret_int (hr.2 (by omega)), rfl⟩
theorem rpick_any (A : Option Addr) (c : Nat) (ps : List Int) (k : Nat) (w : World) (hr : RI w A ps) (hk : k ≤ 1000) :
    Calls Try.prog 66 #[.slice A ps.length c, .int .i64 k] w fun e w' => e = .returned (.int .i64 (pickK ps k)) ∧ w = w' := by
  by_cases hl : k < ps.length
  · obtain ⟨ad, rfl, hc⟩ := hr.at_ k hl
    obtain ⟨x, hx⟩ : ∃ x, x = ps.getD k 0 := ⟨_, rfl⟩
    rw [← hx] at hc
    have HX := Lib.hid hx
    clear hr hx
    go_enter Try.func66, Try.ntmps66
    go_wp2
    go_ret
    exact ⟨ret_int (by rw [HX.out]; rfl), rfl⟩
  · have HX : Hid (pickK ps k = 0) := Lib.hid (by unfold pickK; rw [List.getD_eq_getElem?_getD, List.getElem?_eq_none (by omega)]; rfl)
    clear hr
    go_enter Try.func66, Try.ntmps66
    go_wp2
    go_ret
    exact ⟨ret_int (by rw [HX.out]), rfl⟩

/-! ### New -/
def newRK (n : Nat) : RK := ⟨n, fun _ => none, [], -1, false, 0⟩
theorem wp_make_rows {P : Program} {w : World} {ops : Array Oper} {rest : List Oper} {o : Oper} {a : Act} {Q : Exit → Act → World → Prop} (hgd : o.guard = none) (l c : Operand) (t e : TypeId) (hop : o.op = Op.makeSlice t l c)
    (ht : P.underlying t = some (.slice e)) (hinfo : (P.info? e).map (fun i => (i.zero, i.size, i.bytes)) = some (some (.slice none 0 0), 1, 24)) (kl kc : IntKind) (n : Nat) (hl : a.eval l = .int kl (n : Int)) (hc : a.eval c = .int kc (n : Int)) (hn : n ≤ 1000000)
    (h : ∀ w', w'.ownsRow w.heap.size e 1 (.slice (some ⟨w.heap.size, 0, none⟩) n n) n (List.replicate n (.slice none 0 0)) → Below w.heap.size w w' → wpList P ops Q rest (a.put o.dst (.slice (some ⟨w.heap.size, 0, none⟩) n n)) w') : wpList P ops Q (o :: rest) a w := by
  obtain ⟨i, hi, hz⟩ := Option.map_eq_some_iff.1 hinfo
  simp only [Prod.mk.injEq] at hz
  obtain ⟨hz0, hz1, hz2⟩ := hz
  refine wpList_make_full w hgd l c t hop w.heap.size e i (.slice none 0 0) 1 ht hi hz0 hz1 kl kc n n n hl hc rfl rfl (by rw [hz2]; omega) (by unfold maxLen; omega) (Nat.le_refl _) fun w' ho hg => h w' ?_ (below_of_grown hg)
  have e1 : (madeCells (Value.slice none 0 0).cells (n * 1)).toList = List.replicate n (.slice none 0 0) := by
    rw [Nat.mul_one]
    exact toList_madeCells_one (.slice none 0 0) n
  rw [e1] at ho
  exact ho
theorem info22 : (Try.prog.info? 22).map (fun i => (i.zero, i.size, i.bytes)) = some (some (.slice none 0 0), 1, 24) := by kernel_rfl
def RNewQ (id n : Nat) (w : World) (col : Nat → Nat) (e : Ending) (w' : World) : Prop :=
  ∃ gm col', e = .returned (.tuple #[.pointer (some ⟨gm, 0, none⟩), .int .i64 0]) ∧ Step id w col w' col' ∧ RefAt w' col' id gm (newRK n)
theorem rnew_any (id n : Nat) (hid : id ≠ 0) (w : World) (col : Nat → Nat) (h : 1 ≤ n ∧ n ≤ 65536) : Calls Try.prog 34 #[.int .i64 n] w (RNewQ id n w col) := by
  obtain ⟨h1, h2⟩ := h
  have hz1 : decide ((n : Int) < 1) = false := by simp; omega
  have hz2 : decide ((65536 : Int) < (n : Int)) = false := by simp; omega
  go_enter Try.func34, Try.ntmps34
  go_wp2_with (first | (at_make; go_loud (refine wp_make_rows rfl _ _ 23 22 rfl Try.underlying23 info22 _ _ n rfl rfl (by omega) ?_); intro w1 ho hb; have HO := Lib.hid ho; have HB := Lib.hid hb; clear ho hb) | fail)
  go_ret2
  have hb1 := bel_alloc HB.out (.cells #[.slice (some ⟨w.heap.size, 0, none⟩) n n, .slice none 0 0, .int .i64 (-1), .bool false, .int .i64 0] 104)
  have hs := (Step.refl id w col).grow hb1 (fun _ => id)
  have hlt := (HO.out.lt w.heap.size rfl).2
  refine ⟨_, _, rfl, hs, .slice (some ⟨w.heap.size, 0, none⟩) n n, .slice none 0 0, ⟨paint_new HB.out.size, hid, heap_alloc_new w1 _, ?_, World.ownsRow_nil _ 0 109 2, fun k hk => ?_, fun k hk => by simp [Value.ownBlock] at hk, fun i s hs => (by cases hs), fun s hs => (by cases hs), ⟨h1, h2⟩⟩⟩
  · show World.ownsRow _ 0 22 1 _ n (rowS (fun _ => none) n)
    rw [rowS_none]
    exact own_mono (own_keep HO.out fun k hk => Below.heap_alloc _ _ _ (HO.out.lt k hk).2) (Nat.zero_le _)
  · cases hk
    exact ⟨by show w.heap.size ≠ w1.heap.size; omega, paint_new (Nat.le_refl _)⟩
theorem rnew_bad (n : Int) (w : World) (h : n < 1 ∨ 65536 < n) : Calls Try.prog 34 #[.int .i64 n] w fun e w' => e = .returned (.tuple #[.pointer none, .int .i64 1]) ∧ w = w' := by
  by_cases h1 : n < 1
  · go_enter Try.func34, Try.ntmps34
    go_wp2
    go_ret2
    exact ⟨rfl, rfl⟩
  · have h2 : 65536 < n := by omega
    clear h
    go_enter Try.func34, Try.ntmps34
    go_wp2
    go_ret2
    exact ⟨rfl, rfl⟩
end Go.Proofs.Ytdldclakkplliaa
