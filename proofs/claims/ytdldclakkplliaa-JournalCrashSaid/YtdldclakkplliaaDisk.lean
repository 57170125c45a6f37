/- A disk as it lies in memory, and the walks of its smaller functions. Conditions: none. -/
import Derived.Test.YtdldclakkplliaaMap
namespace Go.Proofs.Ytdldclakkplliaa
set_option linter.unusedVariables false
set_option linter.unusedSimpArgs false
open Go.RowKit

def wcells (s : Wr) : List Value := [.int .i64 s.at_, .slice s.A s.b.length s.c]
def rowW (ws : List Wr) : List Value := ws.flatMap wcells
theorem rowW_length (ws : List Wr) : (rowW ws).length = ws.length * 2 := by
  induction ws with
  | nil => rfl
  | cons p ws ih => simp only [rowW, List.flatMap_cons, List.length_append, List.length_cons] at *; rw [ih]; simp [wcells]; omega
theorem rowW_append (a b : List Wr) : rowW (a ++ b) = rowW a ++ rowW b := by simp [rowW]
theorem rowW_get (ws : List Wr) (j k : Nat) (hj : j < ws.length) (hk : k < 2) : (rowW ws)[j * 2 + k]? = (wcells ws[j])[k]? := by
  induction ws generalizing j with
  | nil => simp at hj
  | cons p ws ih =>
    cases j with
    | zero =>
      simp only [rowW, List.flatMap_cons]
      rw [List.getElem?_append_left (by simp [wcells]; omega)]
      simp
    | succ j =>
      simp only [rowW, List.flatMap_cons]
      rw [List.getElem?_append_right (by simp [wcells]; omega)]
      have e : (j + 1) * 2 + k - (wcells p).length = j * 2 + k := by simp [wcells]; omega
      rw [e]
      have := ih j (by simpa using hj)
      simpa [rowW] using this
theorem rowW_one (ws : List Wr) : ∀ u ∈ rowW ws, u.oneCell' = true := by
  intro u hu
  obtain ⟨p, _, h⟩ := List.mem_flatMap.1 hu
  simp only [wcells, List.mem_cons, List.not_mem_nil, or_false] at h
  rcases h with rfl | rfl <;> rfl
/-- Writes that are read. -/
structure FW (w : World) (A : Option Addr) (c : Nat) (ws : List Wr) : Prop where
  len : ws.length ≤ c
  nil : A = none → c = 0
  at_ : ∀ j p, ws[j]? = some p → ∃ g, A = some ⟨g, 0, none⟩ ∧ w.cell? ⟨g, j * 2, none⟩ = some (.int .i64 p.at_) ∧ w.cell? ⟨g, j * 2 + 1, none⟩ = some (.slice p.A p.b.length p.c)
theorem own_FW {w : World} {base : Nat} {e : TypeId} {v : Value} {ws : List Wr} (h : w.ownsRow base e 2 v ws.length (rowW ws)) : ∃ A c, v = .slice A ws.length c ∧ FW w A c ws := by
  have h0 := h
  rcases h.2 with ⟨rfl, hn⟩ | ⟨g, cap, cur, rfl, hb, hg, h1, h2, h3, h4⟩
  · have e : ws = [] := by
      have e1 := rowW_length ws
      rw [hn] at e1
      exact List.eq_nil_of_length_eq_zero (by simp at e1; omega)
    subst e
    exact ⟨none, 0, rfl, by simp, fun _ => rfl, fun j p h => by simp at h⟩
  · refine ⟨_, _, rfl, h1, fun e => (by cases e), fun j p hp => ⟨g, rfl, ?_⟩⟩
    have hj : j < ws.length := (List.getElem?_eq_some_iff.1 hp).1
    have hpe : ws[j] = p := (List.getElem?_eq_some_iff.1 hp).2
    have hl := rowW_length ws
    refine ⟨?_, ?_⟩
    · rw [World.ownsRow.cellAt h0 _ (by omega)]
      have := rowW_get ws j 0 hj (by omega)
      rw [Nat.add_zero, hpe] at this
      rw [this]; rfl
    · rw [World.ownsRow.cellAt h0 _ (by omega)]
      have := rowW_get ws j 1 hj (by omega)
      rw [hpe] at this
      rw [this]; rfl
theorem FW.keep {w w' : World} {A : Option Addr} {c : Nat} {ws : List Wr} (h : FW w A c ws) (hk : 0 < ws.length → ∀ ad, A = some ad → w'.heap[ad.block]? = w.heap[ad.block]?) : FW w' A c ws := by
  refine ⟨h.len, h.nil, fun j p hp => ?_⟩
  obtain ⟨g, e, h0, h1⟩ := h.at_ j p hp
  have hj := (List.getElem?_eq_some_iff.1 hp).1
  have hh := hk (by omega) _ e
  exact ⟨g, e, (World.cell?_of_block (a := ⟨g, j * 2, none⟩) hh).trans h0, (World.cell?_of_block (a := ⟨g, j * 2 + 1, none⟩) hh).trans h1⟩
theorem FW.below {w w' : World} {A : Option Addr} {c : Nat} {ws : List Wr} (h : FW w A c ws) (hb : Below w.heap.size w w') : FW w' A c ws := by
  refine ⟨h.len, h.nil, fun j p hp => ?_⟩
  obtain ⟨g, e, h0, h1⟩ := h.at_ j p hp
  exact ⟨g, e, (hb.cell (World.block_lt_of_cell? w _ h0)).trans h0, (hb.cell (World.block_lt_of_cell? w _ h1)).trans h1⟩

/-- A disk: how many sectors, what is safe, the cache, the switches; m: at least as many as the map has entries. -/
structure DK where
  n : Nat
  safe : Int → Option Wr
  cache : List Wr
  cut : Bool
  off : Bool
  left : Int
  ops : Int
  m : Nat
/-- A sector's bytes. -/
def Sec (w : World) (col : Nat → Nat) (s : Wr) : Prop := SV s.A s.b.length s.c ∧ RC w col 0 s.A s.b ∧ s.b.length = 64
def dcells (d : DK) (mb : Nat) (v : Value) : Array Value := #[.int .i64 (d.n : Int), .map (some mb), v, .bool d.cut, .bool d.off, .int .i64 d.left, .int .i64 d.ops]
structure DiskV (w : World) (col : Nat → Nat) (id gd mb : Nat) (v : Value) (d : DK) : Prop where
  hcol : col gd = id
  nz : id ≠ 0
  obj : w.heap[gd]? = some (.cells (dcells d mb v) 79 (0, 0))
  own : w.ownsRow 0 94 2 v d.cache.length (rowW d.cache)
  blk : ∀ k, v.ownBlock = some k → k ≠ gd ∧ k ≠ mb ∧ col k = id
  map : MapAt w mb d.m d.safe
  mne : mb ≠ gd
  mcol : col mb = id
  sd : ∀ i s, d.safe i = some s → Sec w col s
  cd : ∀ s, s ∈ d.cache → Sec w col s ∧ 0 ≤ s.at_ ∧ s.at_ < d.n
  dom : 1 ≤ d.n ∧ d.n ≤ 65536
def DiskAt (w : World) (col : Nat → Nat) (id gd mb : Nat) (d : DK) : Prop := ∃ v, DiskV w col id gd mb v d
/-- The numbers of a disk are within bounds. -/
def DK.fits (d : DK) (a : Nat) : Prop := -(a : Int) ≤ d.left ∧ d.left ≤ 9223372036854775807 ∧ 0 ≤ d.ops ∧ d.ops ≤ a ∧ d.cache.length ≤ a

theorem RC.below {w w' : World} {col : Nat → Nat} {c : Nat} {A : Option Addr} {bs : List UInt8} (h : RC w col c A bs) (hb : Below w.heap.size w w') : RC w' col c A bs := ⟨h.read.below hb, h.at_⟩
theorem RC.recol {w : World} {col col' : Nat → Nat} {c : Nat} {A : Option Addr} {bs : List UInt8} (h : RC w col c A bs) (hs : ∀ k, k < w.heap.size → col' k = col k) : RC w col' c A bs :=
  ⟨h.read, fun hp ad e => (hs _ (h.read.lt hp ad e)).trans (h.at_ hp ad e)⟩
theorem RC.new {w w' : World} {col : Nat → Nat} {A : Option Addr} {bs : List UInt8} (c : Nat) (h : RB w' A bs) (ha : ∀ ad, A = some ad → w.heap.size ≤ ad.block) : RC w' (paint w col (fun _ => c)) c A bs :=
  ⟨h, fun hp ad e => paint_new (ha ad e)⟩
theorem Step.below {id : Nat} {w w1 w2 : World} {col c1 : Nat → Nat} (h : Step id w col w1 c1) (hb : Below w1.heap.size w1 w2) : Step id w col w2 c1 := ⟨h.keeps.below hb, h.same⟩
theorem Step.grow {id : Nat} {w w1 w2 : World} {col c1 : Nat → Nat} (h : Step id w col w1 c1) (hb : Below w1.heap.size w1 w2) (new : Nat → Nat) : Step id w col w2 (paint w1 c1 new) :=
  ⟨h.keeps.below hb, fun k hk => (paint_old (Nat.lt_of_lt_of_le hk h.keeps.size)).trans (h.same k hk)⟩
theorem Old.grow {w0 w w' : World} {col : Nat → Nat} (h : Old w0 w col) (hb : Below w.heap.size w w') (new : Nat → Nat) : Old w0 w' (paint w col new) :=
  ⟨h.below.trans (hb.mono h.below.size), fun k hk => (paint_old (by have := h.below.size; omega)).trans (h.zero k hk)⟩
theorem Old.init (w : World) : Old w w (fun _ => 0) := ⟨Below.refl _ _, fun _ _ => rfl⟩
theorem Sec.step {w w' : World} {col col' : Nat → Nat} {id : Nat} {s : Wr} (h : Sec w col s) (st : Step id w col w' col') (hz : id ≠ 0) : Sec w' col' s := ⟨h.1, h.2.1.step st hz, h.2.2⟩
theorem DiskV.step {w w' : World} {col col' : Nat → Nat} {id gd mb j : Nat} {v : Value} {d : DK} (h : DiskV w col id gd mb v d) (s : Step j w col w' col') (hj : j ≠ id) (hz : j ≠ 0) : DiskV w' col' id gd mb v d := by
  have hg : gd < w.heap.size := (Array.getElem?_eq_some_iff.1 h.obj).1
  have hm : mb < w.heap.size := h.map.lt
  refine ⟨(s.same gd hg).trans h.hcol, h.nz, ?_, own_keep h.own fun k hk => s.keeps.block k (h.own.lt k hk).2 (fun e => hj (e.symm.trans (h.blk k hk).2.2)), fun k hk => ⟨(h.blk k hk).1, (h.blk k hk).2.1, (s.same k (h.own.lt k hk).2).trans (h.blk k hk).2.2⟩,
    h.map.keep (s.keeps.block mb hm (fun e => hj (e.symm.trans h.mcol))), h.mne, (s.same mb hm).trans h.mcol, fun i q hq => (h.sd i q hq).step s hz, fun q hq => ⟨(h.cd q hq).1.step s hz, (h.cd q hq).2⟩, h.dom⟩
  rw [s.keeps.block gd hg (fun e => hj (e.symm.trans h.hcol))]
  exact h.obj
theorem DiskV.recol {w : World} {col col' : Nat → Nat} {id gd mb : Nat} {v : Value} {d : DK} (h : DiskV w col id gd mb v d) (hs : ∀ k, k < w.heap.size → col' k = col k) : DiskV w col' id gd mb v d := by
  have hg : gd < w.heap.size := (Array.getElem?_eq_some_iff.1 h.obj).1
  exact ⟨(hs gd hg).trans h.hcol, h.nz, h.obj, h.own, fun k hk => ⟨(h.blk k hk).1, (h.blk k hk).2.1, (hs k (h.own.lt k hk).2).trans (h.blk k hk).2.2⟩, h.map, h.mne, (hs mb h.map.lt).trans h.mcol,
    fun i q hq => ⟨(h.sd i q hq).1, (h.sd i q hq).2.1.recol hs, (h.sd i q hq).2.2⟩, fun q hq => ⟨⟨(h.cd q hq).1.1, (h.cd q hq).1.2.1.recol hs, (h.cd q hq).1.2.2⟩, (h.cd q hq).2⟩, h.dom⟩
theorem DiskV.below {w w' : World} {col : Nat → Nat} {id gd mb : Nat} {v : Value} {d : DK} (h : DiskV w col id gd mb v d) (hb : Below w.heap.size w w') : DiskV w' col id gd mb v d :=
  ⟨h.hcol, h.nz, heap_below h.obj hb, own_keep h.own fun k hk => hb.block k (h.own.lt k hk).2, h.blk, h.map.keep (hb.block mb h.map.lt), h.mne, h.mcol,
    fun i q hq => ⟨(h.sd i q hq).1, (h.sd i q hq).2.1.below hb, (h.sd i q hq).2.2⟩, fun q hq => ⟨⟨(h.cd q hq).1.1, (h.cd q hq).1.2.1.below hb, (h.cd q hq).1.2.2⟩, (h.cd q hq).2⟩, h.dom⟩
theorem DiskV.grow {w w' : World} {col : Nat → Nat} {id gd mb : Nat} {v : Value} {d : DK} (h : DiskV w col id gd mb v d) (hb : Below w.heap.size w w') (new : Nat → Nat) : DiskV w' (paint w col new) id gd mb v d :=
  (h.recol (fun k hk => paint_old hk)).below hb
theorem DiskAt.step {w w' : World} {col col' : Nat → Nat} {id gd mb j : Nat} {d : DK} (h : DiskAt w col id gd mb d) (s : Step j w col w' col') (hj : j ≠ id) (hz : j ≠ 0) : DiskAt w' col' id gd mb d := ⟨_, h.choose_spec.step s hj hz⟩
theorem DiskAt.below {w w' : World} {col : Nat → Nat} {id gd mb : Nat} {d : DK} (h : DiskAt w col id gd mb d) (hb : Below w.heap.size w w') : DiskAt w' col id gd mb d := ⟨_, h.choose_spec.below hb⟩
theorem DiskAt.grow {w w' : World} {col : Nat → Nat} {id gd mb : Nat} {d : DK} (h : DiskAt w col id gd mb d) (hb : Below w.heap.size w w') (new : Nat → Nat) : DiskAt w' (paint w col new) id gd mb d := ⟨_, h.choose_spec.grow hb new⟩
theorem DiskAt.recol {w : World} {col col' : Nat → Nat} {id gd mb : Nat} {d : DK} (h : DiskAt w col id gd mb d) (hs : ∀ k, k < w.heap.size → col' k = col k) : DiskAt w col' id gd mb d := ⟨_, h.choose_spec.recol hs⟩
/-- Its own cells alone have turned. -/
theorem DiskV.put {w w' : World} {col : Nat → Nat} {id gd mb : Nat} {v : Value} {d d' : DK} (h : DiskV w col id gd mb v d) (hk : Keeps (fun k => k = gd) w w') (hg : w'.heap[gd]? = some (.cells (dcells d' mb v) 79 (0, 0)))
    (e1 : d'.n = d.n) (e2 : d'.safe = d.safe) (e3 : d'.cache = d.cache) (e4 : d'.m = d.m) : Step id w col w' col ∧ DiskV w' col id gd mb v d' := by
  have st : Step id w col w' col := ⟨hk.mono fun k _ e => e ▸ h.hcol, fun _ _ => rfl⟩
  have hr : ∀ s, Sec w col s → Sec w' col s := fun s hs => hs.step st h.nz
  refine ⟨st, ⟨h.hcol, h.nz, hg, ?_, h.blk, ?_, h.mne, h.mcol, fun i s hs => hr s (h.sd i s (by rw [← e2]; exact hs)), fun s hs => ?_, by rw [e1]; exact h.dom⟩⟩
  · rw [e3]; exact own_keep h.own fun k hk2 => hk.block k (h.own.lt k hk2).2 (h.blk k hk2).1
  · rw [e2, e4]; exact h.map.keep (hk.block mb h.map.lt h.mne)
  · rw [e3] at hs; rw [e1]; exact ⟨hr s (h.cd s hs).1, (h.cd s hs).2⟩

/-! ### asked -/
def askedK (d : DK) : DK × Int := if (d.off || (d.cut && d.left == 0)) = true then ({ d with ops := d.ops + 1, off := true }, 7) else ({ d with ops := d.ops + 1, left := d.left - 1 }, 0)

theorem keeps_set {I : Nat → Prop} {w W : World} {g j : Nat} {u : Value} (h : Keeps I w W) (hg : I g) : Keeps I w (W.setCell ⟨g, j, none⟩ u) := h.setCell (.inl hg) u
set_option maxHeartbeats 2000000 in
theorem asked_walk (gd mb : Nat) (v : Value) (d : DK) (a : Nat) (w : World) (hg : w.heap[gd]? = some (.cells (dcells d mb v) 79 (0, 0))) (hn : 1 ≤ d.n) (hf : d.fits a) (ha : a ≤ 1000000000) :
    Calls Try.prog 59 #[.pointer (some ⟨gd, 0, none⟩)] w fun e w' => e = .returned (.int .i64 (askedK d).2) ∧ Keeps (fun k => k = gd) w w' ∧ w'.heap[gd]? = some (.cells (dcells (askedK d).1 mb v) 79 (0, 0)) := by
  obtain ⟨n, safe, cache, cut, off, left, ops, m⟩ := d
  obtain ⟨f1, f2, f3, f4, -⟩ := hf
  simp only at f1 f2 f3 f4 hn
  simp only [dcells] at hg
  have c0 : w.cell? ⟨gd, 0, none⟩ = some (.int .i64 n) := by rw [cell_of_row _ _ 0 _ _ _ hg]; rfl
  have c3 : w.cell? ⟨gd, 3, none⟩ = some (.bool cut) := by rw [cell_of_row _ _ 3 _ _ _ hg]; rfl
  have c4 : w.cell? ⟨gd, 4, none⟩ = some (.bool off) := by rw [cell_of_row _ _ 4 _ _ _ hg]; rfl
  have c5 : w.cell? ⟨gd, 5, none⟩ = some (.int .i64 left) := by rw [cell_of_row _ _ 5 _ _ _ hg]; rfl
  have c6 : w.cell? ⟨gd, 6, none⟩ = some (.int .i64 ops) := by rw [cell_of_row _ _ 6 _ _ _ hg]; rfl
  have z6 := frozen_of_row _ _ 6 _ _ hg
  have hn0 : ((n : Int) == 0) = false := by simp; omega
  have hw6 : wrap64 (ops + 1) = ops + 1 := by unfold wrap64; omega
  have hw5 : wrap64 (left - 1) = left - 1 := by unfold wrap64; omega
  have h1 := row_set (j := 6) (.int .i64 (ops + 1)) hg
  have d3 : (w.setCell ⟨gd, 6, none⟩ (.int .i64 (ops + 1))).cell? ⟨gd, 3, none⟩ = some (.bool cut) := by rw [cell_of_row _ _ 3 _ _ _ h1]; rfl
  have d4 : (w.setCell ⟨gd, 6, none⟩ (.int .i64 (ops + 1))).cell? ⟨gd, 4, none⟩ = some (.bool off) := by rw [cell_of_row _ _ 4 _ _ _ h1]; rfl
  have d5 : (w.setCell ⟨gd, 6, none⟩ (.int .i64 (ops + 1))).cell? ⟨gd, 5, none⟩ = some (.int .i64 left) := by rw [cell_of_row _ _ 5 _ _ _ h1]; rfl
  have y4 := frozen_of_row _ _ 4 _ _ h1
  have h2 := fun b : Bool => row_set (j := 4) (.bool b) h1
  have e4 : ∀ b : Bool, ((w.setCell ⟨gd, 6, none⟩ (.int .i64 (ops + 1))).setCell ⟨gd, 4, none⟩ (.bool b)).cell? ⟨gd, 4, none⟩ = some (.bool b) := fun b => by rw [cell_of_row _ _ 4 _ _ _ (h2 b)]; rfl
  have e5 : ∀ b : Bool, ((w.setCell ⟨gd, 6, none⟩ (.int .i64 (ops + 1))).setCell ⟨gd, 4, none⟩ (.bool b)).cell? ⟨gd, 5, none⟩ = some (.int .i64 left) := fun b => by rw [cell_of_row _ _ 5 _ _ _ (h2 b)]; rfl
  have x5 := fun b => frozen_of_row _ _ 5 _ _ (h2 b)
  have h3 := fun b : Bool => row_set (j := 5) (.int .i64 (left - 1)) (h2 b)
  have hk2 := fun b : Bool => keeps_set (j := 4) (u := .bool b) (keeps_set (j := 6) (u := .int .i64 (ops + 1)) (Keeps.refl (fun k => k = gd) w) rfl) rfl
  have HK2 := Lib.hid hk2
  have HK3 := Lib.hid (fun b : Bool => keeps_set (j := 5) (u := .int .i64 (left - 1)) (hk2 b) rfl)
  have H2 := Lib.hid h2
  have H3 := Lib.hid h3
  clear h1 h2 h3 hg hk2
  cases off with
  | true =>
    go_enter Try.func59, Try.ntmps59
    go_wp2
    go_ret
    exact ⟨rfl, HK2.out true, H2.out true⟩
  | false =>
    cases cut with
    | false =>
      go_enter Try.func59, Try.ntmps59
      go_wp2
      go_ret
      exact ⟨rfl, HK3.out false, H3.out false⟩
    | true =>
      by_cases hl : left = 0
      · subst hl
        go_enter Try.func59, Try.ntmps59
        go_wp2
        go_ret
        exact ⟨rfl, HK2.out true, H2.out true⟩
      · have hlb : (left == 0) = false := by simp [hl]
        have HA : Hid (askedK { n := n, safe := safe, cache := cache, cut := true, off := false, left := left, ops := ops, m := m } = ({ n := n, safe := safe, cache := cache, cut := true, off := false, left := left - 1, ops := ops + 1, m := m }, 0)) := Lib.hid (by simp [askedK, hl])
        rw [HA.out]
        go_enter Try.func59, Try.ntmps59
        go_wp2
        go_ret
        exact ⟨rfl, HK3.out false, H3.out false⟩
theorem asked_any (id gd mb : Nat) (v : Value) (d : DK) (a : Nat) (w : World) (col : Nat → Nat) (h : DiskV w col id gd mb v d) (hf : d.fits a) (ha : a ≤ 1000000000) :
    Calls Try.prog 59 #[.pointer (some ⟨gd, 0, none⟩)] w fun e w' => e = .returned (.int .i64 (askedK d).2) ∧ Step id w col w' col ∧ DiskV w' col id gd mb v (askedK d).1 := by
  refine (asked_walk gd mb v d a w h.obj h.dom.1 hf ha).mono ?_
  rintro e w' ⟨rfl, hk, hg⟩
  obtain ⟨st, hd⟩ := h.put hk hg (by unfold askedK; split <;> rfl) (by unfold askedK; split <;> rfl) (by unfold askedK; split <;> rfl) (by unfold askedK; split <;> rfl)
  exact ⟨rfl, st, hd⟩
end Go.Proofs.Ytdldclakkplliaa
