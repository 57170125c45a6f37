/- A journal, as it lies in memory, and the walks of what only looks at it. Conditions: none. -/
import Derived.Test.YtdldclakkplliaaJGet
namespace Go.Proofs.Ytdldclakkplliaa
set_option linter.unusedVariables false
set_option linter.unusedSimpArgs false
open Go.RowKit

/-- Bytes that nobody writes any more. -/
def Sl (w : World) (col : Nat → Nat) (s : Wr) : Prop := SV s.A s.b.length s.c ∧ RC w col 0 s.A s.b
def lval (s : Wr) : Value := .slice s.A s.b.length s.c
def rowL (ls : List Wr) : List Value := ls.map lval
theorem rowL_length (ls : List Wr) : (rowL ls).length = ls.length := by simp [rowL]
theorem rowL_get (ls : List Wr) (j : Nat) (s : Wr) (h : ls[j]? = some s) : (rowL ls)[j]? = some (lval s) := by simp [rowL, h]
theorem rowL_one (ls : List Wr) : ∀ u ∈ rowL ls, u.oneCell' = true := by
  intro u hu
  obtain ⟨s, _, rfl⟩ := List.mem_map.1 hu
  rfl
theorem rowL_append (a b : List Wr) : rowL (a ++ b) = rowL a ++ rowL b := by simp [rowL]
theorem own_FL {w : World} {base : Nat} {e : TypeId} {v : Value} {ls : List Wr} (h : w.ownsRow base e 1 v ls.length (rowL ls)) :
    ∃ A c, v = .slice A ls.length c ∧ ls.length ≤ c ∧ (A = none → c = 0) ∧ ∀ j s, ls[j]? = some s → ∃ g, A = some ⟨g, 0, none⟩ ∧ w.cell? ⟨g, j, none⟩ = some (lval s) := by
  have h0 := h
  rcases h.2 with ⟨rfl, h1⟩ | ⟨g, cap, cur, rfl, hb, hh, h1, h2, h3, h4⟩
  · refine ⟨none, 0, by rw [h1], by omega, fun _ => rfl, fun j s hs => ?_⟩
    have := (List.getElem?_eq_some_iff.1 hs).1
    omega
  · refine ⟨_, _, rfl, h1, fun e => (by cases e), fun j s hs => ⟨g, rfl, ?_⟩⟩
    have hj := (List.getElem?_eq_some_iff.1 hs).1
    rw [World.ownsRow.cellAt h0 j (by omega)]
    exact rowL_get ls j s hs
structure JK where
  half : Nat
  number : Nat
  base : Wr
  recs : List Wr
  endp : Nat
  dead : Bool
def jcells (j : JK) (gd : Nat) (vr : Value) : Array Value := #[.pointer (some ⟨gd, 0, none⟩), .int .i64 (j.half : Int), .int .i64 (j.number : Int), .slice j.base.A j.base.b.length j.base.c, vr, .int .i64 (j.endp : Int), .bool j.dead]
structure JV (w : World) (col : Nat → Nat) (id gj gd : Nat) (vr : Value) (j : JK) : Prop where
  hcol : col gj = id
  nz : id ≠ 0
  obj : w.heap[gj]? = some (.cells (jcells j gd vr) 81 (0, 0))
  own : w.ownsRow 0 22 1 vr j.recs.length (rowL j.recs)
  blk : ∀ k, vr.ownBlock = some k → k ≠ gj ∧ col k = id
  sb : Sl w col j.base
  sr : ∀ s, s ∈ j.recs → Sl w col s
def JAt (w : World) (col : Nat → Nat) (id gj gd : Nat) (j : JK) : Prop := ∃ vr, JV w col id gj gd vr j
/-- Its numbers are within bounds. -/
def JK.fits (j : JK) : Prop := j.half ≤ 1 ∧ j.number ≤ 1000000 ∧ j.endp ≤ 10000000 ∧ j.recs.length ≤ 1000000 ∧ j.base.b.length ≤ 10000000
theorem Sl.step {w w' : World} {col col' : Nat → Nat} {id : Nat} {s : Wr} (h : Sl w col s) (st : Step id w col w' col') (hz : id ≠ 0) : Sl w' col' s := ⟨h.1, h.2.step st hz⟩
theorem Sl.recol {w : World} {col col' : Nat → Nat} {s : Wr} (h : Sl w col s) (hs : ∀ k, k < w.heap.size → col' k = col k) : Sl w col' s := ⟨h.1, h.2.recol hs⟩
theorem Sl.below {w w' : World} {col : Nat → Nat} {s : Wr} (h : Sl w col s) (hb : Below w.heap.size w w') : Sl w' col s := ⟨h.1, h.2.below hb⟩
theorem JV.lt {w : World} {col : Nat → Nat} {id gj gd : Nat} {vr : Value} {j : JK} (h : JV w col id gj gd vr j) : gj < w.heap.size := (Array.getElem?_eq_some_iff.1 h.obj).1
theorem JV.step {w w' : World} {col col' : Nat → Nat} {id gj gd i : Nat} {vr : Value} {j : JK} (h : JV w col id gj gd vr j) (s : Step i w col w' col') (hi : i ≠ id) (hz : i ≠ 0) : JV w' col' id gj gd vr j := by
  have hg := h.lt
  refine ⟨(s.same gj hg).trans h.hcol, h.nz, ?_, own_keep h.own fun k hk => s.keeps.block k (h.own.lt k hk).2 (fun e => hi (e.symm.trans (h.blk k hk).2)), fun k hk => ⟨(h.blk k hk).1, (s.same k (h.own.lt k hk).2).trans (h.blk k hk).2⟩, h.sb.step s hz, fun q hq => (h.sr q hq).step s hz⟩
  rw [s.keeps.block gj hg (fun e => hi (e.symm.trans h.hcol))]
  exact h.obj
theorem JV.recol {w : World} {col col' : Nat → Nat} {id gj gd : Nat} {vr : Value} {j : JK} (h : JV w col id gj gd vr j) (hs : ∀ k, k < w.heap.size → col' k = col k) : JV w col' id gj gd vr j :=
  ⟨(hs gj h.lt).trans h.hcol, h.nz, h.obj, h.own, fun k hk => ⟨(h.blk k hk).1, (hs k (h.own.lt k hk).2).trans (h.blk k hk).2⟩, h.sb.recol hs, fun q hq => (h.sr q hq).recol hs⟩
theorem JV.below {w w' : World} {col : Nat → Nat} {id gj gd : Nat} {vr : Value} {j : JK} (h : JV w col id gj gd vr j) (hb : Below w.heap.size w w') : JV w' col id gj gd vr j :=
  ⟨h.hcol, h.nz, heap_below h.obj hb, own_keep h.own fun k hk => hb.block k (h.own.lt k hk).2, h.blk, h.sb.below hb, fun q hq => (h.sr q hq).below hb⟩
theorem JV.grow {w w' : World} {col : Nat → Nat} {id gj gd : Nat} {vr : Value} {j : JK} (h : JV w col id gj gd vr j) (hb : Below w.heap.size w w') (new : Nat → Nat) : JV w' (paint w col new) id gj gd vr j :=
  (h.recol (fun k hk => paint_old hk)).below hb
theorem JAt.step {w w' : World} {col col' : Nat → Nat} {id gj gd i : Nat} {j : JK} (h : JAt w col id gj gd j) (s : Step i w col w' col') (hi : i ≠ id) (hz : i ≠ 0) : JAt w' col' id gj gd j := ⟨_, h.choose_spec.step s hi hz⟩
theorem JAt.below {w w' : World} {col : Nat → Nat} {id gj gd : Nat} {j : JK} (h : JAt w col id gj gd j) (hb : Below w.heap.size w w') : JAt w' col id gj gd j := ⟨_, h.choose_spec.below hb⟩
theorem JAt.grow {w w' : World} {col : Nat → Nat} {id gj gd : Nat} {j : JK} (h : JAt w col id gj gd j) (hb : Below w.heap.size w w') (new : Nat → Nat) : JAt w' (paint w col new) id gj gd j := ⟨_, h.choose_spec.grow hb new⟩

/-! ### none, Dead, fails, size, Room -/
theorem none_any (gj gd : Nat) (vr : Value) (j : JK) (w : World) (hg : w.heap[gj]? = some (.cells (jcells j gd vr) 81 (0, 0))) :
    Calls Try.prog 54 #[.pointer (some ⟨gj, 0, none⟩)] w fun e w' => e = .returned (.bool false) ∧ w = w' := by
  have c0 : w.cell? ⟨gj, 0, none⟩ = some (.pointer (some ⟨gd, 0, none⟩)) := by rw [cell_of_row _ _ 0 _ _ _ hg]; rfl
  clear hg
  go_enter Try.func54, Try.ntmps54
  go_wp2
  go_ret
  exact ⟨rfl, rfl⟩
theorem dead_any (gj gd : Nat) (vr : Value) (j : JK) (w : World) (hg : w.heap[gj]? = some (.cells (jcells j gd vr) 81 (0, 0))) :
    Calls Try.prog 25 #[.pointer (some ⟨gj, 0, none⟩)] w fun e w' => e = .returned (.bool j.dead) ∧ w = w' := by
  have c6 : w.cell? ⟨gj, 6, none⟩ = some (.bool j.dead) := by rw [cell_of_row _ _ 6 _ _ _ hg]; rfl
  have HG := Lib.hid hg
  clear hg
  go_enter Try.func25, Try.ntmps25
  go_wp2_with fail
  refine (none_any gj gd vr j w HG.out).mono ?_
  rintro e w' ⟨rfl, rfl⟩
  go_wp2
  go_ret
  exact ⟨rfl, rfl⟩
theorem size_any (gj gd mb : Nat) (vr v : Value) (j : JK) (d : DK) (w : World) (hg : w.heap[gj]? = some (.cells (jcells j gd vr) 81 (0, 0))) (hd : w.heap[gd]? = some (.cells (dcells d mb v) 79 (0, 0))) (hn : d.n ≤ 65536) :
    Calls Try.prog 46 #[.pointer (some ⟨gj, 0, none⟩)] w fun e w' => e = .returned (.int .i64 ((d.n / 2 * 64 : Nat) : Int)) ∧ w = w' := by
  have c0 : w.cell? ⟨gj, 0, none⟩ = some (.pointer (some ⟨gd, 0, none⟩)) := by rw [cell_of_row _ _ 0 _ _ _ hg]; rfl
  have HD := Lib.hid hd
  clear hg hd
  go_enter Try.func46, Try.ntmps46
  go_wp2_with fail
  refine (sectors_any gd mb v d w HD.out).mono ?_
  rintro e w' ⟨rfl, rfl⟩
  have ht : (d.n : Int).tdiv 2 = ((d.n / 2 : Nat) : Int) := by rw [Int.tdiv_eq_ediv_of_nonneg (by omega)]; omega
  go_wp2
  go_ret
  exact ⟨ret_int (by omega), rfl⟩
def roomN (n e : Nat) : Int := max (min ((n / 2 * 64 : Nat) - (placeN e : Int) - 9) 60000) (-1)
theorem room_any (gj gd mb : Nat) (vr v : Value) (j : JK) (d : DK) (w : World) (hg : w.heap[gj]? = some (.cells (jcells j gd vr) 81 (0, 0))) (hd : w.heap[gd]? = some (.cells (dcells d mb v) 79 (0, 0))) (hn : d.n ≤ 65536) (he : j.endp ≤ 10000000) :
    Calls Try.prog 38 #[.pointer (some ⟨gj, 0, none⟩)] w fun e w' => e = .returned (.int .i64 (roomN d.n j.endp)) ∧ Below w.heap.size w w' := by
  have c5 : w.cell? ⟨gj, 5, none⟩ = some (.int .i64 (j.endp : Int)) := by rw [cell_of_row _ _ 5 _ _ _ hg]; rfl
  have HG := Lib.hid hg
  obtain ⟨S, hS⟩ : ∃ S : Nat, S = d.n / 2 * 64 := ⟨_, rfl⟩
  obtain ⟨P, hP⟩ : ∃ P : Nat, P = placeN j.endp := ⟨_, rfl⟩
  have hSl : S ≤ 10000000 := by omega
  have hPl : P ≤ 10000008 := by have := placeN_le j.endp; omega
  have HR : Hid (roomN d.n j.endp = max (min ((S : Int) - (P : Int) - 9) 60000) (-1)) := Lib.hid (by unfold roomN; rw [hS, hP])
  have HC1 : Hid (∀ X, X.heap = w.heap → Calls Try.prog 46 #[.pointer (some ⟨gj, 0, none⟩)] X fun e w' => e = .returned (.int .i64 (S : Int)) ∧ w' = X) := Lib.hid (fun X hX => by
    rw [hS]
    exact (size_any gj gd mb vr v j d X (by rw [hX]; exact hg) (by rw [hX]; exact hd) hn).mono fun _ _ ⟨a, b⟩ => ⟨a, b.symm⟩)
  have HC2 : Hid (∀ X, Calls Try.prog 53 #[.int .i64 (j.endp : Int)] X fun e w' => e = .returned (.int .i64 (P : Int)) ∧ w' = X) := Lib.hid (fun X => by
    rw [hP]
    exact (place_any j.endp X (by omega)).mono fun _ _ ⟨a, b⟩ => ⟨a, b.symm⟩)
  clear hg hd hS hP
  rw [HR.out]
  go_enter Try.func38, Try.ntmps38
  go_wp2_with fail
  refine (none_any gj gd vr j w HG.out).mono ?_
  rintro e w' ⟨rfl, rfl⟩
  go_upto_region 3 with fail
  go_quiet (first
    | (go_at_call 46; refine Calls.quiet_of_same (HC1.out _ rfl))
    | (go_at_call 53; refine Calls.quiet_of_same (HC2.out _)))
  go_wp2
  go_ret
  exact ⟨rfl, bel_drewM (Below.refl _ _) _⟩
end Go.Proofs.Ytdldclakkplliaa
