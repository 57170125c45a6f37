/- The walk of Take: a frame is taken, or none waits. Conditions: none. -/
import Derived.Test.YtbjkeakehdljlaaSend
import Derived.Laws.ResultCell
namespace Go.Proofs.Ytbjkeakehdljlaa
set_option linter.unusedVariables false
set_option linter.unusedSimpArgs false
open Go.RowKit

def noFrame : Value := .agg #[.int .i64 0, .int .i64 0, .slice none 0 0]
def frameV (p : P) : Value := .agg #[.int .i64 p.id, .int .i64 p.to, .slice p.A p.b.length p.c]

theorem FR.below {w w' : World} {A : Option Addr} {c : Nat} {ps : List P} (h : FR w A c ps) (hb : Below w.heap.size w w') : FR w' A c ps := by
  refine ⟨h.len, h.nil, fun j p hp => ?_⟩
  obtain ⟨g, e, h0, h1, h2⟩ := h.at_ j p hp
  exact ⟨g, e, (hb.cell (World.block_lt_of_cell? w _ h0)).trans h0, (hb.cell (World.block_lt_of_cell? w _ h1)).trans h1, (hb.cell (World.block_lt_of_cell? w _ h2)).trans h2⟩
theorem heap_below {w w' : World} {g : Nat} {o : Obj} (h : w.heap[g]? = some o) (hb : Below w.heap.size w w') : w'.heap[g]? = some o := (hb.block g (Array.getElem?_eq_some_iff.1 h).1).trans h

set_option maxHeartbeats 1000000 in
theorem take_not (p : Option Addr) (x : Int) (w : World) (hf : ∀ W, Below w.heap.size w W → Calls Try.prog 22 #[.pointer p, .int .i64 x] W fun e w' => e = .returned (.int .i64 (-1)) ∧ W = w') :
    Calls Try.prog 10 #[.pointer p, .int .i64 x] w fun e w' => e = .returned (.tuple #[noFrame, .int .i64 5]) ∧ Below w.heap.size w w' := by
  have HF := Lib.hid hf
  clear hf
  go_enter Try.func10, Try.ntmps10
  go_wp2_with fail
  have hb1 := bel_alloc (Below.refl w.heap.size w) (Obj.cells #[Value.int IntKind.i64 0, Value.int IntKind.i64 0, Value.slice none 0 0] 31)
  have HB1 := Lib.hid hb1
  clear hb1
  refine (HF.out _ HB1.out).mono ?_
  rintro e w' ⟨rfl, rfl⟩
  go_wp2
  refine bodyPost_ret (v := .tuple #[noFrame, .int .i64 5]) ?_ rfl ⟨rfl, HB1.out⟩
  rw [results_cell_tmp rfl]
  go_simp
  rfl

/-- What Take leaves behind, at the level of memory. -/
structure TakeP (g : Nat) (last : Int) (gg : Nat) (ps : List P) (i : Nat) (w w' : World) : Prop where
  ex : ∃ c, w'.heap[g]? = some (.cells #[.int .i64 last, .slice (some ⟨gg, 0, none⟩) (ps.length - 1) c] 60 (0, 0)) ∧ w'.ownsRow 0 31 3 (.slice (some ⟨gg, 0, none⟩) (ps.length - 1) c) (ps.length - 1) (rowOf (ps.eraseIdx i))
  keeps : Keeps (fun k => k = g ∨ k = gg) w w'

set_option maxHeartbeats 1000000 in
theorem take_some (g : Nat) (last : Int) (ps : List P) (x : Int) (gg c i : Nat) (p : P) (w : World) (hg : w.heap[g]? = some (.cells #[.int .i64 last, .slice (some ⟨gg, 0, none⟩) ps.length c] 60 (0, 0))) (hown : w.ownsRow 0 31 3 (.slice (some ⟨gg, 0, none⟩) ps.length c) ps.length (rowOf ps)) (hne : gg ≠ g)
    (hlen : ps.length ≤ 1000000) (hx : fnd ps x = (i : Int)) (hp : ps[i]? = some p) :
    Calls Try.prog 10 #[.pointer (some ⟨g, 0, none⟩), .int .i64 x] w fun e w' => e = .returned (.tuple #[frameV p, .int .i64 0]) ∧ TakeP g last gg ps i w w' := by
  obtain ⟨A0, c0, he, hr⟩ := own_FR hown
  cases he
  have hil := (List.getElem?_eq_some_iff.1 hp).1
  have HG := Lib.hid hg
  have HR := Lib.hid hr
  have HX := Lib.hid hx
  have HP := Lib.hid hp
  have HO := Lib.hid hown
  have hlc := hr.len
  clear hg hr hx hp hown
  go_enter Try.func10, Try.ntmps10
  go_wp2_with fail
  have hb1 := bel_alloc (Below.refl w.heap.size w) (Obj.cells #[Value.int IntKind.i64 0, Value.int IntKind.i64 0, Value.slice none 0 0] 31)
  have HB1 := Lib.hid hb1
  clear hb1
  refine (find_any g last ps x _ c _ (heap_below HG.out HB1.out) (HR.out.below HB1.out) hlen).mono ?_
  rintro e w' ⟨rfl, rfl⟩
  rw [HX.out]
  obtain ⟨g', e', hc0, hc1, hc2⟩ := (HR.out.below HB1.out).at_ i p HP.out
  cases e'
  have hd1 : (w.alloc (Obj.cells #[Value.int IntKind.i64 0, Value.int IntKind.i64 0, Value.slice none 0 0] 31)).cell? ⟨g, 1, none⟩ = some (.slice (some ⟨gg, 0, none⟩) ps.length c) := by rw [cell_of_row _ g 1 _ 60 (0, 0) (heap_below HG.out HB1.out)]; rfl
  have hb2 := bel_alloc HB1.out (Obj.cells #[.int .i64 p.id, .int .i64 p.to, .slice p.A p.b.length p.c] 31)
  have HB2 := Lib.hid hb2
  have hd2 : ((w.alloc (Obj.cells #[Value.int IntKind.i64 0, Value.int IntKind.i64 0, Value.slice none 0 0] 31)).alloc (Obj.cells #[.int .i64 p.id, .int .i64 p.to, .slice p.A p.b.length p.c] 31)).cell? ⟨g, 1, none⟩ = some (.slice (some ⟨gg, 0, none⟩) ps.length c) := by rw [cell_of_row _ g 1 _ 60 (0, 0) (heap_below HG.out HB2.out)]; rfl
  have ha1 : ((w.alloc (Obj.cells #[Value.int IntKind.i64 0, Value.int IntKind.i64 0, Value.slice none 0 0] 31)).alloc (Obj.cells #[.int .i64 p.id, .int .i64 p.to, .slice p.A p.b.length p.c] 31)).heap[w.heap.size]? = some (.cells #[Value.int IntKind.i64 0, Value.int IntKind.i64 0, Value.slice none 0 0] 31 (0, 0)) := by
    rw [Below.heap_alloc _ _ _ (by simp)]
    exact heap_alloc_new w _
  have ha2 : ((w.alloc (Obj.cells #[Value.int IntKind.i64 0, Value.int IntKind.i64 0, Value.slice none 0 0] 31)).alloc (Obj.cells #[.int .i64 p.id, .int .i64 p.to, .slice p.A p.b.length p.c] 31)).heap[w.heap.size + 1]? = some (.cells #[.int .i64 p.id, .int .i64 p.to, .slice p.A p.b.length p.c] 31 (0, 0)) := by
    have := heap_alloc_new (w.alloc (Obj.cells #[Value.int IntKind.i64 0, Value.int IntKind.i64 0, Value.slice none 0 0] 31)) (Obj.cells #[.int .i64 p.id, .int .i64 p.to, .slice p.A p.b.length p.c] 31)
    simpa using this
  have HA1 := Lib.hid ha1
  have HA2 := Lib.hid ha2
  clear hb2 ha1 ha2
  have hiw : wrap64 ((i : Int) + 1) = (i : Int) + 1 := by unfold wrap64; omega
  go_wp2_with fail
  have HO2 := Lib.hid (own_keep HO.out fun k hk => HB2.out.block k (HO.out.lt k hk).2)
  have hgg : gg < w.heap.size := (HO.out.lt gg rfl).2
  have hgl : g < w.heap.size := (Array.getElem?_eq_some_iff.1 HG.out).1
  have HGG := Lib.hid hgg
  have HGL := Lib.hid hgl
  clear hgg hgl
  refine (delete_any gg 0 c ps i _ HO2.out hil hlen).mono ?_
  rintro e w3 ⟨c', rfl, ho3, hk3⟩
  have HA13 := Lib.hid ((hk3.block w.heap.size (by simp; omega) (by have := HGG.out; omega)).trans HA1.out)
  have HA23 := Lib.hid ((hk3.block (w.heap.size + 1) (by simp) (by have := HGG.out; omega)).trans HA2.out)
  have HG3 := Lib.hid ((hk3.block g (by have := HGL.out; simp; omega) (fun e => hne e.symm)).trans (heap_below HG.out HB2.out))
  have hk4 : Keeps (fun k => k = g ∨ k = gg) w w3 := ⟨hk3.os.trans HB2.out.os, hk3.tape.trans HB2.out.tape, hk3.output.trans HB2.out.output, Nat.le_trans HB2.out.size hk3.size, fun k hk hn => (hk3.block k (by simp; omega) (fun e => hn (.inr e))).trans (HB2.out.block k hk)⟩
  have HK4 := Lib.hid hk4
  have HO3 := Lib.hid ho3
  clear hk3 hk4 ho3 hc0 hc1 hc2 hd1 hd2
  obtain ⟨ps', hps'⟩ : ∃ n, n = ps.length - 1 := ⟨_, rfl⟩
  have hd3 : w3.cell? ⟨g, 1, none⟩ = some (.slice (some ⟨gg, 0, none⟩) ps.length c) := by rw [cell_of_row _ g 1 _ 60 (0, 0) HG3.out]; rfl
  have hf3 : w3.frozen? ⟨g, 1, none⟩ = false := frozen_of_row _ g 1 _ 60 HG3.out
  have hq : ∀ v, (w3.setCell ⟨g, 1, none⟩ v).heap[w.heap.size]? = some (.cells #[Value.int IntKind.i64 0, Value.int IntKind.i64 0, Value.slice none 0 0] 31 (0, 0)) := fun v => (Below.heap_setCell w3 ⟨g, 1, none⟩ v _ (by have := HGL.out; show w.heap.size ≠ g; omega)).trans HA13.out
  have hq2 : ∀ v, (w3.setCell ⟨g, 1, none⟩ v).heap[w.heap.size + 1]? = some (.cells #[.int .i64 p.id, .int .i64 p.to, .slice p.A p.b.length p.c] 31 (0, 0)) := fun v => (Below.heap_setCell w3 ⟨g, 1, none⟩ v _ (by have := HGL.out; show w.heap.size + 1 ≠ g; omega)).trans HA23.out
  have HQ := Lib.hid (hq (.slice (some ⟨gg, 0, none⟩) (ps.length - 1) c'))
  have HQ2 := Lib.hid (hq2 (.slice (some ⟨gg, 0, none⟩) (ps.length - 1) c'))
  have r0 := cell_of_row _ _ 0 _ _ _ HQ2.out
  have r1 := cell_of_row _ _ 1 _ _ _ HQ2.out
  have r2 := cell_of_row _ _ 2 _ _ _ HQ2.out
  have s0 := cell_of_row _ _ 0 _ _ _ HQ.out
  have s1 := cell_of_row _ _ 1 _ _ _ HQ.out
  have s2 := cell_of_row _ _ 2 _ _ _ HQ.out
  have f0 := frozen_of_row _ _ 0 _ _ HQ.out
  have f1 := frozen_of_row _ _ 1 _ _ HQ.out
  have f2 := frozen_of_row _ _ 2 _ _ HQ.out
  simp at r0 r1 r2 s0 s1 s2
  clear hq hq2
  go_wp2_with fail
  have hgl : g < w.heap.size := HGL.out
  have hggl : gg < w.heap.size := HGG.out
  have hset := row_set (j := 1) (.slice (some ⟨gg, 0, none⟩) (ps.length - 1) c') HG3.out
  refine bodyPost_ret (v := .tuple #[frameV p, .int .i64 0]) ?_ rfl ⟨rfl, ⟨⟨c', ?_, ?_⟩, ?_⟩⟩
  · rw [results_cell_tmp rfl]
    go_simp
    rfl
  · rw [Below.heap_setCell _ _ _ _ (by show g ≠ w.heap.size; omega), Below.heap_setCell _ _ _ _ (by show g ≠ w.heap.size; omega), Below.heap_setCell _ _ _ _ (by show g ≠ w.heap.size; omega)]
    exact hset
  · refine own_keep HO3.out fun k hk => ?_
    cases hk
    rw [Below.heap_setCell _ _ _ _ (by show gg ≠ w.heap.size; omega), Below.heap_setCell _ _ _ _ (by show gg ≠ w.heap.size; omega), Below.heap_setCell _ _ _ _ (by show gg ≠ w.heap.size; omega), Below.heap_setCell _ _ _ _ (by show gg ≠ g; exact hne)]
  · exact (((HK4.out.setCell (.inl (.inl rfl)) _).setCell (.inr (Nat.le_refl _)) _).setCell (.inr (Nat.le_refl _)) _).setCell (.inr (Nat.le_refl _)) _
end Go.Proofs.Ytbjkeakehdljlaa
