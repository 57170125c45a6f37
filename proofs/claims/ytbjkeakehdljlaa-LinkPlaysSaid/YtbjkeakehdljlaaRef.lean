/- The document's own link, as it lies in memory, and the walks of its smaller functions. Conditions: none. -/
import Derived.Test.YtbjkeakehdljlaaAwake
namespace Go.Proofs.Ytbjkeakehdljlaa
set_option linter.unusedVariables false
set_option linter.unusedSimpArgs false
open Go.RowKit

theorem info47 : ∃ z, (Try.prog.info? 47).map (fun i => (i.zero, i.size, i.bytes)) = some (some z, 3, 40) ∧ z.cells.size = 3 := ⟨_, rfl, by kernel_rfl⟩
theorem rowOf_one (ps : List P) : ∀ u ∈ rowOf ps, u.oneCell' = true := by
  intro u hu
  obtain ⟨p, _, h⟩ := List.mem_flatMap.1 hu
  simp only [pcells, List.mem_cons, List.not_mem_nil, or_false] at h
  rcases h with rfl | rfl | rfl <;> rfl
theorem FR.cellAt {w : World} {A : Option Addr} {c : Nat} {ps : List P} (h : FR w A c ps) (j : Nat) (u : Value) (hu : (rowOf ps)[j]? = some u) : ∃ g, A = some ⟨g, 0, none⟩ ∧ w.cell? ⟨g, j, none⟩ = some u := by
  have hj := (List.getElem?_eq_some_iff.1 hu).1
  rw [rowOf_length] at hj
  have hi : j / 3 < ps.length := by omega
  obtain ⟨g, e, h0, h1, h2⟩ := h.at_ (j / 3) ps[j / 3] (List.getElem?_eq_getElem hi)
  refine ⟨g, e, ?_⟩
  have hr := rowOf_get ps (j / 3) (j % 3) hi (by omega)
  rw [show j / 3 * 3 + j % 3 = j by omega, hu] at hr
  have hc : j % 3 = 0 ∨ j % 3 = 1 ∨ j % 3 = 2 := by omega
  rcases hc with hc | hc | hc
  · rw [hc] at hr; cases hr; rw [show j / 3 * 3 = j by omega] at h0; exact h0
  · rw [hc] at hr; cases hr; rw [show j / 3 * 3 + 1 = j by omega] at h1; exact h1
  · rw [hc] at hr; cases hr; rw [show j / 3 * 3 + 2 = j by omega] at h2; exact h2
theorem FR.news {w : World} {A : Option Addr} {c : Nat} {ps : List P} (h : FR w A c ps) : 0 < ps.length → ∃ ad, A = some ad ∧ ∀ j u, (rowOf ps)[j]? = some u → w.cell? (ad.add j) = some u := by
  intro hp
  obtain ⟨g, e, -⟩ := h.at_ 0 ps[0] (List.getElem?_eq_getElem hp)
  refine ⟨_, e, fun j u hu => ?_⟩
  obtain ⟨g', e', hc⟩ := h.cellAt j u hu
  rw [e] at e'
  cases e'
  rw [add0]
  exact hc
theorem FR.keep {w w' : World} {A : Option Addr} {c : Nat} {ps : List P} (h : FR w A c ps) (hk : 0 < ps.length → ∀ ad, A = some ad → w'.heap[ad.block]? = w.heap[ad.block]?) : FR w' A c ps := by
  refine ⟨h.len, h.nil, fun j p hp => ?_⟩
  obtain ⟨g, e, h0, h1, h2⟩ := h.at_ j p hp
  have hj := (List.getElem?_eq_some_iff.1 hp).1
  have hh := hk (by omega) _ e
  exact ⟨g, e, (World.cell?_of_block (a := ⟨g, j * 3, none⟩) hh).trans h0, (World.cell?_of_block (a := ⟨g, j * 3 + 1, none⟩) hh).trans h1, (World.cell?_of_block (a := ⟨g, j * 3 + 2, none⟩) hh).trans h2⟩
theorem FR.lt {w : World} {A : Option Addr} {c : Nat} {ps : List P} (h : FR w A c ps) (hp : 0 < ps.length) : ∀ ad, A = some ad → ad.block < w.heap.size := by
  intro ad e
  obtain ⟨g, e', h0, -⟩ := h.at_ 0 ps[0] (List.getElem?_eq_getElem hp)
  rw [e] at e'
  cases e'
  exact World.block_lt_of_cell? w _ h0

/-- The document's link at block g, in the colour id; its frames, and their bytes, in blocks that nobody writes any more. -/
structure RefAt (w : World) (col : Nat → Nat) (id g : Nat) (last : Int) (ps : List P) : Prop where
  hcol : col g = id
  nz : id ≠ 0
  ex : ∃ A c, w.heap[g]? = some (.cells #[.int .i64 last, .slice A ps.length c] 44 (0, 0)) ∧ FR w A c ps ∧ (0 < ps.length → ∀ ad, A = some ad → col ad.block = 0)
  dat : ∀ p, p ∈ ps → SV p.A p.b.length p.c ∧ RC w col 0 p.A p.b
theorem RefAt.step {w w' : World} {col col' : Nat → Nat} {id g j : Nat} {last : Int} {ps : List P} (h : RefAt w col id g last ps) (s : Step j w col w' col') (hj : j ≠ id) (hz : j ≠ 0) : RefAt w' col' id g last ps := by
  obtain ⟨A, c, h1, h2, h3⟩ := h.ex
  have hg : g < w.heap.size := (Array.getElem?_eq_some_iff.1 h1).1
  refine ⟨(s.same g hg).trans h.hcol, h.nz, ⟨A, c, ?_, h2.keep fun hp ad e => s.keeps.block _ (h2.lt hp ad e) (fun e2 => hz (e2.symm.trans (h3 hp ad e))), fun hp ad e => (s.same _ (h2.lt hp ad e)).trans (h3 hp ad e)⟩, fun p hp => ⟨(h.dat p hp).1, (h.dat p hp).2.step s hz⟩⟩
  rw [s.keeps.block g hg (fun e => hj (e.symm.trans h.hcol))]
  exact h1
theorem RefAt.recol {w : World} {col col' : Nat → Nat} {id g : Nat} {last : Int} {ps : List P} (h : RefAt w col id g last ps) (hs : ∀ k, k < w.heap.size → col' k = col k) : RefAt w col' id g last ps := by
  obtain ⟨A, c, h1, h2, h3⟩ := h.ex
  exact ⟨(hs g (Array.getElem?_eq_some_iff.1 h1).1).trans h.hcol, h.nz, ⟨A, c, h1, h2, fun hp ad e => (hs _ (h2.lt hp ad e)).trans (h3 hp ad e)⟩, fun p hp => ⟨(h.dat p hp).1, (h.dat p hp).2.recol hs⟩⟩
theorem RefAt.below {w w' : World} {col : Nat → Nat} {id g : Nat} {last : Int} {ps : List P} (h : RefAt w col id g last ps) (hb : Below w.heap.size w w') : RefAt w' col id g last ps := by
  obtain ⟨A, c, h1, h2, h3⟩ := h.ex
  exact ⟨h.hcol, h.nz, ⟨A, c, heap_below h1 hb, h2.below hb, h3⟩, fun p hp => ⟨(h.dat p hp).1, (h.dat p hp).2.below hb⟩⟩
theorem RefAt.grow {w w' : World} {col : Nat → Nat} {id g : Nat} {last : Int} {ps : List P} (h : RefAt w col id g last ps) (hb : Below w.heap.size w w') (new : Nat → Nat) : RefAt w' (paint w col new) id g last ps :=
  (h.recol (fun k hk => paint_old hk)).below hb

set_option maxHeartbeats 1000000 in
theorem at_any (g : Nat) (last : Int) (ps : List P) (x : Int) (A : Option Addr) (c : Nat) (w : World) (hg : w.heap[g]? = some (.cells #[.int .i64 last, .slice A ps.length c] 44 (0, 0))) (hr : FR w A c ps) (hlen : ps.length ≤ 1000000) :
    Calls Try.prog 25 #[.pointer (some ⟨g, 0, none⟩), .int .i64 x] w fun e w' => e = .returned (.int .i64 (fnd ps x)) ∧ w = w' := by
  have hc1 : w.cell? ⟨g, 1, none⟩ = some (.slice A ps.length c) := by rw [cell_of_row w g 1 _ 44 (0, 0) hg]; rfl
  have HR := Lib.hid hr
  clear hg hr
  go_enter Try.func25, Try.ntmps25
  go_wp2
  go_loop [4, 5] (fun r i => ∃ (k : Nat), k ≤ ps.length ∧ i = .int .i64 k ∧ Hid (∀ j q, j < k → ps[j]? = some q → q.id ≠ x)) (fun _ i => ps.length - (intOf i).toNat)
  case atStart => exact ⟨0, Nat.zero_le _, rfl, Lib.hid (fun j q h => by omega)⟩
  case round =>
    obtain ⟨k, hk, rfl, HX⟩ := hrel
    by_cases hlt : k < ps.length
    · obtain ⟨p, hp⟩ : ∃ p, p = ps[k] := ⟨_, rfl⟩
      have hp2 : ps[k]? = some p := by rw [hp]; exact List.getElem?_eq_getElem hlt
      obtain ⟨gg, rfl, hc0, -, -⟩ := HR.out.at_ k p hp2
      have HP := Lib.hid hp2
      clear hp hp2
      by_cases hpx : p.id = x
      · go_wp2
        go_ret
        refine ⟨?_, rfl⟩
        rw [fnd_some HP.out hpx HX.out]
        rfl
      · go_wp2
        go_round
        case rel =>
          refine ⟨k + 1, by omega, by go_num, Lib.hid fun j q hj hq => ?_⟩
          rcases Nat.lt_or_ge j k with h | h
          · exact HX.out j q h hq
          · obtain rfl : j = k := by omega
            rw [HP.out] at hq
            cases hq
            exact hpx
        case measure => simp [intOf]; omega
    · go_wp2
      have e : fnd ps x = -1 := fnd_none fun j q hq => HX.out j q (by have := (List.getElem?_eq_some_iff.1 hq).1; omega) hq
      go_ret
      exact ⟨by rw [e]; rfl, rfl⟩

/-- What the document's link is when a row of its own has been put into it. -/
theorem ref_put {w Y : World} {col : Nat → Nat} {id g : Nat} {last last' : Int} {ps qs : List P} {A2 : Option Addr} {c2 : Nat} (h : RefAt w col id g last ps) (hk : Keeps (fun k => k = g) w Y) (hg : Y.heap[g]? = some (.cells #[.int .i64 last', .slice A2 qs.length c2] 44 (0, 0)))
    (ho : Y.ownsRow w.heap.size 47 3 (.slice A2 qs.length c2) qs.length (rowOf qs)) (hd : ∀ q, q ∈ qs → SV q.A q.b.length q.c ∧ RC w col 0 q.A q.b) : ∃ col', Step id w col Y col' ∧ RefAt Y col' id g last' qs := by
  obtain ⟨A, c, h1, h2, h3⟩ := h.ex
  have hgl : g < w.heap.size := (Array.getElem?_eq_some_iff.1 h1).1
  have hstep : Step id w col Y (paint w col (fun _ => 0)) := Step.mk' (hk.mono fun k _ e => e ▸ h.hcol)
  obtain ⟨A', c', e, hr⟩ := own_FR ho
  cases e
  refine ⟨_, hstep, ⟨(paint_old hgl).trans h.hcol, h.nz, ⟨A2, c2, hg, hr, fun hp ad e => ?_⟩, fun q hq => ⟨(hd q hq).1, (hd q hq).2.step hstep h.nz⟩⟩⟩
  obtain ⟨gg, e', -⟩ := hr.at_ 0 qs[0] (List.getElem?_eq_getElem hp)
  subst e'
  cases e
  exact paint_new (ho.lt gg rfl).1
end Go.Proofs.Ytbjkeakehdljlaa
