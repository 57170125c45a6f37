/- Take, Lose and Waiting of a link, as calls that keep a link a link; of none too. Conditions: none. -/
import Derived.Test.YtbjkeakehdljlaaTake
namespace Go.Proofs.Ytbjkeakehdljlaa
set_option linter.unusedVariables false
set_option linter.unusedSimpArgs false
open Go.RowKit

theorem find_nil (x : Int) (w : World) : Calls Try.prog 22 #[.pointer none, .int .i64 x] w fun e w' => e = .returned (.int .i64 (-1)) ∧ w = w' := by
  go_enter Try.func22, Try.ntmps22
  go_wp2
  refine wp_scope_labels (fun l a w' => w' = w ∧ ∃ u0 u1 u2 u3 u4 u5 u6 u7 u8 u9 u10 u11 u12 u13 u14 u15 u16 u17 u18 u19 u20 u21 u22 u23 u24 u25 u26 : Value, a = { tmps := #[u0, u1, u2, u3, u4, u5, u6, u7, u8, u9, u10, u11, u12, u13, u14, u15, u16, u17, u18, u19, u20, u21, u22, u23, u24, u25, u26], defers := [] } ∧ l = 0) (fun l _ _ => 1 - l) ?_ ?_
  · go_wp2
    refine wp_goto ?_
    exact ⟨rfl, _, _, _, _, _, _, _, _, _, _, _, _, _, _, _, _, _, _, _, _, _, _, _, _, _, _, _, rfl, rfl⟩
  · rintro l a w' ⟨rfl, u0, u1, u2, u3, u4, u5, u6, u7, u8, u9, u10, u11, u12, u13, u14, u15, u16, u17, u18, u19, u20, u21, u22, u23, u24, u25, u26, rfl, rfl⟩
    refine ⟨_, rfl, ?_⟩
    go_wp2
    go_step3
    go_wp2
    simp only [jumps]
    go_ret
    exact ⟨rfl, rfl⟩

theorem fnd_cases (ps : List P) (x : Int) : fnd ps x = -1 ∨ ∃ (i : Nat) (p : P), fnd ps x = (i : Int) ∧ ps[i]? = some p ∧ p.id = x := by
  unfold fnd
  cases h : ps.findIdx? (fun p => p.id == x) with
  | none => exact .inl rfl
  | some i =>
    obtain ⟨hl, hp, -⟩ := List.findIdx?_eq_some_iff_getElem.1 h
    exact .inr ⟨i, ps[i], rfl, List.getElem?_eq_getElem hl, by simpa using hp⟩

theorem RC.below {w w' : World} {col : Nat → Nat} {c : Nat} {A : Option Addr} {bs : List UInt8} (h : RC w col c A bs) (hb : Below w.heap.size w w') : RC w' col c A bs := ⟨h.read.below hb, h.at_⟩
theorem Step.below {id : Nat} {w w1 w2 : World} {col c1 : Nat → Nat} (h : Step id w col w1 c1) (hb : Below w1.heap.size w1 w2) : Step id w col w2 c1 := ⟨h.keeps.below hb, h.same⟩
theorem LinkAt.below {w w' : World} {col : Nat → Nat} {dc : Int → Nat} {id g : Nat} {last : Int} {ps : List P} (h : LinkAt w col dc id g last ps) (hb : Below w.heap.size w w') : LinkAt w' col dc id g last ps := by
  obtain ⟨v, h1, h2, h3⟩ := h.ex
  exact ⟨h.hcol, h.nz, ⟨v, heap_below h1 hb, own_keep h2 fun k hk => hb.block k (h2.lt k hk).2, h3⟩, fun p hp => ⟨(h.dat p hp).1, (h.dat p hp).2.1.below hb, (h.dat p hp).2.2⟩, h.num, h.ids, h.inc, fun p hp => (h.hot p hp).below (h.dat p hp).2.1.read hb⟩

theorem mem_erase {ps : List P} {i : Nat} {q : P} (h : q ∈ ps.eraseIdx i) : q ∈ ps := List.mem_of_mem_eraseIdx h
theorem link_take {w w' : World} {col : Nat → Nat} {dc : Int → Nat} {id g gg i : Nat} {last : Int} {ps : List P} {p : P} (h : LinkAt w col dc id g last ps) (hi : ps[i]? = some p) (hgg : gg ≠ g ∧ col gg = id) (hp : TakeP g last gg ps i w w') :
    ∃ col', Step id w col w' col' ∧ LinkAt w' col' dc id g last (ps.eraseIdx i) ∧ SV p.A p.b.length p.c ∧ RC w' col' (dc p.id) p.A p.b := by
  obtain ⟨c, e1, e2⟩ := hp.ex
  obtain ⟨v, h1, h2, h3⟩ := h.ex
  have hgl : g < w.heap.size := (Array.getElem?_eq_some_iff.1 h1).1
  have hstep : Step id w col w' (paint w col (fun _ => id)) := Step.mk' (hp.keeps.mono fun k _ hk => hk.elim (fun e => e ▸ h.hcol) (fun e => e ▸ hgg.2))
  have hil : i < ps.length := (List.getElem?_eq_some_iff.1 hi).1
  have hd : ∀ q, q ∈ ps → SV q.A q.b.length q.c ∧ RC w' (paint w col (fun _ => id)) (dc q.id) q.A q.b ∧ dc q.id ≠ id := fun q hq => ⟨(h.dat q hq).1, (h.dat q hq).2.1.step hstep (h.dat q hq).2.2.symm, (h.dat q hq).2.2⟩
  have hmem : p ∈ ps := List.mem_of_getElem? hi
  have hpc : paint w col (fun _ => id) gg = id := by
    by_cases hl : gg < w.heap.size
    · rw [paint_old hl]; exact hgg.2
    · rw [paint_new (by omega)]
  refine ⟨_, hstep, ⟨(paint_old hgl).trans h.hcol, h.nz, ⟨_, e1, ?_, fun k hk => ?_⟩, fun q hq => hd q (mem_erase hq), h.num, fun q hq => h.ids q (mem_erase hq), h.inc.sublist (List.eraseIdx_sublist _ _), fun q hq => (h.hot q (mem_erase hq)).step (h.dat q (mem_erase hq)).2.1 hstep (h.dat q (mem_erase hq)).2.2.symm⟩, (hd p hmem).1, (hd p hmem).2.1⟩
  · rw [List.length_eraseIdx_of_lt hil]; exact e2
  · cases hk; exact ⟨hgg.1, hpc⟩

def TakeQ (dc : Int → Nat) (id g : Nat) (last : Int) (ps : List P) (x : Int) (w : World) (col : Nat → Nat) (e : Ending) (w' : World) : Prop :=
  ∃ col', Step id w col w' col' ∧ ((fnd ps x = -1 ∧ e = .returned (.tuple #[noFrame, .int .i64 5]) ∧ LinkAt w' col' dc id g last ps) ∨
    ∃ (i : Nat) (p : P), fnd ps x = (i : Int) ∧ ps[i]? = some p ∧ p.id = x ∧ e = .returned (.tuple #[frameV p, .int .i64 0]) ∧ LinkAt w' col' dc id g last (ps.eraseIdx i) ∧ SV p.A p.b.length p.c ∧ RC w' col' (dc p.id) p.A p.b)
theorem take_any (dc : Int → Nat) (id g : Nat) (last : Int) (ps : List P) (x : Int) (w : World) (col : Nat → Nat) (h : LinkAt w col dc id g last ps) (hps : ps.length ≤ 1000000) :
    Calls Try.prog 10 #[.pointer (some ⟨g, 0, none⟩), .int .i64 x] w (TakeQ dc id g last ps x w col) := by
  obtain ⟨v, h1, h2, h3⟩ := h.ex
  obtain ⟨A, c, rfl, hr⟩ := own_FR h2
  rcases fnd_cases ps x with hx | ⟨i, p, hx, hp, hpx⟩
  · refine (take_not _ x w fun W hW => ?_).mono ?_
    · rw [← hx]
      exact find_any g last ps x A c W (heap_below h1 hW) (hr.below hW) hps
    · rintro e w' ⟨rfl, hb⟩
      exact ⟨col, (Step.refl _ _ _).below hb, .inl ⟨hx, rfl, h.below hb⟩⟩
  · obtain ⟨gg, rfl, -⟩ := hr.at_ i p hp
    have hgg := h3 gg rfl
    refine (take_some g last ps x gg c i p w h1 h2 hgg.1 hps hx hp).mono ?_
    rintro e w' ⟨rfl, ht⟩
    obtain ⟨col', s, l, sv, rc⟩ := link_take h hp hgg ht
    exact ⟨col', s, .inr ⟨i, p, hx, hp, hpx, rfl, l, sv, rc⟩⟩

/-! ### Lose -/
def LoseQ (dc : Int → Nat) (id g : Nat) (last : Int) (ps : List P) (x : Int) (w : World) (col : Nat → Nat) (e : Ending) (w' : World) : Prop :=
  ∃ col', Step id w col w' col' ∧ ((fnd ps x = -1 ∧ e = .returned (.int .i64 5) ∧ LinkAt w' col' dc id g last ps) ∨
    ∃ (i : Nat) (p : P), fnd ps x = (i : Int) ∧ ps[i]? = some p ∧ p.id = x ∧ e = .returned (.int .i64 0) ∧ LinkAt w' col' dc id g last (ps.eraseIdx i))
set_option maxHeartbeats 1000000 in
theorem lose_walk (p : Option Addr) (x : Int) (w : World) (R : Int → World → Prop) (h : Calls Try.prog 10 #[.pointer p, .int .i64 x] w fun e w' => ∃ a b A n c k, e = .returned (.tuple #[.agg #[.int .i64 a, .int .i64 b, .slice A n c], .int .i64 k]) ∧ R k w') :
    Calls Try.prog 15 #[.pointer p, .int .i64 x] w fun e w'' => ∃ k w', e = .returned (.int .i64 k) ∧ R k w' ∧ Below w'.heap.size w' w'' := by
  have H := Lib.hid h
  clear h
  go_enter Try.func15, Try.ntmps15
  go_wp2_with fail
  refine H.out.mono ?_
  rintro e w' ⟨a, b, A, n, c, k, rfl, hr⟩
  have HR := Lib.hid hr
  clear hr
  go_wp2
  go_ret
  refine ⟨k, w', rfl, HR.out, ?_⟩
  exact bel_alloc (Below.refl _ _) _
theorem lose_any (dc : Int → Nat) (id g : Nat) (last : Int) (ps : List P) (x : Int) (w : World) (col : Nat → Nat) (h : LinkAt w col dc id g last ps) (hps : ps.length ≤ 1000000) :
    Calls Try.prog 15 #[.pointer (some ⟨g, 0, none⟩), .int .i64 x] w (LoseQ dc id g last ps x w col) := by
  refine (lose_walk _ x w (fun k w' => ∃ col', Step id w col w' col' ∧ ((fnd ps x = -1 ∧ k = 5 ∧ LinkAt w' col' dc id g last ps) ∨ ∃ (i : Nat) (p : P), fnd ps x = (i : Int) ∧ ps[i]? = some p ∧ p.id = x ∧ k = 0 ∧ LinkAt w' col' dc id g last (ps.eraseIdx i))) ?_).mono ?_
  · refine (take_any dc id g last ps x w col h hps).mono ?_
    rintro e w' ⟨col', s, ⟨hx, rfl, hl⟩ | ⟨i, p, hx, hp, hpx, rfl, hl, -⟩⟩
    · exact ⟨_, _, _, _, _, _, rfl, col', s, .inl ⟨hx, rfl, hl⟩⟩
    · exact ⟨_, _, _, _, _, _, rfl, col', s, .inr ⟨i, p, hx, hp, hpx, rfl, hl⟩⟩
  · rintro e w'' ⟨k, w', rfl, ⟨col', s, ⟨hx, rfl, hl⟩ | ⟨i, p, hx, hp, hpx, rfl, hl⟩⟩, hb⟩
    · exact ⟨col', s.below hb, .inl ⟨hx, rfl, hl.below hb⟩⟩
    · exact ⟨col', s.below hb, .inr ⟨i, p, hx, hp, hpx, rfl, hl.below hb⟩⟩
theorem lose_nil (x : Int) (w : World) : Calls Try.prog 15 #[.pointer none, .int .i64 x] w fun e w' => e = .returned (.int .i64 5) ∧ Below w.heap.size w w' := by
  refine (lose_walk none x w (fun k w' => k = 5 ∧ Below w.heap.size w w') ?_).mono ?_
  · refine (take_not none x w fun W hW => find_nil x W).mono ?_
    rintro e w' ⟨rfl, hb⟩
    exact ⟨_, _, _, _, _, _, rfl, rfl, hb⟩
  · rintro e w'' ⟨k, w', rfl, ⟨rfl, hb⟩, hb2⟩
    exact ⟨rfl, bel_then hb hb2⟩
end Go.Proofs.Ytbjkeakehdljlaa
