/- The walks of the functions of chapter 24. Conditions: none. -/
import Derived.Test.YtbjkeakehdljlaaProg
import Derived.Test.YtbjkeakehdljlaaCol
import Derived.WalkSpells
namespace Go.Proofs.Ytbjkeakehdljlaa
set_option linter.unusedVariables false
set_option linter.unusedSimpArgs false
open Go.RowKit

theorem info5 : (Try.prog.info? 5).map (fun i => (i.zero, i.size, i.bytes)) = some (some (.int .u8 0), 1, 1) := by kernel_rfl

/-- slices.Clone's answer: a row of the call's own with the same bytes. -/
def CloneP (b : List UInt8) (w : World) (e : Ending) (w' : World) : Prop := ∃ v, e = .returned v ∧ OB w' w.heap.size 5 v b ∧ Below w.heap.size w w'

set_option maxHeartbeats 400000 in
theorem clone_any (A : Option Addr) (c : Nat) (b : List UInt8) (w : World) (hr : RB w A b) (hc : SV A b.length c) (hb : b.length ≤ 140737488355328) :
    Calls Try.prog 24 #[.slice A b.length c] w (CloneP b w) := by
  have HR := Lib.hid hr
  have HC := Lib.hid hc
  clear hr hc
  have hnil := fun (w : World) (a : Option Addr) (n c : Nat) => Lib.run_eql_slice_nil (P := Try.prog) w 22 5 a n c 0 0 Try.underlying22
  cases A with
  | none =>
    have hb0 : b = [] := by
      rcases Nat.eq_zero_or_pos b.length with h | h
      · exact List.eq_nil_of_length_eq_zero h
      · obtain ⟨_, e, _⟩ := HR.out.at_ 0 h; cases e
    subst hb0
    go_enter Try.func24, Try.ntmps24
    go_wp2
    go_ret
    exact ⟨_, rfl, OB.nil _ _ _, Below.refl _ _⟩
  | some ad =>
    go_enter Try.func24, Try.ntmps24
    go_wp2_with (first | (at_builtin; refine wp_app_bytes rfl _ _ 22 rfl w.heap.size 5 Try.underlying22 info5 _ [] rfl (OB.empty w w.heap.size 5 (Nat.le_refl _) _ rfl) _ _ b rfl HC.out.2 (HR.out.alloc _) (by simp; omega) (by simp) ?_; intro v1 w1 ho hg _; rw [List.nil_append] at ho; have HO := Lib.hid ho; have HB1 := Lib.hid (bel_grown (bel_alloc (Below.refl _ _) _) hg (fun k e => by simp [Value.ownBlock, Act.eval] at e; omega)); clear ho hg) | fail)
    go_ret
    exact ⟨_, rfl, HO.out, HB1.out⟩

/-! ### the link -/
/-- A frame as it lies in memory. -/
structure P where
  id : Int
  to : Int
  b : List UInt8
  A : Option Addr
  c : Nat
def pcells (p : P) : List Value := [.int .i64 p.id, .int .i64 p.to, .slice p.A p.b.length p.c]
def rowOf (ps : List P) : List Value := ps.flatMap pcells
theorem rowOf_length (ps : List P) : (rowOf ps).length = ps.length * 3 := by
  induction ps with
  | nil => rfl
  | cons p ps ih => simp only [rowOf, List.flatMap_cons, List.length_append, List.length_cons] at *; rw [ih]; simp [pcells]; omega
theorem rowOf_append (a b : List P) : rowOf (a ++ b) = rowOf a ++ rowOf b := by simp [rowOf]
theorem rowOf_get (ps : List P) (j k : Nat) (hj : j < ps.length) (hk : k < 3) : (rowOf ps)[j * 3 + k]? = (pcells ps[j])[k]? := by
  induction ps generalizing j with
  | nil => simp at hj
  | cons p ps ih =>
    cases j with
    | zero =>
      simp only [rowOf, List.flatMap_cons]
      rw [List.getElem?_append_left (by simp [pcells]; omega)]
      simp
    | succ j =>
      simp only [rowOf, List.flatMap_cons]
      rw [List.getElem?_append_right (by simp [pcells]; omega)]
      have e : (j + 1) * 3 + k - (pcells p).length = j * 3 + k := by simp [pcells]; omega
      rw [e]
      have := ih j (by simpa using hj)
      simpa [rowOf] using this

/-- Frames that are read. -/
structure FR (w : World) (A : Option Addr) (c : Nat) (ps : List P) : Prop where
  len : ps.length ≤ c
  nil : A = none → c = 0
  at_ : ∀ j p, ps[j]? = some p → ∃ g, A = some ⟨g, 0, none⟩ ∧ w.cell? ⟨g, j * 3, none⟩ = some (.int .i64 p.id) ∧ w.cell? ⟨g, j * 3 + 1, none⟩ = some (.int .i64 p.to) ∧ w.cell? ⟨g, j * 3 + 2, none⟩ = some (.slice p.A p.b.length p.c)
theorem own_FR {w : World} {base : Nat} {e : TypeId} {v : Value} {ps : List P} (h : w.ownsRow base e 3 v ps.length (rowOf ps)) : ∃ A c, v = .slice A ps.length c ∧ FR w A c ps := by
  have h0 := h
  rcases h.2 with ⟨rfl, hn⟩ | ⟨g, cap, cur, rfl, hb, hg, h1, h2, h3, h4⟩
  · have e : ps = [] := by
      have e1 := rowOf_length ps
      rw [hn] at e1
      exact List.eq_nil_of_length_eq_zero (by simp at e1; omega)
    subst e
    exact ⟨none, 0, rfl, by simp, fun _ => rfl, fun j p h => by simp at h⟩
  · refine ⟨_, _, rfl, h1, fun e => (by cases e), fun j p hp => ⟨g, rfl, ?_⟩⟩
    have hj : j < ps.length := (List.getElem?_eq_some_iff.1 hp).1
    have hpe : ps[j] = p := (List.getElem?_eq_some_iff.1 hp).2
    have hl := rowOf_length ps
    refine ⟨?_, ?_, ?_⟩
    · rw [World.ownsRow.cellAt h0 _ (by omega)]
      have := rowOf_get ps j 0 hj (by omega)
      rw [Nat.add_zero, hpe] at this
      rw [this]; rfl
    · rw [World.ownsRow.cellAt h0 _ (by omega)]
      have := rowOf_get ps j 1 hj (by omega)
      rw [hpe] at this
      rw [this]; rfl
    · rw [World.ownsRow.cellAt h0 _ (by omega)]
      have := rowOf_get ps j 2 hj (by omega)
      rw [hpe] at this
      rw [this]; rfl

/-- Bytes that may be written: no block that Go holds fast. -/
def Hot (w : World) (A : Option Addr) (bs : List UInt8) : Prop := 0 < bs.length → ∀ ad, A = some ad → ∃ g cur, ad = ⟨g, 0, none⟩ ∧ w.heap[g]? = some (.cells cur 5 (0, 0))
theorem Hot.keep {w w' : World} {A : Option Addr} {bs : List UInt8} (h : Hot w A bs) (hk : 0 < bs.length → ∀ ad, A = some ad → w'.heap[ad.block]? = w.heap[ad.block]?) : Hot w' A bs := by
  intro hp ad e
  obtain ⟨g, cur, e2, hg⟩ := h hp ad e
  have := hk hp ad e
  subst e2
  exact ⟨g, cur, rfl, this.trans hg⟩
theorem Hot.step {w w' : World} {col col' : Nat → Nat} {c id : Nat} {A : Option Addr} {bs : List UInt8} (h : Hot w A bs) (r : RC w col c A bs) (s : Step id w col w' col') (hne : id ≠ c) : Hot w' A bs :=
  h.keep fun hp ad e => s.keeps.block _ (r.read.lt hp ad e) (fun e2 => hne (e2.symm.trans (r.at_ hp ad e)))
theorem Hot.below {w w' : World} {A : Option Addr} {bs : List UInt8} (h : Hot w A bs) (r : RB w A bs) (hb : Below w.heap.size w w') : Hot w' A bs :=
  h.keep fun hp ad e => hb.block _ (r.lt hp ad e)
theorem OB.hot {w : World} {base : Nat} {A : Option Addr} {c n : Nat} {bs : List UInt8} (h : OB w base 5 (.slice A n c) bs) : Hot w A bs := by
  intro hp ad e
  subst e
  rcases h.row.2 with ⟨h1, h0⟩ | ⟨g, cap, cur, h1, hb, hh, rest⟩
  · cases h1
  · cases h1
    exact ⟨g, cur, rfl, hh⟩

/-- The link at block g, in the colour id: its last number, its frames; dc: the colour of a frame's bytes. -/
structure LinkAt (w : World) (col : Nat → Nat) (dc : Int → Nat) (id g : Nat) (last : Int) (ps : List P) : Prop where
  hcol : col g = id
  nz : id ≠ 0
  ex : ∃ v, w.heap[g]? = some (.cells #[.int .i64 last, v] 60 (0, 0)) ∧ w.ownsRow 0 31 3 v ps.length (rowOf ps) ∧ ∀ k, v.ownBlock = some k → k ≠ g ∧ col k = id
  dat : ∀ p, p ∈ ps → SV p.A p.b.length p.c ∧ RC w col (dc p.id) p.A p.b ∧ dc p.id ≠ id
  num : 0 ≤ last
  ids : ∀ p, p ∈ ps → 1 ≤ p.id ∧ p.id ≤ last
  inc : ps.Pairwise fun p q => p.id < q.id
  hot : ∀ p, p ∈ ps → Hot w p.A p.b

theorem LinkAt.step {w w' : World} {col col' : Nat → Nat} {dc : Int → Nat} {id g j : Nat} {last : Int} {ps : List P} (h : LinkAt w col dc id g last ps) (s : Step j w col w' col') (hj : j ≠ id) (hz : ∀ p, p ∈ ps → j ≠ dc p.id) : LinkAt w' col' dc id g last ps := by
  obtain ⟨v, h1, h2, h3⟩ := h.ex
  have hg : g < w.heap.size := (Array.getElem?_eq_some_iff.1 h1).1
  refine ⟨(s.same g hg).trans h.hcol, h.nz, ⟨v, ?_, ?_, fun k hk => ⟨(h3 k hk).1, (s.same k (h2.lt k hk).2).trans (h3 k hk).2⟩⟩, fun p hp => ⟨(h.dat p hp).1, (h.dat p hp).2.1.step s (hz p hp), (h.dat p hp).2.2⟩, h.num, h.ids, h.inc, fun p hp => (h.hot p hp).step (h.dat p hp).2.1 s (hz p hp)⟩
  · rw [s.keeps.block g hg (fun e => hj (e.symm.trans h.hcol))]; exact h1
  · exact own_keep h2 fun k hk => s.keeps.block k (h2.lt k hk).2 (fun e => hj (e.symm.trans (h3 k hk).2))

def NewP (dc : Int → Nat) (id : Nat) (w : World) (col : Nat → Nat) (e : Ending) (w' : World) : Prop := ∃ g col', e = .returned (.pointer (some ⟨g, 0, none⟩)) ∧ Step id w col w' col' ∧ LinkAt w' col' dc id g 0 []
theorem new_any (dc : Int → Nat) (id : Nat) (hid : id ≠ 0) (w : World) (col : Nat → Nat) : Calls Try.prog 7 #[] w (NewP dc id w col) := by
  go_enter Try.func7, Try.ntmps7
  go_wp2
  go_ret
  refine ⟨w.heap.size, paint w col (fun _ => id), rfl, Step.mk' ((Keeps.refl _ _).alloc _), ⟨paint_new (Nat.le_refl _), hid, ⟨.slice none 0 0, heap_alloc_new w _, World.ownsRow_nil _ 0 31 3, fun k hk => by simp [Value.ownBlock] at hk⟩, fun p hp => by simp at hp, Int.le_refl _, fun p hp => by simp at hp, List.Pairwise.nil, fun p hp => by simp at hp⟩⟩

/-- The place of a frame; -1: none. -/
def fnd (ps : List P) (id : Int) : Int := match ps.findIdx? (fun p => p.id == id) with
  | some i => (i : Int)
  | none => -1
theorem fnd_some {ps : List P} {x : Int} {k : Nat} {p : P} (hk : ps[k]? = some p) (hx : p.id = x) (hb : ∀ (j : Nat) (q : P), j < k → ps[j]? = some q → q.id ≠ x) : fnd ps x = (k : Int) := by
  obtain ⟨hl, he⟩ := List.getElem?_eq_some_iff.1 hk
  have : ps.findIdx? (fun p => p.id == x) = some k := by
    rw [List.findIdx?_eq_some_iff_getElem]
    refine ⟨hl, by simp [he, hx], fun j hj => ?_⟩
    have := hb j ps[j] hj (List.getElem?_eq_getElem (by omega))
    simp [this]
  unfold fnd
  rw [this]
theorem fnd_none {ps : List P} {x : Int} (hb : ∀ (j : Nat) (q : P), ps[j]? = some q → q.id ≠ x) : fnd ps x = -1 := by
  have : ps.findIdx? (fun p => p.id == x) = none := by
    rw [List.findIdx?_eq_none_iff]
    intro q hq
    obtain ⟨j, hj⟩ := List.getElem?_of_mem hq
    simp [hb j q hj]
  unfold fnd
  rw [this]

set_option maxHeartbeats 1000000 in
theorem find_any (g : Nat) (last : Int) (ps : List P) (x : Int) (A : Option Addr) (c : Nat) (w : World) (hg : w.heap[g]? = some (.cells #[.int .i64 last, .slice A ps.length c] 60 (0, 0))) (hr : FR w A c ps) (hlen : ps.length ≤ 1000000) :
    Calls Try.prog 22 #[.pointer (some ⟨g, 0, none⟩), .int .i64 x] w fun e w' => e = .returned (.int .i64 (fnd ps x)) ∧ w = w' := by
  have hc1 : w.cell? ⟨g, 1, none⟩ = some (.slice A ps.length c) := by rw [cell_of_row w g 1 _ 60 (0, 0) hg]; rfl
  have HR := Lib.hid hr
  clear hg hr
  go_enter Try.func22, Try.ntmps22
  go_wp2
  refine wp_scope_labels (fun l a w' => w' = w ∧ ∃ u0 u1 u2 u3 u4 u5 u6 u7 u8 u9 u10 u11 u12 u13 u14 u15 u16 u17 u18 u19 u20 u21 u22 u23 u24 u25 u26 : Value, a = { tmps := #[u0, u1, u2, u3, u4, u5, u6, u7, u8, u9, u10, u11, u12, u13, u14, u15, u16, u17, u18, u19, u20, u21, u22, u23, u24, u25, u26], defers := [] } ∧ (l = 0 ∨ l = 1) ∧ (l = 0 → fnd ps x = -1) ∧ (l = 1 → u4 = .int .i64 (fnd ps x))) (fun l _ _ => 1 - l) ?_ ?_
  · go_wp2
    go_loop [4, 12] (fun r i => ∃ (k : Nat), k ≤ ps.length ∧ i = .int .i64 k ∧ Hid (∀ j q, j < k → ps[j]? = some q → q.id ≠ x)) (fun _ i => ps.length - (intOf i).toNat)
    case atStart => exact ⟨0, Nat.zero_le _, rfl, Lib.hid (fun j q h => by omega)⟩
    case round =>
      obtain ⟨k, hk, rfl, HX⟩ := hrel
      by_cases hlt : k < ps.length
      · obtain ⟨p, hp⟩ : ∃ p, p = ps[k] := ⟨_, rfl⟩
        have hp2 : ps[k]? = some p := by rw [hp]; exact List.getElem?_eq_getElem hlt
        obtain ⟨gg, rfl, hc0, -, -⟩ := HR.out.at_ k p hp2
        have HP := Lib.hid hp2
        clear hp hp2
        by_cases hpx : p.id = x
        · go_wp2
          refine wp_goto ?_
          refine ⟨rfl, _, _, _, _, _, _, _, _, _, _, _, _, _, _, _, _, _, _, _, _, _, _, _, _, _, _, _, rfl, .inr rfl, fun h => by omega, fun _ => ?_⟩
          rw [fnd_some HP.out hpx HX.out]
        · go_wp2
          go_round
          case rel =>
            refine ⟨k + 1, by omega, by go_num, Lib.hid fun j q hj hq => ?_⟩
            rcases Nat.lt_or_ge j k with h | h
            · exact HX.out j q h hq
            · obtain rfl : j = k := by omega
              rw [HP.out] at hq
              cases hq
              exact hpx
          case measure => simp [intOf]; omega
      · go_wp2
        go_step3
        have e : fnd ps x = -1 := fnd_none fun j q hq => HX.out j q (by have := (List.getElem?_eq_some_iff.1 hq).1; omega) hq
        go_wp2
        go_step3
        go_wp2
        simp only [jumps]
        go_ret
        exact ⟨by rw [e]; rfl, rfl⟩
  · rintro l a w' ⟨rfl, u0, u1, u2, u3, u4, u5, u6, u7, u8, u9, u10, u11, u12, u13, u14, u15, u16, u17, u18, u19, u20, u21, u22, u23, u24, u25, u26, rfl, rfl | rfl, h0, h1⟩
    · refine ⟨_, rfl, ?_⟩
      have e := h0 rfl
      clear h0 h1
      go_wp2
      go_step3
      go_wp2
      simp only [jumps]
      go_ret
      exact ⟨by rw [e]; rfl, rfl⟩
    · refine ⟨_, rfl, ?_⟩
      have e := h1 rfl
      clear h0 h1
      subst e
      go_wp2
      simp only [jumps]
      go_ret
      exact ⟨rfl, rfl⟩
end Go.Proofs.Ytbjkeakehdljlaa
