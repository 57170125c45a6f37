/- Who may change which block: a colour for each block of memory (0: nobody writes it any more; an object's own number: that object alone). Conditions: none; no program is named here. -/
import Derived.Test.YtdldclakkplliaaBase
import Derived.ScopeJumps
import Derived.WalkMore
namespace Go.Proofs.Ytdldclakkplliaa
set_option linter.unusedVariables false
set_option linter.unusedSimpArgs false
open Go.RowKit

/-- Of the old blocks those alone have turned of which I tells. -/
structure Keeps (I : Nat → Prop) (w w' : World) : Prop where
  os : w'.os = w.os
  tape : w'.tape = w.tape
  output : w'.output = w.output
  size : w.heap.size ≤ w'.heap.size
  block : ∀ k, k < w.heap.size → ¬ I k → w'.heap[k]? = w.heap[k]?

theorem Keeps.refl (I : Nat → Prop) (w : World) : Keeps I w w := ⟨rfl, rfl, rfl, Nat.le_refl _, fun _ _ _ => rfl⟩
theorem Keeps.trans {I : Nat → Prop} {a b c : World} (h : Keeps I a b) (k : Keeps (fun i => I i ∨ a.heap.size ≤ i) b c) : Keeps I a c :=
  ⟨k.os.trans h.os, k.tape.trans h.tape, k.output.trans h.output, Nat.le_trans h.size k.size, fun i hi hn => (k.block i (Nat.lt_of_lt_of_le hi h.size) (fun e => e.elim hn (by omega))).trans (h.block i hi hn)⟩
theorem Keeps.mono {I J : Nat → Prop} {a b : World} (h : Keeps I a b) (hj : ∀ k, k < a.heap.size → I k → J k) : Keeps J a b :=
  ⟨h.os, h.tape, h.output, h.size, fun k hk hn => h.block k hk (fun e => hn (hj k hk e))⟩
theorem Keeps.drew {I : Nat → Prop} {a b : World} (h : Keeps I a b) : Keeps I a b.drew := ⟨h.os, h.tape, h.output, h.size, h.block⟩
theorem Keeps.alloc {I : Nat → Prop} {a b : World} (h : Keeps I a b) (o : Obj) : Keeps I a (b.alloc o) :=
  ⟨h.os, h.tape, h.output, by have := h.size; simp; omega, fun k hk hn => (Below.heap_alloc b o k (by have := h.size; omega)).trans (h.block k hk hn)⟩
theorem Keeps.setCell {I : Nat → Prop} {a b : World} (h : Keeps I a b) {p : Addr} (hp : I p.block ∨ a.heap.size ≤ p.block) (u : Value) : Keeps I a (b.setCell p u) :=
  ⟨h.os, h.tape, h.output, by have := h.size; simpa [World.setCell] using this, fun k hk hn => (Below.heap_setCell b p u k (fun e => by subst e; exact hp.elim hn (by omega))).trans (h.block k hk hn)⟩
theorem Keeps.grown {I : Nat → Prop} {a b c : World} (h : Keeps I a b) {row : Option Nat} (hg : b.grownBy c row) (hr : ∀ k, row = some k → I k ∨ a.heap.size ≤ k) : Keeps I a c :=
  ⟨hg.os.trans h.os, hg.tape.trans h.tape, hg.output.trans h.output, Nat.le_trans h.size hg.size, fun k hk hn => (hg.block k (by have := h.size; omega) (fun e => (hr k e.symm).elim hn (by omega))).trans (h.block k hk hn)⟩
theorem Keeps.below {I : Nat → Prop} {a b c : World} (h : Keeps I a b) (hb : Below b.heap.size b c) : Keeps I a c :=
  ⟨hb.os.trans h.os, hb.tape.trans h.tape, hb.output.trans h.output, Nat.le_trans h.size hb.size, fun k hk hn => (hb.block k (by have := h.size; omega)).trans (h.block k hk hn)⟩
theorem Keeps.cell {I : Nat → Prop} {a b : World} (h : Keeps I a b) {p : Addr} {v : Value} (hc : a.cell? p = some v) (hn : ¬ I p.block) : b.cell? p = some v :=
  (World.cell?_of_block (h.block p.block (World.block_lt_of_cell? a p hc) hn)).trans hc

/-- The object of colour id was at work, nobody else; old blocks keep their colours. -/
structure Step (id : Nat) (w : World) (col : Nat → Nat) (w' : World) (col' : Nat → Nat) : Prop where
  keeps : Keeps (fun k => col k = id) w w'
  same : ∀ k, k < w.heap.size → col' k = col k
theorem Step.refl (id : Nat) (w : World) (col : Nat → Nat) : Step id w col w col := ⟨Keeps.refl _ _, fun _ _ => rfl⟩
theorem Step.trans {id : Nat} {a b c : World} {ca cb cc : Nat → Nat} (h : Step id a ca b cb) (k : Step id b cb c cc) : Step id a ca c cc :=
  ⟨h.keeps.trans (k.keeps.mono fun i hi e => by
    rcases Nat.lt_or_ge i a.heap.size with hl | hl
    · exact .inl (by rw [← h.same i hl]; exact e)
    · exact .inr hl), fun i hi => (k.same i (Nat.lt_of_lt_of_le hi h.keeps.size)).trans (h.same i hi)⟩
/-- New blocks get the colours that one likes. -/
def paint (w : World) (col new : Nat → Nat) : Nat → Nat := fun k => if k < w.heap.size then col k else new k
theorem paint_old {w : World} {col new : Nat → Nat} {k : Nat} (h : k < w.heap.size) : paint w col new k = col k := by simp [paint, h]
theorem paint_new {w : World} {col new : Nat → Nat} {k : Nat} (h : w.heap.size ≤ k) : paint w col new k = new k := by simp [paint, show ¬ k < w.heap.size by omega]
theorem Step.mk' {id : Nat} {w w' : World} {col new : Nat → Nat} (h : Keeps (fun k => col k = id) w w') : Step id w col w' (paint w col new) := ⟨h, fun k hk => paint_old hk⟩

/-- Bytes that are read, in a block of a colour (or in none). -/
structure RC (w : World) (col : Nat → Nat) (c : Nat) (A : Option Addr) (bs : List UInt8) : Prop where
  read : RB w A bs
  at_ : 0 < bs.length → ∀ ad, A = some ad → col ad.block = c
theorem RB.lt {w : World} {A : Option Addr} {bs : List UInt8} (h : RB w A bs) (hp : 0 < bs.length) : ∀ ad, A = some ad → ad.block < w.heap.size := by
  intro ad e
  obtain ⟨ad', e', hc⟩ := h.cells hp
  rw [e] at e'
  cases e'
  have := World.block_lt_of_cell? w _ (hc 0 hp)
  rwa [add_block] at this
theorem RB.keep {w w' : World} {A : Option Addr} {bs : List UInt8} (h : RB w A bs) (hk : 0 < bs.length → ∀ ad, A = some ad → w'.heap[ad.block]? = w.heap[ad.block]?) : RB w' A bs := by
  refine RB.mk' h.len ?_
  intro hp
  obtain ⟨ad, e, hc⟩ := h.cells hp
  refine ⟨ad, e, fun j hj => ?_⟩
  rw [World.cell?_of_block (w := w) (a := ad.add j) (by rw [add_block]; exact hk hp ad e)]
  exact hc j hj
theorem RC.step {w w' : World} {col col' : Nat → Nat} {c id : Nat} {A : Option Addr} {bs : List UInt8} (h : RC w col c A bs) (s : Step id w col w' col') (hne : id ≠ c) : RC w' col' c A bs :=
  ⟨h.read.keep fun hp ad e => s.keeps.block _ (h.read.lt hp ad e) (fun e2 => hne (e2.symm.trans (h.at_ hp ad e))), fun hp ad e => (s.same _ (h.read.lt hp ad e)).trans (h.at_ hp ad e)⟩
theorem RC.nil (w : World) (col : Nat → Nat) (c : Nat) (A : Option Addr) : RC w col c A [] := ⟨RB.nil _ _, fun h => by simp at h⟩

/-- A row of one's own lives as long as its block stands. -/
theorem own_keep {w w' : World} {base : Nat} {e : TypeId} {size n : Nat} {v : Value} {xs : List Value} (h : w.ownsRow base e size v n xs) (hk : ∀ k, v.ownBlock = some k → w'.heap[k]? = w.heap[k]?) : w'.ownsRow base e size v n xs := by
  refine ⟨h.1, ?_⟩
  rcases h.2 with hn | ⟨g, cap, cur, rfl, hb, hg, rest⟩
  · exact .inl hn
  · exact .inr ⟨g, cap, cur, rfl, hb, by rw [hk g rfl]; exact hg, rest⟩

/-- What was there at the beginning stands, and nobody owns it. -/
structure Old (w0 w : World) (col : Nat → Nat) : Prop where
  below : Below w0.heap.size w0 w
  zero : ∀ k, k < w0.heap.size → col k = 0
theorem Old.step {w0 w w' : World} {col col' : Nat → Nat} {id : Nat} (h : Old w0 w col) (s : Step id w col w' col') (hid : id ≠ 0) : Old w0 w' col' := by
  have hs := h.below.size
  refine ⟨⟨s.keeps.os.trans h.below.os, s.keeps.tape.trans h.below.tape, s.keeps.output.trans h.below.output, Nat.le_trans hs s.keeps.size, fun k hk => ?_⟩, fun k hk => (s.same k (by omega)).trans (h.zero k hk)⟩
  exact (s.keeps.block k (by omega) (fun e => hid (e.symm.trans (h.zero k hk)))).trans (h.below.block k hk)

/-! ### goto: what holds at each label's jump -/
def jumps (J : Nat → Act → World → Prop) (Q : Exit → Act → World → Prop) : Exit → Act → World → Prop
  | .goto l, a, w => J l a w
  | e, a, w => Q e a w
theorem wp_scope_labels {P : Program} {a : Act} {w : World} {Q : Exit → Act → World → Prop} {c : Code} (J : Nat → Act → World → Prop) (μ : Nat → Act → World → Nat)
    (first : c.wp P (jumps J Q) a w)
    (pass : ∀ l a w, J l a w → ∃ rest, findLabel c l = some rest ∧ rest.wp P (jumps (fun l' a' w' => J l' a' w' ∧ μ l' a' w' < μ l a w) Q) a w) : (Code.scope c).wp P Q a w := by
  intro b k cs
  have key : ∀ n l a w rest, μ l a w = n → J l a w → findLabel c l = some rest → ∃ e a' w', Q e a' w' ∧ Arrives P (lone (b.at a (.code rest :: .inScope c :: k)) cs w) b k cs e a' w' := by
    intro n
    induction n using Nat.strongRecOn with
    | _ n ih =>
      intro l a w rest hn hJ hr
      obtain ⟨rest', hr', hp⟩ := pass l a w hJ
      rw [hr] at hr'
      cases hr'
      obtain ⟨e, a₁, w₁, hq, harr⟩ := hp b (.inScope c :: k) cs
      cases e with
      | normal => exact ⟨.normal, a₁, w₁, hq, Steps.trans harr (.one step_inScope)⟩
      | exit id => exact ⟨.exit id, a₁, w₁, hq, fun k' hk => harr k' (by simp [exitTo, hk])⟩
      | goto l' =>
        obtain ⟨hJ', hlt⟩ := hq
        obtain ⟨rest2, hr2, _⟩ := pass l' a₁ w₁ hJ'
        obtain ⟨e₂, a₂, w₂, hq₂, harr₂⟩ := ih _ (by omega) l' a₁ w₁ rest2 rfl hJ' hr2
        exact ⟨e₂, a₂, w₂, hq₂, .of_steps (harr _ (by simp [gotoIn, hr2])) harr₂⟩
      | ret => exact ⟨_, a₁, w₁, hq, harr⟩
      | panic ch => exact ⟨_, a₁, w₁, hq, harr⟩
      | outgrown => exact ⟨_, a₁, w₁, hq, harr⟩
  obtain ⟨e, a₁, w₁, hq, harr⟩ := first b (.inScope c :: k) cs
  cases e with
  | normal => exact ⟨.normal, a₁, w₁, hq, .head step_scope (Steps.trans harr (.one step_inScope))⟩
  | exit id => exact ⟨.exit id, a₁, w₁, hq, fun k' hk => .head step_scope (harr k' (by simp [exitTo, hk]))⟩
  | goto l' =>
    obtain ⟨rest2, hr2, _⟩ := pass l' a₁ w₁ hq
    obtain ⟨e₂, a₂, w₂, hq₂, harr₂⟩ := key _ l' a₁ w₁ rest2 rfl hq hr2
    exact ⟨e₂, a₂, w₂, hq₂, .of_steps (.head step_scope (harr _ (by simp [gotoIn, hr2]))) harr₂⟩
  | ret => exact ⟨_, a₁, w₁, hq, .of_steps (.one step_scope) harr⟩
  | panic ch => exact ⟨_, a₁, w₁, hq, .of_steps (.one step_scope) harr⟩
  | outgrown => exact ⟨_, a₁, w₁, hq, .of_steps (.one step_scope) harr⟩

end Go.Proofs.Ytdldclakkplliaa
