/- Words on memory that all walks of this seat share: slices that are read, rows of the call's own, what an append leaves. Conditions: none; no program is named here. -/
import Derived.WalkKit
import Derived.KernelRfl
import Derived.Lib.Hide
import Derived.Maps.AppendAt
import Derived.Laws.AppendOwnNone
import Derived.Lib.SmallJoins
import Derived.Deep.RegionHeld3
import Derived.Deep.QuietTactic
import Derived.BigQuiet
import Derived.BigRegion
namespace Go.Proofs.Ytdldclakkplliaa
set_option linter.unusedVariables false
set_option linter.unusedSimpArgs false
open Go.RowKit

theorem ret_int {k : IntKind} {a b : Int} (h : a = b) : Ending.returned (.int k a) = .returned (.int k b) := by rw [h]
theorem int_eq {k : IntKind} {a b : Int} (h : a = b) : Value.int k a = Value.int k b := by rw [h]
theorem add0 (b j : Nat) : (⟨b, 0, none⟩ : Addr).add j = ⟨b, j, none⟩ := by unfold Addr.add; split <;> simp_all
theorem add_block (ad : Addr) (j : Nat) : (ad.add j).block = ad.block := by unfold Addr.add; split <;> rfl
theorem add_add (ad : Addr) (i j : Nat) : (ad.add i).add j = ad.add (i + j) := by
  unfold Addr.add
  by_cases hi : i = 0
  · subst hi; simp
  · by_cases hj : j = 0
    · subst hj; simp [hi]
    · rw [if_neg hi, if_neg hj, if_neg (by omega)]
      simp only [Addr.mk.injEq, and_true, true_and]
      omega

/-! ### slices that are read -/
/-- n cells at A, told by their places; of no cell nothing is asked. -/
def RV (w : World) (A : Option Addr) (n : Nat) (f : Nat → Value) : Prop := 0 < n → ∃ ad, A = some ad ∧ ∀ j, j < n → w.cell? (ad.add j) = some (f j)
def u8 (c : UInt8) : Value := .int .u8 (c.toNat : Int)
/-- A slice of bytes that is read. -/
def RB (w : World) (A : Option Addr) (bs : List UInt8) : Prop := bs.length ≤ 9223372036854775807 ∧ RV w A bs.length fun j => .int .u8 ((bs.getD j 0).toNat : Int)
/-- A slice of ints that is read. -/
def RI (w : World) (A : Option Addr) (xs : List Int) : Prop := xs.length ≤ 9223372036854775807 ∧ RV w A xs.length fun j => .int .i64 (xs.getD j 0)
/-- A slice's value as Go lets it be. -/
def SV (A : Option Addr) (n c : Nat) : Prop := n ≤ c ∧ (A = none → c = 0)
/-- A slice of slices of bytes that is read. -/
def RL (w : World) (A : Option Addr) (ls : List (List UInt8)) : Prop :=
  ls.length ≤ 9223372036854775807 ∧ (0 < ls.length → ∃ ad, A = some ad ∧ ∀ j, j < ls.length → ∃ Aj cj, w.cell? (ad.add j) = some (.slice Aj (ls.getD j []).length cj) ∧ SV Aj (ls.getD j []).length cj ∧ RB w Aj (ls.getD j []))

theorem RV.below {w w' : World} {A : Option Addr} {n : Nat} {f : Nat → Value} (h : RV w A n f) (hb : Below w.heap.size w w') : RV w' A n f := fun hp => by
  obtain ⟨ad, e, hc⟩ := h hp
  refine ⟨ad, e, fun j hj => ?_⟩
  have := hc j hj
  rw [hb.cell (World.block_lt_of_cell? w _ this)]
  exact this
theorem RV.keep {w w' : World} {A : Option Addr} {n : Nat} {f : Nat → Value} (h : RV w A n f) (hk : ∀ ad, A = some ad → w'.heap[ad.block]? = w.heap[ad.block]?) : RV w' A n f := fun hp => by
  obtain ⟨ad, e, hc⟩ := h hp
  refine ⟨ad, e, fun j hj => ?_⟩
  rw [World.cell?_of_block (w := w) (a := ad.add j) (by rw [add_block]; exact hk ad e)]
  exact hc j hj
theorem RB.below {w w' : World} {A : Option Addr} {bs : List UInt8} (h : RB w A bs) (hb : Below w.heap.size w w') : RB w' A bs := ⟨h.1, h.2.below hb⟩
theorem RI.below {w w' : World} {A : Option Addr} {xs : List Int} (h : RI w A xs) (hb : Below w.heap.size w w') : RI w' A xs := ⟨h.1, h.2.below hb⟩
theorem RL.below {w w' : World} {A : Option Addr} {ls : List (List UInt8)} (h : RL w A ls) (hb : Below w.heap.size w w') : RL w' A ls :=
  ⟨h.1, fun hp => by
    obtain ⟨ad, e, hc⟩ := h.2 hp
    refine ⟨ad, e, fun j hj => ?_⟩
    obtain ⟨Aj, cj, h1, h2, h3⟩ := hc j hj
    exact ⟨Aj, cj, by rw [hb.cell (World.block_lt_of_cell? w _ h1)]; exact h1, h2, h3.below hb⟩⟩
theorem RB.alloc {w : World} {A : Option Addr} {bs : List UInt8} (h : RB w A bs) (o : Obj) : RB (w.alloc o) A bs := h.below ((Below.refl _ _).alloc (Nat.le_refl _) _)
theorem RI.alloc {w : World} {A : Option Addr} {xs : List Int} (h : RI w A xs) (o : Obj) : RI (w.alloc o) A xs := h.below ((Below.refl _ _).alloc (Nat.le_refl _) _)
theorem RL.alloc {w : World} {A : Option Addr} {ls : List (List UInt8)} (h : RL w A ls) (o : Obj) : RL (w.alloc o) A ls := h.below ((Below.refl _ _).alloc (Nat.le_refl _) _)
theorem RB.drew {w : World} {A : Option Addr} {bs : List UInt8} (h : RB w A bs) : RB w.drew A bs := h
theorem RI.drew {w : World} {A : Option Addr} {xs : List Int} (h : RI w A xs) : RI w.drew A xs := h
theorem RL.drew {w : World} {A : Option Addr} {ls : List (List UInt8)} (h : RL w A ls) : RL w.drew A ls := h
theorem RB.nil (w : World) (A : Option Addr) : RB w A [] := ⟨by simp, fun h => by simp at h⟩
theorem RI.nil (w : World) (A : Option Addr) : RI w A [] := ⟨by simp, fun h => by simp at h⟩
theorem RL.nil (w : World) (A : Option Addr) : RL w A [] := ⟨by simp, fun h => by simp at h⟩
/-- A byte that is read. -/
theorem RB.at_ {w : World} {A : Option Addr} {bs : List UInt8} (h : RB w A bs) (k : Nat) (hk : k < bs.length) : ∃ ad, A = some ad ∧ w.cell? (ad.add k) = some (.int .u8 ((bs.getD k 0).toNat : Int)) := by
  obtain ⟨ad, e, hc⟩ := h.2 (by omega)
  exact ⟨ad, e, hc k hk⟩
theorem RI.at_ {w : World} {A : Option Addr} {xs : List Int} (h : RI w A xs) (k : Nat) (hk : k < xs.length) : ∃ ad, A = some ad ∧ w.cell? (ad.add k) = some (.int .i64 (xs.getD k 0)) := by
  obtain ⟨ad, e, hc⟩ := h.2 (by omega)
  exact ⟨ad, e, hc k hk⟩
theorem RL.at_ {w : World} {A : Option Addr} {ls : List (List UInt8)} (h : RL w A ls) (k : Nat) (hk : k < ls.length) : ∃ ad Ak ck b, A = some ad ∧ b = ls.getD k [] ∧ w.cell? (ad.add k) = some (.slice Ak b.length ck) ∧ SV Ak b.length ck ∧ RB w Ak b := by
  obtain ⟨ad, e, hc⟩ := h.2 (by omega)
  obtain ⟨Ak, ck, h1, h2, h3⟩ := hc k hk
  exact ⟨ad, Ak, ck, _, e, rfl, h1, h2, h3⟩
/-- A piece of it, wherever Go lets an empty one begin. -/
theorem RB.cut {w : World} {A A' : Option Addr} {bs : List UInt8} (h : RB w A bs) (i n : Nat) (hi : i + n ≤ bs.length) (hA : 0 < n → ∀ ad, A = some ad → A' = some (ad.add i)) : RB w A' ((bs.drop i).take n) := by
  have hl : ((bs.drop i).take n).length = n := by rw [List.length_take, List.length_drop]; omega
  refine ⟨by rw [hl]; have := h.1; omega, ?_⟩
  rw [hl]
  intro hp
  obtain ⟨ad, e, hc⟩ := h.2 (by omega)
  refine ⟨ad.add i, hA hp ad e, fun j hj => ?_⟩
  rw [add_add, hc (i + j) (by omega)]
  simp [List.getD_eq_getElem?_getD, List.getElem?_take, hj]

/-! ### rows of the call's own -/
def cellsOf (bs : List UInt8) : List Value := bs.map fun b => .int .u8 (b.toNat : Int)
theorem cellsOf_length (bs : List UInt8) : (cellsOf bs).length = bs.length := by simp [cellsOf]
theorem cellsOf_append (a b : List UInt8) : cellsOf (a ++ b) = cellsOf a ++ cellsOf b := by simp [cellsOf]
theorem cellsOf_get (bs : List UInt8) (j : Nat) (h : j < bs.length) : (cellsOf bs)[j]? = some (.int .u8 ((bs.getD j 0).toNat : Int)) := by
  simp [cellsOf, List.getD_eq_getElem?_getD, List.getElem?_eq_getElem h]
theorem cellsOf_set (bs : List UInt8) (j : Nat) (c : UInt8) : cellsOf (bs.set j c) = (cellsOf bs).set j (.int .u8 (c.toNat : Int)) := by
  simp [cellsOf, List.map_set]
theorem cellsOf_one (bs : List UInt8) : ∀ u ∈ cellsOf bs, u.oneCell' = true := by
  intro u hu
  obtain ⟨c, _, rfl⟩ := List.mem_map.1 hu
  rfl
/-- A row of bytes that the call itself owns. -/
def OB (w : World) (base : Nat) (e : TypeId) (v : Value) (bs : List UInt8) : Prop := w.ownsRow base e 1 v bs.length (cellsOf bs)
theorem OB.reads {w : World} {base : Nat} {e : TypeId} {v : Value} {bs : List UInt8} (h : OB w base e v bs) : ∃ A c, v = .slice A bs.length c ∧ SV A bs.length c ∧ RB w A bs := by
  rcases h.2 with ⟨rfl, h0⟩ | ⟨g, cap, cur, rfl, hb, hh, h1, h2, h3, h4⟩
  · have : bs = [] := List.eq_nil_of_length_eq_zero h0
    subst this
    exact ⟨none, 0, rfl, ⟨Nat.le_refl _, fun _ => rfl⟩, RB.nil _ _⟩
  · refine ⟨_, cap, rfl, ⟨h1, fun h => by cases h⟩, ?_, fun hp => ⟨_, rfl, fun j hj => ?_⟩⟩
    · simp only [maxLen] at h2; omega
    · exact World.ownsRow.cells h (g := g) rfl j _ (cellsOf_get bs j hj)
theorem OB.kept {w w' : World} {base : Nat} {e : TypeId} {v : Value} {bs : List UInt8} {row : Option Nat} (h : OB w base e v bs) (hg : w.grownBy w' row) (hne : v.ownBlock = none ∨ v.ownBlock ≠ row) : OB w' base e v bs := World.ownsRow.kept h hg hne
theorem grown_of_below {w w1 : World} (h : Below w.heap.size w w1) (row : Option Nat) : w.grownBy w1 row := ⟨h.os, h.tape, h.output, h.size, fun i hi _ => h.block i hi⟩
theorem OB.below {w w' : World} {base : Nat} {e : TypeId} {v : Value} {bs : List UInt8} (h : OB w base e v bs) (hb : Below w.heap.size w w') : OB w' base e v bs := h.kept (grown_of_below hb none) (by cases v.ownBlock <;> simp)
theorem own_base {w : World} {base : Nat} {e : TypeId} {size n : Nat} {v : Value} {xs : List Value} (h : w.ownsRow base e size v n xs) (k : Nat) (hk : v.ownBlock = some k) : base ≤ k := (h.lt k hk).1
theorem OB.base_ {w : World} {base : Nat} {e : TypeId} {v : Value} {bs : List UInt8} (h : OB w base e v bs) (k : Nat) (hk : v.ownBlock = some k) : base ≤ k := own_base h k hk
theorem OB.nil (w : World) (base : Nat) (e : TypeId) : OB w base e (.slice none 0 0) [] := World.ownsRow_nil w base e 1

/-! ### what is new -/
theorem cell_alloc (w : World) (cs : Array Value) (t : TypeId) (fr : Nat × Nat) (n : Nat) (hn : n = w.heap.size) (j : Nat) (v : Value) (h : cs[j]? = some v) : (w.alloc (.cells cs t fr)).cell? ((⟨n, 0, none⟩ : Addr).add j) = some v := by
  subst hn
  rw [add0, cell_of_row _ _ _ cs t fr (heap_alloc_new w _)]
  exact h
theorem RB.lit (w : World) (t : TypeId) (fr : Nat × Nat) (bs : List UInt8) (hl : bs.length ≤ 9223372036854775807) (n : Nat) (hn : n = w.heap.size) (cs : Array Value) (hcs : cs = (cellsOf bs).toArray) : RB (w.alloc (.cells cs t fr)) (some ⟨n, 0, none⟩) bs := by
  refine ⟨hl, fun _ => ⟨_, rfl, fun j hj => cell_alloc w _ t fr n hn j _ ?_⟩⟩
  rw [hcs]
  have := cellsOf_get bs j hj
  simpa using this
theorem RL.one {w : World} {A : Option Addr} {bs : List UInt8} {c : Nat} (t : TypeId) (h : RB w A bs) (hc : SV A bs.length c) {n : Nat} (hn : n = w.heap.size) {m : Nat} (hm : m = bs.length) : RL (w.alloc (.cells #[.slice A m c] t)) (some ⟨n, 0, none⟩) [bs] := by
  subst hm
  refine ⟨by simp, fun _ => ⟨_, rfl, fun j hj => ?_⟩⟩
  obtain rfl : j = 0 := by simpa using hj
  exact ⟨A, c, cell_alloc w _ t _ n hn 0 _ rfl, hc, h.alloc _⟩
theorem RL.two {w : World} {A A2 : Option Addr} {bs bs2 : List UInt8} {c c2 : Nat} (t : TypeId) (h : RB w A bs) (hc : SV A bs.length c) (h2 : RB w A2 bs2) (hc2 : SV A2 bs2.length c2) {n : Nat} (hn : n = w.heap.size) : RL (w.alloc (.cells #[.slice A bs.length c, .slice A2 bs2.length c2] t)) (some ⟨n, 0, none⟩) [bs, bs2] := by
  refine ⟨by simp, fun _ => ⟨_, rfl, fun j hj => ?_⟩⟩
  have : j = 0 ∨ j = 1 := by simp at hj; omega
  rcases this with rfl | rfl
  · exact ⟨A, c, cell_alloc w _ t _ n hn 0 _ rfl, hc, h.alloc _⟩
  · exact ⟨A2, c2, cell_alloc w _ t _ n hn 1 _ rfl, hc2, h2.alloc _⟩
theorem RI.two (w : World) (x y : Int) (t : TypeId) {n : Nat} (hn : n = w.heap.size) : RI (w.alloc (.cells #[.int .i64 x, .int .i64 y] t)) (some ⟨n, 0, none⟩) [x, y] := by
  refine ⟨by simp, fun _ => ⟨_, rfl, fun j hj => ?_⟩⟩
  have : j = 0 ∨ j = 1 := by simp at hj; omega
  rcases this with rfl | rfl
  · exact cell_alloc w _ t _ n hn 0 _ rfl
  · exact cell_alloc w _ t _ n hn 1 _ rfl
/-- '[]byte{}' -/
theorem OB.empty (w : World) (base : Nat) (e : TypeId) (hb : base ≤ w.heap.size) (n : Nat) (hn : n = w.heap.size) : OB (w.alloc (.cells #[] e)) base e (.slice (some ⟨n, 0, none⟩) 0 0) [] := by
  subst hn
  exact World.ownsRow_made w #[] 0 hb (Nat.zero_le _) (by simp)

/-! ### append onto a row of the call's own, from whatever slice -/
theorem wp_app {P : Program} {w : World} {ops : Array Oper} {rest : List Oper} {o : Oper} {a : Act} {Q : Exit → Act → World → Prop} (hgd : o.guard = none) (s x : Operand) (t : TypeId)
    (ho : o.op = .call { callee := .builtin .append, args := #[s, x], argTypes := #[t, t] })
    (base : Nat) (e : TypeId) (z : Value) (size bytes : Nat) (ht : P.underlying t = some (.slice e)) (hinfo : (P.info? e).map (fun i => (i.zero, i.size, i.bytes)) = some (some z, size, bytes))
    (hzs : z.cells.size = size) (hsz : 0 < size)
    (v : Value) (n : Nat) (xs : List Value) (hs : a.eval s = v) (hown : w.ownsRow base e size v n xs)
    (A : Option Addr) (m c : Nat) (news : List Value) (hx : a.eval x = .slice A m c) (hl : news.length = m * size) (hc : A = none → c = 0) (hnews : 0 < m → ∃ ad, A = some ad ∧ ∀ j u, news[j]? = some u → w.cell? (ad.add j) = some u) (h1 : ∀ u ∈ news, u.oneCell' = true)
    (h63 : n + m ≤ maxLen) (hbytes : (n + m) * bytes ≤ 140737488355328) (hbase : base ≤ w.heap.size)
    (h : ∀ v' w', w'.ownsRow base e size v' (n + m) (xs ++ news) → w.grownBy w' v.ownBlock → (v'.ownBlock = v.ownBlock ∨ v'.ownBlock = some w.heap.size) → wpList P ops Q rest (a.put o.dst v') w') :
    wpList P ops Q (o :: rest) a w := by
  obtain ⟨i, hi, hzz⟩ := Option.map_eq_some_iff.1 hinfo
  simp only [Prod.mk.injEq] at hzz
  obtain ⟨hz0, hz1, hz2⟩ := hzz
  cases A with
  | none =>
    have hm : m = 0 := by
      rcases Nat.eq_zero_or_pos m with h0 | h0
      · exact h0
      · obtain ⟨ad, e, _⟩ := hnews h0; cases e
    subst hm
    have hn : news = [] := List.eq_nil_of_length_eq_zero (by simpa using hl)
    subst hn
    rw [hc rfl] at hx
    exact wpList_append_own_none hgd s x t ho base e i size ht hi v n xs hs hown hx (h v w (by simpa using hown) ⟨rfl, rfl, rfl, Nat.le_refl _, fun _ _ _ => rfl⟩ (.inl rfl))
  | some ad =>
    have hnews' : ∀ j u, news[j]? = some u → w.cell? (ad.add j) = some u := by
      intro j u hu
      rcases Nat.eq_zero_or_pos m with h0 | h0
      · subst h0
        have hn : news = [] := List.eq_nil_of_length_eq_zero (by simpa using hl)
        subst hn
        simp at hu
      · obtain ⟨ad', e, hh⟩ := hnews h0
        cases e
        exact hh j u hu
    exact wpList_append_own_at w hgd s x t ho base e i z size bytes ht hi hz0 hz1 hz2 hzs hsz v n xs hs hown ad m c news hx hl hnews' h1 h63 hbytes hbase (fun v' w' h2 h3 _ h5 => h v' w' h2 h3 h5)

/-- .. of bytes. -/
theorem wp_app_bytes {P : Program} {w : World} {ops : Array Oper} {rest : List Oper} {o : Oper} {a : Act} {Q : Exit → Act → World → Prop} (hgd : o.guard = none) (s x : Operand) (t : TypeId)
    (ho : o.op = .call { callee := .builtin .append, args := #[s, x], argTypes := #[t, t] })
    (base : Nat) (e : TypeId) (ht : P.underlying t = some (.slice e)) (hinfo : (P.info? e).map (fun i => (i.zero, i.size, i.bytes)) = some (some (.int .u8 0), 1, 1))
    (v : Value) (xs : List UInt8) (hs : a.eval s = v) (hown : OB w base e v xs)
    (A : Option Addr) (c : Nat) (ys : List UInt8) (hx : a.eval x = .slice A ys.length c) (hc : A = none → c = 0) (hys : RB w A ys)
    (hlen : xs.length + ys.length ≤ 140737488355328) (hbase : base ≤ w.heap.size)
    (h : ∀ v' w', OB w' base e v' (xs ++ ys) → w.grownBy w' v.ownBlock → (v'.ownBlock = v.ownBlock ∨ v'.ownBlock = some w.heap.size) → wpList P ops Q rest (a.put o.dst v') w') :
    wpList P ops Q (o :: rest) a w := by
  refine wp_app hgd s x t ho base e (.int .u8 0) 1 1 ht hinfo rfl (by decide) v xs.length (cellsOf xs) hs hown A ys.length c (cellsOf ys) hx (by rw [cellsOf_length, Nat.mul_one]) hc ?_ (cellsOf_one _) (by simp only [maxLen]; omega) (by omega) hbase ?_
  · intro hp
    obtain ⟨ad, e1, hcell⟩ := hys.2 hp
    refine ⟨ad, e1, fun j u hu => ?_⟩
    have hj : j < ys.length := by
      have := (List.getElem?_eq_some_iff.1 hu).1
      rwa [cellsOf_length] at this
    rw [cellsOf_get ys j hj] at hu
    cases hu
    exact hcell j hj
  · intro v' w' h2 h3 h5
    refine h v' w' ?_ h3 h5
    unfold OB
    rw [cellsOf_append, List.length_append]
    exact h2

/-- The same as one step of a region that draws its order. -/
theorem step_app {P : Program} {w : World} {ops : Array Oper} {o : Oper} {a : Act} {K : Act → World → Prop} {Q : Exit → Act → World → Prop} {E : Prop} (hw : Region.wanted o (yielded ops a.tmps) = true) (s x : Operand) (t : TypeId)
    (ho : o.op = .call { callee := .builtin .append, args := #[s, x], argTypes := #[t, t] })
    (base : Nat) (e : TypeId) (z : Value) (size bytes : Nat) (ht : P.underlying t = some (.slice e)) (hinfo : (P.info? e).map (fun i => (i.zero, i.size, i.bytes)) = some (some z, size, bytes))
    (hzs : z.cells.size = size) (hsz : 0 < size)
    (v : Value) (n : Nat) (xs : List Value) (hs : a.eval s = v) (hown : w.ownsRow base e size v n xs)
    (A : Option Addr) (m c : Nat) (news : List Value) (hx : a.eval x = .slice A m c) (hl : news.length = m * size) (hc : A = none → c = 0) (hnews : 0 < m → ∃ ad, A = some ad ∧ ∀ j u, news[j]? = some u → w.cell? (ad.add j) = some u) (h1 : ∀ u ∈ news, u.oneCell' = true)
    (h63 : n + m ≤ maxLen) (hbytes : (n + m) * bytes ≤ 140737488355328) (hbase : base ≤ w.heap.size)
    (h : ∀ v' w', w'.ownsRow base e size v' (n + m) (xs ++ news) → w.grownBy w' v.ownBlock → (v'.ownBlock = v.ownBlock ∨ v'.ownBlock = some w.heap.size) → K (a.put o.dst v') w') :
    if Region.wanted o (yielded ops a.tmps) = true then Oper.wp P o a w K Q else E := by
  rw [if_pos hw]
  obtain ⟨i, hi, hzz⟩ := Option.map_eq_some_iff.1 hinfo
  simp only [Prod.mk.injEq] at hzz
  obtain ⟨hz0, hz1, hz2⟩ := hzz
  cases A with
  | none =>
    have hm : m = 0 := by
      rcases Nat.eq_zero_or_pos m with h0 | h0
      · exact h0
      · obtain ⟨ad, e, _⟩ := hnews h0; cases e
    subst hm
    have hn : news = [] := List.eq_nil_of_length_eq_zero (by simpa using hl)
    subst hn
    rw [hc rfl] at hx
    have hrun := run_append_owned_none (P := P) (w := w) base t o.type e i size ht hi v n xs hown
    unfold Oper.wp
    simp [execOp, ho, resolve, invoke, builtin, hs, hx, hrun, Result.andThen]
    exact h v w (by simpa using hown) ⟨rfl, rfl, rfl, Nat.le_refl _, fun _ _ _ => rfl⟩ (.inl rfl)
  | some ad =>
    have hnews' : ∀ j u, news[j]? = some u → w.cell? (ad.add j) = some u := by
      intro j u hu
      rcases Nat.eq_zero_or_pos m with h0 | h0
      · subst h0
        have hn : news = [] := List.eq_nil_of_length_eq_zero (by simpa using hl)
        subst hn
        simp at hu
      · obtain ⟨ad', e, hh⟩ := hnews h0
        cases e
        exact hh j u hu
    obtain ⟨v', w', hr, h2, h3, _, h4⟩ := run_append_own_at (P := P) w base t o.type e i z size bytes ht hi hz0 hz1 hz2 hzs hsz v n xs hown ad m c news hl hnews' h1 h63 hbytes hbase
    unfold Oper.wp execOp
    simp only [ho, resolve, invoke, builtin, Sem.run_bind, Sem.run_pure, Result.andThen_ok, List.map_toArray, List.map_cons, List.map_nil, hs, hx, hr]
    exact h v' w' h2 h3 h4
theorem step_app_bytes {P : Program} {w : World} {ops : Array Oper} {o : Oper} {a : Act} {K : Act → World → Prop} {Q : Exit → Act → World → Prop} {E : Prop} (hw : Region.wanted o (yielded ops a.tmps) = true) (s x : Operand) (t : TypeId)
    (ho : o.op = .call { callee := .builtin .append, args := #[s, x], argTypes := #[t, t] })
    (base : Nat) (e : TypeId) (ht : P.underlying t = some (.slice e)) (hinfo : (P.info? e).map (fun i => (i.zero, i.size, i.bytes)) = some (some (.int .u8 0), 1, 1))
    (v : Value) (xs : List UInt8) (hs : a.eval s = v) (hown : OB w base e v xs)
    (A : Option Addr) (c : Nat) (ys : List UInt8) (hx : a.eval x = .slice A ys.length c) (hc : A = none → c = 0) (hys : RB w A ys)
    (hlen : xs.length + ys.length ≤ 140737488355328) (hbase : base ≤ w.heap.size)
    (h : ∀ v' w', OB w' base e v' (xs ++ ys) → w.grownBy w' v.ownBlock → (v'.ownBlock = v.ownBlock ∨ v'.ownBlock = some w.heap.size) → K (a.put o.dst v') w') :
    if Region.wanted o (yielded ops a.tmps) = true then Oper.wp P o a w K Q else E := by
  refine step_app hw s x t ho base e (.int .u8 0) 1 1 ht hinfo rfl (by decide) v xs.length (cellsOf xs) hs hown A ys.length c (cellsOf ys) hx (by rw [cellsOf_length, Nat.mul_one]) hc ?_ (cellsOf_one _) (by simp only [maxLen]; omega) (by omega) hbase ?_
  · intro hp
    obtain ⟨ad, e1, hcell⟩ := hys.2 hp
    refine ⟨ad, e1, fun j u hu => ?_⟩
    have hj : j < ys.length := by
      have := (List.getElem?_eq_some_iff.1 hu).1
      rwa [cellsOf_length] at this
    rw [cellsOf_get ys j hj] at hu
    cases hu
    exact hcell j hj
  · intro v' w' h2 h3 h5
    refine h v' w' ?_ h3 h5
    unfold OB
    rw [cellsOf_append, List.length_append]
    exact h2
theorem OB.drew {w : World} {base : Nat} {e : TypeId} {v : Value} {bs : List UInt8} (h : OB w base e v bs) : OB w.drew base e v bs := h

theorem RB.len {w : World} {A : Option Addr} {bs : List UInt8} (h : RB w A bs) : bs.length ≤ 9223372036854775807 := h.1
theorem RI.len {w : World} {A : Option Addr} {xs : List Int} (h : RI w A xs) : xs.length ≤ 9223372036854775807 := h.1
theorem RL.len {w : World} {A : Option Addr} {ls : List (List UInt8)} (h : RL w A ls) : ls.length ≤ 9223372036854775807 := h.1
theorem RB.cells {w : World} {A : Option Addr} {bs : List UInt8} (h : RB w A bs) : RV w A bs.length fun j => .int .u8 ((bs.getD j 0).toNat : Int) := h.2
theorem RB.mk' {w : World} {A : Option Addr} {bs : List UInt8} (h : bs.length ≤ 9223372036854775807) (h2 : 0 < bs.length → ∃ ad, A = some ad ∧ ∀ j, j < bs.length → w.cell? (ad.add j) = some (.int .u8 ((bs.getD j 0).toNat : Int))) : RB w A bs := ⟨h, h2⟩
theorem RI.mk' {w : World} {A : Option Addr} {xs : List Int} (h : xs.length ≤ 9223372036854775807) (h2 : 0 < xs.length → ∃ ad, A = some ad ∧ ∀ j, j < xs.length → w.cell? (ad.add j) = some (.int .i64 (xs.getD j 0))) : RI w A xs := ⟨h, h2⟩
theorem RL.mk' {w : World} {A : Option Addr} {ls : List (List UInt8)} (h : ls.length ≤ 9223372036854775807) (h2 : 0 < ls.length → ∃ ad, A = some ad ∧ ∀ j, j < ls.length → ∃ Aj cj, w.cell? (ad.add j) = some (.slice Aj (ls.getD j []).length cj) ∧ SV Aj (ls.getD j []).length cj ∧ RB w Aj (ls.getD j [])) : RL w A ls := ⟨h, h2⟩
theorem OB.mk' {w : World} {base : Nat} {e : TypeId} {v : Value} {bs : List UInt8} (h : w.ownsRow base e 1 v bs.length (cellsOf bs)) : OB w base e v bs := h
theorem OB.row {w : World} {base : Nat} {e : TypeId} {v : Value} {bs : List UInt8} (h : OB w base e v bs) : w.ownsRow base e 1 v bs.length (cellsOf bs) := h
theorem OB.form {w : World} {base : Nat} {e : TypeId} {v : Value} {bs : List UInt8} (h : OB w base e v bs) (hp : 0 < bs.length) :
    ∃ g cap, v = .slice (some ⟨g, 0, none⟩) bs.length cap ∧ base ≤ g ∧ bs.length ≤ cap ∧ (∀ j, j < bs.length → w.cell? ⟨g, j, none⟩ = some (.int .u8 ((bs.getD j 0).toNat : Int))) ∧ (∀ j, w.frozen? ⟨g, j, none⟩ = false) := by
  have h0 : w.ownsRow base e 1 v bs.length (cellsOf bs) := h
  rcases h0.2 with ⟨_, h1⟩ | ⟨g, cap, cur, rfl, hb, hh, h1, h2, h3, h4⟩
  · omega
  · refine ⟨g, cap, rfl, hb, h1, fun j hj => ?_, fun j => World.ownsRow.frozenAt h0 j⟩
    rw [World.ownsRow.cellAt h0 j (by omega)]
    exact cellsOf_get bs j hj
theorem OB.set {w : World} {base : Nat} {e : TypeId} {g cap : Nat} {bs : List UInt8} (h : OB w base e (.slice (some ⟨g, 0, none⟩) bs.length cap) bs) (j : Nat) (c : UInt8) :
    OB (w.setCell ⟨g, j, none⟩ (.int .u8 (c.toNat : Int))) base e (.slice (some ⟨g, 0, none⟩) bs.length cap) (bs.set j c) ∧ w.grownBy (w.setCell ⟨g, j, none⟩ (.int .u8 (c.toNat : Int))) (some g) := by
  have h0 : w.ownsRow base e 1 (.slice (some ⟨g, 0, none⟩) bs.length cap) bs.length (cellsOf bs) := h
  obtain ⟨h1, h2⟩ := World.ownsRow.stored h0 j (.int .u8 (c.toNat : Int))
  refine ⟨?_, h2⟩
  unfold OB
  rw [cellsOf_set, List.length_set]
  exact h1
/-- The operations of a region, by its number. -/
def findRegion (id : Nat) : Code → Option (Array Oper)
  | .region i ops _ => if i = id then some ops else none
  | .seq a b => (findRegion id a).or (findRegion id b)
  | .cond _ a b => (findRegion id a).or (findRegion id b)
  | .block _ a => findRegion id a
  | .loop a => findRegion id a
  | .scope a => findRegion id a
  | .rangeFunc _ _ a b => (findRegion id a).or (findRegion id b)
  | _ => none
def regionOf (f : Func) (id : Nat) : Array Oper := ((f.body.bind (findRegion id)).getD #[])
theorem region_const {P : Program} {ops G : Array Oper} {Q : Exit → Act → World → Prop} {S : World → Prop} {id : Nat} {a : Act} {w : World} {n : Nat} (hG : G = ops) (hm : P.follows .mixedOrders = true) (hn : ops.size = n) (hS : S w.drew)
    (h : Hid (G = ops) → S w.drew → wpAnyH P .any G Q S n (Array.replicate n false) a w.drew) : (Code.region id ops true).wp P Q a w := by
  subst hn
  subst hG
  exact wp_region_held_drew hm hS (h rfl)
/-- A region that draws its order, its operations under one name. -/
theorem region_named {P : Program} {ops : Array Oper} {Q : Exit → Act → World → Prop} {S : World → Prop} {id : Nat} {a : Act} {w : World} {n : Nat} (hm : P.follows .mixedOrders = true) (hn : ops.size = n) (hS : S w.drew)
    (h : ∀ G, G = ops → S w.drew → wpAnyH P .any G Q S n (Array.replicate n false) a w.drew) : (Code.region id ops true).wp P Q a w := by
  subst hn
  exact wp_region_held_drew hm hS (h ops rfl)
theorem o_at {G ops : Array Oper} (h : Hid (G = ops)) (i : Nat) {o : Oper} (ho : ops[i]? = some o) : G[i]? = some o := by rw [h.out]; exact ho
theorem bel_alloc {w W : World} (h : Below w.heap.size w W) (o : Obj) : Below w.heap.size w (W.alloc o) := h.alloc h.size o
theorem bel_drew {w W : World} (h : Below w.heap.size w W) : Below w.heap.size w W.drew := ⟨h.os, h.tape, h.output, h.size, h.block⟩
theorem bel_then {w W W2 : World} (h : Below w.heap.size w W) (h2 : Below W.heap.size W W2) : Below w.heap.size w W2 := h.trans (h2.mono h.size)
theorem bel_grown {w W W2 : World} (h : Below w.heap.size w W) {row : Option Nat} (hg : W.grownBy W2 row) (hr : ∀ k, row = some k → w.heap.size ≤ k) : Below w.heap.size w W2 := h.grown hg h.size hr
attribute [irreducible] RB RI RL OB

end Go.Proofs.Ytdldclakkplliaa
