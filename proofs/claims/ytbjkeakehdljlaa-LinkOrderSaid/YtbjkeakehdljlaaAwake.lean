/- What the document fixes of chapter 24 holds: the law's own 'awake' answers true. Conditions: none. -/
import Derived.Test.YtbjkeakehdljlaaTo
namespace Go.Proofs.Ytbjkeakehdljlaa
set_option linter.unusedVariables false
set_option linter.unusedSimpArgs false
open Go.RowKit

theorem RC.recol {w : World} {col col' : Nat → Nat} {c : Nat} {A : Option Addr} {bs : List UInt8} (h : RC w col c A bs) (hs : ∀ k, k < w.heap.size → col' k = col k) : RC w col' c A bs :=
  ⟨h.read, fun hp ad e => (hs _ (h.read.lt hp ad e)).trans (h.at_ hp ad e)⟩
theorem LinkAt.recol {w : World} {col col' : Nat → Nat} {dc : Int → Nat} {id g : Nat} {last : Int} {ps : List P} (h : LinkAt w col dc id g last ps) (hs : ∀ k, k < w.heap.size → col' k = col k) : LinkAt w col' dc id g last ps := by
  obtain ⟨v, h1, h2, h3⟩ := h.ex
  exact ⟨(hs g (Array.getElem?_eq_some_iff.1 h1).1).trans h.hcol, h.nz, ⟨v, h1, h2, fun k hk => ⟨(h3 k hk).1, (hs k (h2.lt k hk).2).trans (h3 k hk).2⟩⟩, fun p hp => ⟨(h.dat p hp).1, (h.dat p hp).2.1.recol hs, (h.dat p hp).2.2⟩, h.num, h.ids, h.inc, h.hot⟩
/-- What is new is painted anew. -/
theorem LinkAt.grow {w w' : World} {col : Nat → Nat} {dc : Int → Nat} {id g : Nat} {last : Int} {ps : List P} (h : LinkAt w col dc id g last ps) (hb : Below w.heap.size w w') (new : Nat → Nat) : LinkAt w' (paint w col new) dc id g last ps :=
  (h.recol (fun k hk => paint_old hk)).below hb
theorem Old.grow {w0 w w' : World} {col : Nat → Nat} (h : Old w0 w col) (hb : Below w.heap.size w w') (new : Nat → Nat) : Old w0 w' (paint w col new) :=
  ⟨h.below.trans (hb.mono h.below.size), fun k hk => (paint_old (by have := h.below.size; omega)).trans (h.zero k hk)⟩
theorem Old.init (w : World) : Old w w (fun _ => 0) := ⟨Below.refl _ _, fun _ _ => rfl⟩
theorem RC.new {w w' : World} {col : Nat → Nat} {A : Option Addr} {bs : List UInt8} (c : Nat) (h : RB w' A bs) (ha : ∀ ad, A = some ad → w.heap.size ≤ ad.block) : RC w' (paint w col (fun _ => c)) c A bs :=
  ⟨h, fun hp ad e => paint_new (ha ad e)⟩

theorem conv_str {w : World} {A : Option Addr} {bs : List UInt8} {c n : Nat} (hn : n = bs.length) (h : RB w A bs) : (convert 22 9 (.slice A n c)).run Try.prog w = .ok (.string ⟨bs.toArray⟩) w := by
  subst hn
  cases A with
  | none =>
    have hb0 : bs = [] := by
      rcases Nat.eq_zero_or_pos bs.length with h0 | h0
      · exact List.eq_nil_of_length_eq_zero h0
      · obtain ⟨_, e, _⟩ := h.at_ 0 h0; cases e
    subst hb0
    rw [run_convert_bytes_string w 22 9 5 none _ c Try.underlying22 Try.underlying5 Try.underlying9]
    rfl
  | some ad =>
    refine run_convert_bytes_back w 22 9 5 ad c bs Try.underlying22 Try.underlying5 Try.underlying9 fun j hj => ?_
    obtain ⟨ad', e, hc⟩ := h.at_ j hj
    cases e
    rw [hc]
    simp [List.getD_eq_getElem?_getD, List.getElem?_eq_getElem hj]

/-- The bytes of a frame that is taken, in the frame's colour. -/
theorem fnd_at {ps : List P} {x : Int} (k : Nat) {p : P} (hk : ps[k]? = some p) (hx : p.id = x) (hi : ps.Pairwise fun p q => p.id < q.id) : fnd ps x = (k : Int) := by
  refine fnd_some hk hx fun j q hj hq => ?_
  have h1 := List.pairwise_iff_getElem.1 hi j k (List.getElem?_eq_some_iff.1 hq).1 (List.getElem?_eq_some_iff.1 hk).1 hj
  rw [(List.getElem?_eq_some_iff.1 hq).2, (List.getElem?_eq_some_iff.1 hk).2] at h1
  omega
theorem take_at (dc : Int → Nat) (id g : Nat) (last : Int) (ps : List P) (x : Int) (w : World) (col : Nat → Nat) (h : LinkAt w col dc id g last ps) (hps : ps.length ≤ 1000000) (i : Nat) (p : P) (hp : ps[i]? = some p) (hx : p.id = x) :
    Calls Try.prog 10 #[.pointer (some ⟨g, 0, none⟩), .int .i64 x] w fun e w' => e = .returned (.tuple #[frameV p, .int .i64 0]) ∧ ∃ col', Step id w col w' col' ∧ LinkAt w' col' dc id g last (ps.eraseIdx i) ∧ SV p.A p.b.length p.c ∧ RC w' col' (dc p.id) p.A p.b := by
  have hf := fnd_at i hp hx h.inc
  refine (take_any dc id g last ps x w col h hps).mono ?_
  rintro e w' ⟨col', s, ⟨h1, -⟩ | ⟨j, q, h1, hq, hqx, rfl, hl, hsv, hrc⟩⟩
  · rw [hf] at h1; omega
  · have : j = i := by rw [hf] at h1; omega
    subst this
    rw [hp] at hq
    cases hq
    exact ⟨rfl, col', s, hl, hsv, hrc⟩
theorem double_at (dc : Int → Nat) (id g : Nat) (last : Int) (ps : List P) (x : Int) (w : World) (col : Nat → Nat) (h : LinkAt w col dc id g last ps) (hps : ps.length ≤ 1000000) (hl : last ≤ 1000000) (hb : ∀ p, p ∈ ps → p.b.length ≤ 65536) (hdc : dc (last + 1) ≠ id) (i : Nat) (p : P) (hp : ps[i]? = some p) (hx : p.id = x) :
    Calls Try.prog 9 #[.pointer (some ⟨g, 0, none⟩), .int .i64 x] w fun e w' => e = .returned (.tuple #[.int .i64 (last + 1), .int .i64 0]) ∧ ∃ col' Ab cb, Step id w col w' col' ∧ LinkAt w' col' dc id g (last + 1) (ps ++ [⟨last + 1, p.to, p.b, Ab, cb⟩]) := by
  have hf := fnd_at i hp hx h.inc
  refine (double_any dc id g last ps x w col h hps hl hb hdc).mono ?_
  rintro e w' ⟨col', s, ⟨h1, -⟩ | ⟨j, q, Ab, cb, h1, hq, hqx, rfl, hl⟩⟩
  · rw [hf] at h1; omega
  · have : j = i := by rw [hf] at h1; omega
    subst this
    rw [hp] at hq
    cases hq
    exact ⟨rfl, col', Ab, cb, s, hl⟩

set_option maxHeartbeats 2000000 in
theorem awake_any (w : World) : Calls Try.prog 6 #[] w fun e w' => e = .returned (.bool true) ∧ Below w.heap.size w w' := by
  have kc := fun (w : World) (C : Array Value) (n c g : Nat) (hg : g = w.heap.size) => Joins.run_convert_bytes_const_at (P := Try.prog) w 22 5 C n c g hg Try.underlying22 Try.underlying5
  go_enter Try.func6, Try.ntmps6
  go_wp2_with fail
  refine (new_any (fun _ => 0) 1 (by omega) w (fun _ => 0)).mono ?_
  rintro e w1 ⟨g, c1, rfl, s1, l1⟩
  have O1 := Lib.hid ((Old.init w).step s1 (by omega))
  have L1 := Lib.hid l1
  clear s1 l1
  go_wp2_with fail
  have hb1 : Below w1.heap.size w1 (w1.alloc (.cells #[.int .u8 120] 5 (1, 2))) := bel_alloc (Below.refl _ _) _
  have hx1 : RB (w1.alloc (.cells #[.int .u8 120] 5 (1, 2))) (some ⟨w1.heap.size, 0, none⟩) [120] := RB.lit w1 5 (1, 2) _ (by simp) _ rfl _ (by simp [cellsOf])
  refine (send_ok (fun _ => 0) 1 g 0 [] 2 _ 1 0 [120] _ (paint w1 c1 (fun _ => 0)) (L1.out.grow hb1 _) (RC.new 0 hx1 (fun ad e => by cases e; exact Nat.le_refl _)) (by omega) ⟨Nat.le_refl _, fun e => by cases e⟩ ⟨by omega, by omega, by simp⟩ (by omega) (by simp) (by omega)).mono ?_
  have O2 := Lib.hid (O1.out.grow hb1 (fun _ => 0))
  clear hb1 hx1 O1 L1
  rintro e w2 ⟨rfl, c2, A1, k1, s2, l2⟩
  have O3 := Lib.hid (O2.out.step s2 (by omega))
  have L3 := Lib.hid l2
  clear s2 l2 O2
  go_wp2_with fail
  refine (double_at (fun _ => 0) 1 g 1 _ 1 w2 c2 L3.out (by simp) (by omega) (by simp) (by omega) 0 _ rfl rfl).mono ?_
  rintro e w3 ⟨rfl, c3, A2, k2, s3, l3⟩
  have O4 := Lib.hid (O3.out.step s3 (by omega))
  have L4 := Lib.hid l3
  clear s3 l3 O3 L3
  go_wp2_with fail
  refine (take_at (fun _ => 0) 1 g 2 _ 2 w3 c3 L4.out (by simp) 1 _ rfl rfl).mono ?_
  rintro e w4 ⟨rfl, c4, s4, l4, sv4, rc4⟩
  have O5 := Lib.hid (O4.out.step s4 (by omega))
  have L5 := Lib.hid l4
  have R5 := Lib.hid rc4
  simp only [frameV]
  clear s4 l4 O4 L4 sv4 rc4
  have hb5 : Below w4.heap.size w4 (w4.alloc (.cells #[.int .i64 2, .int .i64 2, .slice A2 1 k2] 31)) := bel_alloc (Below.refl _ _) _
  have O6 := Lib.hid (O5.out.grow hb5 (fun _ => 0))
  have L6 := Lib.hid (L5.out.grow hb5 (fun _ => 0))
  have R6 := Lib.hid ((R5.out.recol (fun k hk => paint_old (new := fun _ => 0) hk)).below hb5)
  have hh6 : (w4.alloc (.cells #[.int .i64 2, .int .i64 2, .slice A2 1 k2] 31)).heap[w4.heap.size]? = some (.cells #[.int .i64 2, .int .i64 2, .slice A2 1 k2] 31 (0, 0)) := heap_alloc_new w4 _
  have HH6 := Lib.hid hh6
  have hp6 : paint w4 c4 (fun _ => 0) w4.heap.size = 0 := paint_new (Nat.le_refl _)
  have HP6 := Lib.hid hp6
  clear O5 L5 R5 hb5 hh6 hp6
  go_wp2_with fail
  generalize w4.alloc (.cells #[.int .i64 2, .int .i64 2, .slice A2 1 k2] 31) = w5 at *
  refine (take_at (fun _ => 0) 1 g 2 _ 1 w5 _ L6.out (by simp) 0 _ rfl rfl).mono ?_
  rintro e w6 ⟨rfl, c6, s6, l6, sv6, rc6⟩
  have O7 := Lib.hid (O6.out.step s6 (by omega))
  have R7 := Lib.hid (R6.out.step s6 (by show (1 : Nat) ≠ 0; omega))
  have R7' := Lib.hid rc6
  have hl5 := (Array.getElem?_eq_some_iff.1 HH6.out).1
  have hh7 := (s6.keeps.block _ hl5 (by have := HP6.out; omega)).trans HH6.out
  have HH7 := Lib.hid hh7
  simp only [frameV]
  clear s6 l6 sv6 rc6 hl5 hh7 O6 L6 R6 HH6 HP6
  have hb7 : Below w6.heap.size w6 (w6.alloc (.cells #[.int .i64 1, .int .i64 2, .slice A1 1 k1] 31)) := bel_alloc (Below.refl _ _) _
  have B8 := Lib.hid (bel_then O7.out.below hb7)
  have r8 := (R7.out.below hb7).read
  have r8' := (R7'.out.below hb7).read
  have hh8 := heap_below HH7.out hb7
  have hh8' : (w6.alloc (.cells #[.int .i64 1, .int .i64 2, .slice A1 1 k1] 31)).heap[w6.heap.size]? = some (.cells #[.int .i64 1, .int .i64 2, .slice A1 1 k1] 31 (0, 0)) := heap_alloc_new w6 _
  clear hb7 O7 R7 R7' HH7
  have q1 := conv_str (n := 1) (c := k2) rfl r8
  have q2 := conv_str (n := 1) (c := k1) rfl r8'
  have d1 : (w6.alloc (.cells #[.int .i64 1, .int .i64 2, .slice A1 1 k1] 31)).cell? ⟨w4.heap.size, 2, none⟩ = some (.slice A2 1 k2) := by rw [cell_of_row _ _ 2 _ 31 (0, 0) hh8]; rfl
  have d2 : (w6.alloc (.cells #[.int .i64 1, .int .i64 2, .slice A1 1 k1] 31)).cell? ⟨w6.heap.size, 2, none⟩ = some (.slice A1 1 k1) := by rw [cell_of_row _ _ 2 _ 31 (0, 0) hh8']; rfl
  clear r8 r8' hh8 hh8'
  go_wp2_with fail
  refine (send_bad _ 21 none 0 0 _ (.inr (.inl (by omega)))).mono ?_
  rintro e w8 ⟨rfl, rfl⟩
  go_wp2_with fail
  refine (lose_nil 1 _).mono ?_
  rintro e w9 ⟨rfl, hb9⟩
  have B9 := Lib.hid (bel_then B8.out hb9)
  clear hb9 q1 q2 d1 d2 B8
  go_wp2_with fail
  refine (waiting_nil _).mono ?_
  rintro e w10 ⟨rfl, rfl⟩
  go_wp2
  go_ret
  exact ⟨rfl, B9.out⟩
end Go.Proofs.Ytbjkeakehdljlaa
