/- The walk of Send: bytes are let wait. Conditions: none. -/
import Derived.Test.YtbjkeakehdljlaaDel
namespace Go.Proofs.Ytbjkeakehdljlaa
set_option linter.unusedVariables false
set_option linter.unusedSimpArgs false
open Go.RowKit

theorem link_add {w w' : World} {col : Nat → Nat} {dc : Int → Nat} {id g : Nat} {last to : Int} {ps : List P} {b : List UInt8} {v : Value} (h : LinkAt w col dc id g last ps)
    (hg : w.heap[g]? = some (.cells #[.int .i64 last, v] 60 (0, 0))) (hv : ∀ k, v.ownBlock = some k → k ≠ g ∧ col k = id) (hown : w.ownsRow 0 31 3 v ps.length (rowOf ps)) (hdc : dc (last + 1) ≠ id) (hp : AddP g last v ps to b w w') :
    ∃ col' Ab cb, Step id w col w' col' ∧ LinkAt w' col' dc id g (last + 1) (ps ++ [⟨last + 1, to, b, Ab, cb⟩]) := by
  obtain ⟨v', Ab, cb, e1, e2, e3, e4, e5⟩ := hp.ex
  have hgl : g < w.heap.size := (Array.getElem?_eq_some_iff.1 hg).1
  have hstep : Step id w col w' (paint w col (fun k => if v'.ownBlock = some k then id else dc (last + 1))) := Step.mk' (hp.keeps.mono fun k _ hk => hk.elim (fun e => e ▸ h.hcol) (fun e => (hv k e).2))
  have hlt : ∀ k, v.ownBlock = some k → k < w.heap.size := fun k hk => (hown.lt k hk).2
  refine ⟨_, Ab, cb, hstep, ⟨(paint_old hgl).trans h.hcol, h.nz, ⟨v', e1, ?_, fun k hk => ?_⟩, fun p hp => ?_, by have := h.num; omega, fun p hp => ?_, ?_, fun p hp => ?_⟩⟩
  · rw [List.length_append]; exact e2
  · rcases e3 with h3 | ⟨k', h3, hk'⟩
    · have hk2 := h3.symm.trans hk
      exact ⟨(hv k hk2).1, (paint_old (hlt k hk2)).trans (hv k hk2).2⟩
    · have : k' = k := by rw [h3] at hk; exact Option.some.inj hk
      subst this
      exact ⟨by omega, by rw [paint_new hk', if_pos h3]⟩
  · rcases List.mem_append.1 hp with hp | hp
    · exact ⟨(h.dat p hp).1, (h.dat p hp).2.1.step hstep (h.dat p hp).2.2.symm, (h.dat p hp).2.2⟩
    · rw [List.mem_singleton] at hp
      subst hp
      obtain ⟨A', c', e6, e7, e8⟩ := e4.reads
      cases e6
      refine ⟨e7, ⟨e8, fun hp ad e => ?_⟩, hdc⟩
      subst e
      have hk := e4.base_ ad.block rfl
      rw [paint_new hk, if_neg (fun e => e5 _ e ad rfl rfl)]
  · rcases List.mem_append.1 hp with hp | hp
    · have := h.ids p hp; exact ⟨this.1, by omega⟩
    · rw [List.mem_singleton] at hp
      subst hp
      have := h.num
      exact ⟨by show 1 ≤ last + 1; omega, Int.le_refl _⟩
  · rw [List.pairwise_append]
    refine ⟨h.inc, by simp, fun p hp q hq => ?_⟩
    rw [List.mem_singleton] at hq
    subst hq
    have := (h.ids p hp).2
    show p.id < last + 1
    omega
  · rcases List.mem_append.1 hp with hp | hp
    · exact (h.hot p hp).step (h.dat p hp).2.1 hstep (h.dat p hp).2.2.symm
    · rw [List.mem_singleton] at hp
      subst hp
      exact e4.hot

/-- What Send answers: number and error. -/
def sendOk (to : Int) (b : List UInt8) : Prop := 0 ≤ to ∧ to ≤ 20 ∧ b.length ≤ 65536
def SendP (dc : Int → Nat) (id g : Nat) (last : Int) (ps : List P) (to : Int) (b : List UInt8) (w : World) (col : Nat → Nat) (e : Ending) (w' : World) : Prop :=
  e = .returned (.tuple #[.int .i64 (last + 1), .int .i64 0]) ∧ ∃ col' Ab cb, Step id w col w' col' ∧ LinkAt w' col' dc id g (last + 1) (ps ++ [⟨last + 1, to, b, Ab, cb⟩])

set_option maxHeartbeats 1000000 in
theorem send_ok (dc : Int → Nat) (id g : Nat) (last : Int) (ps : List P) (to : Int) (A : Option Addr) (c cl : Nat) (b : List UInt8) (w : World) (col : Nat → Nat) (h : LinkAt w col dc id g last ps) (hr : RC w col cl A b) (hcl : cl ≠ id) (hc : SV A b.length c)
    (hok : sendOk to b) (hdc : dc (last + 1) ≠ id) (hps : ps.length ≤ 1000000) (hl : last ≤ 1000000) :
    Calls Try.prog 8 #[.pointer (some ⟨g, 0, none⟩), .int .i64 to, .slice A b.length c] w (SendP dc id g last ps to b w col) := by
  obtain ⟨v, hg, hown, hv⟩ := h.ex
  obtain ⟨o1, o2, o3⟩ := hok
  have hrg : 0 < b.length → ∀ ad, A = some ad → ad.block ≠ g := fun hp ad e e2 => hcl ((hr.at_ hp ad e).symm.trans (e2 ▸ h.hcol))
  have hadd := adds_any g last v ps to A c b w hg hown (fun k hk => (hv k hk).1) hr.read hrg hc (by omega) hps h.num hl
  have hfin := fun w' => link_add (w' := w') (to := to) (b := b) h hg hv hown hdc
  have HA := Lib.hid hadd
  have HF := Lib.hid hfin
  clear hadd hfin hg hown hv hr hc h hrg
  go_enter Try.func8, Try.ntmps8
  go_wp2_with fail
  refine HA.out.mono ?_
  rintro e w' ⟨rfl, hp⟩
  have HP := Lib.hid hp
  clear hp
  go_wp2
  go_ret2
  exact ⟨rfl, HF.out _ HP.out⟩

theorem send_bad (p : Option Addr) (to : Int) (A : Option Addr) (n c : Nat) (w : World) (h : to < 0 ∨ 20 < to ∨ 65536 < n) :
    Calls Try.prog 8 #[.pointer p, .int .i64 to, .slice A n c] w fun e w' => e = .returned (.tuple #[.int .i64 0, .int .i64 1]) ∧ w = w' := by
  by_cases h1 : to < 0
  · go_enter Try.func8, Try.ntmps8
    go_wp2
    go_ret2
    exact ⟨rfl, rfl⟩
  · by_cases h2 : 20 < to
    · go_enter Try.func8, Try.ntmps8
      go_wp2
      go_ret2
      exact ⟨rfl, rfl⟩
    · have h3 : 65536 < n := by omega
      clear h
      go_enter Try.func8, Try.ntmps8
      go_wp2
      go_ret2
      exact ⟨rfl, rfl⟩
end Go.Proofs.Ytbjkeakehdljlaa
