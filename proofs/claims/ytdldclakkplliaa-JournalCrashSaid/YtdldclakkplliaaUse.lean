/- A disk used: the contracts in the words that the laws want. Conditions: none. -/
import Derived.Test.YtdldclakkplliaaCrash
namespace Go.Proofs.Ytdldclakkplliaa
set_option linter.unusedVariables false
set_option linter.unusedSimpArgs false
open Go.RowKit

theorem crash_nil (A : Option Addr) (n c : Nat) (w : World) : Calls Try.prog 20 #[.pointer none, .slice A n c] w fun e w' => e = .returned (.pointer none) ∧ w = w' := by
  go_enter Try.func20, Try.ntmps20
  go_wp2_with fail
  refine (sectors_nil w).mono ?_
  rintro e w' ⟨rfl, rfl⟩
  go_wp2_with fail
  refine (new_bad 0 w (.inl (by omega))).mono ?_
  rintro e w' ⟨rfl, rfl⟩
  go_wp2
  go_ret
  exact ⟨rfl, rfl⟩

/-- The disk of fewer words: what a reader sees. -/
theorem DiskAt.fits' {d : DK} {a b : Nat} (h : d.fits a) (hab : a ≤ b) : d.fits b := by
  obtain ⟨h1, h2, h3, h4, h5⟩ := h
  exact ⟨by omega, h2, h3, by omega, by omega⟩
theorem newDK_fits (n : Nat) : (newDK n).fits 0 := ⟨by simp [newDK], by simp [newDK], by simp [newDK], by simp [newDK], by simp [newDK]⟩
theorem asked_fits {d : DK} {a : Nat} (h : d.fits a) : (askedK d).1.fits (a + 1) := by
  obtain ⟨h1, h2, h3, h4, h5⟩ := h
  unfold askedK
  split
  · exact ⟨by show -((a + 1 : Nat) : Int) ≤ d.left; omega, h2, by show 0 ≤ d.ops + 1; omega, by show d.ops + 1 ≤ ((a + 1 : Nat) : Int); omega, by show d.cache.length ≤ a + 1; omega⟩
  · exact ⟨by show -((a + 1 : Nat) : Int) ≤ d.left - 1; omega, by show d.left - 1 ≤ _; omega, by show 0 ≤ d.ops + 1; omega, by show d.ops + 1 ≤ ((a + 1 : Nat) : Int); omega, by show d.cache.length ≤ a + 1; omega⟩
theorem write_fits {d : DK} {a : Nat} {s : Wr} (h : d.fits a) : (writeD d s).fits (a + 1) := by
  have h1 := asked_fits h
  unfold writeD
  split
  · obtain ⟨g1, g2, g3, g4, g5⟩ := h1
    exact ⟨g1, g2, g3, g4, by have := h.2.2.2.2; simp; omega⟩
  · exact h1
theorem flush_fits {d : DK} {a : Nat} (h : d.fits a) : (flushD d).fits (a + 1) := by
  have h1 := asked_fits h
  unfold flushD
  split
  · obtain ⟨g1, g2, g3, g4, g5⟩ := h1
    exact ⟨g1, g2, g3, g4, by simp⟩
  · exact h1
theorem write_n (d : DK) (s : Wr) : (writeD d s).n = d.n := by unfold writeD; split <;> exact asked_n d
theorem write_m (d : DK) (s : Wr) : (writeD d s).m = d.m := by unfold writeD; split <;> exact asked_m d
theorem flush_n (d : DK) : (flushD d).n = d.n := by unfold flushD; split <;> exact asked_n d

/-- A sector is read, in the words of the laws. -/
theorem read_use (id gd mb : Nat) (d : DK) (i : Int) (w : World) (col : Nat → Nat) (h : DiskAt w col id gd mb d) (hi : 0 ≤ i ∧ i < d.n) (hcl : d.cache.length ≤ 1000000) (b : List UInt8) (hb : readB d i = b) :
    Calls Try.prog 31 #[.pointer (some ⟨gd, 0, none⟩), .int .i64 i] w fun e w' => ∃ A c, e = .returned (.tuple #[.slice A 64 c, .int .i64 0]) ∧ SV A 64 c ∧ RB w' A b ∧ b.length = 64 ∧ Below w.heap.size w w' := by
  obtain ⟨v, h⟩ := h
  subst hb
  refine (read_good id gd mb d v i w col h hi hcl).mono ?_
  rintro e w' ⟨A, c, rfl, ho, hb⟩
  obtain ⟨A', c', e', hsv, hrb⟩ := ho.reads
  simp only [Value.slice.injEq] at e'
  obtain ⟨rfl, hl, rfl⟩ := e'
  exact ⟨A, c, rfl, by rw [hl]; exact hsv, hrb, hl.symm, hb⟩
theorem readB_len {w : World} {col : Nat → Nat} {id gd mb : Nat} {v : Value} {d : DK} (h : DiskV w col id gd mb v d) (i : Int) : (readB d i).length = 64 := by
  unfold readB readS
  cases hl : lastW d.cache i with
  | some s =>
    have hm : s ∈ d.cache := by
      unfold lastW at hl
      exact List.mem_reverse.1 (List.mem_of_find?_eq_some hl)
    exact (h.cd s hm).1.2.2
  | none =>
    cases hs : d.safe i with
    | none => simp [secB, hs]
    | some s => simp [secB, hs]; exact (h.sd i s hs).2.2
theorem RI.lit1 (w : World) (x : Int) (t : TypeId) {n : Nat} (hn : n = w.heap.size) : RI (w.alloc (.cells #[.int .i64 x] t)) (some ⟨n, 0, none⟩) [x] :=
  RI.mk' (by simp) (fun _ => ⟨_, rfl, fun j hj => by
    have : j = 0 := by simpa using hj
    subst this
    exact cell_alloc w _ t _ n hn 0 _ rfl⟩)
theorem RI.lit3 (w : World) (x y z : Int) (t : TypeId) {n : Nat} (hn : n = w.heap.size) : RI (w.alloc (.cells #[.int .i64 x, .int .i64 y, .int .i64 z] t)) (some ⟨n, 0, none⟩) [x, y, z] :=
  RI.mk' (by simp) (fun _ => ⟨_, rfl, fun j hj => by
    have : j = 0 ∨ j = 1 ∨ j = 2 := by simp at hj; omega
    rcases this with rfl | rfl | rfl
    · exact cell_alloc w _ t _ n hn 0 _ rfl
    · exact cell_alloc w _ t _ n hn 1 _ rfl
    · exact cell_alloc w _ t _ n hn 2 _ rfl⟩)
/-- Numbers that are read, in a block that nobody writes. -/
theorem RI.step {w w' : World} {col col' : Nat → Nat} {id : Nat} {A : Option Addr} {xs : List Int} (h : RI w A xs) (hz : 0 < xs.length → ∀ ad, A = some ad → col ad.block = 0) (s : Step id w col w' col') (hid : id ≠ 0) : RI w' A xs := by
  refine RI.mk' h.len (fun hp => ?_)
  obtain ⟨ad, e, -⟩ := h.at_ 0 hp
  refine ⟨ad, e, fun j hj => ?_⟩
  obtain ⟨ad', e', hc⟩ := h.at_ j hj
  rw [e] at e'
  cases e'
  have hl := World.block_lt_of_cell? w _ hc
  rw [add_block] at hl
  rw [World.cell?_of_block (w := w) (a := ad.add j) (by rw [add_block]; exact s.keeps.block _ hl (by rw [hz hp ad e]; exact fun e => hid e.symm))]
  exact hc
end Go.Proofs.Ytdldclakkplliaa
