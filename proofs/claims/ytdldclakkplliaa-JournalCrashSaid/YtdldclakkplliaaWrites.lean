/- Write of a disk, whatever it answers; Flush. Conditions: none. -/
import Derived.Test.YtdldclakkplliaaWrite
namespace Go.Proofs.Ytdldclakkplliaa
set_option linter.unusedVariables false
set_option linter.unusedSimpArgs false
open Go.RowKit

theorem write_off (id gd mb : Nat) (d : DK) (v : Value) (n : Nat) (at' : Int) (A : Option Addr) (len c : Nat) (w0 : World) (col : Nat → Nat) (h : DiskV w0 col id gd mb v d) (hf : d.fits n) (hn : n ≤ 1000000) (he : (askedK d).2 = 7) :
    Calls Try.prog 28 #[.pointer (some ⟨gd, 0, none⟩), .int .i64 at', .slice A len c] w0 fun e w' => e = .returned (.int .i64 7) ∧ Step id w0 col w' col ∧ DiskV w' col id gd mb v (askedK d).1 := by
  have HASK := Lib.hid (asked_any id gd mb v d n w0 col h hf (by omega))
  have HE := Lib.hid he
  clear h hf he
  go_enter Try.func28, Try.ntmps28
  go_wp2_with fail
  refine HASK.out.mono ?_
  rintro e w ⟨rfl, st0, h⟩
  rw [HE.out]
  have HST := Lib.hid st0
  have HH := Lib.hid h
  clear st0 h
  go_wp2
  go_ret
  exact ⟨rfl, HST.out, HH.out⟩
set_option maxHeartbeats 1000000 in
theorem write_arg (id gd mb : Nat) (d : DK) (v : Value) (n : Nat) (at' : Int) (A : Option Addr) (len c : Nat) (w0 : World) (col : Nat → Nat) (h : DiskV w0 col id gd mb v d) (hf : d.fits n) (hn : n ≤ 1000000) (he : (askedK d).2 = 0) (hbad : at' < 0 ∨ (d.n : Int) ≤ at' ∨ len ≠ 64) :
    Calls Try.prog 28 #[.pointer (some ⟨gd, 0, none⟩), .int .i64 at', .slice A len c] w0 fun e w' => e = .returned (.int .i64 1) ∧ Step id w0 col w' col ∧ DiskV w' col id gd mb v (askedK d).1 := by
  have HASK := Lib.hid (asked_any id gd mb v d n w0 col h hf (by omega))
  have HE := Lib.hid he
  have HDN := Lib.hid (asked_n d)
  clear h hf he
  by_cases h1 : at' < 0
  · go_enter Try.func28, Try.ntmps28
    go_wp2_with fail
    refine HASK.out.mono ?_
    rintro e w ⟨rfl, st0, h⟩
    rw [HE.out]
    have HST := Lib.hid st0
    have HH := Lib.hid h
    clear st0 h
    go_wp2
    go_ret
    exact ⟨rfl, HST.out, HH.out⟩
  · by_cases h2 : (d.n : Int) ≤ at'
    · go_enter Try.func28, Try.ntmps28
      go_wp2_with fail
      refine HASK.out.mono ?_
      rintro e w ⟨rfl, st0, h⟩
      rw [HE.out]
      have HST := Lib.hid st0
      have HH := Lib.hid h
      have c0 : w.cell? ⟨gd, 0, none⟩ = some (.int .i64 d.n) := by rw [cell_of_row _ _ 0 _ _ _ h.obj, ← HDN.out]; rfl
      clear st0 h
      go_wp2
      go_ret
      exact ⟨rfl, HST.out, HH.out⟩
    · have h3 : len ≠ 64 := by omega
      have h4 : (len == 64) = false := by simp [h3]
      have h5 : ((len : Int) != 64) = true := by simp; omega
      clear hbad
      go_enter Try.func28, Try.ntmps28
      go_wp2_with fail
      refine HASK.out.mono ?_
      rintro e w ⟨rfl, st0, h⟩
      rw [HE.out]
      have HST := Lib.hid st0
      have HH := Lib.hid h
      have c0 : w.cell? ⟨gd, 0, none⟩ = some (.int .i64 d.n) := by rw [cell_of_row _ _ 0 _ _ _ h.obj, ← HDN.out]; rfl
      clear st0 h
      go_wp2
      go_ret
      exact ⟨rfl, HST.out, HH.out⟩

theorem write_any (id gd mb : Nat) (d : DK) (n : Nat) (at' : Int) (A : Option Addr) (c cl : Nat) (b : List UInt8) (w : World) (col : Nat → Nat) (h : DiskAt w col id gd mb d) (hf : d.fits n) (hn : n ≤ 1000000) (hr : RC w col cl A b) (hcl : cl ≠ id) (hsv : SV A b.length c) :
    Calls Try.prog 28 #[.pointer (some ⟨gd, 0, none⟩), .int .i64 at', .slice A b.length c] w (WriteQ id gd mb d at' b w col) := by
  obtain ⟨v, h⟩ := h
  rcases asked_e d with he | he
  · by_cases hbad : at' < 0 ∨ (d.n : Int) ≤ at' ∨ b.length ≠ 64
    · refine (write_arg id gd mb d v n at' A b.length c w col h hf hn he hbad).mono ?_
      rintro e w' ⟨rfl, st, hd⟩
      have h1 : writeE d at' b.length = 1 := by unfold writeE; rw [if_neg (by rw [he]; simp), if_pos hbad]
      exact ⟨by rw [h1], col, none, 0, st, v, by unfold writeD; rw [h1, if_neg (by omega)]; exact hd⟩
    · have hb : b.length = 64 := by omega
      have hg := write_good id gd mb d v n at' A c cl b w col h hf hn he hr hcl hsv (by omega) hb
      rw [← hb] at hg
      refine hg.mono ?_
      rintro e w' ⟨rfl, col', A', c', v1, st, hd⟩
      have h1 : writeE d at' b.length = 0 := by unfold writeE; rw [if_neg (by rw [he]; simp), if_neg hbad]
      refine ⟨by rw [h1], col', A', c', st, v1, ?_⟩
      unfold writeD
      rw [show (⟨at', b, A', c'⟩ : Wr).at_ = at' from rfl, show (⟨at', b, A', c'⟩ : Wr).b = b from rfl, h1, if_pos rfl]
      exact hd
  · refine (write_off id gd mb d v n at' A b.length c w col h hf hn he).mono ?_
    rintro e w' ⟨rfl, st, hd⟩
    have h1 : writeE d at' b.length = 7 := by unfold writeE; rw [if_pos (by rw [he]; simp), he]
    exact ⟨by rw [h1], col, none, 0, st, v, by unfold writeD; rw [h1, if_neg (by omega)]; exact hd⟩
end Go.Proofs.Ytdldclakkplliaa
