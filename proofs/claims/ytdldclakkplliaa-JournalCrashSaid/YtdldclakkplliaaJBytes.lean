/- The walk of bytes: a half's bytes. Conditions: none. -/
import Derived.Test.YtdldclakkplliaaJWrites
namespace Go.Proofs.Ytdldclakkplliaa
set_option linter.unusedVariables false
set_option linter.unusedSimpArgs false
open Go.RowKit

/-- A half's bytes, of its first k sectors. -/
def halfK (f : Nat → List UInt8) (s0 k : Nat) : List UInt8 := (List.range k).flatMap fun i => f (s0 + i)
def vw (d : DK) (i : Nat) : List UInt8 := readB d (i : Int)
def halfB (d : DK) (half : Nat) : List UInt8 := halfK (vw d) (half * (d.n / 2)) (d.n / 2)
theorem halfK_succ (f : Nat → List UInt8) (s0 k : Nat) : halfK f s0 (k + 1) = halfK f s0 k ++ f (s0 + k) := by
  unfold halfK
  rw [List.range_succ, List.flatMap_append]
  simp
theorem halfK_len (f : Nat → List UInt8) (s0 k : Nat) (h : ∀ i, (f i).length = 64) : (halfK f s0 k).length = 64 * k := by
  induction k with
  | zero => rfl
  | succ k ih => rw [halfK_succ, List.length_append, ih, h]; omega
set_option maxRecDepth 100000 in
set_option maxHeartbeats 4000000 in
theorem bytes_any (id gd mb gj : Nat) (d : DK) (j : JK) (vr : Value) (half : Nat) (w : World) (col : Nat → Nat) (h : DiskAt w col id gd mb d) (hj : w.heap[gj]? = some (.cells (jcells j gd vr) 81 (0, 0))) (hcl : d.cache.length ≤ 1000000) (hh : half ≤ 1) :
    Calls Try.prog 42 #[.pointer (some ⟨gj, 0, none⟩), .int .i64 half] w fun e w' => ∃ v, e = .returned v ∧ OB w' w.heap.size 5 v (halfB d half) ∧ Below w.heap.size w w' := by
  obtain ⟨v, hv⟩ := h
  have hdom := hv.dom
  have hvl := fun i : Nat => readB_len hv (i : Int)
  unfold halfB
  obtain ⟨N2, hN2⟩ : ∃ N, N = d.n / 2 := ⟨_, rfl⟩
  obtain ⟨H, hH⟩ : ∃ H, H = half * N2 := ⟨_, rfl⟩
  rw [← hN2, ← hH]
  have hHb : H + N2 ≤ d.n := by
    rcases (by omega : half = 0 ∨ half = 1) with e | e
    · rw [e] at hH; omega
    · rw [e] at hH; omega
  have t1 : (d.n : Int).tdiv 2 = (N2 : Int) := by rw [Int.tdiv_eq_ediv_of_nonneg (by omega)]; omega
  have t2 : (half : Int) * (N2 : Int) = (H : Int) := by rw [hH]; push_cast; rfl
  have hn2 : N2 ≤ 65536 := by omega
  have hdomn := hdom.2
  have HV := Lib.hid hv
  have c0 : w.cell? ⟨gj, 0, none⟩ = some (.pointer (some ⟨gd, 0, none⟩)) := by rw [cell_of_row _ _ 0 _ _ _ hj]; rfl
  have HC0 : Hid (∀ X, Below w.heap.size w X → X.cell? ⟨gj, 0, none⟩ = some (.pointer (some ⟨gd, 0, none⟩))) := Lib.hid (fun X hX => (hX.cell (World.block_lt_of_cell? _ _ c0)).trans c0)
  have HVL : Hid (∀ i, (vw d i).length = 64) := Lib.hid hvl
  clear hv hj hN2 hH hvl
  go_enter Try.func42, Try.ntmps42
  go_wp2_with fail
  refine (sectors_any gd mb v d w HV.out.obj).mono ?_
  rintro e w' ⟨rfl, rfl⟩
  go_wp2
  clear c0
  go_loopw [4, 6, 7, 8, 16] (fun u4 u6 u7 u8 u16 w' => ∃ k : Nat, k ≤ N2 ∧ u16 = .int .i64 k ∧ Hid (OB w' w.heap.size 5 u4 (halfK (vw d) H k)) ∧ Hid (Below w.heap.size w w')) (fun _ _ _ _ u16 _ => N2 - (intOf u16).toNat)
  case atStart => exact ⟨0, by omega, rfl, Lib.hid (OB.nil _ _ _), Lib.hid (Below.refl _ _)⟩
  case round =>
    obtain ⟨k, hk, rfl, HO, HB⟩ := hrel
    by_cases hlt : k < N2
    · have c0 := HC0.out wr HB.out
      obtain ⟨S0, hS0⟩ : ∃ S, S = vw d (H + k) := ⟨_, rfl⟩
      have HS0 := Lib.hid hS0
      have hrd := read_use id gd mb d ((H + k : Nat) : Int) wr col ⟨_, HV.out.below HB.out⟩ ⟨by omega, by omega⟩ hcl S0 hS0.symm
      rw [show ((H + k : Nat) : Int) = (H : Int) + (k : Int) by omega] at hrd
      have HRD := Lib.hid hrd
      clear hrd hS0
      go_wp2_with fail
      refine HRD.out.mono ?_
      rintro e w2 ⟨A2, c2, rfl, sv2, rb2, hl2, hb2⟩
      have RB2 := Lib.hid rb2
      have SV2 := Lib.hid sv2
      have HL2 := Lib.hid hl2
      have HB2 := Lib.hid (bel_then HB.out hb2)
      have HO2 := Lib.hid (HO.out.below hb2)
      clear rb2 sv2 hl2 hb2 c0
      go_wp2_with (first | (at_builtin; go_loud (refine wp_app_bytes rfl _ _ 22 rfl w.heap.size 5 Try.underlying22 info5 u4 (halfK (vw d) H k) rfl HO2.out A2 c2 S0 (by rw [HL2.out]; rfl) SV2.out.2 RB2.out (by rw [halfK_len _ _ _ HVL.out, HL2.out]; omega) HB2.out.size ?_); intro v3 w3 ho hg _; have HO3 := Lib.hid ho; have HB3 := Lib.hid (bel_grown HB2.out hg (fun i e => HO2.out.base_ i e)); clear ho hg) | fail)
      go_roundw
      case rel => exact ⟨k + 1, by omega, by go_num, Lib.hid (by rw [halfK_succ, ← HS0.out]; exact HO3.out), HB3⟩
      case measure => simp [intOf]; omega
    · obtain rfl : k = N2 := by omega
      obtain ⟨AO, cO, eO, -, -⟩ := HO.out.reads
      obtain ⟨lO, hlO⟩ : ∃ l, l = (halfK (vw d) H k).length := ⟨_, rfl⟩
      rw [← hlO] at eO
      subst eO
      clear hlO
      go_wp2
      go_ret
      exact ⟨_, rfl, HO.out, HB.out⟩
end Go.Proofs.Ytdldclakkplliaa
