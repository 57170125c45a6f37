/- The walk of CrcFlips. Conditions: none. -/
import Derived.Test.YtigpeghfhfknjaaSums
import Derived.Deep.RegionHeld3
import Derived.Deep.QuietTactic
import Derived.BigQuiet
import Derived.BigRegion
namespace Go.Proofs.Ytigpeghfhfknjaa
set_option linter.unusedVariables false
set_option linter.unusedSimpArgs false
open Go.RowKit

theorem sum1_at' (n : Nat) (A : Option Addr) (c : Nat) (w : World) (bs : List UInt8) (h : Crc.sum bs = n) (hr : RL w A [bs]) :
    Calls Try.prog 8 #[.slice A 1 c] w fun e w' => e = .returned (.int .u32 (n : Nat)) ∧ w = w' := sum_at n A c [bs] w hr (by simpa using h)
theorem round_at' (r k n : Int) (w : World) (h1 : -9223372036854775808 ≤ k) (h2 : k ≤ 9223372036854775807) (hn : 0 < n) (hn2 : n ≤ 4611686018427387904) (h : k % n = r) :
    Calls Try.prog 13 #[.int .i64 k, .int .i64 n] w fun e w' => e = .returned (.int .i64 r) ∧ w = w' := by subst h; exact round_any k n w h1 h2 hn hn2

theorem bit_lt (m : Nat) (hm : m < 8) : 2 ^ m < 256 := by
  have e : ∀ m, m < 8 → 2 ^ m < 256 := by decide
  exact e m hm
theorem xor_bit (c : UInt8) (m : Nat) (hm : m < 8) : bits .xor .u8 (c.toNat : Int) ((2 : Int) ^ m % 256) = ((c ^^^ UInt8.ofNat (2 ^ m)).toNat : Int) := by
  have h := bit_lt m hm
  have e : ((2 : Int) ^ m % 256) = ((2 ^ m : Nat) : Int) := by
    have h2 : ((2 : Int) ^ m) = ((2 ^ m : Nat) : Int) := by simp
    rw [h2]
    generalize 2 ^ m = z at h ⊢
    omega
  rw [e, u8_xor_nat _ _ c.toNat_lt h, UInt8.toNat_xor, UInt8.toNat_ofNat', Nat.mod_eq_of_lt (by simpa using h)]
theorem xor_byte (c : UInt8) (x t : Nat) : bits .xor .u8 (c.toNat : Int) ((x : Int) / 2 ^ (8 * t) % 256) = ((c ^^^ UInt8.ofNat (x / 2 ^ (8 * t))).toNat : Int) := by
  have e : ((x : Int) / 2 ^ (8 * t) % 256) = ((x / 2 ^ (8 * t) % 256 : Nat) : Int) := by simp
  rw [e, u8_xor_nat _ _ c.toNat_lt (Nat.mod_lt _ (by decide)), UInt8.toNat_xor, UInt8.toNat_ofNat']
theorem bit_toNat (m : Nat) (hm : m < 8) : (UInt8.ofNat (2 ^ m)).toNat = 2 ^ m := by
  rw [UInt8.toNat_ofNat', Nat.mod_eq_of_lt (by simpa using bit_lt m hm)]
/-- A byte of a row of the call's own, changed by a bit: what the walk writes, and what it makes. -/
theorem flip_step {w W : World} {base g cap : Nat} {e : TypeId} {bs : List UInt8} (h : OB W base e (.slice (some ⟨g, 0, none⟩) bs.length cap) bs) (hb : Below w.heap.size w W) (hg : w.heap.size ≤ g) (j m : Nat) (hm : m < 8) (n1 : Nat)
    (hn : n1 = (bs.getD j 0 ^^^ UInt8.ofNat (2 ^ m)).toNat) : OB ((W.setCell ⟨g, j, none⟩ (.int .u8 (n1 : Int))).drew) base e (.slice (some ⟨g, 0, none⟩) bs.length cap) (bs.set j (bs.getD j 0 ^^^ UInt8.ofNat (2 ^ m))) ∧
      Below w.heap.size w (W.setCell ⟨g, j, none⟩ (.int .u8 (n1 : Int))).drew := by
  subst hn
  obtain ⟨h1, h2⟩ := h.set j (bs.getD j 0 ^^^ UInt8.ofNat (2 ^ m))
  exact ⟨h1.drew, bel_drew (bel_grown hb h2 (fun k e => by cases e; exact hg))⟩

set_option maxHeartbeats 4000000 in
theorem flips_main (A : Option Addr) (c : Nat) (b : List UInt8) (p q : Int) (hp1 : -9223372036854775808 ≤ p) (hp2 : p ≤ 9223372036854775807) (hq1 : -9223372036854775808 ≤ q) (hq2 : q ≤ 9223372036854775807) (x : Nat) (hx : x < 4294967296) (w : World) (hr : RB w A b) (hc : SV A b.length c) :
    Calls Try.prog 4 #[.slice A b.length c, .int .i64 p, .int .i64 q, .int .u32 (x : Int)] w fun e w' => e = .returned (.bool true) ∧ Below w.heap.size w w' := by
  have HR := Lib.hid hr
  have HC := Lib.hid hc
  have hl := hr.len
  clear hr hc
  by_cases h1 : b.length < 4
  · go_enter Try.func4, Try.ntmps4
    go_wp2_with fail
    refine (awake_any _).mono ?_
    rintro e w2 ⟨rfl, hB2⟩
    have HB2 := Lib.hid hB2
    clear hB2
    go_wp2
    go_ret
    exact ⟨rfl, HB2.out⟩
  · by_cases h2 : 500 < b.length
    · go_enter Try.func4, Try.ntmps4
      go_wp2_with fail
      refine (awake_any _).mono ?_
      rintro e w2 ⟨rfl, hB2⟩
      have HB2 := Lib.hid hB2
      clear hB2
      go_wp2
      go_ret
      exact ⟨rfl, HB2.out⟩
    · go_enter Try.func4, Try.ntmps4
      go_wp2_with (first | (at_builtin; refine wp_app_bytes rfl _ _ 24 rfl w.heap.size 5 Try.underlying24 info5 _ [] rfl (OB.empty w w.heap.size 5 (Nat.le_refl _) _ rfl) _ _ b rfl HC.out.2 (HR.out.alloc _) (by simp; omega) (by simp) ?_; intro v1 w1 ho hg _; rw [List.nil_append] at ho; have HO := Lib.hid ho; have HB1 := Lib.hid (bel_grown (bel_alloc (Below.refl _ _) _) hg (fun k e => by simp [Value.ownBlock, Act.eval] at e; omega)); clear ho hg) | fail)
      have hp3 := Int.emod_nonneg p (show (8 * (b.length : Int)) ≠ 0 by omega)
      have hp4 := Int.emod_lt_of_pos p (show 0 < (8 * (b.length : Int)) by omega)
      have hq3 := Int.emod_nonneg q (show (8 * (b.length : Int)) ≠ 0 by omega)
      have hq4 := Int.emod_lt_of_pos q (show 0 < (8 * (b.length : Int)) by omega)
      obtain ⟨i, hi⟩ := Int.eq_ofNat_of_zero_le hp3
      obtain ⟨k, hk⟩ := Int.eq_ofNat_of_zero_le hq3
      rw [hi] at hp4
      rw [hk] at hq4
      clear hp3 hq3
      have hi8 : i / 8 < b.length := by omega
      have hk8 : k / 8 < b.length := by omega
      refine (round_at' i p _ w1 hp1 hp2 (by omega) (by omega) hi).mono ?_
      rintro e w' ⟨rfl, rfl⟩
      go_wp2_with fail
      refine (round_at' k q _ w1 hq1 hq2 (by omega) (by omega) hk).mono ?_
      rintro e w' ⟨rfl, rfl⟩
      clear hi hk
      obtain ⟨g, cap, hv, hg, hcap, hcells, hfz⟩ := HO.out.form (by omega)
      subst hv
      obtain ⟨j, hj⟩ : ∃ j, j = i / 8 := ⟨_, rfl⟩
      obtain ⟨m, hm⟩ : ∃ m, m = i % 8 := ⟨_, rfl⟩
      have e1 : (i : Int).tdiv 8 = (j : Int) := by rw [Int.tdiv_eq_ediv_of_nonneg (by omega)]; omega
      have e2 : (i : Int).tmod 8 = (m : Int) := by rw [Int.tmod_eq_emod_of_nonneg (by omega)]; omega
      have e3 : IntKind.i64.wrap (j : Int) = (j : Int) := IntWalk.i64_in _ (by omega)
      have f7 : (j : Int) < (b.length : Int) := by omega
      have f8 : (m : Int) < 8 := by omega
      rw [← hj] at hi8
      have HJ := Lib.hid hj
      have HMM := Lib.hid hm
      clear hj hm
      obtain ⟨n0, hn0⟩ : ∃ n0, n0 = (b.getD j 0).toNat := ⟨_, rfl⟩
      obtain ⟨n1, hn1⟩ : ∃ n1, n1 = (b.getD j 0 ^^^ UInt8.ofNat (2 ^ m)).toNat := ⟨_, rfl⟩
      have hcl : w1.cell? ⟨g, j, none⟩ = some (.int .u8 (n0 : Int)) := by rw [hn0]; exact hcells j hi8
      have r1 : bits .xor .u8 (n0 : Int) ((2 : Int) ^ m % 256) = (n1 : Int) := by rw [hn0, hn1]; exact xor_bit _ _ (by omega)
      have hf1 := hfz j
      obtain ⟨W1, hW1⟩ : ∃ W1, W1 = (w1.setCell ⟨g, j, none⟩ (.int .u8 (n1 : Int))).drew := ⟨_, rfl⟩
      obtain ⟨ho1, hb1⟩ := flip_step HO.out HB1.out hg j m (by omega) n1 hn1
      rw [← hW1] at ho1 hb1
      have HO1 := Lib.hid ho1
      have HBW1 := Lib.hid hb1
      have HW1 := Lib.hid hW1
      clear hcells hfz hn0 hn1 ho1 hb1 hW1
      go_wp2_with fail
      go_region
      rw [← HW1.out]
      clear HW1 r1 hcl hf1 HO HB1
      obtain ⟨b1, hb1⟩ : ∃ b1, b1 = b.set j (b.getD j 0 ^^^ UInt8.ofNat (2 ^ m)) := ⟨_, rfl⟩
      rw [← hb1] at HO1
      have hbl : b.length = b1.length := by rw [hb1, List.length_set]
      have HBL := Lib.hid hbl
      have HB1E := Lib.hid hb1
      clear hb1 hbl
      have HF := Lib.hid (Crc.flips b i k (by omega) (by omega) (by omega) (UInt8.ofNat (2 ^ (i % 8))) (UInt8.ofNat (2 ^ (k % 8))) (bit_toNat _ (by omega)) (bit_toNat _ (by omega)))
      have hi1 : (i : Int) < 8 * (b.length : Int) := hp4
      by_cases hik : i = k
      case' pos =>
        have hbe : ((i : Int) != (k : Int)) = false := by simp [hik]
        have HNE : Hid (Crc.sum b1 ≠ Crc.sum b) := by rw [HB1E.out, HJ.out, HMM.out]; exact HF.out.1
        clear HF HB1E hik
        obtain ⟨W2, hW2⟩ : ∃ W2, W2 = W1 := ⟨_, rfl⟩
        obtain ⟨b2, hb2⟩ : ∃ b2, b2 = b1 := ⟨_, rfl⟩
        rw [← hW2] at HO1 HBW1 ⊢
        rw [← hb2] at HO1 HNE HBL
        have HO2 := HO1
        have HBW2 := HBW1
        have HL2 := HBL
        clear HO1 HBW1 HBL hW2 hb2
      case' neg =>
        have hbe : ((i : Int) != (k : Int)) = true := by simp; omega
        obtain ⟨j2, hj2⟩ : ∃ j2, j2 = k / 8 := ⟨_, rfl⟩
        obtain ⟨m2, hm2⟩ : ∃ m2, m2 = k % 8 := ⟨_, rfl⟩
        have e1 : (k : Int).tdiv 8 = (j2 : Int) := by rw [Int.tdiv_eq_ediv_of_nonneg (by omega)]; omega
        have e2 : (k : Int).tmod 8 = (m2 : Int) := by rw [Int.tmod_eq_emod_of_nonneg (by omega)]; omega
        have e3 : IntKind.i64.wrap (j2 : Int) = (j2 : Int) := IntWalk.i64_in _ (by omega)
        have f7 : (j2 : Int) < (b.length : Int) := by omega
        have f8 : (m2 : Int) < 8 := by omega
        rw [← hj2] at hk8
        have HJ2 := Lib.hid hj2
        have HMM2 := Lib.hid hm2
        clear hj2 hm2
        have ho1 := HO1.out
        rw [HBL.out] at ho1
        obtain ⟨g', cap', hv', _, _, hcells, hfz⟩ := ho1.form (by have := HBL.out; omega)
        cases hv'
        obtain ⟨n2, hn2⟩ : ∃ n2, n2 = (b1.getD j2 0).toNat := ⟨_, rfl⟩
        obtain ⟨n3, hn3⟩ : ∃ n3, n3 = (b1.getD j2 0 ^^^ UInt8.ofNat (2 ^ m2)).toNat := ⟨_, rfl⟩
        have hcl : W1.cell? ⟨g, j2, none⟩ = some (.int .u8 (n2 : Int)) := by rw [hn2]; exact hcells j2 (by have := HBL.out; omega)
        have r1 : bits .xor .u8 (n2 : Int) ((2 : Int) ^ m2 % 256) = (n3 : Int) := by rw [hn2, hn3]; exact xor_bit _ _ (by omega)
        have hf1 := hfz j2
        obtain ⟨W2, hW2⟩ : ∃ W2, W2 = (W1.setCell ⟨g, j2, none⟩ (.int .u8 (n3 : Int))).drew := ⟨_, rfl⟩
        obtain ⟨ho2, hb2⟩ := flip_step ho1 HBW1.out hg j2 m2 (by omega) n3 hn3
        rw [← hW2] at ho2 hb2
        rw [← HBL.out] at ho2
        have HO2 := Lib.hid ho2
        have HBW2 := Lib.hid hb2
        have HW2 := Lib.hid hW2
        clear hcells hfz hn2 hn3 ho1 ho2 hb2 hW2
        go_wp2_with fail
        go_region
        rw [← HW2.out]
        obtain ⟨b2, hb2⟩ : ∃ b2, b2 = b1.set j2 (b1.getD j2 0 ^^^ UInt8.ofNat (2 ^ m2)) := ⟨_, rfl⟩
        rw [← hb2] at HO2
        have HL2 : Hid (b.length = b2.length) := by rw [hb2, List.length_set]; exact HBL.out
        have HNE : Hid (Crc.sum b2 ≠ Crc.sum b) := by rw [hb2, HB1E.out, HJ.out, HMM.out, HJ2.out, HMM2.out]; exact HF.out.2 hik
        clear HW2 r1 hcl hf1 HO1 HBW1 hb2 HF HB1E hik HBL HJ2 HMM2 e1 e2 e3 f7 f8
      all_goals
        go_wp2_with (first | (at_builtin; refine wp_app_bytes rfl _ _ 24 rfl w.heap.size 5 Try.underlying24 info5 _ [] rfl (OB.empty W2 w.heap.size 5 HBW2.out.size _ rfl) _ _ b rfl HC.out.2 ((HR.out.below HBW2.out).alloc _) (by simp; omega) (by have := HBW2.out.size; simp; omega) ?_; intro v3 w3 ho hg2 hat; rw [List.nil_append] at ho; have HOd := Lib.hid ho; have HAT := Lib.hid hat; have HGL := Lib.hid ((OB.row HO2.out).lt g rfl).2; clear hat; have HB3 := Lib.hid (bel_grown (bel_alloc HBW2.out _) hg2 (fun k e => by have := HBW2.out.size; simp [Value.ownBlock, Act.eval] at e; omega)); have HO3 := Lib.hid (OB.kept (OB.kept HO2.out (World.grownBy_alloc _ _ none) (Or.inr (by simp [Value.ownBlock]))) hg2 (Or.inr (by have := (OB.row HO2.out).lt g rfl; simp [Value.ownBlock, Act.eval]; omega))); clear ho hg2) | fail)
      all_goals
        have hj3 := Int.emod_nonneg p (show ((b.length : Int) - 3) ≠ 0 by omega)
        have hj4 := Int.emod_lt_of_pos p (show 0 < ((b.length : Int) - 3) by omega)
        obtain ⟨jj, hjj⟩ := Int.eq_ofNat_of_zero_le hj3
        rw [hjj] at hj4
        have hjl : jj + 4 ≤ b.length := by omega
        refine (round_at' jj p _ w3 hp1 hp2 (by omega) (by omega) hjj).mono ?_
        rintro e w' ⟨rfl, rfl⟩
        clear hjj hj3 hj4
        obtain ⟨gd, capd, hvd, hgd, _, _, _⟩ := HOd.out.form (by omega)
        subst hvd
        have hne : g ≠ gd := by
          have h1 := HAT.out
          have h2 := HGL.out
          simp [Value.ownBlock, Act.eval] at h1
          omega
        have HNEQ := Lib.hid hne
        clear hne HAT HGL
        have HGD := Lib.hid hgd
        clear hgd
        go_wp2
        go_loopw [14] (fun n wr => ∃ t : Nat, t ≤ 4 ∧ n = .int .i64 t ∧ Hid (OB wr w.heap.size 5 (.slice (some ⟨gd, 0, none⟩) b.length capd) (Crc.patch b jj x t)) ∧ Hid (OB wr w.heap.size 5 (.slice (some ⟨g, 0, none⟩) b.length cap) b2) ∧ Hid (Below w.heap.size w wr)) (fun n _ => 4 - (intOf n).toNat)
        case atStart => exact ⟨0, by omega, rfl, HOd, HO3, HB3⟩
        case round =>
          obtain ⟨t, ht, rfl, HP, HG, HBr⟩ := hrel
          by_cases ht4 : t < 4
          · have hpl := Crc.patch_length b jj x t
            have HPL := Lib.hid hpl
            have hp0 := HP.out
            rw [← hpl] at hp0
            obtain ⟨g', cap', hv', _, _, hcells, hfz⟩ := hp0.form (by omega)
            cases hv'
            obtain ⟨n0, hn0⟩ : ∃ n0, n0 = ((Crc.patch b jj x t).getD (jj + t) 0).toNat := ⟨_, rfl⟩
            have hcl : wr.cell? ⟨gd, jj + t, none⟩ = some (.int .u8 (n0 : Int)) := by rw [hn0]; exact hcells _ (by omega)
            have hf1 := hfz (jj + t)
            obtain ⟨n1, hn1⟩ : ∃ n1, n1 = ((Crc.patch b jj x t).getD (jj + t) 0 ^^^ UInt8.ofNat (x / 2 ^ (8 * t))).toNat := ⟨_, rfl⟩
            have r1 : bits .xor .u8 (n0 : Int) ((x : Int) / 2 ^ (8 * t) % 256) = (n1 : Int) := by rw [hn0, hn1]; exact xor_byte _ _ _
            obtain ⟨Wn, hWn⟩ : ∃ Wn, Wn = (wr.setCell ⟨gd, jj + t, none⟩ (.int .u8 (n1 : Int))).drew := ⟨_, rfl⟩
            obtain ⟨h3, h4⟩ := hp0.set (jj + t) ((Crc.patch b jj x t).getD (jj + t) 0 ^^^ UInt8.ofNat (x / 2 ^ (8 * t)))
            have HPn : Hid (OB Wn w.heap.size 5 (.slice (some ⟨gd, 0, none⟩) b.length capd) (Crc.patch b jj x (t + 1))) := by
              rw [hWn, hn1, ← hpl]; exact h3.drew
            have HGn : Hid (OB Wn w.heap.size 5 (.slice (some ⟨g, 0, none⟩) b.length cap) b2) := by
              rw [hWn, hn1]; exact (HG.out.kept h4 (Or.inr (by intro e; cases e; exact HNEQ.out rfl))).drew
            have HBn : Hid (Below w.heap.size w Wn) := by
              rw [hWn, hn1]; exact bel_drew (bel_grown HBr.out h4 (fun k e => by cases e; exact HGD.out))
            have HWN := Lib.hid hWn
            clear hpl hp0 hcells hfz hn0 hn1 h3 h4 hWn
            have f7 : (jj : Int) + (t : Int) < (b.length : Int) := by omega
            go_wp2_with fail
            go_region
            rw [← HWN.out]
            clear HWN r1 hcl hf1
            go_wp2
            go_roundw
            case rel => exact ⟨t + 1, by omega, by go_num, HPn, HGn, HBn⟩
            case measure => simp [intOf]; omega
          · obtain rfl : t = 4 := by omega
            obtain ⟨d4, hd4⟩ : ∃ d4, d4 = Crc.patch b jj x 4 := ⟨_, rfl⟩
            obtain ⟨S2, hS2⟩ : ∃ n, n = Crc.sum b2 := ⟨_, rfl⟩
            obtain ⟨S0, hS0⟩ : ∃ n, n = Crc.sum b := ⟨_, rfl⟩
            obtain ⟨SD, hSD⟩ : ∃ n, n = Crc.sum d4 := ⟨_, rfl⟩
            obtain ⟨z, hz⟩ : ∃ z, z = (x == 0) := ⟨_, rfl⟩
            have hps := Crc.patch_sum b jj x hjl hx
            have hdl : b.length = d4.length := by rw [hd4, Crc.patch_length]
            have r1 : ((S2 : Int) == (S0 : Int)) = false := by
              rw [beq_eq_false_iff_ne]
              intro e
              exact HNE.out (by rw [← hS2, ← hS0]; omega)
            have r1' : ((S2 : Int) != (S0 : Int)) = true := by rw [bne, r1]; rfl
            have r2 : ((SD : Int) == (S0 : Int)) = z := by
              rw [hz, Bool.eq_iff_iff]
              simp only [beq_iff_eq]
              rw [← hd4, ← hSD, ← hS0] at hps
              omega
            have r3 : ((x : Int) == 0) = z := by
              rw [hz, Bool.eq_iff_iff]
              simp only [beq_iff_eq]
              omega
            rw [← hd4] at HP
            have hp0 := HP.out
            rw [hdl] at hp0
            obtain ⟨_, _, e1, sv1, rb1⟩ := hp0.reads
            cases e1
            have hg0 := HG.out
            rw [HL2.out] at hg0
            obtain ⟨_, _, e2, sv2, rb2⟩ := hg0.reads
            cases e2
            have R1 := Lib.hid rb1
            have R2 := Lib.hid rb2
            have V1 := Lib.hid sv1
            have V2 := Lib.hid sv2
            have HDL := Lib.hid hdl
            have HS2 := Lib.hid hS2
            have HS0 := Lib.hid hS0
            have HSD := Lib.hid hSD
            clear hd4 hS2 hS0 hSD hz hps hdl hp0 hg0 rb1 rb2 sv1 sv2
            go_wp2_with fail
            refine (sum1_at' S2 _ _ _ b2 HS2.out.symm (RL.one _ R2.out V2.out rfl HL2.out)).mono ?_
            rintro e Wa ⟨rfl, hw⟩
            have HBa : Hid (Below w.heap.size w Wa) := by rw [← hw]; exact bel_alloc HBr.out _
            have R1a : Hid (RB Wa (some ⟨gd, 0, none⟩) d4) := by rw [← hw]; exact R1.out.alloc _
            clear hw
            go_wp2_with fail
            refine (sum1_at' S0 _ _ _ b HS0.out.symm (RL.one _ (HR.out.below HBa.out) HC.out rfl rfl)).mono ?_
            rintro e Wb ⟨rfl, hw⟩
            have HBb : Hid (Below w.heap.size w Wb) := by rw [← hw]; exact bel_alloc HBa.out _
            have R1b : Hid (RB Wb (some ⟨gd, 0, none⟩) d4) := by rw [← hw]; exact R1a.out.alloc _
            clear hw
            go_wp2_with fail
            refine (sum1_at' SD _ _ _ d4 HSD.out.symm (RL.one _ R1b.out V1.out rfl HDL.out)).mono ?_
            rintro e Wc ⟨rfl, hw⟩
            have HBc : Hid (Below w.heap.size w Wc) := by rw [← hw]; exact bel_alloc HBb.out _
            clear hw
            go_wp2_with fail
            refine (sum1_at' S0 _ _ _ b HS0.out.symm (RL.one _ (HR.out.below HBc.out) HC.out rfl rfl)).mono ?_
            rintro e Wd ⟨rfl, hw⟩
            have HBd : Hid (Below w.heap.size w Wd) := by rw [← hw]; exact bel_alloc HBc.out _
            clear hw
            go_wp2_with fail
            refine (awake_any _).mono ?_
            rintro e We ⟨rfl, hw⟩
            have HBe : Hid (Below w.heap.size w We) := bel_then HBd.out hw
            clear hw
            go_wp2
            go_ret
            exact ⟨rfl, HBe.out⟩
end Go.Proofs.Ytigpeghfhfknjaa
