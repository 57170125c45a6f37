/- The walk of CrcSums. Conditions: none. -/
import Derived.Test.YtigpeghfhfknjaaAwake
namespace Go.Proofs.Ytigpeghfhfknjaa
set_option linter.unusedVariables false
set_option linter.unusedSimpArgs false
open Go.RowKit

theorem info5 : (Try.prog.info? 5).map (fun i => (i.zero, i.size, i.bytes)) = some (some (.int .u8 0), 1, 1) := by kernel_rfl

theorem more_at (n : Nat) (s : Nat) (hs : s < 2 ^ 32) (A : Option Addr) (c : Nat) (bs : List UInt8) (w : World) (hr : RB w A bs) (h : Crc.more s bs = n) :
    Calls Try.prog 9 #[.int .u32 (s : Int), .slice A bs.length c] w fun e w' => e = .returned (.int .u32 (n : Nat)) ∧ w = w' := by subst h; exact more_any s hs A c bs w hr
theorem refmore_at (n : Nat) (s : Nat) (hs : s < 2 ^ 32) (A : Option Addr) (c : Nat) (bs : List UInt8) (w : World) (hr : RB w A bs) (h : Crc.reg s bs = n) :
    Calls Try.prog 11 #[.int .u32 (s : Int), .slice A bs.length c] w fun e w' => e = .returned (.int .u32 (n : Nat)) ∧ w = w' := by subst h; exact refmore_any s hs A c bs w hr
theorem refsum_at (n : Nat) (A : Option Addr) (c : Nat) (bs : List UInt8) (w : World) (hr : RB w A bs) (h : Crc.sum bs = n) :
    Calls Try.prog 10 #[.slice A bs.length c] w fun e w' => e = .returned (.int .u32 (n : Nat)) ∧ w = w' := by subst h; exact refsum_any A c bs w hr
theorem same_at (q : Bool) (s : Nat) (A : Option Addr) (c : Nat) (bs : List UInt8) (w : World) (hr : RB w A bs) (hc : SV A bs.length c) (h : (s == Crc.sum bs) = q) :
    Calls Try.prog 12 #[.int .u32 (s : Int), .slice A bs.length c] w fun e w' => e = .returned (.bool q) ∧ Below w.heap.size w w' := by
  refine (same_any s A c bs w hr hc).mono ?_
  rintro e w' ⟨rfl, hb⟩
  refine ⟨?_, hb⟩
  have e : ((s : Int) == (Crc.sum bs : Nat)) = (s == Crc.sum bs) := by
    rw [Bool.eq_iff_iff]
    simp only [beq_iff_eq]
    omega
  rw [e, h]

set_option maxHeartbeats 2000000 in
theorem sums_main (A : Option Addr) (c : Nat) (ls : List (List UInt8)) (s : Nat) (hs : s < 2 ^ 32) (B : Option Addr) (cb : Nat) (b : List UInt8) (w : World) (hr : RL w A ls) (hb : RB w B b) (hcb : SV B b.length cb) (hc : SV A ls.length c) :
    Calls Try.prog 3 #[.slice A ls.length c, .int .u32 (s : Int), .slice B b.length cb] w fun e w' => e = .returned (.bool true) ∧ Below w.heap.size w w' := by
  have HR := Lib.hid hr
  have HB := Lib.hid hb
  have HCB := Lib.hid hcb
  have HC := Lib.hid hc
  have HS := Lib.hid hs
  have hl := hr.len
  have hbl := hb.len
  clear hr hb hcb hc hs
  go_enter Try.func3, Try.ntmps3
  go_wp2_with fail
  refine (bytes_any _ _ ls w HR.out).mono ?_
  rintro e w1 ⟨r, rfl, hW, hB1⟩
  have HW := Lib.hid hW
  have HB1 := Lib.hid hB1
  clear hW hB1
  by_cases h2 : 2000 < r
  · go_wp2_with fail
    refine (awake_any _).mono ?_
    rintro e w2 ⟨rfl, hB2⟩
    have HB2 := Lib.hid (HB1.out.trans (hB2.mono HB1.out.size))
    clear hB2
    go_wp2
    go_ret
    exact ⟨rfl, HB2.out⟩
  · by_cases h3 : 2000 < b.length
    · go_wp2_with fail
      refine (awake_any _).mono ?_
      rintro e w2 ⟨rfl, hB2⟩
      have HB2 := Lib.hid (HB1.out.trans (hB2.mono HB1.out.size))
      clear hB2
      go_wp2
      go_ret
      exact ⟨rfl, HB2.out⟩
    · go_wp2_with fail
      refine (sum_any none 0 [] _ (RL.nil _ none)).mono ?_
      rintro e w' ⟨rfl, rfl⟩
      go_wp2
      have hwt : weight ls ≤ 2000 := by have := HW.out; unfold Weighs at this; omega
      go_loopw [7, 8, 9] (fun v q i wr => ∃ (k : Nat) (x : Nat), k ≤ ls.length ∧ i = .int .i64 k ∧ q = .int .u32 (x : Int) ∧ Hid (x = (ls.take k).foldl Crc.more 0) ∧ Hid (OB wr w.heap.size 5 v (ls.take k).flatten) ∧ Hid (Below w.heap.size w wr)) (fun _ _ i _ => ls.length - (intOf i).toNat)
      case atStart => exact ⟨0, _, Nat.zero_le _, rfl, rfl, Lib.hid rfl, Lib.hid (OB.nil _ _ _), HB1⟩
      case round =>
        obtain ⟨k, x, hk, rfl, rfl, HX, HO, HBw⟩ := hrel
        by_cases hlt : k < ls.length
        · obtain ⟨ad, Ak, ck, bk, rfl, hbk, hcell0, hsv, hbb0⟩ := HR.out.at_ k hlt
          have HLT := Lib.hid (World.block_lt_of_cell? w _ hcell0)
          have hbb := hbb0.below HBw.out
          have hcell := (HBw.out.cell (World.block_lt_of_cell? w _ hcell0)).trans hcell0
          have HB0 := Lib.hid hbb0
          clear hbb0
          have HK := Lib.hid hbk
          have HV := Lib.hid hsv
          have HBB := Lib.hid hbb
          clear hbk hcell0 hsv hbb
          have hlen : (ls.take k).flatten.length + bk.length ≤ 2000 := by
            have h1 := weight_take ls k hlt
            have h2 := weight_le ls (k + 1)
            rw [← HK.out] at h1
            unfold weight at *
            omega
          have HL := Lib.hid hlen
          clear hlen
          go_wp2_with (first | (at_builtin; refine wp_app_bytes rfl _ _ 24 rfl w.heap.size 5 Try.underlying24 info5 _ _ rfl HO.out _ _ bk rfl HV.out.2 HBB.out (by have := HL.out; omega) HBw.out.size ?_; intro v1 w3 ho hg _; have hcell3 := World.grownBy.cell hg hcell (fun e => by have h1 := HO.out.base_ _ e.symm; have h2 := HLT.out; omega); have HB3 := Lib.hid (HBw.out.grown hg HBw.out.size (fun k e => HO.out.base_ k e)); have HO3 := Lib.hid ho; clear ho hg) | fail)
          refine (more_any x (by rw [HX.out]; exact foldl_lt _ (by decide) _) _ _ bk w3 (HB0.out.below HB3.out)).mono ?_
          rintro e w' ⟨rfl, rfl⟩
          go_wp2
          go_roundw
          case rel =>
            refine ⟨k + 1, _, by omega, by go_num, rfl, Lib.hid (by rw [HX.out, HK.out]; exact fold_take _ _ hlt), Lib.hid ?_, HB3⟩
            have h := HO3.out
            rw [HK.out] at h
            rw [List.take_succ_eq_append_getElem hlt, List.flatten_append]
            simpa [List.getD_eq_getElem?_getD, List.getElem?_eq_getElem hlt] using h
          case measure => simp [intOf]; omega
        · obtain rfl : k = ls.length := by omega
          have HO2 : Hid (OB wr w.heap.size 5 u7 ls.flatten) := by have h := HO.out; rw [List.take_length] at h; exact h
          have HX2 : Hid (x = Crc.sum ls.flatten) := by have h := HX.out; rw [List.take_length, Crc.foldl_more] at h; exact h
          clear HO HX
          obtain ⟨al, hal⟩ : ∃ al, al = ls.flatten := ⟨_, rfl⟩
          rw [← hal] at HO2 HX2
          have HAL := Lib.hid hal
          clear hal
          obtain ⟨A2, c2, hv, hsv, hrb⟩ := HO2.out.reads
          subst hv
          have HRB := Lib.hid hrb
          have HSV := Lib.hid hsv
          clear hrb hsv
          obtain ⟨t, ht⟩ : ∃ t, t = 4294967295 ^^^ s := ⟨_, rfl⟩
          obtain ⟨R, hR⟩ : ∃ R, R = Crc.reg t b := ⟨_, rfl⟩
          obtain ⟨M, hM⟩ : ∃ M, M = Crc.more s b := ⟨_, rfl⟩
          obtain ⟨U, hU⟩ : ∃ U, U = Crc.sum b := ⟨_, rfl⟩
          obtain ⟨q, hq⟩ : ∃ q, q = (s == U) := ⟨_, rfl⟩
          have ht2 : t < 2 ^ 32 := by rw [ht]; exact Crc.lt_of_xor (by decide) HS.out
          have hR2 : R < 2 ^ 32 := by rw [hR]; exact Crc.reg_lt ht2 _
          have r1 : bits .xor .u32 IntKind.u32.max (s : Int) = (t : Int) := by rw [ht]; exact u32_xor_nat 4294967295 s (by decide) HS.out
          have r2 : bits .xor .u32 IntKind.u32.max (R : Int) = (M : Int) := by
            refine (u32_xor_nat 4294967295 R (by decide) hR2).trans ?_
            rw [hM, hR, ht, Crc.more, Nat.xor_comm, Nat.xor_comm 4294967295 s]
          have r3 : ((U : Int) == (s : Int)) = q := by
            rw [hq, Bool.eq_iff_iff]
            simp only [beq_iff_eq]
            omega
          have HT := Lib.hid ht2
          have HRR := Lib.hid hR
          have HM := Lib.hid hM
          have HU := Lib.hid hU
          have HQ := Lib.hid hq
          clear ht ht2 hR hR2 hM hU hq
          go_wp2_with fail
          refine (refsum_at x _ _ _ wr HRB.out HX2.out.symm).mono ?_
          rintro e w' ⟨rfl, rfl⟩
          go_wp2_with fail
          refine (sum_at x _ _ ls wr (HR.out.below HBw.out) (by rw [← HAL.out]; exact HX2.out.symm)).mono ?_
          rintro e w' ⟨rfl, rfl⟩
          go_wp2_with fail
          refine (sum_at x _ _ [al] _ (RL.one _ HRB.out HSV.out rfl rfl) (by simp; exact HX2.out.symm)).mono ?_
          rintro e w4 ⟨rfl, hw4⟩
          have HB4 : Hid (Below w.heap.size w w4) := by rw [← hw4]; exact HBw.out.alloc HBw.out.size _
          clear hw4
          go_wp2_with fail
          refine (more_at M s HS.out _ _ b w4 (HB.out.below HB4.out) HM.out.symm).mono ?_
          rintro e w' ⟨rfl, rfl⟩
          go_wp2_with fail
          refine (refmore_at R t HT.out _ _ b w4 (HB.out.below HB4.out) HRR.out.symm).mono ?_
          rintro e w' ⟨rfl, rfl⟩
          go_wp2_with fail
          refine (same_at q s _ _ b w4 (HB.out.below HB4.out) HCB.out (by rw [HQ.out, HU.out])).mono ?_
          rintro e w5 ⟨rfl, hw5⟩
          have HB5 : Hid (Below w.heap.size w w5) := HB4.out.trans (hw5.mono HB4.out.size)
          clear hw5
          go_wp2_with fail
          refine (refsum_at U _ _ b w5 (HB.out.below HB5.out) HU.out.symm).mono ?_
          rintro e w' ⟨rfl, rfl⟩
          go_wp2_with fail
          refine (awake_any _).mono ?_
          rintro e w6 ⟨rfl, hw6⟩
          have HB6 : Hid (Below w.heap.size w w6) := HB5.out.trans (hw6.mono HB5.out.size)
          clear hw6
          go_wp2
          go_ret
          exact ⟨rfl, HB6.out⟩
end Go.Proofs.Ytigpeghfhfknjaa
