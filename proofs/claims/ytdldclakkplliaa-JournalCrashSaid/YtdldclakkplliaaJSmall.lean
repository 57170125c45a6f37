/- The walks of the journal's small functions: put, get, place, slices.Equal, sum. Conditions: none. -/
import Derived.Test.YtdldclakkplliaaJPlain
import Derived.Test.YtdldclakkplliaaUse
import Derived.BigQuiet
namespace Go.Proofs.Ytdldclakkplliaa
set_option linter.unusedVariables false
set_option linter.unusedSimpArgs false
open Go.RowKit

theorem bel_drewM {w W : World} (h : Below w.heap.size w W) (n : Nat) : Below w.heap.size w (W.drewN n) := ⟨h.os, h.tape, h.output, h.size, h.block⟩
theorem putN_snoc (n k : Nat) : putN n (k + 1) = putN n k ++ [UInt8.ofNat (n / 256 ^ k % 256)] := by
  induction k generalizing n with
  | zero => simp [putN]
  | succ k ih =>
    rw [putN, ih (n / 256), putN, List.cons_append, Nat.div_div_eq_div_mul, ← Nat.pow_succ']
/-- Bytes that were made anew. -/
def NewB (w : World) (k : Nat) (bs : List UInt8) (e : Ending) (w' : World) : Prop :=
  ∃ A c, e = .returned (.slice A k c) ∧ SV A k c ∧ RB w' A bs ∧ (∀ ad, A = some ad → w.heap.size ≤ ad.block) ∧ Below w.heap.size w w'
set_option maxHeartbeats 2000000 in
theorem put_any (n k : Nat) (w : World) (hn : n < 9223372036854775808) (hk : k ≤ 8) : Calls Try.prog 49 #[.int .i64 n, .int .i64 k] w (NewB w k (putN n k)) := by
  go_enter Try.func49, Try.ntmps49
  go_wp2
  go_loopw [0, 4, 6] (fun u0 u4 u6 w' => ∃ (j q : Nat), j ≤ k ∧ u6 = .int .i64 j ∧ u0 = .int .i64 q ∧ q < 9223372036854775808 ∧ Hid (q = n / 256 ^ j) ∧ Hid (OB w' w.heap.size 5 u4 (putN n j)) ∧ Hid (Below w.heap.size w w')) (fun _ _ u6 _ => k - (intOf u6).toNat)
  case atStart => exact ⟨0, n, by omega, rfl, rfl, hn, Lib.hid (by simp), Lib.hid (OB.nil _ _ _), Lib.hid (Below.refl _ _)⟩
  case round =>
    obtain ⟨j, q, hj, rfl, rfl, hq, HQ, HO, HB⟩ := hrel
    by_cases hlt : j < k
    · obtain ⟨cb, hcb⟩ : ∃ c : UInt8, c = UInt8.ofNat (q % 256) := ⟨_, rfl⟩
      obtain ⟨cn, hcn⟩ : ∃ c : Nat, c = cb.toNat := ⟨_, rfl⟩
      have hc : (q : Int) % 256 = (cn : Int) := by
        rw [hcn, hcb]
        have : (UInt8.ofNat (q % 256)).toNat = q % 256 := by simp
        rw [this]
        omega
      have HCB := Lib.hid hcb
      have HCN := Lib.hid hcn
      clear hcb hcn
      go_wp2_with (first | (at_builtin; go_loud (refine wp_app_bytes rfl _ _ 22 rfl w.heap.size 5 Try.underlying22 info5 u4 (putN n j) rfl (HO.out.below (bel_alloc (Below.refl _ _) _)) _ 1 [cb] rfl (fun e => by cases e) (RB.lit wr 5 (0, 0) [cb] (by simp) _ rfl _ (by rw [HCN.out]; rfl)) (by rw [putN_length]; simp; omega) (bel_alloc HB.out _).size ?_); intro v1 w1 ho hg _; have HO1 := Lib.hid ho; have HB1 := Lib.hid (bel_grown (bel_alloc HB.out _) hg (fun i e => HO.out.base_ i e)); clear ho hg) | fail)
      go_roundw
      case rel =>
        refine ⟨j + 1, q / 256, by omega, by go_num, int_eq (by omega), by omega, Lib.hid (by rw [HQ.out, Nat.div_div_eq_div_mul, ← Nat.pow_succ]), Lib.hid ?_, HB1⟩
        rw [putN_snoc, ← HQ.out, ← HCB.out]
        exact HO1.out
      case measure => simp [intOf]; omega
    · obtain rfl : j = k := by omega
      obtain ⟨A, c, e1, sv, rb⟩ := HO.out.reads
      have hbs := HO.out.base_
      rw [putN_length] at e1 sv
      subst e1
      go_wp2
      go_ret
      exact ⟨A, c, rfl, sv, rb, fun ad e => hbs ad.block (by rw [e]; rfl), HB.out⟩
theorem place_any (e : Nat) (w : World) (he : e ≤ 1000000000) : Calls Try.prog 53 #[.int .i64 e] w fun r w' => r = .returned (.int .i64 (placeN e)) ∧ w = w' := by
  have hm : (e : Int).tmod 64 = ((e % 64 : Nat) : Int) := by rw [Int.tmod_eq_emod_of_nonneg (by omega)]; omega
  by_cases h : 64 - e % 64 < 9
  · have HP : Hid (placeN e = e + (64 - e % 64)) := Lib.hid (by unfold placeN; rw [if_pos h])
    rw [HP.out]
    go_enter Try.func53, Try.ntmps53
    go_wp2
    go_ret
    exact ⟨ret_int (by omega), rfl⟩
  · have HP : Hid (placeN e = e) := Lib.hid (by unfold placeN; rw [if_neg h])
    rw [HP.out]
    go_enter Try.func53, Try.ntmps53
    go_wp2
    go_ret
    exact ⟨ret_int rfl, rfl⟩
set_option maxHeartbeats 2000000 in
theorem equal_any (A B : Option Addr) (ca cb : Nat) (a b : List UInt8) (w : World) (ha : RB w A a) (hb : RB w B b) :
    Calls Try.prog 69 #[.slice A a.length ca, .slice B b.length cb] w fun e w' => e = .returned (.bool (decide (a = b))) ∧ Below w.heap.size w w' := by
  have hal := ha.len
  have hbl := hb.len
  have HA := Lib.hid ha
  have HBB := Lib.hid hb
  clear ha hb
  obtain ⟨n, hn⟩ : ∃ n, n = a.length := ⟨_, rfl⟩
  obtain ⟨m, hm⟩ : ∃ m, m = b.length := ⟨_, rfl⟩
  have HN := Lib.hid hn
  have HM := Lib.hid hm
  rw [← hn] at hal ⊢
  rw [← hm] at hbl ⊢
  clear hn hm
  by_cases hnm : n = m
  · subst hnm
    go_enter Try.func69, Try.ntmps69
    go_wp2
    go_loopw [5, 13] (fun u5 u13 w' => ∃ k : Nat, k ≤ n ∧ u13 = .int .i64 k ∧ Hid (∀ i, i < k → a.getD i 0 = b.getD i 0) ∧ Hid (Below w.heap.size w w')) (fun _ u13 _ => n - (intOf u13).toNat)
    case atStart => exact ⟨0, by omega, rfl, Lib.hid (fun i hi => by omega), Lib.hid (Below.refl _ _)⟩
    case round =>
      obtain ⟨k, hk, rfl, HE, HB⟩ := hrel
      by_cases hlt : k < n
      · obtain ⟨ad, rfl, c0⟩ := (HA.out.below HB.out).at_ k (by rw [← HN.out]; exact hlt)
        obtain ⟨ad2, rfl, c1⟩ := (HBB.out.below HB.out).at_ k (by rw [← HM.out]; exact hlt)
        obtain ⟨xa, hxa⟩ : ∃ x, x = (a.getD k 0).toNat := ⟨_, rfl⟩
        obtain ⟨xb, hxb⟩ : ∃ x, x = (b.getD k 0).toNat := ⟨_, rfl⟩
        rw [← hxa] at c0
        rw [← hxb] at c1
        have HXA := Lib.hid hxa
        have HXB := Lib.hid hxb
        have b1 : (k : Int) < n := by omega
        clear hxa hxb
        go_upto_region 6 with fail
        by_cases he : xa = xb
        · obtain rfl := he
          go_quiet (fail)
          go_wp2
          go_roundw
          case rel =>
            refine ⟨k + 1, by omega, by go_num, Lib.hid fun i hi => ?_, Lib.hid (bel_drewM HB.out _)⟩
            by_cases hik : i = k
            · rw [hik]; exact UInt8.toNat_inj.1 (HXA.out.symm.trans HXB.out)
            · exact HE.out i (by omega)
          case measure => simp [intOf]; omega
        · have hne : ((xa : Int) != (xb : Int)) = true := by simp; omega
          have HF : Hid (decide (a = b) = false) := Lib.hid (by
            rw [decide_eq_false_iff_not]
            intro e
            exact he (by rw [HXA.out, HXB.out, e]))
          go_quiet (fail)
          go_wp2
          go_ret
          exact ⟨by rw [HF.out]; rfl, bel_drewM HB.out _⟩
      · obtain rfl : k = n := by omega
        have HT : Hid (decide (a = b) = true) := Lib.hid (by
          rw [decide_eq_true_iff]
          apply List.ext_getElem?
          intro i
          by_cases hi : i < k
          · have := HE.out i hi
            have h1 := HN.out
            have h2 := HM.out
            rw [List.getD_eq_getElem?_getD, List.getD_eq_getElem?_getD, List.getElem?_eq_getElem (by omega), List.getElem?_eq_getElem (by omega)] at this
            rw [List.getElem?_eq_getElem (by omega), List.getElem?_eq_getElem (by omega)]
            exact congrArg some this
          · rw [List.getElem?_eq_none (by rw [← HN.out]; omega), List.getElem?_eq_none (by rw [← HM.out]; omega)])
        go_wp2
        go_ret
        exact ⟨by rw [HT.out]; rfl, HB.out⟩
  · have HF : Hid (decide (a = b) = false) := Lib.hid (by
      rw [decide_eq_false_iff_not]
      intro e
      exact hnm (by rw [HN.out, HM.out, e]))
    have hnb : ((n : Int) != (m : Int)) = true := by simp; omega
    rw [HF.out]
    clear hnm
    go_enter Try.func69, Try.ntmps69
    go_wp2
    go_ret
    exact ⟨rfl, Below.refl _ _⟩
end Go.Proofs.Ytdldclakkplliaa
